/-
  The document's disk: Sync, Write.
-/
import Derived.Test.YtkmbbgnbklklcaaRef4a
namespace Go.Proofs.Ytkmbbgnbklklcaa
open Go.RowKit

theorem Try.infoString : (Try.prog.info? 9).map (fun i => (i.zero, i.size, i.bytes)) = some (some (.string ByteArray.empty), 1, 16) := by kernel_rfl

theorem ref4_spend_v (a1 : Option Addr) (c1 : Nat) (a2 : Option Addr) (c2 : Nat) (D : Dsk) (w : World) (hf : D.fit) (hb : D.left ≤ 9223372036854775807) :
    Calls Try.prog 55 #[.agg #[.slice a1 D.n c1, .slice a2 D.n c2, .int .i64 D.rl, .bool D.dead]] w fun e w' =>
      e = .returned (.tuple #[.agg #[.slice a1 D.n c1, .slice a2 D.n c2, .int .i64 D.less.rl, .bool D.dead], .int .i64 0]) ∧ Below w.heap.size w w' := ref4_spend a1 c1 a2 c2 D w hf hb
theorem ref4_spend_x (a1 : Option Addr) (c1 : Nat) (a2 : Option Addr) (c2 : Nat) (D : Dsk) (w : World) (hf : ¬ D.fit) :
    Calls Try.prog 55 #[.agg #[.slice a1 D.n c1, .slice a2 D.n c2, .int .i64 D.rl, .bool D.dead]] w fun e w' =>
      e = .returned (.tuple #[.agg #[.slice a1 D.n c1, .slice a2 D.n c2, .int .i64 D.rl, .bool true], .int .i64 12]) ∧ Below w.heap.size w w' := ref4_spend_bad a1 c1 a2 c2 D w hf

theorem set4 {w : World} {b : Nat} {v0 v1 v2 v3 : Value} {T : TypeId} (h : w.heap[b]? = some (.cells #[v0, v1, v2, v3] T (0, 0))) (u0 u1 u2 u3 : Value) :
    ((((w.setCell ⟨b, 0, none⟩ u0).setCell ⟨b, 1, none⟩ u1).setCell ⟨b, 2, none⟩ u2).setCell ⟨b, 3, none⟩ u3).heap[b]? = some (.cells #[u0, u1, u2, u3] T (0, 0)) := by
  have := heap_set_same (i := 3) (heap_set_same (i := 2) (heap_set_same (i := 1) (heap_set_same (i := 0) h u0) u1) u2) u3
  simpa using this
theorem below4 {B : Nat} {w w0 : World} {b : Nat} (h : Below B w0 w) (hb : B ≤ b) (u0 u1 u2 u3 : Value) :
    Below B w0 ((((w.setCell ⟨b, 0, none⟩ u0).setCell ⟨b, 1, none⟩ u1).setCell ⟨b, 2, none⟩ u2).setCell ⟨b, 3, none⟩ u3) :=
  (((h.setCell (p := ⟨b, 0, none⟩) hb _).setCell (p := ⟨b, 1, none⟩) hb _).setCell (p := ⟨b, 2, none⟩) hb _).setCell (p := ⟨b, 3, none⟩) hb _

theorem ty_eq {w : World} {k : Nat} {c c' : Array Value} {t t' : TypeId} {fr fr' : Nat × Nat} (h1 : w.heap[k]? = some (.cells c t fr)) (h2 : w.heap[k]? = some (.cells c' t' fr')) : t = t' := by
  rw [h1] at h2
  injection h2 with h2
  injection h2
theorem fr4 {R : Nat → Prop} {w w0 : World} {b : Nat} (h : Fr R w0 w) (hb : R b) (u0 u1 u2 u3 : Value) :
    Fr R w0 ((((w.setCell ⟨b, 0, none⟩ u0).setCell ⟨b, 1, none⟩ u1).setCell ⟨b, 2, none⟩ u2).setCell ⟨b, 3, none⟩ u3) :=
  (((h.setCell (p := ⟨b, 0, none⟩) (fun _ => hb) _).setCell (p := ⟨b, 1, none⟩) (fun _ => hb) _).setCell (p := ⟨b, 2, none⟩) (fun _ => hb) _).setCell (p := ⟨b, 3, none⟩) (fun _ => hb) _

set_option maxRecDepth 100000 in
theorem ref4_sync_bad {w : World} {v : Value} {D : Dsk} (h : RefAt w v D) (hf : ¬ D.fit) :
    Calls Try.prog 40 #[v] w fun e w' => ∃ v', e = .returned (.tuple #[v', .int .i64 12]) ∧ RefAt w' v' D.cut ∧ Below w.heap.size w w' := by
    obtain ⟨a1, c1, a2, c2, rfl, h1, h2⟩ := h
    unfold rv
    go_enter Try.func40, Try.ntmps40
    go_wp2_with fail
    have hr := heap_newk (w := w.alloc (.cells #[.slice a1 D.n c1, .slice a2 D.n c2, .int .i64 D.rl, .bool D.dead] 52)) (k := w.heap.size + 1) (.cells #[.slice none 0 0, .slice none 0 0, .int .i64 0, .bool false] 52) (by simp)
    have hz : ((w.alloc (.cells #[.slice a1 D.n c1, .slice a2 D.n c2, .int .i64 D.rl, .bool D.dead] 52)).alloc (.cells #[.slice none 0 0, .slice none 0 0, .int .i64 0, .bool false] 52)).heap.size = w.heap.size + 2 := by simp
    have hB0 : Below w.heap.size w ((w.alloc (.cells #[.slice a1 D.n c1, .slice a2 D.n c2, .int .i64 D.rl, .bool D.dead] 52)).alloc (.cells #[.slice none 0 0, .slice none 0 0, .int .i64 0, .bool false] 52)) := ((Below.refl _ _).alloc (Nat.le_refl _) _).alloc (by simp) _
    generalize (w.alloc (.cells #[.slice a1 D.n c1, .slice a2 D.n c2, .int .i64 D.rl, .bool D.dead] 52)).alloc (.cells #[.slice none 0 0, .slice none 0 0, .int .i64 0, .bool false] 52) = w0 at *
    (with_reducible refine (ref4_spend_x a1 c1 a2 c2 D _ hf).mono ?_)
    rintro e w1 ⟨rfl, hB⟩
    have hr1 := heap_old ((hB.block _ (by omega)).trans hr) (.cells #[.slice a1 D.n c1, .slice a2 D.n c2, .int .i64 D.rl, .bool true] 52)
    have hB1 : Below w.heap.size w (w1.alloc (.cells #[.slice a1 D.n c1, .slice a2 D.n c2, .int .i64 D.rl, .bool true] 52)) := (hB0.trans (hB.mono (by omega))).alloc (by have := hB.size; omega) _
    have k0 := cell_of_block hr1 0
    have k1 := cell_of_block hr1 1
    have k2 := cell_of_block hr1 2
    have k3 := cell_of_block hr1 3
    have f0 := free_of_block hr1 0
    have f1 := free_of_block hr1 1
    have f2 := free_of_block hr1 2
    have f3 := free_of_block hr1 3
    simp only [List.getElem?_toArray, List.getElem?_cons_zero, List.getElem?_cons_succ] at k0 k1 k2 k3
    have Hr := hid hr1
    have HB := hid hB1
    clear hr hr1 hB0 hB hB1
    go_wp2_with fail
    have hw := set4 Hr.out (.slice a1 D.n c1) (.slice a2 D.n c2) (.int .i64 D.rl) (.bool true)
    have hB2 := below4 HB.out (b := w.heap.size + 1) (by omega) (.slice a1 D.n c1) (.slice a2 D.n c2) (.int .i64 D.rl) (.bool true)
    refine bodyPost_ret (v := .tuple #[.agg #[.slice a1 D.n c1, .slice a2 D.n c2, .int .i64 D.rl, .bool true], .int .i64 12]) ?_ rfl ⟨_, rfl, ⟨a1, c1, a2, c2, rfl, h1.below hB2, h2.below hB2⟩, hB2⟩
    rw [results_cell_tmp rfl]
    clear h1 h2 hB2
    generalize ((((w1.alloc (.cells #[.slice a1 D.n c1, .slice a2 D.n c2, .int .i64 D.rl, .bool true] 52)).setCell ⟨w.heap.size + 1, 0, none⟩ (.slice a1 D.n c1)).setCell ⟨w.heap.size + 1, 1, none⟩ (.slice a2 D.n c2)).setCell ⟨w.heap.size + 1, 2, none⟩ (.int .i64 D.rl)).setCell ⟨w.heap.size + 1, 3, none⟩ (.bool true) = w9 at *
    have n0 := cell_of_block hw 0
    have n1 := cell_of_block hw 1
    have n2 := cell_of_block hw 2
    have n3 := cell_of_block hw 3
    simp only [List.getElem?_toArray, List.getElem?_cons_zero, List.getElem?_cons_succ] at n0 n1 n2 n3
    clear k0 k1 k2 k3 f0 f1 f2 f3
    go_simp

set_option maxRecDepth 100000 in
theorem ref4_sync_ok {w : World} {v : Value} {D : Dsk} (h : RefAt w v D) (hf : D.fit) (hb : D.left ≤ 9223372036854775807) (hn : D.n ≤ 4096) :
    Calls Try.prog 40 #[v] w fun e w' => ∃ v', e = .returned (.tuple #[v', .int .i64 0]) ∧ RefAt w' v' { D.less with sure := fun i => if i < D.n then D.now i else D.sure i } ∧ Below w.heap.size w w' := by
    obtain ⟨i0, hi, hz0, hz1, hz2⟩ := info_parts Try.infoString
    obtain ⟨a1, c1, a2, c2, rfl, h1, h2⟩ := h
    unfold rv
    go_enter Try.func40, Try.ntmps40
    go_wp2_with fail
    have hr := heap_newk (w := w.alloc (.cells #[.slice a1 D.n c1, .slice a2 D.n c2, .int .i64 D.rl, .bool D.dead] 52)) (k := w.heap.size + 1) (.cells #[.slice none 0 0, .slice none 0 0, .int .i64 0, .bool false] 52) (by simp)
    have hz : ((w.alloc (.cells #[.slice a1 D.n c1, .slice a2 D.n c2, .int .i64 D.rl, .bool D.dead] 52)).alloc (.cells #[.slice none 0 0, .slice none 0 0, .int .i64 0, .bool false] 52)).heap.size = w.heap.size + 2 := by simp
    have hB0 : Below w.heap.size w ((w.alloc (.cells #[.slice a1 D.n c1, .slice a2 D.n c2, .int .i64 D.rl, .bool D.dead] 52)).alloc (.cells #[.slice none 0 0, .slice none 0 0, .int .i64 0, .bool false] 52)) := ((Below.refl _ _).alloc (Nat.le_refl _) _).alloc (by simp) _
    generalize (w.alloc (.cells #[.slice a1 D.n c1, .slice a2 D.n c2, .int .i64 D.rl, .bool D.dead] 52)).alloc (.cells #[.slice none 0 0, .slice none 0 0, .int .i64 0, .bool false] 52) = w0 at *
    (with_reducible refine (ref4_spend_v a1 c1 a2 c2 D _ hf hb).mono ?_)
    rintro e w1 ⟨rfl, hB⟩
    have hr1 := heap_old ((hB.block _ (by omega)).trans hr) (.cells #[.slice a1 D.n c1, .slice a2 D.n c2, .int .i64 D.less.rl, .bool D.dead] 52)
    have hx1 := heap_new w1 (.cells #[.slice a1 D.n c1, .slice a2 D.n c2, .int .i64 D.less.rl, .bool D.dead] 52)
    have hz1' : (w1.alloc (.cells #[.slice a1 D.n c1, .slice a2 D.n c2, .int .i64 D.less.rl, .bool D.dead] 52)).heap.size = w1.heap.size + 1 := by simp
    have hB1 : Below w.heap.size w (w1.alloc (.cells #[.slice a1 D.n c1, .slice a2 D.n c2, .int .i64 D.less.rl, .bool D.dead] 52)) := (hB0.trans (hB.mono (by omega))).alloc (by have := hB.size; omega) _
    have hle : w.heap.size + 2 ≤ w1.heap.size := by have := hB.size; omega
    have hown : ((w1.alloc (.cells #[.slice a1 D.n c1, .slice a2 D.n c2, .int .i64 D.less.rl, .bool D.dead] 52)).alloc (.cells #[] 9)).ownsRow (w1.heap.size + 1) 9 1 (.slice (some ⟨w1.heap.size + 1, 0, none⟩) 0 0) 0 [] := by
      have := World.ownsRow_lit (base := w1.heap.size + 1) (e := 9) (size := 1) (w1.alloc (.cells #[.slice a1 D.n c1, .slice a2 D.n c2, .int .i64 D.less.rl, .bool D.dead] 52)) #[] 0 (by simp) (by decide) rfl
      simpa using this
    have hr2 := heap_old hr1 (.cells #[] 9)
    have hx2 := heap_old hx1 (.cells #[] 9)
    have hB2 := hB1.alloc (by omega) (.cells #[] 9)
    have hz2' : ((w1.alloc (.cells #[.slice a1 D.n c1, .slice a2 D.n c2, .int .i64 D.less.rl, .bool D.dead] 52)).alloc (.cells #[] 9)).heap.size = w1.heap.size + 2 := by simp
    have hsrc := (h2.below hB2).cells
    have hlen1 : 0 + D.n ≤ maxLen := by unfold maxLen; omega
    have hlen2 : (0 + D.n) * 16 ≤ 140737488355328 := by omega
    have Hown := hid hown
    have Hr := hid hr2
    have Hx := hid hx2
    have HB := hid hB2
    have Hz := hid hz2'
    have Hsrc := hid hsrc
    clear hown hr hr1 hr2 hx1 hx2 hB0 hB hB1 hB2 hz2' hz1' hsrc hz
    go_wp2_with (at_builtin; refine wpList_append_row rfl (.tmp 13) (.tmp 15) 50 rfl (w1.heap.size + 1) 9 i0 _ 1 16 Try.underlying50 hi hz0 hz1 hz2 rfl (by decide) (.slice (some ⟨w1.heap.size + 1, 0, none⟩) 0 0) 0 [] (by simp [Act.eval]) Hown.out a2 D.n c2 (strs D.now D.n) (by simp [Act.eval]) (by rw [strs_length, Nat.mul_one]) Hsrc.out (strs_one _ _) hlen1 hlen2 (by rw [Hz.out]; omega) ?_; intro ao5 cap5 w5 hown5 hgrow5; have hx5 := (hgrow5.block w1.heap.size (by rw [Hz.out]; omega) (by simp [Value.ownBlock])).trans Hx.out; have hr5 := (hgrow5.block (w.heap.size + 1) (by rw [Hz.out]; omega) (by simp [Value.ownBlock]; omega)).trans Hr.out; have k0 := cell_of_block hx5 0; have k1 := cell_of_block hx5 1; have k2 := cell_of_block hx5 2; have k3 := cell_of_block hx5 3; have f0 := free_of_block hx5 0; have n0 := cell_of_block hr5 0; have n1 := cell_of_block hr5 1; have n2 := cell_of_block hr5 2; have n3 := cell_of_block hr5 3; have j0 := free_of_block hr5 0; have j1 := free_of_block hr5 1; have j2 := free_of_block hr5 2; have j3 := free_of_block hr5 3; simp only [List.getElem?_toArray, List.getElem?_cons_zero, List.getElem?_cons_succ] at k0 k1 k2 k3 n0 n1 n2 n3; rw [Nat.zero_add, List.nil_append] at hown5; have HO5 := hid hown5; have HG5 := hid hgrow5; have Hx5 := hid hx5; have Hr5 := hid hr5; clear hown5 hgrow5 hx5 hr5)
    have hB5 : Below w.heap.size w w5 := HB.out.grown HG5.out (by rw [Hz.out]; omega) (fun k hk => by simp [Value.ownBlock] at hk; omega)
    have hB6 := hB5.setCell (p := ⟨w1.heap.size, 0, none⟩) (by show w.heap.size ≤ w1.heap.size; omega) (.slice ao5 D.n cap5)
    have hF6 : Fr (fun k => k = w1.heap.size ∨ k = w.heap.size + 1) w5 (w5.setCell ⟨w1.heap.size, 0, none⟩ (.slice ao5 D.n cap5)) := (Fr.refl _ w5).setCell (p := ⟨w1.heap.size, 0, none⟩) (fun _ => .inl rfl) _
    have hr6 := heap_set_other Hr5.out (p := ⟨w1.heap.size, 0, none⟩) (by show w.heap.size + 1 ≠ w1.heap.size; omega) (.slice ao5 D.n cap5)
    have hw := set4 hr6 (.slice ao5 D.n cap5) (.slice a2 D.n c2) (.int .i64 D.less.rl) (.bool D.dead)
    have hB7 := below4 hB6 (b := w.heap.size + 1) (by omega) (.slice ao5 D.n cap5) (.slice a2 D.n c2) (.int .i64 D.less.rl) (.bool D.dead)
    have hF7 := fr4 hF6 (b := w.heap.size + 1) (.inr rfl) (.slice ao5 D.n cap5) (.slice a2 D.n c2) (.int .i64 D.less.rl) (.bool D.dead)
    have hS7 := (SRow.ofOwn HO5.out).fr hF7 (fun g c _ hg _ hR => by
      rcases hR with rfl | rfl
      · exact absurd (ty_eq hg Hx5.out) (by decide)
      · exact absurd (ty_eq hg Hr5.out) (by decide))
    have hN7 := h2.below hB7
    generalize ((((w5.setCell ⟨w1.heap.size, 0, none⟩ (.slice ao5 D.n cap5)).setCell ⟨w.heap.size + 1, 0, none⟩ (.slice ao5 D.n cap5)).setCell ⟨w.heap.size + 1, 1, none⟩ (.slice a2 D.n c2)).setCell ⟨w.heap.size + 1, 2, none⟩ (.int .i64 D.less.rl)).setCell ⟨w.heap.size + 1, 3, none⟩ (.bool D.dead) = w9 at *
    refine bodyPost_ret (v := .tuple #[.agg #[.slice ao5 D.n cap5, .slice a2 D.n c2, .int .i64 D.less.rl, .bool D.dead], .int .i64 0]) ?_ rfl ⟨_, rfl, ⟨ao5, cap5, a2, c2, rfl, hS7.congr (fun i hi => by show D.now i = if i < D.n then D.now i else D.sure i; rw [if_pos hi]), hN7⟩, hB7⟩
    rw [results_cell_tmp rfl]
    clear hS7 hN7 hB7 hB6 hF6 hF7 hB5 hr6 h1 h2
    have n0 := cell_of_block hw 0
    have n1 := cell_of_block hw 1
    have n2 := cell_of_block hw 2
    have n3 := cell_of_block hw 3
    simp only [List.getElem?_toArray, List.getElem?_cons_zero, List.getElem?_cons_succ] at n0 n1 n2 n3
    go_simp

theorem ref4_sync {w : World} {v : Value} {D : Dsk} (h : RefAt w v D) (hb : D.left ≤ 9223372036854775807) (hn : D.n ≤ 4096) :
    Calls Try.prog 40 #[v] w fun e w' => ∃ v', e = .returned (.tuple #[v', .int .i64 D.syncErr]) ∧ RefAt w' v' D.synced ∧ Below w.heap.size w w' := by
  unfold Dsk.syncErr Dsk.synced
  by_cases hf : D.dead = false ∧ (D.armed = true → 0 < D.left)
  · rw [if_pos hf, if_pos hf]
    exact ref4_sync_ok h hf hb hn
  · rw [if_neg hf, if_neg hf]
    exact ref4_sync_bad h hf
end Go.Proofs.Ytkmbbgnbklklcaa
