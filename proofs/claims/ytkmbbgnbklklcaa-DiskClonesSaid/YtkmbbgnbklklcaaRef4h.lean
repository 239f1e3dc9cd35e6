/-
  The document's disk: Spoil.
-/
import Derived.Test.YtkmbbgnbklklcaaRef4g
import Derived.Test.YtkmbbgnbklklcaaDiskG
namespace Go.Proofs.Ytkmbbgnbklklcaa
open Go.RowKit

set_option maxRecDepth 100000 in
theorem ref4_spoil_no {w : World} {v : Value} {D : Dsk} (h : RefAt w v D) (i k : Int) (c : Value) (hc : D.sErr i k ≠ 0) :
    Calls Try.prog 41 #[v, .int .i64 i, .int .i64 k, c] w fun e w' => ∃ v', e = .returned (.tuple #[v', .int .i64 (D.sErr i k)]) ∧ RefAt w' v' D ∧ Below w.heap.size w w' := by
  obtain ⟨a1, c1, a2, c2, rfl, h1, h2⟩ := h
  unfold rv
  unfold Dsk.sErr at hc ⊢
  have hB : Below w.heap.size w ((w.alloc (.cells #[.slice a1 D.n c1, .slice a2 D.n c2, .int .i64 D.rl, .bool D.dead] 52)).alloc (.cells #[.slice a1 D.n c1, .slice a2 D.n c2, .int .i64 D.rl, .bool D.dead] 52)) := ((Below.refl _ _).alloc (Nat.le_refl _) _).alloc (by simp) _
  have hB' : Below w.heap.size w ((w.alloc (.cells #[.slice a1 D.n c1, .slice a2 D.n c2, .int .i64 D.rl, .bool D.dead] 52)).alloc (.cells #[.slice a1 D.n c1, .slice a2 D.n c2, .int .i64 D.rl, .bool D.dead] 52)).drew := hB.drew
  have hb := heap_newk (w := w.alloc (.cells #[.slice a1 D.n c1, .slice a2 D.n c2, .int .i64 D.rl, .bool D.dead] 52)) (k := w.heap.size + 1) (.cells #[.slice a1 D.n c1, .slice a2 D.n c2, .int .i64 D.rl, .bool D.dead] 52) (by simp)
  have n0 := cell_of_block hb 0
  have n1 := cell_of_block hb 1
  have n2 := cell_of_block hb 2
  have n3 := cell_of_block hb 3
  simp only [List.getElem?_toArray, List.getElem?_cons_zero, List.getElem?_cons_succ] at n0 n1 n2 n3
  have Hn := hid (And.intro n0 (And.intro n1 (And.intro n2 n3)))
  clear n0 n1 n2 n3 hb
  by_cases ho : D.out i
  · rw [if_pos ho]
    unfold Dsk.out at ho
    by_cases h0 : i < 0
    case' pos =>
      have d1 : decide (i < 0) = true := by simpa using h0
      go_enter Try.func41, Try.ntmps41
      go_wp2_with fail
    case' neg =>
      have d1 : decide (i < 0) = false := by simpa using h0
      have d2 : decide ((D.n : Int) ≤ i) = true := by simp; omega
      go_enter Try.func41, Try.ntmps41
      go_wp2_with fail
    all_goals
      refine bodyPost_ret (v := .tuple #[.agg #[.slice a1 D.n c1, .slice a2 D.n c2, .int .i64 D.rl, .bool D.dead], .int .i64 6]) ?_ rfl ⟨_, rfl, by first | exact ⟨a1, c1, a2, c2, rfl, h1.below hB, h2.below hB⟩ | exact ⟨a1, c1, a2, c2, rfl, h1.below hB', h2.below hB'⟩, by first | exact hB | exact hB'⟩
      rw [results_cell_tmp rfl]
      obtain ⟨n0, n1, n2, n3⟩ := Hn.out
      go_simp
  · rw [if_neg ho] at hc ⊢
    have hk : k < 0 ∨ 64 ≤ k := by
      by_cases hk : k < 0 ∨ 64 ≤ k
      · exact hk
      · rw [if_neg hk] at hc
        exact absurd rfl hc
    rw [if_pos hk]
    unfold Dsk.out at ho
    have d1 : decide (i < 0) = false := by simp; omega
    have d2 : decide ((D.n : Int) ≤ i) = false := by simp; omega
    by_cases h0 : k < 0
    case' pos =>
      have d3 : decide (k < 0) = true := by simpa using h0
      go_enter Try.func41, Try.ntmps41
      go_wp2_with fail
    case' neg =>
      have d3 : decide (k < 0) = false := by simpa using h0
      have d4 : decide (63 < k) = true := by simp; omega
      go_enter Try.func41, Try.ntmps41
      go_wp2_with fail
    all_goals
      refine bodyPost_ret (v := .tuple #[.agg #[.slice a1 D.n c1, .slice a2 D.n c2, .int .i64 D.rl, .bool D.dead], .int .i64 4]) ?_ rfl ⟨_, rfl, by first | exact ⟨a1, c1, a2, c2, rfl, h1.below hB, h2.below hB⟩ | exact ⟨a1, c1, a2, c2, rfl, h1.below hB', h2.below hB'⟩, by first | exact hB | exact hB'⟩
      rw [results_cell_tmp rfl]
      obtain ⟨n0, n1, n2, n3⟩ := Hn.out
      go_simp

set_option maxRecDepth 100000 in
set_option maxHeartbeats 2000000 in
theorem ref4_spoil_ok {w : World} {v : Value} {D : Dsk} (h : RefAt w v D) (hn : D.n ≤ 4096) (hlen : ∀ i, i < D.n → (D.sure i).length = 64 ∧ (D.now i).length = 64) (i k : Nat) (c : UInt8) (hi : i < D.n) (hk : k < 64) :
    Calls Try.prog 41 #[v, .int .i64 i, .int .i64 k, .int .u8 (c.toNat : Int)] w fun e w' => ∃ v', e = .returned (.tuple #[v', .int .i64 0]) ∧ RefAt w' v' (D.bent2 i k c) ∧ Below w.heap.size w w' := by
  obtain ⟨i0, hi0, hz0, hz1, hz2⟩ := info_parts Try.infoString
  obtain ⟨a1, c1, a2, c2, rfl, h1, h2⟩ := h
  unfold rv
  have hlen1 : 0 + D.n ≤ maxLen := by unfold maxLen; omega
  have hlen2 : (0 + D.n) * 16 ≤ 140737488355328 := by omega
  have d1 : decide ((i : Int) < 0) = false := by simp
  have d2 : decide ((D.n : Int) ≤ (i : Int)) = false := by simp; omega
  have d3 : decide ((k : Int) < 0) = false := by simp
  have d4 : decide (63 < (k : Int)) = false := by simp; omega
  have Hlen := hid hlen
  clear hlen
  go_enter Try.func41, Try.ntmps41
  go_upto_region 5 with fail
  have hd := heap_old (heap_new w (.cells #[.slice a1 D.n c1, .slice a2 D.n c2, .int .i64 D.rl, .bool D.dead] 52)) (.cells #[.slice none 0 0, .slice none 0 0, .int .i64 0, .bool false] 52)
  have hr := heap_newk (w := w.alloc (.cells #[.slice a1 D.n c1, .slice a2 D.n c2, .int .i64 D.rl, .bool D.dead] 52)) (k := w.heap.size + 1) (.cells #[.slice none 0 0, .slice none 0 0, .int .i64 0, .bool false] 52) (by simp)
  have hB0 : Below w.heap.size w ((w.alloc (.cells #[.slice a1 D.n c1, .slice a2 D.n c2, .int .i64 D.rl, .bool D.dead] 52)).alloc (.cells #[.slice none 0 0, .slice none 0 0, .int .i64 0, .bool false] 52)) := ((Below.refl _ _).alloc (Nat.le_refl _) _).alloc (by simp) _
  have hz : ((w.alloc (.cells #[.slice a1 D.n c1, .slice a2 D.n c2, .int .i64 D.rl, .bool D.dead] 52)).alloc (.cells #[.slice none 0 0, .slice none 0 0, .int .i64 0, .bool false] 52)).heap.size = w.heap.size + 2 := by simp
  change Code.wp _ _ _ _ ((w.alloc (.cells #[.slice a1 D.n c1, .slice a2 D.n c2, .int .i64 D.rl, .bool D.dead] 52)).alloc (.cells #[.slice none 0 0, .slice none 0 0, .int .i64 0, .bool false] 52))
  generalize (w.alloc (.cells #[.slice a1 D.n c1, .slice a2 D.n c2, .int .i64 D.rl, .bool D.dead] 52)).alloc (.cells #[.slice none 0 0, .slice none 0 0, .int .i64 0, .bool false] 52) = w0 at *
  have hzw : w.heap.size + 2 ≤ w0.heap.size := by omega
  have hzw0 := hzw
  have hown5 : (w0.alloc (.cells #[] 9)).ownsRow w0.heap.size 9 1 (.slice (some ⟨w0.heap.size, 0, none⟩) 0 0) 0 [] := World.ownsRow_lit (base := w0.heap.size) (e := 9) (size := 1) w0 #[] 0 (Nat.le_refl _) (by decide) rfl
  have hd5 := heap_old hd (.cells #[] 9)
  have hr5 := heap_old hr (.cells #[] 9)
  have hB5 := hB0.alloc (by omega) (.cells #[] 9)
  have hz5 : (w0.alloc (.cells #[] 9)).heap.size = w0.heap.size + 1 := by simp
  have hsrc5 := (h2.below hB5).cells
  have k0 := cell_of_block hd 1
  simp only [List.getElem?_toArray, List.getElem?_cons_zero, List.getElem?_cons_succ] at k0
  have ky0 := cellA (lt_of_block hd) k0 (.cells #[] 9)
  have HX := hid (And.intro hown5 (And.intro hd5 (And.intro hr5 (And.intro hB5 (And.intro hsrc5 hzw)))))
  clear hown5 hd5 hr5 hB5 hsrc5 k0 hd hr hB0
  go_upto_region 6 with (at_builtin; refine wpList_append_row rfl (.tmp 27) (.tmp 29) 50 rfl w0.heap.size 9 i0 _ 1 16 Try.underlying50 hi0 hz0 hz1 hz2 rfl (by decide) (.slice (some ⟨w0.heap.size, 0, none⟩) 0 0) 0 [] (by simp [Act.eval]) HX.out.1 a2 D.n c2 (strs D.now D.n) (by simp [Act.eval]) (by rw [strs_length, Nat.mul_one]) HX.out.2.2.2.2.1 (strs_one _ _) hlen1 hlen2 (by omega) ?_; intro ao5 cap5 w5 hown5 hgrow5; have hd5 := (hgrow5.block w.heap.size (by have := HX.out.2.2.2.2.2; omega) (by have := HX.out.2.2.2.2.2; simp [Value.ownBlock]; omega)).trans HX.out.2.1; have hr5 := (hgrow5.block (w.heap.size + 1) (by have := HX.out.2.2.2.2.2; omega) (by have := HX.out.2.2.2.2.2; simp [Value.ownBlock]; omega)).trans HX.out.2.2.1; rw [Nat.zero_add, List.nil_append] at hown5; have k1 := cell_of_block hd5 1; have f1 := free_of_block hd5 1; simp only [List.getElem?_toArray, List.getElem?_cons_zero, List.getElem?_cons_succ] at k1; have HB5 := hid (HX.out.2.2.2.1.grown hgrow5 (by have := HX.out.2.2.2.2.2; omega) (fun k hk => by have := HX.out.2.2.2.2.2; simp [Value.ownBlock] at hk; omega)); have HT5 := hid (SRowB.ofOwn hown5); have HG5 := hid hgrow5; have Hd5 := hid hd5; have Hr5 := hid hr5; clear hown5 hgrow5 hd5 hr5)
  have hd := by simpa using heap_set_same (i := 1) Hd5.out (.slice ao5 D.n cap5)
  have hr := heap_set_other Hr5.out (p := ⟨w.heap.size, 1, none⟩) (by show w.heap.size + 1 ≠ w.heap.size; omega) (.slice ao5 D.n cap5)
  have hB0 := HB5.out.setCell (p := ⟨w.heap.size, 1, none⟩) (Nat.le_refl _) (.slice ao5 D.n cap5)
  have hT5 := HT5.out.fr (R := fun k => k = w.heap.size) ((Fr.refl (fun k => k = w.heap.size) w5).setCell (p := ⟨w.heap.size, 1, none⟩) (fun _ => rfl) (.slice ao5 D.n cap5)) (fun g c _ hg e => by subst e; exact absurd (ty_eq hg Hd5.out) (by decide))
  have hzw5 : w0.heap.size ≤ w5.heap.size := by have := HG5.out.size; omega
  have hzs : (w5.setCell ⟨w.heap.size, 1, none⟩ (.slice ao5 D.n cap5)).heap.size = w5.heap.size := by simp
  change Code.wp _ _ _ _ (w5.setCell ⟨w.heap.size, 1, none⟩ (.slice ao5 D.n cap5))
  generalize w5.setCell ⟨w.heap.size, 1, none⟩ (.slice ao5 D.n cap5) = w6 at *
  have HT5' := hid hT5
  have hzw6 : w.heap.size + 2 ≤ w6.heap.size := by omega
  clear k1 f1 ky0 hT5 hz HX HT5 HG5 Hd5 Hr5 HB5 hzw
  have hzw := hzw6
  have hown7 : (w6.alloc (.cells #[] 9)).ownsRow w6.heap.size 9 1 (.slice (some ⟨w6.heap.size, 0, none⟩) 0 0) 0 [] := World.ownsRow_lit (base := w6.heap.size) (e := 9) (size := 1) w6 #[] 0 (Nat.le_refl _) (by decide) rfl
  have hd7 := heap_old hd (.cells #[] 9)
  have hr7 := heap_old hr (.cells #[] 9)
  have hB7 := hB0.alloc (by omega) (.cells #[] 9)
  have hz7 : (w6.alloc (.cells #[] 9)).heap.size = w6.heap.size + 1 := by simp
  have hsrc7 := (h1.below hB7).cells
  have k0 := cell_of_block hd 0
  simp only [List.getElem?_toArray, List.getElem?_cons_zero] at k0
  have ky0 := cellA (lt_of_block hd) k0 (.cells #[] 9)
  have HX := hid (And.intro hown7 (And.intro hd7 (And.intro hr7 (And.intro hB7 (And.intro hsrc7 hzw)))))
  clear hown7 hd7 hr7 hB7 hsrc7 k0 hd hr hB0
  go_upto_region 7 with (at_builtin; refine wpList_append_row rfl (.tmp 32) (.tmp 34) 50 rfl w6.heap.size 9 i0 _ 1 16 Try.underlying50 hi0 hz0 hz1 hz2 rfl (by decide) (.slice (some ⟨w6.heap.size, 0, none⟩) 0 0) 0 [] (by simp [Act.eval]) HX.out.1 a1 D.n c1 (strs D.sure D.n) (by simp [Act.eval]) (by rw [strs_length, Nat.mul_one]) HX.out.2.2.2.2.1 (strs_one _ _) hlen1 hlen2 (by omega) ?_; intro ao7 cap7 w7 hown5 hgrow5; have hd5 := (hgrow5.block w.heap.size (by have := HX.out.2.2.2.2.2; omega) (by have := HX.out.2.2.2.2.2; simp [Value.ownBlock]; omega)).trans HX.out.2.1; have hr5 := (hgrow5.block (w.heap.size + 1) (by have := HX.out.2.2.2.2.2; omega) (by have := HX.out.2.2.2.2.2; simp [Value.ownBlock]; omega)).trans HX.out.2.2.1; rw [Nat.zero_add, List.nil_append] at hown5; have k0 := cell_of_block hd5 0; have f0 := free_of_block hd5 0; simp only [List.getElem?_toArray, List.getElem?_cons_zero] at k0; have HB5 := hid (HX.out.2.2.2.1.grown hgrow5 (by have := HX.out.2.2.2.2.2; omega) (fun k hk => by have := HX.out.2.2.2.2.2; simp [Value.ownBlock] at hk; omega)); have HT7 := hid (SRowB.ofOwn hown5); have HG7 := hid hgrow5; have Hd5 := hid hd5; have Hr5 := hid hr5; clear hown5 hgrow5 hd5 hr5)
  have hd := by simpa using heap_set_same (i := 0) Hd5.out (.slice ao7 D.n cap7)
  have hr := heap_set_other Hr5.out (p := ⟨w.heap.size, 0, none⟩) (by show w.heap.size + 1 ≠ w.heap.size; omega) (.slice ao7 D.n cap7)
  have hB0 := HB5.out.setCell (p := ⟨w.heap.size, 0, none⟩) (Nat.le_refl _) (.slice ao7 D.n cap7)
  have hFd := (Fr.refl (fun k => k = w.heap.size) w7).setCell (p := ⟨w.heap.size, 0, none⟩) (fun _ => rfl) (.slice ao7 D.n cap7)
  have hT7 := HT7.out.fr (R := fun k => k = w.heap.size) hFd (fun g c _ hg e => by subst e; exact absurd (ty_eq hg Hd5.out) (by decide))
  have hFg : Fr (fun k => k = w6.heap.size) w6 w7 := ((Fr.refl _ w6).alloc (.cells #[] 9)).trans (Fr.ofGrown HG7.out) (fun k _ hk => by simpa [Value.ownBlock] using hk)
  obtain ⟨g5, cur5, e5, hg5, hb5, hc5⟩ := HT5'.out (by omega)
  subst e5
  have hg5l := lt_of_block hg5
  have hg5' := hFd.heap (hFg.heap hg5 (by omega)) (by omega)
  obtain ⟨g7, cur7, e7, hg7, hb7, hc7⟩ := hT7 (by omega)
  subst e7
  have hsz7 : w6.heap.size ≤ w7.heap.size := hFg.size
  have hzs7 : (w7.setCell ⟨w.heap.size, 0, none⟩ (.slice (some ⟨g7, 0, none⟩) D.n cap7)).heap.size = w7.heap.size := by simp
  change Code.wp _ _ _ _ (w7.setCell ⟨w.heap.size, 0, none⟩ (.slice (some ⟨g7, 0, none⟩) D.n cap7))
  generalize w7.setCell ⟨w.heap.size, 0, none⟩ (.slice (some ⟨g7, 0, none⟩) D.n cap7) = w8 at *
  clear HT5' HX Hd5 Hr5 HB5 hFd HT7 HG7 hFg ky0 k0 f0 hT7 hg5
  have q0 := cell_of_block hd 1
  have q1 := cell_of_block hg5' i
  have q2 := free_of_block hg5' i
  rw [hc5 i hi] at q1
  simp only [List.getElem?_toArray, List.getElem?_cons_zero, List.getElem?_cons_succ] at q0
  have Hc := hid (ref4_bent (D.now i) k c w8.drew (by have := (Hlen.out i hi).2; omega) (by have := (Hlen.out i hi).2; omega))
  have hdl := lt_of_block hd
  have hgl := lt_of_block hg5'
  go_region_law (first
    | (go_simp; go_at_call 56; (with_reducible refine Hc.out.mono ?_); rintro e w9 ⟨rfl, hB9⟩; have r0 := (hB9.cell (p := ⟨w.heap.size, 1, none⟩) hdl).trans q0; have r1 := (hB9.cell (p := ⟨g5, i, none⟩) hgl).trans q1; have r2 := (hB9.frozen (p := ⟨g5, i, none⟩) hgl).trans q2; have HB9 := hid hB9; clear hB9))
  all_goals
    go_upto_region 8 with fail
    have hF9 : Fr (fun k => k = g5) w8 w9 := (((Fr.refl (fun _ => False) w8).drew).trans (Fr.ofBelow HB9.out (fun _ => False)) (fun _ _ h => h)).mono (fun _ _ h => h.elim)
    have hg9 := heap_set_same (i := i) ((HB9.out.block g5 hgl).trans hg5') (.string (S (bend (D.now i) k c)))
    have hF10 := hF9.setCell (p := ⟨g5, i, none⟩) (fun _ => rfl) (.string (S (bend (D.now i) k c)))
    have hB10 : Below w.heap.size w (w9.setCell ⟨g5, i, none⟩ (.string (S (bend (D.now i) k c)))) := hB0.trans (hF10.below (by omega) (fun k hk e => by omega))
    change Code.wp _ _ _ _ (w9.setCell ⟨g5, i, none⟩ (.string (S (bend (D.now i) k c))))
    generalize w9.setCell ⟨g5, i, none⟩ (.string (S (bend (D.now i) k c))) = w10 at *
    have hg9_ := hg9
    clear hg9
    have hc5' := row_upd (s := bend (D.now i) k c) hc5 hi
    have hd10 := hF10.heap hd (by omega)
    have hr10 := hF10.heap hr (by omega)
    have hg10 := hF10.heap hg7 (by omega)
    have hs10 := hF10.size
    clear q0 q1 q2 r0 r1 r2 hdl hgl Hc HB9 hd hr hg7 hB0 hF9 hF10 hg5' hc5
    have hd := hd10
    have hB0 := hB10
    have q0 := cell_of_block hd 0
    have q1 := cell_of_block hg10 i
    have q2 := free_of_block hg10 i
    rw [hc7 i hi] at q1
    simp only [List.getElem?_toArray, List.getElem?_cons_zero] at q0
    have Hc := hid (ref4_bent (D.sure i) k c w10.drew (by have := (Hlen.out i hi).1; omega) (by have := (Hlen.out i hi).1; omega))
    have hdl := lt_of_block hd
    have hgl := lt_of_block hg10
    go_region_law (first
      | (go_simp; go_at_call 56; (with_reducible refine Hc.out.mono ?_); rintro e w9 ⟨rfl, hB9⟩; have r0 := (hB9.cell (p := ⟨w.heap.size, 0, none⟩) hdl).trans q0; have r1 := (hB9.cell (p := ⟨g7, i, none⟩) hgl).trans q1; have r2 := (hB9.frozen (p := ⟨g7, i, none⟩) hgl).trans q2; have HB9 := hid hB9; clear hB9))
    all_goals
      go_upto_region 9 with fail
      have hF9 : Fr (fun k => k = g7) w10 w9 := (((Fr.refl (fun _ => False) w10).drew).trans (Fr.ofBelow HB9.out (fun _ => False)) (fun _ _ h => h)).mono (fun _ _ h => h.elim)
      have hg9 := heap_set_same (i := i) ((HB9.out.block g7 hgl).trans hg10) (.string (S (bend (D.sure i) k c)))
      have hF10 := hF9.setCell (p := ⟨g7, i, none⟩) (fun _ => rfl) (.string (S (bend (D.sure i) k c)))
      have hB12 : Below w.heap.size w (w9.setCell ⟨g7, i, none⟩ (.string (S (bend (D.sure i) k c)))) := hB0.trans (hF10.below (by omega) (fun k hk e => by omega))
      change Code.wp _ _ _ _ (w9.setCell ⟨g7, i, none⟩ (.string (S (bend (D.sure i) k c))))
      generalize w9.setCell ⟨g7, i, none⟩ (.string (S (bend (D.sure i) k c))) = w12 at *
      have hc7' := row_upd (s := bend (D.sure i) k c) hc7 hi
      have hd12 := hF10.heap hd (by omega)
      have hr12 := hF10.heap hr10 (by omega)
      have hg12 := hF10.heap hg9_ (by omega)
      have k0 := cell_of_block hd12 0
      have k1 := cell_of_block hd12 1
      have k2 := cell_of_block hd12 2
      have k3 := cell_of_block hd12 3
      have n0 := cell_of_block hr12 0
      have n1 := cell_of_block hr12 1
      have n2 := cell_of_block hr12 2
      have n3 := cell_of_block hr12 3
      have j0 := free_of_block hr12 0
      have j1 := free_of_block hr12 1
      have j2 := free_of_block hr12 2
      have j3 := free_of_block hr12 3
      simp only [List.getElem?_toArray, List.getElem?_cons_zero, List.getElem?_cons_succ] at k0 k1 k2 k3 n0 n1 n2 n3
      have Hr12 := hid hr12
      have Hg5 := hid hg12
      have Hg7 := hid hg9
      have HB12 := hid hB12
      clear q0 q1 q2 r0 r1 r2 hdl hgl Hc HB9 hd hd12 hr12 hr10 hg12 hg9 hB12 hg10 hd10 hF9 hF10 hB0
      go_wp2_with fail
      have hw := set4 Hr12.out (.slice (some ⟨g7, 0, none⟩) D.n cap7) (.slice (some ⟨g5, 0, none⟩) D.n cap5) (.int .i64 D.rl) (.bool D.dead)
      have hB14 := below4 HB12.out (b := w.heap.size + 1) (by omega) (.slice (some ⟨g7, 0, none⟩) D.n cap7) (.slice (some ⟨g5, 0, none⟩) D.n cap5) (.int .i64 D.rl) (.bool D.dead)
      have hg5f := old4 Hg5.out (b := w.heap.size + 1) (by omega) (.slice (some ⟨g7, 0, none⟩) D.n cap7) (.slice (some ⟨g5, 0, none⟩) D.n cap5) (.int .i64 D.rl) (.bool D.dead)
      have hg7f := old4 Hg7.out (b := w.heap.size + 1) (by omega) (.slice (some ⟨g7, 0, none⟩) D.n cap7) (.slice (some ⟨g5, 0, none⟩) D.n cap5) (.int .i64 D.rl) (.bool D.dead)
      generalize ((((w12.setCell ⟨w.heap.size + 1, 0, none⟩ (.slice (some ⟨g7, 0, none⟩) D.n cap7)).setCell ⟨w.heap.size + 1, 1, none⟩ (.slice (some ⟨g5, 0, none⟩) D.n cap5)).setCell ⟨w.heap.size + 1, 2, none⟩ (.int .i64 D.rl)).setCell ⟨w.heap.size + 1, 3, none⟩ (.bool D.dead)) = w14 at *
      refine bodyPost_ret (v := .tuple #[.agg #[.slice (some ⟨g7, 0, none⟩) D.n cap7, .slice (some ⟨g5, 0, none⟩) D.n cap5, .int .i64 D.rl, .bool D.dead], .int .i64 0]) ?_ rfl ⟨_, rfl, ⟨_, cap7, _, cap5, rfl, fun _ => ⟨g7, _, rfl, hg7f, hc7'⟩, fun _ => ⟨g5, _, rfl, hg5f, hc5'⟩⟩, hB14⟩
      rw [results_cell_tmp rfl]
      clear hB14 hg5f hg7f n0 n1 n2 n3 k0 k1 k2 k3 j0 j1 j2 j3 Hr12 Hg5 Hg7 HB12
      have n0 := cell_of_block hw 0
      have n1 := cell_of_block hw 1
      have n2 := cell_of_block hw 2
      have n3 := cell_of_block hw 3
      simp only [List.getElem?_toArray, List.getElem?_cons_zero, List.getElem?_cons_succ] at n0 n1 n2 n3
      go_simp

theorem ref4_spoil {w : World} {v : Value} {D : Dsk} (h : RefAt w v D) (hn : D.n ≤ 4096) (hlen : ∀ i, i < D.n → (D.sure i).length = 64 ∧ (D.now i).length = 64) (i k : Int) (c : UInt8) :
    Calls Try.prog 41 #[v, .int .i64 i, .int .i64 k, .int .u8 (c.toNat : Int)] w fun e w' => ∃ v', e = .returned (.tuple #[v', .int .i64 (D.sErr i k)]) ∧ RefAt w' v' (D.spoilt i k c) ∧ Below w.heap.size w w' := by
  by_cases hc : D.sErr i k = 0
  · have ho : ¬ D.out i := fun ho => by unfold Dsk.sErr at hc; rw [if_pos ho] at hc; exact absurd hc (by decide)
    have hk : ¬ (k < 0 ∨ 64 ≤ k) := fun hk => by unfold Dsk.sErr at hc; rw [if_neg ho, if_pos hk] at hc; exact absurd hc (by decide)
    rw [hc]
    unfold Dsk.spoilt
    rw [if_neg ho, if_neg hk]
    unfold Dsk.out at ho
    obtain ⟨i', rfl⟩ : ∃ m : Nat, i = m := ⟨i.toNat, by omega⟩
    obtain ⟨k', rfl⟩ : ∃ m : Nat, k = m := ⟨k.toNat, by omega⟩
    rw [Int.toNat_natCast, Int.toNat_natCast]
    exact ref4_spoil_ok h hn hlen i' k' c (by omega) (by omega)
  · have hD : D.spoilt i k c = D := by
      unfold Dsk.spoilt
      unfold Dsk.sErr at hc
      by_cases ho : D.out i
      · rw [if_pos ho]
      · rw [if_neg ho] at hc ⊢
        by_cases hk : k < 0 ∨ 64 ≤ k
        · rw [if_pos hk]
        · rw [if_neg hk] at hc
          exact absurd rfl hc
    rw [hD]
    exact ref4_spoil_no h i k _ hc
end Go.Proofs.Ytkmbbgnbklklcaa
