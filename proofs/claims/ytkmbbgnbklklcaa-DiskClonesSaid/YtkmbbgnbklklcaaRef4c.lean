/-
  The document's disk: Write.
-/
import Derived.Test.YtkmbbgnbklklcaaRef4b
namespace Go.Proofs.Ytkmbbgnbklklcaa
open Go.RowKit

theorem ref4_read_v {w : World} {a1 : Option Addr} {c1 : Nat} {a2 : Option Addr} {c2 : Nat} {D : Dsk} (h1 : SRow w a1 D.n D.sure) (h2 : SRow w a2 D.n D.now) (i : Int) :
    Calls Try.prog 39 #[.agg #[.slice a1 D.n c1, .slice a2 D.n c2, .int .i64 D.rl, .bool D.dead], .int .i64 i] w fun e w' => e = .returned (.tuple #[.string (S (D.rText i)), .int .i64 (D.rErr i)]) ∧ Below w.heap.size w w' := ref4_read ⟨a1, c1, a2, c2, rfl, h1, h2⟩ i

theorem SRow.ofOwnAt {w : World} {base n cap : Nat} {ao : Option Addr} {T : Nat → List UInt8} (h : w.ownsRow base 9 1 (.slice ao n cap) n (strs T n)) (h0 : 0 < n) :
    ∃ g cur, ao = some ⟨g, 0, none⟩ ∧ w.heap[g]? = some (.cells cur 9 (0, 0)) ∧ base ≤ g ∧ ∀ i, i < n → cur[i]? = some (.string (S (T i))) := by
  rcases h.2 with ⟨hv, hn⟩ | ⟨g, c, cur, hv, h1, h2, h3, h4, h5, h6⟩
  · omega
  · cases hv
    refine ⟨g, cur, rfl, h2, h1, fun i hi => ?_⟩
    rw [← strs_get T n i hi, ← h6, List.getElem?_take, if_pos (by omega)]
    simp
theorem old4 {w : World} {b k : Nat} {x : Obj} (h : w.heap[k]? = some x) (hk : k ≠ b) (u0 u1 u2 u3 : Value) :
    ((((w.setCell ⟨b, 0, none⟩ u0).setCell ⟨b, 1, none⟩ u1).setCell ⟨b, 2, none⟩ u2).setCell ⟨b, 3, none⟩ u3).heap[k]? = some x :=
  heap_set_other (heap_set_other (heap_set_other (heap_set_other h (p := ⟨b, 0, none⟩) hk _) (p := ⟨b, 1, none⟩) hk _) (p := ⟨b, 2, none⟩) hk _) (p := ⟨b, 3, none⟩) hk _
theorem tne {w : World} {k k' : Nat} {c c' : Array Value} {t t' : TypeId} {fr fr' : Nat × Nat} (h1 : w.heap[k]? = some (.cells c t fr)) (h2 : w.heap[k']? = some (.cells c' t' fr')) (h : t ≠ t') : k ≠ k' := by
  rintro rfl
  exact h (ty_eq h1 h2)
def strLen : Value → Nat
  | .string s => s.size
  | _ => 0

set_option maxRecDepth 100000 in
theorem ref4_write_no {w : World} {v : Value} {D : Dsk} (h : RefAt w v D) (i : Int) (s : List UInt8) (c : Int) (hc : D.rErr i = c) (hc0 : c ≠ 0) :
    Calls Try.prog 38 #[v, .int .i64 i, .string (S s)] w fun e w' => ∃ v', e = .returned (.tuple #[v', .int .i64 c]) ∧ RefAt w' v' D ∧ Below w.heap.size w w' := by
  obtain ⟨a1, c1, a2, c2, rfl, h1, h2⟩ := h
  unfold rv
  go_enter Try.func38, Try.ntmps38
  go_wp2_with fail
  have hd := heap_old (heap_new w (.cells #[.slice a1 D.n c1, .slice a2 D.n c2, .int .i64 D.rl, .bool D.dead] 52)) (.cells #[.slice none 0 0, .slice none 0 0, .int .i64 0, .bool false] 52)
  have hr := heap_newk (w := w.alloc (.cells #[.slice a1 D.n c1, .slice a2 D.n c2, .int .i64 D.rl, .bool D.dead] 52)) (k := w.heap.size + 1) (.cells #[.slice none 0 0, .slice none 0 0, .int .i64 0, .bool false] 52) (by simp)
  have hz : ((w.alloc (.cells #[.slice a1 D.n c1, .slice a2 D.n c2, .int .i64 D.rl, .bool D.dead] 52)).alloc (.cells #[.slice none 0 0, .slice none 0 0, .int .i64 0, .bool false] 52)).heap.size = w.heap.size + 2 := by simp
  have hB0 : Below w.heap.size w ((w.alloc (.cells #[.slice a1 D.n c1, .slice a2 D.n c2, .int .i64 D.rl, .bool D.dead] 52)).alloc (.cells #[.slice none 0 0, .slice none 0 0, .int .i64 0, .bool false] 52)) := ((Below.refl _ _).alloc (Nat.le_refl _) _).alloc (by simp) _
  generalize (w.alloc (.cells #[.slice a1 D.n c1, .slice a2 D.n c2, .int .i64 D.rl, .bool D.dead] 52)).alloc (.cells #[.slice none 0 0, .slice none 0 0, .int .i64 0, .bool false] 52) = w0 at *
  (with_reducible refine (ref4_read_v (h1.below hB0) (h2.below hB0) i).mono ?_)
  rintro e w1 ⟨rfl, hB⟩
  have hd1 := (hB.block _ (by omega)).trans hd
  have hr1 := (hB.block _ (by omega)).trans hr
  have hB1 : Below w.heap.size w w1 := hB0.trans (hB.mono (by omega))
  have hs1 : w.heap.size + 2 ≤ w1.heap.size := by have := hB.size; omega
  rw [hc]
  have hc1 : decide (c = 0) = false := by simpa using hc0
  clear hd hr hB0 hB
  have k0 := cell_of_block hd1 0
  have k1 := cell_of_block hd1 1
  have k2 := cell_of_block hd1 2
  have k3 := cell_of_block hd1 3
  simp only [List.getElem?_toArray, List.getElem?_cons_zero, List.getElem?_cons_succ] at k0 k1 k2 k3
  have n0 := cell_of_block hr1 0
  have n1 := cell_of_block hr1 1
  have n2 := cell_of_block hr1 2
  have n3 := cell_of_block hr1 3
  have j0 := free_of_block hr1 0
  have j1 := free_of_block hr1 1
  have j2 := free_of_block hr1 2
  have j3 := free_of_block hr1 3
  simp only [List.getElem?_toArray, List.getElem?_cons_zero, List.getElem?_cons_succ] at n0 n1 n2 n3
  have Hr := hid hr1
  have HB := hid hB1
  clear hr1 hd1 hB1
  go_wp2_with fail
  have hw := set4 Hr.out (.slice a1 D.n c1) (.slice a2 D.n c2) (.int .i64 D.rl) (.bool D.dead)
  have hB2 := below4 HB.out (b := w.heap.size + 1) (by omega) (.slice a1 D.n c1) (.slice a2 D.n c2) (.int .i64 D.rl) (.bool D.dead)
  generalize ((((w1.setCell ⟨w.heap.size + 1, 0, none⟩ (.slice a1 D.n c1)).setCell ⟨w.heap.size + 1, 1, none⟩ (.slice a2 D.n c2)).setCell ⟨w.heap.size + 1, 2, none⟩ (.int .i64 D.rl)).setCell ⟨w.heap.size + 1, 3, none⟩ (.bool D.dead)) = w9 at *
  refine bodyPost_ret (v := .tuple #[.agg #[.slice a1 D.n c1, .slice a2 D.n c2, .int .i64 D.rl, .bool D.dead], .int .i64 c]) ?_ rfl ⟨_, rfl, ⟨a1, c1, a2, c2, rfl, h1.below hB2, h2.below hB2⟩, hB2⟩
  rw [results_cell_tmp rfl]
  clear h1 h2 hB2 n0 n1 n2 n3 k0 k1 k2 k3 j0 j1 j2 j3
  have n0 := cell_of_block hw 0
  have n1 := cell_of_block hw 1
  have n2 := cell_of_block hw 2
  have n3 := cell_of_block hw 3
  simp only [List.getElem?_toArray, List.getElem?_cons_zero, List.getElem?_cons_succ] at n0 n1 n2 n3
  go_simp

set_option maxRecDepth 100000 in
theorem ref4_write_big {w : World} {v : Value} {D : Dsk} (h : RefAt w v D) (i : Int) (s : List UInt8) (hc : D.rErr i = 0) (hs : 64 < s.length) :
    Calls Try.prog 38 #[v, .int .i64 i, .string (S s)] w fun e w' => ∃ v', e = .returned (.tuple #[v', .int .i64 3]) ∧ RefAt w' v' D ∧ Below w.heap.size w w' := by
  obtain ⟨a1, c1, a2, c2, rfl, h1, h2⟩ := h
  unfold rv
  have hss := S_size s
  have dl : decide ((64 : Int) < (s.length : Int)) = true := by simp; omega
  go_enter Try.func38, Try.ntmps38
  go_wp2_with fail
  have hd := heap_old (heap_new w (.cells #[.slice a1 D.n c1, .slice a2 D.n c2, .int .i64 D.rl, .bool D.dead] 52)) (.cells #[.slice none 0 0, .slice none 0 0, .int .i64 0, .bool false] 52)
  have hr := heap_newk (w := w.alloc (.cells #[.slice a1 D.n c1, .slice a2 D.n c2, .int .i64 D.rl, .bool D.dead] 52)) (k := w.heap.size + 1) (.cells #[.slice none 0 0, .slice none 0 0, .int .i64 0, .bool false] 52) (by simp)
  have hz : ((w.alloc (.cells #[.slice a1 D.n c1, .slice a2 D.n c2, .int .i64 D.rl, .bool D.dead] 52)).alloc (.cells #[.slice none 0 0, .slice none 0 0, .int .i64 0, .bool false] 52)).heap.size = w.heap.size + 2 := by simp
  have hB0 : Below w.heap.size w ((w.alloc (.cells #[.slice a1 D.n c1, .slice a2 D.n c2, .int .i64 D.rl, .bool D.dead] 52)).alloc (.cells #[.slice none 0 0, .slice none 0 0, .int .i64 0, .bool false] 52)) := ((Below.refl _ _).alloc (Nat.le_refl _) _).alloc (by simp) _
  generalize (w.alloc (.cells #[.slice a1 D.n c1, .slice a2 D.n c2, .int .i64 D.rl, .bool D.dead] 52)).alloc (.cells #[.slice none 0 0, .slice none 0 0, .int .i64 0, .bool false] 52) = w0 at *
  (with_reducible refine (ref4_read_v (h1.below hB0) (h2.below hB0) i).mono ?_)
  rintro e w1 ⟨rfl, hB⟩
  have hd1 := (hB.block _ (by omega)).trans hd
  have hr1 := (hB.block _ (by omega)).trans hr
  have hB1 : Below w.heap.size w w1 := hB0.trans (hB.mono (by omega))
  have hs1 : w.heap.size + 2 ≤ w1.heap.size := by have := hB.size; omega
  rw [hc]
  clear hd hr hB0 hB hc
  have k0 := cell_of_block hd1 0
  have k1 := cell_of_block hd1 1
  have k2 := cell_of_block hd1 2
  have k3 := cell_of_block hd1 3
  simp only [List.getElem?_toArray, List.getElem?_cons_zero, List.getElem?_cons_succ] at k0 k1 k2 k3
  have n0 := cell_of_block hr1 0
  have n1 := cell_of_block hr1 1
  have n2 := cell_of_block hr1 2
  have n3 := cell_of_block hr1 3
  have j0 := free_of_block hr1 0
  have j1 := free_of_block hr1 1
  have j2 := free_of_block hr1 2
  have j3 := free_of_block hr1 3
  simp only [List.getElem?_toArray, List.getElem?_cons_zero, List.getElem?_cons_succ] at n0 n1 n2 n3
  have Hr := hid hr1
  have HB := hid hB1
  clear hr1 hd1 hB1
  go_wp2_with fail
  have hw := set4 Hr.out (.slice a1 D.n c1) (.slice a2 D.n c2) (.int .i64 D.rl) (.bool D.dead)
  have hB2 := below4 HB.out (b := w.heap.size + 1) (by omega) (.slice a1 D.n c1) (.slice a2 D.n c2) (.int .i64 D.rl) (.bool D.dead)
  generalize ((((w1.setCell ⟨w.heap.size + 1, 0, none⟩ (.slice a1 D.n c1)).setCell ⟨w.heap.size + 1, 1, none⟩ (.slice a2 D.n c2)).setCell ⟨w.heap.size + 1, 2, none⟩ (.int .i64 D.rl)).setCell ⟨w.heap.size + 1, 3, none⟩ (.bool D.dead)) = w9 at *
  refine bodyPost_ret (v := .tuple #[.agg #[.slice a1 D.n c1, .slice a2 D.n c2, .int .i64 D.rl, .bool D.dead], .int .i64 3]) ?_ rfl ⟨_, rfl, ⟨a1, c1, a2, c2, rfl, h1.below hB2, h2.below hB2⟩, hB2⟩
  rw [results_cell_tmp rfl]
  clear h1 h2 hB2 n0 n1 n2 n3 k0 k1 k2 k3 j0 j1 j2 j3
  have n0 := cell_of_block hw 0
  have n1 := cell_of_block hw 1
  have n2 := cell_of_block hw 2
  have n3 := cell_of_block hw 3
  simp only [List.getElem?_toArray, List.getElem?_cons_zero, List.getElem?_cons_succ] at n0 n1 n2 n3
  go_simp

set_option maxRecDepth 100000 in
theorem ref4_write_cut {w : World} {v : Value} {D : Dsk} (h : RefAt w v D) (i : Int) (s : List UInt8) (hc : D.rErr i = 0) (hs : s.length ≤ 64) (hf : ¬ D.fit) :
    Calls Try.prog 38 #[v, .int .i64 i, .string (S s)] w fun e w' => ∃ v', e = .returned (.tuple #[v', .int .i64 12]) ∧ RefAt w' v' D.cut ∧ Below w.heap.size w w' := by
  obtain ⟨a1, c1, a2, c2, rfl, h1, h2⟩ := h
  unfold rv
  have hss := S_size s
  have dl : decide ((64 : Int) < (s.length : Int)) = false := by simp; omega
  go_enter Try.func38, Try.ntmps38
  go_wp2_with fail
  have hd := heap_old (heap_new w (.cells #[.slice a1 D.n c1, .slice a2 D.n c2, .int .i64 D.rl, .bool D.dead] 52)) (.cells #[.slice none 0 0, .slice none 0 0, .int .i64 0, .bool false] 52)
  have hr := heap_newk (w := w.alloc (.cells #[.slice a1 D.n c1, .slice a2 D.n c2, .int .i64 D.rl, .bool D.dead] 52)) (k := w.heap.size + 1) (.cells #[.slice none 0 0, .slice none 0 0, .int .i64 0, .bool false] 52) (by simp)
  have hz : ((w.alloc (.cells #[.slice a1 D.n c1, .slice a2 D.n c2, .int .i64 D.rl, .bool D.dead] 52)).alloc (.cells #[.slice none 0 0, .slice none 0 0, .int .i64 0, .bool false] 52)).heap.size = w.heap.size + 2 := by simp
  have hB0 : Below w.heap.size w ((w.alloc (.cells #[.slice a1 D.n c1, .slice a2 D.n c2, .int .i64 D.rl, .bool D.dead] 52)).alloc (.cells #[.slice none 0 0, .slice none 0 0, .int .i64 0, .bool false] 52)) := ((Below.refl _ _).alloc (Nat.le_refl _) _).alloc (by simp) _
  generalize (w.alloc (.cells #[.slice a1 D.n c1, .slice a2 D.n c2, .int .i64 D.rl, .bool D.dead] 52)).alloc (.cells #[.slice none 0 0, .slice none 0 0, .int .i64 0, .bool false] 52) = w0 at *
  (with_reducible refine (ref4_read_v (h1.below hB0) (h2.below hB0) i).mono ?_)
  rintro e w1 ⟨rfl, hB⟩
  have hd1 := (hB.block _ (by omega)).trans hd
  have hr1 := (hB.block _ (by omega)).trans hr
  have hB1 : Below w.heap.size w w1 := hB0.trans (hB.mono (by omega))
  have hs1 : w.heap.size + 2 ≤ w1.heap.size := by have := hB.size; omega
  rw [hc]
  clear hd hr hB0 hB hc
  have k0 := cell_of_block hd1 0
  have k1 := cell_of_block hd1 1
  have k2 := cell_of_block hd1 2
  have k3 := cell_of_block hd1 3
  simp only [List.getElem?_toArray, List.getElem?_cons_zero, List.getElem?_cons_succ] at k0 k1 k2 k3
  have Hr := hid hr1
  have HB := hid hB1
  clear hr1 hd1 hB1
  go_wp2_with fail
  (with_reducible refine (ref4_spend_x a1 c1 a2 c2 D _ hf).mono ?_)
  rintro e w2 ⟨rfl, hB⟩
  have hr2 := heap_old ((hB.block _ (by omega)).trans Hr.out) (.cells #[.slice a1 D.n c1, .slice a2 D.n c2, .int .i64 D.rl, .bool true] 52)
  have hB2 : Below w.heap.size w (w2.alloc (.cells #[.slice a1 D.n c1, .slice a2 D.n c2, .int .i64 D.rl, .bool true] 52)) := (HB.out.trans (hB.mono (by omega))).alloc (by have := hB.size; omega) _
  clear k0 k1 k2 k3
  have n0 := cell_of_block hr2 0
  have n1 := cell_of_block hr2 1
  have n2 := cell_of_block hr2 2
  have n3 := cell_of_block hr2 3
  have j0 := free_of_block hr2 0
  have j1 := free_of_block hr2 1
  have j2 := free_of_block hr2 2
  have j3 := free_of_block hr2 3
  simp only [List.getElem?_toArray, List.getElem?_cons_zero, List.getElem?_cons_succ] at n0 n1 n2 n3
  have Hr2 := hid hr2
  have HB2 := hid hB2
  clear hr2 hB2
  go_wp2_with fail
  have hw := set4 Hr2.out (.slice a1 D.n c1) (.slice a2 D.n c2) (.int .i64 D.rl) (.bool true)
  have hB2 := below4 HB2.out (b := w.heap.size + 1) (by omega) (.slice a1 D.n c1) (.slice a2 D.n c2) (.int .i64 D.rl) (.bool true)
  generalize (((((w2.alloc (.cells #[.slice a1 D.n c1, .slice a2 D.n c2, .int .i64 D.rl, .bool true] 52)).setCell ⟨w.heap.size + 1, 0, none⟩ (.slice a1 D.n c1)).setCell ⟨w.heap.size + 1, 1, none⟩ (.slice a2 D.n c2)).setCell ⟨w.heap.size + 1, 2, none⟩ (.int .i64 D.rl)).setCell ⟨w.heap.size + 1, 3, none⟩ (.bool true)) = w9 at *
  refine bodyPost_ret (v := .tuple #[.agg #[.slice a1 D.n c1, .slice a2 D.n c2, .int .i64 D.rl, .bool true], .int .i64 12]) ?_ rfl ⟨_, rfl, ⟨a1, c1, a2, c2, rfl, h1.below hB2, h2.below hB2⟩, hB2⟩
  rw [results_cell_tmp rfl]
  clear h1 h2 hB2 n0 n1 n2 n3 j0 j1 j2 j3
  have n0 := cell_of_block hw 0
  have n1 := cell_of_block hw 1
  have n2 := cell_of_block hw 2
  have n3 := cell_of_block hw 3
  simp only [List.getElem?_toArray, List.getElem?_cons_zero, List.getElem?_cons_succ] at n0 n1 n2 n3
  go_simp

set_option maxRecDepth 100000 in
theorem ref4_write_ok {w : World} {v : Value} {D : Dsk} (h : RefAt w v D) (i : Nat) (s : List UInt8) (hc : D.rErr i = 0) (hi : i < D.n) (hs : s.length ≤ 64) (hf : D.fit) (hb : D.left ≤ 9223372036854775807) (hn : D.n ≤ 4096) :
    Calls Try.prog 38 #[v, .int .i64 i, .string (S s)] w fun e w' => ∃ v', e = .returned (.tuple #[v', .int .i64 0]) ∧ RefAt w' v' { D.less with now := upd D.now i (pad s) } ∧ Below w.heap.size w w' := by
  obtain ⟨i0, hi0, hz0, hz1, hz2⟩ := info_parts Try.infoString
  obtain ⟨a1, c1, a2, c2, rfl, h1, h2⟩ := h
  unfold rv
  have hss := S_size s
  have dl : decide ((64 : Int) < (s.length : Int)) = false := by simp; omega
  go_enter Try.func38, Try.ntmps38
  go_wp2_with fail
  have hd := heap_old (heap_new w (.cells #[.slice a1 D.n c1, .slice a2 D.n c2, .int .i64 D.rl, .bool D.dead] 52)) (.cells #[.slice none 0 0, .slice none 0 0, .int .i64 0, .bool false] 52)
  have hr := heap_newk (w := w.alloc (.cells #[.slice a1 D.n c1, .slice a2 D.n c2, .int .i64 D.rl, .bool D.dead] 52)) (k := w.heap.size + 1) (.cells #[.slice none 0 0, .slice none 0 0, .int .i64 0, .bool false] 52) (by simp)
  have hz : ((w.alloc (.cells #[.slice a1 D.n c1, .slice a2 D.n c2, .int .i64 D.rl, .bool D.dead] 52)).alloc (.cells #[.slice none 0 0, .slice none 0 0, .int .i64 0, .bool false] 52)).heap.size = w.heap.size + 2 := by simp
  have hB0 : Below w.heap.size w ((w.alloc (.cells #[.slice a1 D.n c1, .slice a2 D.n c2, .int .i64 D.rl, .bool D.dead] 52)).alloc (.cells #[.slice none 0 0, .slice none 0 0, .int .i64 0, .bool false] 52)) := ((Below.refl _ _).alloc (Nat.le_refl _) _).alloc (by simp) _
  generalize (w.alloc (.cells #[.slice a1 D.n c1, .slice a2 D.n c2, .int .i64 D.rl, .bool D.dead] 52)).alloc (.cells #[.slice none 0 0, .slice none 0 0, .int .i64 0, .bool false] 52) = w0 at *
  (with_reducible refine (ref4_read_v (h1.below hB0) (h2.below hB0) i).mono ?_)
  rintro e w1 ⟨rfl, hB⟩
  have hd1 := (hB.block _ (by omega)).trans hd
  have hr1 := (hB.block _ (by omega)).trans hr
  have hB1 : Below w.heap.size w w1 := hB0.trans (hB.mono (by omega))
  have hs1 : w.heap.size + 2 ≤ w1.heap.size := by have := hB.size; omega
  rw [hc]
  clear hd hr hB0 hB hc
  have k0 := cell_of_block hd1 0
  have k1 := cell_of_block hd1 1
  have k2 := cell_of_block hd1 2
  have k3 := cell_of_block hd1 3
  simp only [List.getElem?_toArray, List.getElem?_cons_zero, List.getElem?_cons_succ] at k0 k1 k2 k3
  have Hr := hid hr1
  have HB := hid hB1
  clear hr1 hd1 hB1
  go_wp2_with fail
  (with_reducible refine (ref4_spend_v a1 c1 a2 c2 D _ hf hb).mono ?_)
  rintro e w2 ⟨rfl, hB⟩
  have hr2 := heap_old ((hB.block _ (by omega)).trans Hr.out) (.cells #[.slice a1 D.n c1, .slice a2 D.n c2, .int .i64 D.less.rl, .bool D.dead] 52)
  have hx2 := heap_new w2 (.cells #[.slice a1 D.n c1, .slice a2 D.n c2, .int .i64 D.less.rl, .bool D.dead] 52)
  have hB2 : Below w.heap.size w (w2.alloc (.cells #[.slice a1 D.n c1, .slice a2 D.n c2, .int .i64 D.less.rl, .bool D.dead] 52)) := (HB.out.trans (hB.mono (by omega))).alloc (by have := hB.size; omega) _
  have hs2 : w.heap.size + 2 ≤ w2.heap.size := by have := hB.size; omega
  have hz2' : (w2.alloc (.cells #[.slice a1 D.n c1, .slice a2 D.n c2, .int .i64 D.less.rl, .bool D.dead] 52)).heap.size = w2.heap.size + 1 := by simp
  clear k0 k1 k2 k3 hB
  have Hr2 := hid hr2
  have Hx2 := hid hx2
  have HB2 := hid hB2
  have Hz2 := hid hz2'
  clear hr2 hx2 hB2 hz2'
  go_wp2_with fail
  change Code.wp _ _ _ _ (w2.alloc (.cells #[.slice a1 D.n c1, .slice a2 D.n c2, .int .i64 D.less.rl, .bool D.dead] 52))
  generalize w2.alloc (.cells #[.slice a1 D.n c1, .slice a2 D.n c2, .int .i64 D.less.rl, .bool D.dead] 52) = w3 at *
  go_loopw [2] (fun x wr => ∃ q : Nat, s.length + q ≤ 64 ∧ x = .string (S (s ++ List.replicate q 0)) ∧ wr = w3) (fun x _ => 64 - strLen x)
  case atStart => exact ⟨0, by omega, by simp, rfl⟩
  case round =>
    obtain ⟨q, hq, rfl, rfl⟩ := hrel
    have hsq : (s ++ List.replicate q (0 : UInt8)).length = s.length + q := by simp
    have hsz := S_size (s ++ List.replicate q 0)
    rw [hsq] at hsz
    have hn1 : s ++ List.replicate q (0 : UInt8) ++ [0] = s ++ List.replicate (q + 1) 0 := by rw [List.append_assoc, ← List.replicate_succ']
    by_cases hql : s.length + q < 64
    · have dq : decide (((s.length + q : Nat) : Int) < 64) = true := by simp; omega
      have hadd := str_add (s ++ List.replicate q 0) [0] (by rw [hsq]; omega) (by simp)
      rw [hn1] at hadd
      have hadd' : ∀ w, (Op.stringOp .add (S (s ++ List.replicate q 0)) ⟨#[0]⟩).run Try.prog w = .ok (.string (S (s ++ List.replicate (q + 1) 0))) w := hadd
      have Hl := hid (S_size (s ++ List.replicate (q + 1) (0 : UInt8)))
      generalize S (s ++ List.replicate q 0) = x0 at *
      clear hn1 hsq hadd
      go_wp2_with fail
      refine ⟨⟨q + 1, by omega, rfl, by first | rfl | trivial⟩, ?_⟩
      show 64 - (S (s ++ List.replicate (q + 1) 0)).size < 64 - x0.size
      rw [Hl.out, hsz, List.length_append, List.length_replicate]
      omega
    · have dq : decide (((s.length + q : Nat) : Int) < 64) = false := by simp; omega
      have hpad : s ++ List.replicate q (0 : UInt8) = pad s := by unfold pad; rw [show 64 - s.length = q from by omega]
      rw [hpad] at hsz ⊢
      have hpl := pad_length hs
      have hown : (wr.alloc (.cells #[] 9)).ownsRow (w2.heap.size + 1) 9 1 (.slice (some ⟨w2.heap.size + 1, 0, none⟩) 0 0) 0 [] := by
        have := World.ownsRow_lit (base := w2.heap.size + 1) (e := 9) (size := 1) wr #[] 0 (by rw [Hz2.out]; omega) (by decide) rfl
        rw [Hz2.out] at this
        simpa using this
      have hr3 := heap_old Hr2.out (.cells #[] 9)
      have hx3 := heap_old Hx2.out (.cells #[] 9)
      have hB3 := HB2.out.alloc (by rw [Hz2.out]; omega) (.cells #[] 9)
      have hz3 : (wr.alloc (.cells #[] 9)).heap.size = w2.heap.size + 2 := by have h := Hz2.out; simp [h]
      have hsrc := (h2.below hB3).cells
      have hzw := Hz2.out
      have kx0 := cell_of_block Hx2.out 0
      have kx1 := cell_of_block Hx2.out 1
      simp only [List.getElem?_toArray, List.getElem?_cons_zero, List.getElem?_cons_succ] at kx0 kx1
      have ky1 := cellA (lt_of_block Hx2.out) kx1 (.cells #[] 9)
      have hlen1 : 0 + D.n ≤ maxLen := by unfold maxLen; omega
      have hlen2 : (0 + D.n) * 16 ≤ 140737488355328 := by omega
      have Hown := hid hown
      have Hr3 := hid hr3
      have Hx3 := hid hx3
      have HB3 := hid hB3
      have Hz3 := hid hz3
      have Hsrc := hid hsrc
      clear hown hr3 hx3 hB3 hz3 hsrc hz hn1 hsq kx0 kx1
      go_wp2_with (at_builtin; refine wpList_append_row rfl (.tmp 40) (.tmp 42) 50 rfl (w2.heap.size + 1) 9 i0 _ 1 16 Try.underlying50 hi0 hz0 hz1 hz2 rfl (by decide) (.slice (some ⟨w2.heap.size + 1, 0, none⟩) 0 0) 0 [] (by simp [Act.eval]) Hown.out a2 D.n c2 (strs D.now D.n) (by simp [Act.eval]) (by rw [strs_length, Nat.mul_one]) Hsrc.out (strs_one _ _) hlen1 hlen2 (by rw [Hz3.out]; omega) ?_; intro ao5 cap5 w5 hown5 hgrow5; have hx5 := (hgrow5.block w2.heap.size (by rw [Hz3.out]; omega) (by simp [Value.ownBlock])).trans Hx3.out; have hr5 := (hgrow5.block (w.heap.size + 1) (by rw [Hz3.out]; omega) (by simp [Value.ownBlock]; omega)).trans Hr3.out; rw [Nat.zero_add, List.nil_append] at hown5; obtain ⟨g5, cur5, ha5, hg5, hb5, hc5⟩ := SRow.ofOwnAt hown5 (by omega); subst ha5; have k0 := cell_of_block hx5 0; have k1 := cell_of_block hx5 1; have k2 := cell_of_block hx5 2; have k3 := cell_of_block hx5 3; have f1 := free_of_block hx5 1; have n0 := cell_of_block hr5 0; have n1 := cell_of_block hr5 1; have n2 := cell_of_block hr5 2; have n3 := cell_of_block hr5 3; have j0 := free_of_block hr5 0; have j1 := free_of_block hr5 1; have j2 := free_of_block hr5 2; have j3 := free_of_block hr5 3; have m0 := cell_of_block hg5 i; rw [hc5 i hi] at m0; have m1 := free_of_block hg5 i; simp only [List.getElem?_toArray, List.getElem?_cons_zero, List.getElem?_cons_succ] at k0 k1 k2 k3 n0 n1 n2 n3; have ne5 := tne hg5 hx5 (by decide); have ne6 := tne hg5 hr5 (by decide); have HB5 := hid (HB3.out.grown hgrow5 (by rw [Hz3.out]; omega) (fun k hk => by simp [Value.ownBlock] at hk; omega)); have Hg5 := hid hg5; have Hb5 := hid hb5; have Hc5 := hid hc5; have Hx5 := hid hx5; have Hr5 := hid hr5; clear hown5 hgrow5 hx5 hr5 hg5 hc5 hb5)
      have hB6 := HB5.out.setCell (p := ⟨w2.heap.size, 1, none⟩) (by show w.heap.size ≤ w2.heap.size; omega) (.slice (some ⟨g5, 0, none⟩) D.n cap5)
      have hB7 := hB6.setCell (p := ⟨g5, i, none⟩) (by show w.heap.size ≤ g5; have := Hb5.out; omega) (.string (S (pad s)))
      have hr7 := heap_set_other (heap_set_other Hr5.out (p := ⟨w2.heap.size, 1, none⟩) (by show w.heap.size + 1 ≠ w2.heap.size; omega) (.slice (some ⟨g5, 0, none⟩) D.n cap5)) (p := ⟨g5, i, none⟩) (fun e => ne6 e.symm) (.string (S (pad s)))
      have hg7 := heap_set_same (i := i) (heap_set_other Hg5.out (p := ⟨w2.heap.size, 1, none⟩) ne5 (.slice (some ⟨g5, 0, none⟩) D.n cap5)) (.string (S (pad s)))
      have hw := set4 hr7 (.slice a1 D.n c1) (.slice (some ⟨g5, 0, none⟩) D.n cap5) (.int .i64 D.less.rl) (.bool D.dead)
      have hB8 := below4 hB7 (b := w.heap.size + 1) (by omega) (.slice a1 D.n c1) (.slice (some ⟨g5, 0, none⟩) D.n cap5) (.int .i64 D.less.rl) (.bool D.dead)
      have hg8 := old4 hg7 ne6 (.slice a1 D.n c1) (.slice (some ⟨g5, 0, none⟩) D.n cap5) (.int .i64 D.less.rl) (.bool D.dead)
      have hS : SRow ((((((w5.setCell ⟨w2.heap.size, 1, none⟩ (.slice (some ⟨g5, 0, none⟩) D.n cap5)).setCell ⟨g5, i, none⟩ (.string (S (pad s)))).setCell ⟨w.heap.size + 1, 0, none⟩ (.slice a1 D.n c1)).setCell ⟨w.heap.size + 1, 1, none⟩ (.slice (some ⟨g5, 0, none⟩) D.n cap5)).setCell ⟨w.heap.size + 1, 2, none⟩ (.int .i64 D.less.rl)).setCell ⟨w.heap.size + 1, 3, none⟩ (.bool D.dead)) (some ⟨g5, 0, none⟩) D.n (upd D.now i (pad s)) := fun _ => by
        refine ⟨g5, _, rfl, hg8, fun j hj => ?_⟩
        have hci := (Array.getElem?_eq_some_iff.1 (Hc5.out i hi)).1
        rw [Array.getElem?_setIfInBounds]
        unfold upd
        by_cases hji : j = i
        · subst hji
          rw [if_pos rfl, if_pos hci, if_pos rfl]
        · rw [if_neg (fun e => hji e.symm), if_neg hji]
          exact Hc5.out j hj
      generalize ((((((w5.setCell ⟨w2.heap.size, 1, none⟩ (.slice (some ⟨g5, 0, none⟩) D.n cap5)).setCell ⟨g5, i, none⟩ (.string (S (pad s)))).setCell ⟨w.heap.size + 1, 0, none⟩ (.slice a1 D.n c1)).setCell ⟨w.heap.size + 1, 1, none⟩ (.slice (some ⟨g5, 0, none⟩) D.n cap5)).setCell ⟨w.heap.size + 1, 2, none⟩ (.int .i64 D.less.rl)).setCell ⟨w.heap.size + 1, 3, none⟩ (.bool D.dead)) = w9 at *
      refine bodyPost_ret (v := .tuple #[.agg #[.slice a1 D.n c1, .slice (some ⟨g5, 0, none⟩) D.n cap5, .int .i64 D.less.rl, .bool D.dead], .int .i64 0]) ?_ rfl ⟨_, rfl, ⟨a1, c1, _, cap5, rfl, h1.below hB8, hS⟩, hB8⟩
      rw [results_cell_tmp rfl]
      clear h1 h2 hB8 hS hB7 hB6 hr7 hg7 hg8 n0 n1 n2 n3 k0 k1 k2 k3 j0 j1 j2 j3 m0 m1 f1
      have n0 := cell_of_block hw 0
      have n1 := cell_of_block hw 1
      have n2 := cell_of_block hw 2
      have n3 := cell_of_block hw 3
      simp only [List.getElem?_toArray, List.getElem?_cons_zero, List.getElem?_cons_succ] at n0 n1 n2 n3
      go_simp

theorem ref4_write {w : World} {v : Value} {D : Dsk} (h : RefAt w v D) (i : Int) (s : List UInt8) (hb : D.left ≤ 9223372036854775807) (hn : D.n ≤ 4096) :
    Calls Try.prog 38 #[v, .int .i64 i, .string (S s)] w fun e w' => ∃ v', e = .returned (.tuple #[v', .int .i64 (D.wErr i s)]) ∧ RefAt w' v' (D.wrote i s) ∧ Below w.heap.size w w' := by
  unfold Dsk.wErr Dsk.wrote
  by_cases hd : D.dead = true
  · rw [if_pos hd, if_pos hd]
    exact ref4_write_no h i s 12 (by unfold Dsk.rErr; rw [if_pos hd]) (by decide)
  rw [if_neg hd, if_neg hd]
  by_cases ho : D.out i
  · rw [if_pos ho, if_pos ho]
    exact ref4_write_no h i s 6 (by unfold Dsk.rErr; rw [if_neg hd, if_pos ho]) (by decide)
  rw [if_neg ho, if_neg ho]
  have hc : D.rErr i = 0 := by unfold Dsk.rErr; rw [if_neg hd, if_neg ho]
  by_cases hs : 64 < s.length
  · rw [if_pos hs, if_pos hs]
    exact ref4_write_big h i s hc hs
  rw [if_neg hs, if_neg hs]
  by_cases hf : D.fit
  · rw [if_pos hf, if_pos hf]
    unfold Dsk.out at ho
    obtain ⟨k, rfl⟩ : ∃ k : Nat, i = k := ⟨i.toNat, by omega⟩
    rw [Int.toNat_natCast]
    exact ref4_write_ok h k s hc (by omega) (by omega) hf hb hn
  · rw [if_neg hf, if_neg hf]
    exact ref4_write_cut h i s hc (by omega) hf
end Go.Proofs.Ytkmbbgnbklklcaa
