/-
  The document's In: Small, Zero.
-/
import Derived.Test.YtkmbbgnbklklcaaDoorRef3c
namespace Go.Proofs.YtkmbbgnbklklcaaDoor
open Go.RowKit

def rbad (y : RIn) (n most : Nat) : Prop := y.e = 0 ∧ (most < n ∨ 4611686018427387904 < n)
instance (y : RIn) (n most : Nat) : Decidable (rbad y n most) := inferInstanceAs (Decidable (_ ∧ _))
theorem rtext_err (x : RIn) (n : Int) (h : (rtext x n).1.e ≠ 0) : (rtext x n).2 = [] := by
  unfold rtext at h ⊢
  by_cases h1 : x.e ≠ 0
  · rw [if_pos h1]
  · rw [if_neg h1] at h ⊢
    by_cases h2 : n < 0
    · rw [if_pos h2]
    · rw [if_neg h2] at h ⊢
      by_cases h3 : (x.s.length : Int) < n
      · rw [if_pos h3]
      · rw [if_neg h3] at h
        exact absurd rfl h

set_option maxRecDepth 100000 in
theorem small_bad (s : List UInt8) (e size : Int) (most : Nat) (w : World) (ys : List UInt8) (ye : Int) (N : Nat) (hc : ∀ w, Calls Tryd.prog 75 #[.agg #[.string (S s), .int .i64 e], .int .i64 size] w fun r w' => r = .returned (.tuple #[.agg #[.string (S ys), .int .i64 ye], .int .u64 (N : Int)]) ∧ Below w.heap.size w w') (hy : ye = 0) (hb : most < N ∨ 4611686018427387904 < N) :
    Calls Tryd.prog 76 #[.agg #[.string (S s), .int .i64 e], .int .i64 size, .int .u64 (most : Int)] w fun r w' => r = .returned (.tuple #[.agg #[.string (S ys), .int .i64 3], .int .i64 0]) ∧ Below w.heap.size w w' := by
  have Hc := hid hc
  clear hc
  subst hy
  go_enter Tryd.func76, Tryd.ntmps76
  go_wp2_with fail
  have hr := heap_newk (w := w.alloc (.cells #[.string (S s), .int .i64 e] 28)) (k := w.heap.size + 1) (.cells #[.string ⟨#[]⟩, .int .i64 0] 28) (by simp)
  have hB0 : Below w.heap.size w ((w.alloc (.cells #[.string (S s), .int .i64 e] 28)).alloc (.cells #[.string ⟨#[]⟩, .int .i64 0] 28)) := ((Below.refl _ _).alloc (Nat.le_refl _) _).alloc (by simp) _
  have hz : ((w.alloc (.cells #[.string (S s), .int .i64 e] 28)).alloc (.cells #[.string ⟨#[]⟩, .int .i64 0] 28)).heap.size = w.heap.size + 2 := by simp
  generalize (w.alloc (.cells #[.string (S s), .int .i64 e] 28)).alloc (.cells #[.string ⟨#[]⟩, .int .i64 0] 28) = w0 at *
  (with_reducible refine (Hc.out w0).mono ?_)
  rintro r w1 ⟨rfl, hB1⟩
  have hr1 := heap_old ((hB1.block _ (by omega)).trans hr) (.cells #[.string (S ys), .int .i64 0] 28)
  have hy1 := heap_new w1 (.cells #[.string (S ys), .int .i64 0] 28)
  have hB2 : Below w.heap.size w (w1.alloc (.cells #[.string (S ys), .int .i64 0] 28)) := (hB0.trans (hB1.mono (by omega))).alloc (by have := hB1.size; omega) _
  have hs1 := hB1.size
  have k0 := cell_of_block hy1 0
  have k1 := cell_of_block hy1 1
  have n0 := cell_of_block hr1 0
  have n1 := cell_of_block hr1 1
  have j0 := free_of_block hr1 0
  have j1 := free_of_block hr1 1
  simp only [List.getElem?_toArray, List.getElem?_cons_zero, List.getElem?_cons_succ] at k0 k1 n0 n1
  have Hr := hid hr1
  have HB := hid hB2
  clear hr hr1 hy1 hB0 hB1 hB2 Hc
  by_cases hm : most < N
  case' pos =>
    have d1 : decide (most < N) = true := by simpa using hm
    go_upto_region 3 with fail
  case' neg =>
    have d1 : decide (most < N) = false := by simpa using hm
    have d2 : decide ((4611686018427387904 : Int) < (N : Int)) = true := by simp; omega
    go_upto_region 3 with fail
  all_goals
    go_wp2_with fail
    have hw := heap_set_same (i := 1) (heap_set_same (i := 0) Hr.out (.string (S ys))) (.int .i64 3)
    have hB9 := (HB.out.setCell (p := ⟨w.heap.size + 1, 0, none⟩) (by show w.heap.size ≤ w.heap.size + 1; omega) (.string (S ys))).setCell (p := ⟨w.heap.size + 1, 1, none⟩) (by show w.heap.size ≤ w.heap.size + 1; omega) (.int .i64 3)
    generalize ((w1.alloc (.cells #[.string (S ys), .int .i64 0] 28)).setCell ⟨w.heap.size + 1, 0, none⟩ (.string (S ys))).setCell ⟨w.heap.size + 1, 1, none⟩ (.int .i64 3) = w9 at *
    refine bodyPost_ret (v := .tuple #[.agg #[.string (S ys), .int .i64 3], .int .i64 0]) ?_ rfl ⟨rfl, hB9⟩
    rw [results_cell_tmp rfl]
    clear hB9 k0 k1 n0 n1 j0 j1
    have n0 : w9.cell? ⟨w.heap.size + 1, 0, none⟩ = some (.string (S ys)) := by have h := cell_of_block hw 0; simpa using h
    have n1 : w9.cell? ⟨w.heap.size + 1, 1, none⟩ = some (.int .i64 3) := by have h := cell_of_block hw 1; simpa using h
    go_simp
set_option maxRecDepth 100000 in
theorem small_fine (s : List UInt8) (e size : Int) (most : Nat) (w : World) (ys : List UInt8) (ye : Int) (N : Nat) (hc : ∀ w, Calls Tryd.prog 75 #[.agg #[.string (S s), .int .i64 e], .int .i64 size] w fun r w' => r = .returned (.tuple #[.agg #[.string (S ys), .int .i64 ye], .int .u64 (N : Int)]) ∧ Below w.heap.size w w') (hb : ye ≠ 0 ∨ (N ≤ most ∧ N ≤ 4611686018427387904)) (hN : N ≤ 4611686018427387904) :
    Calls Tryd.prog 76 #[.agg #[.string (S s), .int .i64 e], .int .i64 size, .int .u64 (most : Int)] w fun r w' => r = .returned (.tuple #[.agg #[.string (S ys), .int .i64 ye], .int .i64 (N : Int)]) ∧ Below w.heap.size w w' := by
  have Hc := hid hc
  clear hc
  go_enter Tryd.func76, Tryd.ntmps76
  go_wp2_with fail
  have hr := heap_newk (w := w.alloc (.cells #[.string (S s), .int .i64 e] 28)) (k := w.heap.size + 1) (.cells #[.string ⟨#[]⟩, .int .i64 0] 28) (by simp)
  have hB0 : Below w.heap.size w ((w.alloc (.cells #[.string (S s), .int .i64 e] 28)).alloc (.cells #[.string ⟨#[]⟩, .int .i64 0] 28)) := ((Below.refl _ _).alloc (Nat.le_refl _) _).alloc (by simp) _
  have hz : ((w.alloc (.cells #[.string (S s), .int .i64 e] 28)).alloc (.cells #[.string ⟨#[]⟩, .int .i64 0] 28)).heap.size = w.heap.size + 2 := by simp
  generalize (w.alloc (.cells #[.string (S s), .int .i64 e] 28)).alloc (.cells #[.string ⟨#[]⟩, .int .i64 0] 28) = w0 at *
  (with_reducible refine (Hc.out w0).mono ?_)
  rintro r w1 ⟨rfl, hB1⟩
  have hr1 := heap_old ((hB1.block _ (by omega)).trans hr) (.cells #[.string (S ys), .int .i64 ye] 28)
  have hy1 := heap_new w1 (.cells #[.string (S ys), .int .i64 ye] 28)
  have hB2 : Below w.heap.size w (w1.alloc (.cells #[.string (S ys), .int .i64 ye] 28)) := (hB0.trans (hB1.mono (by omega))).alloc (by have := hB1.size; omega) _
  have hs1 := hB1.size
  have k0 := cell_of_block hy1 0
  have k1 := cell_of_block hy1 1
  have n0 := cell_of_block hr1 0
  have n1 := cell_of_block hr1 1
  have j0 := free_of_block hr1 0
  have j1 := free_of_block hr1 1
  simp only [List.getElem?_toArray, List.getElem?_cons_zero, List.getElem?_cons_succ] at k0 k1 n0 n1
  have Hr := hid hr1
  have HB := hid hB2
  clear hr hr1 hy1 hB0 hB1 hB2 Hc
  have eN : IntKind.i64.wrap (N : Int) = (N : Int) := by rw [IntKind.wrap_i64]; omega
  by_cases hy : ye = 0
  case' pos =>
    subst hy
    have hm : N ≤ most := by rcases hb with h | h; exact absurd rfl h; exact h.1
    have d1 : decide (most < N) = false := by simp; omega
    have d2 : decide ((4611686018427387904 : Int) < (N : Int)) = false := by simp; omega
    go_upto_region 4 with fail
    go_wp2_with fail
    have hw := heap_set_same (i := 1) (heap_set_same (i := 0) Hr.out (.string (S ys))) (.int .i64 0)
    have hB9 := (HB.out.setCell (p := ⟨w.heap.size + 1, 0, none⟩) (by show w.heap.size ≤ w.heap.size + 1; omega) (.string (S ys))).setCell (p := ⟨w.heap.size + 1, 1, none⟩) (by show w.heap.size ≤ w.heap.size + 1; omega) (.int .i64 0)
    generalize ((w1.alloc (.cells #[.string (S ys), .int .i64 0] 28)).setCell ⟨w.heap.size + 1, 0, none⟩ (.string (S ys))).setCell ⟨w.heap.size + 1, 1, none⟩ (.int .i64 0) = w9 at *
    refine bodyPost_ret (v := .tuple #[.agg #[.string (S ys), .int .i64 0], .int .i64 (N : Int)]) ?_ rfl ⟨rfl, hB9⟩
    rw [results_cell_tmp rfl]
    clear hB9 k0 k1 n0 n1 j0 j1
    have n0 : w9.cell? ⟨w.heap.size + 1, 0, none⟩ = some (.string (S ys)) := by have h := cell_of_block hw 0; simpa using h
    have n1 : w9.cell? ⟨w.heap.size + 1, 1, none⟩ = some (.int .i64 0) := by have h := cell_of_block hw 1; simpa using h
    go_simp

  case' neg =>
    have d0 : decide (ye = 0) = false := by simpa using hy
    go_upto_region 4 with fail
    go_wp2_with fail
    have hw := heap_set_same (i := 1) (heap_set_same (i := 0) Hr.out (.string (S ys))) (.int .i64 ye)
    have hB9 := (HB.out.setCell (p := ⟨w.heap.size + 1, 0, none⟩) (by show w.heap.size ≤ w.heap.size + 1; omega) (.string (S ys))).setCell (p := ⟨w.heap.size + 1, 1, none⟩) (by show w.heap.size ≤ w.heap.size + 1; omega) (.int .i64 ye)
    generalize ((w1.alloc (.cells #[.string (S ys), .int .i64 ye] 28)).setCell ⟨w.heap.size + 1, 0, none⟩ (.string (S ys))).setCell ⟨w.heap.size + 1, 1, none⟩ (.int .i64 ye) = w9 at *
    refine bodyPost_ret (v := .tuple #[.agg #[.string (S ys), .int .i64 ye], .int .i64 (N : Int)]) ?_ rfl ⟨rfl, hB9⟩
    rw [results_cell_tmp rfl]
    clear hB9 k0 k1 n0 n1 j0 j1
    have n0 : w9.cell? ⟨w.heap.size + 1, 0, none⟩ = some (.string (S ys)) := by have h := cell_of_block hw 0; simpa using h
    have n1 : w9.cell? ⟨w.heap.size + 1, 1, none⟩ = some (.int .i64 ye) := by have h := cell_of_block hw 1; simpa using h
    go_simp

theorem ref3_small (s : List UInt8) (e size : Int) (k most : Nat) (w : World) (hk : min (max size 1) 8 = (k : Int)) (y : RIn) (N : Nat) (hy : (rtext ⟨s, e⟩ k).1 = y) (hN : be (rtext ⟨s, e⟩ k).2 = N) :
    Calls Tryd.prog 76 #[.agg #[.string (S s), .int .i64 e], .int .i64 size, .int .u64 (most : Int)] w fun r w' => r = .returned (.tuple #[.agg #[.string (S y.s), .int .i64 (if rbad y N most then 3 else y.e)], .int .i64 ((if rbad y N most then 0 else N : Nat) : Int)]) ∧ Below w.heap.size w w' := by
  have hc := fun w => ref3_number s e size k w hk
  have h0 : y.e ≠ 0 → N = 0 := fun h => by rw [← hN, rtext_err _ _ (by rw [hy]; exact h)]; rfl
  rw [hy, hN] at hc
  by_cases hb : rbad y N most
  · rw [if_pos hb, if_pos hb]
    exact small_bad s e size most w y.s y.e N hc hb.1 hb.2
  · rw [if_neg hb, if_neg hb]
    have h1 : y.e ≠ 0 ∨ (N ≤ most ∧ N ≤ 4611686018427387904) := by
      by_cases h : y.e = 0
      · right
        unfold rbad at hb
        refine ⟨?_, ?_⟩ <;> (apply Nat.le_of_not_lt; intro h2; exact hb ⟨h, by omega⟩)
      · exact .inl h
    refine small_fine s e size most w y.s y.e N hc h1 ?_
    rcases h1 with h | h
    · have := h0 h; omega
    · exact h.2
end Go.Proofs.YtkmbbgnbklklcaaDoor
