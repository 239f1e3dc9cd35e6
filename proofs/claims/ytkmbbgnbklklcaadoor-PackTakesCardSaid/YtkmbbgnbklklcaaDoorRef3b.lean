/-
  The document's In: Text.
-/
import Derived.Test.YtkmbbgnbklklcaaDoorPackB
import Derived.Laws.ResultCell
namespace Go.Proofs.YtkmbbgnbklklcaaDoor
open Go.RowKit

/-- What is left, the error; the text that was taken. -/
structure RIn where
  s : List UInt8
  e : Int
def RIn.val (x : RIn) : Value := .agg #[.string (S x.s), .int .i64 x.e]
def rtext (x : RIn) (n : Int) : RIn × List UInt8 := if x.e ≠ 0 then (x, []) else if n < 0 then (⟨x.s, 4⟩, []) else if (x.s.length : Int) < n then (⟨x.s, 2⟩, []) else (⟨x.s.drop n.toNat, 0⟩, x.s.take n.toNat)

set_option maxRecDepth 100000 in
theorem ref3_text (x : RIn) (n : Int) (w : World) :
    Calls Tryd.prog 74 #[x.val, .int .i64 n] w fun e w' => e = .returned (.tuple #[(rtext x n).1.val, .string (S (rtext x n).2)]) ∧ Below w.heap.size w w' := by
  obtain ⟨s, e⟩ := x
  unfold rtext RIn.val
  have hs := S_size s
  by_cases he : e ≠ 0
  · rw [if_pos he]
    have d1 : decide (e = 0) = false := by simp; exact he
    go_enter Tryd.func74, Tryd.ntmps74
    go_wp2_with fail
    refine bodyPost_ret (v := .tuple #[.agg #[.string (S s), .int .i64 e], .string (S [])]) ?_ rfl ⟨rfl, ((Below.refl _ _).alloc (Nat.le_refl _) _).alloc (by simp) _⟩
    rw [results_cell_tmp rfl]
    have hb := heap_newk (w := w.alloc (.cells #[.string (S s), .int .i64 e] 28)) (k := w.heap.size + 1) (.cells #[.string (S s), .int .i64 e] 28) (by simp)
    have c0 := cell_of_block hb 0
    have c1 := cell_of_block hb 1
    simp only [List.getElem?_toArray, List.getElem?_cons_zero, List.getElem?_cons_succ] at c0 c1
    go_simp
    rfl
  rw [if_neg he]
  have he := Decidable.not_not.1 he
  subst he
  by_cases hn : n < 0
  · rw [if_pos hn]
    have d1 : decide (n < 0) = true := by simp; omega
    go_enter Tryd.func74, Tryd.ntmps74
    go_wp2_with fail
    refine bodyPost_ret (v := .tuple #[.agg #[.string (S s), .int .i64 4], .string (S [])]) ?_ rfl ⟨rfl, ((Below.refl _ _).alloc (Nat.le_refl _) _).alloc (by simp) _⟩
    rw [results_cell_tmp rfl]
    have hb := heap_newk (w := w.alloc (.cells #[.string (S s), .int .i64 0] 28)) (k := w.heap.size + 1) (.cells #[.string (S s), .int .i64 4] 28) (by simp)
    have c0 := cell_of_block hb 0
    have c1 := cell_of_block hb 1
    simp only [List.getElem?_toArray, List.getElem?_cons_zero, List.getElem?_cons_succ] at c0 c1
    go_simp
    rfl
  rw [if_neg hn]
  by_cases hn2 : (s.length : Int) < n
  · rw [if_pos hn2]
    have d1 : decide (n < 0) = false := by simp; omega
    have d2 : decide ((s.length : Int) < n) = true := by simp; omega
    go_enter Tryd.func74, Tryd.ntmps74
    go_wp2_with fail
    refine bodyPost_ret (v := .tuple #[.agg #[.string (S s), .int .i64 2], .string (S [])]) ?_ rfl ⟨rfl, ((Below.refl _ _).alloc (Nat.le_refl _) _).alloc (by simp) _⟩
    rw [results_cell_tmp rfl]
    have hb := heap_newk (w := w.alloc (.cells #[.string (S s), .int .i64 0] 28)) (k := w.heap.size + 1) (.cells #[.string (S s), .int .i64 2] 28) (by simp)
    have c0 := cell_of_block hb 0
    have c1 := cell_of_block hb 1
    simp only [List.getElem?_toArray, List.getElem?_cons_zero, List.getElem?_cons_succ] at c0 c1
    go_simp
    rfl
  rw [if_neg hn2]
  obtain ⟨k, rfl⟩ : ∃ k : Nat, n = k := ⟨n.toNat, by omega⟩
  have d1 : decide ((k : Int) < 0) = false := by simp
  have d2 : decide ((s.length : Int) < (k : Int)) = false := by simp; omega
  have hk : (k : Int) ≤ (s.length : Int) := by omega
  have hx1 : (S s).extract 0 k = S (s.take k) := S_take s k
  have hx2 : (S s).extract k s.length = S (s.drop k) := S_drop s k
  rw [Int.toNat_natCast]
  go_enter Tryd.func74, Tryd.ntmps74
  go_upto_region 7 with fail
  have hx := heap_old (heap_new w (.cells #[.string (S s), .int .i64 0] 28)) (.cells #[.string ByteArray.empty, .int .i64 0] 28)
  have hr := heap_newk (w := w.alloc (.cells #[.string (S s), .int .i64 0] 28)) (k := w.heap.size + 1) (.cells #[.string ByteArray.empty, .int .i64 0] 28) (by simp)
  have hB : Below w.heap.size w ((w.alloc (.cells #[.string (S s), .int .i64 0] 28)).alloc (.cells #[.string ByteArray.empty, .int .i64 0] 28)) := ((Below.refl _ _).alloc (Nat.le_refl _) _).alloc (by simp) _
  change Code.wp _ _ _ _ ((w.alloc (.cells #[.string (S s), .int .i64 0] 28)).alloc (.cells #[.string ByteArray.empty, .int .i64 0] 28))
  generalize (w.alloc (.cells #[.string (S s), .int .i64 0] 28)).alloc (.cells #[.string ByteArray.empty, .int .i64 0] 28) = w0 at *
  have x0 := cell_of_block hx 0
  have r0 := cell_of_block hr 0
  have r1 := cell_of_block hr 1
  have f0 := free_of_block hr 0
  have f1 := free_of_block hr 1
  simp only [List.getElem?_toArray, List.getElem?_cons_zero, List.getElem?_cons_succ] at x0 r0 r1
  have Hr := hid hr
  have HB := hid hB
  clear hx hr hB
  go_region_law fail
  all_goals
    go_wp2_with fail
    have hw := heap_set_same (i := 1) (heap_set_same (i := 0) Hr.out (.string (S (s.drop k)))) (.int .i64 0)
    have hB2 : Below w.heap.size w ((w0.setCell ⟨w.heap.size + 1, 0, none⟩ (.string (S (s.drop k)))).setCell ⟨w.heap.size + 1, 1, none⟩ (.int .i64 0)).drew := ((HB.out.setCell (by show w.heap.size ≤ w.heap.size + 1; omega) _).setCell (by show w.heap.size ≤ w.heap.size + 1; omega) _).drew
    refine bodyPost_ret (v := .tuple #[.agg #[.string (S (s.drop k)), .int .i64 0], .string (S (s.take k))]) ?_ rfl ⟨rfl, hB2⟩
    rw [results_cell_tmp rfl]
    generalize (w0.setCell ⟨w.heap.size + 1, 0, none⟩ (.string (S (s.drop k)))).setCell ⟨w.heap.size + 1, 1, none⟩ (.int .i64 0) = w9 at *
    have c0 : w9.drew.cell? ⟨w.heap.size + 1, 0, none⟩ = some (.string (S (s.drop k))) := by have h := cell_of_block hw 0; simpa using h
    have c1 : w9.drew.cell? ⟨w.heap.size + 1, 1, none⟩ = some (.int .i64 0) := by have h := cell_of_block hw 1; simpa using h
    go_simp
end Go.Proofs.YtkmbbgnbklklcaaDoor
