/-
  The document's In: Number, Done.
-/
import Derived.Test.YtkmbbgnbklklcaaDoorRef3b
namespace Go.Proofs.YtkmbbgnbklklcaaDoor
open Go.RowKit

theorem ref3_text_v (s : List UInt8) (e n : Int) (w : World) :
    Calls Tryd.prog 74 #[.agg #[.string (S s), .int .i64 e], .int .i64 n] w fun r w' => r = .returned (.tuple #[.agg #[.string (S (rtext ⟨s, e⟩ n).1.s), .int .i64 (rtext ⟨s, e⟩ n).1.e], .string (S (rtext ⟨s, e⟩ n).2)]) ∧ Below w.heap.size w w' := ref3_text ⟨s, e⟩ n w
theorem rtext_len (x : RIn) (k : Nat) : (rtext x k).2.length ≤ k := by
  unfold rtext
  repeat' split
  all_goals simp
  all_goals omega
theorem be8_lt (t : List UInt8) (ht : t.length ≤ 8) : be t < 18446744073709551616 := by
  have h1 := be_le t
  have h2 : 256 ^ t.length ≤ 256 ^ 8 := Nat.pow_le_pow_right (by decide) ht
  omega

set_option maxRecDepth 100000 in
theorem ref3_number (s : List UInt8) (e size : Int) (k : Nat) (w : World) (hk : min (max size 1) 8 = (k : Int)) :
    Calls Tryd.prog 75 #[.agg #[.string (S s), .int .i64 e], .int .i64 size] w fun r w' => r = .returned (.tuple #[.agg #[.string (S (rtext ⟨s, e⟩ k).1.s), .int .i64 (rtext ⟨s, e⟩ k).1.e], .int .u64 ((be (rtext ⟨s, e⟩ k).2 : Nat) : Int)]) ∧ Below w.heap.size w w' := by
  have hc := ref3_text_v s e k
  have ht := rtext_len ⟨s, e⟩ k
  have hk8 : k ≤ 8 := by omega
  generalize (rtext ⟨s, e⟩ k).1.s = ys at *
  generalize (rtext ⟨s, e⟩ k).1.e = ye at *
  generalize (rtext ⟨s, e⟩ k).2 = t at *
  have Hc := hid hc
  clear hc
  go_enter Tryd.func75, Tryd.ntmps75
  go_wp2_with fail
  have hr := heap_newk (w := w.alloc (.cells #[.string (S s), .int .i64 e] 28)) (k := w.heap.size + 1) (.cells #[.string ⟨#[]⟩, .int .i64 0] 28) (by simp)
  have hB0 : Below w.heap.size w ((w.alloc (.cells #[.string (S s), .int .i64 e] 28)).alloc (.cells #[.string ⟨#[]⟩, .int .i64 0] 28)) := ((Below.refl _ _).alloc (Nat.le_refl _) _).alloc (by simp) _
  have hz : ((w.alloc (.cells #[.string (S s), .int .i64 e] 28)).alloc (.cells #[.string ⟨#[]⟩, .int .i64 0] 28)).heap.size = w.heap.size + 2 := by simp
  generalize (w.alloc (.cells #[.string (S s), .int .i64 e] 28)).alloc (.cells #[.string ⟨#[]⟩, .int .i64 0] 28) = w0 at *
  (with_reducible refine (Hc.out w0).mono ?_)
  rintro r w1 ⟨rfl, hB1⟩
  have hr1 := heap_old ((hB1.block _ (by omega)).trans hr) (.cells #[.string (S ys), .int .i64 ye] 28)
  have hy1 := heap_new w1 (.cells #[.string (S ys), .int .i64 ye] 28)
  have hB2 : Below w.heap.size w (w1.alloc (.cells #[.string (S ys), .int .i64 ye] 28)) := (hB0.trans (hB1.mono (by omega))).alloc (by have := hB1.size; omega) _
  have hs1 := hB1.size
  have Hr := hid hr1
  have Hy := hid hy1
  have HB := hid hB2
  clear hr hr1 hy1 hB0 hB1 hB2 Hc
  go_wp2_with fail
  change Code.wp _ _ _ _ (w1.alloc (.cells #[.string (S ys), .int .i64 ye] 28))
  generalize w1.alloc (.cells #[.string (S ys), .int .i64 ye] 28) = w2 at *
  generalize w1.heap.size = P at *
  go_loopw [8, 9] (fun n i wr => ∃ q : Nat, q ≤ t.length ∧ i = .int .i64 q ∧ n = .int .u64 ((be (t.take q) : Nat) : Int) ∧ wr = w2) (fun _ i _ => (t.length - intOf i).toNat)
  case atStart => exact ⟨0, Nat.zero_le _, rfl, rfl, rfl⟩
  case round =>
    obtain ⟨q, hq, rfl, rfl, rfl⟩ := hrel
    have hst := S_size t
    by_cases hqt : q < t.length
    · have d1 : decide (q < t.length) = true := by simp; omega
      have hS : q < (S t).size := by rw [hst]; exact hqt
      have hget : (S t)[q]'hS = t[q]'hqt := S_get t q hS
      have hbt := be_take t q hqt
      have hlt := be_take_lt t q (by omega)
      have hc8 := (t[q]'hqt).toNat_lt
      have e1 : IntKind.u64.wrap (256 * ((be (t.take q) : Nat) : Int)) = ((256 * be (t.take q) : Nat) : Int) := by rw [IntKind.wrap_u64]; omega
      have e2 : IntKind.u64.wrap (((256 * be (t.take q) : Nat) : Int) + (((t[q]'hqt).toNat : Nat) : Int)) = ((be (t.take (q + 1)) : Nat) : Int) := by rw [IntKind.wrap_u64, hbt]; omega
      have e3 : IntKind.u64.wrap (((t[q]'hqt).toNat : Nat) : Int) = (((t[q]'hqt).toNat : Nat) : Int) := by rw [IntKind.wrap_u64]; omega
      have Hbt := hid hbt
      clear hbt
      go_wp2_with fail
      refine ⟨⟨q + 1, by omega, by go_num, ?_, by first | rfl | trivial⟩, by simp [intOf]; omega⟩
      have := Hbt.out
      congr 1
      omega
    · obtain rfl : q = t.length := by omega
      have d1 : decide (t.length < t.length) = false := by simp
      rw [List.take_length]
      have k0 := cell_of_block Hy.out 0
      have k1 := cell_of_block Hy.out 1
      have n0 := cell_of_block Hr.out 0
      have n1 := cell_of_block Hr.out 1
      have j0 := free_of_block Hr.out 0
      have j1 := free_of_block Hr.out 1
      simp only [List.getElem?_toArray, List.getElem?_cons_zero, List.getElem?_cons_succ] at k0 k1 n0 n1
      go_wp2_with fail
      have hw := heap_set_same (i := 1) (heap_set_same (i := 0) Hr.out (.string (S ys))) (.int .i64 ye)
      have hB9 := (HB.out.setCell (p := ⟨w.heap.size + 1, 0, none⟩) (by show w.heap.size ≤ w.heap.size + 1; omega) (.string (S ys))).setCell (p := ⟨w.heap.size + 1, 1, none⟩) (by show w.heap.size ≤ w.heap.size + 1; omega) (.int .i64 ye)
      generalize (wr.setCell ⟨w.heap.size + 1, 0, none⟩ (.string (S ys))).setCell ⟨w.heap.size + 1, 1, none⟩ (.int .i64 ye) = w9 at *
      refine bodyPost_ret (v := .tuple #[.agg #[.string (S ys), .int .i64 ye], .int .u64 ((be t : Nat) : Int)]) ?_ rfl ⟨rfl, hB9⟩
      rw [results_cell_tmp rfl]
      clear hB9 k0 k1 n0 n1 j0 j1
      have n0 : w9.cell? ⟨w.heap.size + 1, 0, none⟩ = some (.string (S ys)) := by have h := cell_of_block hw 0; simpa using h
      have n1 : w9.cell? ⟨w.heap.size + 1, 1, none⟩ = some (.int .i64 ye) := by have h := cell_of_block hw 1; simpa using h
      go_simp

/-- Nothing is left. -/
def rdone (x : RIn) : RIn := if x.e = 0 ∧ x.s ≠ [] then ⟨x.s, 1⟩ else x
theorem ref3_done (s : List UInt8) (e : Int) (w : World) :
    Calls Tryd.prog 78 #[.agg #[.string (S s), .int .i64 e]] w fun r w' => r = .returned (.agg #[.string (S (rdone ⟨s, e⟩).s), .int .i64 (rdone ⟨s, e⟩).e]) ∧ Below w.heap.size w w' := by
  unfold rdone
  have hfin : ∀ v : Int, Below w.heap.size w ((w.alloc (.cells #[.string (S s), .int .i64 e] 28)).alloc (.cells #[.string (S s), .int .i64 v] 28)) := fun v => ((Below.refl _ _).alloc (Nat.le_refl _) _).alloc (by simp) _
  by_cases he : e = 0
  · subst he
    by_cases hs : s = []
    · subst hs
      rw [if_neg (fun h => h.2 rfl)]
      have e0 : (S ([] : List UInt8)).toList.isEmpty = true := by rw [S_toList]; rfl
      go_enter Tryd.func78, Tryd.ntmps78
      go_wp2_with fail
      refine bodyPost_ret (v := .agg #[.string (S []), .int .i64 0]) ?_ rfl ⟨rfl, hfin 0⟩
      rw [res_cell rfl]
      have hb := heap_newk (w := w.alloc (.cells #[.string (S []), .int .i64 0] 28)) (k := w.heap.size + 1) (.cells #[.string (S []), .int .i64 0] 28) (by simp)
      have c0 := cell_of_block hb 0
      have c1 := cell_of_block hb 1
      simp only [List.getElem?_toArray, List.getElem?_cons_zero, List.getElem?_cons_succ] at c0 c1
      go_simp
    · rw [if_pos ⟨rfl, hs⟩]
      have e0 : (S s).toList.isEmpty = false := by rw [S_toList]; simpa using hs
      go_enter Tryd.func78, Tryd.ntmps78
      go_wp2_with fail
      refine bodyPost_ret (v := .agg #[.string (S s), .int .i64 1]) ?_ rfl ⟨rfl, hfin 1⟩
      rw [res_cell rfl]
      have hb := heap_newk (w := w.alloc (.cells #[.string (S s), .int .i64 0] 28)) (k := w.heap.size + 1) (.cells #[.string (S s), .int .i64 1] 28) (by simp)
      have c0 := cell_of_block hb 0
      have c1 := cell_of_block hb 1
      simp only [List.getElem?_toArray, List.getElem?_cons_zero, List.getElem?_cons_succ] at c0 c1
      go_simp
  · rw [if_neg (fun h => he h.1)]
    have d0 : decide (e = 0) = false := by simpa using he
    go_enter Tryd.func78, Tryd.ntmps78
    go_wp2_with fail
    refine bodyPost_ret (v := .agg #[.string (S s), .int .i64 e]) ?_ rfl ⟨rfl, hfin e⟩
    rw [res_cell rfl]
    have hb := heap_newk (w := w.alloc (.cells #[.string (S s), .int .i64 e] 28)) (k := w.heap.size + 1) (.cells #[.string (S s), .int .i64 e] 28) (by simp)
    have c0 := cell_of_block hb 0
    have c1 := cell_of_block hb 1
    simp only [List.getElem?_toArray, List.getElem?_cons_zero, List.getElem?_cons_succ] at c0 c1
    go_simp
end Go.Proofs.YtkmbbgnbklklcaaDoor
