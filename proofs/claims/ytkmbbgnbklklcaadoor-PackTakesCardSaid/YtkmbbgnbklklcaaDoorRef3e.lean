/-
  The document's In: Zero.
-/
import Derived.Test.YtkmbbgnbklklcaaDoorRef3d
namespace Go.Proofs.YtkmbbgnbklklcaaDoor
open Go.RowKit

/-- Noughts alone. -/
def rzero (x : RIn) : RIn := if x.e ≠ 0 then x else if ∀ c ∈ x.s, c = 0 then ⟨[], 0⟩ else ⟨x.s, 1⟩

set_option maxRecDepth 100000 in
set_option maxHeartbeats 2000000 in
theorem ref3_zero (s : List UInt8) (e : Int) (w : World) (hsl : s.length ≤ 1000000) :
    Calls Tryd.prog 77 #[.agg #[.string (S s), .int .i64 e]] w fun r w' => ∃ s' e', r = .returned (.agg #[.string (S s'), .int .i64 e']) ∧ rzero ⟨s, e⟩ = ⟨s', e'⟩ ∧ Below w.heap.size w w' := by
  have hst := S_size s
  go_enter Tryd.func77, Tryd.ntmps77
  go_wp2_with fail
  have hx := heap_old (heap_new w (.cells #[.string (S s), .int .i64 e] 28)) (.cells #[.string ⟨#[]⟩, .int .i64 0] 28)
  have hr := heap_newk (w := w.alloc (.cells #[.string (S s), .int .i64 e] 28)) (k := w.heap.size + 1) (.cells #[.string ⟨#[]⟩, .int .i64 0] 28) (by simp)
  have hB0 : Below w.heap.size w ((w.alloc (.cells #[.string (S s), .int .i64 e] 28)).alloc (.cells #[.string ⟨#[]⟩, .int .i64 0] 28)) := ((Below.refl _ _).alloc (Nat.le_refl _) _).alloc (by simp) _
  change Code.wp _ _ _ _ ((w.alloc (.cells #[.string (S s), .int .i64 e] 28)).alloc (.cells #[.string ⟨#[]⟩, .int .i64 0] 28))
  generalize (w.alloc (.cells #[.string (S s), .int .i64 e] 28)).alloc (.cells #[.string ⟨#[]⟩, .int .i64 0] 28) = w0 at *
  have x0 := cell_of_block hx 0
  have x1 := cell_of_block hx 1
  have n0 := cell_of_block hr 0
  have n1 := cell_of_block hr 1
  have j0 := free_of_block hr 0
  have j1 := free_of_block hr 1
  simp only [List.getElem?_toArray, List.getElem?_cons_zero, List.getElem?_cons_succ] at x0 x1 n0 n1
  have Hr := hid hr
  have HB := hid hB0
  clear hr hB0 hx
  go_loopw [3] (fun i wr => ∃ q : Nat, q ≤ s.length ∧ i = .int .i64 q ∧ wr = w0 ∧ (∀ k (h : k < s.length), k < q → s[k] = 0) ∧ (e ≠ 0 → q = 0)) (fun i _ => (s.length - intOf i).toNat)
  case atStart => exact ⟨0, Nat.zero_le _, rfl, rfl, fun k h hk => absurd hk (Nat.not_lt_zero k), fun _ => rfl⟩
  case round =>
    obtain ⟨q, hq, rfl, rfl, h0, he0⟩ := hrel
    have Hh0 := hid h0
    have He0 := hid he0
    clear h0 he0
    by_cases he : e = 0
    · subst he
      by_cases hqs : q < s.length
      · have d1 : decide (q < s.length) = true := by simp; omega
        have hS : q < (S s).size := by rw [hst]; exact hqs
        have hget : (S s)[q]'hS = s[q]'hqs := S_get s q hS
        by_cases hz : s[q]'hqs = 0
        · have d2 : (((s[q]'hqs).toNat : Nat) : Int) = 0 := by rw [hz]; rfl
          have Hz := hid hz
          clear hz
          go_wp2_with fail
          refine ⟨⟨q + 1, by omega, by go_num, by first | rfl | trivial, fun k h hk => ?_, fun h => absurd rfl h⟩, by simp [intOf]; omega⟩
          by_cases hkq : k = q
          · subst hkq
            exact Hz.out
          · exact Hh0.out k h (by omega)
        · have hz' : (s[q]'hqs).toNat ≠ 0 := fun h => hz (UInt8.toNat_inj.1 (by rw [h]; rfl))
          have Hz := hid hz
          clear hz
          generalize hcq : (s[q]'hqs).toNat = c at *
          have d2 : ((c : Int) == 0) = false := by simp; omega
          have d3 : decide (c = 0) = false := by simpa using hz'
          clear hz'
          go_wp2_with fail
          have hw := heap_set_same (i := 1) (heap_set_same (i := 0) Hr.out (.string (S s))) (.int .i64 1)
          have hB9 := (HB.out.setCell (p := ⟨w.heap.size + 1, 0, none⟩) (by show w.heap.size ≤ w.heap.size + 1; omega) (.string (S s))).setCell (p := ⟨w.heap.size + 1, 1, none⟩) (by show w.heap.size ≤ w.heap.size + 1; omega) (.int .i64 1)
          generalize (wr.setCell ⟨w.heap.size + 1, 0, none⟩ (.string (S s))).setCell ⟨w.heap.size + 1, 1, none⟩ (.int .i64 1) = w9 at *
          refine bodyPost_ret (v := .agg #[.string (S s), .int .i64 1]) ?_ rfl ⟨s, 1, rfl, ?_, hB9⟩
          · rw [res_cell rfl]
            clear hB9 x0 x1 n0 n1 j0 j1
            have n0 : w9.cell? ⟨w.heap.size + 1, 0, none⟩ = some (.string (S s)) := by have h := cell_of_block hw 0; simpa using h
            have n1 : w9.cell? ⟨w.heap.size + 1, 1, none⟩ = some (.int .i64 1) := by have h := cell_of_block hw 1; simpa using h
            go_simp
          · unfold rzero; rw [if_neg (by simp), if_neg (fun h => Hz.out (h _ (List.getElem_mem hqs)))]
      · obtain rfl : q = s.length := by omega
        have d1 : decide (s.length < s.length) = false := by simp
        go_wp2_with fail
        have hw := heap_set_same (i := 1) (heap_set_same (i := 0) Hr.out (.string ⟨#[]⟩)) (.int .i64 0)
        have hB9 := (HB.out.setCell (p := ⟨w.heap.size + 1, 0, none⟩) (by show w.heap.size ≤ w.heap.size + 1; omega) (.string ⟨#[]⟩)).setCell (p := ⟨w.heap.size + 1, 1, none⟩) (by show w.heap.size ≤ w.heap.size + 1; omega) (.int .i64 0)
        generalize (wr.setCell ⟨w.heap.size + 1, 0, none⟩ (.string ⟨#[]⟩)).setCell ⟨w.heap.size + 1, 1, none⟩ (.int .i64 0) = w9 at *
        refine bodyPost_ret (v := .agg #[.string ⟨#[]⟩, .int .i64 0]) ?_ rfl ⟨[], 0, rfl, ?_, hB9⟩
        · rw [res_cell rfl]
          clear hB9 x0 x1 n0 n1 j0 j1
          have n0 : w9.cell? ⟨w.heap.size + 1, 0, none⟩ = some (.string ⟨#[]⟩) := by have h := cell_of_block hw 0; simpa using h
          have n1 : w9.cell? ⟨w.heap.size + 1, 1, none⟩ = some (.int .i64 0) := by have h := cell_of_block hw 1; simpa using h
          go_simp
        · unfold rzero; rw [if_neg (by simp), if_pos (fun c hc => by obtain ⟨i, hi, rfl⟩ := List.mem_iff_getElem.1 hc; exact Hh0.out i hi hi)]
    · obtain rfl := He0.out he
      have d0 : decide (e = 0) = false := by simpa using he
      by_cases hqs : 0 < s.length
      case' pos =>
        have d1 : decide (0 < s.length) = true := by simpa using hqs
        have d1' : decide ((0 : Int) < (s.length : Int)) = true := by simp; omega
        go_upto_region 6 with fail
      case' neg =>
        have d1 : decide (0 < s.length) = false := by simpa using hqs
        have hs0 : s.length = 0 := by omega
        have d1' : decide ((0 : Int) < (s.length : Int)) = false := by rw [hs0]; rfl
        clear hs0
        go_upto_region 6 with fail
      all_goals
        go_wp2_with fail
        have hw := heap_set_same (i := 1) (heap_set_same (i := 0) Hr.out (.string (S s))) (.int .i64 e)
        have hB9 := (HB.out.setCell (p := ⟨w.heap.size + 1, 0, none⟩) (by show w.heap.size ≤ w.heap.size + 1; omega) (.string (S s))).setCell (p := ⟨w.heap.size + 1, 1, none⟩) (by show w.heap.size ≤ w.heap.size + 1; omega) (.int .i64 e)
        generalize (wr.setCell ⟨w.heap.size + 1, 0, none⟩ (.string (S s))).setCell ⟨w.heap.size + 1, 1, none⟩ (.int .i64 e) = w9 at *
        refine bodyPost_ret (v := .agg #[.string (S s), .int .i64 e]) ?_ rfl ⟨s, e, rfl, ?_, hB9⟩
        · rw [res_cell rfl]
          clear hB9 x0 x1 n0 n1 j0 j1
          have n0 : w9.cell? ⟨w.heap.size + 1, 0, none⟩ = some (.string (S s)) := by have h := cell_of_block hw 0; simpa using h
          have n1 : w9.cell? ⟨w.heap.size + 1, 1, none⟩ = some (.int .i64 e) := by have h := cell_of_block hw 1; simpa using h
          go_simp
        · unfold rzero; rw [if_pos he]
end Go.Proofs.YtkmbbgnbklklcaaDoor
