/-
  The document's super: Check, number, Bytes.
-/
import Derived.Test.YtkmbbgnbklklcaaDoorL07a
import Derived.Test.YtkmbbgnbklklcaaDoorRef5
namespace Go.Proofs.YtkmbbgnbklklcaaDoor
open Go.RowKit

set_option maxRecDepth 100000 in
set_option linter.unusedSimpArgs false in
set_option maxHeartbeats 4000000 in
theorem ref7_check (ep jo bi he ne n : Nat) (w : World) (hj : jo < 65536) (hh : he < 65536) (hn : n ≤ 1000000) :
    Calls Tryd.prog 60 #[.agg #[.int .i64 (ep : Int), .int .i64 (jo : Int), .int .i64 (bi : Int), .int .i64 (he : Int), .int .i64 (ne : Int)], .int .i64 (n : Int)] w fun e w' => e = .returned (.int .i64 (supErr ep jo bi he ne n : Int)) ∧ Below w.heap.size w w' := by
  have hB0 : Below w.heap.size w (w.alloc (.cells #[.int .i64 (ep : Int), .int .i64 (jo : Int), .int .i64 (bi : Int), .int .i64 (he : Int), .int .i64 (ne : Int)] 88)) := (Below.refl _ w).alloc (Nat.le_refl _) _
  have hX := heap_new w (.cells #[.int .i64 (ep : Int), .int .i64 (jo : Int), .int .i64 (bi : Int), .int .i64 (he : Int), .int .i64 (ne : Int)] 88)
  go_enter Tryd.func60, Tryd.ntmps60
  go_upto_region 1 with fail
  generalize w.alloc (.cells #[.int .i64 (ep : Int), .int .i64 (jo : Int), .int .i64 (bi : Int), .int .i64 (he : Int), .int .i64 (ne : Int)] 88) = w1 at *
  generalize hN : w.heap.size = N at *
  have HB0 := hid hB0
  have HN := hid hN
  have c0 := cell_of_block hX 0
  have c1 := cell_of_block hX 1
  have c2 := cell_of_block hX 2
  have c3 := cell_of_block hX 3
  have c4 := cell_of_block hX 4
  simp only [List.getElem?_toArray, List.getElem?_cons_zero, List.getElem?_cons_succ] at c0 c1 c2 c3 c4
  clear hB0 hN hX
  by_cases q0 : jo < 4
  · have d0 : decide ((jo : Int) < 4) = true := by simp; omega
    have hE : supErr ep jo bi he ne n = 4 := by unfold supErr; rw [if_pos (by omega)]
    have HE := hid hE
    clear hE
    go_wp2_with fail
    go_ret
    rw [HE.out]
    exact ⟨rfl, by rw [HN.out]; exact HB0.out⟩
  have d0 : decide ((jo : Int) < 4) = false := by simp; omega
  by_cases q1 : 512 < jo
  · have d1 : decide ((512 : Int) < (jo : Int)) = true := by simp; omega
    have hE : supErr ep jo bi he ne n = 4 := by unfold supErr; rw [if_pos (by omega)]
    have HE := hid hE
    clear hE
    go_wp2_with fail
    go_ret
    rw [HE.out]
    exact ⟨rfl, by rw [HN.out]; exact HB0.out⟩
  have d1 : decide ((512 : Int) < (jo : Int)) = false := by simp; omega
  by_cases q2 : bi < 1
  · have d2 : decide ((bi : Int) < 1) = true := by simp; omega
    have hE : supErr ep jo bi he ne n = 4 := by unfold supErr; rw [if_pos (by omega)]
    have HE := hid hE
    clear hE
    go_wp2_with fail
    go_ret
    rw [HE.out]
    exact ⟨rfl, by rw [HN.out]; exact HB0.out⟩
  have d2 : decide ((bi : Int) < 1) = false := by simp; omega
  by_cases q3 : 256 < bi
  · have d3 : decide ((256 : Int) < (bi : Int)) = true := by simp; omega
    have hE : supErr ep jo bi he ne n = 4 := by unfold supErr; rw [if_pos (by omega)]
    have HE := hid hE
    clear hE
    go_wp2_with fail
    go_ret
    rw [HE.out]
    exact ⟨rfl, by rw [HN.out]; exact HB0.out⟩
  have d3 : decide ((256 : Int) < (bi : Int)) = false := by simp; omega
  by_cases q4 : ep = 0
  · have d4 : decide ((ep : Int) = 0) = true := by simp; omega
    have b4 : ((ep : Int) == 0) = true := by simp; omega
    have hE : supErr ep jo bi he ne n = 4 := by unfold supErr; rw [if_pos (by omega)]
    have HE := hid hE
    clear hE
    go_wp2_with fail
    go_ret
    rw [HE.out]
    exact ⟨rfl, by rw [HN.out]; exact HB0.out⟩
  have d4 : decide ((ep : Int) = 0) = false := by simp; omega
  have b4 : ((ep : Int) == 0) = false := by simp; omega
  by_cases q5 : ne = 0
  · have d5 : decide ((ne : Int) = 0) = true := by simp; omega
    have b5 : ((ne : Int) == 0) = true := by simp; omega
    have hE : supErr ep jo bi he ne n = 4 := by unfold supErr; rw [if_pos (by omega)]
    have HE := hid hE
    clear hE
    go_wp2_with fail
    go_ret
    rw [HE.out]
    exact ⟨rfl, by rw [HN.out]; exact HB0.out⟩
  have d5 : decide ((ne : Int) = 0) = false := by simp; omega
  have b5 : ((ne : Int) == 0) = false := by simp; omega
  by_cases r0 : 4096 < n
  · have f0 : decide ((4096 : Int) < (n : Int)) = true := by simp; omega
    have hE : supErr ep jo bi he ne n = 3 := by unfold supErr; rw [if_neg (by omega), if_pos r0]
    have HE := hid hE
    clear hE
    go_wp2_with fail
    go_ret
    rw [HE.out]
    exact ⟨rfl, by rw [HN.out]; exact HB0.out⟩
  have f0 : decide ((4096 : Int) < (n : Int)) = false := by simp; omega
  have a1 : IntKind.i64.wrap (2 + (jo : Int)) = 2 + (jo : Int) := by rw [IntKind.wrap_i64]; omega
  have a2 : IntKind.i64.wrap (2 + (jo : Int) + 32) = 2 + (jo : Int) + 32 := by rw [IntKind.wrap_i64]; omega
  by_cases r1 : n < 2 + jo + 32
  · have f1 : decide ((n : Int) < 2 + (jo : Int) + 32) = true := by simp; omega
    have hE : supErr ep jo bi he ne n = 8 := by unfold supErr; rw [if_neg (by omega), if_neg r0, if_pos r1]
    have HE := hid hE
    clear hE
    go_wp2_with fail
    go_ret
    rw [HE.out]
    exact ⟨rfl, by rw [HN.out]; exact HB0.out⟩
  have f1 : decide ((n : Int) < 2 + (jo : Int) + 32) = false := by simp; omega
  by_cases s0 : he = 0
  · have g0 : decide ((he : Int) = 0) = true := by simp; omega
    have g0b : ((he : Int) == 0) = true := by simp; omega
    have g0c : ((he : Int) != 0) = false := by simp; omega
    have hE : supErr ep jo bi he ne n = 0 := by unfold supErr; rw [if_neg (by omega), if_neg r0, if_neg r1, if_neg (by omega)]
    have HE := hid hE
    clear hE
    go_wp2_with fail
    go_ret
    rw [HE.out]
    exact ⟨rfl, by rw [HN.out]; exact HB0.out⟩
  have g0 : decide ((he : Int) = 0) = false := by simp; omega
  have g0b : ((he : Int) == 0) = false := by simp; omega
  have g0c : ((he : Int) != 0) = true := by simp; omega
  by_cases s1 : he < 2 + jo
  · have g1 : decide ((he : Int) < 2 + (jo : Int)) = true := by simp; omega
    have hE : supErr ep jo bi he ne n = 6 := by unfold supErr; rw [if_neg (by omega), if_neg r0, if_neg r1, if_pos (by omega)]
    have HE := hid hE
    clear hE
    go_wp2_with fail
    go_ret
    rw [HE.out]
    exact ⟨rfl, by rw [HN.out]; exact HB0.out⟩
  have g1 : decide ((he : Int) < 2 + (jo : Int)) = false := by simp; omega
  by_cases s2 : n ≤ he
  · have g2 : decide ((n : Int) ≤ (he : Int)) = true := by simp; omega
    have hE : supErr ep jo bi he ne n = 6 := by unfold supErr; rw [if_neg (by omega), if_neg r0, if_neg r1, if_pos (by omega)]
    have HE := hid hE
    clear hE
    go_wp2_with fail
    go_ret
    rw [HE.out]
    exact ⟨rfl, by rw [HN.out]; exact HB0.out⟩
  have g2 : decide ((n : Int) ≤ (he : Int)) = false := by simp; omega
  have hE : supErr ep jo bi he ne n = 0 := by unfold supErr; rw [if_neg (by omega), if_neg r0, if_neg r1, if_neg (by omega)]
  have HE := hid hE
  clear hE
  go_wp2_with fail
  go_ret
  rw [HE.out]
  exact ⟨rfl, by rw [HN.out]; exact HB0.out⟩

end Go.Proofs.YtkmbbgnbklklcaaDoor
