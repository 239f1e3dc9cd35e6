/-
  Law 01's ShaParts, as the row takes it.
-/
import Derived.Test.YtmdcalkfapcafaaDoorL01b
namespace Go.Proofs.YtmdcalkfapcafaaDoor
open Go.RowKit

theorem i64_wf {x : Int} (h : (Lit.int .i64 x).wf = true) : -9223372036854775808 ≤ x ∧ x ≤ 9223372036854775807 := by
  simp [Lit.wf, IntKind.min, IntKind.max, IntKind.signed, IntKind.bits] at h
  omega

theorem walkShaParts (w : World) (s : ByteArray) (i j : Int) (_hs : s.size ≤ 140737488351232) (hi : (Lit.int .i64 i).wf = true) (hj : (Lit.int .i64 j).wf = true) (hL : Laid w) :
    Calls Tryd.prog 3 #[.string s, .int .i64 i, .int .i64 j] w fun e w' => e = .returned (.bool true) ∧ Below w.heap.size w w' := by
  rw [← S_of s]
  exact parts_any _ i j w hL (i64_wf hi) (i64_wf hj)
end Go.Proofs.YtmdcalkfapcafaaDoor
