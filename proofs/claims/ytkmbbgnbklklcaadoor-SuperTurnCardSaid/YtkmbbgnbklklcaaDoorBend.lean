/-
  A byte that is another one.
-/
import Derived.Test.YtkmbbgnbklklcaaDoorDiskC
namespace Go.Proofs.YtkmbbgnbklklcaaDoor
open Go.RowKit

theorem ty_eq {w : World} {k : Nat} {c c' : Array Value} {t t' : TypeId} {fr fr' : Nat × Nat} (h1 : w.heap[k]? = some (.cells c t fr)) (h2 : w.heap[k]? = some (.cells c' t' fr')) : t = t' := by
  rw [h1] at h2
  injection h2 with h2
  injection h2
theorem tne {w : World} {k k' : Nat} {c c' : Array Value} {t t' : TypeId} {fr fr' : Nat × Nat} (h1 : w.heap[k]? = some (.cells c t fr)) (h2 : w.heap[k']? = some (.cells c' t' fr')) (h : t ≠ t') : k ≠ k' := by
  rintro rfl
  exact h (ty_eq h1 h2)
/-- One byte is another one. -/
def bend (s : List UInt8) (k : Nat) (c : UInt8) : List UInt8 := s.take k ++ (s.getD k 0 ^^^ c) :: s.drop (k + 1)
theorem bend_length (s : List UInt8) (k : Nat) (c : UInt8) (h : k < s.length) : (bend s k c).length = s.length := by simp [bend]; omega
theorem xor_byte (c d : UInt8) : bits .xor .u8 (c.toNat : Int) (d.toNat : Int) = (((c ^^^ d).toNat : Nat) : Int) := by
  have h : ∀ a b : BitVec 8, bits .xor .u8 (a.toNat : Int) (b.toNat : Int) = ((a ^^^ b).toNat : Int) := by
    intro a b
    show IntKind.u8.wrap ((BitVec.ofInt 8 (a.toNat : Int) ^^^ BitVec.ofInt 8 (b.toNat : Int)).toNat : Int) = _
    rw [show BitVec.ofInt 8 (a.toNat : Int) = a from by rw [BitVec.ofInt_natCast]; simp, show BitVec.ofInt 8 (b.toNat : Int) = b from by rw [BitVec.ofInt_natCast]; simp]
    have := (a ^^^ b).isLt
    generalize (a ^^^ b).toNat = n at *
    simp [IntKind.wrap, IntKind.bits, IntKind.signed]
    omega
  exact h c.toBitVec d.toBitVec

end Go.Proofs.YtkmbbgnbklklcaaDoor
