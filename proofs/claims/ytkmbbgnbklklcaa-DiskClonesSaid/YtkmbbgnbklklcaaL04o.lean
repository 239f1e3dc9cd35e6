/-
  Law 04's does, of any kind.
-/
import Derived.Test.YtkmbbgnbklklcaaL04h
import Derived.Test.YtkmbbgnbklklcaaL04i
import Derived.Test.YtkmbbgnbklklcaaL04j
import Derived.Test.YtkmbbgnbklklcaaL04k
import Derived.Test.YtkmbbgnbklklcaaL04l
import Derived.Test.YtkmbbgnbklklcaaL04m
import Derived.Test.YtkmbbgnbklklcaaL04n
namespace Go.Proofs.Ytkmbbgnbklklcaa
open Go.RowKit

theorem does_any {B b g : Nat} {D : Dsk} {v : Value} (w : World) (hD : DiskAt w B b g D) (hg : g < w.heap.size) (hR : RefAt w v D) (kind at_ n : Int) (s : List UInt8) (ca : Option Addr) (cl cc : Nat) (cu : Nat → Int) (hC : CutsAt w b g ca cl cu) :
    Calls Try.prog 23 #[.pointer (some ⟨b, 0, none⟩), v, .agg #[.int .i64 kind, .int .i64 at_, .int .i64 n, .string (S s), .slice ca cl cc]] w (DoesEnd w B b g D) := by
  obtain ⟨m, _, hm⟩ := and255 kind
  rcases (by omega : m % 10 < 4 ∨ m % 10 = 4 ∨ m % 10 = 5 ∨ m % 10 = 6 ∨ m % 10 = 7 ∨ m % 10 = 8 ∨ m % 10 = 9) with h | h | h | h | h | h | h
  · exact does_write w hD hg hR kind at_ n s ca cl cc cu hC m hm h
  · exact does_read w hD hg hR kind at_ n s ca cl cc cu hC m hm h
  · exact does_sync w hD hg hR kind at_ n s ca cl cc cu hC m hm h
  · exact does_crash w hD hg hR kind at_ n s ca cl cc cu hC m hm h
  · exact does_spoil w hD hg hR kind at_ n s ca cl cc cu hC m hm h
  · exact does_arm w hD hg hR kind at_ n s ca cl cc cu hC m hm h
  · exact does_clone w hD hg hR kind at_ n s ca cl cc cu hC m hm h
/-- Where the steps lie: none of their blocks is one of the disk's. -/
theorem DoesEnd.open {w : World} {B b g : Nat} {D : Dsk} {e : Ending} {w' : World} (h : DoesEnd w B b g D e w') : ∃ (b' g' : Nat) (v' : Value) (D' : Dsk), e = .returned (.tuple #[.pointer (some ⟨b', 0, none⟩), v', .bool true]) ∧ DiskAt w' B b' g' D' ∧ g' < w'.heap.size ∧ RefAt w' v' D' ∧ D'.n = D.n ∧ Fr (dfoot b g) w w' ∧ ((b' = b ∧ g' = g) ∨ (w.heap.size ≤ b' ∧ w.heap.size ≤ g')) := h
end Go.Proofs.Ytkmbbgnbklklcaa
