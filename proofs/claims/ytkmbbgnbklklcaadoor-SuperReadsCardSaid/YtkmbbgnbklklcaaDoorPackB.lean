/-
  Contracts of package pack: In's Zero and Done.
-/
import Derived.Test.YtkmbbgnbklklcaaDoorStampB
namespace Go.Proofs.YtkmbbgnbklklcaaDoor
open Go.RowKit

theorem in_zero_some (b : Nat) (l : List UInt8) (w : World) (hI : InAt w b l) (hl : l.length ≤ 100000000) (h0 : ∀ x ∈ l, x = 0) :
    Calls Tryd.prog 25 #[.pointer (some ⟨b, 0, none⟩)] w fun e w' => e = .returned (.tuple #[]) ∧ InAt w' b [] ∧ Fr (fun k => k = b) w w' := by
  have c0 := cell_of_one hI
  have d0 : (S (Lib.trimB l 0)).toList.isEmpty = true := by rw [S_toList, (trim_nil l).2 h0]; rfl
  have HI := hid hI
  clear hI
  go_enter Tryd.func25, Tryd.ntmps25
  go_wp2_with fail
  refine (trim_nul l w hl).mono ?_
  rintro e w1 ⟨rfl, hB⟩
  have h1 := (hB.block b (lt_of_block HI.out)).trans HI.out
  have c1 := cell_of_one h1
  have f1 := free_of_one h1
  have HB := hid hB
  have H1 : Hid (InAt w1 b l) := hid h1
  clear hB h1 c0
  go_wp2_with fail
  go_end0
  exact ⟨rfl, H1.out.set [], (Fr.ofBelow HB.out (fun k => k = b)).setCell (p := ⟨b, 0, none⟩) (fun _ => rfl) _⟩
theorem in_zero_bad (b : Nat) (l : List UInt8) (w : World) (hI : InAt w b l) (hl : l.length ≤ 100000000) (h0 : ¬ ∀ x ∈ l, x = 0) :
    Calls Tryd.prog 25 #[.pointer (some ⟨b, 0, none⟩)] w fun e w' => e = .panicked (fault 1) ∧ Below w.heap.size w w' := by
  have c0 := cell_of_one hI
  have d0 : (S (Lib.trimB l 0)).toList.isEmpty = false := by rw [S_toList]; simpa using fun h => h0 ((trim_nil l).1 h)
  clear hI
  go_enter Tryd.func25, Tryd.ntmps25
  go_wp2_with fail
  refine (trim_nul l w hl).mono ?_
  rintro e w1 ⟨rfl, hB⟩
  have HB := hid hB
  clear hB c0
  go_wp2_with (go_at_call 79; refine (fail_any _ _).mono ?_; rintro e w' ⟨rfl, rfl⟩)
  exact ⟨rfl, rfl, HB.out⟩
theorem in_done_some (b : Nat) (w : World) (hI : InAt w b []) :
    Calls Tryd.prog 26 #[.pointer (some ⟨b, 0, none⟩)] w fun e w' => e = .returned (.tuple #[]) ∧ w = w' := by
  have c0 := cell_of_one hI
  have d0 : (S []).toList.isEmpty = true := by rw [S_toList]; rfl
  clear hI
  go_enter Tryd.func26, Tryd.ntmps26
  go_wp2_with fail
  go_end0
  exact ⟨rfl, rfl⟩
theorem in_done_bad (b : Nat) (l : List UInt8) (w : World) (hI : InAt w b l) (h0 : l ≠ []) :
    Calls Tryd.prog 26 #[.pointer (some ⟨b, 0, none⟩)] w fun e w' => e = .panicked (fault 1) ∧ w = w' := by
  have c0 := cell_of_one hI
  have d0 : (S l).toList.isEmpty = false := by rw [S_toList]; simpa using h0
  clear hI
  go_enter Tryd.func26, Tryd.ntmps26
  go_wp2_with (go_at_call 79; refine (fail_any _ _).mono ?_; rintro e w' ⟨rfl, rfl⟩)
  exact ⟨rfl, rfl, rfl⟩
end Go.Proofs.YtkmbbgnbklklcaaDoor
