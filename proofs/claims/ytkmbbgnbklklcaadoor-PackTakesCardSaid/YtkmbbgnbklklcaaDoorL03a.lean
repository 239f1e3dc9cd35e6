/-
  Law 03's awake.
-/
import Derived.Test.YtkmbbgnbklklcaaDoorIn
import Derived.Test.YtkmbbgnbklklcaaDoorOut
namespace Go.Proofs.YtkmbbgnbklklcaaDoor
open Go.RowKit

theorem enters_short : Enters 71 #[] := fun w => by kernel_rfl
theorem enters_awake1 : Enters 72 #[] := fun w => by kernel_rfl

theorem short_any (w : World) : Calls Tryd.prog 71 #[] w fun e w' => e = .panicked (fault 2) ∧ Below w.heap.size w w' := by
  go_enter Tryd.func71, Tryd.ntmps71
  go_wp2_with fail
  refine (read_any _ _).mono ?_
  rintro e w' ⟨rfl, rfl⟩
  go_wp2_with fail
  refine (in_num_end w.heap.size [97] 2 2 _ (heap_new _ _) (by decide) (by decide)).mono ?_
  rintro e w' ⟨rfl, rfl⟩
  exact ⟨rfl, rfl, (Below.refl _ _).alloc (Nat.le_refl _) _⟩

theorem awake1_any (w : World) : Calls Tryd.prog 72 #[] w fun e w' => e = .returned (.tuple #[]) ∧ w = w' := by
  go_enter Tryd.func72, Tryd.ntmps72
  go_wp2
  go_end0
  exact ⟨rfl, rfl⟩

theorem awake03 (w : World) : Calls Tryd.prog 17 #[] w fun e w' => e = .returned (.bool true) ∧ Below w.heap.size w w' := by
  have hs : ((S (num 300 2)).toList == [1, 44]) = true := by rw [S_toList]; decide +kernel
  go_enter Tryd.func17, Tryd.ntmps17
  go_wp2_with fail
  refine (out_num w.heap.size w.heap.size _ [] 300 2 2 _ (OutAt.new w _) (by decide) (by simp) (by simp)).mono ?_
  rintro e w1 ⟨rfl, hE⟩
  obtain ⟨hB1, v, hO, hv⟩ := hE.below (B := w.heap.size) ((Below.refl w.heap.size w).alloc (Nat.le_refl _) _) (by simp) (Nat.le_refl _) (fun k hk => by simp [Value.ownBlock] at hk)
  have HB1 := hid hB1
  have HO := hid hO
  clear hE hB1 hO hv
  go_wp2_with fail
  refine (out_bytes _ _ _ _ _ HO.out).mono ?_
  rintro e w' ⟨rfl, rfl⟩
  rw [List.nil_append]
  go_wp2_with fail
  refine (guard_quiet _ _ _ 2 enters_short ((short_any _).mono fun e w' h => ⟨by simpa using h.2, .inr h.1⟩)).mono ?_
  rintro e w2 ⟨rfl, hB2⟩
  have HB2 := hid (HB1.out.trans (hB2.mono HB1.out.size))
  clear hB2
  go_wp2_with fail
  refine (guard_quiet _ _ _ 0 enters_awake1 ((awake1_any _).mono fun e w' h => ⟨by rw [← h.2]; exact Below.refl _ _, .inl ⟨_, h.1, rfl⟩⟩)).mono ?_
  rintro e w3 ⟨rfl, hB3⟩
  have HB3 := hid (HB2.out.trans (hB3.mono HB2.out.size))
  clear hB3
  go_wp2
  go_ret
  exact ⟨rfl, HB3.out⟩

end Go.Proofs.YtkmbbgnbklklcaaDoor
