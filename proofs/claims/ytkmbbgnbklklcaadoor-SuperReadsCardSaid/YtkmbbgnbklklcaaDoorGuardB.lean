/-
  A Guard whose function writes some blocks.
-/
import Derived.Test.YtkmbbgnbklklcaaDoorGuard
namespace Go.Proofs.YtkmbbgnbklklcaaDoor
open Go.RowKit

/-- What runs leaves all but the blocks S as it was, and P. -/
theorem guard_fr (f : FuncId) (cap : Array Value) (w : World) (c0 : Int) (S : Nat → Prop) (P : World → Prop) (hin : Enters f cap) (hS : ¬ S w.heap.size)
    (hP : ∀ w1 w2, w.heap.size < w1.heap.size → P w1 → Fr (fun k => k = w.heap.size) w1 w2 → P w2)
    (hrun : Calls Tryd.prog f cap (w.alloc (.cells #[.int .i64 0] 29)) fun e w' => Fr S (w.alloc (.cells #[.int .i64 0] 29)) w' ∧ P w' ∧ ((∃ v, e = .returned v ∧ c0 = 0) ∨ e = .panicked (fault c0))) :
    Calls Tryd.prog 19 #[.func (.func f) #[] cap] w fun e w3 => e = .returned (.int .i64 c0) ∧ Fr S w w3 ∧ P w3 := by
  refine (guard_any f cap w (fun c w' => c = c0 ∧ Fr S w w' ∧ P w' ∧ w.heap.size < w'.heap.size) hin (hrun.mono ?_)).mono ?_
  · rintro e w' ⟨hF, hp, h⟩
    have hF2 : Fr S w w' := ((Fr.refl S w).alloc _).trans hF (fun _ _ h => h)
    have hs : w.heap.size < w'.heap.size := by have := hF.size; simp at this; omega
    refine ⟨hF.heap (heap_new _ _) hS, ?_⟩
    rcases h with ⟨v, rfl, h0⟩ | rfl
    · exact .inl ⟨v, rfl, h0.symm, hF2, hp, hs⟩
    · exact .inr ⟨c0, rfl, rfl, hF2, hp, hs⟩
  · rintro e w3 ⟨c, w', rfl, ⟨rfl, hF2, hp, hs⟩, hF⟩
    exact ⟨rfl, hF2.trans hF (fun i hi e => by omega), hP w' w3 hs hp hF⟩

/-- The function sets one variable, in a box. -/
theorem guard_box (f : FuncId) (cap : Array Value) (w : World) (c0 : Int) (bo : Nat) (v : Value) (T : TypeId) (hin : Enters f cap) (hbo : bo < w.heap.size)
    (hrun : Calls Tryd.prog f cap (w.alloc (.cells #[.int .i64 0] 29)) fun e w' => Fr (fun k => k = bo) (w.alloc (.cells #[.int .i64 0] 29)) w' ∧ w'.heap[bo]? = some (.cells #[v] T (0, 0)) ∧ ((∃ v, e = .returned v ∧ c0 = 0) ∨ e = .panicked (fault c0))) :
    Calls Tryd.prog 19 #[.func (.func f) #[] cap] w fun e w3 => e = .returned (.int .i64 c0) ∧ Fr (fun k => k = bo) w w3 ∧ w3.heap[bo]? = some (.cells #[v] T (0, 0)) :=
  guard_fr f cap w c0 (fun k => k = bo) (fun w' => w'.heap[bo]? = some (.cells #[v] T (0, 0))) hin (by omega) (fun w1 w2 _ h hF => hF.heap h (by omega)) hrun
end Go.Proofs.YtkmbbgnbklklcaaDoor
