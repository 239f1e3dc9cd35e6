/-
  Law 09: UndoPlays: run and try: what they do to the state, by induction on the steps that are left.
-/
import Derived.Test.YtmdcalkfapcafaaL09g
import Derived.StillTailTactics
namespace Go.Proofs.Ytmdcalkfapcafaa
open Go.RowKit

/-- The table tells what the cells tell. -/
def Link (s : C4 × DataW Unit) : Prop := ∀ i : Nat, i < 4 → Maps.has s.2 (.int .i64 (i : Int)) = decide (0 < s.1 i) ∧ ∀ z, s.2.atKey (.int .i64 (i : Int)) z = if 0 < s.1 i then .lit (.int .i64 (s.1 i)) else z
/-- How a run ends: at step j, in state s'. -/
structure RunEnd (l : List ActN) (i : Nat) (c : C4) (st : List C4) (d j : Nat) (c' : C4) (e : Ending) : Prop where
  le : i ≤ j ∧ j ≤ l.length
  how : (e = .returned (.tuple #[]) ∧ playFrom (l.drop i) c st = playFrom (l.drop j) c' st.tail ∧ (d = 0 → j = l.length)) ∨
    (e = .panicked (fault 4) ∧ 0 < d ∧ i < j ∧ (∀ h : j - 1 < l.length, l[j - 1].kind = 4) ∧ playFrom (l.drop i) c st = playFrom (l.drop j) (st.headD c') st.tail)

theorem still_left {P : Program} {f : FuncId} {args : Array Value} {w : World} {v : Value} (h : Calls P f args w fun e w' => e = .returned v ∧ w = w') : Calls P f args w fun e w' => e = .returned v ∧ w' = w :=
  h.mono fun _ _ ⟨he, hw⟩ => ⟨he, hw.symm⟩

set_option maxHeartbeats 1000000 in
/-- The first statement of what a Try runs: fine stays true. -/
theorem try1_fine (b bm bw bd bs base : Nat) (A : Option Addr) (n cap : Nat) (v : Value) (fs : List Value) (d : Nat) (K : Nat × Nat) (s : C4 × DataW Unit) (w : World) (h : LogAt w b base v fs (d + 1)) (hP : PInv b bm K s w)
    (hw : w.heap[bw]? = some (.cells #[.pointer (some ⟨b, 0, none⟩)] 56 (0, 0))) (hd : w.heap[bd]? = some (.cells #[.int .i64 d] 3 (0, 0))) (hs : w.heap[bs]? = some (.cells #[.slice A n cap] 54 (0, 0))) (hd40 : d ≤ 1000) (R : Ending → World → Prop)
    (hrun : ∀ w', Fr (fun k => k = b) w w' → (∀ o, w'.cell? ⟨b, o, none⟩ = w.cell? ⟨b, o, none⟩ ∧ w'.frozen? ⟨b, o, none⟩ = w.frozen? ⟨b, o, none⟩) → Calls Try.prog 28 #[.pointer (some ⟨b, 0, none⟩), .slice A n cap] w' (fun e w'' => (e = .returned (.tuple #[]) ∨ ∃ c, e = .panicked c) ∧ R e w'')) :
    Calls Try.prog 52 #[.pointer (some ⟨bw, 0, none⟩), .pointer (some ⟨bd, 0, none⟩), .pointer (some ⟨bs, 0, none⟩)] w R := by
  have c1 := cell_of_one hw
  have c2 := cell_of_one hd
  have c3 := cell_of_one hs
  have c8 := hP.fine
  have f8 := hP.free 8 (by omega)
  have H := hid h
  have Hr := hid hrun
  have e1 : (((d : Int) + 1) == (d : Int) + 1) = true := by simp
  clear h hP hw hd hs hrun
  go_enter Try.func52, Try.ntmps52
  go_wp2_with fail
  refine wp_region_still_tail 16 (by kernel_rfl) (by kernel_rfl) ?_
  simp only [List.take_succ_cons, List.take_zero, List.drop_succ_cons, List.drop_zero]
  change wpStill _ _ w.drew _ _ _
  repeat still_step
  still_call (still_left (deep_any b base v fs (d + 1) w.drew (H.out.fr (Fr.refl (fun _ => False) w).drew id (fun _ _ => id))))
  repeat still_step
  refine wpStill_nil ?_
  change wpList _ _ _ _ _ w.drew
  have hF : Fr (fun k => k = b) w ((w.setCell ⟨b, 8, none⟩ (.bool true)).drew) := ((Fr.refl (fun k => k = b) w).setCell (p := ⟨b, 8, none⟩) (fun _ => rfl) _).drew
  have hS : ∀ o, ((w.setCell ⟨b, 8, none⟩ (.bool true)).drew).cell? ⟨b, o, none⟩ = w.cell? ⟨b, o, none⟩ ∧ ((w.setCell ⟨b, 8, none⟩ (.bool true)).drew).frozen? ⟨b, o, none⟩ = w.frozen? ⟨b, o, none⟩ := fun o => by
    refine ⟨?_, World.frozen?_setCell _ _ _ _⟩
    by_cases ho : o = 8
    · subst ho
      exact (World.cell?_setCell_same w ⟨b, 8, none⟩ (.bool true) c8).trans c8.symm
    · exact World.cell?_setCell_other _ _ _ _ (by simp)
  have hw' := Hr.out _ hF hS
  go_wp2_with fail
  refine hw'.mono ?_
  rintro e w2 ⟨rfl | ⟨c, rfl⟩, hR⟩
  · have HR := hid hR
    clear hR hw' hF hS
    go_wp2
    go_end0
    exact HR.out
  · exact ⟨rfl, hR⟩

end Go.Proofs.Ytmdcalkfapcafaa
