/-
  Law 09: UndoPlays: what is handed in.
-/
import Derived.Test.YtmdcalkfapcafaaL09l
import Derived.Test.YtmdcalkfapcafaaArgsS
namespace Go.Proofs.Ytmdcalkfapcafaa
open Go.ChangeShapes Go.WideShapes Go.Deep Go.RowKit

theorem args_acts {H : Type} {enc : TypeId × Value → H} {w : World} {held : Bool} {a : Option Addr} {len cap : Nat} {x : DataW H × List MemPlace} (h : ∃ fuel, DataW.trod enc Try.prog w 0 (fun _ => true) held fuel 53 [.slice a len cap] = some x) :
    ∃ E : Nat → Int × Int × Int, Acts3 w a len cap E := by
  obtain ⟨fuel, hf⟩ := h
  obtain ⟨hm, hc, hr⟩ := open_slice_ints Try.underlying53 Try.underlying78 (by kernel_rfl) (by kernel_rfl) hf
  by_cases h0 : 0 < len
  · obtain ⟨ad, rfl, hg⟩ := hr h0
    have h3 : ∀ i, ∃ E : Int × Int × Int, i < len → w.cell? (ad.add (i * 3)) = some (.int .i64 E.1) ∧ w.cell? (ad.add (i * 3 + 1)) = some (.int .i64 E.2.1) ∧ w.cell? (ad.add (i * 3 + 2)) = some (.int .i64 E.2.2) := fun i => by
      by_cases hi : i < len
      · obtain ⟨v0, c0, n0, y0, t0⟩ := hg i hi 0 _ rfl
        obtain ⟨v1, c1, n1, y1, t1⟩ := hg i hi 1 _ rfl
        obtain ⟨v2, c2, n2, y2, t2⟩ := hg i hi 2 _ rfl
        obtain ⟨z0, e0, _⟩ := DataW.trod_int Try.underlying3 t0
        obtain ⟨z1, e1, _⟩ := DataW.trod_int Try.underlying3 t1
        obtain ⟨z2, e2, _⟩ := DataW.trod_int Try.underlying3 t2
        simp only [List.cons.injEq, and_true] at e0 e1 e2
        subst e0 e1 e2
        exact ⟨(z0, z1, z2), fun _ => ⟨c0, c1, c2⟩⟩
      · exact ⟨(0, 0, 0), fun h => absurd h hi⟩
    exact ⟨fun i => Classical.choose (h3 i), ⟨hm, hc, fun _ => ⟨ad, rfl, fun i hi => Classical.choose_spec (h3 i) hi⟩⟩⟩
  · exact ⟨fun _ => (0, 0, 0), ⟨hm, hc, fun h => absurd h h0⟩⟩
theorem walkUndoPlays (W : World) (a : Option Addr) (len cap : Nat) (E : Nat → Int × Int × Int) (h : Acts3 W a len cap E) :
    Calls Try.prog 7 #[.slice a len cap] W fun e w' => e = .returned (.bool true) ∧ Below W.heap.size W w' := undoplays_any W a len cap E h
end Go.Proofs.Ytmdcalkfapcafaa
