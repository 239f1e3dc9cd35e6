/-
  What a slice argument reads.
-/
import Derived.Test.YtmdcalkfapcafaaDoorBase
import Derived.ProofKit
import Derived.OpenShut
import Derived.Deep.Grids
import Derived.SliceStrings
namespace Go.Proofs.YtmdcalkfapcafaaDoor
open Go.ChangeShapes Go.WideShapes Go.ChangeAt Go.RowKit

variable {H : Type} {enc : TypeId × Value → H} {P : Program} {w : World} {held : Bool}
theorem args_ints {t e : TypeId} {k : IntKind} {a : Option Addr} {len cap : Nat} {x : DataW H × List MemPlace} (ht : P.underlying t = some (.slice e)) (he : P.underlying e = some (.int k)) (hc : P.cellsOf e = 1)
    (h : ∃ fuel, DataW.trod enc P w 0 (fun _ => true) held fuel t [.slice a len cap] = some x) : ∃ E : Nat → Int, SliceOf w a len cap (fun i => .int k (E i)) ∧ ∀ i, i < len → (Lit.int k (E i)).wf = true := by
  obtain ⟨fuel, hf⟩ := h
  rcases open_ints ht he hc hf with ⟨hcs, _⟩ | ⟨y, l, c, zs, hcs, _, hl, hm, hz, _, hcell, hwz⟩
  · simp at hcs
    obtain ⟨rfl, rfl, rfl⟩ := hcs
    exact ⟨fun _ => 0, ⟨by simp, by simp, .inl ⟨rfl, rfl⟩⟩, fun i hi => by omega⟩
  · simp at hcs
    obtain ⟨rfl, rfl, rfl⟩ := hcs
    simp at hz
    refine ⟨fun i => zs.getD i 0, ⟨by omega, hl, .inr ⟨y, rfl, fun i hi => hcell i (by omega)⟩⟩, fun i hi => hwz _ ?_⟩
    have h1 : i < zs.length := by omega
    show zs.getD i 0 ∈ zs
    rw [List.getD_eq_getElem?_getD, List.getElem?_eq_getElem h1]
    exact List.getElem_mem _
theorem args_bools {t e : TypeId} {a : Option Addr} {len cap : Nat} {x : DataW H × List MemPlace} (ht : P.underlying t = some (.slice e)) (he : P.underlying e = some .bool) (hc : P.cellsOf e = 1)
    (h : ∃ fuel, DataW.trod enc P w 0 (fun _ => true) held fuel t [.slice a len cap] = some x) : ∃ B : Nat → Bool, SliceOf w a len cap (fun i => .bool (B i)) := by
  obtain ⟨fuel, hf⟩ := h
  rcases Deep.open_bools ht he hc hf with ⟨hcs, _⟩ | ⟨y, l, c, B, hcs, _, hl, hm, _, hcell⟩
  · simp at hcs
    obtain ⟨rfl, rfl, rfl⟩ := hcs
    exact ⟨fun _ => false, ⟨by simp, by simp, .inl ⟨rfl, rfl⟩⟩⟩
  · simp at hcs
    obtain ⟨rfl, rfl, rfl⟩ := hcs
    exact ⟨B, ⟨by omega, hl, .inr ⟨y, rfl, fun i hi => hcell i (by omega)⟩⟩⟩
theorem args_strings {t e : TypeId} {a : Option Addr} {len cap : Nat} {x : DataW H × List MemPlace} (ht : P.underlying t = some (.slice e)) (he : P.underlying e = some .string) (hc : P.cellsOf e = 1)
    (h : ∃ fuel, DataW.trod enc P w 0 (fun _ => true) held fuel t [.slice a len cap] = some x) : ∃ T : Nat → List UInt8, SliceOf w a len cap (fun i => .string (S (T i))) ∧ ∀ i, i < len → (T i).length ≤ maxLen := by
  obtain ⟨fuel, hf⟩ := h
  rcases open_strings ht he hc hf with ⟨hcs, _⟩ | ⟨y, l, c, ss, hcs, _, hl, hm, hz, _, hcell, hsz⟩
  · simp at hcs
    obtain ⟨rfl, rfl, rfl⟩ := hcs
    exact ⟨fun _ => [], ⟨by simp, by simp, .inl ⟨rfl, rfl⟩⟩, fun i hi => by omega⟩
  · simp at hcs
    obtain ⟨rfl, rfl, rfl⟩ := hcs
    simp at hz
    refine ⟨fun i => (ss.getD i ByteArray.empty).data.toList, ⟨by omega, hl, .inr ⟨y, rfl, fun i hi => ?_⟩⟩, fun i hi => ?_⟩
    · show w.cell? (y.add i) = some (Value.string (S ((ss.getD i ByteArray.empty).data.toList)))
      rw [S_of]; exact hcell i (by omega)
    · have h1 : i < ss.length := by omega
      have := hsz (ss.getD i ByteArray.empty) (by rw [List.getD_eq_getElem?_getD, List.getElem?_eq_getElem h1]; exact List.getElem_mem _)
      exact this

end Go.Proofs.YtmdcalkfapcafaaDoor
