/-
  What an argument of whole numbers reads: arrays, structs, by value.
-/
import Derived.Test.YtmdcalkfapcafaaDoorBase
import Derived.ProofKit
import Derived.OpenShut
namespace Go.Proofs.YtmdcalkfapcafaaDoor
open Go.ChangeShapes Go.WideShapes Go.ChangeAt Go.RowKit

section
variable {H : Type} {enc : TypeId × Value → H} {P : Program} {w : World} {held : Bool}
/-- A value of this type is whole numbers alone, of one kind. -/
def Ints (P : Program) (k : IntKind) (t : TypeId) : Prop := ∀ (H : Type) (enc : TypeId × Value → H) (w : World) (base : Nat) (spare : Nat → Bool) (held : Bool) (fuel : Nat) (cs : List Value) (x : DataW H × List MemPlace),
  DataW.trod enc P w base spare held fuel t cs = some x → cs.length = P.cellsOf t ∧ ∀ c ∈ cs, ∃ z, c = .int k z ∧ (Lit.int k z).wf = true
theorem Ints.int {k : IntKind} {t : TypeId} (ht : P.underlying t = some (.int k)) (hc : P.cellsOf t = 1) : Ints P k t := fun H enc w base spare held fuel cs x h => by
  obtain ⟨n, rfl, _, hw⟩ := DataW.trod_int ht h
  exact ⟨by simp [hc], by simp [hw]⟩
theorem Ints.arr {k : IntKind} {t e : TypeId} {n : Nat} (ht : P.underlying t = some (.array n e)) (he : Ints P k e) (hc : P.cellsOf t = n * P.cellsOf e) : Ints P k t := fun H enc w base spare held fuel cs x h => by
  obtain ⟨xs, m, _, _, hl, hx, hi⟩ := DataW.trod_array ht h
  refine ⟨hl, fun c hm => ?_⟩
  obtain ⟨j, hj, rfl⟩ := List.getElem_of_mem hm
  have hjn : j < n * P.cellsOf e := by omega
  have hpos : 0 < P.cellsOf e := by
    rcases Nat.eq_zero_or_pos (P.cellsOf e) with h0 | h0
    · rw [h0] at hjn; simp at hjn
    · exact h0
  have hq : j / P.cellsOf e < n := by rw [Nat.div_lt_iff_lt_mul hpos]; exact hjn
  have h1 := hi _ hq
  rw [List.getElem?_eq_getElem (by omega)] at h1
  refine (he _ _ _ _ _ _ _ _ _ h1).2 _ ?_
  refine List.mem_iff_getElem?.2 ⟨j % P.cellsOf e, ?_⟩
  rw [List.getElem?_take, if_pos (Nat.mod_lt _ hpos), List.getElem?_drop, Nat.div_mul_self_eq_mod_sub_self, Nat.sub_add_cancel (Nat.mod_le _ _), List.getElem?_eq_getElem hj]
theorem ints_bytes : ∀ (cs : List Value), (∀ c ∈ cs, ∃ z, c = .int .u8 z ∧ (Lit.int .u8 z).wf = true) → ∃ s : List UInt8, cs = byteCells s
  | [], _ => ⟨[], rfl⟩
  | c :: cs, h => by
    obtain ⟨s, rfl⟩ := ints_bytes cs fun c hc => h c (by simp [hc])
    obtain ⟨z, rfl, hz⟩ := h c (by simp)
    have hb : 0 ≤ z ∧ z ≤ 255 := by
      simp [Lit.wf, IntKind.min, IntKind.max, IntKind.signed, IntKind.bits] at hz
      omega
    refine ⟨UInt8.ofNat z.toNat :: s, ?_⟩
    simp only [byteCells, List.map_cons]
    rw [UInt8.toNat_ofNat', Nat.mod_eq_of_lt (by omega)]
    congr 2; omega
theorem args_bytes {t e : TypeId} {n : Nat} {v : Value} {r : Reach} {b0 : Nat} {x : DataW H} {ps : List MemPlace} (ht : P.underlying t = some (.array n e)) (hi : Ints P .u8 t) (hv : Value.okWide P w r b0 t v)
    (h : DataW.Trod enc P w 0 (fun _ => true) held t v x ps) : ∃ s : List UInt8, v = .agg (byteCells s).toArray ∧ s.length = P.cellsOf t := by
  simp only [Value.okWide, ht] at hv
  obtain ⟨cs, rfl, h2, _⟩ := hv
  obtain ⟨fuel, hf⟩ := h
  obtain ⟨hl, hc⟩ := hi _ _ _ _ _ _ _ _ _ hf
  obtain ⟨s, hs⟩ := ints_bytes _ hc
  have hcs : cs.toList = byteCells s := hs
  have hsl : s.length = cs.size := by rw [← byteCells_length, ← hcs]; simp
  refine ⟨s, ?_, hsl.trans h2⟩
  rw [← hcs]
end
end Go.Proofs.YtmdcalkfapcafaaDoor
