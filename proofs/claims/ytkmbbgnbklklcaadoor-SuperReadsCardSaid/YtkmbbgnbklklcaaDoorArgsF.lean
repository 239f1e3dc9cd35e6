/-
  What an argument that is a struct of five whole numbers reads.
-/
import Derived.Test.YtkmbbgnbklklcaaDoorArgsA
import Derived.Deep.Fields
import Derived.ChangeSame
namespace Go.Proofs.YtkmbbgnbklklcaaDoor
open Go.ChangeShapes Go.WideShapes Go.ChangeAt Go.Deep Go.RowKit

section
variable {H : Type} {enc : TypeId × Value → H} {P : Program} {w : World} {held : Bool}
theorem Ints.struct {k : IntKind} {t : TypeId} {fs : Array Field} (ht : P.underlying t = some (.struct fs)) (hone : oneCellFields P fs = true) (hC : P.cellsOf t = fs.size) {ti : TypeId} (hti : Ints P k ti) (hk : (fs.toList.all fun f => decide (f.type = ti)) = true) : Ints P k t := fun H enc w base spare held fuel cs x h => by
  obtain ⟨ys, n, _, _, hl, _, hf⟩ := DataW.trod_struct ht h
  refine ⟨hl, fun c hm => ?_⟩
  obtain ⟨j, hj, rfl⟩ := List.getElem_of_mem hm
  have hjs : j < fs.size := by omega
  have hfj : fs[j]? = some fs[j] := Array.getElem?_eq_getElem hjs
  obtain ⟨ho, hc⟩ := hone_of hone j _ hfj
  have h1 := hf j _ hfj
  rw [ho, hc, List.getElem?_eq_getElem (by omega)] at h1
  have htj : fs[j].type = ti := by
    have h2 := List.all_eq_true.1 hk fs[j] (by simp)
    simpa using h2
  rw [htj] at h1
  refine (hti _ _ _ _ _ _ _ _ _ h1).2 _ ?_
  rw [List.drop_eq_getElem_cons hj]
  exact List.mem_cons_self
theorem args_five {t : TypeId} {fs : Array Field} {v : Value} {r : Reach} {b0 : Nat} {x : DataW H} {ps : List MemPlace} (ht : P.underlying t = some (.struct fs)) (hi : Ints P .i64 t) (hC : P.cellsOf t = 5) (hv : Value.okWide P w r b0 t v)
    (h : DataW.Trod enc P w 0 (fun _ => true) held t v x ps) : ∃ a b c d e : Int, v = .agg #[.int .i64 a, .int .i64 b, .int .i64 c, .int .i64 d, .int .i64 e] := by
  simp only [Value.okWide, ht] at hv
  obtain ⟨cs, rfl, h2, _⟩ := hv
  obtain ⟨fuel, hf⟩ := h
  obtain ⟨hl, hc⟩ := hi _ _ _ _ _ _ _ _ _ hf
  change cs.toList.length = _ at hl
  change ∀ c ∈ cs.toList, _ at hc
  obtain ⟨cs⟩ := cs
  simp only at hl hc
  rw [hC] at hl
  match cs, hl with
  | [v1, v2, v3, v4, v5], _ =>
    obtain ⟨a, rfl, _⟩ := hc v1 (by simp)
    obtain ⟨b, rfl, _⟩ := hc v2 (by simp)
    obtain ⟨c, rfl, _⟩ := hc v3 (by simp)
    obtain ⟨d, rfl, _⟩ := hc v4 (by simp)
    obtain ⟨e, rfl, _⟩ := hc v5 (by simp)
    exact ⟨a, b, c, d, e, rfl⟩
end
end Go.Proofs.YtkmbbgnbklklcaaDoor
