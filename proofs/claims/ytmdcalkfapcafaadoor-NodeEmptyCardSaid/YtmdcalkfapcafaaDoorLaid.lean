/-
  The rounds' numbers lie in the package's variable: out of the row's condition.
-/
import Derived.Test.YtmdcalkfapcafaaDoorRows
import Derived.Test.YtmdcalkfapcafaaDoorShaE
import Derived.OpenShut
import Derived.LaidMore
namespace Go.Proofs.YtmdcalkfapcafaaDoor
open Go.ChangeShapes Go.WideShapes Go.ChangeAt Go.RowKit

theorem laid_list : (Rows.laid_stereobate_sha_rounds : DataW Unit) = .agg (((List.range 64).map fun i => ((Kr i).toNat : Int)).map fun n => .lit (.int .u32 n)) := by kernel_rfl

theorem laid_of {W : World} (h : laidMetH Tryd.prog [("stereobate/sha.rounds", Rows.laid_stereobate_sha_rounds)] W) : Laid W := by
  rw [MakeChecks.laidMetH_plain _ _ _ (by kernel_rfl)] at h
  obtain ⟨ps, ⟨g, t, cs, fuel, p, q, hg, ht, hv, hd, _, _⟩, _, _⟩ := h
  obtain rfl := Option.some.inj ((show Tryd.prog.globalNamed "stereobate/sha.rounds" = some 0 by kernel_rfl).symm.trans hg)
  obtain rfl := Option.some.inj ((show (Tryd.prog.globals[0]?).map (·.type) = some 64 by kernel_rfl).symm.trans ht)
  intro r v hr
  have hr64 : r < 64 := by have := (List.getElem?_eq_some_iff.1 hr).1; rwa [roundCells_length] at this
  rw [roundCells_get r hr64] at hr
  injection hr with hr
  subst hr
  rw [laid_list] at hd
  obtain ⟨xs, m, _, ex, _, hl, hel⟩ := DataW.trod_array Tryd.underlying64 hd
  have c5 : Tryd.prog.cellsOf 53 = 1 := by kernel_rfl
  have hE := hel r hr64
  rw [c5, Nat.mul_one, List.getElem?_eq_getElem (by omega)] at hE
  obtain ⟨z, e1, e2, _⟩ := DataW.trod_int Tryd.underlying53 hE
  have e3 : (xs.map (·.1)) = ((List.range 64).map fun i => ((Kr i).toNat : Int)).map fun n => .lit (.int .u32 n) := (DataW.agg.inj (Prod.mk.inj ex).1).symm
  have e4 : (xs.map (·.1))[r]? = (((List.range 64).map fun i => ((Kr i).toNat : Int)).map fun n => (DataW.lit (.int .u32 n) : DataW Unit))[r]? := by rw [e3]
  rw [List.getElem?_map, List.getElem?_map, List.getElem?_eq_getElem (by omega : r < xs.length), List.getElem?_map, List.getElem?_range hr64, e2] at e4
  have hz : z = ((Kr r).toNat : Int) := by
    simpa only [Option.map_some, Option.some.injEq, DataW.lit.injEq, Lit.int.injEq, true_and] using e4
  rw [Nat.zero_add, World.var?_cell hg hv r]
  have : cs.toList[r]? = some (.int .u32 z) := by
    have h0 : ((cs.toList.drop r).take 1)[0]? = some (.int .u32 z) := by rw [e1]; rfl
    simpa using h0
  rw [hz] at this
  simpa using this
end Go.Proofs.YtmdcalkfapcafaaDoor
