/-
  Law 12: a node with kids.
-/
import Derived.Test.YtmdcalkfapcafaaDoorL12f
import Derived.Test.YtmdcalkfapcafaaDoorHeld
namespace Go.Proofs.YtmdcalkfapcafaaDoor
open Go.RowKit

theorem isAggInt (w : World) : (isAgg 3).run Tryd.prog w = .ok false w := by kernel_rfl
def ints8 (ks : List Int) : List Value := ks.map (Value.int .i64)
/-- A node's cells. -/
def nodeC (b : Int) (ks : List Int) (s : List UInt8) : List Value := .int .i64 b :: (ints8 ks ++ byteCells s)
theorem nodeC_length {b : Int} {ks : List Int} {s : List UInt8} (hk : ks.length = 8) (hs : s.length = 32) : (nodeC b ks s).length = 41 := by simp [nodeC, ints8, byteCells, hk, hs]
theorem nodeC_one (b : Int) (ks : List Int) (s : List UInt8) : (nodeC b ks s).toArray.all (·.oneCell') = true := by
  refine all_oneCell_toArray fun v hv => ?_
  simp only [nodeC, ints8, byteCells, List.mem_cons, List.mem_append, List.mem_map] at hv
  rcases hv with rfl | ⟨c, _, rfl⟩ | ⟨c, _, rfl⟩ <;> rfl
def zero8 : Array Value := #[.int .i64 0, .int .i64 0, .int .i64 0, .int .i64 0, .int .i64 0, .int .i64 0, .int .i64 0, .int .i64 0]
set_option linter.unusedSimpArgs false in
theorem eq_ints (ks : List Int) (hk : ks.length = 8) (w : World) : (Op.equalIn 10000 45 (.agg (ints8 ks).toArray) (.agg #[.int .i64 0, .int .i64 0, .int .i64 0, .int .i64 0, .int .i64 0, .int .i64 0, .int .i64 0, .int .i64 0])).run Tryd.prog w = .ok (ks == List.replicate 8 0) w := by
  cases hq : Tryd.prog.info? 3 with
  | none =>
    have hi : (Tryd.prog.info? 3).isSome = true := by kernel_rfl
    rw [hq] at hi; cases hi
  | some i =>
    have hc : Tryd.prog.cellsOf 3 = 1 := by kernel_rfl
    have he0 : ∀ (d : Nat) (x y : Int) (w : World), (Op.equalIn (d + 1) 3 (.int .i64 x) (.int .i64 y)).run Tryd.prog w = .ok (x == y) w := fun d x y w => by
      simp [Op.equalIn, run_underlying Tryd.underlying3, Sem.run_bind]
    have he : ∀ (x y : Int) (w : World), (Op.equalIn 9999 3 (.int .i64 x) (.int .i64 y)).run Tryd.prog w = .ok (x == y) w := he0 9998
    clear he0
    rw [run_equalIn_array (P := Tryd.prog) w 9999 _ _ Tryd.underlying45 hq, hc]
    match ks, hk with
    | [a0, a1, a2, a3, a4, a5, a6, a7], _ =>
      have hp : ∀ (x0 x1 x2 x3 x4 x5 x6 x7 : Value) (w : World), (part 3 #[x0, x1, x2, x3, x4, x5, x6, x7] 0).run Tryd.prog w = .ok x0 w ∧ (part 3 #[x0, x1, x2, x3, x4, x5, x6, x7] 1).run Tryd.prog w = .ok x1 w ∧ (part 3 #[x0, x1, x2, x3, x4, x5, x6, x7] 2).run Tryd.prog w = .ok x2 w ∧ (part 3 #[x0, x1, x2, x3, x4, x5, x6, x7] 3).run Tryd.prog w = .ok x3 w ∧ (part 3 #[x0, x1, x2, x3, x4, x5, x6, x7] 4).run Tryd.prog w = .ok x4 w ∧ (part 3 #[x0, x1, x2, x3, x4, x5, x6, x7] 5).run Tryd.prog w = .ok x5 w ∧ (part 3 #[x0, x1, x2, x3, x4, x5, x6, x7] 6).run Tryd.prog w = .ok x6 w ∧ (part 3 #[x0, x1, x2, x3, x4, x5, x6, x7] 7).run Tryd.prog w = .ok x7 w := fun x0 x1 x2 x3 x4 x5 x6 x7 w => ⟨by kernel_rfl, by kernel_rfl, by kernel_rfl, by kernel_rfl, by kernel_rfl, by kernel_rfl, by kernel_rfl, by kernel_rfl⟩
      simp only [ints8, List.map_cons, List.map_nil, Op.eqItems, Sem.run_bind, he, hp, List.range_succ, List.range_zero, List.nil_append, List.cons_append, Nat.mul_one, Result.andThen_ok]
      by_cases h0 : a0 = 0
      case neg => simp [hp, he, h0, List.replicate]
      subst h0
      by_cases h1 : a1 = 0
      case neg => simp [hp, he, h1, List.replicate]
      subst h1
      by_cases h2 : a2 = 0
      case neg => simp [hp, he, h2, List.replicate]
      subst h2
      by_cases h3 : a3 = 0
      case neg => simp [hp, he, h3, List.replicate]
      subst h3
      by_cases h4 : a4 = 0
      case neg => simp [hp, he, h4, List.replicate]
      subst h4
      by_cases h5 : a5 = 0
      case neg => simp [hp, he, h5, List.replicate]
      subst h5
      by_cases h6 : a6 = 0
      case neg => simp [hp, he, h6, List.replicate]
      subst h6
      by_cases h7 : a7 = 0
      case neg => simp [hp, he, h7, List.replicate]
      subst h7
      simp [hp, he, List.replicate]
theorem node_range {w : World} {N : Nat} {b : Int} {ks : List Int} {s : List UInt8} {T : TypeId} (h : w.heap[N]? = some (.cells (nodeC b ks s).toArray T (0, 0))) : w.rangeAt N 1 (ints8 ks) := fun j v hv => by
  have hj := (List.getElem?_eq_some_iff.1 hv).1
  rw [cell_of_block h, List.getElem?_toArray, nodeC, Nat.add_comm, List.getElem?_cons_succ, List.getElem?_append_left hj]
  exact hv
set_option maxRecDepth 100000 in
theorem empty_any (b : Int) (ks : List Int) (s : List UInt8) (hk : ks.length = 8) (w : World) : Calls Tryd.prog 24 #[.agg (nodeC b ks s).toArray] w fun e w' => e = .returned (.bool (ks == List.replicate 8 0)) ∧ Below w.heap.size w w' := by
  have hq := eq_ints ks hk
  have hinf : (Tryd.prog.info? 45).map (·.size) = some (ints8 ks).length := by rw [show (ints8 ks).length = 8 from by simp [ints8, hk]]; kernel_rfl
  have hn := heap_new w (Obj.cells (nodeC b ks s).toArray 47)
  have hr := node_range hn
  generalize (ks == List.replicate 8 0) = bb at *
  go_enter Tryd.func24, Tryd.ntmps24
  go_wp2_with (refine wpList_load_mid rfl 45 (.tmp 3) rfl w.heap.size 1 rfl (ints8 ks) _ hr Tryd.underlying45 rfl hinf ?_)
  go_ret
  exact ⟨rfl, (Below.refl _ _).alloc (Nat.le_refl _) _⟩
end Go.Proofs.YtmdcalkfapcafaaDoor
