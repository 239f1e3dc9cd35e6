/-
  Law 12: node's Span, Slot, Empty; Digest of no kids; what is awake.
-/
import Derived.Test.YtmdcalkfapcafaaDoorL01a
import Derived.StillTailTactics
namespace Go.Proofs.YtmdcalkfapcafaaDoor
open Go.RowKit

/-- How many extents lie below a kid. -/
def below12 (level : Int) : Nat := if level ≤ 0 then 1 else if level = 1 then 8 else 64
theorem span_any (level : Int) (w : World) : Calls Tryd.prog 23 #[.int .i64 level] w fun e w' => e = .returned (.int .i64 ((8 * below12 level : Nat) : Int)) ∧ w' = w := by
  obtain ⟨r, hr, hr2⟩ : ∃ r : Nat, min (max level 0) 2 = (r : Int) ∧ r ≤ 2 := ⟨(min (max level 0) 2).toNat, by omega, by omega⟩
  have hb : below12 level = 8 ^ r := by
    unfold below12
    rcases (by omega : r = 0 ∨ r = 1 ∨ r = 2) with rfl | rfl | rfl
    · rw [if_pos (by omega)]
    · rw [if_neg (by omega), if_pos (by omega)]
    · rw [if_neg (by omega), if_neg (by omega)]
  rw [hb]
  have Hr := hid hr
  clear hb
  go_enter Tryd.func23, Tryd.ntmps23
  go_wp2
  clear hr
  have e8 : ∀ k : Nat, k < r → ((8 * 8 ^ k : Nat) : Int) * 8 = ((8 * 8 ^ (k + 1) : Nat) : Int) := fun k _ => by rw [Nat.pow_succ]; omega
  have hlt8 : ∀ k : Nat, k ≤ r → 8 ^ k ≤ 64 := fun k hk => by
    rcases (by omega : k = 0 ∨ k = 1 ∨ k = 2) with rfl | rfl | rfl <;> decide
  go_loopw [3, 7] (fun m i w' => ∃ k : Nat, k ≤ r ∧ i = .int .i64 k ∧ m = .int .i64 ((8 * 8 ^ k : Nat) : Int) ∧ w' = w) (fun _ i _ => ((r : Int) - intOf i).toNat)
  case atStart => exact ⟨0, by omega, rfl, rfl, rfl⟩
  case round =>
    obtain ⟨k, hk, rfl, rfl, rfl⟩ := hrel
    by_cases hkr : k < r
    · have hlt : (k : Int) < (r : Int) := by omega
      have h8 := e8 k hkr
      have h64 := hlt8 k (by omega)
      have hw : IntKind.i64.wrap (((8 * 8 ^ k : Nat) : Int) * 8) = ((8 * 8 ^ (k + 1) : Nat) : Int) := by rw [IntWalk.i64_in _ (by omega)]; exact h8
      generalize 8 * 8 ^ k = p at *
      generalize hq : 8 * 8 ^ (k + 1) = q at *
      have Hq := hid hq
      clear h8 h64 e8 hlt8 hq
      go_wp2
      go_roundw
      case rel => exact ⟨k + 1, by omega, by go_num, by rw [Hq.out], trivial⟩
      case measure => simp [intOf]; omega
    · have hlt : ¬ (k : Int) < (r : Int) := by omega
      obtain rfl : k = r := by omega
      go_wp2
      go_ret
      exact ⟨rfl, rfl⟩

theorem below12_pos (level : Int) : 1 ≤ below12 level ∧ below12 level ≤ 64 := by
  unfold below12; split
  · decide
  · split <;> decide
set_option maxHeartbeats 1000000 in
theorem slot_any (level : Int) (a : Nat) (ha : a ≤ 65535) (w : World) : Calls Tryd.prog 22 #[.int .i64 level, .int .i64 (a : Int)] w fun e w' =>
    e = .returned (.tuple #[.int .i64 ((a / below12 level % 8 : Nat) : Int), .int .i64 ((a % below12 level : Nat) : Int)]) ∧ Below w.heap.size w w' := by
  obtain ⟨h1, h2⟩ := below12_pos level
  have hsp := span_any level w
  generalize below12 level = n at *
  have hsp := hid hsp
  have q1 : ((8 * n : Nat) : Int).tdiv 8 = (n : Int) := by rw [Int.tdiv_eq_ediv_of_nonneg (by omega)]; omega
  have q2 : (a : Int).tdiv (n : Int) = ((a / n : Nat) : Int) := by rw [Int.tdiv_eq_ediv_of_nonneg (by omega)]; exact (Int.natCast_ediv a n).symm
  have q3 : ((a / n : Nat) : Int).tmod 8 = ((a / n % 8 : Nat) : Int) := by rw [Int.tmod_eq_emod_of_nonneg (Int.natCast_nonneg _)]; exact (Int.natCast_emod _ 8).symm
  have q4 : (a : Int).tmod (n : Int) = ((a % n : Nat) : Int) := by rw [Int.tmod_eq_emod_of_nonneg (by omega)]; exact (Int.natCast_emod a n).symm
  have hz : ∀ z : Nat, z ≤ 65535 → IntKind.i64.wrap (z : Int) = (z : Int) := fun z hz => IntWalk.i64_in _ (by omega)
  have q5 := hz n (by omega)
  have q6 := hz (a / n) (Nat.le_trans (Nat.div_le_self a n) ha)
  clear hz
  have q7 : (n : Int) ≠ 0 := by omega
  have q8 : n ≠ 0 := by omega
  generalize a / n % 8 = x at *
  generalize a % n = y at *
  generalize a / n = z at *
  generalize 8 * n = m at *
  clear h1 h2 ha
  go_enter Tryd.func22, Tryd.ntmps22
  go_upto_region 2 with (refine hsp.out.mono ?_; rintro e w' ⟨rfl, rfl⟩)
  go_still (by kernel_rfl)
  go_wp2
  go_ret2
  exact ⟨rfl, (Below.refl _ w').drew⟩

set_option maxRecDepth 100000 in
theorem eq_kids0 (w : World) : (Op.equalIn 10000 45 (.agg #[.int .i64 0, .int .i64 0, .int .i64 0, .int .i64 0, .int .i64 0, .int .i64 0, .int .i64 0, .int .i64 0]) (.agg #[.int .i64 0, .int .i64 0, .int .i64 0, .int .i64 0, .int .i64 0, .int .i64 0, .int .i64 0, .int .i64 0])).run Tryd.prog w = .ok true w := by kernel_rfl
/-- Noughts. -/
def zeros (n : Nat) : Array Value := (List.replicate n (Value.int .u8 0)).toArray
set_option maxRecDepth 100000 in
theorem eq_sums0 (w : World) : (Op.equalIn 10000 36 (.agg (zeros 256)) (.agg (zeros 256))).run Tryd.prog w = .ok true w := by kernel_rfl
/-- A node without anything. -/
def nodeZero : Array Value := #[.int .i64 0, .int .i64 0, .int .i64 0, .int .i64 0, .int .i64 0, .int .i64 0, .int .i64 0, .int .i64 0, .int .i64 0] ++ (List.replicate 32 (.int .u8 0)).toArray
set_option maxRecDepth 100000 in
theorem empty_zero (w : World) : Calls Tryd.prog 24 #[.agg nodeZero] w fun e w' => e = .returned (.bool true) ∧ Below w.heap.size w w' := by
  unfold nodeZero
  have h0 := eq_kids0
  go_enter Tryd.func24, Tryd.ntmps24
  go_wp2
  go_ret
  exact ⟨rfl, (Below.refl _ _).alloc (Nat.le_refl _) _⟩
theorem wpList_value {P : Program} {ops : Array Oper} {rest : List Oper} {o : Oper} {a : Act} {w : World} {Q : Exit → Act → World → Prop} (hg : o.guard = none) (v : Value) (hr : (execOp a.eval o).run P w = .ok (.value v) w)
    (h : wpList P ops Q rest (a.put o.dst v) w) : wpList P ops Q (o :: rest) a w :=
  wpList_plain hg fun K hK => by unfold Oper.wp; rw [hr]; exact hK _ _ h
set_option maxRecDepth 100000 in
theorem digest_zero (w : World) (level : Int) : Calls Tryd.prog 20 #[.int .i64 level, .agg (zeros 256)] w fun e w' => e = .returned (.agg (zeros 32)) ∧ Below w.heap.size w w' := by
  have h0 := eq_sums0
  go_enter Tryd.func20, Tryd.ntmps20
  go_upto_region 1 with fail
  rename_i hK1
  change Code.wp _ _ _ _ ((w.alloc (Obj.cells (zeros 256) 36)).alloc (Obj.cells (zeros 32) 25))
  have h1 := two_old w (Obj.cells (zeros 256) 36) (Obj.cells (zeros 32) 25)
  have h2 := two_new w (Obj.cells (zeros 256) 36) (Obj.cells (zeros 32) 25)
  have hB : Below w.heap.size w ((w.alloc (Obj.cells (zeros 256) 36)).alloc (Obj.cells (zeros 32) 25)) := ((Below.refl _ _).alloc (Nat.le_refl _) _).alloc (by simp) _
  generalize (w.alloc (Obj.cells (zeros 256) 36)).alloc (Obj.cells (zeros 32) 25) = w1 at *
  refine wp_region_lit ?_
  refine wpList_load_row rfl 36 (.tmp 3) rfl w.heap.size rfl _ _ _ _ h1 Tryd.underlying36 rfl (by kernel_rfl) ?_
  refine wpList_value rfl (.agg (zeros 256)) (by kernel_rfl) ?_
  refine wpList_value rfl (.bool true) (by kernel_rfl) ?_
  refine wpList_nil ?_
  simp only [Exit.then, Act.put]
  refine hK1 _ _ ?_
  simp only [List.setIfInBounds_toArray, List.set_cons_succ, List.set_cons_zero]
  have hth := there_of_block h2
  have hw := heap_setCells_all h2 (zeros 32).toList (by simp)
  rw [Array.toArray_toList] at hw
  have hone : (zeros 32).all (·.oneCell') = true := by
    refine all_oneCell_toArray fun v hv => ?_
    rw [List.eq_of_mem_replicate hv]; rfl
  have hB2 : Below w.heap.size w (w1.setCells (w.heap.size + 1) 0 (zeros 32).toList) := Below.setCells (by omega) _ _ _ hB
  have Hth := hid hth
  have Hw := hid hw
  have Hone := hid hone
  have HB2 := hid hB2
  clear hth hw hone hB2 h0 h1 h2 hB
  go_upto_region 2 with fail
  rename_i hK2
  refine wp_region_lit ?_
  refine wpList_value rfl (.agg (zeros 32)) (by kernel_rfl) ?_
  refine wpList_store_mid rfl 25 (.tmp 4) (.tmp 11) rfl (w.heap.size + 1) 0 (zeros 32) rfl rfl Hth.out (by kernel_rfl) Hone.out ?_
  refine wpList_nil ?_
  simp only [Exit.then, Act.put]
  refine hK2 _ _ ?_
  refine wp_ret ?_
  simp only [Exit.then]
  have hres : Tryd.f20.results = #[.cell 4 25] := by kernel_rfl
  refine bodyPost_ret (P := Tryd.prog) (fn := Tryd.f20) (v := .agg (zeros 32)) ?_ rfl ⟨rfl, HB2.out⟩
  refine results_cell_row hres _ _ (w.heap.size + 1) _ (zeros 32) _ _ ?_ Hw.out Tryd.underlying25 rfl (by kernel_rfl)
  rw [Array.getD_eq_getD_getElem?, Array.getElem?_setIfInBounds_ne (by decide)]
  rfl

set_option maxRecDepth 100000 in
theorem eq_sum0 (w : World) : (Op.equalIn 10000 25 (.agg (zeros 32)) (.agg (zeros 32))).run Tryd.prog w = .ok true w := by kernel_rfl

set_option maxRecDepth 100000 in
theorem awake12 (w : World) : Calls Tryd.prog 19 #[] w fun e w' => e = .returned (.bool true) ∧ Below w.heap.size w w' := by
  have h0 := eq_sum0
  have z36 : ∀ w, (zeroValue 36).run Tryd.prog w = .ok (.agg (zeros 256)) w := fun w => by kernel_rfl
  have z25 : ∀ w, (zeroValue 25).run Tryd.prog w = .ok (.agg (zeros 32)) w := fun w => by kernel_rfl
  have z47 : ∀ w, (zeroValue 47).run Tryd.prog w = .ok (.agg nodeZero) w := fun w => by kernel_rfl
  go_enter Tryd.func19, Tryd.ntmps19
  go_wp2_with fail
  refine (slot_any 1 19 (by decide) w).mono ?_
  rintro e w1 ⟨rfl, hB1⟩
  have e1 : ((19 / below12 1 % 8 : Nat) : Int) = 2 := by decide
  have e2 : ((19 % below12 1 : Nat) : Int) = 3 := by decide
  rw [e1, e2]
  have HB1 := hid hB1
  clear hB1 e1 e2
  go_wp2_with fail
  refine (span_any 2 w1).mono ?_
  rintro e w2 ⟨rfl, rfl⟩
  rw [show ((8 * below12 2 : Nat) : Int) = 512 from by decide]
  go_wp2_with fail
  refine (digest_zero w2 0).mono ?_
  rintro e w3 ⟨rfl, hB3⟩
  have HB3 := hid (HB1.out.trans (hB3.mono HB1.out.size))
  clear hB3
  go_wp2_with fail
  refine (empty_zero w3).mono ?_
  rintro e w4 ⟨rfl, hB4⟩
  have HB4 := hid (HB3.out.trans (hB4.mono HB3.out.size))
  clear hB4
  go_wp2_with fail
  go_ret
  exact ⟨rfl, HB4.out⟩
end Go.Proofs.YtmdcalkfapcafaaDoor
