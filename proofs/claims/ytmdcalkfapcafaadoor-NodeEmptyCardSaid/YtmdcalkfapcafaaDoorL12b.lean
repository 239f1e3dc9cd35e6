/-
  Law 12's NodeSlots.
-/
import Derived.Test.YtmdcalkfapcafaaDoorL12a
namespace Go.Proofs.YtmdcalkfapcafaaDoor
open Go.RowKit

theorem i64_and65535 (n : Int) : bits .and .i64 n 65535 = n % 65536 := by
  have h3 : (BitVec.ofInt 64 65535).toNat = 2 ^ 16 - 1 := by decide
  have key : (BitVec.ofInt 64 n &&& BitVec.ofInt 64 65535).toNat = (n % ((2 ^ 64 : Nat) : Int)).toNat % 2 ^ 16 := by
    rw [BitVec.toNat_and, BitVec.toNat_ofInt, h3, Nat.and_two_pow_sub_one_eq_mod]
  show IntKind.i64.wrap ((BitVec.ofInt 64 n &&& BitVec.ofInt 64 65535).toNat : Nat) = n % 65536
  rw [key, IntKind.wrap_i64]
  omega

/-- A walk's fact, over a world that has moved on. -/
theorem slot_law (a n : Nat) : a / n % 8 * n + a % n = a % (8 * n) := by
  rw [Nat.mul_comm 8 n, Nat.mod_mul, Nat.mul_comm n, Nat.add_comm]

set_option maxHeartbeats 1000000 in
theorem walkNodeSlots (w : World) (level x : Int) (_h1 : (Lit.int .i64 level).wf = true) (_h2 : (Lit.int .i64 x).wf = true) (_hL : Laid w) :
    Calls Tryd.prog 8 #[.int .i64 level, .int .i64 x] w fun e w' => e = .returned (.bool true) ∧ Below w.heap.size w w' := by
  obtain ⟨a, ha, ha2⟩ : ∃ a : Nat, bits .and .i64 x 65535 = (a : Int) ∧ a ≤ 65535 := ⟨(x % 65536).toNat, by rw [i64_and65535]; omega, by omega⟩
  obtain ⟨r, hr, hr2⟩ : ∃ r : Nat, min (max level 0) 2 = (r : Int) ∧ r ≤ 2 := ⟨(min (max level 0) 2).toNat, by omega, by omega⟩
  have hb : below12 level = 8 ^ r := by
    unfold below12
    rcases (by omega : r = 0 ∨ r = 1 ∨ r = 2) with rfl | rfl | rfl
    · rw [if_pos (by omega)]
    · rw [if_neg (by omega), if_pos (by omega)]
    · rw [if_neg (by omega), if_neg (by omega)]
  go_enter Tryd.func8, Tryd.ntmps8
  go_wp2_with fail
  refine (awake12 w).mono ?_
  rintro e w1 ⟨rfl, hB1⟩
  have HB1 := hid hB1
  have Hb := hid hb
  clear hB1 hb
  go_wp2_with fail
  go_loopw [5, 6] (fun m i w' => ∃ k : Nat, k ≤ r ∧ i = .int .i64 k ∧ m = .int .i64 ((8 ^ k : Nat) : Int) ∧ w' = w1) (fun _ i _ => ((r : Int) - intOf i).toNat)
  case atStart => exact ⟨0, by omega, rfl, rfl, rfl⟩
  case round =>
    obtain ⟨k, hk, rfl, rfl, rfl⟩ := hrel
    by_cases hkr : k < r
    · have hlt : (k : Int) < (r : Int) := by omega
      have h64 : 8 ^ k ≤ 64 := by rcases (by omega : k = 0 ∨ k = 1 ∨ k = 2) with rfl | rfl | rfl <;> decide
      have hq : 8 ^ (k + 1) = 8 ^ k * 8 := Nat.pow_succ _ _
      generalize 8 ^ k = p at *
      generalize hqq : 8 ^ (k + 1) = q at *
      have Hq : Hid (Value.int .i64 (q : Int) = Value.int .i64 ((8 ^ (k + 1) : Nat) : Int)) := hid (by rw [hqq])
      clear hqq
      have hw : IntKind.i64.wrap ((p : Int) * 8) = (q : Int) := by rw [IntWalk.i64_in _ (by omega)]; omega
      clear h64 hq
      go_wp2
      go_roundw
      case rel => exact ⟨k + 1, by omega, by go_num, Hq.out, trivial⟩
      case measure => simp [intOf]; omega
    · have hlt : ¬ (k : Int) < (r : Int) := by omega
      obtain rfl : k = r := by omega
      rw [← Hb.out]
      have hsl := slot_any level a ha2
      have hsp := span_any level
      have hlaw := slot_law a (below12 level)
      obtain ⟨n1, n2⟩ := below12_pos level
      generalize below12 level = n at *
      have q2 : (a : Int).tdiv (n : Int) = ((a / n : Nat) : Int) := by rw [Int.tdiv_eq_ediv_of_nonneg (by omega)]; exact (Int.natCast_ediv a n).symm
      have q3 : ((a / n : Nat) : Int).tmod 8 = ((a / n % 8 : Nat) : Int) := by rw [Int.tmod_eq_emod_of_nonneg (Int.natCast_nonneg _)]; exact (Int.natCast_emod _ 8).symm
      have q4 : (a : Int).tmod (n : Int) = ((a % n : Nat) : Int) := by rw [Int.tmod_eq_emod_of_nonneg (by omega)]; exact (Int.natCast_emod a n).symm
      have hz : ∀ z : Nat, z ≤ 65535 → IntKind.i64.wrap (z : Int) = (z : Int) := fun z hz => IntWalk.i64_in _ (by omega)
      have q6 := hz (a / n) (Nat.le_trans (Nat.div_le_self a n) ha2)
      have q7 : n ≠ 0 := by omega
      have hx8 : a / n % 8 < 8 := Nat.mod_lt _ (by decide)
      have hyn : a % n < n := Nat.mod_lt _ (by omega)
      have q8 : IntKind.i64.wrap (8 * (n : Int)) = ((8 * n : Nat) : Int) := by rw [IntWalk.i64_in _ (by omega)]; omega
      have q9 : (a : Int).tmod ((8 * n : Nat) : Int) = ((a % (8 * n) : Nat) : Int) := by rw [Int.tmod_eq_emod_of_nonneg (by omega)]; exact (Int.natCast_emod a (8 * n)).symm
      have hxn : a / n % 8 * n ≤ 7 * n := Nat.mul_le_mul_right _ (by omega)
      have q10 : IntKind.i64.wrap (((a / n % 8 : Nat) : Int) * (n : Int)) = ((a / n % 8 * n : Nat) : Int) := by rw [← Int.natCast_mul]; exact hz _ (by omega)
      have q11 : IntKind.i64.wrap (((a / n % 8 * n : Nat) : Int) + ((a % n : Nat) : Int)) = ((a % (8 * n) : Nat) : Int) := by rw [← hlaw, ← Int.natCast_add]; exact hz _ (by omega)
      have q12 : 8 * n ≠ 0 := by omega
      generalize a / n % 8 * n = u at *
      generalize a / n % 8 = xx at *
      generalize a % (8 * n) = z8 at *
      generalize a % n = y at *
      generalize a / n = z at *
      generalize 8 * n = m at *
      have Hsl := hid hsl
      have Hsp := hid hsp
      clear hsl hsp hlaw n1 n2 hz hx8 hyn hxn ha2 hr2 hk hkr ha
      go_wp2_with fail
      refine (Hsl.out wr).mono ?_
      rintro e w2 ⟨rfl, hB2⟩
      have HB2 := hid (HB1.out.trans (hB2.mono HB1.out.size))
      clear hB2
      go_wp2_with fail
      refine (Hsp.out w2).mono ?_
      rintro e w3 ⟨rfl, rfl⟩
      go_wp2_with fail
      go_ret
      exact ⟨rfl, HB2.out⟩
end Go.Proofs.YtmdcalkfapcafaaDoor
