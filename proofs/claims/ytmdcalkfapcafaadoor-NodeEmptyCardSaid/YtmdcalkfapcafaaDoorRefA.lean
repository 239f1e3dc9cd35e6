/-
  The document's sums, as whole numbers: words, turned words, bytes.
-/
import Derived.Test.YtmdcalkfapcafaaDoorShaE
import Derived.StillTailTactics
namespace Go.Proofs.YtmdcalkfapcafaaDoor
open Go.RowKit

/-- A word, as the document's program holds it. -/
@[reducible] def WI (x : U) : Value := .int .i64 (x.toNat : Int)
theorem wrap_small (n : Nat) (h : n < 9223372036854775808) : IntKind.i64.wrap (n : Int) = (n : Int) := IntWalk.i64_in _ (by omega)
theorem ofInt_i64 (n : Nat) (h : n < 18446744073709551616) : (BitVec.ofInt 64 (n : Int)).toNat = n := by
  rw [BitVec.ofInt_natCast, BitVec.toNat_ofNat]; exact Nat.mod_eq_of_lt (by omega)
theorem xor_I (x y : U) : bits .xor .i64 (x.toNat : Int) (y.toNat : Int) = ((x ^^^ y).toNat : Int) := by
  have hx := x.isLt; have hy := y.isLt
  show IntKind.i64.wrap ((BitVec.ofInt 64 (x.toNat : Int) ^^^ BitVec.ofInt 64 (y.toNat : Int)).toNat : Int) = _
  rw [BitVec.toNat_xor, ofInt_i64 _ (by omega), ofInt_i64 _ (by omega), ← BitVec.toNat_xor]
  exact wrap_small _ (by have := (x ^^^ y).isLt; omega)
theorem and_I (x y : U) : bits .and .i64 (x.toNat : Int) (y.toNat : Int) = ((x &&& y).toNat : Int) := by
  have hx := x.isLt; have hy := y.isLt
  show IntKind.i64.wrap ((BitVec.ofInt 64 (x.toNat : Int) &&& BitVec.ofInt 64 (y.toNat : Int)).toNat : Int) = _
  rw [BitVec.toNat_and, ofInt_i64 _ (by omega), ofInt_i64 _ (by omega), ← BitVec.toNat_and]
  exact wrap_small _ (by have := (x &&& y).isLt; omega)
theorem or_I (x y : U) : bits .or .i64 (x.toNat : Int) (y.toNat : Int) = ((x ||| y).toNat : Int) := by
  have hx := x.isLt; have hy := y.isLt
  show IntKind.i64.wrap ((BitVec.ofInt 64 (x.toNat : Int) ||| BitVec.ofInt 64 (y.toNat : Int)).toNat : Int) = _
  rw [BitVec.toNat_or, ofInt_i64 _ (by omega), ofInt_i64 _ (by omega), ← BitVec.toNat_or]
  exact wrap_small _ (by have := (x ||| y).isLt; omega)
theorem not_I (y : U) : 4294967295 - (y.toNat : Int) = ((~~~ y).toNat : Int) := by
  have hy := y.isLt
  rw [BitVec.toNat_not]; omega
theorem mod_U (n : Nat) : ((n % 4294967296 : Nat) : Int) = ((BitVec.ofNat 32 n).toNat : Int) := by rw [BitVec.toNat_ofNat]

/-- choice: the two are apart. -/
theorem choice_eq (e f g : U) : (e &&& f).toNat + (~~~ e &&& g).toNat = (e &&& f ^^^ ~~~ e &&& g).toNat := by
  have h0 : (e &&& f) &&& (~~~ e &&& g) = 0 := by
    apply BitVec.eq_of_getLsbD_eq
    intro i hi
    simp
    cases e.getLsbD i <;> simp
  have h1 : (e &&& f) ||| (~~~ e &&& g) = e &&& f ^^^ ~~~ e &&& g := by
    apply BitVec.eq_of_getLsbD_eq
    intro i hi
    simp
    cases e.getLsbD i <;> simp [hi]
  have h2 := BitVec.add_eq_or_of_and_eq_zero _ _ h0
  rw [← h1, ← h2, BitVec.toNat_add]
  have h3 : ((e &&& f) &&& (~~~ e &&& g)).toNat = 0 := by rw [h0]; rfl
  have hs : (e &&& f).toNat + (~~~ e &&& g).toNat < 2 ^ 32 := by
    have ha : (e &&& f).toNat ≤ e.toNat := by rw [BitVec.toNat_and]; exact Nat.and_le_left
    have hb : (~~~ e &&& g).toNat ≤ (~~~ e).toNat := by rw [BitVec.toNat_and]; exact Nat.and_le_left
    have hc : (~~~ e).toNat = 2 ^ 32 - 1 - e.toNat := BitVec.toNat_not
    have := e.isLt
    omega
  rw [Nat.mod_eq_of_lt hs]
/-- most. -/
theorem most_eq (a b c : U) : a &&& b ||| a &&& c ||| b &&& c = a &&& b ^^^ a &&& c ^^^ b &&& c := by
  apply BitVec.eq_of_getLsbD_eq
  intro i hi
  simp
  cases a.getLsbD i <;> cases b.getLsbD i <;> cases c.getLsbD i <;> rfl
theorem word0_nat (a b c d : UInt8) : (BitVec.setWidth 32 a.toBitVec <<< 24 ||| BitVec.setWidth 32 b.toBitVec <<< 16 ||| BitVec.setWidth 32 c.toBitVec <<< 8 ||| BitVec.setWidth 32 d.toBitVec : U).toNat = 256 * (256 * (256 * (256 * 0 + a.toNat) + b.toNat) + c.toNat) + d.toNat := by
  have ha := a.toNat_lt; have hb := b.toNat_lt; have hc := c.toNat_lt; have hd := d.toNat_lt
  have e : ∀ x : UInt8, (BitVec.setWidth 32 x.toBitVec : U).toNat = x.toNat := fun x => by
    rw [BitVec.toNat_setWidth]; have := x.toNat_lt; exact Nat.mod_eq_of_lt (by omega)
  simp only [BitVec.toNat_or, BitVec.toNat_shiftLeft, e]
  rw [Nat.mod_eq_of_lt (by rw [Nat.shiftLeft_eq]; omega), Nat.mod_eq_of_lt (by rw [Nat.shiftLeft_eq]; omega), Nat.mod_eq_of_lt (by rw [Nat.shiftLeft_eq]; omega)]
  have h1 : a.toNat <<< 24 ||| b.toNat <<< 16 = (a.toNat * 256 + b.toNat) <<< 16 := by
    rw [← Nat.shiftLeft_add_eq_or_of_lt (by rw [Nat.shiftLeft_eq]; omega)]; simp only [Nat.shiftLeft_eq]; omega
  have h2 : (a.toNat * 256 + b.toNat) <<< 16 ||| c.toNat <<< 8 = ((a.toNat * 256 + b.toNat) * 256 + c.toNat) <<< 8 := by
    rw [← Nat.shiftLeft_add_eq_or_of_lt (by rw [Nat.shiftLeft_eq]; omega)]; simp only [Nat.shiftLeft_eq]; omega
  have h3 : ((a.toNat * 256 + b.toNat) * 256 + c.toNat) <<< 8 ||| d.toNat = ((a.toNat * 256 + b.toNat) * 256 + c.toNat) * 256 + d.toNat := by
    rw [← Nat.shiftLeft_add_eq_or_of_lt (by omega)]; simp only [Nat.shiftLeft_eq]
  rw [h1, h2, h3]
  omega

theorem refword_any (n : Nat) (w : World) : Calls Tryd.prog 30 #[.int .i64 (n : Int)] w fun e w' => e = .returned (WI (BitVec.ofNat 32 n)) ∧ w' = w := by
  have h : (n : Int).tmod 4294967296 = ((BitVec.ofNat 32 n).toNat : Int) := by
    rw [Int.tmod_eq_emod_of_nonneg (Int.natCast_nonneg _), ← mod_U]; exact (Int.natCast_emod n 4294967296).symm
  go_enter Tryd.func30, Tryd.ntmps30
  go_wp2
  go_ret
  exact ⟨rfl, rfl⟩

theorem turn_any (x : U) (n : Nat) (h2 : 2 ≤ n) (h25 : n ≤ 25) (m : Int) (hm : m = (n : Int)) (w : World) :
    Calls Tryd.prog 31 #[WI x, .int .i64 m] w fun e w' => e = .returned (WI (rotr x n)) ∧ w' = w.drew := by
  subst hm
  have hx := x.isLt
  obtain ⟨k, hk⟩ : ∃ k : Nat, 32 - n = k := ⟨_, rfl⟩
  have m1 : IntKind.i64.wrap (32 - (n : Int)) = (k : Int) := by rw [IntWalk.i64_in _ (by omega)]; omega
  have m2 : (n : Int) ≤ 64 := by omega
  have m3 : (k : Int) ≤ 64 := by omega
  have hle : x.toNat * 2 ^ k < 9223372036854775808 := by
    have : 2 ^ k ≤ 2 ^ 30 := Nat.pow_le_pow_right (by decide) (by omega)
    calc x.toNat * 2 ^ k ≤ x.toNat * 2 ^ 30 := Nat.mul_le_mul_left _ this
      _ < 9223372036854775808 := by omega
  have m4 : IntKind.i64.wrap ((x.toNat : Int) * 2 ^ k) = ((x.toNat * 2 ^ k : Nat) : Int) := by
    have : (x.toNat : Int) * 2 ^ k = ((x.toNat * 2 ^ k : Nat) : Int) := by simp
    rw [this]; exact wrap_small _ hle
  have m5 := shr_W x n
  have m6 : BitVec.ofNat 32 (x.toNat * 2 ^ k) = x <<< k := by
    apply BitVec.eq_of_toNat_eq
    rw [BitVec.toNat_ofNat, BitVec.toNat_shiftLeft, Nat.shiftLeft_eq]
  have m7 : rotr x n = x >>> n ||| x <<< k := by unfold rotr; rw [hk]
  rw [m7]
  have hwd := refword_any (x.toNat * 2 ^ k)
  rw [m6] at hwd
  clear hx hle m6 m7 h2 h25 hk
  generalize x.toNat * 2 ^ k = p at *
  generalize x >>> n = y at *
  generalize x <<< k = z at *
  go_enter Tryd.func31, Tryd.ntmps31
  go_upto_region 1 with fail
  refine wp_region_still_lit (by kernel_rfl) (by kernel_rfl) ?_
  repeat still_step
  still_call (hwd _)
  repeat still_step
  refine wpStill_nil ?_
  rw [or_I]
  go_wp2
  go_ret
  exact ⟨rfl, rfl⟩
end Go.Proofs.YtmdcalkfapcafaaDoor
