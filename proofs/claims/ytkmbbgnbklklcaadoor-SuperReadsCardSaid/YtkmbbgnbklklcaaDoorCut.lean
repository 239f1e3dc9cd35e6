/-
  Law 01's Cut; texts behind one another; numbers and their bytes.
-/
import Derived.Test.YtkmbbgnbklklcaaDoorPackA
namespace Go.Proofs.YtkmbbgnbklklcaaDoor
open Go.RowKit

theorem cut_any (l : List UInt8) (n : Nat) (w : World) : Calls Tryd.prog 16 #[.string (S l), .int .i64 (n : Int)] w fun e w' => e = .returned (.string (S (l.take n))) ∧ w' = w := by
  have hs := S_size l
  by_cases h : n < l.length
  · have h1 : (n : Int) < (l.length : Int) := by omega
    have h2 : (n : Int) ≤ (l.length : Int) := by omega
    have h3 : (0 : Int) ≤ (n : Int) := by omega
    have e1 : (S l).extract 0 n = S (l.take n) := by rw [S_extract]; simp
    go_enter Tryd.func16, Tryd.ntmps16
    go_wp2
    go_ret
    exact ⟨rfl, rfl⟩
  · have h1 : ¬ (n : Int) < (l.length : Int) := by omega
    rw [List.take_of_length_le (by omega)]
    go_enter Tryd.func16, Tryd.ntmps16
    go_wp2
    go_ret
    exact ⟨rfl, rfl⟩
theorem str_add (a b : List UInt8) (ha : a.length ≤ 1000000) (hb : b.length ≤ 1000000) (w : World) : (Op.stringOp .add (S a) (S b)).run Tryd.prog w = .ok (.string (S (a ++ b))) w :=
  (run_string_add (P := Tryd.prog) (w := w) (S a) (S b) (by rw [S_size]; omega) (by rw [S_size]; omega)).trans (by rw [S_append])
theorem num_snoc (n k : Nat) : num n (k + 1) = num (n / 256) k ++ [UInt8.ofNat n] := by
  unfold num
  rw [numTo_succ]
  have h : numTo n (k + 1) k = numTo (n / 256) k k := by
    unfold numTo
    refine List.map_congr_left fun i hi => ?_
    have hk : i < k := by simpa using hi
    rw [Nat.div_div_eq_div_mul, show k + 1 - 1 - i = (k - 1 - i) + 1 from by omega, Nat.pow_succ, Nat.mul_comm]
  rw [h]
  simp
theorem num_be (l : List UInt8) : num (be l) l.length = l := by
  rw [← List.reverse_reverse l]
  induction l.reverse with
  | nil => rfl
  | cons c t ih =>
    rw [List.reverse_cons, be_snoc, List.length_append, List.length_singleton, num_snoc]
    have hc := c.toNat_lt
    rw [show (256 * be t.reverse + c.toNat) / 256 = be t.reverse from by omega, ih]
    congr 2
    apply UInt8.toNat_inj.1
    rw [UInt8.toNat_ofNat']; omega
theorem num_be_take {l : List UInt8} {k : Nat} (h : k ≤ l.length) : num (be (l.take k)) k = l.take k := by
  have h1 := num_be (l.take k)
  rwa [List.length_take, Nat.min_eq_left h] at h1
end Go.Proofs.YtkmbbgnbklklcaaDoor
