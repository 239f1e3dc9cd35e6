/-
  The document's Num.
-/
import Derived.Test.YtkmbbgnbklklcaaDoorPackA
namespace Go.Proofs.YtkmbbgnbklklcaaDoor
open Go.RowKit

theorem num_succ (n q : Nat) : num n (q + 1) = UInt8.ofNat (n / 256 ^ q) :: num n q := by
  unfold num numTo
  rw [List.range_succ_eq_map, List.map_cons, List.map_map]
  congr 1
  refine List.map_congr_left fun i hi => ?_
  simp only [Function.comp]
  rw [show q + 1 - 1 - (i + 1) = q - 1 - i from by omega]
theorem num_zero (n : Nat) : num n 0 = [] := rfl

set_option maxRecDepth 100000 in
set_option maxHeartbeats 1000000 in
theorem refnum_any (n : Nat) (size : Int) (k : Nat) (w : World) (hk : min (max size 1) 8 = (k : Int)) (hn : n < 18446744073709551616) :
    Calls Tryd.prog 30 #[.int .u64 n, .int .i64 size] w fun e w' => e = .returned (.string (S (num n k))) ∧ Below w.heap.size w w' := by
  have hk8 : 1 ≤ k ∧ k ≤ 8 := by omega
  have Hk := hid hk
  have Hn := hid hn
  clear hk hn
  go_enter Tryd.func30, Tryd.ntmps30
  go_wp2_with fail
  go_loopw [0, 5, 6] (fun x s i w' => ∃ q : Nat, q ≤ k ∧ i = .int .i64 q ∧ x = .int .u64 ((n / 256 ^ q : Nat) : Int) ∧ s = .string (S (num n q)) ∧ Below w.heap.size w w') (fun _ _ i _ => (8 - intOf i).toNat)
  case atStart => exact ⟨0, by omega, rfl, by simp, rfl, Below.refl _ _⟩
  case round =>
    obtain ⟨q, hq, rfl, rfl, rfl, hB⟩ := hrel
    have HB := hid hB
    have hbs := hB.size
    clear hB
    have hk' := Hk.out
    by_cases hqk : q < k
    · have hd : decide (q < k) = true := by simp; omega
      have hns := num_succ n q
      have hnl : (num n q).length = q := num_length n q
      have hdv : n / 256 ^ (q + 1) = n / 256 ^ q / 256 := by rw [Nat.pow_succ, Nat.div_div_eq_div_mul]
      have hsz : n / 256 ^ q < 18446744073709551616 := Nat.lt_of_le_of_lt (Nat.div_le_self _ _) Hn.out
      generalize num n q = s at *
      generalize n / 256 ^ q = m at *
      obtain ⟨c, hc0, hc⟩ : ∃ c : UInt8, UInt8.ofNat m = c ∧ (m : Int) % 256 = (c.toNat : Int) := ⟨_, rfl, by rw [UInt8.toNat_ofNat']; omega⟩
      rw [hc0] at hns
      have hcv : (convert 41 9 (.slice (some ⟨wr.heap.size, 0, none⟩) 1 1)).run Tryd.prog (wr.alloc (.cells #[.int .u8 (c.toNat : Int)] 5)) = .ok (.string (S [c])) (wr.alloc (.cells #[.int .u8 (c.toNat : Int)] 5)) := by
        exact run_convert_bytes_back (P := Tryd.prog) _ _ _ 5 ⟨wr.heap.size, 0, none⟩ 1 [c] Tryd.underlying41 Tryd.underlying5 Tryd.underlying9 (by
          intro j hj
          obtain rfl : j = 0 := by simpa using hj
          exact cell_of_block (heap_new _ _) 0)
      have hadd : ∀ w, (Op.stringOp .add (S [c]) (S s)).run Tryd.prog w = .ok (.string (S (c :: s))) w := fun w =>
        (run_string_add (P := Tryd.prog) (w := w) (S [c]) (S s) (by rw [S_size]; simp) (by rw [S_size]; omega)).trans (by rw [S_append]; rfl)
      have Hns := hid hns
      have Hdv := hid hdv
      have Hq64 : Hid (IntKind.u64.wrap ((m : Int) / 256) = ((m / 256 : Nat) : Int)) := hid (by rw [IntKind.wrap_u64]; omega)
      clear hns hdv hc0 hnl hsz
      go_wp2_with fail
      refine ⟨⟨q + 1, by omega, by go_num, by rw [Hdv.out, Hq64.out], by rw [Hns.out], HB.out.alloc hbs _⟩, by simp [intOf]; omega⟩
    · obtain rfl : q = k := by omega
      have hd : decide (q < q) = false := by simp
      go_wp2_with fail
      go_ret
      exact ⟨rfl, HB.out⟩
end Go.Proofs.YtkmbbgnbklklcaaDoor
