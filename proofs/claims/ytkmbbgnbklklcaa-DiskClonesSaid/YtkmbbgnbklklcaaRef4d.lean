/-
  The document's disk: blank, New, bent.
-/
import Derived.Test.YtkmbbgnbklklcaaRef4c
namespace Go.Proofs.Ytkmbbgnbklklcaa
open Go.RowKit

theorem nul_eq (q : Nat) (h : q = 64) : List.replicate q (0 : UInt8) = nul := by subst h; rfl
theorem ref4_blank (w : World) : Calls Try.prog 37 #[] w fun e w' => e = .returned (.string (S nul)) ∧ w = w' := by
  go_enter Try.func37, Try.ntmps37
  go_wp2_with fail
  go_loopw [1, 2] (fun s i wr => ∃ q : Nat, q ≤ 64 ∧ i = .int .i64 q ∧ s = .string (S (List.replicate q 0)) ∧ wr = w) (fun _ i _ => (64 - intOf i).toNat)
  case atStart => exact ⟨0, by omega, rfl, rfl, rfl⟩
  case round =>
    obtain ⟨q, hq, rfl, rfl, rfl⟩ := hrel
    by_cases hql : q < 64
    · have dq : decide ((q : Int) < 64) = true := by simp; omega
      have hn1 : List.replicate q (0 : UInt8) ++ [0] = List.replicate (q + 1) 0 := by rw [← List.replicate_succ']
      have hadd := str_add (List.replicate q 0) [0] (by simp; omega) (by simp)
      rw [hn1] at hadd
      have hadd' : ∀ w, (Op.stringOp .add (S (List.replicate q 0)) ⟨#[0]⟩).run Try.prog w = .ok (.string (S (List.replicate (q + 1) 0))) w := hadd
      generalize S (List.replicate q 0) = x0 at *
      clear hn1 hadd
      go_wp2_with fail
      refine ⟨⟨q + 1, by omega, by go_num, rfl, by first | rfl | trivial⟩, by simp [intOf]; omega⟩
    · obtain rfl : q = 64 := by omega
      have dq : decide (((64 : Nat) : Int) < 64) = false := by simp
      go_wp2_with fail
      go_ret
      exact ⟨rfl, rfl⟩

/-- One byte is another one. -/
def bend (s : List UInt8) (k : Nat) (c : UInt8) : List UInt8 := s.take k ++ (s.getD k 0 ^^^ c) :: s.drop (k + 1)
theorem bend_length (s : List UInt8) (k : Nat) (c : UInt8) (h : k < s.length) : (bend s k c).length = s.length := by simp [bend]; omega
theorem xor_byte (c d : UInt8) : bits .xor .u8 (c.toNat : Int) (d.toNat : Int) = (((c ^^^ d).toNat : Nat) : Int) := by
  have h : ∀ a b : BitVec 8, bits .xor .u8 (a.toNat : Int) (b.toNat : Int) = ((a ^^^ b).toNat : Int) := by
    intro a b
    show IntKind.u8.wrap ((BitVec.ofInt 8 (a.toNat : Int) ^^^ BitVec.ofInt 8 (b.toNat : Int)).toNat : Int) = _
    rw [show BitVec.ofInt 8 (a.toNat : Int) = a from by rw [BitVec.ofInt_natCast]; simp, show BitVec.ofInt 8 (b.toNat : Int) = b from by rw [BitVec.ofInt_natCast]; simp]
    have := (a ^^^ b).isLt
    generalize (a ^^^ b).toNat = n at *
    simp [IntKind.wrap, IntKind.bits, IntKind.signed]
    omega
  exact h c.toBitVec d.toBitVec

set_option maxRecDepth 100000 in
theorem ref4_bent (s : List UInt8) (k : Nat) (c : UInt8) (w : World) (hk : k < s.length) (hs : s.length ≤ 1000) :
    Calls Try.prog 56 #[.string (S s), .int .i64 k, .int .u8 (c.toNat : Int)] w fun e w' => e = .returned (.string (S (bend s k c))) ∧ Below w.heap.size w w' := by
  have hss := S_size s
  have hd1 : decide ((k : Int) < (s.length : Int)) = true := by simp; omega
  have hx1 : (S s).extract 0 k = S (s.take k) := S_take s k
  have hx2 : (S s).extract (k + 1) s.length = S (s.drop (k + 1)) := S_drop s (k + 1)
  have hkS : k < (S s).size := by rw [hss]; exact hk
  have hget : (S s)[k]'hkS = s[k]'hk := S_get s k hkS
  have hgd : s.getD k 0 = s[k]'hk := by rw [List.getD, List.getElem?_eq_getElem hk]; rfl
  have hx := xor_byte (s[k]'hk) c
  have hk2 : k ≤ s.length := by omega
  have hk3 : (k : Int) + 1 ≤ (s.length : Int) := by omega
  have hk4 : (0 : Int) ≤ (k : Int) + 1 := by omega
  have e1 : IntKind.i64.wrap ((k : Int) + 1) = ((k + 1 : Nat) : Int) := by rw [IntKind.wrap_i64]; omega
  obtain ⟨x, hx0⟩ : ∃ x, (s[k]'hk) ^^^ c = x := ⟨_, rfl⟩
  rw [hx0] at hx
  have Hx0 := hid hx0
  clear hx0
  have hcv : (convert 65 9 (.slice (some ⟨w.heap.size, 0, none⟩) 1 1)).run Try.prog (w.alloc (.cells #[.int .u8 (x.toNat : Int)] 5)).drew = .ok (.string (S [x])) (w.alloc (.cells #[.int .u8 (x.toNat : Int)] 5)).drew := by
    exact run_convert_bytes_back (P := Try.prog) _ _ _ 5 ⟨w.heap.size, 0, none⟩ 1 [x] Try.underlying65 Try.underlying5 Try.underlying9 (by
      intro j hj
      obtain rfl : j = 0 := by simpa using hj
      exact cell_of_block (heap_new w _) 0)
  have hadd1 := str_add (s.take k) [x] (by simp; omega) (by simp)
  have hadd2 := str_add (s.take k ++ [x]) (s.drop (k + 1)) (by simp; omega) (by simp; omega)
  have hbe : s.take k ++ [x] ++ s.drop (k + 1) = bend s k c := by unfold bend; rw [hgd, Hx0.out]; simp
  rw [hbe] at hadd2
  clear hbe
  go_enter Try.func56, Try.ntmps56
  go_upto_region 1 with fail
  go_region_law fail
  all_goals
    go_wp2_with fail
    go_ret
    exact ⟨rfl, ((Below.refl _ _).alloc (Nat.le_refl _) _).drew⟩
end Go.Proofs.Ytkmbbgnbklklcaa
