/-
  Law 05's StampTorn.
-/
import Derived.Test.YtkmbbgnbklklcaaDoorL05a
import Derived.Test.YtkmbbgnbklklcaaDoorStampB
namespace Go.Proofs.YtkmbbgnbklklcaaDoor
open Go.RowKit

theorem cut47 (s : List UInt8) (w : World) : Calls Tryd.prog 16 #[.string (S s), .int .i64 47] w fun e w' => e = .returned (.string (S (s.take 47))) ∧ w' = w := cut_any s 47 w
theorem cut64' (s : List UInt8) (w : World) : Calls Tryd.prog 16 #[.string (S s), .int .i64 64] w fun e w' => e = .returned (.string (S (s.take 64))) ∧ w' = w := cut_any s 64 w
/-- First bytes of a frame, and behind them what stood there. -/
theorem torn_law (a b : Nat) (t old : List UInt8) (n : Nat) (ht : t.length ≤ 47) (hn : n ≤ 64) (hne : old.drop 56 ≠ (frame a b t).drop 56) :
    isFrame a b ((frame a b t).take n ++ old.drop n) ↔ (frame a b t).take n ++ old.drop n = frame a b t := by
  obtain ⟨hF, _⟩ := frame_is a b t ht
  have hl := frame_length a b t ht
  constructor
  · intro h
    have h1 := h.2.2.1
    rw [← hF.2.2.1] at h1
    by_cases h56 : n ≤ 56
    · exfalso
      apply hne
      rw [← h1, List.drop_append]
      have e1 : ((frame a b t).take n).drop 56 = [] := List.drop_eq_nil_of_le (by rw [List.length_take]; omega)
      rw [e1, List.nil_append, List.drop_drop, List.length_take, show n + (56 - min n (frame a b t).length) = 56 from by omega]
    · have e1 : ((frame a b t).take n ++ old.drop n).drop 56 = ((frame a b t).drop 56).take (n - 56) ++ old.drop n := by
        rw [List.drop_append, List.length_take, show 56 - min n (frame a b t).length = 0 from by omega, List.drop_zero, List.drop_take]
      have e2 : (frame a b t).drop 56 = ((frame a b t).drop 56).take (n - 56) ++ (frame a b t).drop n := by
        conv => lhs; rw [← List.take_append_drop (n - 56) ((frame a b t).drop 56)]
        rw [List.drop_drop, show 56 + (n - 56) = n from by omega]
      rw [e1] at h1
      have h2 := h1.trans e2
      rw [List.append_cancel_left h2, List.take_append_drop]
  · intro h
    rw [h]
    exact hF

set_option maxRecDepth 100000 in
set_option maxHeartbeats 2000000 in
theorem torn_any (a b : Nat) (t o : List UInt8) (n : Int) (w : World) (ha : a < 4294967296) (hb : b < 4294967296) :
    Calls Tryd.prog 6 #[.int .u32 a, .int .u32 b, .string (S t), .string (S o), .int .i64 n] w fun e w' => e = .returned (.bool true) ∧ Below w.heap.size w w' := by
  go_enter Tryd.func6, Tryd.ntmps6
  go_wp2_with fail
  refine (cut47 t w).mono ?_
  rintro e w' ⟨rfl, hw⟩
  subst hw
  have ht : (t.take 47).length ≤ 47 := by rw [List.length_take]; omega
  generalize t.take 47 = t at *
  go_wp2_with fail
  refine (cut64' o w').mono ?_
  rintro e w1 ⟨rfl, hw⟩
  subst hw
  have ho : (o.take 64).length ≤ 64 := by rw [List.length_take]; omega
  generalize o.take 64 = o at *
  go_wp2_with fail
  go_loopw [3] (fun v wr => ∃ q : Nat, o.length + q ≤ 64 ∧ v = .string (S (o ++ List.replicate q 0)) ∧ wr = w1) (fun v _ => 64 - (match v with | .string s => s.size | _ => 0))
  case atStart => exact ⟨0, by omega, by simp, rfl⟩
  case round =>
    obtain ⟨q, hq, rfl, rfl⟩ := hrel
    have hs : (S (o ++ List.replicate q 0)).size = o.length + q := by rw [S_size]; simp
    by_cases hq64 : o.length + q < 64
    · have d1 : decide ((o.length : Int) + (q : Int) < 64) = true := by simp; omega
      have hnx : o ++ List.replicate q 0 ++ [0] = o ++ List.replicate (q + 1) 0 := by rw [List.replicate_succ', List.append_assoc]
      have hap : S (o ++ List.replicate q 0) ++ ⟨#[0]⟩ = S (o ++ List.replicate (q + 1) 0) := by
        rw [show (⟨#[0]⟩ : ByteArray) = S [0] from rfl, S_append, hnx]
      have hs2 : (S (o ++ List.replicate (q + 1) 0)).size = o.length + (q + 1) := by rw [S_size]; simp
      have Hap := hid hap
      have Hs2 := hid hs2
      clear hap hnx hs2
      go_wp2_with fail
      rw [Hap.out]
      refine ⟨⟨q + 1, by omega, rfl, trivial⟩, ?_⟩
      show 64 - (S (o ++ List.replicate (q + 1) 0)).size < 64 - (S (o ++ List.replicate q 0)).size
      rw [Hs2.out, hs]
      omega
    · have d1 : decide ((o.length : Int) + (q : Int) < 64) = false := by simp; omega
      have hO64 : (o ++ List.replicate q 0).length = 64 := by rw [← S_size, hs]; omega
      go_upto_region 4 with fail
      clear hs d1 hq hq64 ho
      generalize o ++ List.replicate q 0 = old at *
      go_wp2_with fail
      refine (lawframe_ok a b t wr ha hb ht).mono ?_
      rintro e w2 ⟨rfl, hB⟩
      have HB2 := hid hB
      clear hB
      go_wp2_with fail
      refine (awake05 w2).mono ?_
      rintro e w3 ⟨rfl, hB⟩
      have HB3 := hid (HB2.out.trans (hB.mono HB2.out.size))
      clear hB
      go_wp2_with fail
      obtain ⟨N, hz⟩ : ∃ N : Nat, min (max n 0) 64 = (N : Int) := ⟨(min (max n 0) 64).toNat, by omega⟩
      have hNn : N ≤ 64 := by omega
      have hlaw := torn_law a b t old N ht hNn
      have hopen := frame_is a b t ht
      have hl := frame_length a b t ht
      generalize frame a b t = F at *
      have hx1 : (S old).extract 56 64 = S (old.drop 56) := by have h := S_drop old 56; rw [hO64] at h; exact h
      have hx2 : (S F).extract 56 64 = S (F.drop 56) := by have h := S_drop F 56; rw [hl] at h; exact h
      have hs1 : (S old).size = 64 := by rw [S_size, hO64]
      have hs2 : (S F).size = 64 := by rw [S_size, hl]
      have HB4 := hid HB3.out.drew
      by_cases hne : old.drop 56 = F.drop 56
      · have e1 : ((S (old.drop 56)).toList == (S (F.drop 56)).toList) = true := by rw [hne]; simp
        clear hlaw hopen hz
        go_region_held3 (fun _ => True) (first | go_keep | trivial) (fail)
        go_wp2_with fail
        go_ret
        exact ⟨rfl, HB4.out⟩
      have e1 : ((S (old.drop 56)).toList == (S (F.drop 56)).toList) = false := by rw [S_toList, S_toList]; simpa using hne
      have hlaw := hlaw hne
      have Hlaw := hid hlaw
      have Hopen := hid hopen
      clear hlaw hopen
      go_region_held3 (fun _ => True) (first | go_keep | trivial) (fail)
      clear hx1 hx2
      go_upto_region 10 with fail
      have hx3 : (S F).extract 0 N = S (F.take N) := S_take _ _
      have hx4 : (S old).extract N 64 = S (old.drop N) := by have h := S_drop old N; rw [hO64] at h; exact h
      have hN64 : (N : Int) ≤ 64 := by omega
      have hadd := str_add (F.take N) (old.drop N) (by rw [List.length_take]; omega) (by rw [List.length_drop]; omega)
      have hTl : (F.take N ++ old.drop N).length ≤ 100000000 := by rw [List.length_append, List.length_take, List.length_drop]; omega
      change Code.wp _ _ _ _ w3.drew
      go_region_held3 (fun _ => True) (first | go_keep | trivial) (fail)
      clear hadd hx3 hx4
      generalize F.take N ++ old.drop N = T at *
      go_wp2_with fail
      have ho := open_any a b T w3.drew.drew ha hb hTl
      refine ho.mono ?_
      rintro e w5 ⟨rfl, hB⟩
      have HB5 := hid (HB4.out.drew.trans (hB.mono HB3.out.size))
      clear hB ho
      by_cases hT : T = F
      · have hi : isFrame a b T := Hlaw.out.2 hT
        have e2 : ((S T).toList == (S F).toList) = true := by rw [hT]; simp
        rw [decide_eq_true hi, hT, Hopen.out.2]
        have e3 : ((S t).toList == (S t).toList) = true := by simp
        go_wp2_with fail
        go_ret
        exact ⟨rfl, HB5.out⟩
      · have hi : ¬ isFrame a b T := fun h => hT (Hlaw.out.1 h)
        have e2 : ((S T).toList == (S F).toList) = false := by rw [S_toList, S_toList]; simpa using hT
        have e5 : (S []).toList.isEmpty = true := by rw [S_toList]; rfl
        rw [decide_eq_false hi, show opens a b T = [] from if_neg hi]
        go_wp2_with fail
        go_ret
        exact ⟨rfl, HB5.out⟩
theorem u32_nat {a : Int} (h : (Lit.int .u32 a).wf = true) : ∃ k : Nat, a = (k : Int) ∧ k < 4294967296 := by
  have h : 0 ≤ a ∧ a ≤ 4294967295 := by simpa [Lit.wf, IntKind.min, IntKind.max, IntKind.signed, IntKind.bits] using h
  exact ⟨a.toNat, by omega, by omega⟩
theorem walkStampTorn (w : World) (a b : Int) (t o : ByteArray) (n : Int) (ha : (Lit.int .u32 a).wf = true) (hb : (Lit.int .u32 b).wf = true) (_ht : t.size ≤ 140737488351232) (_ho : o.size ≤ 140737488351232) (_hn : (Lit.int .i64 n).wf = true) :
    Calls Tryd.prog 6 #[.int .u32 a, .int .u32 b, .string t, .string o, .int .i64 n] w fun e w' => e = .returned (.bool true) ∧ Below w.heap.size w w' := by
  obtain ⟨a', rfl, ha'⟩ := u32_nat ha
  obtain ⟨b', rfl, hb'⟩ := u32_nat hb
  rw [← S_of t, ← S_of o]
  exact torn_any a' b' _ _ n w ha' hb'
end Go.Proofs.YtkmbbgnbklklcaaDoor
