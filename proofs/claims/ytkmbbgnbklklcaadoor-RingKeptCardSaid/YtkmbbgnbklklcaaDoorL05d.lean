/-
  Law 05's StampOpens.
-/
import Derived.Test.YtkmbbgnbklklcaaDoorL05c
import Derived.Test.YtkmbbgnbklklcaaDoorRef5
namespace Go.Proofs.YtkmbbgnbklklcaaDoor
open Go.RowKit

set_option maxRecDepth 100000 in
theorem ref5_open (a b : Nat) (l : List UInt8) (w : World) (ha : a < 4294967296) (hb : b < 4294967296) :
    Calls Tryd.prog 37 #[.int .u32 a, .int .u32 b, .string (S l)] w fun e w' => e = .returned (.tuple #[.string (S (opens a b l)), .bool (decide (isFrame a b l))]) ∧ Below w.heap.size w w' := by
  have hs := S_size l
  go_enter Tryd.func37, Tryd.ntmps37
  by_cases h1 : ¬ l.length = 64
  · have d1 : decide ((l.length : Int) = 64) = false := by simp; omega
    have hno : ¬ isFrame a b l := fun h => h1 h.1
    go_wp2_with fail
    go_ret2
    refine ⟨?_, Below.refl _ _⟩
    rw [opens, if_neg hno, decide_eq_false hno]
    rfl
  have h1 := Decidable.not_not.1 h1
  have d1 : decide ((l.length : Int) = 64) = true := by simp; omega
  have hidx : ∀ w, (Instr.index 9 (.string (S l)) (.int .i64 8)).run Tryd.prog w = .ok (.int .u8 ((bears l : Nat) : Int)) w := fun w => index_text l 8 (by omega) w
  have hc8 : bears l < 256 := (l.getD 8 0).toNat_lt
  have hopen : isFrame a b l → bears l ≤ 47 := fun h => h.2.2.2.1
  have hval : isFrame a b l → opens a b l = (l.drop 9).take (bears l) := fun h => if_pos h
  have hval2 : ¬ isFrame a b l → opens a b l = [] := fun h => if_neg h
  generalize bears l = n at *
  have hwn : IntKind.i64.wrap (n : Int) = (n : Int) := by rw [IntKind.wrap_i64]; omega
  have hwn2 : wrap64 (n : Int) = (n : Int) := IntWalk.wrap64_in _ (by omega)
  by_cases h4 : ¬ n ≤ 47
  · have d4 : decide ((47 : Int) < n) = true := by simp; omega
    have hno : ¬ isFrame a b l := fun h => h4 (hopen h)
    go_wp2_with fail
    go_ret2
    refine ⟨?_, Below.refl _ _⟩
    rw [hval2 hno, decide_eq_false hno]
    rfl
  have h4 := Decidable.not_not.1 h4
  have d4 : decide ((47 : Int) < n) = false := by simp; omega
  have hx2 : (S l).extract 9 (9 + n) = S ((l.drop 9).take n) := by rw [S_extract, show 9 + n - 9 = n from by omega]
  have hm : (9 : Int) + (n : Int) = ((9 + n : Nat) : Int) := by omega
  have hm2 : ((9 + n : Nat) : Int) ≤ 64 := by omega
  have hm3 : (9 : Int) ≤ ((9 + n : Nat) : Int) := by omega
  have hs64 : (S l).size = 64 := by rw [hs, h1]
  have htl : ((l.drop 9).take n).length ≤ 47 := by rw [List.length_take]; omega
  have hfo : isFrame a b l ↔ frame a b ((l.drop 9).take n) = l := by
    constructor
    · intro h
      have := (frame_of h).1
      rw [hval h] at this
      exact this.symm
    · intro h
      have := (frame_is a b _ htl).1
      rw [h] at this
      exact this
  generalize (l.drop 9).take n = t at *
  generalize 9 + n = m at *
  clear hs
  go_wp2_with fail
  refine (ref5_frame a b t w ha hb htl).mono ?_
  rintro e w1 ⟨rfl, hB⟩
  have HB1 := hid hB
  clear hB hidx hx2
  by_cases hE : frame a b t = l
  · have e1 : ((S (frame a b t)).toList == (S l).toList) = true := by rw [hE]; simp
    have hyes := hfo.2 hE
    have hv := hval hyes
    clear hfo hval hval2
    go_wp2_with fail
    go_ret2
    refine ⟨?_, HB1.out⟩
    rw [hv, decide_eq_true hyes]
    rfl
  · have e1 : ((S (frame a b t)).toList == (S l).toList) = false := by rw [S_toList, S_toList]; simpa using hE
    have hno : ¬ isFrame a b l := fun h => hE (hfo.1 h)
    have hv := hval2 hno
    clear hfo hval hval2
    go_wp2_with fail
    go_ret2
    refine ⟨?_, HB1.out⟩
    rw [hv, decide_eq_false hno]
    rfl

theorem cut70 (s : List UInt8) (w : World) : Calls Tryd.prog 16 #[.string (S s), .int .i64 70] w fun e w' => e = .returned (.string (S (s.take 70))) ∧ w' = w := cut_any s 70 w
set_option maxRecDepth 100000 in
set_option maxHeartbeats 4000000 in
theorem stampopens_any (a b : Nat) (l : List UInt8) (n : Int) (w : World) (ha : a < 4294967296) (hb : b < 4294967296) :
    Calls Tryd.prog 5 #[.int .u32 a, .int .u32 b, .string (S l), .int .i64 n] w fun e w' => e = .returned (.bool true) ∧ Below w.heap.size w w' := by
  have hwa : IntKind.u64.wrap (a : Int) = a := by rw [IntKind.wrap_u64]; omega
  have hwb : IntKind.u64.wrap (b : Int) = b := by rw [IntKind.wrap_u64]; omega
  have hadd := str_add (num a 4) (num b 4) (by rw [num_length]; decide) (by rw [num_length]; decide)
  rw [show num a 4 ++ num b 4 = st a b from rfl] at hadd
  go_enter Tryd.func5, Tryd.ntmps5
  go_wp2_with fail
  refine (cut70 l w).mono ?_
  rintro e w' ⟨rfl, hw⟩
  subst hw
  have hl : (l.take 70).length ≤ 70 := by rw [List.length_take]; omega
  generalize l.take 70 = l at *
  go_wp2_with fail
  refine (awake05 w').mono ?_
  rintro e w1 ⟨rfl, hB⟩
  have HB1 := hid hB
  clear hB
  go_wp2_with fail
  refine (refnum_any a 4 4 w1 (by decide) (by omega)).mono ?_
  rintro e w2 ⟨rfl, hB⟩
  have HB2 := hid (HB1.out.trans (hB.mono HB1.out.size))
  clear hB
  go_wp2_with fail
  refine (refnum_any b 4 4 w2 (by decide) (by omega)).mono ?_
  rintro e w3 ⟨rfl, hB⟩
  have HB3 := hid (HB2.out.trans (hB.mono HB2.out.size))
  clear hB
  go_upto_region 5 with fail
  clear hadd
  have hs := S_size l
  have h8 := st_length a b
  have hcase : (bits .and .i64 n 1 = 1 ∧ 8 ≤ l.length) ∨ (bits .and .i64 n 1 = 1 ∧ ¬ 8 ≤ l.length) ∨ ¬ bits .and .i64 n 1 = 1 := by
    by_cases hx : bits .and .i64 n 1 = 1
    · by_cases hy : 8 ≤ l.length
      · exact .inl ⟨hx, hy⟩
      · exact .inr (.inl ⟨hx, hy⟩)
    · exact .inr (.inr hx)
  refine hcase.elim (fun ⟨hx, hy⟩ => ?cA) (fun h => h.elim (fun ⟨hx, hy⟩ => ?cB) (fun hx => ?cC))
  case' cA =>
    have d1 : decide (bits .and .i64 n 1 = 1) = true := decide_eq_true hx
    have d2 : decide ((8 : Int) ≤ (l.length : Int)) = true := by simp; omega
    have d3 : (8 : Int) ≤ (l.length : Int) := by omega
    have hx8 := S_drop l 8
    have hadd := str_add (st a b) (l.drop 8) (by omega) (by rw [List.length_drop]; omega)
    have hl2 : (st a b ++ l.drop 8).length ≤ 70 := by rw [List.length_append, List.length_drop]; omega
    go_upto_region 7 with fail
    clear hx8 hadd hs hl d2 d3 hy
    generalize st a b ++ l.drop 8 = l at *
    have hl := hl2
    clear hl2
  case' cB =>
    have d1 : decide (bits .and .i64 n 1 = 1) = true := decide_eq_true hx
    have d2 : decide ((8 : Int) ≤ (l.length : Int)) = false := by simp; omega
    go_upto_region 7 with fail
    have hsmall : l.length < 8 := (by omega)
    clear d2 hs hy
  case' cC =>
    have d1 : decide (bits .and .i64 n 1 = 1) = false := decide_eq_false hx
    go_upto_region 7 with fail
    clear hs
  all_goals
    have hs := S_size l
    have hcase : (bits .and .i64 n 2 = 2 ∧ l.length = 64) ∨ (bits .and .i64 n 2 = 2 ∧ ¬ l.length = 64) ∨ ¬ bits .and .i64 n 2 = 2 := by
      by_cases hx : bits .and .i64 n 2 = 2
      · by_cases hy : l.length = 64
        · exact .inl ⟨hx, hy⟩
        · exact .inr (.inl ⟨hx, hy⟩)
      · exact .inr (.inr hx)
    rcases hcase with ⟨hx2, hy⟩ | ⟨hx2, hy⟩ | hx2
    all_goals
      first
        | (exfalso; omega)
        | (have e1 : decide (bits .and .i64 n 2 = 2) = false := decide_eq_false hx2; go_upto_region 9 with fail; clear hs)
        | (have e2 : decide ((l.length : Int) = 64) = false := (by simp; omega); have e1 : decide (bits .and .i64 n 2 = 2) = true := decide_eq_true hx2; go_upto_region 9 with fail; clear e2 hs hy)
        | (have e1 : decide (bits .and .i64 n 2 = 2) = true := decide_eq_true hx2
           have e2 : decide ((l.length : Int) = 64) = true := (by simp; omega)
           have e3 : (S l).extract 0 56 = S (l.take 56) := S_take l 56
           have e4 : (56 : Int) ≤ (l.length : Int) := (by omega)
           have hadd := str_add (l.take 56) (st a b) (by rw [List.length_take]; omega) (by omega)
           have hl2 : (l.take 56 ++ st a b).length ≤ 70 := (by rw [List.length_append, List.length_take]; omega)
           go_upto_region 9 with fail
           clear e2 e3 e4 hadd hs hl hy
           generalize l.take 56 ++ st a b = l at *
           have hl := hl2
           clear hl2)
    all_goals
      go_wp2_with fail
      refine (open_any a b l w3 ha hb (by omega)).mono ?_
      rintro e w4 ⟨rfl, hB⟩
      have HB4 := hid (HB3.out.trans (hB.mono HB3.out.size))
      clear hB
      generalize hP : decide (isFrame a b l) = p at *
      generalize hQ : opens a b l = t at *
      have HP := hid hP
      have HQ := hid hQ
      clear hP hQ
      go_wp2_with fail
      have h := ref5_open a b l w4 ha hb
      rw [HP.out, HQ.out] at h
      refine h.mono ?_
      rintro e w5 ⟨rfl, hB⟩
      have HB5 := hid (HB4.out.trans (hB.mono HB4.out.size))
      clear hB h
      have hpp : (p == p) = true := by simp
      go_wp2_with fail
      go_ret
      exact ⟨rfl, HB5.out⟩
theorem walkStampOpens (w : World) (a b : Int) (t : ByteArray) (n : Int) (ha : (Lit.int .u32 a).wf = true) (hb : (Lit.int .u32 b).wf = true) (_ht : t.size ≤ 140737488351232) (_hn : (Lit.int .i64 n).wf = true) :
    Calls Tryd.prog 5 #[.int .u32 a, .int .u32 b, .string t, .int .i64 n] w fun e w' => e = .returned (.bool true) ∧ Below w.heap.size w w' := by
  obtain ⟨a', rfl, ha'⟩ := u32_nat ha
  obtain ⟨b', rfl, hb'⟩ := u32_nat hb
  rw [← S_of t]
  exact stampopens_any a' b' _ n w ha' hb'
end Go.Proofs.YtkmbbgnbklklcaaDoor
