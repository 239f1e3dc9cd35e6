/-
  Contracts of package stamp: Open.
-/
import Derived.Test.YtkmbbgnbklklcaaDoorStamp
import Derived.Test.YtkmbbgnbklklcaaDoorCut
namespace Go.Proofs.YtkmbbgnbklklcaaDoor
open Go.RowKit

theorem has_prefix (l p : List UInt8) (w : World) : Calls Tryd.prog 82 #[.string (S l), .string (S p)] w fun e w' => e = .returned (.bool (Lib.hasPrefix l p)) ∧ w' = w := by
  have h := Tryd.strings_HasPrefix (S l) (S p) w
  rw [S_data, S_data] at h
  exact h
theorem has_suffix (l p : List UInt8) (w : World) (hl : l.length ≤ 100000000) : Calls Tryd.prog 84 #[.string (S l), .string (S p)] w fun e w' => e = .returned (.bool (Lib.hasSuffix l p)) ∧ w' = w := by
  have h := Tryd.strings_HasSuffix (S l) (S p) w (by rw [S_size]; omega)
  rw [S_data, S_data] at h
  exact h
theorem trim_nul (l : List UInt8) (w : World) (hl : l.length ≤ 100000000) : Calls Tryd.prog 80 #[.string (S l), .string ⟨#[0]⟩] w fun e w' => e = .returned (.string (S (Lib.trimB l 0))) ∧ Below w.heap.size w w' := by
  have h := Tryd.strings_Trim_one (S l) 0 (by decide) w (by rw [S_size]; omega)
  rw [S_data] at h
  refine h.mono ?_
  rintro e w' ⟨rfl, rfl | rfl⟩
  · exact ⟨rfl, Below.refl _ _⟩
  · exact ⟨rfl, (Below.refl _ _).drew⟩
theorem dropWhile_nil (l : List UInt8) (p : UInt8 → Bool) : l.dropWhile p = [] ↔ ∀ x ∈ l, p x = true := by
  induction l with
  | nil => simp
  | cons a l ih =>
    rw [List.dropWhile_cons]
    by_cases h : p a = true
    · rw [if_pos h, ih]; simp [h]
    · rw [if_neg h]; simp [h]
theorem trim_nil (l : List UInt8) : Lib.trimB l 0 = [] ↔ ∀ x ∈ l, x = 0 := by
  unfold Lib.trimB Lib.trimLeftB Lib.trimRightB
  rw [dropWhile_nil]
  constructor
  · intro h x hx
    by_cases hall : ∀ y ∈ l.reverse, (y == 0) = true
    · simpa using hall x (by simpa using hx)
    · exfalso
      apply hall
      intro y hy
      have h1 : (l.reverse.dropWhile (· == 0)) = [] := by
        rcases hd : l.reverse.dropWhile (· == 0) with _ | ⟨z, zs⟩
        · rfl
        · have h2 := List.head?_dropWhile_not (p := (· == 0)) (l := l.reverse)
          rw [hd] at h2
          simp at h2
          have h3 := h z (by rw [hd]; simp)
          simp at h3
          exact absurd h3 h2
      exact (dropWhile_nil _ _).1 h1 y hy
  · intro h x hx
    have h1 : x ∈ l := by
      have := List.mem_reverse.1 hx
      have h2 := (List.dropWhile_sublist (· == 0) (l := l.reverse)).subset this
      simpa using h2
    simp [h x h1]
theorem pre_iff (l : List UInt8) (a b : Nat) (hl : l.length = 64) : Lib.hasPrefix l (st a b) = decide (l.take 8 = st a b) := by
  have h := Lib.hasPrefix_of_take l (st a b)
  rw [← h, st_length, decide_eq_true (show 8 ≤ l.length by omega), Bool.true_and]
  rw [Bool.eq_iff_iff]; simp
theorem suf_iff (l : List UInt8) (a b : Nat) (hl : l.length = 64) : Lib.hasSuffix l (st a b) = decide (l.drop 56 = st a b) := by
  have h := Lib.hasSuffix_of_drop l (st a b)
  rw [← h, st_length, decide_eq_true (show 8 ≤ l.length by omega), Bool.true_and, hl]
  rw [Bool.eq_iff_iff]; simp

/-- How many bytes a frame says that it bears. -/
def bears (l : List UInt8) : Nat := (l.getD 8 0).toNat
def isFrame (a b : Nat) (l : List UInt8) : Prop := l.length = 64 ∧ l.take 8 = st a b ∧ l.drop 56 = st a b ∧ bears l ≤ 47 ∧ ∀ x ∈ (l.drop (9 + bears l)).take (47 - bears l), x = 0
instance (a b : Nat) (l : List UInt8) : Decidable (isFrame a b l) := inferInstanceAs (Decidable (_ ∧ _ ∧ _ ∧ _ ∧ _))
def opens (a b : Nat) (l : List UInt8) : List UInt8 := if isFrame a b l then (l.drop 9).take (bears l) else []

theorem index_text (l : List UInt8) (i : Nat) (h : i < l.length) (w : World) :
    (Instr.index 9 (.string (S l)) (.int .i64 i)).run Tryd.prog w = .ok (.int .u8 ((l.getD i 0).toNat : Int)) w := by
  have hb : (S l)[i]? = some (l.getD i 0) := by
    have e : (S l)[i]? = (S l).data[i]? := by
      by_cases hs : i < (S l).size
      · rw [getElem?_pos (S l) i hs, getElem?_pos (S l).data i hs]; rfl
      · rw [getElem?_neg (S l) i hs, getElem?_neg (S l).data i hs]
    rw [e]
    simp [S, h, List.getD]
  unfold Instr.index
  simp [asIntOf, Sem.run_bind, run_underlying Tryd.underlying9, hb]

set_option maxRecDepth 100000 in
theorem open_any (a b : Nat) (l : List UInt8) (w : World) (ha : a < 4294967296) (hb : b < 4294967296) (hl : l.length ≤ 100000000) :
    Calls Tryd.prog 36 #[.agg #[.int .u32 a, .int .u32 b], .string (S l)] w fun e w' => e = .returned (.tuple #[.string (S (opens a b l)), .bool (decide (isFrame a b l))]) ∧ Below w.heap.size w w' := by
  have hs := S_size l
  go_enter Tryd.func36, Tryd.ntmps36
  go_upto_region 1 with fail
  have hb0 := heap_new w (.cells #[.int .u32 a, .int .u32 b] 54)
  have hB0 : Below w.heap.size w (w.alloc (.cells #[.int .u32 a, .int .u32 b] 54)) := (Below.refl _ _).alloc (Nat.le_refl _) _
  generalize w.alloc (.cells #[.int .u32 a, .int .u32 b] 54) = w0 at *
  have c0 := cell_of_block hb0 0
  have c1 := cell_of_block hb0 1
  simp only [List.getElem?_toArray, List.getElem?_cons_zero, List.getElem?_cons_succ] at c0 c1
  have HB0 := hid hB0
  have Hb0 := hid hb0
  clear hB0 hb0
  by_cases h1 : ¬ l.length = 64
  · have d1 : decide ((l.length : Int) = 64) = false := by simp; omega
    have hno : ¬ isFrame a b l := fun h => h1 h.1
    go_wp2_with fail
    go_ret2
    refine ⟨?_, HB0.out⟩
    rw [opens, if_neg hno, decide_eq_false hno]
    rfl
  have h1 := Decidable.not_not.1 h1
  have d1 : decide ((l.length : Int) = 64) = true := by simp; omega
  go_wp2_with fail
  refine (stbytes_any a b w0 ha hb).mono ?_
  rintro e w1 ⟨rfl, hB1⟩
  have hb1 := (hB1.block _ (lt_of_block Hb0.out)).trans Hb0.out
  have k0 := cell_of_block hb1 0
  have k1 := cell_of_block hb1 1
  simp only [List.getElem?_toArray, List.getElem?_cons_zero, List.getElem?_cons_succ] at k0 k1
  have HB1 := hid (HB0.out.trans (hB1.mono HB0.out.size))
  have Hb1 := hid hb1
  clear hB1 hb1 c0 c1
  go_wp2_with fail
  refine (has_prefix l (st a b) w1).mono ?_
  rintro e w' ⟨rfl, hw⟩
  subst hw
  rw [pre_iff l a b h1]
  by_cases h2 : ¬ l.take 8 = st a b
  · rw [decide_eq_false h2]
    have hno : ¬ isFrame a b l := fun h => h2 h.2.1
    go_wp2_with fail
    go_ret2
    refine ⟨?_, HB1.out⟩
    rw [opens, if_neg hno, decide_eq_false hno]
    rfl
  have h2 := Decidable.not_not.1 h2
  rw [decide_eq_true h2]
  have H2 := hid h2
  clear h2
  go_wp2_with fail
  refine (stbytes_any a b w' ha hb).mono ?_
  rintro e w2 ⟨rfl, hB2⟩
  have HB2 := hid (HB1.out.trans (hB2.mono HB1.out.size))
  clear hB2 k0 k1
  go_wp2_with fail
  refine (has_suffix l (st a b) w2 hl).mono ?_
  rintro e w' ⟨rfl, hw⟩
  subst hw
  rw [suf_iff l a b h1]
  by_cases h3 : ¬ l.drop 56 = st a b
  · rw [decide_eq_false h3]
    have hno : ¬ isFrame a b l := fun h => h3 h.2.2.1
    go_wp2_with fail
    go_ret2
    refine ⟨?_, HB2.out⟩
    rw [opens, if_neg hno, decide_eq_false hno]
    rfl
  have h3 := Decidable.not_not.1 h3
  rw [decide_eq_true h3]
  have H3 := hid h3
  clear h3
  have hidx : ∀ w, (Instr.index 9 (.string (S l)) (.int .i64 8)).run Tryd.prog w = .ok (.int .u8 ((bears l : Nat) : Int)) w := fun w => index_text l 8 (by omega) w
  have hc8 : bears l < 256 := (l.getD 8 0).toNat_lt
  have hopen : isFrame a b l ↔ bears l ≤ 47 ∧ ∀ x ∈ (l.drop (9 + bears l)).take (47 - bears l), x = 0 := ⟨fun h => h.2.2.2, fun h => ⟨h1, H2.out, H3.out, h⟩⟩
  have hval : isFrame a b l → opens a b l = (l.drop 9).take (bears l) := fun h => if_pos h
  have hval2 : ¬ isFrame a b l → opens a b l = [] := fun h => if_neg h
  generalize bears l = n at *
  have hwn : IntKind.i64.wrap (n : Int) = (n : Int) := by rw [IntKind.wrap_i64]; omega
  have hwn2 : wrap64 (n : Int) = (n : Int) := IntWalk.wrap64_in _ (by omega)
  go_upto_region 4 with fail
  clear hidx
  by_cases h4 : ¬ n ≤ 47
  · have d4 : decide ((47 : Int) < n) = true := by simp; omega
    have hno : ¬ isFrame a b l := fun h => h4 (hopen.1 h).1
    go_wp2_with fail
    go_ret2
    refine ⟨?_, HB2.out⟩
    rw [hval2 hno, decide_eq_false hno]
    rfl
  have h4 := Decidable.not_not.1 h4
  have d4 : decide ((47 : Int) < n) = false := by simp; omega
  go_upto_region 7 with fail
  rw [show (9 : Int) + (n : Int) = ((9 + n : Nat) : Int) from by omega]
  have hx1 : (S l).extract (9 + n) 56 = S ((l.drop (9 + n)).take (47 - n)) := by rw [S_extract, show 56 - (9 + n) = 47 - n from by omega]
  have hx2 : (S l).extract 9 (9 + n) = S ((l.drop 9).take n) := by rw [S_extract, show 9 + n - 9 = n from by omega]
  have hm1 : ((9 + n : Nat) : Int) ≤ 56 := by omega
  have hm2 : ((9 + n : Nat) : Int) ≤ 64 := by omega
  have hm3 : (9 : Int) ≤ ((9 + n : Nat) : Int) := by omega
  have hs64 : (S l).size = 64 := by rw [hs, h1]
  have hml : ((l.drop (9 + n)).take (47 - n)).length ≤ 100000000 := by rw [List.length_take, List.length_drop]; omega
  generalize (l.drop (9 + n)).take (47 - n) = r at *
  generalize 9 + n = m at *
  clear hwn hwn2 hs
  go_wp2_with fail
  refine (trim_nul r w' hml).mono ?_
  rintro e w3 ⟨rfl, hB3⟩
  have HB3 := hid (HB2.out.trans (hB3.mono HB2.out.size))
  clear hB3
  have htr := trim_nil r
  have hst : (S (Lib.trimB r 0)).toList = Lib.trimB r 0 := S_toList _
  by_cases h5 : ¬ Lib.trimB r 0 = []
  · have d5 : (S (Lib.trimB r 0)).toList.isEmpty = false := by rw [S_toList]; simpa using h5
    have hno : ¬ isFrame a b l := fun h => h5 (htr.2 (hopen.1 h).2)
    clear htr hst hopen
    go_wp2_with fail
    go_ret2
    refine ⟨?_, HB3.out⟩
    rw [hval2 hno, decide_eq_false hno]
    rfl
  have h5 := Decidable.not_not.1 h5
  have d5 : (S (Lib.trimB r 0)).toList.isEmpty = true := by rw [S_toList, h5]; rfl
  have hyes : isFrame a b l := hopen.2 ⟨h4, htr.1 h5⟩
  clear htr hst hopen h5
  go_wp2_with fail
  go_ret2
  refine ⟨?_, HB3.out⟩
  rw [hval hyes, decide_eq_true hyes]
  rfl

theorem frame_form (a b : Nat) (t : List UInt8) (ht : t.length ≤ 47) : frame a b t = st a b ++ (UInt8.ofNat t.length :: (t ++ (List.replicate (47 - t.length) 0 ++ st a b))) := by
  unfold frame
  rw [num_one, show 56 - (9 + t.length) = 47 - t.length from by omega]
  simp
theorem frame_is (a b : Nat) (t : List UInt8) (ht : t.length ≤ 47) : isFrame a b (frame a b t) ∧ opens a b (frame a b t) = t := by
  have hF := frame_form a b t ht
  have h8 := st_length a b
  have d9 : (frame a b t).drop 9 = t ++ (List.replicate (47 - t.length) 0 ++ st a b) := by
    rw [hF, show 9 = 8 + 1 from rfl, ← List.drop_drop, List.drop_left' h8]
    rfl
  have hb : bears (frame a b t) = t.length := by
    unfold bears
    rw [hF, List.getD_eq_getElem?_getD, List.getElem?_append_right (by omega), h8]
    simp
    omega
  have d9n : (frame a b t).drop (9 + t.length) = List.replicate (47 - t.length) 0 ++ st a b := by
    rw [← List.drop_drop, d9, List.drop_left' rfl]
  have hi : isFrame a b (frame a b t) := by
    refine ⟨frame_length a b t ht, ?_, ?_, by omega, ?_⟩
    · rw [hF, List.take_left' h8]
    · rw [show 56 = (9 + t.length) + (47 - t.length) from by omega, ← List.drop_drop, d9n, List.drop_left' (by simp)]
    · rw [hb, d9n, List.take_left' (by simp)]
      intro x hx
      exact (List.mem_replicate.1 hx).2
  refine ⟨hi, ?_⟩
  rw [opens, if_pos hi, hb, d9, List.take_left' rfl]
theorem frame_of {a b : Nat} {l : List UInt8} (h : isFrame a b l) : l = frame a b (opens a b l) ∧ (opens a b l).length ≤ 47 := by
  obtain ⟨h1, h2, h3, h4, h5⟩ := id h
  have ho : opens a b l = (l.drop 9).take (bears l) := if_pos h
  have hlen : (opens a b l).length = bears l := by rw [ho, List.length_take, List.length_drop]; omega
  refine ⟨?_, by omega⟩
  rw [frame_form a b _ (by omega), hlen]
  have e1 : l = l.take 8 ++ l.drop 8 := (List.take_append_drop 8 l).symm
  have e2 : l.drop 8 = UInt8.ofNat (bears l) :: l.drop 9 := by
    rw [List.drop_eq_getElem_cons (by omega)]
    unfold bears
    rw [List.getD_eq_getElem?_getD, List.getElem?_eq_getElem (by omega)]
    simp
  have e3 : l.drop 9 = (l.drop 9).take (bears l) ++ l.drop (9 + bears l) := by
    rw [← List.drop_drop]
    exact (List.take_append_drop _ _).symm
  have e4 : l.drop (9 + bears l) = (l.drop (9 + bears l)).take (47 - bears l) ++ l.drop 56 := by
    rw [show l.drop 56 = (l.drop (9 + bears l)).drop (47 - bears l) from by rw [List.drop_drop, show 9 + bears l + (47 - bears l) = 56 from by omega]]
    exact (List.take_append_drop _ _).symm
  have e5 : (l.drop (9 + bears l)).take (47 - bears l) = List.replicate (47 - bears l) 0 := by
    refine List.eq_replicate_iff.2 ⟨by rw [List.length_take, List.length_drop]; omega, h5⟩
  rw [← e5, ho, ← h2]
  conv => lhs; rw [e1, e2, e3, e4]
  rw [h3, ← h2]
end Go.Proofs.YtkmbbgnbklklcaaDoor
