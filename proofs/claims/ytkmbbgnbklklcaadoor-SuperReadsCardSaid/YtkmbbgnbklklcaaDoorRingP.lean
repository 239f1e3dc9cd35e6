/-
  The journal's frames and what a scan finds, in plain Lean.
-/
import Derived.Test.YtkmbbgnbklklcaaDoorStampB
namespace Go.Proofs.YtkmbbgnbklklcaaDoor
open Go.RowKit

theorem be_num4 (k n : Nat) (h : n < 256 ^ k) : be (num n k) = n := by
  induction k generalizing n with
  | zero => simp at h; subst h; rfl
  | succ k ih =>
    rw [num_snoc, be_snoc, ih (n / 256) (by rw [Nat.pow_succ] at h; omega), UInt8.toNat_ofNat']
    omega
theorem st_in {a b c d : Nat} (ha : a < 4294967296) (hb : b < 4294967296) (hc : c < 4294967296) (hd : d < 4294967296) (h : st a b = st c d) : a = c ∧ b = d := by
  unfold st at h
  obtain ⟨h1, h2⟩ := List.append_inj h (by rw [num_length, num_length])
  have e1 := be_num4 4 a (by omega)
  have e2 := be_num4 4 c (by omega)
  have e3 := be_num4 4 b (by omega)
  have e4 := be_num4 4 d (by omega)
  rw [h1] at e1
  rw [h2] at e3
  exact ⟨e1.symm.trans e2, e3.symm.trans e4⟩

/-- What the frames of a record bear: a first byte and a part. -/
def parts (l : List UInt8) : List (List UInt8) := if _h : 46 < l.length then (0 :: l.take 46) :: parts (l.drop 46) else [1 :: l]
termination_by l.length
decreasing_by simp; omega
theorem parts_more {l : List UInt8} (h : 46 < l.length) : parts l = (0 :: l.take 46) :: parts (l.drop 46) := by rw [parts, dif_pos h]
theorem parts_last {l : List UInt8} (h : ¬ 46 < l.length) : parts l = [1 :: l] := by rw [parts, dif_neg h]
/-- How many frames a record takes. -/
def cost (n : Nat) : Nat := max ((n + 45) / 46) 1
theorem parts_length (l : List UInt8) : (parts l).length = cost l.length := by
  induction hn : l.length using Nat.strongRecOn generalizing l with
  | _ n ih =>
    by_cases h : 46 < l.length
    · rw [parts_more h, List.length_cons, ih (l.drop 46).length (by simp; omega) (l.drop 46) rfl, List.length_drop]
      unfold cost
      omega
    · rw [parts_last h, List.length_singleton]
      unfold cost
      omega
theorem parts_le (l : List UInt8) : ∀ p ∈ parts l, p.length ≤ 47 := by
  induction hn : l.length using Nat.strongRecOn generalizing l with
  | _ n ih =>
    by_cases h : 46 < l.length
    · rw [parts_more h]
      intro p hp
      rcases List.mem_cons.1 hp with rfl | hp
      · simp; omega
      · exact ih (l.drop 46).length (by simp; omega) (l.drop 46) rfl p hp
    · rw [parts_last h]
      intro p hp
      rw [List.mem_singleton] at hp
      subst hp
      simp; omega

/-- Frames, one behind the other. -/
def frs (ep sq : Nat) : List (List UInt8) → List (List UInt8)
  | [] => []
  | p :: ps => frame ep (sq + 1) p :: frs ep (sq + 1) ps
theorem frs_length (ep sq : Nat) (ps : List (List UInt8)) : (frs ep sq ps).length = ps.length := by
  induction ps generalizing sq with
  | nil => rfl
  | cons p ps ih => simp [frs, ih]
theorem frs_append (ep sq : Nat) (a b : List (List UInt8)) : frs ep sq (a ++ b) = frs ep sq a ++ frs ep (sq + a.length) b := by
  induction a generalizing sq with
  | nil => rfl
  | cons p ps ih =>
    rw [List.cons_append, frs, frs, ih, List.cons_append, List.length_cons, show sq + 1 + ps.length = sq + (ps.length + 1) from by omega]
theorem frs_get (ep sq : Nat) (ps : List (List UInt8)) (i : Nat) (h : i < ps.length) : (frs ep sq ps)[i]? = some (frame ep (sq + i + 1) ps[i]) := by
  induction ps generalizing sq i with
  | nil => simp at h
  | cons p ps ih =>
    cases i with
    | zero => rfl
    | succ i =>
      have h' : i < ps.length := by simpa using h
      rw [frs, List.getElem?_cons_succ, ih (sq + 1) i h', show sq + 1 + i + 1 = sq + (i + 1) + 1 from by omega]
      rfl
theorem frs_take (ep sq : Nat) (ps : List (List UInt8)) (k : Nat) : (frs ep sq ps).take k = frs ep sq (ps.take k) := by
  induction ps generalizing sq k with
  | nil => simp [frs]
  | cons p ps ih =>
    cases k with
    | zero => rfl
    | succ k => rw [frs, List.take_succ_cons, List.take_succ_cons, frs, ih]

/-- Does a scan go on at a sector? What the frame bears. -/
def goes (ep k : Nat) (s : List UInt8) : Prop := isFrame ep (k + 1) s ∧ opens ep (k + 1) s ≠ [] ∧ ((opens ep (k + 1) s).getD 0 0).toNat ≤ 1
instance (ep k : Nat) (s : List UInt8) : Decidable (goes ep k s) := inferInstanceAs (Decidable (_ ∧ _ ∧ _))
def lastOf (ep k : Nat) (s : List UInt8) : Prop := ((opens ep (k + 1) s).getD 0 0).toNat = 1
instance (ep k : Nat) (s : List UInt8) : Decidable (lastOf ep k s) := inferInstanceAs (Decidable (_ = _))
def scan (ep : Nat) (k : Nat) : List (List UInt8) → List UInt8 → List (List UInt8)
  | [], _ => []
  | s :: rest, text =>
    if goes ep k s then
      if lastOf ep k s then (text ++ (opens ep (k + 1) s).drop 1) :: scan ep (k + 1) rest []
      else scan ep (k + 1) rest (text ++ (opens ep (k + 1) s).drop 1)
    else []

theorem scan_parts (ep : Nat) (l : List UInt8) (k : Nat) (rest : List (List UInt8)) (text : List UInt8) : scan ep k (frs ep k (parts l) ++ rest) text = (text ++ l) :: scan ep (k + (parts l).length) rest [] := by
  induction hn : l.length using Nat.strongRecOn generalizing l k text with
  | _ n ih =>
    by_cases h : 46 < l.length
    · rw [parts_more h, frs, List.cons_append, scan]
      obtain ⟨h1, h2⟩ := frame_is ep (k + 1) (0 :: l.take 46) (by simp; omega)
      rw [if_pos (show goes ep k _ from ⟨h1, by rw [h2]; simp, by rw [h2]; simp⟩), if_neg (show ¬ lastOf ep k _ from by unfold lastOf; rw [h2]; simp), h2]
      rw [ih (l.drop 46).length (by simp; omega) (l.drop 46) (k + 1) _ rfl, List.drop_succ_cons, List.drop_zero, List.append_assoc, List.take_append_drop, List.length_cons, show k + 1 + (parts (l.drop 46)).length = k + ((parts (l.drop 46)).length + 1) from by omega]
    · rw [parts_last h, frs, frs, List.cons_append, List.nil_append, scan]
      obtain ⟨h1, h2⟩ := frame_is ep (k + 1) (1 :: l) (by simp; omega)
      rw [if_pos (show goes ep k _ from ⟨h1, by rw [h2]; simp, by rw [h2]; simp⟩), if_pos (show lastOf ep k _ from by unfold lastOf; rw [h2]; simp), h2]
      simp
/-- All that the records of a journal bear. -/
def allParts (L : List (List UInt8)) : List (List UInt8) := L.flatMap parts
theorem allParts_snoc (L : List (List UInt8)) (s : List UInt8) : allParts (L ++ [s]) = allParts L ++ parts s := by simp [allParts]
theorem allParts_le (L : List (List UInt8)) : ∀ p ∈ allParts L, p.length ≤ 47 := by
  intro p hp
  obtain ⟨l, _, h⟩ := List.mem_flatMap.1 hp
  exact parts_le l p h
theorem scan_all (ep : Nat) (L : List (List UInt8)) (k : Nat) (rest : List (List UInt8)) : scan ep k (frs ep k (allParts L) ++ rest) [] = L ++ scan ep (k + (allParts L).length) rest [] := by
  induction L generalizing k with
  | nil => simp [allParts, frs]
  | cons l L ih =>
    have e : allParts (l :: L) = parts l ++ allParts L := by simp [allParts]
    rw [e, frs_append, List.append_assoc, scan_parts, ih, List.nil_append, List.length_append, List.cons_append, show k + (parts l).length + (allParts L).length = k + ((parts l).length + (allParts L).length) from by omega]
/-- Where the next sector is no frame of its place, a scan has come to its end. -/
theorem scan_stop (ep k : Nat) (rest : List (List UInt8)) (text : List UInt8) (h : ∀ s, rest[0]? = some s → ¬ isFrame ep (k + 1) s) : scan ep k rest text = [] := by
  cases rest with
  | nil => rfl
  | cons s rest => rw [scan, if_neg (fun hg => h s rfl hg.1)]
theorem nul_no (ep k : Nat) (hk : k + 1 < 4294967296) (he : ep < 4294967296) : ¬ isFrame ep (k + 1) (List.replicate 64 0) := by
  intro h
  have h0 : st 0 0 = st ep (k + 1) := by rw [← h.2.1]; rfl
  have := (st_in (by omega) (by omega) he hk h0).2
  omega
theorem other_no (ep ot k j : Nat) (p : List UInt8) (hp : p.length ≤ 47) (hk : k < 4294967296) (hj : j < 4294967296) (he : ep < 4294967296) (ho : ot < 4294967296) (hne : ep ≠ ot) : ¬ isFrame ot j (frame ep k p) := by
  intro h
  have h1 := (frame_is ep k p hp).1
  exact hne (st_in he hk ho hj (h1.2.1.symm.trans h.2.1)).1
/-- The first frames of a record, without its last: nothing whole. -/
theorem scan_cut (ep : Nat) (l : List UInt8) (k m : Nat) (rest : List (List UInt8)) (text : List UInt8) (hm : m < (parts l).length) (hr : ∀ s, rest[0]? = some s → ¬ isFrame ep (k + m + 1) s) : scan ep k (frs ep k ((parts l).take m) ++ rest) text = [] := by
  induction hn : l.length using Nat.strongRecOn generalizing l k m text with
  | _ n ih =>
    cases m with
    | zero => exact scan_stop ep k rest text hr
    | succ m =>
      by_cases h : 46 < l.length
      · rw [parts_more h, List.length_cons] at hm
        rw [parts_more h, List.take_succ_cons, frs, List.cons_append, scan]
        obtain ⟨h1, h2⟩ := frame_is ep (k + 1) (0 :: l.take 46) (by simp; omega)
        rw [if_pos (show goes ep k _ from ⟨h1, by rw [h2]; simp, by rw [h2]; simp⟩), if_neg (show ¬ lastOf ep k _ from by unfold lastOf; rw [h2]; simp)]
        exact ih (l.drop 46).length (by simp; omega) (l.drop 46) (k + 1) m _ (by omega) (fun s hs => by rw [show k + 1 + m + 1 = k + (m + 1) + 1 from by omega]; exact hr s hs) rfl
      · rw [parts_last h, List.length_singleton] at hm
        omega
/-- A scan of the first frames of a journal: of its records the first ones, all that are whole there. -/
theorem scan_prefix (ep : Nat) (L : List (List UInt8)) (k m : Nat) (rest : List (List UInt8)) (hm : m ≤ (allParts L).length) (hr : ∀ s, rest[0]? = some s → ¬ isFrame ep (k + m + 1) s) :
    ∃ j, j ≤ L.length ∧ scan ep k (frs ep k ((allParts L).take m) ++ rest) [] = L.take j ∧ ∀ i, i ≤ L.length → (allParts (L.take i)).length ≤ m → i ≤ j := by
  induction L generalizing k m with
  | nil =>
    have h0 : m = 0 := by simpa [allParts] using hm
    subst h0
    exact ⟨0, Nat.le_refl _, by rw [List.take_zero]; exact scan_stop ep k rest [] hr, fun i hi _ => hi⟩
  | cons l L ih =>
    have e : ∀ L, allParts (l :: L) = parts l ++ allParts L := fun L => by simp [allParts]
    rw [e, List.length_append] at hm
    rw [e]
    by_cases hp : (parts l).length ≤ m
    · obtain ⟨j, h1, h2, h3⟩ := ih (k + (parts l).length) (m - (parts l).length) (by omega) (fun s hs => by rw [show k + (parts l).length + (m - (parts l).length) + 1 = k + m + 1 from by omega]; exact hr s hs)
      refine ⟨j + 1, by simpa using h1, ?_, fun i hi hl => ?_⟩
      · rw [List.take_append, List.take_of_length_le hp, frs_append, List.append_assoc, scan_parts, h2, List.nil_append, List.take_succ_cons]
      · cases i with
        | zero => omega
        | succ i =>
          rw [List.take_succ_cons, e, List.length_append] at hl
          have := h3 i (by simpa using hi) (by omega)
          omega
    · refine ⟨0, by omega, ?_, fun i hi hl => ?_⟩
      · rw [List.take_append, show m - (parts l).length = 0 from by omega, List.take_zero, List.append_nil, scan_cut ep l k m rest [] (by omega) hr, List.take_zero]
      · cases i with
        | zero => omega
        | succ i =>
          rw [List.take_succ_cons, e, List.length_append] at hl
          omega
end Go.Proofs.YtkmbbgnbklklcaaDoor
