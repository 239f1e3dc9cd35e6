/-
  The journal behind a crash, in plain Lean.
-/
import Derived.Test.YtkmbbgnbklklcaaDoorL08b
import Derived.Test.YtkmbbgnbklklcaaDoorDiskE
namespace Go.Proofs.YtkmbbgnbklklcaaDoor
open Go.RowKit

theorem st_get3 (a b : Nat) : (st a b).getD 3 0 = UInt8.ofNat a := by
  unfold st
  rw [num_snoc a 3]
  have h := num_length (a / 256) 3
  rw [List.getD_eq_getElem?_getD, List.append_assoc, List.getElem?_append_right (by omega), h]
  rfl
theorem st_get7 (a b : Nat) : (st a b).getD 7 0 = UInt8.ofNat b := by
  unfold st
  have h4 := num_length a 4
  rw [List.getD_eq_getElem?_getD, List.getElem?_append_right (by omega), h4, num_snoc b 3]
  have h := num_length (b / 256) 3
  rw [List.getElem?_append_right (by omega), h]
  rfl
/-- What an elder sector ends with. -/
def oldEnd (ep i : Nat) (s : List UInt8) : Prop := s.length = 64 ∧ (s.drop 56 = st (ep - 1) (i + 1) ∨ s.drop 56 = st 0 0)
theorem old_no (ep i : Nat) (s : List UInt8) (h : oldEnd ep i s) (hodd : ep % 2 = 1) (he : ep < 4294967296) (hi : i + 1 < 256) : ¬ isFrame ep (i + 1) s := by
  intro hf
  rcases h.2 with h2 | h2
  · have := (st_in he (by omega) (by omega) (by omega) (hf.2.2.1.symm.trans h2)).1
    omega
  · have := (st_in he (by omega) (by omega) (by omega) (hf.2.2.1.symm.trans h2)).2
    omega
theorem drop_getD (s : List UInt8) (k j : Nat) : (s.drop k).getD j 0 = s.getD (k + j) 0 := by
  simp [List.getD_eq_getElem?_getD, List.getElem?_drop]
/-- Torn: whole, or no frame of its place. -/
theorem torn_is (ep i c : Nat) (p s : List UInt8) (hp : p.length ≤ 47) (h : oldEnd ep i s) (hodd : ep % 2 = 1) (he : ep < 4294967296) (hi : i + 1 < 256) (hc : c ≤ 64) (hf : isFrame ep (i + 1) ((frame ep (i + 1) p).take c ++ s.drop c)) : (frame ep (i + 1) p).take c ++ s.drop c = frame ep (i + 1) p := by
  have hF := (frame_is ep (i + 1) p hp).1
  have hl := hF.1
  generalize hT : (frame ep (i + 1) p).take c ++ s.drop c = t at *
  have hx := h.1
  -- a byte behind the cut is the elder's
  have hb : ∀ j, c ≤ j → t.getD j 0 = s.getD j 0 := by
    intro j hj
    rw [← hT, List.getD_eq_getElem?_getD, List.getD_eq_getElem?_getD, List.getElem?_append_right (by rw [List.length_take]; omega), List.getElem?_drop, List.length_take, hl]
    congr 2
    omega
  by_cases h60 : c < 60
  · have e1 : t.getD 59 0 = UInt8.ofNat ep := by rw [show (59 : Nat) = 56 + 3 from rfl, ← drop_getD, hf.2.2.1, st_get3]
    have e2 := hb 59 (by omega)
    rw [e1, show (59 : Nat) = 56 + 3 from rfl, ← drop_getD] at e2
    rcases h.2 with h2 | h2
    · rw [h2, st_get3] at e2
      have e3 := congrArg UInt8.toNat e2
      rw [UInt8.toNat_ofNat', UInt8.toNat_ofNat'] at e3
      omega
    · rw [h2, st_get3] at e2
      have e3 := congrArg UInt8.toNat e2
      rw [UInt8.toNat_ofNat', UInt8.toNat_ofNat'] at e3
      omega
  · by_cases h64 : c = 64
    · rw [← hT, h64, List.take_of_length_le (by omega), List.drop_eq_nil_of_le (by omega), List.append_nil]
    · rcases h.2 with h2 | h2
      · -- the same number behind
        have e1 : s.drop c = (frame ep (i + 1) p).drop c := by
          have e2 : s.drop c = (s.drop 56).drop (c - 56) := by rw [List.drop_drop, show 56 + (c - 56) = c from by omega]
          have e3 : (frame ep (i + 1) p).drop c = ((frame ep (i + 1) p).drop 56).drop (c - 56) := by rw [List.drop_drop, show 56 + (c - 56) = c from by omega]
          have hd : ∀ x y : Nat, (st x y).drop (c - 56) = (num y 4).drop (c - 60) := fun x y => by
            unfold st
            have hn : (num x 4).drop (c - 56) = [] := List.drop_eq_nil_of_le (by rw [num_length]; omega)
            rw [List.drop_append, num_length, hn, List.nil_append, show c - 56 - 4 = c - 60 from by omega]
          rw [e2, e3, h2, hF.2.2.1, hd, hd]
        rw [← hT, e1, List.take_append_drop]
      · have e1 : t.getD 63 0 = UInt8.ofNat (i + 1) := by rw [show (63 : Nat) = 56 + 7 from rfl, ← drop_getD, hf.2.2.1, st_get7]
        have e2 := hb 63 (by omega)
        rw [e1, show (63 : Nat) = 56 + 7 from rfl, ← drop_getD, h2, st_get7] at e2
        have e3 := congrArg UInt8.toNat e2
        rw [UInt8.toNat_ofNat', UInt8.toNat_ofNat'] at e3
        omega

/-- Each sector behind a crash: its first bytes, those of the elder behind them. -/
theorem tear_at (D : Dsk) (cs : Nat → Nat) (hcs : ∀ k, cs k ≤ 64) (L : List Nat) (hL : L.Nodup) (q : Nat) (hq : q ≤ L.length) :
    (∀ j, j ∉ L.take q → (D.tearN cs L q).now j = D.now j ∧ (D.tearN cs L q).sure j = D.sure j) ∧ (∀ j, j ∈ L.take q → ∃ c, c ≤ 64 ∧ (D.tearN cs L q).now j = (D.now j).take c ++ (D.sure j).drop c) := by
  induction q with
  | zero => exact ⟨fun j _ => ⟨rfl, rfl⟩, fun j hj => by simp at hj⟩
  | succ q ih =>
    obtain ⟨h1, h2⟩ := ih (by omega)
    have hlt : q < L.length := by omega
    have hg : L.getD q 0 = L[q] := by simp [List.getD, hlt]
    have htk : L.take (q + 1) = L.take q ++ [L[q]] := by rw [List.take_add_one]; simp [hlt]
    have hnot : L[q] ∉ L.take q := by
      intro hm
      have hd := hL
      rw [← List.take_append_drop q L, List.nodup_append] at hd
      exact hd.2.2 _ hm _ (by rw [List.drop_eq_getElem_cons hlt]; exact List.mem_cons_self) rfl
    have hnow : ∀ j, (D.tearN cs L (q + 1)).now j = if j = L[q] then tornAt (D.tearN cs L q) L[q] (cs q) else (D.tearN cs L q).now j := fun j => by
      show upd (D.tearN cs L q).now (L.getD q 0) _ j = _
      rw [hg]
      rfl
    have hsure : ∀ j, (D.tearN cs L (q + 1)).sure j = if j = L[q] then tornAt (D.tearN cs L q) L[q] (cs q) else (D.tearN cs L q).sure j := fun j => by
      show upd (D.tearN cs L q).sure (L.getD q 0) _ j = _
      rw [hg]
      rfl
    refine ⟨fun j hj => ?_, fun j hj => ?_⟩
    · rw [htk, List.mem_append, List.mem_singleton] at hj
      rw [hnow, hsure, if_neg (fun e => hj (.inr e)), if_neg (fun e => hj (.inr e))]
      exact h1 j (fun h => hj (.inl h))
    · rw [hnow]
      by_cases he : j = L[q]
      · subst he
        rw [if_pos rfl]
        unfold tornAt
        rw [(h1 _ hnot).1, (h1 _ hnot).2]
        exact ⟨cs q, hcs q, rfl⟩
      · rw [if_neg he]
        rw [htk, List.mem_append, List.mem_singleton] at hj
        exact h2 j (hj.resolve_right he)
theorem crash_at (D : Dsk) (n : Nat) (cs : Nat → Int) (j : Nat) (hj : j < D.n) : ∃ c, c ≤ 64 ∧ (D.crash n cs).now j = (D.now j).take c ++ (D.sure j).drop c := by
  have hnd : (loose D).Nodup := List.Pairwise.filter _ List.nodup_range
  obtain ⟨h1, h2⟩ := tear_at D (cutAt n cs) (cutAt_le n cs) (loose D) hnd (loose D).length (Nat.le_refl _)
  rw [List.take_length] at h1 h2
  by_cases hm : j ∈ loose D
  · exact h2 j hm
  · refine ⟨0, by omega, ?_⟩
    have he : D.sure j = D.now j := by
      have h3 : ¬ (j < D.n ∧ D.sure j ≠ D.now j) := fun h => hm (by simpa [loose, looseTo] using h)
      exact Classical.byContradiction fun h => h3 ⟨hj, h⟩
    rw [List.take_zero, List.nil_append, List.drop_zero, he]
    exact (h1 j hm).1

theorem first_diff (F X : List (List UInt8)) (h : F.length ≤ X.length) : ∃ m, m ≤ F.length ∧ X.take m = F.take m ∧ (m < F.length → X[m]? ≠ F[m]?) := by
  induction F generalizing X with
  | nil => exact ⟨0, Nat.le_refl _, rfl, fun h => by simp at h⟩
  | cons f F ih =>
    cases X with
    | nil => simp at h
    | cons x X =>
      by_cases he : x = f
      · obtain ⟨m, h1, h2, h3⟩ := ih X (by simpa using h)
        refine ⟨m + 1, by simpa using h1, by rw [List.take_succ_cons, List.take_succ_cons, h2, he], fun hm => ?_⟩
        rw [List.getElem?_cons_succ, List.getElem?_cons_succ]
        exact h3 (by simpa using hm)
      · exact ⟨0, Nat.zero_le _, rfl, fun _ e => he (by simpa using e)⟩
/-- Sectors of which the first m0 are a journal's, the next ones torn, up to M; those behind are elder ones: the records that a scan finds. -/
theorem kept_scan (ep : Nat) (K : List (List UInt8)) (k0 : Nat) (X : List (List UInt8)) (O : Nat → List UInt8) (hodd : ep % 2 = 1) (he : ep < 4294967296) (hX : X.length < 200) (hM : (allParts K).length ≤ X.length) (hk0 : k0 ≤ K.length)
    (hO : ∀ i, i < X.length → oldEnd ep i (O i))
    (h0 : ∀ i (hi : i < X.length), i < (allParts (K.take k0)).length → some X[i] = (frs ep 0 (allParts K))[i]?)
    (h1 : ∀ i (hi : i < X.length) (hm : i < (allParts K).length), ∃ c, c ≤ 64 ∧ X[i] = (frame ep (i + 1) ((allParts K)[i])).take c ++ (O i).drop c ∨ some X[i] = (frs ep 0 (allParts K))[i]?)
    (h2 : ∀ i (hi : i < X.length), (allParts K).length ≤ i → X[i] = O i) :
    ∃ j, k0 ≤ j ∧ j ≤ K.length ∧ scan ep 0 X [] = K.take j := by
  have hFl : (frs ep 0 (allParts K)).length = (allParts K).length := frs_length _ _ _
  obtain ⟨m, hm1, hm2, hm3⟩ := first_diff (frs ep 0 (allParts K)) X (by omega)
  rw [hFl] at hm1 hm3
  have hXe : X = frs ep 0 ((allParts K).take m) ++ X.drop m := by
    rw [← frs_take, ← hm2, List.take_append_drop]
  obtain ⟨j, hj1, hj2, hj3⟩ := scan_prefix ep K 0 m (X.drop m) hm1 (fun s hs hf => by
    rw [List.getElem?_drop, Nat.add_zero] at hs
    have hmX : m < X.length := by
      rcases Nat.lt_or_ge m X.length with h | h
      · exact h
      · rw [List.getElem?_eq_none h] at hs; cases hs
    have hsX : X[m] = s := by rw [List.getElem?_eq_getElem hmX] at hs; exact Option.some.inj hs
    rw [Nat.zero_add] at hf
    by_cases hmM : m < (allParts K).length
    · have hne := hm3 hmM
      rw [hs] at hne
      have hFm : (frs ep 0 (allParts K))[m]? = some (frame ep (m + 1) ((allParts K)[m])) := by
        have h := frs_get ep 0 (allParts K) m hmM
        rw [Nat.zero_add] at h
        exact h
      obtain ⟨c, hc⟩ := h1 m hmX hmM
      rcases hc with ⟨hc, hc2⟩ | hc
      · rw [hsX] at hc2
        rw [hc2] at hf
        have ht := torn_is ep m c ((allParts K)[m]) (O m) (allParts_le K _ (List.getElem_mem hmM)) (hO m hmX) hodd he (by omega) hc hf
        rw [← hc2] at ht
        exact hne (by rw [hFm, ht])
      · rw [hsX] at hc
        exact hne hc
    · have h3 := h2 m hmX (by omega)
      rw [hsX] at h3
      rw [h3] at hf
      exact old_no ep m (O m) (hO m hmX) hodd he (by omega) hf)
  refine ⟨j, hj3 k0 hk0 ?_, hj1, by rw [hXe]; exact hj2⟩
  have hle : (allParts (K.take k0)).length ≤ (allParts K).length := by
    have e : allParts K = allParts (K.take k0) ++ allParts (K.drop k0) := by rw [allParts, allParts, allParts, ← List.flatMap_append, List.take_append_drop]
    rw [e, List.length_append]
    omega
  rcases Nat.lt_or_ge m (allParts (K.take k0)).length with h | h
  · have hmM : m < (allParts K).length := by omega
    have hmX : m < X.length := by omega
    exact absurd ((List.getElem?_eq_getElem hmX).trans (h0 m hmX h)) (hm3 hmM)
  · exact h
end Go.Proofs.YtkmbbgnbklklcaaDoor
