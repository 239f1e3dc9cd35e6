/-
  The plain law of a super: which sectors tell of one, and which one is read.
-/
import Derived.Test.YtkmbbgnbklklcaaDoorSupD
namespace Go.Proofs.YtkmbbgnbklklcaaDoor
open Go.RowKit

theorem tells_is {l : List UInt8} (h : tells l) : supBytes (tJo l) (tBi l) (tHe l) (tNe l) = l := by
  obtain ⟨h1, h2⟩ := h
  unfold supBytes tJo tBi tHe tNe
  rw [num_be_take (by simp; omega), num_be_take (by simp; omega), num_be_take (by simp; omega), num_be_take (by simp; omega), ← h2]
  have e : ∀ a k, (l.drop a).take k ++ l.drop (a + k) = l.drop a := fun a k => by rw [← List.drop_drop]; exact List.take_append_drop _ _
  have e10 : (l.drop 10).take 4 = l.drop 10 := List.take_of_length_le (by simp; omega)
  simp only [List.append_assoc]
  rw [e10, e 8 2, e 6 2, e 4 2, List.take_append_drop]
theorem supBytes_tells (jo bi he ne : Nat) : tells (supBytes jo bi he ne) := ⟨supBytes_length jo bi he ne, by simp [supBytes, sbat]⟩
theorem supBytes_drop4 (jo bi he ne : Nat) : (supBytes jo bi he ne).drop 4 = num jo 2 ++ (num bi 2 ++ (num he 2 ++ num ne 4)) := by simp [supBytes, sbat]
theorem supBytes_parts {jo bi he ne : Nat} (hj : jo < 65536) (hb : bi < 65536) (hh : he < 65536) (hn : ne < 4294967296) :
    tJo (supBytes jo bi he ne) = jo ∧ tBi (supBytes jo bi he ne) = bi ∧ tHe (supBytes jo bi he ne) = he ∧ tNe (supBytes jo bi he ne) = ne := by
  have d4 := supBytes_drop4 jo bi he ne
  have d6 : (supBytes jo bi he ne).drop 6 = num bi 2 ++ (num he 2 ++ num ne 4) := by rw [show 6 = 4 + 2 from rfl, ← List.drop_drop, d4, List.drop_left' (num_length _ _)]
  have d8 : (supBytes jo bi he ne).drop 8 = num he 2 ++ num ne 4 := by rw [show 8 = 6 + 2 from rfl, ← List.drop_drop, d6, List.drop_left' (num_length _ _)]
  have d10 : (supBytes jo bi he ne).drop 10 = num ne 4 := by rw [show 10 = 8 + 2 from rfl, ← List.drop_drop, d8, List.drop_left' (num_length _ _)]
  unfold tJo tBi tHe tNe
  rw [d4, d6, d8, d10, List.take_left' (num_length _ _), List.take_left' (num_length _ _), List.take_left' (num_length _ _), List.take_of_length_le (by rw [num_length]; omega)]
  exact ⟨be_num4 2 jo hj, be_num4 2 bi hb, be_num4 2 he hh, be_num4 4 ne hn⟩
/-- A super's sector. -/
def Sup.sec (x : Sup) : List UInt8 := frame x.ep 0 (supBytes x.jo x.bi x.he x.ne)
def Sup.err (x : Sup) (n : Nat) : Nat := supErr x.ep x.jo x.bi x.he x.ne n
def Sup.val (x : Sup) : Value := supV x.ep x.jo x.bi x.he x.ne
theorem Sup.sec_length (x : Sup) : x.sec.length = 64 := frame_length _ _ _ (by rw [supBytes_length]; omega)
theorem Sup.ext' {x y : Sup} (h1 : x.ep = y.ep) (h2 : x.jo = y.jo) (h3 : x.bi = y.bi) (h4 : x.he = y.he) (h5 : x.ne = y.ne) : x = y := by
  cases x; cases y; simp_all
def supOf (l : List UInt8) : Sup := ⟨sEp l, tJo (sTx l), tBi (sTx l), tHe (sTx l), tNe (sTx l)⟩
/-- What the document reads out of a sector. -/
def refSup (l : List UInt8) : Sup := ⟨be (l.take 4), be ((l.drop 13).take 2), be ((l.drop 15).take 2), be ((l.drop 17).take 2), be ((l.drop 19).take 4)⟩
theorem refSup_small (l : List UInt8) : (refSup l).small := ⟨be4 l, be2 _, be2 _, be2 _, be4 _⟩
theorem isFrame_sEp {a b : Nat} {l : List UInt8} (h : isFrame a b l) (ha : a < 4294967296) (hb : b < 4294967296) : sEp l = a ∧ sSq l = b := by
  obtain ⟨h1, h2, _⟩ := h
  have e1 : l.take 4 = num a 4 := by
    have h3 : (l.take 8).take 4 = l.take 4 := by rw [List.take_take]; rfl
    rw [← h3, h2]
    exact List.take_left' (num_length _ _)
  have e2 : (l.drop 4).take 4 = num b 4 := by
    have h3 : (l.take 8).drop 4 = (l.drop 4).take 4 := by rw [List.drop_take]
    rw [← h3, h2]
    exact List.drop_left' (num_length _ _)
  unfold sEp sSq
  rw [e1, e2]
  exact ⟨be_num4 4 a ha, be_num4 4 b hb⟩
theorem opens_at {a b : Nat} {l : List UInt8} (h : isFrame a b l) (h14 : (opens a b l).length = 14) : opens a b l = (l.drop 9).take 14 := by
  have h1 : opens a b l = (l.drop 9).take (bears l) := if_pos h
  have h2 := h.1
  have h3 := h.2.2.2.1
  have h4 : bears l = 14 := by rw [h1, List.length_take, List.length_drop] at h14; omega
  rw [h1, h4]
theorem bears_eq {l : List UInt8} {n : Nat} (h : bearsSup l n) : supOf l = refSup l := by
  obtain ⟨h1, h2, h3, _⟩ := h
  have hs : sTx l = (l.drop 9).take 14 := opens_at h1 h3.1
  have e : ∀ a k, a + k ≤ 14 → ((sTx l).drop a).take k = (l.drop (9 + a)).take k := fun a k hk => by
    rw [hs, List.drop_take, List.take_take, List.drop_drop, Nat.min_eq_left (by omega)]
  exact Sup.ext' rfl (congrArg be (e 4 2 (by omega))) (congrArg be (e 6 2 (by omega))) (congrArg be (e 8 2 (by omega))) (congrArg be (e 10 4 (by omega)))
theorem bears_sec {l : List UInt8} {n : Nat} (h : bearsSup l n) : (refSup l).sec = l ∧ (refSup l).err n = 0 := by
  have he := bears_eq h
  rw [← he]
  obtain ⟨h1, h2, h3, h4⟩ := h
  refine ⟨?_, h4⟩
  have hf := (frame_of h1).1
  show frame (sEp l) 0 (supBytes (tJo (sTx l)) (tBi (sTx l)) (tHe (sTx l)) (tNe (sTx l))) = l
  rw [tells_is h3]
  rw [h2] at hf
  conv => rhs; rw [hf]
  unfold sTx
  rw [h2]
theorem sec_bears {x : Sup} {n : Nat} (hx : x.small) (h : x.err n = 0) : bearsSup x.sec n ∧ supOf x.sec = x := by
  obtain ⟨h1, h2⟩ := frame_is x.ep 0 (supBytes x.jo x.bi x.he x.ne) (by rw [supBytes_length]; omega)
  change isFrame x.ep 0 x.sec at h1
  change opens x.ep 0 x.sec = _ at h2
  obtain ⟨h3, h4⟩ := isFrame_sEp h1 hx.ep (by decide)
  have ht : sTx x.sec = supBytes x.jo x.bi x.he x.ne := by
    unfold sTx
    rw [h3, h4, h2]
  obtain ⟨p1, p2, p3, p4⟩ := supBytes_parts hx.jo hx.bi hx.he hx.ne
  have hS : supOf x.sec = x := by
    unfold supOf
    rw [h3, ht, p1, p2, p3, p4]
  refine ⟨⟨?_, h4, ?_, ?_⟩, hS⟩
  · rw [h3, h4]; exact h1
  · exact (congrArg tells ht).mpr (supBytes_tells _ _ _ _)
  · rw [ht, h3, p1, p2, p3, p4]
    exact h
theorem bears_iff (l : List UInt8) (n : Nat) : bearsSup l n ↔ (refSup l).sec = l ∧ (refSup l).err n = 0 := by
  refine ⟨bears_sec, fun ⟨h1, h2⟩ => ?_⟩
  have h := (sec_bears (refSup_small l) h2).1
  rwa [h1] at h
theorem bears_nul (n : Nat) : ¬ bearsSup nul n := fun h => by
  have h1 := h.2.2.2
  have h2 : sEp nul = 0 := by decide
  rw [h2] at h1
  unfold supErr at h1
  rw [if_pos (by simp)] at h1
  exact absurd h1 (by decide)
theorem err_ep {x : Sup} {n : Nat} (h : x.err n = 0) : 0 < x.ep := by
  unfold Sup.err supErr at h
  by_cases h0 : x.ep = 0
  · rw [if_pos (by simp [h0])] at h; exact absurd h (by decide)
  · omega
theorem bears_ep {l : List UInt8} {n : Nat} (h : bearsSup l n) : 0 < sEp l := by
  have h1 := (bears_sec h).2
  exact err_ep h1

/-- The slots, one behind the other. -/
def sup0 : Sup := ⟨0, 0, 0, 0, 0⟩
def pickIf (n i : Nat) (l : List UInt8) (b : Sup) : Prop := bearsSup l n ∧ sEp l % 2 = i ∧ b.ep < sEp l
instance (n i : Nat) (l : List UInt8) (b : Sup) : Decidable (pickIf n i l b) := inferInstanceAs (Decidable (_ ∧ _ ∧ _))
def pick (n i : Nat) (l : List UInt8) (b : Sup) : Sup := if pickIf n i l b then supOf l else b
def Dsk.sups (D : Dsk) : Nat → Sup
  | 0 => sup0
  | k + 1 => pick D.n k (D.now k) (D.sups k)
def Dsk.best (D : Dsk) : Sup := D.sups (min 2 D.n)
theorem pick_no {n i : Nat} {l : List UInt8} {b : Sup} (h : ¬ bearsSup l n) : pick n i l b = b := if_neg fun hh => h hh.1
theorem pick_yes {n i : Nat} {l : List UInt8} {b : Sup} (h : pickIf n i l b) : pick n i l b = supOf l := if_pos h
theorem pick_not {n i : Nat} {l : List UInt8} {b : Sup} (h : ¬ pickIf n i l b) : pick n i l b = b := if_neg h
theorem supOf_ep (l : List UInt8) : (supOf l).ep = sEp l := rfl
theorem Dsk.best_two {D : Dsk} (h : 2 ≤ D.n) : D.best = pick D.n 1 (D.now 1) (pick D.n 0 (D.now 0) sup0) := by
  unfold Dsk.best
  rw [Nat.min_eq_left h]
  rfl
theorem best_nul {D : Dsk} (h : ∀ i, D.now i = nul) : D.best = sup0 := by
  have h2 : ∀ k, D.sups k = sup0 := fun k => by
    induction k with
    | zero => rfl
    | succ k ih => show pick D.n k (D.now k) (D.sups k) = sup0; rw [h k, pick_no (bears_nul _), ih]
  exact h2 _
/-- One alone. -/
theorem best_one {D : Dsk} {x : Sup} (hn : 2 ≤ D.n) (hx : x.small) (he : x.err D.n = 0) (h1 : D.now (x.ep % 2) = x.sec) (h2 : ∀ i, i < 2 → i ≠ x.ep % 2 → ¬ bearsSup (D.now i) D.n) : D.best = x := by
  obtain ⟨hb, ho⟩ := sec_bears hx he
  have hep : sEp x.sec = x.ep := by rw [← supOf_ep, ho]
  have h0 := err_ep he
  rw [Dsk.best_two hn]
  rcases Nat.mod_two_eq_zero_or_one x.ep with h | h
  · rw [h] at h1 h2
    rw [pick_no (h2 1 (by omega) (by omega)), h1, pick, if_pos ⟨hb, by rw [hep, h], by rw [hep]; exact h0⟩, ho]
  · rw [h] at h1 h2
    rw [pick_no (i := 0) (h2 0 (by omega) (by omega)), h1, pick, if_pos ⟨hb, by rw [hep, h], by rw [hep]; exact h0⟩, ho]
/-- Of two the greater one. -/
theorem best_first {D : Dsk} {x : Sup} (hn : 2 ≤ D.n) (hx : x.small) (he : x.err D.n = 0) (h1 : D.now (x.ep % 2) = x.sec) (h2 : ∀ i, i < 2 → i ≠ x.ep % 2 → bearsSup (D.now i) D.n → sEp (D.now i) ≤ x.ep) : D.best = x := by
  obtain ⟨hb, ho⟩ := sec_bears hx he
  have hep : sEp x.sec = x.ep := by rw [← supOf_ep, ho]
  have h0 := err_ep he
  rw [Dsk.best_two hn]
  rcases Nat.mod_two_eq_zero_or_one x.ep with h | h
  · rw [h] at h1 h2
    have hp : pick D.n 0 (D.now 0) sup0 = x := by rw [h1, pick, if_pos ⟨hb, by rw [hep, h], by rw [hep]; exact h0⟩, ho]
    rw [hp, pick, if_neg]
    rintro ⟨q1, q2, q3⟩
    have := h2 1 (by omega) (by omega) q1
    omega
  · rw [h] at h1 h2
    rw [h1]
    generalize hp : pick D.n 0 (D.now 0) sup0 = p
    have hlt : p.ep < x.ep := by
      rw [← hp]
      unfold pick
      split
      · rename_i hh
        have := h2 0 (by omega) (by omega) hh.1
        have h3 := hh.2.1
        rw [supOf_ep]
        omega
      · exact h0
    rw [pick, if_pos ⟨hb, by rw [hep, h], by rw [hep]; exact hlt⟩, ho]
/-- The document's: of two sectors the greater one. -/
def docRead (a b : List UInt8) (n : Nat) : Option Sup :=
  if (bearsSup a n ∧ sEp a % 2 = 0) ∧ (¬ (bearsSup b n ∧ sEp b % 2 = 1) ∨ sEp b < sEp a) then some (refSup a) else if bearsSup b n ∧ sEp b % 2 = 1 then some (refSup b) else none
theorem best_doc {D : Dsk} (hn : 2 ≤ D.n) : D.best = (docRead (D.now 0) (D.now 1) D.n).getD sup0 := by
  rw [Dsk.best_two hn]
  generalize D.now 0 = a
  generalize D.now 1 = b
  generalize D.n = n
  have hz : sup0.ep = 0 := rfl
  unfold docRead
  by_cases ha : bearsSup a n ∧ sEp a % 2 = 0
  · have h0 := bears_ep ha.1
    rw [pick_yes (show pickIf n 0 a sup0 from ⟨ha.1, ha.2, by rw [hz]; exact h0⟩)]
    by_cases hb : bearsSup b n ∧ sEp b % 2 = 1
    · by_cases hlt : sEp b < sEp a
      · rw [pick_not (fun h : pickIf n 1 b (supOf a) => by have h1 := h.2.2; rw [supOf_ep] at h1; omega), if_pos ⟨ha, .inr hlt⟩, bears_eq ha.1]; rfl
      · have hle : sEp a < sEp b := by have := ha.2; have := hb.2; omega
        rw [pick_yes (show pickIf n 1 b (supOf a) from ⟨hb.1, hb.2, by rw [supOf_ep]; exact hle⟩), if_neg (fun h => by rcases h.2 with h | h; exact h hb; exact hlt h), if_pos hb, bears_eq hb.1]; rfl
    · rw [pick_not (fun h : pickIf n 1 b (supOf a) => hb ⟨h.1, h.2.1⟩), if_pos ⟨ha, .inl hb⟩, bears_eq ha.1]; rfl
  · rw [pick_not (fun h : pickIf n 0 a sup0 => ha ⟨h.1, h.2.1⟩), if_neg (fun h : (bearsSup a n ∧ sEp a % 2 = 0) ∧ (¬ (bearsSup b n ∧ sEp b % 2 = 1) ∨ sEp b < sEp a) => ha h.1)]
    by_cases hb : bearsSup b n ∧ sEp b % 2 = 1
    · have h0 := bears_ep hb.1
      rw [pick_yes (show pickIf n 1 b sup0 from ⟨hb.1, hb.2, by rw [hz]; exact h0⟩), if_pos hb, bears_eq hb.1]; rfl
    · rw [pick_not (fun h : pickIf n 1 b sup0 => hb ⟨h.1, h.2.1⟩), if_neg hb]; rfl
theorem docRead_ep {a b : List UInt8} {n : Nat} {x : Sup} (h : docRead a b n = some x) : 0 < x.ep := by
  unfold docRead at h
  split at h
  · rename_i hh
    injection h with h
    rw [← h]
    exact bears_ep hh.1.1
  · split at h
    · rename_i hh
      injection h with h
      rw [← h]
      exact bears_ep hh.1
    · exact absurd h (by simp)
/-- Torn anywhere. -/
theorem torn_sup {y o : Sup} {n c : Nat} (ho : o.small) (hc : c ≤ 64) (h : bearsSup (y.sec.take c ++ o.sec.drop c) n) : y.sec.take c ++ o.sec.drop c = y.sec ∨ sEp (y.sec.take c ++ o.sec.drop c) = o.ep := by
  have hyl := y.sec_length
  have hol := o.sec_length
  have fy := (frame_is y.ep 0 (supBytes y.jo y.bi y.he y.ne) (by rw [supBytes_length]; omega)).1
  have fo := (frame_is o.ep 0 (supBytes o.jo o.bi o.he o.ne) (by rw [supBytes_length]; omega)).1
  change isFrame y.ep 0 y.sec at fy
  change isFrame o.ep 0 o.sec at fo
  generalize hT : y.sec.take c ++ o.sec.drop c = T at *
  have hTl : T.length = 64 := by rw [← hT, List.length_append, List.length_take, List.length_drop]; omega
  obtain ⟨g1, g2, _, _⟩ := h
  obtain ⟨_, k2, k3, _⟩ := g1
  by_cases h56 : c ≤ 56
  · right
    have hd : T.drop 56 = st o.ep 0 := by
      have hlen : (y.sec.take c).length = c := by rw [List.length_take]; omega
      have e : (y.sec.take c ++ o.sec.drop c).drop (c + (56 - c)) = (o.sec.drop c).drop (56 - c) := by rw [← List.drop_drop, List.drop_left' hlen]
      rw [List.drop_drop, show c + (56 - c) = 56 from by omega] at e
      rw [← hT, e]
      exact fo.2.2.1
    have : st (sEp T) (sSq T) = st o.ep 0 := by rw [← k3, hd]
    have h4 := congrArg (List.take 4) this
    unfold st at h4
    rw [List.take_left' (num_length _ _), List.take_left' (num_length _ _)] at h4
    have h5 := congrArg be h4
    rw [be_num4 4 (sEp T) (be4 T), be_num4 4 _ ho.ep] at h5
    exact h5
  · left
    have ht : T.take 56 = y.sec.take 56 := by
      rw [← hT, List.take_append_of_le_length (by rw [List.length_take]; omega), List.take_take, Nat.min_eq_left (by omega)]
    have h8 : T.take 8 = y.sec.take 8 := by
      have h1 := congrArg (List.take 8) ht
      rwa [List.take_take, List.take_take] at h1
    have hd : T.drop 56 = y.sec.drop 56 := by rw [k3, ← k2, h8, fy.2.1, fy.2.2.1]
    rw [← List.take_append_drop 56 T, ht, hd, List.take_append_drop]
end Go.Proofs.YtkmbbgnbklklcaaDoor
