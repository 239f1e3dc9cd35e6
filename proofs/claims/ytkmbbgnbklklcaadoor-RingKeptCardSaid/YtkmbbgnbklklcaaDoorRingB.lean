/-
  Contracts of package ring: Append.
-/
import Derived.Test.YtkmbbgnbklklcaaDoorRingA
namespace Go.Proofs.YtkmbbgnbklklcaaDoor
open Go.RowKit

/-- There is power, for as many calls as one likes. -/
structure Dsk.on (D : Dsk) : Prop where
  dead : D.dead = false
  armed : D.armed = false
theorem Dsk.on.fit {D : Dsk} (h : D.on) : D.fit := ⟨h.dead, fun e => by rw [h.armed] at e; cases e⟩
theorem Dsk.on.less {D : Dsk} (h : D.on) : D.less = D := by unfold Dsk.less; rw [if_neg (by simp [h.armed])]
def Dsk.putAt (D : Dsk) (i : Nat) (s : List UInt8) : Dsk := { D with now := upd D.now i s }
theorem Dsk.on.putAt {D : Dsk} (h : D.on) (i : Nat) (s : List UInt8) : (D.putAt i s).on := ⟨h.dead, h.armed⟩
def Dsk.puts (D : Dsk) (i : Nat) : List (List UInt8) → Dsk
  | [] => D
  | s :: l => (D.putAt i s).puts (i + 1) l
theorem Dsk.puts_n (D : Dsk) (i : Nat) (l : List (List UInt8)) : (D.puts i l).n = D.n := by
  induction l generalizing D i with
  | nil => rfl
  | cons s l ih => exact ih _ _
theorem Dsk.puts_sure (D : Dsk) (i : Nat) (l : List (List UInt8)) : (D.puts i l).sure = D.sure := by
  induction l generalizing D i with
  | nil => rfl
  | cons s l ih => exact ih _ _
theorem Dsk.on.puts {D : Dsk} (h : D.on) (i : Nat) (l : List (List UInt8)) : (D.puts i l).on := by
  induction l generalizing D i with
  | nil => exact h
  | cons s l ih => exact ih (h.putAt i s) _
theorem Dsk.puts_append (D : Dsk) (i : Nat) (a c : List (List UInt8)) : D.puts i (a ++ c) = (D.puts i a).puts (i + a.length) c := by
  induction a generalizing D i with
  | nil => rfl
  | cons s a ih =>
    rw [List.cons_append, Dsk.puts, Dsk.puts, ih, List.length_cons, show i + 1 + a.length = i + (a.length + 1) from by omega]
theorem Dsk.puts_now (D : Dsk) (i : Nat) (l : List (List UInt8)) (j : Nat) : (D.puts i l).now j = if h : i ≤ j ∧ j - i < l.length then l[j - i]'h.2 else D.now j := by
  induction l generalizing D i with
  | nil => rw [dif_neg (by simp)]; rfl
  | cons s l ih =>
    rw [Dsk.puts, ih]
    by_cases h1 : j = i
    · subst h1
      rw [dif_neg (by omega), dif_pos (by simp)]
      simp [Dsk.putAt, upd]
    · by_cases h2 : i + 1 ≤ j ∧ j - (i + 1) < l.length
      · rw [dif_pos h2, dif_pos (by simp; omega)]
        simp only [show j - i = (j - (i + 1)) + 1 from by omega, List.getElem_cons_succ]
      · rw [dif_neg h2, dif_neg (by simp; omega)]
        simp [Dsk.putAt, upd, h1]
def rfoot (r b g k : Nat) : Prop := k = r ∨ k = b ∨ k = g

theorem ring_append_no {b : Nat} (r : Nat) (fo n m : Int) (ep sq : Nat) (l : List UInt8) (w : World) (hR : RingAt w r b fo n ep sq) (hm : n - sq = m) (hn : n ≤ 1000000 ∧ 0 ≤ n) (hq : sq ≤ 1000000) (hl : l.length ≤ 100000) (hc : m < cost l.length) :
    Calls Tryd.prog 90 #[.pointer (some ⟨r, 0, none⟩), .string (S l)] w fun e w' => e = .returned (.bool false) ∧ Below w.heap.size w w' := by
  have hls := S_size l
  have hcd : decide (m < (cost l.length : Int)) = true := by simpa using hc
  go_enter Tryd.func90, Tryd.ntmps90
  go_wp2_with (first
    | (go_at_call 47; (with_reducible refine (ring_cost l.length _ (by omega)).mono ?_); rintro e w1 ⟨rfl, rfl⟩)
    | (go_at_call 48; (with_reducible refine (ring_left r b fo n m ep sq _ hR hm hn hq).mono ?_); rintro e w2 ⟨rfl, hB2⟩))
  go_ret
  exact ⟨rfl, hB2⟩
/-- Within an Append: ps is written, l' is left. -/
structure AppAt (w w' : World) (B b g r : Nat) (D : Dsk) (fo n : Int) (ep sq i : Nat) (l : List UInt8) (ps : List (List UInt8)) (l' : List UInt8) : Prop where
  hp : parts l = ps ++ parts l'
  hR : RingAt w' r b fo n ep (sq + ps.length)
  hD : DiskAt w' B b g (D.puts i (frs ep sq ps))
  hF : Fr (rfoot r b g) w w'
theorem app_end {w w' w3 : World} {B b g r : Nat} {D : Dsk} {fo n : Int} {ep sq i : Nat} {ps : List (List UInt8)} (ho : D.on) (p : List UInt8) (hR : RingAt w3 r b fo n ep (sq + ps.length + 1)) (hD : DiskAt w3 B b g { (D.puts i (frs ep sq ps)).less with now := upd (D.puts i (frs ep sq ps)).now (i + ps.length) (frame ep (sq + ps.length + 1) p) })
    (hF : Fr (rfoot r b g) w w') (hF3 : Fr (fun k => k = r ∨ k = b ∨ k = g) w' w3) : RingAt w3 r b fo n ep (sq + (ps ++ [p]).length) ∧ DiskAt w3 B b g (D.puts i (frs ep sq (ps ++ [p]))) ∧ Fr (rfoot r b g) w w3 := by
  rw [(ho.puts i (frs ep sq ps)).less] at hD
  refine ⟨by rw [List.length_append, List.length_singleton, ← Nat.add_assoc]; exact hR, ?_, hF.trans hF3 (fun _ _ h => h)⟩
  rw [frs_append, Dsk.puts_append, frs_length]
  exact hD
theorem AppAt.put0 {w w' : World} {B b g r : Nat} {D : Dsk} {fo n : Int} {ep sq i : Nat} {l : List UInt8} {ps : List (List UInt8)} {l' : List UInt8} (h : AppAt w w' B b g r D fo n ep sq i l ps l') (ho : D.on) (hfo : fo + sq = (i : Int)) (h46 : 46 < l'.length) (hpl : ps.length + cost l'.length = cost l.length) (hi : i + cost l.length ≤ D.n) (hq : sq ≤ 900000) (hep : ep < 4294967296) :
    Calls Tryd.prog 120 #[.pointer (some ⟨r, 0, none⟩), .int .u8 0, .string (S (l'.take 46))] w' fun e w3 => e = .returned (.tuple #[]) ∧ AppAt w w3 B b g r D fo n ep sq i l (ps ++ [0 :: l'.take 46]) (l'.drop 46) := by
  have hc1 : 1 ≤ cost l'.length := by unfold cost; omega
  have hsm := h.hD.small
  rw [Dsk.puts_n] at hsm
  refine (ring_put0 r fo n ep (sq + ps.length) (i + ps.length) (l'.take 46) w' h.hR h.hD (ho.puts i _).fit (by omega) (by rw [Dsk.puts_n]; omega) hep (by omega) (by simp; omega)).mono ?_
  rintro e w3 ⟨rfl, h1, h2, h3⟩
  obtain ⟨g1, g2, g3⟩ := app_end ho _ h1 h2 h.hF h3
  exact ⟨rfl, by rw [h.hp, parts_more h46]; simp, g1, g2, g3⟩
theorem AppAt.put1 {w w' : World} {B b g r : Nat} {D : Dsk} {fo n : Int} {ep sq i : Nat} {l : List UInt8} {ps : List (List UInt8)} {l' : List UInt8} (h : AppAt w w' B b g r D fo n ep sq i l ps l') (ho : D.on) (hfo : fo + sq = (i : Int)) (h46 : ¬ 46 < l'.length) (hpl : ps.length + cost l'.length = cost l.length) (hi : i + cost l.length ≤ D.n) (hq : sq ≤ 900000) (hep : ep < 4294967296) :
    Calls Tryd.prog 120 #[.pointer (some ⟨r, 0, none⟩), .int .u8 1, .string (S l')] w' fun e w3 => e = .returned (.tuple #[]) ∧ RingAt w3 r b fo n ep (sq + cost l.length) ∧ DiskAt w3 B b g (D.puts i (frs ep sq (parts l))) ∧ Fr (rfoot r b g) w w3 := by
  have hc1 : 1 ≤ cost l'.length := by unfold cost; omega
  have hsm := h.hD.small
  rw [Dsk.puts_n] at hsm
  refine (ring_put1 r fo n ep (sq + ps.length) (i + ps.length) l' w' h.hR h.hD (ho.puts i _).fit (by omega) (by rw [Dsk.puts_n]; omega) hep (by omega) (by omega)).mono ?_
  rintro e w3 ⟨rfl, h1, h2, h3⟩
  obtain ⟨g1, g2, g3⟩ := app_end ho _ h1 h2 h.hF h3
  have hl := parts_length l
  rw [h.hp, parts_last h46] at hl ⊢
  rw [← hl]
  exact ⟨rfl, g1, g2, g3⟩
def sizeOfText : Value → Nat
  | .string s => s.size
  | _ => 0
set_option maxRecDepth 100000 in
theorem ring_append_ok {B b g : Nat} {D : Dsk} (r : Nat) (fo n m : Int) (ep sq i : Nat) (l : List UInt8) (w : World) (hR : RingAt w r b fo n ep sq) (hD : DiskAt w B b g D) (ho : D.on) (hm : n - sq = m) (hn : n ≤ 1000000 ∧ 0 ≤ n) (hq : sq ≤ 900000) (hl : l.length ≤ 100000) (hc : ¬ m < cost l.length)
    (hfo : fo + sq = (i : Int)) (hi : i + cost l.length ≤ D.n) (hep : ep < 4294967296) :
    Calls Tryd.prog 90 #[.pointer (some ⟨r, 0, none⟩), .string (S l)] w fun e w' => e = .returned (.bool true) ∧ RingAt w' r b fo n ep (sq + cost l.length) ∧ DiskAt w' B b g (D.puts i (frs ep sq (parts l))) ∧ Fr (rfoot r b g) w w' := by
  have hls := S_size l
  have hcd : decide (m < (cost l.length : Int)) = false := by simpa using hc
  have hsm := hD.small
  have HR := hid hR
  have HD := hid hD
  clear hR hD
  go_enter Tryd.func90, Tryd.ntmps90
  go_wp2_with (first
    | (go_at_call 47; (with_reducible refine (ring_cost l.length _ (by omega)).mono ?_); rintro e w1 ⟨rfl, rfl⟩)
    | (go_at_call 48; (with_reducible refine (ring_left r b fo n m ep sq _ HR.out hm hn (by omega)).mono ?_); rintro e w2 ⟨rfl, hB2⟩))
  have HA := hid (show AppAt w w2 B b g r D fo n ep sq i l [] l from ⟨rfl, HR.out.below hB2, HD.out.below hB2, Fr.ofBelow hB2 _⟩)
  clear HR HD hB2
  go_loopw [1] (fun tv wr => ∃ (ps : List (List UInt8)) (l' : List UInt8), tv = .string (S l') ∧ l'.length ≤ 100000 ∧ AppAt w wr B b g r D fo n ep sq i l ps l') (fun tv _ => sizeOfText tv)
  case atStart => exact ⟨[], l, rfl, hl, HA.out⟩
  case round =>
    clear HA hls
    obtain ⟨ps, l', rfl, hl', hP⟩ := hrel
    have hls := S_size l'
    have hpl : ps.length + cost l'.length = cost l.length := by
      have h := congrArg List.length hP.hp
      rw [List.length_append, parts_length, parts_length] at h
      exact h.symm
    have HP := hid hP
    clear hP
    by_cases h46 : 46 < l'.length
    · have d1 : decide ((46 : Int) < (l'.length : Int)) = true := by simp; omega
      have hx := HP.out.put0 ho hfo h46 hpl hi hq hep
      have Hx := hid hx
      have e1 := S_take l' 46
      have e2 := S_drop l' 46
      clear hx
      go_upto_region 5 with (go_at_call 120; (with_reducible refine Hx.out.mono ?_); rintro e w3 ⟨rfl, hP3⟩)
      have HP3 := hid hP3
      clear hP3
      go_wp2_with fail
      exact ⟨⟨_, _, rfl, by simp; omega, HP3.out⟩, by simp [sizeOfText, S_size]; omega⟩
    · have d1 : decide ((46 : Int) < (l'.length : Int)) = false := by simp; omega
      have hx := HP.out.put1 ho hfo h46 hpl hi hq hep
      have Hx := hid hx
      clear hx
      go_wp2_with (go_at_call 120; (with_reducible refine Hx.out.mono ?_); rintro e w3 ⟨rfl, hP3⟩)
      go_ret
      exact ⟨rfl, hP3⟩
end Go.Proofs.YtkmbbgnbklklcaaDoor
