/-
  Law 08: the document's Cost; RingCosts.
-/
import Derived.Test.YtkmbbgnbklklcaaDoorL08b
import Derived.Test.YtkmbbgnbklklcaaDoorCut
namespace Go.Proofs.YtkmbbgnbklklcaaDoor
open Go.RowKit

theorem ref8_cost (k : Nat) (w : World) (hk : k ≤ 1000000) :
    Calls Tryd.prog 54 #[.int .i64 (k : Int)] w fun e w' => e = .returned (.int .i64 (cost k : Int)) ∧ w = w' := by
  go_enter Tryd.func54, Tryd.ntmps54
  go_wp2_with fail
  go_loopw [3] (fun v wr => ∃ n : Nat, v = .int .i64 n ∧ 1 ≤ n ∧ n ≤ cost k ∧ w = wr) (fun v _ => k + 2 - lenOf0 v)
  case atStart => exact ⟨1, rfl, by decide, by unfold cost; omega, rfl⟩
  case round =>
    obtain ⟨n, rfl, h1, h2, rfl⟩ := hrel
    have hkc : n ≤ 1000000 := by unfold cost at h2; omega
    by_cases h3 : 46 * n < k
    · have d1 : decide ((46 : Int) * (n : Int) < (k : Int)) = true := by simp; omega
      go_wp2_with fail
      exact ⟨⟨n + 1, by go_num, by omega, by unfold cost; omega, trivial⟩, by simp [lenOf0]; omega⟩
    · have d1 : decide ((46 : Int) * (n : Int) < (k : Int)) = false := by simp; omega
      have hn : n = cost k := by unfold cost at h2 ⊢; omega
      go_wp2_with fail
      go_ret
      exact ⟨by rw [hn]; rfl, rfl⟩

theorem Dsk.by_n (D : Dsk) (i : Nat) (n : Int) (ep sq : Nat) (l : List UInt8) : (D.by i n ep sq l).n = D.n := by
  unfold Dsk.by
  split
  · exact Dsk.puts_n _ _ _
  · rfl
theorem Dsk.on.by {D : Dsk} (h : D.on) (i : Nat) (n : Int) (ep sq : Nat) (l : List UInt8) : (D.by i n ep sq l).on := by
  unfold Dsk.by
  split
  · exact h.puts _ _
  · exact h
theorem lappend_yes {B b g : Nat} {D : Dsk} (r : Nat) (fo n : Int) (ep sq i : Nat) (l : List UInt8) (w : World) (h : Jour w B r b g D fo n ep sq) (ho : D.on) (hn : n ≤ 1000000 ∧ 0 ≤ n) (hq : sq ≤ 900000) (hl : l.length ≤ 100000)
    (hfo : fo + sq = (i : Int)) (hi : fo + n ≤ D.n) (hep : ep < 4294967296) (hf : fits n sq l) :
    Calls Tryd.prog 46 #[.pointer (some ⟨r, 0, none⟩), .string (S l)] w fun e w' => e = .returned (.tuple #[.bool true, .int .i64 0]) ∧ Jour w' B r b g (D.puts i (frs ep sq (parts l))) fo n ep (sq + cost l.length) ∧ Fr (rfoot r b g) w w' := by
  have h1 := lappend_any r fo n ep sq i l w h ho hn hq hl hfo hi hep
  rw [decide_eq_true hf] at h1
  unfold Dsk.by sqBy at h1
  rw [if_pos hf, if_pos hf] at h1
  exact h1
theorem lappend_no {B b g : Nat} {D : Dsk} (r : Nat) (fo n : Int) (ep sq i : Nat) (l : List UInt8) (w : World) (h : Jour w B r b g D fo n ep sq) (ho : D.on) (hn : n ≤ 1000000 ∧ 0 ≤ n) (hq : sq ≤ 900000) (hl : l.length ≤ 100000)
    (hfo : fo + sq = (i : Int)) (hi : fo + n ≤ D.n) (hep : ep < 4294967296) (hf : ¬ fits n sq l) :
    Calls Tryd.prog 46 #[.pointer (some ⟨r, 0, none⟩), .string (S l)] w fun e w' => e = .returned (.tuple #[.bool false, .int .i64 0]) ∧ Jour w' B r b g D fo n ep sq ∧ Fr (rfoot r b g) w w' := by
  have h1 := lappend_any r fo n ep sq i l w h ho hn hq hl hfo hi hep
  rw [decide_eq_false hf] at h1
  unfold Dsk.by sqBy at h1
  rw [if_neg hf, if_neg hf] at h1
  exact h1
theorem Jour.other {w w' : World} {B r r2 b g : Nat} {D' : Dsk} {fo n fo2 n2 : Int} {ep sq ep2 sq2 : Nat} (h : Jour w' B r b g D' fo n ep sq) (h2 : RingAt w r2 b fo2 n2 ep2 sq2) (hF : Fr (rfoot r b g) w w') (hne : ¬ rfoot r b g r2) : Jour w' B r2 b g D' fo2 n2 ep2 sq2 := ⟨h2.fr hF hne, h.hD, h.hg⟩

theorem cut150 (s : List UInt8) (w : World) : Calls Tryd.prog 16 #[.string (S s), .int .i64 150] w fun e w' => e = .returned (.string (S (s.take 150))) ∧ w' = w := cut_any s 150 w
theorem new_2n1 (b : Nat) (n : Int) (w : World) (hn : 0 ≤ n) : Calls Tryd.prog 44 #[.pointer (some ⟨b, 0, none⟩), .int .i64 2, .int .i64 n, .int .u32 1] w fun e w' => e = .returned (.pointer (some ⟨w.heap.size, 0, none⟩)) ∧ RingAt w' w.heap.size b 2 n 1 0 ∧ Below w.heap.size w w' ∧ w.heap.size < w'.heap.size := ring_new b 2 n n 1 w (by omega)

set_option maxRecDepth 100000 in
set_option maxHeartbeats 1000000 in
theorem ringcosts_any (a0 b0 : List UInt8) (w : World) :
    Calls Tryd.prog 10 #[.string (S a0), .string (S b0)] w fun e w' => e = .returned (.bool true) ∧ Below w.heap.size w w' := by
  obtain ⟨a, ha⟩ : ∃ a, a0.take 150 = a := ⟨_, rfl⟩
  obtain ⟨c, hc⟩ : ∃ c, b0.take 150 = c := ⟨_, rfl⟩
  have hal : a.length ≤ 150 := by rw [← ha, List.length_take]; omega
  have hcl : c.length ≤ 150 := by rw [← hc, List.length_take]; omega
  have Ha := hid ha
  have Hc := hid hc
  have hsa := S_size a
  have hsc := S_size c
  obtain ⟨p, hp⟩ : ∃ p, cost a.length = p := ⟨_, rfl⟩
  obtain ⟨q, hq⟩ : ∃ q, cost c.length = q := ⟨_, rfl⟩
  have hp4 : 1 ≤ p ∧ p ≤ 4 := by rw [← hp]; unfold cost; omega
  have hq4 : 1 ≤ q ∧ q ≤ 4 := by rw [← hq]; unfold cost; omega
  clear ha hc
  go_enter Tryd.func10, Tryd.ntmps10
  go_wp2_with (first | (go_at_call 16; (with_reducible refine (cut150 a0 _).mono ?_); rintro e w4 ⟨rfl, hw4⟩; replace hw4 := hw4.symm; subst hw4; rw [Ha.out]) | (go_at_call 16; (with_reducible refine (cut150 b0 _).mono ?_); rintro e w4 ⟨rfl, hw4⟩; replace hw4 := hw4.symm; subst hw4; rw [Hc.out]))
  refine (awake08 w).mono ?_
  rintro e w1 ⟨rfl, hB1⟩
  have HB1 := hid hB1
  clear hB1
  go_wp2_with (first | (go_at_call 47; (with_reducible refine (ring_cost a.length _ (by omega)).mono ?_); rintro e w3 ⟨rfl, rfl⟩) | (go_at_call 47; (with_reducible refine (ring_cost c.length _ (by omega)).mono ?_); rintro e w3 ⟨rfl, rfl⟩) | (go_at_call 54; (with_reducible refine (ref8_cost a.length _ (by omega)).mono ?_); rintro e w3 ⟨rfl, rfl⟩) | (go_at_call 54; (with_reducible refine (ref8_cost c.length _ (by omega)).mono ?_); rintro e w3 ⟨rfl, rfl⟩))
  (with_reducible refine (disk_new (2 + ((p : Int) + (q : Int))) (2 + p + q) w1 (by omega)).mono ?_)
  rintro e w2 ⟨rfl, g, hD2, hg2, hB2⟩
  have hD2 := hD2.weak HB1.out.size
  have HB2 := hid (HB1.out.trans (hB2.mono HB1.out.size))
  have HD2 := hid hD2
  have hb2 := hD2.lt
  have hgl := hD2.hg
  have hsz1 := HB1.out.size
  clear hD2 hB2
  have hnn : (Dsk.new (2 + p + q)).n = 2 + p + q := rfl
  generalize w1.heap.size = b at *
  go_wp2_with fail
  (with_reducible refine (new_2n1 b ((p : Int) + (q : Int)) w2 (by omega)).mono ?_)
  rintro e w3 ⟨rfl, hR3, hB3, hl3⟩
  have HD3 := hid (HD2.out.below hB3)
  have HB3 := hid (HB2.out.trans (hB3.mono HB2.out.size))
  have HR3 := hid hR3
  clear hR3 hB3 HD2
  go_wp2_with fail
  (with_reducible refine (new_2n1 b ((p : Int) + (q : Int) - 1) w3 (by omega)).mono ?_)
  rintro e w4 ⟨rfl, hR4, hB4, hl4⟩
  have hJ4 : Jour w4 w.heap.size w3.heap.size b g (Dsk.new (2 + p + q)) 2 ((p : Int) + (q : Int) - 1) 1 0 := ⟨hR4, HD3.out.below hB4, by omega⟩
  have HW4 := hid (HR3.out.below hB4)
  have HB4 := hid (HB3.out.trans (hB4.mono HB3.out.size))
  have HJ4 := hid hJ4
  clear hR4 hB4 hJ4 HD3 HR3
  have hrr : ¬ rfoot w3.heap.size b g w2.heap.size := by unfold rfoot; omega
  have hr3 : w.heap.size ≤ w3.heap.size := HB3.out.size
  have hr2 : w.heap.size ≤ w2.heap.size := HB2.out.size
  generalize w3.heap.size = r2 at *
  generalize w2.heap.size = r1 at *
  go_wp2_with fail
  (with_reducible refine (lappend_yes r2 2 ((p : Int) + (q : Int) - 1) 1 0 2 a w4 HJ4.out (Dsk.on.new _) (by omega) (by decide) (by omega) (by decide) (by omega) (by decide) (by unfold fits; omega)).mono ?_)
  rintro e w5 ⟨rfl, hJ5, hF5⟩
  have hB5 : Below w.heap.size w w5 := hF5.law HB4.out HB4.out.size hr3 hsz1 hgl
  have HW5 := hid (hJ5.other HW4.out hF5 hrr)
  rw [hp, Nat.zero_add] at hJ5
  have HJ5 := hid hJ5
  have HB5 := hid hB5
  clear hJ5 hB5 hF5 HJ4 HW4
  go_wp2_with fail
  (with_reducible refine (lappend_no r2 2 ((p : Int) + (q : Int) - 1) 1 p (2 + p) c w5 HJ5.out ((Dsk.on.new _).puts _ _) (by omega) (by omega) (by omega) (by omega) (by rw [Dsk.puts_n]; omega) (by decide) (by unfold fits; omega)).mono ?_)
  rintro e w6 ⟨rfl, hJ6, hF6⟩
  have hB6 : Below w.heap.size w w6 := hF6.law HB5.out HB5.out.size hr3 hsz1 hgl
  have HJ6 := hid (hJ6.other HW5.out.hR hF6 hrr)
  have HB6 := hid hB6
  clear hJ6 hB6 hF6 HJ5 HW5
  go_wp2_with fail
  (with_reducible refine (lappend_yes r1 2 ((p : Int) + (q : Int)) 1 0 2 a w6 HJ6.out ((Dsk.on.new _).puts _ _) (by omega) (by decide) (by omega) (by decide) (by rw [Dsk.puts_n]; omega) (by decide) (by unfold fits; omega)).mono ?_)
  rintro e w7 ⟨rfl, hJ7, hF7⟩
  have hB7 : Below w.heap.size w w7 := hF7.law HB6.out HB6.out.size hr2 hsz1 hgl
  rw [hp, Nat.zero_add] at hJ7
  have HJ7 := hid hJ7
  have HB7 := hid hB7
  clear hJ7 hB7 hF7 HJ6
  go_wp2_with fail
  (with_reducible refine (lappend_yes r1 2 ((p : Int) + (q : Int)) 1 p (2 + p) c w7 HJ7.out (((Dsk.on.new _).puts _ _).puts _ _) (by omega) (by omega) (by omega) (by omega) (by rw [Dsk.puts_n, Dsk.puts_n]; omega) (by decide) (by unfold fits; omega)).mono ?_)
  rintro e w8 ⟨rfl, hJ8, hF8⟩
  have hB8 : Below w.heap.size w w8 := hF8.law HB7.out HB7.out.size hr2 hsz1 hgl
  rw [hq] at hJ8
  have HJ8 := hid hJ8
  have HB8 := hid hB8
  clear hJ8 hB8 hF8 HJ7
  go_wp2_with (go_at_call 48; (with_reducible refine (ring_left _ _ 2 ((p : Int) + (q : Int)) 0 1 (p + q) w8 HJ8.out.hR (by omega) (by omega) (by omega)).mono ?_); rintro e w9 ⟨rfl, hB9⟩; have HB9 := hid (HB8.out.trans (hB9.mono HB8.out.size)); clear hB9)
  go_ret
  exact ⟨rfl, HB9.out⟩
theorem walkRingCosts (w : World) (a b : ByteArray) (_ha : a.size ≤ 140737488351232) (_hb : b.size ≤ 140737488351232) :
    Calls Tryd.prog 10 #[.string a, .string b] w fun e w' => e = .returned (.bool true) ∧ Below w.heap.size w w' := by
  rw [← S_of a, ← S_of b]
  exact ringcosts_any _ _ w
end Go.Proofs.YtkmbbgnbklklcaaDoor
