/-
  Law 08: awake; what a scan finds on a disk of noughts.
-/
import Derived.Test.YtkmbbgnbklklcaaDoorL08a
namespace Go.Proofs.YtkmbbgnbklklcaaDoor
open Go.RowKit

theorem secL_puts (D : Dsk) (f m : Nat) (l : List (List UInt8)) (h : l.length ≤ m) : secL (D.puts f l) f m = l ++ (secL D f m).drop l.length := by
  apply List.ext_getElem?
  intro j
  by_cases hj : j < m
  · have e1 : (secL (D.puts f l) f m)[j]? = some ((D.puts f l).now (f + j)) := by simp [secL, hj]
    rw [e1, Dsk.puts_now]
    by_cases hl : j < l.length
    · rw [dif_pos ⟨by omega, by omega⟩, List.getElem?_append_left hl]
      simp [hl]
    · rw [dif_neg (by omega), List.getElem?_append_right (by omega), List.getElem?_drop, show l.length + (j - l.length) = j from by omega]
      simp [secL, hj]
  · rw [List.getElem?_eq_none (by simp [secL]; omega), List.getElem?_eq_none (by simp [secL]; omega)]
/-- On a disk of noughts. -/
theorem scan_new (N f m ep : Nat) (L : List (List UInt8)) (h : (allParts L).length ≤ m) (hm : m < 4000000000) (he : ep < 4294967296) : scan ep 0 (secL ((Dsk.new N).puts f (frs ep 0 (allParts L))) f m) [] = L := by
  rw [secL_puts _ _ _ _ (by rw [frs_length]; exact h), scan_all, scan_stop, List.append_nil]
  intro s hs
  have e : s = List.replicate 64 0 := by
    rw [List.getElem?_drop] at hs
    have h2 := List.mem_of_getElem? hs
    simp only [secL, List.mem_map] at h2
    obtain ⟨a, _, h3⟩ := h2
    exact h3.symm
  rw [e]
  exact nul_no ep _ (by omega) he
/-- None of another epoch. -/
theorem scan_other (N f m ep ot : Nat) (ps : List (List UInt8)) (h : ps.length ≤ m) (hp : ∀ p ∈ ps, p.length ≤ 47) (he : ep < 4294967296) (ho : ot < 4294967296) (hne : ep ≠ ot) : scan ot 0 (secL ((Dsk.new N).puts f (frs ep 0 ps)) f m) [] = [] := by
  rw [secL_puts _ _ _ _ (by rw [frs_length]; exact h)]
  apply scan_stop
  intro s hs
  cases ps with
  | nil =>
    have e : s = List.replicate 64 0 := by
      simp only [frs, List.nil_append, List.length_nil, List.drop_zero] at hs
      have h2 := List.mem_of_getElem? hs
      simp only [secL, List.mem_map] at h2
      obtain ⟨a, _, h3⟩ := h2
      exact h3.symm
    rw [e]
    exact nul_no ot 0 (by omega) ho
  | cons p ps =>
    simp only [frs, List.cons_append, List.getElem?_cons_zero, Option.some.injEq] at hs
    rw [← hs]
    exact other_no ep ot _ _ p (hp p (by simp)) (by omega) (by omega) he ho hne
theorem Dsk.on.new (N : Nat) : (Dsk.new N).on := ⟨rfl, rfl⟩

theorem own_first {w : World} {base e n cp : Nat} {ao : Option Addr} {xs : List Value} (h : w.ownsRow base e 1 (.slice ao n cp) n xs) (hn : 0 < n) : ∃ g, ao = some ⟨g, 0, none⟩ ∧ base ≤ g ∧ g < w.heap.size ∧ ∀ (j : Nat) (u : Value), xs[j]? = some u → w.cell? ⟨g, j, none⟩ = some u := by
  have h0 := h
  rcases h.2 with ⟨hv, h1⟩ | ⟨g, cap, cur, hv, hg, _⟩
  · omega
  · injection hv with hv
    subst hv
    have hlt := h0.lt g rfl
    exact ⟨g, rfl, hg, hlt.2, fun j u hu => by have := h0.cells (g := g) rfl j u hu; rwa [zero_add_at] at this⟩
theorem cost_46 (w : World) : Calls Tryd.prog 47 #[.int .i64 46] w fun e w' => e = .returned (.int .i64 1) ∧ w = w' := ring_cost 46 w (by decide)
theorem cost_47 (w : World) : Calls Tryd.prog 47 #[.int .i64 47] w fun e w' => e = .returned (.int .i64 2) ∧ w = w' := ring_cost 47 w (by decide)
theorem new_247 (b : Nat) (w : World) : Calls Tryd.prog 44 #[.pointer (some ⟨b, 0, none⟩), .int .i64 2, .int .i64 4, .int .u32 7] w fun e w' => e = .returned (.pointer (some ⟨w.heap.size, 0, none⟩)) ∧ RingAt w' w.heap.size b 2 4 7 0 ∧ Below w.heap.size w w' ∧ w.heap.size < w'.heap.size := ring_new b 2 4 4 7 w (by decide)
theorem append_abc {B b g : Nat} {D : Dsk} (r : Nat) (w : World) (h : Jour w B r b g D 2 4 7 0) (ho : D.on) (hi : 6 ≤ D.n) :
    Calls Tryd.prog 46 #[.pointer (some ⟨r, 0, none⟩), .string ⟨#[97, 98, 99]⟩] w fun e w' => e = .returned (.tuple #[.bool true, .int .i64 0]) ∧ Jour w' B r b g (D.puts 2 (frs 7 0 (allParts [[97, 98, 99]]))) 2 4 7 1 ∧ Fr (rfoot r b g) w w' := by
  have hf : fits 4 0 [97, 98, 99] := by decide
  have h1 := lappend_any r 2 4 7 0 2 [97, 98, 99] w h ho (by decide) (by decide) (by decide) (by decide) (by omega) (by decide)
  rw [decide_eq_true hf] at h1
  unfold Dsk.by sqBy at h1
  rw [if_pos hf, if_pos hf] at h1
  have hc : cost 3 = 1 := by decide
  exact h1.mono fun e w' h2 => by simpa [allParts, hc] using h2
/-- What a law may do: all below is as it was. -/
theorem Fr.law {w w1 w2 : World} {N r b g : Nat} (h : Fr (rfoot r b g) w1 w2) (hB : Below N w w1) (hN : N ≤ w1.heap.size) (hr : N ≤ r) (hb : N ≤ b) (hg : N ≤ g) : Below N w w2 := hB.trans (h.below hN (fun k hk hx => by unfold rfoot at hx; omega))

set_option maxRecDepth 100000 in
theorem awake08 (w : World) : Calls Tryd.prog 41 #[] w fun e w' => e = .returned (.bool true) ∧ Below w.heap.size w w' := by
  have eR : scan 7 0 (secL ((Dsk.new 10).puts 2 (frs 7 0 (allParts [[97, 98, 99]]))) 2 4) [] = [[97, 98, 99]] := scan_new 10 2 4 7 [[97, 98, 99]] (by simp [allParts, parts_length]; decide) (by decide) (by decide)
  have ER := hid eR
  clear eR
  go_enter Tryd.func41, Tryd.ntmps41
  go_wp2_with fail
  refine (disk_new 10 10 w (by decide)).mono ?_
  rintro e w1 ⟨rfl, g, hD1, hg1, hB1⟩
  have HB1 := hid hB1
  have HD1 := hid hD1
  have hs1 := hB1.size
  clear hB1 hD1
  go_wp2_with fail
  (with_reducible refine (new_247 _ w1).mono ?_)
  rintro e w2 ⟨rfl, hR2, hB2, hl2⟩
  have hJ2 : Jour w2 w.heap.size w1.heap.size w.heap.size g (Dsk.new 10) 2 4 7 0 := ⟨hR2, HD1.out.below hB2, by omega⟩
  have HB2 := hid (HB1.out.trans (hB2.mono hs1))
  have HJ2 := hid hJ2
  clear hR2 hB2 hJ2
  go_upto_region 5 with (first | (go_at_call 47; (with_reducible refine (cost_46 _).mono ?_); rintro e w3 ⟨rfl, rfl⟩) | (go_at_call 47; (with_reducible refine (cost_47 _).mono ?_); rintro e w3 ⟨rfl, rfl⟩))
  go_wp2_with fail
  (with_reducible refine (append_abc _ w2 HJ2.out (Dsk.on.new 10) (by decide)).mono ?_)
  rintro e w3 ⟨rfl, hJ3, hF3⟩
  have hB3 : Below w.heap.size w w3 := hF3.law HB2.out HB2.out.size hs1 (Nat.le_refl _) HD1.out.hg
  have HJ3 := hid hJ3
  have HB3 := hid hB3
  have hs3 := hF3.size
  clear hJ3 hB3 hF3 HJ2
  go_wp2_with fail
  (with_reducible refine (new_247 _ w3).mono ?_)
  rintro e w4 ⟨rfl, hR4, hB4, hl4⟩
  have hJ4 := HJ3.out.below hB4
  have HB4 := hid (HB3.out.trans (hB4.mono HB3.out.size))
  have HR4 := hid hR4
  have HJ4 := hid hJ4
  clear hR4 hB4 hJ4
  go_wp2_with fail
  have hsc := lscan_any w3.heap.size [[97, 98, 99]] w4 (fun wx hBx => (ring_scan w3.heap.size 2 4 7 0 wx (HR4.out.below hBx) (HJ4.out.hD.below hBx) ((Dsk.on.new 10).puts 2 _) (by rw [Dsk.puts_n]; decide) (by decide)).mono fun e w' h => by rw [ER.out] at h; exact h)
  have Hsc := hid hsc
  clear hsc
  (with_reducible refine Hsc.out.mono ?_)
  rintro e w5 ⟨ao, cp, rfl, hO5, hB5⟩
  obtain ⟨gg, rfl, hg5, hl5, hc5⟩ := own_first hO5 (by decide)
  have k0 := hc5 0 _ rfl
  have hR5 := HJ4.out.hR.below hB5
  have HR5 := hid hR5
  have HB5 := hid (HB4.out.trans (hB5.mono HB4.out.size))
  have e3 : ((S [97, 98, 99]).toList == [97, 98, 99]) = true := by rw [S_toList]; decide
  clear hO5 hB5 hc5 hR5 Hsc
  go_wp2_with (go_at_call 48; (with_reducible refine (ring_left _ _ 2 4 3 7 1 w5 HR5.out (by decide) (by decide) (by decide)).mono ?_); rintro e w6 ⟨rfl, hB6⟩; have HB6 := hid (HB5.out.trans (hB6.mono HB5.out.size)); clear hB6)
  go_ret
  exact ⟨rfl, HB6.out⟩
end Go.Proofs.YtkmbbgnbklklcaaDoor
