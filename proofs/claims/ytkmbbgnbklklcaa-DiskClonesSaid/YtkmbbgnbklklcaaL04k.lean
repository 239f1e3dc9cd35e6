/-
  Law 04's does: Crash.
-/
import Derived.Test.YtkmbbgnbklklcaaL04g
namespace Go.Proofs.Ytkmbbgnbklklcaa
open Go.RowKit

set_option maxRecDepth 100000 in
set_option maxHeartbeats 4000000 in
theorem does_crash {B b g : Nat} {D : Dsk} {v : Value} (w : World) (hD : DiskAt w B b g D) (hg : g < w.heap.size) (hR : RefAt w v D) (kind at_ n : Int) (s : List UInt8) (ca : Option Addr) (cl cc : Nat) (cu : Nat → Int) (hC : CutsAt w b g ca cl cu) (m : Nat) (hm : bits .and .i64 kind 255 = (m : Int)) (hk : m % 10 = 6) :
    Calls Try.prog 23 #[.pointer (some ⟨b, 0, none⟩), v, .agg #[.int .i64 kind, .int .i64 at_, .int .i64 n, .string (S s), .slice ca cl cc]] w (DoesEnd w B b g D) := by
  obtain ⟨a1, c1, a2, c2, rfl, h1, h2⟩ := hR
  unfold rv
  have hR : RefAt w (.agg #[.slice a1 D.n c1, .slice a2 D.n c2, .int .i64 D.rl, .bool D.dead]) D := ⟨a1, c1, a2, c2, rfl, h1, h2⟩
  have HD := hid hD
  have Hg := hid hg
  have HR := hid hR
  have HC := hid hC
  clear hD hg hR hC h1 h2
  have e4 : ((m : Int).tmod 10) = 6 := by rw [Int.tmod_eq_emod_of_nonneg (by omega)]; omega
  have e5 : (m : Int) % 10 = 6 := by omega
  have Hst := hid (show (s.take 70).length ≤ 100000000 by rw [List.length_take]; omega)
  by_cases hat : 0 ≤ at_ ∧ at_ < 40
  case' pos =>
    have d1 : decide (0 ≤ at_) = true := by simp; omega
    have d2 : decide (at_ < 40) = true := by simp; omega
    have hat1 := hat.1
    have hat2 := hat.2
    go_enter Try.func23, Try.ntmps23
    go_upto_region 5 with (go_at_call 8; (with_reducible refine (cut70 s _).mono ?_); rintro e w4 ⟨rfl, hw4⟩; subst hw4)
    generalize at_ % 10 = at2
    have hX := Boxes.new w b (.slice a1 D.n c1) (.slice a2 D.n c2) (.int .i64 D.rl) (.bool D.dead) kind at_ n at2 (.string (S s)) (.slice ca cl cc)
    have hB5 := boxes_below w b (.slice a1 D.n c1) (.slice a2 D.n c2) (.int .i64 D.rl) (.bool D.dead) kind at_ n at2 (.string (S s)) (.slice ca cl cc)
    change Code.wp _ _ _ _ ((((( w.alloc (.cells #[.pointer (some ⟨b, 0, none⟩)] 32)).alloc (.cells #[.slice a1 D.n c1, .slice a2 D.n c2, .int .i64 D.rl, .bool D.dead] 52)).alloc (.cells #[.int .i64 kind, .int .i64 at_, .int .i64 n, .string (S s), .slice ca cl cc] 45)).alloc (.cells #[.slice none 0 0, .slice none 0 0, .int .i64 0, .bool false] 52)).alloc (.cells #[.int .i64 at2] 3))
    generalize ((((( w.alloc (.cells #[.pointer (some ⟨b, 0, none⟩)] 32)).alloc (.cells #[.slice a1 D.n c1, .slice a2 D.n c2, .int .i64 D.rl, .bool D.dead] 52)).alloc (.cells #[.int .i64 kind, .int .i64 at_, .int .i64 n, .string (S s), .slice ca cl cc] 45)).alloc (.cells #[.slice none 0 0, .slice none 0 0, .int .i64 0, .bool false] 52)).alloc (.cells #[.int .i64 at2] 3)) = w5 at *
  case' neg =>
    by_cases h0 : 0 ≤ at_
    case' pos =>
      have d1 : decide (0 ≤ at_) = true := by simp; omega
      have d2 : decide (at_ < 40) = false := by simp; omega
      go_enter Try.func23, Try.ntmps23
      go_upto_region 5 with (go_at_call 8; (with_reducible refine (cut70 s _).mono ?_); rintro e w4 ⟨rfl, hw4⟩; subst hw4)
      generalize at_ = at2 at *
      have hX := Boxes.new w b (.slice a1 D.n c1) (.slice a2 D.n c2) (.int .i64 D.rl) (.bool D.dead) kind at2 n at2 (.string (S s)) (.slice ca cl cc)
      have hB5 := boxes_below w b (.slice a1 D.n c1) (.slice a2 D.n c2) (.int .i64 D.rl) (.bool D.dead) kind at2 n at2 (.string (S s)) (.slice ca cl cc)
      change Code.wp _ _ _ _ ((((( w.alloc (.cells #[.pointer (some ⟨b, 0, none⟩)] 32)).alloc (.cells #[.slice a1 D.n c1, .slice a2 D.n c2, .int .i64 D.rl, .bool D.dead] 52)).alloc (.cells #[.int .i64 kind, .int .i64 at2, .int .i64 n, .string (S s), .slice ca cl cc] 45)).alloc (.cells #[.slice none 0 0, .slice none 0 0, .int .i64 0, .bool false] 52)).alloc (.cells #[.int .i64 at2] 3))
      generalize ((((( w.alloc (.cells #[.pointer (some ⟨b, 0, none⟩)] 32)).alloc (.cells #[.slice a1 D.n c1, .slice a2 D.n c2, .int .i64 D.rl, .bool D.dead] 52)).alloc (.cells #[.int .i64 kind, .int .i64 at2, .int .i64 n, .string (S s), .slice ca cl cc] 45)).alloc (.cells #[.slice none 0 0, .slice none 0 0, .int .i64 0, .bool false] 52)).alloc (.cells #[.int .i64 at2] 3)) = w5 at *
    case' neg =>
      have d1 : decide (0 ≤ at_) = false := by simp; omega
      go_enter Try.func23, Try.ntmps23
      go_upto_region 5 with (go_at_call 8; (with_reducible refine (cut70 s _).mono ?_); rintro e w4 ⟨rfl, hw4⟩; subst hw4)
      generalize at_ = at2 at *
      have hX := Boxes.new w b (.slice a1 D.n c1) (.slice a2 D.n c2) (.int .i64 D.rl) (.bool D.dead) kind at2 n at2 (.string (S s)) (.slice ca cl cc)
      have hB5 := boxes_below w b (.slice a1 D.n c1) (.slice a2 D.n c2) (.int .i64 D.rl) (.bool D.dead) kind at2 n at2 (.string (S s)) (.slice ca cl cc)
      change Code.wp _ _ _ _ ((((( w.alloc (.cells #[.pointer (some ⟨b, 0, none⟩)] 32)).alloc (.cells #[.slice a1 D.n c1, .slice a2 D.n c2, .int .i64 D.rl, .bool D.dead] 52)).alloc (.cells #[.int .i64 kind, .int .i64 at2, .int .i64 n, .string (S s), .slice ca cl cc] 45)).alloc (.cells #[.slice none 0 0, .slice none 0 0, .int .i64 0, .bool false] 52)).alloc (.cells #[.int .i64 at2] 3))
      generalize ((((( w.alloc (.cells #[.pointer (some ⟨b, 0, none⟩)] 32)).alloc (.cells #[.slice a1 D.n c1, .slice a2 D.n c2, .int .i64 D.rl, .bool D.dead] 52)).alloc (.cells #[.int .i64 kind, .int .i64 at2, .int .i64 n, .string (S s), .slice ca cl cc] 45)).alloc (.cells #[.slice none 0 0, .slice none 0 0, .int .i64 0, .bool false] 52)).alloc (.cells #[.int .i64 at2] 3)) = w5 at *
  all_goals
    generalize hp4 : w.heap.size + 1 + 1 + 1 + 1 = p4 at *
    generalize hp3 : w.heap.size + 1 + 1 + 1 = p3 at *
    generalize hp2 : w.heap.size + 1 + 1 = p2 at *
    generalize hp1 : w.heap.size + 1 = p1 at *
    generalize hp0 : w.heap.size = p0 at *
    have hsz5 : p4 + 1 ≤ w5.heap.size := lt_of_block hX.b4
    have hbp : b < p0 := by rw [← hp0]; exact HD.out.lt
    have hgp : g < p0 := Hg.out
    have Hp0 := hid hp0
    have hB5' : Below w.heap.size w w5 := by rw [Hp0.out]; exact hB5
    have hD5 : DiskAt w5 B b g D := HD.out.below hB5'
    have hR5 : RefAt w5 (.agg #[.slice a1 D.n c1, .slice a2 D.n c2, .int .i64 D.rl, .bool D.dead]) D := HR.out.below hB5'
    have hC5 := HC.out.below hB5'
    have k0 := cell_of_block hX.b0 0
    have k10 := cell_of_block hX.b1 0
    have k11 := cell_of_block hX.b1 1
    have k12 := cell_of_block hX.b1 2
    have k13 := cell_of_block hX.b1 3
    have f10 := free_of_block hX.b1 0
    have f11 := free_of_block hX.b1 1
    have f12 := free_of_block hX.b1 2
    have f13 := free_of_block hX.b1 3
    have k4 := cell_of_block hX.b4 0
    obtain ⟨ac, hac, ha0, ha2, ha4⟩ := hX.b2
    have a0 := (cell_of_block hac 0).trans ha0
    have a2' := (cell_of_block hac 2).trans ha2
    have a4 := (cell_of_block hac 4).trans ha4
    simp only [List.getElem?_toArray, List.getElem?_cons_zero, List.getElem?_cons_succ] at k0 k10 k11 k12 k13 k4
    clear hac ha0 ha2 ha4
    have hc1 := disk_crash w5 hD5 ca cl cc cu hC5
    have Hc2 := hid (fun (w : World) (h : RefAt w (.agg #[.slice a1 D.n c1, .slice a2 D.n c2, .int .i64 D.rl, .bool D.dead]) D) (hc : IntsAt w ca cl cu) => ref4_crash h HD.out.small HD.out.len ca cl cc cu hc)
    have hn6 : (D.crash cl cu).n = D.n := tearN_n D (cutAt cl cu) (loose D) _
    generalize D.crash cl cu = D6 at *
    have Hn6 := hid hn6
    have Hc1 := hid hc1
    have HX := hid hX
    have HB5 := hid hB5
    have HD5 := hid hD5
    have HR5 := hid hR5
    have HC5 := hid hC5
    clear hX hB5 hp0 hD5 hR5 hB5' hC5 hc1 hn6
    go_wp2_with fail
    (with_reducible refine Hc1.out.mono ?_)
    rintro e w6 ⟨rfl, hE6⟩
    have hX := HX.out.fr hE6.2 (by unfold dfoot; omega) (by unfold dfoot; omega) (by unfold dfoot; omega) (by unfold dfoot; omega) (by unfold dfoot; omega)
    have hR6 := HR5.out.disk rfl HD5.out hE6.2
    have hC6 := (HC5.out.fr hE6.2).ints
    have HE6 := hid hE6
    clear k0 k10 k11 k12 k13 f10 f11 f12 f13 k4 a0 a2' a4 hE6 Hc1
    have k0 := cell_of_block hX.b0 0
    have k10 := cell_of_block hX.b1 0
    have k11 := cell_of_block hX.b1 1
    have k12 := cell_of_block hX.b1 2
    have k13 := cell_of_block hX.b1 3
    have f10 := free_of_block hX.b1 0
    have f11 := free_of_block hX.b1 1
    have f12 := free_of_block hX.b1 2
    have f13 := free_of_block hX.b1 3
    have k4 := cell_of_block hX.b4 0
    obtain ⟨ac, hac, ha0, ha2, ha4⟩ := hX.b2
    have a0 := (cell_of_block hac 0).trans ha0
    have a2' := (cell_of_block hac 2).trans ha2
    have a4 := (cell_of_block hac 4).trans ha4
    simp only [List.getElem?_toArray, List.getElem?_cons_zero, List.getElem?_cons_succ] at k0 k10 k11 k12 k13 k4
    clear hac ha0 ha2 ha4
    have Hcall := hid (Hc2.out w6 hR6 hC6)
    have HX6 := hid hX
    clear hX Hc2 hR6 hC6
    go_wp2_with fail
    (with_reducible refine Hcall.out.mono ?_)
    rintro e w7 ⟨v7, rfl, hR7, hB7⟩
    obtain ⟨a6, c6, a7, c7, rfl, h61, h62⟩ := hR7
    unfold rv
    rw [Hn6.out]
    have hX := HX6.out.below hB7
    have HR7 : Hid (RefAt w7 (.agg #[.slice a6 D.n c6, .slice a7 D.n c7, .int .i64 D6.rl, .bool D6.dead]) D6) := hid (show RefAt w7 _ D6 from ⟨a6, c6, a7, c7, by unfold rv; rw [Hn6.out], h61, h62⟩)
    have HB7 := hid hB7
    clear k0 k10 k11 k12 k13 f10 f11 f12 f13 k4 a0 a2' a4 hB7 h61 h62
    have k0 := cell_of_block hX.b0 0
    have k10 := cell_of_block hX.b1 0
    have k11 := cell_of_block hX.b1 1
    have k12 := cell_of_block hX.b1 2
    have k13 := cell_of_block hX.b1 3
    have f10 := free_of_block hX.b1 0
    have f11 := free_of_block hX.b1 1
    have f12 := free_of_block hX.b1 2
    have f13 := free_of_block hX.b1 3
    have k4 := cell_of_block hX.b4 0
    obtain ⟨ac, hac, ha0, ha2, ha4⟩ := hX.b2
    have a0 := (cell_of_block hac 0).trans ha0
    have a2' := (cell_of_block hac 2).trans ha2
    have a4 := (cell_of_block hac 4).trans ha4
    simp only [List.getElem?_toArray, List.getElem?_cons_zero, List.getElem?_cons_succ] at k0 k10 k11 k12 k13 k4
    clear hac ha0 ha2 ha4
    have HX7 := hid hX
    clear hX
    go_upto_region 33 with fail
    have hn13 : p1 ≠ p3 := by omega
    have hT := HX7.out.turn rfl hn13 (.slice a6 D.n c6) (.slice a7 D.n c7) (.int .i64 D6.rl) (.bool D6.dead)
    have hE57 : Fr (dfoot b g) w5 w7 := HE6.out.2.trans (Fr.ofBelow HB7.out (dfoot b g)) (fun _ _ h => h)
    have hD9 := (HE6.out.1.below HB7.out).fr hT.2 (by omega) (by omega)
    have hR9 := HR7.out.fr3 hT.2 (fun g' c _ hg' e => by subst e; exact absurd (ty_eq hg' HX7.out.b1) (by decide))
    have hF9 : Fr (dfoot b g) w _ := ((Fr.ofBelow (by rw [Hp0.out]; exact HB5.out) (dfoot b g)).trans hE57 (fun _ _ h => h)).trans hT.2 (fun k hk e => by subst e; exact absurd hk (by rw [Hp0.out]; omega))
    have hg9 : g < _ := Nat.lt_of_lt_of_le (Nat.lt_of_lt_of_le (show g < w5.heap.size by omega) hE57.size) hT.2.size
    generalize ((((w7.setCell ⟨p1, 0, none⟩ (.slice a6 D.n c6)).setCell ⟨p1, 1, none⟩ (.slice a7 D.n c7)).setCell ⟨p1, 2, none⟩ (.int .i64 D6.rl)).setCell ⟨p1, 3, none⟩ (.bool D6.dead)) = w9 at *
    have HX9 := hid (hT.1)
    have HD9 := hid (hD9)
    have HR9 := hid (hR9)
    have HF9 := hid (hF9)
    have Hg9 := hid (hg9)
    have Hn9 := hid (Hn6.out)
    have HDD := hid (rfl : D6.dead = D6.dead)
    have Hb9 := hid (show ¬ b = p3 ∧ ¬ g = p3 from ⟨by omega, by omega⟩)
    clear k0 k10 k11 k12 k13 f10 f11 f12 f13 k4 a0 a2' a4 HX HB5 HD5 HR5 HC5 HB7 HX6 HX7 HR7 Hcall HE6 hT hD9 hR9 hF9 hg9 hE57
    all_goals
      have k0 := cell_of_block HX9.out.b0 0
      have k10 := cell_of_block HX9.out.b1 0
      have k11 := cell_of_block HX9.out.b1 1
      have k12 := cell_of_block HX9.out.b1 2
      have k13 := cell_of_block HX9.out.b1 3
      have k30 := cell_of_block HX9.out.b3 0
      have k31 := cell_of_block HX9.out.b3 1
      have k32 := cell_of_block HX9.out.b3 2
      have k33 := cell_of_block HX9.out.b3 3
      have f30 := free_of_block HX9.out.b3 0
      have f31 := free_of_block HX9.out.b3 1
      have f32 := free_of_block HX9.out.b3 2
      have f33 := free_of_block HX9.out.b3 3
      simp only [List.getElem?_toArray, List.getElem?_cons_zero, List.getElem?_cons_succ] at k0 k10 k11 k12 k13 k30 k31 k32 k33
      go_upto_region 33 with fail
      have hdd := disk_dead_eq w9.drew HD9.out.drew

      have Hc := hid hdd
      have hp03 : p3 ≠ p0 := by omega
      have hp13 : p3 ≠ p1 := by omega
      clear hdd
      go_region_held3 (fun w' => w'.cell? ⟨p0, 0, none⟩ = some (.pointer (some ⟨b, 0, none⟩)) ∧ w'.cell? ⟨p1, 0, none⟩ = some (.slice a6 D.n c6) ∧ w'.cell? ⟨p1, 1, none⟩ = some (.slice a7 D.n c7) ∧ w'.cell? ⟨p1, 2, none⟩ = some (.int .i64 D6.rl) ∧ w'.cell? ⟨p1, 3, none⟩ = some (.bool D6.dead))
        (first | go_keep | exact ⟨k0, k10, k11, k12, k13⟩ | exact ⟨cellS (cellS (cellS (cellS k0 (p := ⟨p3, 0, none⟩) hp03 _) (p := ⟨p3, 1, none⟩) hp03 _) (p := ⟨p3, 2, none⟩) hp03 _) (p := ⟨p3, 3, none⟩) hp03 _, cellS (cellS (cellS (cellS k10 (p := ⟨p3, 0, none⟩) hp13 _) (p := ⟨p3, 1, none⟩) hp13 _) (p := ⟨p3, 2, none⟩) hp13 _) (p := ⟨p3, 3, none⟩) hp13 _, cellS (cellS (cellS (cellS k11 (p := ⟨p3, 0, none⟩) hp13 _) (p := ⟨p3, 1, none⟩) hp13 _) (p := ⟨p3, 2, none⟩) hp13 _) (p := ⟨p3, 3, none⟩) hp13 _, cellS (cellS (cellS (cellS k12 (p := ⟨p3, 0, none⟩) hp13 _) (p := ⟨p3, 1, none⟩) hp13 _) (p := ⟨p3, 2, none⟩) hp13 _) (p := ⟨p3, 3, none⟩) hp13 _, cellS (cellS (cellS (cellS k13 (p := ⟨p3, 0, none⟩) hp13 _) (p := ⟨p3, 1, none⟩) hp13 _) (p := ⟨p3, 2, none⟩) hp13 _) (p := ⟨p3, 3, none⟩) hp13 _⟩)
        (first | (go_at_call 17; (with_reducible refine Hc.out.mono ?_); rintro e wd ⟨rfl, hwd⟩; subst hwd))
      all_goals
        go_wp2_with fail
        have hw := set4 (w := w9) HX9.out.b3 (.slice a6 D.n c6) (.slice a7 D.n c7) (.int .i64 D6.rl) (.bool D6.dead)
        have hF := fr4 (b := p3) (Fr.refl (fun k => k = p3) w9) rfl (.slice a6 D.n c6) (.slice a7 D.n c7) (.int .i64 D6.rl) (.bool D6.dead)
        have hF2 : Fr (dfoot b g) w _ := HF9.out.trans hF (fun k hk e => by subst e; exact absurd hk (by rw [Hp0.out]; omega))
        have hR2 := HR9.out.fr3 hF (fun g' c _ hg' e => by subst e; exact absurd (ty_eq hg' HX9.out.b3) (by decide))
        have hD2 := HD9.out.fr hF Hb9.out.1 Hb9.out.2
        have hg2 := Nat.lt_of_lt_of_le Hg9.out hF.size
        generalize ((((w9.setCell ⟨p3, 0, none⟩ (.slice a6 D.n c6)).setCell ⟨p3, 1, none⟩ (.slice a7 D.n c7)).setCell ⟨p3, 2, none⟩ (.int .i64 D6.rl)).setCell ⟨p3, 3, none⟩ (.bool D6.dead)) = wz at *
        refine bodyPost_ret (v := .tuple #[.pointer (some ⟨b, 0, none⟩), (.agg #[.slice a6 D.n c6, .slice a7 D.n c7, .int .i64 D6.rl, .bool D6.dead]), .bool true]) ?_ rfl ⟨_, _, _, _, rfl, hD2.drew, hg2, hR2.drew, Hn9.out, hF2.drew, .inl ⟨rfl, rfl⟩⟩
        rw [results_tct rfl]
        clear hF hF2 hR2 hD2 hg2 k0 k10 k11 k12 k13 k30 k31 k32 k33 f30 f31 f32 f33
        have n0 := cell_of_block hw 0
        have n1 := cell_of_block hw 1
        have n2 := cell_of_block hw 2
        have n3 := cell_of_block hw 3
        simp only [List.getElem?_toArray, List.getElem?_cons_zero, List.getElem?_cons_succ] at n0 n1 n2 n3
        go_simp
end Go.Proofs.Ytkmbbgnbklklcaa
