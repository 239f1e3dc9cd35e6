/-
  Law 04's does: copies.
-/
import Derived.Test.YtkmbbgnbklklcaaL04g
namespace Go.Proofs.Ytkmbbgnbklklcaa
open Go.RowKit

theorem Boxes.turn0 {w : World} {p0 p1 p2 p3 p4 b : Nat} {x : Array Value} {kind n at_ : Int} {cv : Value} (h : Boxes w p0 p1 p2 p3 p4 b x kind n at_ cv) (b2 : Nat) :
    Boxes (w.setCell ⟨p0, 0, none⟩ (.pointer (some ⟨b2, 0, none⟩))) p0 p1 p2 p3 p4 b2 x kind n at_ cv ∧ Fr (fun k => k = p0) w (w.setCell ⟨p0, 0, none⟩ (.pointer (some ⟨b2, 0, none⟩))) := by
  obtain ⟨c, k1, k2⟩ := h.b2
  exact ⟨⟨by simpa using heap_set_same (i := 0) h.b0 (.pointer (some ⟨b2, 0, none⟩)), heap_set_other h.b1 (p := ⟨p0, 0, none⟩) (tne h.b1 h.b0 (by decide)) _, ⟨c, heap_set_other k1 (p := ⟨p0, 0, none⟩) (tne k1 h.b0 (by decide)) _, k2⟩, heap_set_other h.b3 (p := ⟨p0, 0, none⟩) (tne h.b3 h.b0 (by decide)) _, heap_set_other h.b4 (p := ⟨p0, 0, none⟩) (tne h.b4 h.b0 (by decide)) _⟩, (Fr.refl (fun k => k = p0) w).setCell (p := ⟨p0, 0, none⟩) (fun _ => rfl) _⟩
theorem write_old {B b g : Nat} {D : Dsk} (w : World) (h : DiskAt w B b g D) (hg : g < w.heap.size) :
    Calls Try.prog 16 #[.pointer (some ⟨b, 0, none⟩), .int .i64 0, .string ⟨#[111, 108, 100]⟩] w fun e w' => e = .returned (.int .i64 (D.wErr 0 [111, 108, 100])) ∧ DiskEnd w B b g (D.wrote 0 [111, 108, 100]) w' := write_any 0 [111, 108, 100] w h hg (by decide)

set_option maxRecDepth 100000 in
set_option maxHeartbeats 4000000 in
theorem does_clone {B b g : Nat} {D : Dsk} {v : Value} (w : World) (hD : DiskAt w B b g D) (hg : g < w.heap.size) (hR : RefAt w v D) (kind at_ n : Int) (s : List UInt8) (ca : Option Addr) (cl cc : Nat) (cu : Nat → Int) (hC : CutsAt w b g ca cl cu) (m : Nat) (hm : bits .and .i64 kind 255 = (m : Int)) (hk : m % 10 = 9) :
    Calls Try.prog 23 #[.pointer (some ⟨b, 0, none⟩), v, .agg #[.int .i64 kind, .int .i64 at_, .int .i64 n, .string (S s), .slice ca cl cc]] w (DoesEnd w B b g D) := by
  obtain ⟨a1, c1, a2, c2, rfl, h1, h2⟩ := hR
  unfold rv
  have hR : RefAt w (.agg #[.slice a1 D.n c1, .slice a2 D.n c2, .int .i64 D.rl, .bool D.dead]) D := ⟨a1, c1, a2, c2, rfl, h1, h2⟩
  have HD := hid hD
  have Hg := hid hg
  have HR := hid hR
  have HC := hid hC
  clear hD hg hR hC h1 h2
  have e4 : ((m : Int).tmod 10) = 9 := by rw [Int.tmod_eq_emod_of_nonneg (by omega)]; omega
  have e5 : (m : Int) % 10 = 9 := by omega
  have Hst := hid (show (s.take 70).length ≤ 100000000 by rw [List.length_take]; omega)
  by_cases hat : 0 ≤ at_ ∧ at_ < 40
  case' pos =>
    have d1 : decide (0 ≤ at_) = true := by simp; omega
    have d2 : decide (at_ < 40) = true := by simp; omega
    have hat1 := hat.1
    have hat2 := hat.2
    go_enter Try.func23, Try.ntmps23
    go_upto_region 5 with (go_at_call 8; (with_reducible refine (cut70 s _).mono ?_); rintro e w4 ⟨rfl, hw4⟩; subst hw4)
    generalize at_ % 10 = at2
    have hX := Boxes.new w b (.slice a1 D.n c1) (.slice a2 D.n c2) (.int .i64 D.rl) (.bool D.dead) kind at_ n at2 (.string (S s)) (.slice ca cl cc)
    have hB5 := boxes_below w b (.slice a1 D.n c1) (.slice a2 D.n c2) (.int .i64 D.rl) (.bool D.dead) kind at_ n at2 (.string (S s)) (.slice ca cl cc)
    change Code.wp _ _ _ _ ((((( w.alloc (.cells #[.pointer (some ⟨b, 0, none⟩)] 32)).alloc (.cells #[.slice a1 D.n c1, .slice a2 D.n c2, .int .i64 D.rl, .bool D.dead] 52)).alloc (.cells #[.int .i64 kind, .int .i64 at_, .int .i64 n, .string (S s), .slice ca cl cc] 45)).alloc (.cells #[.slice none 0 0, .slice none 0 0, .int .i64 0, .bool false] 52)).alloc (.cells #[.int .i64 at2] 3))
    generalize ((((( w.alloc (.cells #[.pointer (some ⟨b, 0, none⟩)] 32)).alloc (.cells #[.slice a1 D.n c1, .slice a2 D.n c2, .int .i64 D.rl, .bool D.dead] 52)).alloc (.cells #[.int .i64 kind, .int .i64 at_, .int .i64 n, .string (S s), .slice ca cl cc] 45)).alloc (.cells #[.slice none 0 0, .slice none 0 0, .int .i64 0, .bool false] 52)).alloc (.cells #[.int .i64 at2] 3)) = w5 at *
  case' neg =>
    by_cases h0 : 0 ≤ at_
    case' pos =>
      have d1 : decide (0 ≤ at_) = true := by simp; omega
      have d2 : decide (at_ < 40) = false := by simp; omega
      go_enter Try.func23, Try.ntmps23
      go_upto_region 5 with (go_at_call 8; (with_reducible refine (cut70 s _).mono ?_); rintro e w4 ⟨rfl, hw4⟩; subst hw4)
      generalize at_ = at2 at *
      have hX := Boxes.new w b (.slice a1 D.n c1) (.slice a2 D.n c2) (.int .i64 D.rl) (.bool D.dead) kind at2 n at2 (.string (S s)) (.slice ca cl cc)
      have hB5 := boxes_below w b (.slice a1 D.n c1) (.slice a2 D.n c2) (.int .i64 D.rl) (.bool D.dead) kind at2 n at2 (.string (S s)) (.slice ca cl cc)
      change Code.wp _ _ _ _ ((((( w.alloc (.cells #[.pointer (some ⟨b, 0, none⟩)] 32)).alloc (.cells #[.slice a1 D.n c1, .slice a2 D.n c2, .int .i64 D.rl, .bool D.dead] 52)).alloc (.cells #[.int .i64 kind, .int .i64 at2, .int .i64 n, .string (S s), .slice ca cl cc] 45)).alloc (.cells #[.slice none 0 0, .slice none 0 0, .int .i64 0, .bool false] 52)).alloc (.cells #[.int .i64 at2] 3))
      generalize ((((( w.alloc (.cells #[.pointer (some ⟨b, 0, none⟩)] 32)).alloc (.cells #[.slice a1 D.n c1, .slice a2 D.n c2, .int .i64 D.rl, .bool D.dead] 52)).alloc (.cells #[.int .i64 kind, .int .i64 at2, .int .i64 n, .string (S s), .slice ca cl cc] 45)).alloc (.cells #[.slice none 0 0, .slice none 0 0, .int .i64 0, .bool false] 52)).alloc (.cells #[.int .i64 at2] 3)) = w5 at *
    case' neg =>
      have d1 : decide (0 ≤ at_) = false := by simp; omega
      go_enter Try.func23, Try.ntmps23
      go_upto_region 5 with (go_at_call 8; (with_reducible refine (cut70 s _).mono ?_); rintro e w4 ⟨rfl, hw4⟩; subst hw4)
      generalize at_ = at2 at *
      have hX := Boxes.new w b (.slice a1 D.n c1) (.slice a2 D.n c2) (.int .i64 D.rl) (.bool D.dead) kind at2 n at2 (.string (S s)) (.slice ca cl cc)
      have hB5 := boxes_below w b (.slice a1 D.n c1) (.slice a2 D.n c2) (.int .i64 D.rl) (.bool D.dead) kind at2 n at2 (.string (S s)) (.slice ca cl cc)
      change Code.wp _ _ _ _ ((((( w.alloc (.cells #[.pointer (some ⟨b, 0, none⟩)] 32)).alloc (.cells #[.slice a1 D.n c1, .slice a2 D.n c2, .int .i64 D.rl, .bool D.dead] 52)).alloc (.cells #[.int .i64 kind, .int .i64 at2, .int .i64 n, .string (S s), .slice ca cl cc] 45)).alloc (.cells #[.slice none 0 0, .slice none 0 0, .int .i64 0, .bool false] 52)).alloc (.cells #[.int .i64 at2] 3))
      generalize ((((( w.alloc (.cells #[.pointer (some ⟨b, 0, none⟩)] 32)).alloc (.cells #[.slice a1 D.n c1, .slice a2 D.n c2, .int .i64 D.rl, .bool D.dead] 52)).alloc (.cells #[.int .i64 kind, .int .i64 at2, .int .i64 n, .string (S s), .slice ca cl cc] 45)).alloc (.cells #[.slice none 0 0, .slice none 0 0, .int .i64 0, .bool false] 52)).alloc (.cells #[.int .i64 at2] 3)) = w5 at *
  all_goals
    generalize hp4 : w.heap.size + 1 + 1 + 1 + 1 = p4 at *
    generalize hp3 : w.heap.size + 1 + 1 + 1 = p3 at *
    generalize hp2 : w.heap.size + 1 + 1 = p2 at *
    generalize hp1 : w.heap.size + 1 = p1 at *
    generalize hp0 : w.heap.size = p0 at *
    have hsz5 : p4 + 1 ≤ w5.heap.size := lt_of_block hX.b4
    have hbp : b < p0 := by rw [← hp0]; exact HD.out.lt
    have hgp : g < p0 := Hg.out
    have Hp0 := hid hp0
    have hB5' : Below w.heap.size w w5 := by rw [Hp0.out]; exact hB5
    have hD5 : DiskAt w5 B b g D := HD.out.below hB5'
    have hR5 : RefAt w5 (.agg #[.slice a1 D.n c1, .slice a2 D.n c2, .int .i64 D.rl, .bool D.dead]) D := HR.out.below hB5'
    have k0 := cell_of_block hX.b0 0
    have k10 := cell_of_block hX.b1 0
    have k11 := cell_of_block hX.b1 1
    have k12 := cell_of_block hX.b1 2
    have k13 := cell_of_block hX.b1 3
    have f10 := free_of_block hX.b1 0
    have f11 := free_of_block hX.b1 1
    have f12 := free_of_block hX.b1 2
    have f13 := free_of_block hX.b1 3
    have k4 := cell_of_block hX.b4 0
    obtain ⟨ac, hac, ha0, ha2, ha4⟩ := hX.b2
    have a0 := (cell_of_block hac 0).trans ha0
    have a2' := (cell_of_block hac 2).trans ha2
    have a4 := (cell_of_block hac 4).trans ha4
    simp only [List.getElem?_toArray, List.getElem?_cons_zero, List.getElem?_cons_succ] at k0 k10 k11 k12 k13 k4
    clear hac ha0 ha2 ha4
    have Hc1 := hid (disk_clone_any w5 hD5)
    have HX := hid hX
    have HB5 := hid hB5
    have HD5 := hid hD5
    have HR5 := hid hR5
    clear hX hB5 hp0 hD5 hR5 hB5'
    go_wp2_with fail
    (with_reducible refine Hc1.out.mono ?_)
    rintro e w6 ⟨rfl, g2, hD6, hg6, hB6⟩
    have hX6 := HX.out.below hB6
    have hR6 := HR5.out.below hB6
    have hD6o := HD5.out.below hB6
    have hs6 := hB6.size
    have hb2g := hD6.hg
    have hB06 : Below p0 w w6 := HB5.out.trans (hB6.mono (by omega))
    have HB06 := hid hB06
    clear k0 k10 k11 k12 k13 f10 f11 f12 f13 k4 a0 a2' a4 hB6 Hc1 hB06
    generalize hb2 : w5.heap.size = b2 at *
    have k0 := cell_of_block hX6.b0 0
    have f0 := free_of_block hX6.b0 0
    simp only [List.getElem?_toArray, List.getElem?_cons_zero] at k0
    have HX6 := hid hX6
    have HR6 := hid hR6
    have HD6 := hid hD6
    have HD6o := hid hD6o
    have Hb2 := hid hb2
    clear hX6 hR6 hD6 hD6o hb2
    go_wp2_with fail
    have hT := HX6.out.turn0 b2
    have hD7 := HD6o.out.fr hT.2 (by omega) (by omega)
    have hN7 := (HD6.out.weak (show B ≤ b2 by have := HD6o.out.hb; omega)).fr hT.2 (by omega) (by omega)
    have hR7 := HR6.out.fr3 hT.2 (fun g' c _ hg' e => by subst e; exact absurd (ty_eq hg' HX6.out.b0) (by decide))
    have hs7 := hT.2.size
    generalize w6.setCell ⟨p0, 0, none⟩ (.pointer (some ⟨b2, 0, none⟩)) = w7 at *
    have Hc2 := hid (disk_crash w7 hD7 none 0 0 (fun _ => 0) (CutsAt.none _ _ _ _ _))
    have HX7 := hid hT.1
    have HF7 := hid hT.2
    have HD7 := hid hD7
    have HN7 := hid hN7
    have HR7 := hid hR7
    clear hT hD7 hN7 hR7 k0 f0
    (with_reducible refine Hc2.out.mono ?_)
    rintro e w8 ⟨rfl, hE8⟩
    have hs8 := hE8.2.size
    have Hc3 := hid (write_old w8 hE8.1 (by omega))
    have HE8 := hid hE8
    clear Hc2 hE8
    go_wp2_with fail
    (with_reducible refine Hc3.out.mono ?_)
    rintro e w9 ⟨rfl, hE9⟩
    have hs9 := hE9.2.size
    have HE9 := hid hE9
    clear hE9 Hc3
    have HX9 := hid ((HX7.out.fr HE8.out.2 (by unfold dfoot; omega) (by unfold dfoot; omega) (by unfold dfoot; omega) (by unfold dfoot; omega) (by unfold dfoot; omega)).fr HE9.out.2 (by unfold dfoot; omega) (by unfold dfoot; omega) (by unfold dfoot; omega) (by unfold dfoot; omega) (by unfold dfoot; omega))
    have HD9 := hid ((HN7.out.fr HE8.out.2 (by unfold dfoot; omega) (by unfold dfoot; omega)).fr HE9.out.2 (by unfold dfoot; omega) (by unfold dfoot; omega))
    have HR9 := hid ((HR7.out.disk rfl HD7.out HE8.out.2).disk (show (D.crash 0 (fun _ => 0)).n = D.n from tearN_n D (cutAt 0 (fun _ => 0)) (loose D) _) HE8.out.1 HE9.out.2)
    have HF9 := hid (show Fr (dfoot b g) w w9 from (((Fr.ofBelow (by rw [Hp0.out]; exact HB06.out) (dfoot b g)).trans HF7.out (fun k hk e => by subst e; exact absurd hk (by rw [Hp0.out]; omega))).trans HE8.out.2 (fun _ _ h => h)).trans HE9.out.2 (fun _ _ h => h))
    have Hg9 := hid (show g2 < w9.heap.size by omega)
    have Hn9 := hid (show D.n = D.n from rfl)
    have HDD := hid (rfl : D.dead = D.dead)
    have Hb9 := hid (show ¬ b2 = p3 ∧ ¬ g2 = p3 from ⟨by omega, by omega⟩)
    clear HX HB5 HD5 HR5 HX6 HR6 HD6 HD6o HB06 HX7 HF7 HD7 HN7 HR7 HE8 HE9
    all_goals
      have k0 := cell_of_block HX9.out.b0 0
      have k10 := cell_of_block HX9.out.b1 0
      have k11 := cell_of_block HX9.out.b1 1
      have k12 := cell_of_block HX9.out.b1 2
      have k13 := cell_of_block HX9.out.b1 3
      have k30 := cell_of_block HX9.out.b3 0
      have k31 := cell_of_block HX9.out.b3 1
      have k32 := cell_of_block HX9.out.b3 2
      have k33 := cell_of_block HX9.out.b3 3
      have f30 := free_of_block HX9.out.b3 0
      have f31 := free_of_block HX9.out.b3 1
      have f32 := free_of_block HX9.out.b3 2
      have f33 := free_of_block HX9.out.b3 3
      simp only [List.getElem?_toArray, List.getElem?_cons_zero, List.getElem?_cons_succ] at k0 k10 k11 k12 k13 k30 k31 k32 k33
      go_upto_region 33 with fail
      have hdd := disk_dead_eq w9.drew HD9.out.drew

      have Hc := hid hdd
      have hp03 : p3 ≠ p0 := by omega
      have hp13 : p3 ≠ p1 := by omega
      clear hdd
      go_region_held3 (fun w' => w'.cell? ⟨p0, 0, none⟩ = some (.pointer (some ⟨b2, 0, none⟩)) ∧ w'.cell? ⟨p1, 0, none⟩ = some (.slice a1 D.n c1) ∧ w'.cell? ⟨p1, 1, none⟩ = some (.slice a2 D.n c2) ∧ w'.cell? ⟨p1, 2, none⟩ = some (.int .i64 D.rl) ∧ w'.cell? ⟨p1, 3, none⟩ = some (.bool D.dead))
        (first | go_keep | exact ⟨k0, k10, k11, k12, k13⟩ | exact ⟨cellS (cellS (cellS (cellS k0 (p := ⟨p3, 0, none⟩) hp03 _) (p := ⟨p3, 1, none⟩) hp03 _) (p := ⟨p3, 2, none⟩) hp03 _) (p := ⟨p3, 3, none⟩) hp03 _, cellS (cellS (cellS (cellS k10 (p := ⟨p3, 0, none⟩) hp13 _) (p := ⟨p3, 1, none⟩) hp13 _) (p := ⟨p3, 2, none⟩) hp13 _) (p := ⟨p3, 3, none⟩) hp13 _, cellS (cellS (cellS (cellS k11 (p := ⟨p3, 0, none⟩) hp13 _) (p := ⟨p3, 1, none⟩) hp13 _) (p := ⟨p3, 2, none⟩) hp13 _) (p := ⟨p3, 3, none⟩) hp13 _, cellS (cellS (cellS (cellS k12 (p := ⟨p3, 0, none⟩) hp13 _) (p := ⟨p3, 1, none⟩) hp13 _) (p := ⟨p3, 2, none⟩) hp13 _) (p := ⟨p3, 3, none⟩) hp13 _, cellS (cellS (cellS (cellS k13 (p := ⟨p3, 0, none⟩) hp13 _) (p := ⟨p3, 1, none⟩) hp13 _) (p := ⟨p3, 2, none⟩) hp13 _) (p := ⟨p3, 3, none⟩) hp13 _⟩)
        (first | (go_at_call 17; (with_reducible refine Hc.out.mono ?_); rintro e wd ⟨rfl, hwd⟩; subst hwd))
      all_goals
        go_wp2_with fail
        have hw := set4 (w := w9) HX9.out.b3 (.slice a1 D.n c1) (.slice a2 D.n c2) (.int .i64 D.rl) (.bool D.dead)
        have hF := fr4 (b := p3) (Fr.refl (fun k => k = p3) w9) rfl (.slice a1 D.n c1) (.slice a2 D.n c2) (.int .i64 D.rl) (.bool D.dead)
        have hF2 : Fr (dfoot b g) w _ := HF9.out.trans hF (fun k hk e => by subst e; exact absurd hk (by rw [Hp0.out]; omega))
        have hR2 := HR9.out.fr3 hF (fun g' c _ hg' e => by subst e; exact absurd (ty_eq hg' HX9.out.b3) (by decide))
        have hD2 := HD9.out.fr hF Hb9.out.1 Hb9.out.2
        have hg2 := Nat.lt_of_lt_of_le Hg9.out hF.size
        generalize ((((w9.setCell ⟨p3, 0, none⟩ (.slice a1 D.n c1)).setCell ⟨p3, 1, none⟩ (.slice a2 D.n c2)).setCell ⟨p3, 2, none⟩ (.int .i64 D.rl)).setCell ⟨p3, 3, none⟩ (.bool D.dead)) = wz at *
        refine bodyPost_ret (v := .tuple #[.pointer (some ⟨b2, 0, none⟩), (.agg #[.slice a1 D.n c1, .slice a2 D.n c2, .int .i64 D.rl, .bool D.dead]), .bool true]) ?_ rfl ⟨_, _, _, _, rfl, hD2.drew, hg2, hR2.drew, rfl, hF2.drew, .inr ⟨by rw [Hp0.out]; omega, by rw [Hp0.out]; omega⟩⟩
        rw [results_tct rfl]
        clear hF hF2 hR2 hD2 hg2 k0 k10 k11 k12 k13 k30 k31 k32 k33 f30 f31 f32 f33
        have n0 := cell_of_block hw 0
        have n1 := cell_of_block hw 1
        have n2 := cell_of_block hw 2
        have n3 := cell_of_block hw 3
        simp only [List.getElem?_toArray, List.getElem?_cons_zero, List.getElem?_cons_succ] at n0 n1 n2 n3
        go_simp
end Go.Proofs.Ytkmbbgnbklklcaa
