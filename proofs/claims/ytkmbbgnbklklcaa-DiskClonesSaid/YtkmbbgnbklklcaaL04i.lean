/-
  Law 04's does: Read.
-/
import Derived.Test.YtkmbbgnbklklcaaL04g
namespace Go.Proofs.Ytkmbbgnbklklcaa
open Go.RowKit

set_option maxRecDepth 100000 in
set_option maxHeartbeats 4000000 in
theorem does_read {B b g : Nat} {D : Dsk} {v : Value} (w : World) (hD : DiskAt w B b g D) (hg : g < w.heap.size) (hR : RefAt w v D) (kind at_ n : Int) (s : List UInt8) (ca : Option Addr) (cl cc : Nat) (cu : Nat → Int) (hC : CutsAt w b g ca cl cu) (m : Nat) (hm : bits .and .i64 kind 255 = (m : Int)) (hk : m % 10 = 4) :
    Calls Try.prog 23 #[.pointer (some ⟨b, 0, none⟩), v, .agg #[.int .i64 kind, .int .i64 at_, .int .i64 n, .string (S s), .slice ca cl cc]] w (DoesEnd w B b g D) := by
  obtain ⟨a1, c1, a2, c2, rfl, h1, h2⟩ := hR
  unfold rv
  have hR : RefAt w (.agg #[.slice a1 D.n c1, .slice a2 D.n c2, .int .i64 D.rl, .bool D.dead]) D := ⟨a1, c1, a2, c2, rfl, h1, h2⟩
  have HD := hid hD
  have Hg := hid hg
  have HR := hid hR
  have HC := hid hC
  clear hD hg hR hC h1 h2
  have e4 : ((m : Int).tmod 10) = 4 := by rw [Int.tmod_eq_emod_of_nonneg (by omega)]; omega
  have e5 : (m : Int) % 10 = 4 := by omega
  have Hst := hid (show (s.take 70).length ≤ 100000000 by rw [List.length_take]; omega)
  by_cases hat : 0 ≤ at_ ∧ at_ < 40
  case' pos =>
    have d1 : decide (0 ≤ at_) = true := by simp; omega
    have d2 : decide (at_ < 40) = true := by simp; omega
    have hat1 := hat.1
    have hat2 := hat.2
    go_enter Try.func23, Try.ntmps23
    go_upto_region 5 with (go_at_call 8; (with_reducible refine (cut70 s _).mono ?_); rintro e w4 ⟨rfl, hw4⟩; subst hw4)
    generalize at_ % 10 = at2
    have hX := Boxes.new w b (.slice a1 D.n c1) (.slice a2 D.n c2) (.int .i64 D.rl) (.bool D.dead) kind at_ n at2 (.string (S s)) (.slice ca cl cc)
    have hB5 := boxes_below w b (.slice a1 D.n c1) (.slice a2 D.n c2) (.int .i64 D.rl) (.bool D.dead) kind at_ n at2 (.string (S s)) (.slice ca cl cc)
    change Code.wp _ _ _ _ ((((( w.alloc (.cells #[.pointer (some ⟨b, 0, none⟩)] 32)).alloc (.cells #[.slice a1 D.n c1, .slice a2 D.n c2, .int .i64 D.rl, .bool D.dead] 52)).alloc (.cells #[.int .i64 kind, .int .i64 at_, .int .i64 n, .string (S s), .slice ca cl cc] 45)).alloc (.cells #[.slice none 0 0, .slice none 0 0, .int .i64 0, .bool false] 52)).alloc (.cells #[.int .i64 at2] 3))
    generalize ((((( w.alloc (.cells #[.pointer (some ⟨b, 0, none⟩)] 32)).alloc (.cells #[.slice a1 D.n c1, .slice a2 D.n c2, .int .i64 D.rl, .bool D.dead] 52)).alloc (.cells #[.int .i64 kind, .int .i64 at_, .int .i64 n, .string (S s), .slice ca cl cc] 45)).alloc (.cells #[.slice none 0 0, .slice none 0 0, .int .i64 0, .bool false] 52)).alloc (.cells #[.int .i64 at2] 3)) = w5 at *
  case' neg =>
    by_cases h0 : 0 ≤ at_
    case' pos =>
      have d1 : decide (0 ≤ at_) = true := by simp; omega
      have d2 : decide (at_ < 40) = false := by simp; omega
      go_enter Try.func23, Try.ntmps23
      go_upto_region 5 with (go_at_call 8; (with_reducible refine (cut70 s _).mono ?_); rintro e w4 ⟨rfl, hw4⟩; subst hw4)
      generalize at_ = at2 at *
      have hX := Boxes.new w b (.slice a1 D.n c1) (.slice a2 D.n c2) (.int .i64 D.rl) (.bool D.dead) kind at2 n at2 (.string (S s)) (.slice ca cl cc)
      have hB5 := boxes_below w b (.slice a1 D.n c1) (.slice a2 D.n c2) (.int .i64 D.rl) (.bool D.dead) kind at2 n at2 (.string (S s)) (.slice ca cl cc)
      change Code.wp _ _ _ _ ((((( w.alloc (.cells #[.pointer (some ⟨b, 0, none⟩)] 32)).alloc (.cells #[.slice a1 D.n c1, .slice a2 D.n c2, .int .i64 D.rl, .bool D.dead] 52)).alloc (.cells #[.int .i64 kind, .int .i64 at2, .int .i64 n, .string (S s), .slice ca cl cc] 45)).alloc (.cells #[.slice none 0 0, .slice none 0 0, .int .i64 0, .bool false] 52)).alloc (.cells #[.int .i64 at2] 3))
      generalize ((((( w.alloc (.cells #[.pointer (some ⟨b, 0, none⟩)] 32)).alloc (.cells #[.slice a1 D.n c1, .slice a2 D.n c2, .int .i64 D.rl, .bool D.dead] 52)).alloc (.cells #[.int .i64 kind, .int .i64 at2, .int .i64 n, .string (S s), .slice ca cl cc] 45)).alloc (.cells #[.slice none 0 0, .slice none 0 0, .int .i64 0, .bool false] 52)).alloc (.cells #[.int .i64 at2] 3)) = w5 at *
    case' neg =>
      have d1 : decide (0 ≤ at_) = false := by simp; omega
      go_enter Try.func23, Try.ntmps23
      go_upto_region 5 with (go_at_call 8; (with_reducible refine (cut70 s _).mono ?_); rintro e w4 ⟨rfl, hw4⟩; subst hw4)
      generalize at_ = at2 at *
      have hX := Boxes.new w b (.slice a1 D.n c1) (.slice a2 D.n c2) (.int .i64 D.rl) (.bool D.dead) kind at2 n at2 (.string (S s)) (.slice ca cl cc)
      have hB5 := boxes_below w b (.slice a1 D.n c1) (.slice a2 D.n c2) (.int .i64 D.rl) (.bool D.dead) kind at2 n at2 (.string (S s)) (.slice ca cl cc)
      change Code.wp _ _ _ _ ((((( w.alloc (.cells #[.pointer (some ⟨b, 0, none⟩)] 32)).alloc (.cells #[.slice a1 D.n c1, .slice a2 D.n c2, .int .i64 D.rl, .bool D.dead] 52)).alloc (.cells #[.int .i64 kind, .int .i64 at2, .int .i64 n, .string (S s), .slice ca cl cc] 45)).alloc (.cells #[.slice none 0 0, .slice none 0 0, .int .i64 0, .bool false] 52)).alloc (.cells #[.int .i64 at2] 3))
      generalize ((((( w.alloc (.cells #[.pointer (some ⟨b, 0, none⟩)] 32)).alloc (.cells #[.slice a1 D.n c1, .slice a2 D.n c2, .int .i64 D.rl, .bool D.dead] 52)).alloc (.cells #[.int .i64 kind, .int .i64 at2, .int .i64 n, .string (S s), .slice ca cl cc] 45)).alloc (.cells #[.slice none 0 0, .slice none 0 0, .int .i64 0, .bool false] 52)).alloc (.cells #[.int .i64 at2] 3)) = w5 at *
  all_goals
    generalize hp4 : w.heap.size + 1 + 1 + 1 + 1 = p4 at *
    generalize hp3 : w.heap.size + 1 + 1 + 1 = p3 at *
    generalize hp2 : w.heap.size + 1 + 1 = p2 at *
    generalize hp1 : w.heap.size + 1 = p1 at *
    generalize hp0 : w.heap.size = p0 at *
    have hsz5 : p4 + 1 ≤ w5.heap.size := lt_of_block hX.b4
    have hbp : b < p0 := by rw [← hp0]; exact HD.out.lt
    have hgp : g < p0 := Hg.out
    have Hp0 := hid hp0
    have hD5 : DiskAt w5 B b g D := HD.out.below (by rw [Hp0.out]; exact hB5)
    have hR5 : RefAt w5 (.agg #[.slice a1 D.n c1, .slice a2 D.n c2, .int .i64 D.rl, .bool D.dead]) D := HR.out.below (by rw [Hp0.out]; exact hB5)
    have k0 := cell_of_block hX.b0 0
    have k10 := cell_of_block hX.b1 0
    have k11 := cell_of_block hX.b1 1
    have k12 := cell_of_block hX.b1 2
    have k13 := cell_of_block hX.b1 3
    have f10 := free_of_block hX.b1 0
    have f11 := free_of_block hX.b1 1
    have f12 := free_of_block hX.b1 2
    have f13 := free_of_block hX.b1 3
    have k4 := cell_of_block hX.b4 0
    obtain ⟨ac, hac, ha0, ha2, ha4⟩ := hX.b2
    have a0 := (cell_of_block hac 0).trans ha0
    have a2' := (cell_of_block hac 2).trans ha2
    have a4 := (cell_of_block hac 4).trans ha4
    simp only [List.getElem?_toArray, List.getElem?_cons_zero, List.getElem?_cons_succ] at k0 k10 k11 k12 k13 k4
    clear hac ha0 ha2 ha4
    have Hc1 := hid (lread_any at2 w5 hD5)
    have Hc2 := hid (fun (w : World) (h : RefAt w (.agg #[.slice a1 D.n c1, .slice a2 D.n c2, .int .i64 D.rl, .bool D.dead]) D) => ref4_read h at2)
    generalize D.rText at2 = tx at *
    generalize D.rErr at2 = er at *
    have HX := hid hX
    have HB5 := hid hB5
    have HD5 := hid hD5
    have HR5 := hid hR5
    clear hX hB5 hp0 hD5 hR5
    go_wp2_with fail
    (with_reducible refine Hc1.out.mono ?_)
    rintro e w6 ⟨rfl, hB6⟩
    have hX := HX.out.below hB6
    have hR6 := HR5.out.below hB6
    have HB6 := hid hB6
    clear k0 k10 k11 k12 k13 f10 f11 f12 f13 k4 a0 a2' a4 hB6 Hc1
    have k0 := cell_of_block hX.b0 0
    have k10 := cell_of_block hX.b1 0
    have k11 := cell_of_block hX.b1 1
    have k12 := cell_of_block hX.b1 2
    have k13 := cell_of_block hX.b1 3
    have f10 := free_of_block hX.b1 0
    have f11 := free_of_block hX.b1 1
    have f12 := free_of_block hX.b1 2
    have f13 := free_of_block hX.b1 3
    have k4 := cell_of_block hX.b4 0
    obtain ⟨ac, hac, ha0, ha2, ha4⟩ := hX.b2
    have a0 := (cell_of_block hac 0).trans ha0
    have a2' := (cell_of_block hac 2).trans ha2
    have a4 := (cell_of_block hac 4).trans ha4
    simp only [List.getElem?_toArray, List.getElem?_cons_zero, List.getElem?_cons_succ] at k0 k10 k11 k12 k13 k4
    clear hac ha0 ha2 ha4
    have hcall := Hc2.out w6 hR6
    have HX6 := hid hX
    have HR6 := hid hR6
    have Hcall := hid hcall
    clear hX hcall Hc2 hR6
    go_wp2_with fail
    (with_reducible refine Hcall.out.mono ?_)
    rintro e w9 ⟨rfl, hB7⟩
    have hB76 : Below w5.heap.size w5 w9 := HB6.out.trans (hB7.mono HB6.out.size)
    have HX9 := hid (HX6.out.below hB7)
    have HD9 := hid (HD5.out.below hB76)
    have HR9 := hid (HR6.out.below hB7)
    have HF9 := hid (show Fr (dfoot b g) w w9 from Fr.ofBelow (by rw [Hp0.out]; exact HB5.out.trans (hB76.mono (by omega))) _)
    have Hg9 := hid (show g < w9.heap.size by have := hB76.size; omega)
    have Hn9 := hid (show D.n = D.n from rfl)
    have HDD := hid (rfl : D.dead = D.dead)
    have Hb9 := hid (show ¬ b = p3 ∧ ¬ g = p3 from ⟨by omega, by omega⟩)
    clear k0 k10 k11 k12 k13 f10 f11 f12 f13 k4 a0 a2' a4 HX HB5 HD5 HR5 hB7 HB6 hB76 HX6 HR6 Hcall
    all_goals
      have k0 := cell_of_block HX9.out.b0 0
      have k10 := cell_of_block HX9.out.b1 0
      have k11 := cell_of_block HX9.out.b1 1
      have k12 := cell_of_block HX9.out.b1 2
      have k13 := cell_of_block HX9.out.b1 3
      have k30 := cell_of_block HX9.out.b3 0
      have k31 := cell_of_block HX9.out.b3 1
      have k32 := cell_of_block HX9.out.b3 2
      have k33 := cell_of_block HX9.out.b3 3
      have f30 := free_of_block HX9.out.b3 0
      have f31 := free_of_block HX9.out.b3 1
      have f32 := free_of_block HX9.out.b3 2
      have f33 := free_of_block HX9.out.b3 3
      simp only [List.getElem?_toArray, List.getElem?_cons_zero, List.getElem?_cons_succ] at k0 k10 k11 k12 k13 k30 k31 k32 k33
      go_upto_region 33 with fail
      have hdd := disk_dead_eq w9.drew HD9.out.drew

      have Hc := hid hdd
      have hp03 : p3 ≠ p0 := by omega
      have hp13 : p3 ≠ p1 := by omega
      clear hdd
      go_region_held3 (fun w' => w'.cell? ⟨p0, 0, none⟩ = some (.pointer (some ⟨b, 0, none⟩)) ∧ w'.cell? ⟨p1, 0, none⟩ = some (.slice a1 D.n c1) ∧ w'.cell? ⟨p1, 1, none⟩ = some (.slice a2 D.n c2) ∧ w'.cell? ⟨p1, 2, none⟩ = some (.int .i64 D.rl) ∧ w'.cell? ⟨p1, 3, none⟩ = some (.bool D.dead))
        (first | go_keep | exact ⟨k0, k10, k11, k12, k13⟩ | exact ⟨cellS (cellS (cellS (cellS k0 (p := ⟨p3, 0, none⟩) hp03 _) (p := ⟨p3, 1, none⟩) hp03 _) (p := ⟨p3, 2, none⟩) hp03 _) (p := ⟨p3, 3, none⟩) hp03 _, cellS (cellS (cellS (cellS k10 (p := ⟨p3, 0, none⟩) hp13 _) (p := ⟨p3, 1, none⟩) hp13 _) (p := ⟨p3, 2, none⟩) hp13 _) (p := ⟨p3, 3, none⟩) hp13 _, cellS (cellS (cellS (cellS k11 (p := ⟨p3, 0, none⟩) hp13 _) (p := ⟨p3, 1, none⟩) hp13 _) (p := ⟨p3, 2, none⟩) hp13 _) (p := ⟨p3, 3, none⟩) hp13 _, cellS (cellS (cellS (cellS k12 (p := ⟨p3, 0, none⟩) hp13 _) (p := ⟨p3, 1, none⟩) hp13 _) (p := ⟨p3, 2, none⟩) hp13 _) (p := ⟨p3, 3, none⟩) hp13 _, cellS (cellS (cellS (cellS k13 (p := ⟨p3, 0, none⟩) hp13 _) (p := ⟨p3, 1, none⟩) hp13 _) (p := ⟨p3, 2, none⟩) hp13 _) (p := ⟨p3, 3, none⟩) hp13 _⟩)
        (first | (go_at_call 17; (with_reducible refine Hc.out.mono ?_); rintro e wd ⟨rfl, hwd⟩; subst hwd))
      all_goals
        go_wp2_with fail
        have hw := set4 (w := w9) HX9.out.b3 (.slice a1 D.n c1) (.slice a2 D.n c2) (.int .i64 D.rl) (.bool D.dead)
        have hF := fr4 (b := p3) (Fr.refl (fun k => k = p3) w9) rfl (.slice a1 D.n c1) (.slice a2 D.n c2) (.int .i64 D.rl) (.bool D.dead)
        have hF2 : Fr (dfoot b g) w _ := HF9.out.trans hF (fun k hk e => by subst e; exact absurd hk (by rw [Hp0.out]; omega))
        have hR2 := HR9.out.fr3 hF (fun g' c _ hg' e => by subst e; exact absurd (ty_eq hg' HX9.out.b3) (by decide))
        have hD2 := HD9.out.fr hF Hb9.out.1 Hb9.out.2
        have hg2 := Nat.lt_of_lt_of_le Hg9.out hF.size
        generalize ((((w9.setCell ⟨p3, 0, none⟩ (.slice a1 D.n c1)).setCell ⟨p3, 1, none⟩ (.slice a2 D.n c2)).setCell ⟨p3, 2, none⟩ (.int .i64 D.rl)).setCell ⟨p3, 3, none⟩ (.bool D.dead)) = wz at *
        refine bodyPost_ret (v := .tuple #[.pointer (some ⟨b, 0, none⟩), (.agg #[.slice a1 D.n c1, .slice a2 D.n c2, .int .i64 D.rl, .bool D.dead]), .bool true]) ?_ rfl ⟨_, _, _, _, rfl, hD2.drew, hg2, hR2.drew, rfl, hF2.drew, .inl ⟨rfl, rfl⟩⟩
        rw [results_tct rfl]
        clear hF hF2 hR2 hD2 hg2 k0 k10 k11 k12 k13 k30 k31 k32 k33 f30 f31 f32 f33
        have n0 := cell_of_block hw 0
        have n1 := cell_of_block hw 1
        have n2 := cell_of_block hw 2
        have n3 := cell_of_block hw 3
        simp only [List.getElem?_toArray, List.getElem?_cons_zero, List.getElem?_cons_succ] at n0 n1 n2 n3
        go_simp
end Go.Proofs.Ytkmbbgnbklklcaa
