/-
  Law 04's does: Spoil.
-/
import Derived.Test.YtkmbbgnbklklcaaL04g
namespace Go.Proofs.Ytkmbbgnbklklcaa
open Go.RowKit

theorem spoilt_n (D : Dsk) (i k : Int) (c : UInt8) : (D.spoilt i k c).n = D.n := by
  unfold Dsk.spoilt
  repeat' split
  all_goals rfl
theorem ref4_spoil65 {w : World} {v : Value} {D : Dsk} (h : RefAt w v D) (hn : D.n ≤ 4096) (hlen : ∀ i, i < D.n → (D.sure i).length = 64 ∧ (D.now i).length = 64) (i k : Int) :
    Calls Try.prog 41 #[v, .int .i64 i, .int .i64 k, .int .u8 65] w fun e w' => ∃ v', e = .returned (.tuple #[v', .int .i64 (D.sErr i k)]) ∧ RefAt w' v' (D.spoilt i k 65) ∧ Below w.heap.size w w' := ref4_spoil h hn hlen i k 65
theorem spoil65 {B b g : Nat} {D : Dsk} (i k : Int) (w : World) (h : DiskAt w B b g D) :
    Calls Try.prog 43 #[.pointer (some ⟨b, 0, none⟩), .int .i64 i, .int .i64 k, .int .u8 65] w fun e w' => e = ends (D.sErr i k) ∧ DiskEnd w B b g (D.spoilt i k 65) w' := spoil_any i k 65 w h
theorem enters_does1 (a c d : Value) : Enters 42 #[a, c, d] := fun w => by kernel_rfl
theorem does1_any {B b g : Nat} {D : Dsk} (p0 p1 p2 p3 p4 : Nat) (x : Array Value) (kind n at_ : Int) (cv : Value) (w : World) (h : DiskAt w B b g D) (hX : Boxes w p0 p1 p2 p3 p4 b x kind n at_ cv) :
    Calls Try.prog 42 #[.pointer (some ⟨p0, 0, none⟩), .pointer (some ⟨p4, 0, none⟩), .pointer (some ⟨p2, 0, none⟩)] w fun e w' => e = ends (D.sErr at_ n) ∧ DiskEnd w B b g (D.spoilt at_ n 65) w' := by
  have c1 := cell_of_one hX.b0
  have c2 := cell_of_one hX.b4
  obtain ⟨ac, hac, ha0, ha2, ha4⟩ := hX.b2
  have c3 := (cell_of_block hac 2).trans ha2
  have K := hid (spoil65 at_ n w h)
  generalize D.sErr at_ n = c at *
  generalize D.spoilt at_ n 65 = D2 at *
  clear hX hac ha0 ha2 ha4 h
  go_enter Try.func42, Try.ntmps42
  go_wp2_with fail
  refine K.out.mono ?_
  rintro e w1 ⟨rfl, hE⟩
  unfold ends
  by_cases hc : c = 0
  · rw [if_pos hc]
    have HE := hid hE
    clear hE
    go_wp2_with fail
    go_end0
    exact ⟨by rw [ends, if_pos hc], HE.out⟩
  · rw [if_neg hc]
    exact ⟨rfl, by rw [ends, if_neg hc], hE⟩
theorem guard_does1 {B b g : Nat} {D : Dsk} (p0 p1 p2 p3 p4 : Nat) (x : Array Value) (kind n at_ : Int) (cv : Value) (w : World) (h : DiskAt w B b g D) (hg : g < w.heap.size) (hX : Boxes w p0 p1 p2 p3 p4 b x kind n at_ cv) :
    Calls Try.prog 31 #[.func (.func 42) #[] #[.pointer (some ⟨p0, 0, none⟩), .pointer (some ⟨p4, 0, none⟩), .pointer (some ⟨p2, 0, none⟩)]] w fun e w3 => e = .returned (.int .i64 (D.sErr at_ n)) ∧ DiskEnd w B b g (D.spoilt at_ n 65) w3 := by
  have hb := h.lt
  refine (guard_fr _ _ w (D.sErr at_ n) (dfoot b g) (fun w' => DiskAt w' B b g (D.spoilt at_ n 65)) (enters_does1 _ _ _) (by rintro (e | e) <;> omega) (fun w1 w2 hs hp hF => hp.fr hF (by omega) (by omega)) ?_).mono fun e w3 ⟨h1, h2, h3⟩ => ⟨h1, h3, h2⟩
  refine (does1_any p0 p1 p2 p3 p4 x kind n at_ cv _ (h.alloc _) (hX.below ((Below.refl _ w).alloc (Nat.le_refl _) _))).mono ?_
  rintro e w' ⟨rfl, hE⟩
  exact ⟨hE.2, hE.1, ends_or _⟩

set_option maxRecDepth 100000 in
set_option maxHeartbeats 4000000 in
theorem does_spoil {B b g : Nat} {D : Dsk} {v : Value} (w : World) (hD : DiskAt w B b g D) (hg : g < w.heap.size) (hR : RefAt w v D) (kind at_ n : Int) (s : List UInt8) (ca : Option Addr) (cl cc : Nat) (cu : Nat → Int) (hC : CutsAt w b g ca cl cu) (m : Nat) (hm : bits .and .i64 kind 255 = (m : Int)) (hk : m % 10 = 7) :
    Calls Try.prog 23 #[.pointer (some ⟨b, 0, none⟩), v, .agg #[.int .i64 kind, .int .i64 at_, .int .i64 n, .string (S s), .slice ca cl cc]] w (DoesEnd w B b g D) := by
  obtain ⟨a1, c1, a2, c2, rfl, h1, h2⟩ := hR
  unfold rv
  have hR : RefAt w (.agg #[.slice a1 D.n c1, .slice a2 D.n c2, .int .i64 D.rl, .bool D.dead]) D := ⟨a1, c1, a2, c2, rfl, h1, h2⟩
  have HD := hid hD
  have Hg := hid hg
  have HR := hid hR
  have HC := hid hC
  clear hD hg hR hC h1 h2
  have e4 : ((m : Int).tmod 10) = 7 := by rw [Int.tmod_eq_emod_of_nonneg (by omega)]; omega
  have e5 : (m : Int) % 10 = 7 := by omega
  have Hst := hid (show (s.take 70).length ≤ 100000000 by rw [List.length_take]; omega)
  by_cases hat : 0 ≤ at_ ∧ at_ < 40
  case' pos =>
    have d1 : decide (0 ≤ at_) = true := by simp; omega
    have d2 : decide (at_ < 40) = true := by simp; omega
    have hat1 := hat.1
    have hat2 := hat.2
    go_enter Try.func23, Try.ntmps23
    go_upto_region 5 with (go_at_call 8; (with_reducible refine (cut70 s _).mono ?_); rintro e w4 ⟨rfl, hw4⟩; subst hw4)
    generalize at_ % 10 = at2
    have hX := Boxes.new w b (.slice a1 D.n c1) (.slice a2 D.n c2) (.int .i64 D.rl) (.bool D.dead) kind at_ n at2 (.string (S s)) (.slice ca cl cc)
    have hB5 := boxes_below w b (.slice a1 D.n c1) (.slice a2 D.n c2) (.int .i64 D.rl) (.bool D.dead) kind at_ n at2 (.string (S s)) (.slice ca cl cc)
    change Code.wp _ _ _ _ ((((( w.alloc (.cells #[.pointer (some ⟨b, 0, none⟩)] 32)).alloc (.cells #[.slice a1 D.n c1, .slice a2 D.n c2, .int .i64 D.rl, .bool D.dead] 52)).alloc (.cells #[.int .i64 kind, .int .i64 at_, .int .i64 n, .string (S s), .slice ca cl cc] 45)).alloc (.cells #[.slice none 0 0, .slice none 0 0, .int .i64 0, .bool false] 52)).alloc (.cells #[.int .i64 at2] 3))
    generalize ((((( w.alloc (.cells #[.pointer (some ⟨b, 0, none⟩)] 32)).alloc (.cells #[.slice a1 D.n c1, .slice a2 D.n c2, .int .i64 D.rl, .bool D.dead] 52)).alloc (.cells #[.int .i64 kind, .int .i64 at_, .int .i64 n, .string (S s), .slice ca cl cc] 45)).alloc (.cells #[.slice none 0 0, .slice none 0 0, .int .i64 0, .bool false] 52)).alloc (.cells #[.int .i64 at2] 3)) = w5 at *
  case' neg =>
    by_cases h0 : 0 ≤ at_
    case' pos =>
      have d1 : decide (0 ≤ at_) = true := by simp; omega
      have d2 : decide (at_ < 40) = false := by simp; omega
      go_enter Try.func23, Try.ntmps23
      go_upto_region 5 with (go_at_call 8; (with_reducible refine (cut70 s _).mono ?_); rintro e w4 ⟨rfl, hw4⟩; subst hw4)
      generalize at_ = at2 at *
      have hX := Boxes.new w b (.slice a1 D.n c1) (.slice a2 D.n c2) (.int .i64 D.rl) (.bool D.dead) kind at2 n at2 (.string (S s)) (.slice ca cl cc)
      have hB5 := boxes_below w b (.slice a1 D.n c1) (.slice a2 D.n c2) (.int .i64 D.rl) (.bool D.dead) kind at2 n at2 (.string (S s)) (.slice ca cl cc)
      change Code.wp _ _ _ _ ((((( w.alloc (.cells #[.pointer (some ⟨b, 0, none⟩)] 32)).alloc (.cells #[.slice a1 D.n c1, .slice a2 D.n c2, .int .i64 D.rl, .bool D.dead] 52)).alloc (.cells #[.int .i64 kind, .int .i64 at2, .int .i64 n, .string (S s), .slice ca cl cc] 45)).alloc (.cells #[.slice none 0 0, .slice none 0 0, .int .i64 0, .bool false] 52)).alloc (.cells #[.int .i64 at2] 3))
      generalize ((((( w.alloc (.cells #[.pointer (some ⟨b, 0, none⟩)] 32)).alloc (.cells #[.slice a1 D.n c1, .slice a2 D.n c2, .int .i64 D.rl, .bool D.dead] 52)).alloc (.cells #[.int .i64 kind, .int .i64 at2, .int .i64 n, .string (S s), .slice ca cl cc] 45)).alloc (.cells #[.slice none 0 0, .slice none 0 0, .int .i64 0, .bool false] 52)).alloc (.cells #[.int .i64 at2] 3)) = w5 at *
    case' neg =>
      have d1 : decide (0 ≤ at_) = false := by simp; omega
      go_enter Try.func23, Try.ntmps23
      go_upto_region 5 with (go_at_call 8; (with_reducible refine (cut70 s _).mono ?_); rintro e w4 ⟨rfl, hw4⟩; subst hw4)
      generalize at_ = at2 at *
      have hX := Boxes.new w b (.slice a1 D.n c1) (.slice a2 D.n c2) (.int .i64 D.rl) (.bool D.dead) kind at2 n at2 (.string (S s)) (.slice ca cl cc)
      have hB5 := boxes_below w b (.slice a1 D.n c1) (.slice a2 D.n c2) (.int .i64 D.rl) (.bool D.dead) kind at2 n at2 (.string (S s)) (.slice ca cl cc)
      change Code.wp _ _ _ _ ((((( w.alloc (.cells #[.pointer (some ⟨b, 0, none⟩)] 32)).alloc (.cells #[.slice a1 D.n c1, .slice a2 D.n c2, .int .i64 D.rl, .bool D.dead] 52)).alloc (.cells #[.int .i64 kind, .int .i64 at2, .int .i64 n, .string (S s), .slice ca cl cc] 45)).alloc (.cells #[.slice none 0 0, .slice none 0 0, .int .i64 0, .bool false] 52)).alloc (.cells #[.int .i64 at2] 3))
      generalize ((((( w.alloc (.cells #[.pointer (some ⟨b, 0, none⟩)] 32)).alloc (.cells #[.slice a1 D.n c1, .slice a2 D.n c2, .int .i64 D.rl, .bool D.dead] 52)).alloc (.cells #[.int .i64 kind, .int .i64 at2, .int .i64 n, .string (S s), .slice ca cl cc] 45)).alloc (.cells #[.slice none 0 0, .slice none 0 0, .int .i64 0, .bool false] 52)).alloc (.cells #[.int .i64 at2] 3)) = w5 at *
  all_goals
    generalize hp4 : w.heap.size + 1 + 1 + 1 + 1 = p4 at *
    generalize hp3 : w.heap.size + 1 + 1 + 1 = p3 at *
    generalize hp2 : w.heap.size + 1 + 1 = p2 at *
    generalize hp1 : w.heap.size + 1 = p1 at *
    generalize hp0 : w.heap.size = p0 at *
    have hsz5 : p4 + 1 ≤ w5.heap.size := lt_of_block hX.b4
    have hbp : b < p0 := by rw [← hp0]; exact HD.out.lt
    have hgp : g < p0 := Hg.out
    have Hp0 := hid hp0
    have k0 := cell_of_block hX.b0 0
    have k10 := cell_of_block hX.b1 0
    have k11 := cell_of_block hX.b1 1
    have k12 := cell_of_block hX.b1 2
    have k13 := cell_of_block hX.b1 3
    have f10 := free_of_block hX.b1 0
    have f11 := free_of_block hX.b1 1
    have f12 := free_of_block hX.b1 2
    have f13 := free_of_block hX.b1 3
    have k4 := cell_of_block hX.b4 0
    obtain ⟨ac, hac, ha0, ha2, ha4⟩ := hX.b2
    have a0 := (cell_of_block hac 0).trans ha0
    have a2' := (cell_of_block hac 2).trans ha2
    have a4 := (cell_of_block hac 4).trans ha4
    simp only [List.getElem?_toArray, List.getElem?_cons_zero, List.getElem?_cons_succ] at k0 k10 k11 k12 k13 k4
    clear hac ha0 ha2 ha4
    have Hcall := hid (ref4_spoil65 (HR.out.below (by rw [Hp0.out]; exact hB5)) HD.out.small HD.out.len at2 n)
    have HX := hid hX
    have HB5 := hid hB5
    clear hX hB5 hp0
    have hE6 := guard_does1 (B := B) (b := b) (g := g) (D := D) p0 p1 p2 p3 p4 #[.slice a1 D.n c1, .slice a2 D.n c2, .int .i64 D.rl, .bool D.dead] kind n at2 (.slice ca cl cc)
    generalize D.sErr at2 n = er at *
    have hn6 : (D.spoilt at2 n 65).n = D.n := spoilt_n D at2 n 65
    generalize D.spoilt at2 n 65 = D6 at *
    have HE6 := hid hE6
    clear hE6
    go_wp2_with fail
    (with_reducible refine Hcall.out.mono ?_)
    rintro e w6 ⟨v6, rfl, hR6, hB6⟩
    obtain ⟨a6, c6, a7, c7, rfl, h61, h62⟩ := hR6
    unfold rv
    rw [hn6]
    have Hn6 := hid hn6
    clear hn6
    have hX6 := HX.out.below hB6
    have hB60 : Below p0 w w6 := HB5.out.trans (hB6.mono (by omega))
    have hsz6 := hB6.size
    have HB6 := hid hB60
    clear k0 k10 k11 k12 k13 f10 f11 f12 f13 k4 a0 a2' a4 hB6 hB60 Hcall
    have hX7 := hX6.below ((Below.refl _ w6).alloc (Nat.le_refl _) (.cells #[.slice a6 D.n c6, .slice a7 D.n c7, .int .i64 D6.rl, .bool D6.dead] 52))
    have hB7 := HB6.out.alloc (by omega) (.cells #[.slice a6 D.n c6, .slice a7 D.n c7, .int .i64 D6.rl, .bool D6.dead] 52)
    have hy7 := heap_new w6 (.cells #[.slice a6 D.n c6, .slice a7 D.n c7, .int .i64 D6.rl, .bool D6.dead] 52)
    have hR7 : RefAt (w6.alloc (.cells #[.slice a6 D.n c6, .slice a7 D.n c7, .int .i64 D6.rl, .bool D6.dead] 52)) (.agg #[.slice a6 D.n c6, .slice a7 D.n c7, .int .i64 D6.rl, .bool D6.dead]) D6 := (show RefAt w6 _ D6 from ⟨a6, c6, a7, c7, by unfold rv; rw [Hn6.out], h61, h62⟩).below ((Below.refl _ w6).alloc (Nat.le_refl _) _)
    have hs7 : (w6.alloc (.cells #[.slice a6 D.n c6, .slice a7 D.n c7, .int .i64 D6.rl, .bool D6.dead] 52)).heap.size = w6.heap.size + 1 := by simp
    go_upto_region 26 with fail
    change Code.wp _ _ _ _ (w6.alloc (.cells #[.slice a6 D.n c6, .slice a7 D.n c7, .int .i64 D6.rl, .bool D6.dead] 52))
    generalize w6.alloc (.cells #[.slice a6 D.n c6, .slice a7 D.n c7, .int .i64 D6.rl, .bool D6.dead] 52) = w7 at *
    generalize hq7 : w6.heap.size = q7 at *
    have Hq7 := hid hq7
    have hX := hX7
    have k0 := cell_of_block hX.b0 0
    have k10 := cell_of_block hX.b1 0
    have k11 := cell_of_block hX.b1 1
    have k12 := cell_of_block hX.b1 2
    have k13 := cell_of_block hX.b1 3
    have f10 := free_of_block hX.b1 0
    have f11 := free_of_block hX.b1 1
    have f12 := free_of_block hX.b1 2
    have f13 := free_of_block hX.b1 3
    have k4 := cell_of_block hX.b4 0
    obtain ⟨ac, hac, ha0, ha2, ha4⟩ := hX.b2
    have a0 := (cell_of_block hac 0).trans ha0
    have a2' := (cell_of_block hac 2).trans ha2
    have a4 := (cell_of_block hac 4).trans ha4
    simp only [List.getElem?_toArray, List.getElem?_cons_zero, List.getElem?_cons_succ] at k0 k10 k11 k12 k13 k4
    clear hac ha0 ha2 ha4
    have y0 := cell_of_block hy7 0
    have y1 := cell_of_block hy7 1
    have y2 := cell_of_block hy7 2
    have y3 := cell_of_block hy7 3
    simp only [List.getElem?_toArray, List.getElem?_cons_zero, List.getElem?_cons_succ] at y0 y1 y2 y3
    have hD7 : DiskAt w7 B b g D := HD.out.below (by rw [Hp0.out]; exact hB7)
    have Hc := hid (HE6.out w7.drew hD7.drew (by show g < w7.heap.size; omega) hX7.drew)
    have HX7 := hid hX7.drew
    have Hy7 := hid hy7
    have HB7 := hid hB7
    have HR7 := hid hR7
    have HD7 := hid hD7
    clear hX6 hX7 hX hB7 hR7 hD7 hq7 HX HB5 HB6 h61 h62
    have h10 : p1 ≠ p0 := by omega
    have h14 : p1 ≠ p4 := by omega
    have h17 : p1 ≠ q7 := by omega
    go_region_held3 (fun w' => w'.cell? ⟨p0, 0, none⟩ = some (.pointer (some ⟨b, 0, none⟩)) ∧ w'.cell? ⟨p4, 0, none⟩ = some (.int .i64 at2) ∧ w'.cell? ⟨q7, 0, none⟩ = some (.slice a6 D.n c6) ∧ w'.cell? ⟨q7, 1, none⟩ = some (.slice a7 D.n c7) ∧ w'.cell? ⟨q7, 2, none⟩ = some (.int .i64 D6.rl) ∧ w'.cell? ⟨q7, 3, none⟩ = some (.bool D6.dead))
      (first | go_keep | exact ⟨k0, k4, y0, y1, y2, y3⟩ | exact ⟨m0, m4, z0, z1, z2, z3⟩ | exact ⟨cellS (cellS (cellS (cellS m0 (p := ⟨p1, 0, none⟩) h10 _) (p := ⟨p1, 1, none⟩) h10 _) (p := ⟨p1, 2, none⟩) h10 _) (p := ⟨p1, 3, none⟩) h10 _, cellS (cellS (cellS (cellS m4 (p := ⟨p1, 0, none⟩) h14 _) (p := ⟨p1, 1, none⟩) h14 _) (p := ⟨p1, 2, none⟩) h14 _) (p := ⟨p1, 3, none⟩) h14 _, cellS (cellS (cellS (cellS z0 (p := ⟨p1, 0, none⟩) h17 _) (p := ⟨p1, 1, none⟩) h17 _) (p := ⟨p1, 2, none⟩) h17 _) (p := ⟨p1, 3, none⟩) h17 _, cellS (cellS (cellS (cellS z1 (p := ⟨p1, 0, none⟩) h17 _) (p := ⟨p1, 1, none⟩) h17 _) (p := ⟨p1, 2, none⟩) h17 _) (p := ⟨p1, 3, none⟩) h17 _, cellS (cellS (cellS (cellS z2 (p := ⟨p1, 0, none⟩) h17 _) (p := ⟨p1, 1, none⟩) h17 _) (p := ⟨p1, 2, none⟩) h17 _) (p := ⟨p1, 3, none⟩) h17 _, cellS (cellS (cellS (cellS z3 (p := ⟨p1, 0, none⟩) h17 _) (p := ⟨p1, 1, none⟩) h17 _) (p := ⟨p1, 2, none⟩) h17 _) (p := ⟨p1, 3, none⟩) h17 _⟩)
      (first | (go_at_call 31; (with_reducible refine Hc.out.mono ?_); rintro e w8 ⟨rfl, hE8⟩; have hX8 := HX7.out.fr (w' := w8) hE8.2 (by unfold dfoot; omega) (by unfold dfoot; omega) (by unfold dfoot; omega) (by unfold dfoot; omega) (by unfold dfoot; omega); have hy8 := hE8.2.heap (w := w7.drew) Hy7.out (by unfold dfoot; omega); have m0 := cell_of_block hX8.b0 0; have m10 := cell_of_block hX8.b1 0; have m11 := cell_of_block hX8.b1 1; have m12 := cell_of_block hX8.b1 2; have m13 := cell_of_block hX8.b1 3; have g10 := free_of_block hX8.b1 0; have g11 := free_of_block hX8.b1 1; have g12 := free_of_block hX8.b1 2; have g13 := free_of_block hX8.b1 3; have m4 := cell_of_block hX8.b4 0; have z0 := cell_of_block hy8 0; have z1 := cell_of_block hy8 1; have z2 := cell_of_block hy8 2; have z3 := cell_of_block hy8 3; simp only [List.getElem?_toArray, List.getElem?_cons_zero, List.getElem?_cons_succ] at m0 m10 m11 m12 m13 m4 z0 z1 z2 z3; have HX8 := hid hX8; have HE8 := hid hE8; clear hX8 hE8 hy8))
    all_goals
      have hn13 : p1 ≠ p3 := by omega
      have hT := HX8.out.turn rfl hn13 (.slice a6 D.n c6) (.slice a7 D.n c7) (.int .i64 D6.rl) (.bool D6.dead)
      have hR9 := (HR7.out.drew.disk (B := B) (b := b) (g := g) Hn6.out.symm HD7.out.drew HE8.out.2).fr3 hT.2 (fun g' c _ hg' e => by subst e; exact absurd (ty_eq hg' HX8.out.b1) (by decide))
      have hD9 := HE8.out.1.fr hT.2 (by omega) (by omega)
      have hF9 : Fr (dfoot b g) w _ := ((Fr.ofBelow (by rw [Hp0.out]; exact HB7.out) (dfoot b g)).trans (show Fr (dfoot b g) w7 w8 from HE8.out.2.undrew) (fun _ _ h => h)).trans hT.2 (fun k hk e => by subst e; exact absurd hk (by rw [Hp0.out]; omega))
      have hg9 : g < _ := Nat.lt_of_lt_of_le (Nat.lt_of_lt_of_le (show g < w7.drew.heap.size by show g < w7.heap.size; omega) HE8.out.2.size) hT.2.size
      generalize ((((w8.setCell ⟨p1, 0, none⟩ (.slice a6 D.n c6)).setCell ⟨p1, 1, none⟩ (.slice a7 D.n c7)).setCell ⟨p1, 2, none⟩ (.int .i64 D6.rl)).setCell ⟨p1, 3, none⟩ (.bool D6.dead)) = w9 at *
      have HX9 := hid hT.1
      have HD9 := hid hD9
      have HR9 := hid hR9
      have HF9 := hid hF9
      have Hg9 := hid hg9
      have Hn9 := Hn6
      have HDD := hid (rfl : D6.dead = D6.dead)
      have Hb9 : Hid (¬ b = p3 ∧ ¬ g = p3) := hid ⟨by omega, by omega⟩
      clear hT hD9 hR9 hF9 hg9 k0 k10 k11 k12 k13 f10 f11 f12 f13 k4 a0 a2' a4 y0 y1 y2 y3 Hy7 HB7 HD7 HR7 HX7 HX8 HE8 hy7 Hc
      have k0 := cell_of_block HX9.out.b0 0
      have k10 := cell_of_block HX9.out.b1 0
      have k11 := cell_of_block HX9.out.b1 1
      have k12 := cell_of_block HX9.out.b1 2
      have k13 := cell_of_block HX9.out.b1 3
      have k30 := cell_of_block HX9.out.b3 0
      have k31 := cell_of_block HX9.out.b3 1
      have k32 := cell_of_block HX9.out.b3 2
      have k33 := cell_of_block HX9.out.b3 3
      have f30 := free_of_block HX9.out.b3 0
      have f31 := free_of_block HX9.out.b3 1
      have f32 := free_of_block HX9.out.b3 2
      have f33 := free_of_block HX9.out.b3 3
      simp only [List.getElem?_toArray, List.getElem?_cons_zero, List.getElem?_cons_succ] at k0 k10 k11 k12 k13 k30 k31 k32 k33
      go_upto_region 33 with fail
      have hdd := disk_dead_eq w9.drew HD9.out.drew

      have Hc := hid hdd
      have hp03 : p3 ≠ p0 := by omega
      have hp13 : p3 ≠ p1 := by omega
      clear hdd
      go_region_held3 (fun w' => w'.cell? ⟨p0, 0, none⟩ = some (.pointer (some ⟨b, 0, none⟩)) ∧ w'.cell? ⟨p1, 0, none⟩ = some (.slice a6 D.n c6) ∧ w'.cell? ⟨p1, 1, none⟩ = some (.slice a7 D.n c7) ∧ w'.cell? ⟨p1, 2, none⟩ = some (.int .i64 D6.rl) ∧ w'.cell? ⟨p1, 3, none⟩ = some (.bool D6.dead))
        (first | go_keep | exact ⟨k0, k10, k11, k12, k13⟩ | exact ⟨cellS (cellS (cellS (cellS k0 (p := ⟨p3, 0, none⟩) hp03 _) (p := ⟨p3, 1, none⟩) hp03 _) (p := ⟨p3, 2, none⟩) hp03 _) (p := ⟨p3, 3, none⟩) hp03 _, cellS (cellS (cellS (cellS k10 (p := ⟨p3, 0, none⟩) hp13 _) (p := ⟨p3, 1, none⟩) hp13 _) (p := ⟨p3, 2, none⟩) hp13 _) (p := ⟨p3, 3, none⟩) hp13 _, cellS (cellS (cellS (cellS k11 (p := ⟨p3, 0, none⟩) hp13 _) (p := ⟨p3, 1, none⟩) hp13 _) (p := ⟨p3, 2, none⟩) hp13 _) (p := ⟨p3, 3, none⟩) hp13 _, cellS (cellS (cellS (cellS k12 (p := ⟨p3, 0, none⟩) hp13 _) (p := ⟨p3, 1, none⟩) hp13 _) (p := ⟨p3, 2, none⟩) hp13 _) (p := ⟨p3, 3, none⟩) hp13 _, cellS (cellS (cellS (cellS k13 (p := ⟨p3, 0, none⟩) hp13 _) (p := ⟨p3, 1, none⟩) hp13 _) (p := ⟨p3, 2, none⟩) hp13 _) (p := ⟨p3, 3, none⟩) hp13 _⟩)
        (first | (go_at_call 17; (with_reducible refine Hc.out.mono ?_); rintro e wd ⟨rfl, hwd⟩; subst hwd))
      all_goals
        clear m0 m10 m11 m12 m13 g10 g11 g12 g13 m4 z0 z1 z2 z3
        go_wp2_with fail
        have hw := set4 (w := w9) HX9.out.b3 (.slice a6 D.n c6) (.slice a7 D.n c7) (.int .i64 D6.rl) (.bool D6.dead)
        have hF := fr4 (b := p3) (Fr.refl (fun k => k = p3) w9) rfl (.slice a6 D.n c6) (.slice a7 D.n c7) (.int .i64 D6.rl) (.bool D6.dead)
        have hF2 : Fr (dfoot b g) w _ := HF9.out.trans hF (fun k hk e => by subst e; exact absurd hk (by rw [Hp0.out]; omega))
        have hR2 := HR9.out.fr3 hF (fun g' c _ hg' e => by subst e; exact absurd (ty_eq hg' HX9.out.b3) (by decide))
        have hD2 := HD9.out.fr hF Hb9.out.1 Hb9.out.2
        have hg2 := Nat.lt_of_lt_of_le Hg9.out hF.size
        generalize ((((w9.setCell ⟨p3, 0, none⟩ (.slice a6 D.n c6)).setCell ⟨p3, 1, none⟩ (.slice a7 D.n c7)).setCell ⟨p3, 2, none⟩ (.int .i64 D6.rl)).setCell ⟨p3, 3, none⟩ (.bool D6.dead)) = wz at *
        refine bodyPost_ret (v := .tuple #[.pointer (some ⟨b, 0, none⟩), (.agg #[.slice a6 D.n c6, .slice a7 D.n c7, .int .i64 D6.rl, .bool D6.dead]), .bool true]) ?_ rfl ⟨_, _, _, _, rfl, hD2.drew, hg2, hR2.drew, Hn9.out, hF2.drew, .inl ⟨rfl, rfl⟩⟩
        rw [results_tct rfl]
        clear hF hF2 hR2 hD2 hg2 k0 k10 k11 k12 k13 k30 k31 k32 k33 f30 f31 f32 f33
        have n0 := cell_of_block hw 0
        have n1 := cell_of_block hw 1
        have n2 := cell_of_block hw 2
        have n3 := cell_of_block hw 3
        simp only [List.getElem?_toArray, List.getElem?_cons_zero, List.getElem?_cons_succ] at n0 n1 n2 n3
        go_simp
end Go.Proofs.Ytkmbbgnbklklcaa
