/-
  Law 07: SuperTurn.
-/
import Derived.Test.YtkmbbgnbklklcaaDoorSupQ
import Derived.Test.YtkmbbgnbklklcaaDoorL07d
import Derived.Test.YtkmbbgnbklklcaaDoorL07i
import Derived.Test.YtkmbbgnbklklcaaDoorDiskF
namespace Go.Proofs.YtkmbbgnbklklcaaDoor
open Go.RowKit

/-- The document's super in its box. -/
def RefIn (w : World) (X : Nat) (x : Sup) : Prop := w.heap[X]? = some (.cells #[.int .i64 (x.ep : Int), .int .i64 (x.jo : Int), .int .i64 (x.bi : Int), .int .i64 (x.he : Int), .int .i64 (x.ne : Int)] 88 (0, 0))
structure Tri (w wz : World) (X Y O : Nat) (x y o : Sup) : Prop where
  hB : Below w.heap.size w wz
  hX : RefIn wz X x
  hY : RefIn wz Y y
  hO : RefIn wz O o
theorem Tri.below {w wz w' : World} {X Y O : Nat} {x y o : Sup} (h : Tri w wz X Y O x y o) (hB : Below wz.heap.size wz w') : Tri w w' X Y O x y o :=
  ⟨h.hB.trans (hB.mono h.hB.size), (hB.block X (lt_of_block h.hX)).trans h.hX, (hB.block Y (lt_of_block h.hY)).trans h.hY, (hB.block O (lt_of_block h.hO)).trans h.hO⟩
theorem Tri.disk {w wz w' : World} {X Y O B b g : Nat} {D : Dsk} {x y o : Sup} (h : Tri w wz X Y O x y o) (hE : DiskEnd wz B b g D w') (hX : X < b ∧ X < g) (hY : Y < b ∧ Y < g) (hO : O < b ∧ O < g) (hw : w.heap.size ≤ b ∧ w.heap.size ≤ g) : Tri w w' X Y O x y o :=
  ⟨h.hB.trans (hE.2.below h.hB.size (fun k hk e => by rcases e with e | e <;> omega)), hE.2.heap h.hX (by rintro (e | e) <;> omega), hE.2.heap h.hY (by rintro (e | e) <;> omega), hE.2.heap h.hO (by rintro (e | e) <;> omega)⟩

set_option maxRecDepth 100000 in
set_option linter.unusedSimpArgs false in
set_option maxHeartbeats 8000000 in
theorem walkSuperTurn (w : World) (a b c d e a' b' c' d' e' : Int) (z : Int) (a'' b'' c'' d'' e'' : Int) (_hz : (Lit.int .i64 z).wf = true) : Calls Tryd.prog 15 #[.agg #[.int .i64 a, .int .i64 b, .int .i64 c, .int .i64 d, .int .i64 e], .agg #[.int .i64 a', .int .i64 b', .int .i64 c', .int .i64 d', .int .i64 e'], .int .i64 z, .agg #[.int .i64 a'', .int .i64 b'', .int .i64 c'', .int .i64 d'', .int .i64 e'']] w fun e w' => e = .returned (.bool true) ∧ Below w.heap.size w w' := by
  obtain ⟨x0, hx0, hK1⟩ := few7_any a b c d e
  obtain ⟨y0, hy0, hK2⟩ := few7_any a' b' c' d' e'
  obtain ⟨o0, ho0, hK3⟩ := few7_any a'' b'' c'' d'' e''
  obtain ⟨qx, jx, ix, tx, nx⟩ := x0
  obtain ⟨qy, jy, iy, ty, ny⟩ := y0
  obtain ⟨qz, jz, iz, tz, nz⟩ := o0
  dsimp only at hK1 hK2 hK3
  have HK1 := hid hK1
  have HK2 := hid hK2
  have HK3 := hid hK3
  have hB1 : Below w.heap.size w (((w.alloc (.cells #[.int .i64 a, .int .i64 b, .int .i64 c, .int .i64 d, .int .i64 e] 88)).alloc (.cells #[.int .i64 a', .int .i64 b', .int .i64 c', .int .i64 d', .int .i64 e'] 88)).alloc (.cells #[.int .i64 a'', .int .i64 b'', .int .i64 c'', .int .i64 d'', .int .i64 e''] 88)) := (((Below.refl _ w).alloc (Nat.le_refl _) _).alloc (by simp) _).alloc (by simp; omega) _
  have hX1 := heap_old (heap_old (heap_new w (.cells #[.int .i64 a, .int .i64 b, .int .i64 c, .int .i64 d, .int .i64 e] 88)) (.cells #[.int .i64 a', .int .i64 b', .int .i64 c', .int .i64 d', .int .i64 e'] 88)) (.cells #[.int .i64 a'', .int .i64 b'', .int .i64 c'', .int .i64 d'', .int .i64 e''] 88)
  have hY1 := heap_old (heap_newk (w := w.alloc (.cells #[.int .i64 a, .int .i64 b, .int .i64 c, .int .i64 d, .int .i64 e] 88)) (k := w.heap.size + 1) (.cells #[.int .i64 a', .int .i64 b', .int .i64 c', .int .i64 d', .int .i64 e'] 88) (by simp)) (.cells #[.int .i64 a'', .int .i64 b'', .int .i64 c'', .int .i64 d'', .int .i64 e''] 88)
  have hO1 := heap_newk (w := (w.alloc (.cells #[.int .i64 a, .int .i64 b, .int .i64 c, .int .i64 d, .int .i64 e] 88)).alloc (.cells #[.int .i64 a', .int .i64 b', .int .i64 c', .int .i64 d', .int .i64 e'] 88)) (k := w.heap.size + 1 + 1) (.cells #[.int .i64 a'', .int .i64 b'', .int .i64 c'', .int .i64 d'', .int .i64 e''] 88) (by simp)
  clear hK1 hK2 hK3
  go_enter Tryd.func15, Tryd.ntmps15
  go_upto_region 1 with fail
  generalize ((w.alloc (.cells #[.int .i64 a, .int .i64 b, .int .i64 c, .int .i64 d, .int .i64 e] 88)).alloc (.cells #[.int .i64 a', .int .i64 b', .int .i64 c', .int .i64 d', .int .i64 e'] 88)).alloc (.cells #[.int .i64 a'', .int .i64 b'', .int .i64 c'', .int .i64 d'', .int .i64 e''] 88) = w1 at *
  have HB1 := hid hB1
  have HX1 := hid hX1
  have HY1 := hid hY1
  have HO1 := hid hO1
  clear hB1 hX1 hY1 hO1
  go_upto_region 3 with (go_at_call 57; (with_reducible refine (awake07 w1).mono ?_); rintro e2 w2 ⟨rfl, hB2⟩; have HB2 := hid (HB1.out.trans (hB2.mono HB1.out.size)); have hX2 := (hB2.block (w.heap.size) (lt_of_block HX1.out)).trans HX1.out; have hY2 := (hB2.block (w.heap.size + 1) (lt_of_block HY1.out)).trans HY1.out; have hO2 := (hB2.block (w.heap.size + 1 + 1) (lt_of_block HO1.out)).trans HO1.out; have HX2 := hid hX2; have HY2 := hid hY2; have HO2 := hid hO2; clear hB2 hX2 hY2 hO2)
  obtain ⟨k0, k1, k2, k3, k4⟩ := sup_cells' HX2.out
  obtain ⟨l0, l1, l2, l3, l4⟩ := sup_cells' HY2.out
  obtain ⟨m0, m1, m2, m3, m4⟩ := sup_cells' HO2.out
  clear HX1 HY1 HO1 HB1
  have b2 := lt_of_block HO2.out
  apply shared7
  · intro key
    go_region_law (first
      | (go_simp; go_at_call 58; (with_reducible refine (HK1.out w2.drew).mono ?_); rintro e3 w3 ⟨rfl, hB3⟩; have hX3 := ((Below.undrew hB3).block (w.heap.size) (lt_of_block HX2.out)).trans HX2.out; have hY3 := ((Below.undrew hB3).block (w.heap.size + 1) (lt_of_block HY2.out)).trans HY2.out; have hO3 := ((Below.undrew hB3).block (w.heap.size + 1 + 1) (lt_of_block HO2.out)).trans HO2.out; obtain ⟨n0, n1, n2, n3, n4⟩ := sup_cells' hX3; obtain ⟨q0, q1, q2, q3, q4⟩ := sup_cells' hY3; obtain ⟨r0, r1, r2, r3, r4⟩ := sup_cells' hO3; have HX3 := hid hX3; have HY3 := hid hY3; have HO3 := hid hO3; have HB3 := hid (HB2.out.trans ((Below.undrew hB3).mono HB2.out.size)); clear hB3 hX3 hY3 hO3)
      | (go_simp; go_at_call 58; (with_reducible refine (HK2.out w3).mono ?_); rintro e4 w4 ⟨rfl, hB4⟩; have hX4 := (hB4.block (w.heap.size) (lt_of_block HX3.out)).trans HX3.out; have hY4 := (hB4.block (w.heap.size + 1) (lt_of_block HY3.out)).trans HY3.out; have hO4 := (hB4.block (w.heap.size + 1 + 1) (lt_of_block HO3.out)).trans HO3.out; obtain ⟨s0, s1, s2, s3, s4⟩ := sup_cells' hX4; obtain ⟨t0, t1, t2, t3, t4⟩ := sup_cells' hY4; obtain ⟨u0, u1, u2, u3, u4⟩ := sup_cells' hO4; have HX4 := hid hX4; have HY4 := hid hY4; have HO4 := hid hO4; have HB4 := hid (HB3.out.trans (hB4.mono HB3.out.size)); clear hB4 hX4 hY4 hO4)
      | (go_simp; go_at_call 58; (with_reducible refine (HK3.out w4).mono ?_); rintro e5 w5 ⟨rfl, hB5⟩; have hX5 := (hB5.block (w.heap.size) (lt_of_block HX4.out)).trans HX4.out; have hY5 := (hB5.block (w.heap.size + 1) (lt_of_block HY4.out)).trans HY4.out; have hO5 := (hB5.block (w.heap.size + 1 + 1) (lt_of_block HO4.out)).trans HO4.out; obtain ⟨f0, f1, f2, f3, f4⟩ := sup_cells' hX5; obtain ⟨g0, g1, g2, g3, g4⟩ := sup_cells' hY5; obtain ⟨i0, i1, i2, i3, i4⟩ := sup_cells' hO5; obtain ⟨v0, v1, v2, v3, v4⟩ := free_five hX5; obtain ⟨x0, x1, x2, x3, x4⟩ := free_five hY5; obtain ⟨y0, y1, y2, y3, y4⟩ := free_five hO5; have HX5 := hid hX5; have HY5 := hid hY5; have HO5 := hid hO5; have HB5 := hid (HB4.out.trans (hB5.mono HB4.out.size)); clear hB5 hX5 hY5 hO5))
    all_goals
      have hX6 := five_set HX5.out (.int .i64 (qx : Int)) (.int .i64 (jx : Int)) (.int .i64 (ix : Int)) (.int .i64 (tx : Int)) (.int .i64 (nx : Int))
      have hF6 := five_fr (w := w5) (w.heap.size) (.int .i64 (qx : Int)) (.int .i64 (jx : Int)) (.int .i64 (ix : Int)) (.int .i64 (tx : Int)) (.int .i64 (nx : Int))
      have hB6 := HB5.out.trans (hF6.below HB5.out.size (fun k hk e => by omega))
      have hY6 := hF6.heap HY5.out (by omega)
      have hO6 := hF6.heap HO5.out (by omega)
      generalize ((((w5.setCell ⟨w.heap.size, 0, none⟩ (.int .i64 (qx : Int))).setCell ⟨w.heap.size, 1, none⟩ (.int .i64 (jx : Int))).setCell ⟨w.heap.size, 2, none⟩ (.int .i64 (ix : Int))).setCell ⟨w.heap.size, 3, none⟩ (.int .i64 (tx : Int))).setCell ⟨w.heap.size, 4, none⟩ (.int .i64 (nx : Int)) = w6 at *
      have hY7 := five_set hY6 (.int .i64 (qy : Int)) (.int .i64 (jy : Int)) (.int .i64 (iy : Int)) (.int .i64 (ty : Int)) (.int .i64 (ny : Int))
      have hF7 := five_fr (w := w6) (w.heap.size + 1) (.int .i64 (qy : Int)) (.int .i64 (jy : Int)) (.int .i64 (iy : Int)) (.int .i64 (ty : Int)) (.int .i64 (ny : Int))
      have hB7 := hB6.trans (hF7.below hB6.size (fun k hk e => by omega))
      have hX7 := hF7.heap hX6 (by omega)
      have hO7 := hF7.heap hO6 (by omega)
      generalize ((((w6.setCell ⟨w.heap.size + 1, 0, none⟩ (.int .i64 (qy : Int))).setCell ⟨w.heap.size + 1, 1, none⟩ (.int .i64 (jy : Int))).setCell ⟨w.heap.size + 1, 2, none⟩ (.int .i64 (iy : Int))).setCell ⟨w.heap.size + 1, 3, none⟩ (.int .i64 (ty : Int))).setCell ⟨w.heap.size + 1, 4, none⟩ (.int .i64 (ny : Int)) = w7 at *
      have hO8 := five_set hO7 (.int .i64 (qz : Int)) (.int .i64 (jz : Int)) (.int .i64 (iz : Int)) (.int .i64 (tz : Int)) (.int .i64 (nz : Int))
      have hF8 := five_fr (w := w7) (w.heap.size + 1 + 1) (.int .i64 (qz : Int)) (.int .i64 (jz : Int)) (.int .i64 (iz : Int)) (.int .i64 (tz : Int)) (.int .i64 (nz : Int))
      have hB8 := hB7.trans (hF8.below hB7.size (fun k hk e => by omega))
      have hX8 := hF8.heap hX7 (by omega)
      have hY8 := hF8.heap hY7 (by omega)
      generalize ((((w7.setCell ⟨w.heap.size + 1 + 1, 0, none⟩ (.int .i64 (qz : Int))).setCell ⟨w.heap.size + 1 + 1, 1, none⟩ (.int .i64 (jz : Int))).setCell ⟨w.heap.size + 1 + 1, 2, none⟩ (.int .i64 (iz : Int))).setCell ⟨w.heap.size + 1 + 1, 3, none⟩ (.int .i64 (tz : Int))).setCell ⟨w.heap.size + 1 + 1, 4, none⟩ (.int .i64 (nz : Int)) = w8 at *
      clear hX6 hF6 hB6 hY6 hO6 hY7 hF7 hB7 hX7 hO7 hF8 HX3 HY3 HO3 HB3 HX4 HY4 HO4 HB4 HX5 HY5 HO5 HB5
      have hT := And.intro hX8 (And.intro hY8 (And.intro hO8 hB8))
      clear hX8 hY8 hO8 hB8
      revert hT
      revert w8
      exact key.out
  intro w8 hT8
  obtain ⟨hX8, hY8, hO8, hB8⟩ := hT8
  clear k0 k1 k2 k3 k4 l0 l1 l2 l3 l4 m0 m1 m2 m3 m4 HX2 HY2 HO2 HB2
  obtain ⟨m, hm1, hm2⟩ := and_le (qx : Int) 16777215 (by decide)
  change bits .and .i64 (qx : Int) 16777215 = (m : Int) at hm2
  obtain ⟨px, hpx⟩ : ∃ px : Nat, px = 2 + m := ⟨_, rfl⟩
  have hpl : px ≤ 16777217 := by omega
  obtain ⟨py, hpy⟩ : ∃ py : Nat, py = px + 1 := ⟨_, rfl⟩
  obtain ⟨pz, hpz⟩ : ∃ pz : Nat, pz + 1 = px := ⟨px - 1, by omega⟩
  have ax : IntKind.i64.wrap (2 + (m : Int)) = (px : Int) := by rw [IntKind.wrap_i64]; omega
  have ay : IntKind.i64.wrap ((px : Int) + 1) = (py : Int) := by rw [IntKind.wrap_i64]; omega
  have az : IntKind.i64.wrap ((px : Int) - 1) = (pz : Int) := by rw [IntKind.wrap_i64]; omega
  obtain ⟨k0, k1, k2, k3, k4⟩ := sup_cells' hX8
  obtain ⟨l0, l1, l2, l3, l4⟩ := sup_cells' hY8
  obtain ⟨n0, n1, n2, n3, n4⟩ := sup_cells' hO8
  have kf := free_of_block hX8 0
  have lf := free_of_block hY8 0
  have nf := free_of_block hO8 0
  have HX8 := hid hX8
  have HY8 := hid hY8
  have HO8 := hid hO8
  have HB8 := hid hB8
  clear hX8 hY8 hO8 hB8 hpx
  have hXY : w.heap.size ≠ w.heap.size + 1 := by omega
  have hXO : w.heap.size ≠ w.heap.size + 1 + 1 := by omega
  have hYO : w.heap.size + 1 ≠ w.heap.size + 1 + 1 := by omega
  have hYX : w.heap.size + 1 ≠ w.heap.size := by omega
  have hOX : w.heap.size + 1 + 1 ≠ w.heap.size := by omega
  have hOY : w.heap.size + 1 + 1 ≠ w.heap.size + 1 := by omega
  have hwY : w.heap.size ≤ w.heap.size + 1 := by omega
  have hwO : w.heap.size ≤ w.heap.size + 1 + 1 := by omega
  generalize w.heap.size + 1 + 1 = O at *
  generalize w.heap.size + 1 = Y at *
  go_upto_region 5 with fail
  have hF9 : Fr (fun k => k = w.heap.size) w8 (w8.setCell ⟨w.heap.size, 0, none⟩ (.int .i64 (px : Int))) := (Fr.refl (fun k => k = w.heap.size) w8).setCell (p := ⟨w.heap.size, 0, none⟩) (fun _ => rfl) _
  have hX9 : (w8.setCell ⟨w.heap.size, 0, none⟩ (.int .i64 (px : Int))).heap[w.heap.size]? = some (.cells #[.int .i64 (px : Int), .int .i64 (jx : Int), .int .i64 (ix : Int), .int .i64 (tx : Int), .int .i64 (nx : Int)] 88 (0, 0)) := heap_set_same (i := 0) HX8.out _
  have hY9 := hF9.heap HY8.out (fun e => hXY e.symm)
  have hO9 := hF9.heap HO8.out (fun e => hXO e.symm)
  have hB9 := HB8.out.trans (hF9.below HB8.out.size (fun k hk e => by omega))
  generalize w8.setCell ⟨w.heap.size, 0, none⟩ (.int .i64 (px : Int)) = w9 at *
  have HX9 := hid hX9
  have HY9 := hid hY9
  have HO9 := hid hO9
  have HB9 := hid hB9
  have kx := cell_of_block hX9 0
  have ky := cell_of_block hY9 0
  have kz := cell_of_block hO9 0
  have fy := free_of_block hY9 0
  have fz := free_of_block hO9 0
  simp only [List.getElem?_toArray, List.getElem?_cons_zero] at kx ky kz
  clear k0 k1 k2 k3 k4 l0 l1 l2 l3 l4 n0 n1 n2 n3 n4 kf lf nf HX8 HY8 HO8 HB8 hF9 hX9 hY9 hO9 hB9
  go_region_held3 (fun w' => w'.cell? ⟨w.heap.size, 0, none⟩ = some (.int .i64 (px : Int)))
    (first | go_keep | exact kx | exact cellS kx (p := ⟨Y, 0, none⟩) (fun e => hXY e.symm) _ | exact cellS (cellS kx (p := ⟨Y, 0, none⟩) (fun e => hXY e.symm) _) (p := ⟨O, 0, none⟩) (fun e => hXO e.symm) _)
    (fail)
  have ey : ((px : Int) + 1) = (py : Int) := by omega
  have hT10 : Tri w (((w9.setCell ⟨Y, 0, none⟩ (.int .i64 ((px : Int) + 1))).setCell ⟨O, 0, none⟩ (.int .i64 (pz : Int))).drew) w.heap.size Y O ⟨px, jx, ix, tx, nx⟩ ⟨py, jy, iy, ty, ny⟩ ⟨pz, jz, iz, tz, nz⟩ := by
    have hFa : Fr (fun k => k = Y) w9 (w9.setCell ⟨Y, 0, none⟩ (.int .i64 ((px : Int) + 1))) := (Fr.refl (fun k => k = Y) w9).setCell (p := ⟨Y, 0, none⟩) (fun _ => rfl) _
    have hYa : (w9.setCell ⟨Y, 0, none⟩ (.int .i64 ((px : Int) + 1))).heap[Y]? = some (.cells #[.int .i64 ((px : Int) + 1), .int .i64 (jy : Int), .int .i64 (iy : Int), .int .i64 (ty : Int), .int .i64 (ny : Int)] 88 (0, 0)) := heap_set_same (i := 0) HY9.out _
    have hXa := hFa.heap HX9.out hXY
    have hOa := hFa.heap HO9.out hOY
    generalize w9.setCell ⟨Y, 0, none⟩ (.int .i64 ((px : Int) + 1)) = wa at *
    have hFb : Fr (fun k => k = O) wa (wa.setCell ⟨O, 0, none⟩ (.int .i64 (pz : Int))) := (Fr.refl (fun k => k = O) wa).setCell (p := ⟨O, 0, none⟩) (fun _ => rfl) _
    have hOb : (wa.setCell ⟨O, 0, none⟩ (.int .i64 (pz : Int))).heap[O]? = some (.cells #[.int .i64 (pz : Int), .int .i64 (jz : Int), .int .i64 (iz : Int), .int .i64 (tz : Int), .int .i64 (nz : Int)] 88 (0, 0)) := heap_set_same (i := 0) hOa _
    have hXb := hFb.heap hXa hXO
    have hYb := hFb.heap hYa hYO
    have hBa := HB9.out.trans (hFa.below HB9.out.size (fun k hk e => by omega))
    have hBb := hBa.trans (hFb.below hBa.size (fun k hk e => by omega))
    refine ⟨hBb.drew, hXb, ?_, hOb⟩
    show (wa.setCell ⟨O, 0, none⟩ (.int .i64 (pz : Int))).heap[Y]? = some (.cells #[.int .i64 (py : Int), .int .i64 (jy : Int), .int .i64 (iy : Int), .int .i64 (ty : Int), .int .i64 (ny : Int)] 88 (0, 0))
    rw [← ey]
    exact hYb
  generalize ((w9.setCell ⟨Y, 0, none⟩ (.int .i64 ((px : Int) + 1))).setCell ⟨O, 0, none⟩ (.int .i64 (pz : Int))).drew = w10 at *
  have HT10 := hid hT10
  have hsx : (⟨px, jx, ix, tx, nx⟩ : Sup).small := ⟨by show px < _; omega, hx0.jo, hx0.bi, hx0.he, hx0.ne⟩
  have hsy : (⟨py, jy, iy, ty, ny⟩ : Sup).small := ⟨by show py < _; omega, hy0.jo, hy0.bi, hy0.he, hy0.ne⟩
  have hsz : (⟨pz, jz, iz, tz, nz⟩ : Sup).small := ⟨by show pz < _; omega, ho0.jo, ho0.bi, ho0.he, ho0.ne⟩
  have hlO : O < w10.heap.size := lt_of_block hT10.hO
  have hlY : Y < w10.heap.size := lt_of_block hT10.hY
  have hlX : w.heap.size < w10.heap.size := lt_of_block hT10.hX
  have Hpy := hid hpy
  have Hpz := hid hpz
  clear hpy hpz hpl hT10 HX9 HY9 HO9 HB9 kx ky kz fy fz ax ay az ey hx0 hy0 ho0 HK1 HK2 HK3 hm1 hm2
  generalize hcx : supErr px jx ix tx nx 1000 = cx
  generalize hcy : supErr py jy iy ty ny 1000 = cy
  generalize hcz : supErr pz jz iz tz nz 1000 = cz
  have KCx := hid (fun w => rcheck_1000 px jx ix tx nx cx w hsx.jo hsx.he hcx)
  have KCy := hid (fun w => rcheck_1000 py jy iy ty ny cy w hsy.jo hsy.he hcy)
  have KCz := hid (fun w => rcheck_1000 pz jz iz tz nz cz w hsz.jo hsz.he hcz)
  have Hcx := hid hcx
  have Hcy := hid hcy
  have Hcz := hid hcz
  have Hsx := hid hsx
  have Hsy := hid hsy
  have Hsz := hid hsz
  clear hcx hcy hcz hsx hsy hsz
  obtain ⟨k0, k1, k2, k3, k4⟩ := sup_cells' HT10.out.hX
  dsimp only at k0 k1 k2 k3 k4
  by_cases h0x : cx = 0
  case neg =>
    have dc : decide ((cx : Int) = 0) = false := by simp; omega
    have dcb : ((cx : Int) == 0) = false := by simp; omega
    go_wp2_with (first | (go_at_call 60; (with_reducible refine (KCx.out w10).mono ?_); rintro e11 w11 ⟨rfl, hB11⟩; have HT11 := hid (HT10.out.below hB11); have HC11 := hid (hB11); obtain ⟨f0, f1, f2, f3, f4⟩ := sup_cells' HT11.out.hY; dsimp only at f0 f1 f2 f3 f4; clear hB11))
    go_ret
    exact ⟨rfl, HT11.out.hB⟩
  by_cases h0y : cy = 0
  case neg =>
    have dc : decide ((cy : Int) = 0) = false := by simp; omega
    have dcb : ((cy : Int) == 0) = false := by simp; omega
    subst h0x
    go_wp2_with (first | (go_at_call 60; (with_reducible refine (KCx.out w10).mono ?_); rintro e11 w11 ⟨rfl, hB11⟩; have HT11 := hid (HT10.out.below hB11); have HC11 := hid (hB11); obtain ⟨f0, f1, f2, f3, f4⟩ := sup_cells' HT11.out.hY; dsimp only at f0 f1 f2 f3 f4; clear hB11) | (go_at_call 60; (with_reducible refine (KCy.out w11).mono ?_); rintro e12 w12 ⟨rfl, hB12⟩; have HT12 := hid (HT11.out.below hB12); have HC12 := hid (HC11.out.trans (hB12.mono HC11.out.size)); obtain ⟨q0, q1, q2, q3, q4⟩ := sup_cells' HT12.out.hO; dsimp only at q0 q1 q2 q3 q4; clear hB12))
    go_ret
    exact ⟨rfl, HT12.out.hB⟩
  by_cases h0z : cz = 0
  case neg =>
    have dc : decide ((cz : Int) = 0) = false := by simp; omega
    have dcb : ((cz : Int) == 0) = false := by simp; omega
    subst h0x h0y
    go_wp2_with (first | (go_at_call 60; (with_reducible refine (KCx.out w10).mono ?_); rintro e11 w11 ⟨rfl, hB11⟩; have HT11 := hid (HT10.out.below hB11); have HC11 := hid (hB11); obtain ⟨f0, f1, f2, f3, f4⟩ := sup_cells' HT11.out.hY; dsimp only at f0 f1 f2 f3 f4; clear hB11) | (go_at_call 60; (with_reducible refine (KCy.out w11).mono ?_); rintro e12 w12 ⟨rfl, hB12⟩; have HT12 := hid (HT11.out.below hB12); have HC12 := hid (HC11.out.trans (hB12.mono HC11.out.size)); obtain ⟨q0, q1, q2, q3, q4⟩ := sup_cells' HT12.out.hO; dsimp only at q0 q1 q2 q3 q4; clear hB12) | (go_at_call 60; (with_reducible refine (KCz.out w12).mono ?_); rintro e13 w13 ⟨rfl, hB13⟩; have HT13 := hid (HT12.out.below hB13); have HC13 := hid (HC12.out.trans (hB13.mono HC12.out.size)); clear hB13))
    go_ret
    exact ⟨rfl, HT13.out.hB⟩
  subst h0x h0y h0z
  go_upto_region 8 with (first | (go_at_call 60; (with_reducible refine (KCx.out w10).mono ?_); rintro e11 w11 ⟨rfl, hB11⟩; have HT11 := hid (HT10.out.below hB11); have HC11 := hid (hB11); obtain ⟨f0, f1, f2, f3, f4⟩ := sup_cells' HT11.out.hY; dsimp only at f0 f1 f2 f3 f4; clear hB11) | (go_at_call 60; (with_reducible refine (KCy.out w11).mono ?_); rintro e12 w12 ⟨rfl, hB12⟩; have HT12 := hid (HT11.out.below hB12); have HC12 := hid (HC11.out.trans (hB12.mono HC11.out.size)); obtain ⟨q0, q1, q2, q3, q4⟩ := sup_cells' HT12.out.hO; dsimp only at q0 q1 q2 q3 q4; clear hB12) | (go_at_call 60; (with_reducible refine (KCz.out w12).mono ?_); rintro e13 w13 ⟨rfl, hB13⟩; have HT13 := hid (HT12.out.below hB13); have HC13 := hid (HC12.out.trans (hB13.mono HC12.out.size)); clear hB13))
  clear KCx KCy KCz k0 k1 k2 k3 k4 f0 f1 f2 f3 f4 q0 q1 q2 q3 q4
  go_upto_region 9 with (go_at_call 43; (with_reducible refine (new_1000 w13).mono ?_); rintro e14 w14 ⟨rfl, g, hD14, hg14, hB14⟩; have HT14 := hid (HT13.out.below hB14); have HD14 := hid hD14; have Hg14 := hid hg14; clear hB14 hD14 hg14)
  have hs13 : w10.heap.size ≤ w13.heap.size := by have := HC13.out.size; omega
  have hgg : w13.heap.size ≤ g := HD14.out.hg
  have fXd : w.heap.size < w13.heap.size ∧ w.heap.size < g := by omega
  have fYd : Y < w13.heap.size ∧ Y < g := by omega
  have fOd : O < w13.heap.size ∧ O < g := by omega
  have fwd : w.heap.size ≤ w13.heap.size ∧ w.heap.size ≤ g := by omega
  clear hs13 hlO hlY hlX HT10 HT11 HT12 HT13 HC11 HC12 HC13
  generalize w13.heap.size = bd at *
  obtain ⟨hTD, nD1, nD2, nD3, fD1, fD2, fD3⟩ := turn_start (x := ⟨px, jx, ix, tx, nx⟩) (y := ⟨py, jy, iy, ty, ny⟩) (o := ⟨pz, jz, iz, tz, nz⟩) Hpy.out Hpz.out Hcx.out Hcy.out Hcz.out
  have KWz : Hid (∀ w, DiskAt w bd bd g (Dsk.new 1000) → g < w.heap.size → Calls Tryd.prog 61 #[.pointer (some ⟨bd, 0, none⟩), .agg #[.int .u32 (pz : Int), .int .i64 (jz : Int), .int .i64 (iz : Int), .int .i64 (tz : Int), .int .u32 (nz : Int)]] w fun e w' => e = .returned (.int .i64 0) ∧ DiskEnd w bd bd g ((Dsk.new 1000).took ⟨pz, jz, iz, tz, nz⟩) w') := hid (fun w h1 h2 => by have h := lwrite7 ⟨pz, jz, iz, tz, nz⟩ w h1 h2 Hsz.out (fit_new 1000); rw [show (⟨pz, jz, iz, tz, nz⟩ : Sup).err (Dsk.new 1000).n = 0 from Hcz.out] at h; exact h)
  generalize (Dsk.new 1000).took ⟨pz, jz, iz, tz, nz⟩ = D1 at *
  have KWx : Hid (∀ w, DiskAt w bd bd g D1 → g < w.heap.size → Calls Tryd.prog 61 #[.pointer (some ⟨bd, 0, none⟩), .agg #[.int .u32 (px : Int), .int .i64 (jx : Int), .int .i64 (ix : Int), .int .i64 (tx : Int), .int .u32 (nx : Int)]] w fun e w' => e = .returned (.int .i64 0) ∧ DiskEnd w bd bd g (D1.took ⟨px, jx, ix, tx, nx⟩) w') := hid (fun w h1 h2 => by have h := lwrite7 ⟨px, jx, ix, tx, nx⟩ w h1 h2 Hsx.out fD1; rw [show (⟨px, jx, ix, tx, nx⟩ : Sup).err D1.n = 0 from by rw [nD1]; exact Hcx.out] at h; exact h)
  generalize D1.took ⟨px, jx, ix, tx, nx⟩ = D2 at *
  have KSy := hid (fun (w : World) (h : DiskAt w bd bd g D2) (hg : g < w.heap.size) => sync7 w h hg fD2)
  generalize D2.sunk7 = D3 at *
  have KWy : Hid (∀ w, DiskAt w bd bd g D3 → g < w.heap.size → Calls Tryd.prog 61 #[.pointer (some ⟨bd, 0, none⟩), .agg #[.int .u32 (py : Int), .int .i64 (jy : Int), .int .i64 (iy : Int), .int .i64 (ty : Int), .int .u32 (ny : Int)]] w fun e w' => e = .returned (.int .i64 0) ∧ DiskEnd w bd bd g (D3.took ⟨py, jy, iy, ty, ny⟩) w') := hid (fun w h1 h2 => by have h := lwrite7 ⟨py, jy, iy, ty, ny⟩ w h1 h2 Hsy.out fD3; rw [show (⟨py, jy, iy, ty, ny⟩ : Sup).err D3.n = 0 from by rw [nD3]; exact Hcy.out] at h; exact h)
  generalize D3.took ⟨py, jy, iy, ty, ny⟩ = D4 at *
  have KOx := hid (fun w => own7_any px jx ix tx nx w Hsx.out.ep Hsx.out.ne)
  have KOy := hid (fun w => own7_any py jy iy ty ny w Hsy.out.ep Hsy.out.ne)
  have KOz := hid (fun w => own7_any pz jz iz tz nz w Hsz.out.ep Hsz.out.ne)
  have HTD := hid hTD
  clear hTD nD1 nD2 nD3 fD1 fD2 fD3
  obtain ⟨k0, k1, k2, k3, k4⟩ := sup_cells' HT14.out.hO
  dsimp only at k0 k1 k2 k3 k4
  go_upto_region 11 with (first
    | (go_at_call 59; (with_reducible refine (KOz.out w14).mono ?_); rintro e15 w15 ⟨rfl, hB15⟩; have HT15 := hid (HT14.out.below hB15); have HD15 := hid (HD14.out.below hB15); have Hg15 := hid (show g < w15.heap.size by have := hB15.size; have := Hg14.out; omega); clear hB15)
    | (go_at_call 61; (with_reducible refine (KWz.out w15 HD15.out Hg15.out).mono ?_); rintro e16 w16 ⟨rfl, hE16⟩; have HT16 := hid (HT15.out.disk hE16 fXd fYd fOd fwd); have HD16 := hid hE16.1; have Hg16 := hid (show g < w16.heap.size by have := hE16.2.size; have := Hg15.out; omega); obtain ⟨l0, l1, l2, l3, l4⟩ := sup_cells' HT16.out.hX; dsimp only at l0 l1 l2 l3 l4; clear hE16)
    | (go_at_call 59; (with_reducible refine (KOx.out w16).mono ?_); rintro e17 w17 ⟨rfl, hB17⟩; have HT17 := hid (HT16.out.below hB17); have HD17 := hid (HD16.out.below hB17); have Hg17 := hid (show g < w17.heap.size by have := hB17.size; have := Hg16.out; omega); clear hB17)
    | (go_at_call 61; (with_reducible refine (KWx.out w17 HD17.out Hg17.out).mono ?_); rintro e18 w18 ⟨rfl, hE18⟩; have HT18 := hid (HT17.out.disk hE18 fXd fYd fOd fwd); have HD18 := hid hE18.1; have Hg18 := hid (show g < w18.heap.size by have := hE18.2.size; have := Hg17.out; omega); clear hE18)
    | (go_at_call 55; (with_reducible refine (KSy.out w18 HD18.out Hg18.out).mono ?_); rintro e19 w19 ⟨rfl, hE19⟩; have HT19 := hid (HT18.out.disk hE19 fXd fYd fOd fwd); have HD19 := hid hE19.1; have Hg19 := hid (show g < w19.heap.size by have := hE19.2.size; have := Hg18.out; omega); obtain ⟨m0, m1, m2, m3, m4⟩ := sup_cells' HT19.out.hY; dsimp only at m0 m1 m2 m3 m4; clear hE19)
    | (go_at_call 59; (with_reducible refine (KOy.out w19).mono ?_); rintro e20 w20 ⟨rfl, hB20⟩; have HT20 := hid (HT19.out.below hB20); have HD20 := hid (HD19.out.below hB20); have Hg20 := hid (show g < w20.heap.size by have := hB20.size; have := Hg19.out; omega); clear hB20)
    | (go_at_call 61; (with_reducible refine (KWy.out w20 HD20.out Hg20.out).mono ?_); rintro e21 w21 ⟨rfl, hE21⟩; have HT21 := hid (HT20.out.disk hE21 fXd fYd fOd fwd); have HD21 := hid hE21.1; have Hg21 := hid (show g < w21.heap.size by have := hE21.2.size; have := Hg20.out; omega); clear hE21))
  clear k0 k1 k2 k3 k4 l0 l1 l2 l3 l4 m0 m1 m2 m3 m4 KWz KWx KWy KSy KOz HT14 HT15 HT16 HT17 HT18 HT19 HT20 HD14 HD15 HD16 HD17 HD18 HD19 HD20 Hg14 Hg15 Hg16 Hg17 Hg18 Hg19 Hg20
  have hb21 := HD21.out.lt
  have hg21 := Hg21.out
  go_upto_region 12 with (go_at_call 70; (with_reducible refine (disk_clone w21 HD21.out (by rw [HTD.out.n]; decide)).mono ?_); rintro e22 w22 ⟨rfl, gw, hW22, hgw22, hB22⟩; have HT22 := hid (HT21.out.below hB22); have HD22 := hid (HD21.out.below hB22); have HW22 := hid hW22; have Hgw22 := hid hgw22; have hs22 := hB22.size; clear hB22 hW22 hgw22)
  have hgw := HW22.out.hg
  have hwb : ¬ dfoot bd g w21.heap.size := by rintro (h | h) <;> omega
  have hwg : ¬ dfoot bd g gw := by rintro (h | h) <;> omega
  have hcu := cutsNew (w := w22) (b := bd) (g := g) 1 #[.int .i64 z] 3 (fun _ => z) (by omega) (by omega) (by intro k hk; obtain rfl : k = 0 := (by omega); rfl)
  have KCr := hid (disk_crash _ (HD22.out.alloc (.cells #[.int .i64 z] 3)) _ 1 1 _ hcu)
  have hlw : w.heap.size ≤ w21.heap.size := HT21.out.hB.size
  have fXw : w.heap.size < w21.heap.size ∧ w.heap.size < gw := by have h := lt_of_block HT21.out.hX; omega
  have fYw : Y < w21.heap.size ∧ Y < gw := by have h := lt_of_block HT21.out.hY; omega
  have fOw : O < w21.heap.size ∧ O < gw := by have h := lt_of_block HT21.out.hO; omega
  have fww : w.heap.size ≤ w21.heap.size ∧ w.heap.size ≤ gw := by omega
  clear hcu hb21 hg21 hs22 hgw hlw
  generalize w21.heap.size = bw at *
  go_upto_region 13 with (go_at_call 56; (with_reducible refine KCr.out.mono ?_); rintro e24 w24 ⟨rfl, hE24⟩; have HT24 := hid ((HT22.out.below ((Below.refl _ w22).alloc (Nat.le_refl _) _)).disk hE24 fXd fYd fOd fwd); have HD24 := hid hE24.1; have HW24 := hid ((HW22.out.alloc (.cells #[.int .i64 z] 3)).fr hE24.2 hwb hwg); have Hgw24 := hid (show gw < w24.heap.size by have h1 := hE24.2.size; have h2 := Hgw22.out; simp at h1; omega); clear hE24)
  clear KCr HT21 HT22 HD21 HD22 HW22 Hgw22 Hg21 hwb hwg
  have hcr := HTD.out.crash Hsx.out Hsy.out Hsz.out Hpy.out Hpz.out Hcx.out Hcy.out z (fun _ => z) rfl
  have hdead := crash_dead D4 1 (fun _ => z)
  have HSb := hid (HTD.out.sunk Hsx.out Hsy.out Hpy.out Hcy.out (fun _ => 0))
  have hdead2 := crash_dead D4.sunk7 0 (fun _ => 0)
  have hfit4 := HTD.out.fit
  have Hpx0 : Hid (0 < px ∧ 0 < py) := hid (by have h1 := err_ep (x := ⟨px, jx, ix, tx, nx⟩) Hcx.out; have h2 := Hpy.out; change 0 < px at h1; omega)
  generalize D4.crash 1 (fun _ => z) = E at *
  rcases hcr with ⟨hbe, hz64⟩ | hbe
  · have hz1 : decide ((64 : Int) ≤ z) = false := by simp; omega
    have hr := lread7 w24 HD24.out hdead _ hbe
    have hbr : E.bErr = 0 := by unfold Dsk.bErr; rw [hbe]; exact if_neg (by show ¬ px = 0; have := Hpx0.out; omega)
    rw [hbr] at hr
    have KR : Hid (Calls Tryd.prog 63 #[.pointer (some ⟨bd, 0, none⟩)] w24 fun e w' => e = .returned (.tuple #[.agg #[.int .u32 (px : Int), .int .i64 (jx : Int), .int .i64 (ix : Int), .int .i64 (tx : Int), .int .u32 (nx : Int)], .int .i64 0]) ∧ Below w24.heap.size w24 w') := hid hr
    clear hr hbr hbe
    go_upto_region 14 with (go_at_call 63; (with_reducible refine KR.out.mono ?_); rintro e25 w25 ⟨rfl, hB25⟩; have HT25 := hid (HT24.out.below hB25); have HW25 := hid (HW24.out.below hB25); have Hgw25 := hid (show gw < w25.heap.size by have := hB25.size; have := Hgw24.out; omega); clear hB25)
    have hM26 := heap_new w25 (sup5 px jx ix tx nx)
    have HT26 := hid (HT25.out.below ((Below.refl _ w25).alloc (Nat.le_refl _) (sup5 px jx ix tx nx)))
    have HW26 := hid (HW25.out.alloc (sup5 px jx ix tx nx))
    have Hgw26 := hid (show gw < (w25.alloc (sup5 px jx ix tx nx)).heap.size by have := Hgw25.out; simp; omega)
    generalize w25.alloc (sup5 px jx ix tx nx) = w26 at *
    generalize w25.heap.size = M at *
    have HM26 := hid hM26
    obtain ⟨m0, m1, m2, m3, m4⟩ := sup_cells' hM26
    obtain ⟨k0, k1, k2, k3, k4⟩ := sup_cells' HT26.out.hX
    obtain ⟨l0, l1, l2, l3, l4⟩ := sup_cells' HT26.out.hY
    dsimp only at k0 k1 k2 k3 k4 l0 l1 l2 l3 l4
    clear hM26 KR HT24 HD24 HW24 Hgw24 HT25 HW25 Hgw25
    refine wp_region_held_drew (S := fun w' => w'.cell? ⟨M, 0, none⟩ = some (.int .u32 (px : Int)) ∧ w'.cell? ⟨M, 1, none⟩ = some (.int .i64 (jx : Int)) ∧ w'.cell? ⟨M, 2, none⟩ = some (.int .i64 (ix : Int)) ∧ w'.cell? ⟨M, 3, none⟩ = some (.int .i64 (tx : Int)) ∧ w'.cell? ⟨M, 4, none⟩ = some (.int .u32 (nx : Int)) ∧ w'.cell? ⟨w.heap.size, 0, none⟩ = some (.int .i64 (px : Int)) ∧ w'.cell? ⟨w.heap.size, 1, none⟩ = some (.int .i64 (jx : Int)) ∧ w'.cell? ⟨w.heap.size, 2, none⟩ = some (.int .i64 (ix : Int)) ∧ w'.cell? ⟨w.heap.size, 3, none⟩ = some (.int .i64 (tx : Int)) ∧ w'.cell? ⟨w.heap.size, 4, none⟩ = some (.int .i64 (nx : Int)) ∧ w'.cell? ⟨Y, 0, none⟩ = some (.int .i64 (py : Int)) ∧ w'.cell? ⟨Y, 1, none⟩ = some (.int .i64 (jy : Int)) ∧ w'.cell? ⟨Y, 2, none⟩ = some (.int .i64 (iy : Int)) ∧ w'.cell? ⟨Y, 3, none⟩ = some (.int .i64 (ty : Int)) ∧ w'.cell? ⟨Y, 4, none⟩ = some (.int .i64 (ny : Int))) (by kernel_rfl) ⟨m0, m1, m2, m3, m4, k0, k1, k2, k3, k4, l0, l1, l2, l3, l4⟩ (fun hHeld => ?_)
    refine wpAnyH_take (i := 0) (oi := _) (v := ?_) rfl (by kernel_rfl) (by kernel_rfl) (by kernel_rfl) (fun _ _ _ h => h) (Or.inl ⟨by rfl, ?_⟩) (by assumption) ?_
    rotate_left
    · intro w hSw
      try dsimp only at hSw
      go_simp
      try with_reducible rfl
    try simp only [Act.put, List.setIfInBounds_toArray, List.set_cons_zero, List.set_cons_succ, List.getElem_toArray, List.getElem_cons_zero, List.getElem_cons_succ]
    refine wpAnyH_take (i := 1) (oi := _) (v := .bool false) rfl (by kernel_rfl) (by kernel_rfl) (by kernel_rfl) (fun _ _ _ h => h) (Or.inl ⟨by rfl, ?_⟩) (by assumption) ?_
    · intro w hSw
      try dsimp only at hSw
      go_simp
      try with_reducible rfl
    try simp only [Act.put, List.setIfInBounds_toArray, List.set_cons_zero, List.set_cons_succ, List.getElem_toArray, List.getElem_cons_zero, List.getElem_cons_succ]
    refine wpAnyH_take (i := 2) (oi := _) (v := .bool false) rfl (by kernel_rfl) (by kernel_rfl) (by kernel_rfl) (fun _ _ _ h => h) (Or.inl ⟨by rfl, ?_⟩) (by assumption) ?_
    · intro w hSw
      try dsimp only at hSw
      go_simp
      try with_reducible rfl
    try simp only [Act.put, List.setIfInBounds_toArray, List.set_cons_zero, List.set_cons_succ, List.getElem_toArray, List.getElem_cons_zero, List.getElem_cons_succ]
    refine wpAnyH_take (i := 3) (oi := _) (v := ?_) rfl (by kernel_rfl) (by kernel_rfl) (by kernel_rfl) (fun _ _ _ h => h) (Or.inl ⟨by rfl, ?_⟩) (by assumption) ?_
    rotate_left
    · intro w hSw
      try dsimp only at hSw
      go_simp
      try with_reducible rfl
    try simp only [Act.put, List.setIfInBounds_toArray, List.set_cons_zero, List.set_cons_succ, List.getElem_toArray, List.getElem_cons_zero, List.getElem_cons_succ]
    refine wpAnyH_take (i := 4) (oi := _) (v := ?_) rfl (by kernel_rfl) (by kernel_rfl) (by kernel_rfl) (fun _ _ _ h => h) (Or.inl ⟨by rfl, ?_⟩) (by assumption) ?_
    rotate_left
    · intro w hSw
      try dsimp only at hSw
      go_simp
      try with_reducible rfl
    try simp only [Act.put, List.setIfInBounds_toArray, List.set_cons_zero, List.set_cons_succ, List.getElem_toArray, List.getElem_cons_zero, List.getElem_cons_succ]
    refine wpAnyH_ready (rs := [5]) (by kernel_rfl) (by simp) ?_
    refine AllReadyH.cons (o := _) rfl (fun K hK => ?_) AllReadyH.nil
    go_simp
    go_at_call 59
    (with_reducible refine (KOx.out w26.drew).mono ?_)
    rintro e27 w27 ⟨rfl, hB27⟩
    have HT27 := hid (HT26.out.below (Below.undrew hB27))
    have HW27 := hid (HW26.out.below (Below.undrew hB27))
    have hM27 := ((Below.undrew hB27).block M (lt_of_block HM26.out)).trans HM26.out
    have Hgw27 := hid (show gw < w27.heap.size by have h1 := hB27.size; have h2 := Hgw26.out; exact Nat.lt_of_lt_of_le h2 h1)
    obtain ⟨n0, n1, n2, n3, n4⟩ := sup_cells' hM27
    obtain ⟨q0, q1, q2, q3, q4⟩ := sup_cells' HT27.out.hX
    obtain ⟨r0, r1, r2, r3, r4⟩ := sup_cells' HT27.out.hY
    dsimp only at q0 q1 q2 q3 q4 r0 r1 r2 r3 r4
    have HM27 := hid hM27
    clear hB27 hM27
    try dsimp only
    refine hK.out _ _ ?_ (fun hHeld => ?_)
    · exact ⟨n0, n1, n2, n3, n4, q0, q1, q2, q3, q4, r0, r1, r2, r3, r4⟩
    clear hK K
    try simp only [Act.put, List.setIfInBounds_toArray, List.set_cons_zero, List.set_cons_succ, List.getElem_toArray, List.getElem_cons_zero, List.getElem_cons_succ]
    refine wpAnyH_take (i := 6) (oi := _) (v := .bool false) rfl (by kernel_rfl) (by kernel_rfl) (by kernel_rfl) (fun _ _ _ h => h) (Or.inl ⟨by rfl, ?_⟩) (by assumption) ?_
    · intro w hSw
      try dsimp only at hSw
      go_simp
      try with_reducible rfl
    try simp only [Act.put, List.setIfInBounds_toArray, List.set_cons_zero, List.set_cons_succ, List.getElem_toArray, List.getElem_cons_zero, List.getElem_cons_succ]
    refine wpAnyH_take (i := 7) (oi := _) (v := .bool false) rfl (by kernel_rfl) (by kernel_rfl) (by kernel_rfl) (fun _ _ _ h => h) (Or.inl ⟨by rfl, ?_⟩) (by assumption) ?_
    · intro w hSw
      try dsimp only at hSw
      go_simp
      try with_reducible rfl
    try simp only [Act.put, List.setIfInBounds_toArray, List.set_cons_zero, List.set_cons_succ, List.getElem_toArray, List.getElem_cons_zero, List.getElem_cons_succ]
    refine wpAnyH_take (i := 8) (oi := _) (v := undef) rfl (by kernel_rfl) (by kernel_rfl) (by kernel_rfl) (fun _ _ _ h => h) (Or.inr ⟨by rfl, rfl⟩) (by assumption) ?_
    try simp only [Act.put, List.setIfInBounds_toArray, List.set_cons_zero, List.set_cons_succ, List.getElem_toArray, List.getElem_cons_zero, List.getElem_cons_succ]
    refine wpAnyH_take (i := 9) (oi := _) (v := undef) rfl (by kernel_rfl) (by kernel_rfl) (by kernel_rfl) (fun _ _ _ h => h) (Or.inr ⟨by rfl, rfl⟩) (by assumption) ?_
    try simp only [Act.put, List.setIfInBounds_toArray, List.set_cons_zero, List.set_cons_succ, List.getElem_toArray, List.getElem_cons_zero, List.getElem_cons_succ]
    refine wpAnyH_take (i := 10) (oi := _) (v := undef) rfl (by kernel_rfl) (by kernel_rfl) (by kernel_rfl) (fun _ _ _ h => h) (Or.inr ⟨by rfl, rfl⟩) (by assumption) ?_
    try simp only [Act.put, List.setIfInBounds_toArray, List.set_cons_zero, List.set_cons_succ, List.getElem_toArray, List.getElem_cons_zero, List.getElem_cons_succ]
    refine wpAnyH_take (i := 11) (oi := _) (v := undef) rfl (by kernel_rfl) (by kernel_rfl) (by kernel_rfl) (fun _ _ _ h => h) (Or.inr ⟨by rfl, rfl⟩) (by assumption) ?_
    try simp only [Act.put, List.setIfInBounds_toArray, List.set_cons_zero, List.set_cons_succ, List.getElem_toArray, List.getElem_cons_zero, List.getElem_cons_succ]
    refine wpAnyH_take (i := 12) (oi := _) (v := .bool false) rfl (by kernel_rfl) (by kernel_rfl) (by kernel_rfl) (fun _ _ _ h => h) (Or.inl ⟨by rfl, ?_⟩) (by assumption) ?_
    · intro w hSw
      try dsimp only at hSw
      go_simp
      try with_reducible rfl
    try simp only [Act.put, List.setIfInBounds_toArray, List.set_cons_zero, List.set_cons_succ, List.getElem_toArray, List.getElem_cons_zero, List.getElem_cons_succ]
    refine wpAnyH_take (i := 13) (oi := _) (v := .bool false) rfl (by kernel_rfl) (by kernel_rfl) (by kernel_rfl) (fun _ _ _ h => h) (Or.inl ⟨by rfl, ?_⟩) (by assumption) ?_
    · intro w hSw
      try dsimp only at hSw
      go_simp
      try with_reducible rfl
    try simp only [Act.put, List.setIfInBounds_toArray, List.set_cons_zero, List.set_cons_succ, List.getElem_toArray, List.getElem_cons_zero, List.getElem_cons_succ]
    refine wpAnyH_take (i := 14) (oi := _) (v := .bool false) rfl (by kernel_rfl) (by kernel_rfl) (by kernel_rfl) (fun _ _ _ h => h) (Or.inl ⟨by rfl, ?_⟩) (by assumption) ?_
    · intro w hSw
      try dsimp only at hSw
      go_simp
      try with_reducible rfl
    try simp only [Act.put, List.setIfInBounds_toArray, List.set_cons_zero, List.set_cons_succ, List.getElem_toArray, List.getElem_cons_zero, List.getElem_cons_succ]
    refine wpAnyH_take (i := 15) (oi := _) (v := ?_) rfl (by kernel_rfl) (by kernel_rfl) (by kernel_rfl) (fun _ _ _ h => h) (Or.inl ⟨by rfl, ?_⟩) (by assumption) ?_
    rotate_left
    · intro w hSw
      try dsimp only at hSw
      go_simp
      try with_reducible rfl
    try simp only [Act.put, List.setIfInBounds_toArray, List.set_cons_zero, List.set_cons_succ, List.getElem_toArray, List.getElem_cons_zero, List.getElem_cons_succ]
    refine wpAnyH_take (i := 16) (oi := _) (v := .bool false) rfl (by kernel_rfl) (by kernel_rfl) (by kernel_rfl) (fun _ _ _ h => h) (Or.inl ⟨by rfl, ?_⟩) (by assumption) ?_
    · intro w hSw
      try dsimp only at hSw
      go_simp
      try with_reducible rfl
    try simp only [Act.put, List.setIfInBounds_toArray, List.set_cons_zero, List.set_cons_succ, List.getElem_toArray, List.getElem_cons_zero, List.getElem_cons_succ]
    refine wpAnyH_take (i := 17) (oi := _) (v := .bool false) rfl (by kernel_rfl) (by kernel_rfl) (by kernel_rfl) (fun _ _ _ h => h) (Or.inl ⟨by rfl, ?_⟩) (by assumption) ?_
    · intro w hSw
      try dsimp only at hSw
      go_simp
      try with_reducible rfl
    try simp only [Act.put, List.setIfInBounds_toArray, List.set_cons_zero, List.set_cons_succ, List.getElem_toArray, List.getElem_cons_zero, List.getElem_cons_succ]
    refine wpAnyH_take (i := 18) (oi := _) (v := undef) rfl (by kernel_rfl) (by kernel_rfl) (by kernel_rfl) (fun _ _ _ h => h) (Or.inr ⟨by rfl, rfl⟩) (by assumption) ?_
    try simp only [Act.put, List.setIfInBounds_toArray, List.set_cons_zero, List.set_cons_succ, List.getElem_toArray, List.getElem_cons_zero, List.getElem_cons_succ]
    refine wpAnyH_take (i := 19) (oi := _) (v := undef) rfl (by kernel_rfl) (by kernel_rfl) (by kernel_rfl) (fun _ _ _ h => h) (Or.inr ⟨by rfl, rfl⟩) (by assumption) ?_
    try simp only [Act.put, List.setIfInBounds_toArray, List.set_cons_zero, List.set_cons_succ, List.getElem_toArray, List.getElem_cons_zero, List.getElem_cons_succ]
    refine wpAnyH_take (i := 20) (oi := _) (v := undef) rfl (by kernel_rfl) (by kernel_rfl) (by kernel_rfl) (fun _ _ _ h => h) (Or.inr ⟨by rfl, rfl⟩) (by assumption) ?_
    try simp only [Act.put, List.setIfInBounds_toArray, List.set_cons_zero, List.set_cons_succ, List.getElem_toArray, List.getElem_cons_zero, List.getElem_cons_succ]
    refine wpAnyH_take (i := 21) (oi := _) (v := undef) rfl (by kernel_rfl) (by kernel_rfl) (by kernel_rfl) (fun _ _ _ h => h) (Or.inr ⟨by rfl, rfl⟩) (by assumption) ?_
    try simp only [Act.put, List.setIfInBounds_toArray, List.set_cons_zero, List.set_cons_succ, List.getElem_toArray, List.getElem_cons_zero, List.getElem_cons_succ]
    refine wpAnyH_take (i := 22) (oi := _) (v := .bool false) rfl (by kernel_rfl) (by kernel_rfl) (by kernel_rfl) (fun _ _ _ h => h) (Or.inl ⟨by rfl, ?_⟩) (by assumption) ?_
    · intro w hSw
      try dsimp only at hSw
      go_simp
      try with_reducible rfl
    try simp only [Act.put, List.setIfInBounds_toArray, List.set_cons_zero, List.set_cons_succ, List.getElem_toArray, List.getElem_cons_zero, List.getElem_cons_succ]
    refine wpAnyH_take (i := 23) (oi := _) (v := .bool false) rfl (by kernel_rfl) (by kernel_rfl) (by kernel_rfl) (fun _ _ _ h => h) (Or.inl ⟨by rfl, ?_⟩) (by assumption) ?_
    · intro w hSw
      try dsimp only at hSw
      go_simp
      try with_reducible rfl
    try simp only [Act.put, List.setIfInBounds_toArray, List.set_cons_zero, List.set_cons_succ, List.getElem_toArray, List.getElem_cons_zero, List.getElem_cons_succ]
    refine wpAnyH_done (by kernel_rfl) ?_ _
    try clear n0 n1 n2 n3 n4 q0 q1 q2 q3 q4 r0 r1 r2 r3 r4
    try clear s0 s1 s2 s3 s4 t0 t1 t2 t3 t4 u0 u1 u2 u3 u4
    try clear f0 f1 f2 f3 f4 v0 v1 v2 v3 v4 y0 y1 y2 y3 y4
    clear m0 m1 m2 m3 m4 k0 k1 k2 k3 k4 l0 l1 l2 l3 l4
    have KSw := hid (sync7 w27 HW27.out Hgw27.out hfit4)
    go_upto_region 17 with (go_at_call 55; (with_reducible refine KSw.out.mono ?_); rintro e30 w30 ⟨rfl, hE30⟩; have HT30 := hid (HT27.out.disk hE30 fXw fYw fOw fww); have HW30 := hid hE30.1; clear hE30)
    have KCw := hid (disk_crash w30 HW30.out none 0 0 (fun _ => 0) (CutsAt.none _ _ _ _ _))
    go_upto_region 18 with (go_at_call 56; (with_reducible refine KCw.out.mono ?_); rintro e31 w31 ⟨rfl, hE31⟩; have HT31 := hid (HT30.out.disk hE31 fXw fYw fOw fww); have HW31 := hid hE31.1; clear hE31)
    have hr := lread7 w31 HW31.out hdead2 _ HSb.out
    have hbr : (D4.sunk7.crash 0 (fun _ => 0)).bErr = 0 := by unfold Dsk.bErr; rw [HSb.out]; exact if_neg (by show ¬ py = 0; have := Hpx0.out; omega)
    rw [hbr] at hr
    have KR : Hid (Calls Tryd.prog 63 #[.pointer (some ⟨bw, 0, none⟩)] w31 fun e w' => e = .returned (.tuple #[.agg #[.int .u32 (py : Int), .int .i64 (jy : Int), .int .i64 (iy : Int), .int .i64 (ty : Int), .int .u32 (ny : Int)], .int .i64 0]) ∧ Below w31.heap.size w31 w') := hid hr
    clear hr hbr KSw KCw
    go_upto_region 19 with (go_at_call 63; (with_reducible refine KR.out.mono ?_); rintro e32 w32 ⟨rfl, hB32⟩; have HT32 := hid (HT31.out.below hB32); clear hB32)
    have hM33 := heap_new w32 (sup5 py jy iy ty ny)
    have HT33 := hid (HT32.out.below ((Below.refl _ w32).alloc (Nat.le_refl _) (sup5 py jy iy ty ny)))
    generalize w32.alloc (sup5 py jy iy ty ny) = w33 at *
    generalize w32.heap.size = M2 at *
    have HM33 := hid hM33
    obtain ⟨m0, m1, m2, m3, m4⟩ := sup_cells' hM33
    obtain ⟨l0, l1, l2, l3, l4⟩ := sup_cells' HT33.out.hY
    dsimp only at l0 l1 l2 l3 l4
    clear hM33 KR
    go_region_held3 (fun w' => w'.cell? ⟨M2, 0, none⟩ = some (.int .u32 (py : Int)) ∧ w'.cell? ⟨M2, 1, none⟩ = some (.int .i64 (jy : Int)) ∧ w'.cell? ⟨M2, 2, none⟩ = some (.int .i64 (iy : Int)) ∧ w'.cell? ⟨M2, 3, none⟩ = some (.int .i64 (ty : Int)) ∧ w'.cell? ⟨M2, 4, none⟩ = some (.int .u32 (ny : Int)) ∧ w'.cell? ⟨Y, 0, none⟩ = some (.int .i64 (py : Int)) ∧ w'.cell? ⟨Y, 1, none⟩ = some (.int .i64 (jy : Int)) ∧ w'.cell? ⟨Y, 2, none⟩ = some (.int .i64 (iy : Int)) ∧ w'.cell? ⟨Y, 3, none⟩ = some (.int .i64 (ty : Int)) ∧ w'.cell? ⟨Y, 4, none⟩ = some (.int .i64 (ny : Int)))
      (first | go_keep | exact ⟨m0, m1, m2, m3, m4, l0, l1, l2, l3, l4⟩ | exact ⟨n0, n1, n2, n3, n4, q0, q1, q2, q3, q4⟩)
      (first | (go_at_call 59; (with_reducible refine (KOy.out w33.drew).mono ?_); rintro e34 w34 ⟨rfl, hB34⟩; have HT34 := hid (HT33.out.below (Below.undrew hB34)); have hM34 := ((Below.undrew hB34).block M2 (lt_of_block HM33.out)).trans HM33.out; obtain ⟨n0, n1, n2, n3, n4⟩ := sup_cells' hM34; obtain ⟨q0, q1, q2, q3, q4⟩ := sup_cells' HT34.out.hY; dsimp only at q0 q1 q2 q3 q4; clear hB34 hM34))
    go_wp2_with fail
    go_ret
    exact ⟨rfl, HT34.out.hB⟩
  · have hne1 : ¬ py = px := by have := Hpy.out; omega
    have hne2 : ¬ ((py : Int) = (px : Int)) := by have := Hpy.out; omega
    have hne3 : decide ((py : Int) = (px : Int)) = false := decide_eq_false hne2
    have hne4 : ((py : Int) == (px : Int)) = false := beq_false_of_ne hne2
    by_cases hz64 : z < 64
    · have hz1 : decide ((64 : Int) ≤ z) = false := by simp; omega
      have hr := lread7 w24 HD24.out hdead _ hbe
      have hbr : E.bErr = 0 := by unfold Dsk.bErr; rw [hbe]; exact if_neg (by show ¬ py = 0; have := Hpx0.out; omega)
      rw [hbr] at hr
      have KR : Hid (Calls Tryd.prog 63 #[.pointer (some ⟨bd, 0, none⟩)] w24 fun e w' => e = .returned (.tuple #[.agg #[.int .u32 (py : Int), .int .i64 (jy : Int), .int .i64 (iy : Int), .int .i64 (ty : Int), .int .u32 (ny : Int)], .int .i64 0]) ∧ Below w24.heap.size w24 w') := hid hr
      clear hr hbr hbe
      go_upto_region 14 with (go_at_call 63; (with_reducible refine KR.out.mono ?_); rintro e25 w25 ⟨rfl, hB25⟩; have HT25 := hid (HT24.out.below hB25); have HW25 := hid (HW24.out.below hB25); have Hgw25 := hid (show gw < w25.heap.size by have := hB25.size; have := Hgw24.out; omega); clear hB25)
      have hM26 := heap_new w25 (sup5 py jy iy ty ny)
      have HT26 := hid (HT25.out.below ((Below.refl _ w25).alloc (Nat.le_refl _) (sup5 py jy iy ty ny)))
      have HW26 := hid (HW25.out.alloc (sup5 py jy iy ty ny))
      have Hgw26 := hid (show gw < (w25.alloc (sup5 py jy iy ty ny)).heap.size by have := Hgw25.out; simp; omega)
      generalize w25.alloc (sup5 py jy iy ty ny) = w26 at *
      generalize w25.heap.size = M at *
      have HM26 := hid hM26
      obtain ⟨m0, m1, m2, m3, m4⟩ := sup_cells' hM26
      obtain ⟨k0, k1, k2, k3, k4⟩ := sup_cells' HT26.out.hX
      obtain ⟨l0, l1, l2, l3, l4⟩ := sup_cells' HT26.out.hY
      dsimp only at k0 k1 k2 k3 k4 l0 l1 l2 l3 l4
      clear hM26 KR HT24 HD24 HW24 Hgw24 HT25 HW25 Hgw25
      refine wp_region_held_drew (S := fun w' => w'.cell? ⟨M, 0, none⟩ = some (.int .u32 (py : Int)) ∧ w'.cell? ⟨M, 1, none⟩ = some (.int .i64 (jy : Int)) ∧ w'.cell? ⟨M, 2, none⟩ = some (.int .i64 (iy : Int)) ∧ w'.cell? ⟨M, 3, none⟩ = some (.int .i64 (ty : Int)) ∧ w'.cell? ⟨M, 4, none⟩ = some (.int .u32 (ny : Int)) ∧ w'.cell? ⟨w.heap.size, 0, none⟩ = some (.int .i64 (px : Int)) ∧ w'.cell? ⟨w.heap.size, 1, none⟩ = some (.int .i64 (jx : Int)) ∧ w'.cell? ⟨w.heap.size, 2, none⟩ = some (.int .i64 (ix : Int)) ∧ w'.cell? ⟨w.heap.size, 3, none⟩ = some (.int .i64 (tx : Int)) ∧ w'.cell? ⟨w.heap.size, 4, none⟩ = some (.int .i64 (nx : Int)) ∧ w'.cell? ⟨Y, 0, none⟩ = some (.int .i64 (py : Int)) ∧ w'.cell? ⟨Y, 1, none⟩ = some (.int .i64 (jy : Int)) ∧ w'.cell? ⟨Y, 2, none⟩ = some (.int .i64 (iy : Int)) ∧ w'.cell? ⟨Y, 3, none⟩ = some (.int .i64 (ty : Int)) ∧ w'.cell? ⟨Y, 4, none⟩ = some (.int .i64 (ny : Int))) (by kernel_rfl) ⟨m0, m1, m2, m3, m4, k0, k1, k2, k3, k4, l0, l1, l2, l3, l4⟩ (fun hHeld => ?_)
      refine wpAnyH_take (i := 0) (oi := _) (v := ?_) rfl (by kernel_rfl) (by kernel_rfl) (by kernel_rfl) (fun _ _ _ h => h) (Or.inl ⟨by rfl, ?_⟩) (by assumption) ?_
      rotate_left
      · intro w hSw
        try dsimp only at hSw
        go_simp
        try with_reducible rfl
      try simp only [Act.put, List.setIfInBounds_toArray, List.set_cons_zero, List.set_cons_succ, List.getElem_toArray, List.getElem_cons_zero, List.getElem_cons_succ]
      refine wpAnyH_take (i := 1) (oi := _) (v := .bool false) rfl (by kernel_rfl) (by kernel_rfl) (by kernel_rfl) (fun _ _ _ h => h) (Or.inl ⟨by rfl, ?_⟩) (by assumption) ?_
      · intro w hSw
        try dsimp only at hSw
        go_simp
        try with_reducible rfl
      try simp only [Act.put, List.setIfInBounds_toArray, List.set_cons_zero, List.set_cons_succ, List.getElem_toArray, List.getElem_cons_zero, List.getElem_cons_succ]
      refine wpAnyH_take (i := 2) (oi := _) (v := .bool false) rfl (by kernel_rfl) (by kernel_rfl) (by kernel_rfl) (fun _ _ _ h => h) (Or.inl ⟨by rfl, ?_⟩) (by assumption) ?_
      · intro w hSw
        try dsimp only at hSw
        go_simp
        try with_reducible rfl
      try simp only [Act.put, List.setIfInBounds_toArray, List.set_cons_zero, List.set_cons_succ, List.getElem_toArray, List.getElem_cons_zero, List.getElem_cons_succ]
      refine wpAnyH_take (i := 3) (oi := _) (v := ?_) rfl (by kernel_rfl) (by kernel_rfl) (by kernel_rfl) (fun _ _ _ h => h) (Or.inl ⟨by rfl, ?_⟩) (by assumption) ?_
      rotate_left
      · intro w hSw
        try dsimp only at hSw
        go_simp
        try with_reducible rfl
      try simp only [Act.put, List.setIfInBounds_toArray, List.set_cons_zero, List.set_cons_succ, List.getElem_toArray, List.getElem_cons_zero, List.getElem_cons_succ]
      refine wpAnyH_take (i := 4) (oi := _) (v := ?_) rfl (by kernel_rfl) (by kernel_rfl) (by kernel_rfl) (fun _ _ _ h => h) (Or.inl ⟨by rfl, ?_⟩) (by assumption) ?_
      rotate_left
      · intro w hSw
        try dsimp only at hSw
        go_simp
        try with_reducible rfl
      try simp only [Act.put, List.setIfInBounds_toArray, List.set_cons_zero, List.set_cons_succ, List.getElem_toArray, List.getElem_cons_zero, List.getElem_cons_succ]
      refine wpAnyH_ready (rs := [5]) (by kernel_rfl) (by simp) ?_
      refine AllReadyH.cons (o := _) rfl (fun K hK => ?_) AllReadyH.nil
      go_simp
      go_at_call 59
      (with_reducible refine (KOx.out w26.drew).mono ?_)
      rintro e27 w27 ⟨rfl, hB27⟩
      have HT27 := hid (HT26.out.below (Below.undrew hB27))
      have HW27 := hid (HW26.out.below (Below.undrew hB27))
      have hM27 := ((Below.undrew hB27).block M (lt_of_block HM26.out)).trans HM26.out
      have Hgw27 := hid (show gw < w27.heap.size by have h1 := hB27.size; have h2 := Hgw26.out; exact Nat.lt_of_lt_of_le h2 h1)
      obtain ⟨n0, n1, n2, n3, n4⟩ := sup_cells' hM27
      obtain ⟨q0, q1, q2, q3, q4⟩ := sup_cells' HT27.out.hX
      obtain ⟨r0, r1, r2, r3, r4⟩ := sup_cells' HT27.out.hY
      dsimp only at q0 q1 q2 q3 q4 r0 r1 r2 r3 r4
      have HM27 := hid hM27
      clear hB27 hM27
      try dsimp only
      refine hK.out _ _ ?_ (fun hHeld => ?_)
      · exact ⟨n0, n1, n2, n3, n4, q0, q1, q2, q3, q4, r0, r1, r2, r3, r4⟩
      clear hK K
      try simp only [Act.put, List.setIfInBounds_toArray, List.set_cons_zero, List.set_cons_succ, List.getElem_toArray, List.getElem_cons_zero, List.getElem_cons_succ]
      refine wpAnyH_take (i := 6) (oi := _) (v := .bool true) rfl (by kernel_rfl) (by kernel_rfl) (by kernel_rfl) (fun _ _ _ h => h) (Or.inl ⟨by rfl, ?_⟩) (by assumption) ?_
      · intro w hSw
        try dsimp only at hSw
        go_simp
        try with_reducible rfl
      try simp only [Act.put, List.setIfInBounds_toArray, List.set_cons_zero, List.set_cons_succ, List.getElem_toArray, List.getElem_cons_zero, List.getElem_cons_succ]
      refine wpAnyH_take (i := 7) (oi := _) (v := .bool true) rfl (by kernel_rfl) (by kernel_rfl) (by kernel_rfl) (fun _ _ _ h => h) (Or.inl ⟨by rfl, ?_⟩) (by assumption) ?_
      · intro w hSw
        try dsimp only at hSw
        go_simp
        try with_reducible rfl
      try simp only [Act.put, List.setIfInBounds_toArray, List.set_cons_zero, List.set_cons_succ, List.getElem_toArray, List.getElem_cons_zero, List.getElem_cons_succ]
      refine wpAnyH_take (i := 8) (oi := _) (v := ?_) rfl (by kernel_rfl) (by kernel_rfl) (by kernel_rfl) (fun _ _ _ h => h) (Or.inl ⟨by rfl, ?_⟩) (by assumption) ?_
      rotate_left
      · intro w hSw
        try dsimp only at hSw
        go_simp
        try with_reducible rfl
      try simp only [Act.put, List.setIfInBounds_toArray, List.set_cons_zero, List.set_cons_succ, List.getElem_toArray, List.getElem_cons_zero, List.getElem_cons_succ]
      refine wpAnyH_take (i := 9) (oi := _) (v := ?_) rfl (by kernel_rfl) (by kernel_rfl) (by kernel_rfl) (fun _ _ _ h => h) (Or.inl ⟨by rfl, ?_⟩) (by assumption) ?_
      rotate_left
      · intro w hSw
        try dsimp only at hSw
        go_simp
        try with_reducible rfl
      try simp only [Act.put, List.setIfInBounds_toArray, List.set_cons_zero, List.set_cons_succ, List.getElem_toArray, List.getElem_cons_zero, List.getElem_cons_succ]
      refine wpAnyH_ready (rs := [10]) (by kernel_rfl) (by simp) ?_
      refine AllReadyH.cons (o := _) rfl (fun K hK => ?_) AllReadyH.nil
      go_simp
      go_at_call 59
      (with_reducible refine (KOy.out w27).mono ?_)
      rintro e28 w28 ⟨rfl, hB28⟩
      have HT28 := hid (HT27.out.below hB28)
      have HW28 := hid (HW27.out.below hB28)
      have hM28 := (hB28.block M (lt_of_block HM27.out)).trans HM27.out
      have Hgw28 := hid (show gw < w28.heap.size by have h1 := hB28.size; have h2 := Hgw27.out; exact Nat.lt_of_lt_of_le h2 h1)
      obtain ⟨s0, s1, s2, s3, s4⟩ := sup_cells' hM28
      obtain ⟨t0, t1, t2, t3, t4⟩ := sup_cells' HT28.out.hX
      obtain ⟨u0, u1, u2, u3, u4⟩ := sup_cells' HT28.out.hY
      dsimp only at t0 t1 t2 t3 t4 u0 u1 u2 u3 u4
      have HM28 := hid hM28
      clear hB28 hM28
      try dsimp only
      refine hK.out _ _ ?_ (fun hHeld => ?_)
      · exact ⟨s0, s1, s2, s3, s4, t0, t1, t2, t3, t4, u0, u1, u2, u3, u4⟩
      clear hK K
      try simp only [Act.put, List.setIfInBounds_toArray, List.set_cons_zero, List.set_cons_succ, List.getElem_toArray, List.getElem_cons_zero, List.getElem_cons_succ]
      refine wpAnyH_take (i := 11) (oi := _) (v := .bool false) rfl (by kernel_rfl) (by kernel_rfl) (by kernel_rfl) (fun _ _ _ h => h) (Or.inl ⟨by rfl, ?_⟩) (by assumption) ?_
      · intro w hSw
        try dsimp only at hSw
        go_simp
        try with_reducible rfl
      try simp only [Act.put, List.setIfInBounds_toArray, List.set_cons_zero, List.set_cons_succ, List.getElem_toArray, List.getElem_cons_zero, List.getElem_cons_succ]
      refine wpAnyH_take (i := 12) (oi := _) (v := .bool false) rfl (by kernel_rfl) (by kernel_rfl) (by kernel_rfl) (fun _ _ _ h => h) (Or.inl ⟨by rfl, ?_⟩) (by assumption) ?_
      · intro w hSw
        try dsimp only at hSw
        go_simp
        try with_reducible rfl
      try simp only [Act.put, List.setIfInBounds_toArray, List.set_cons_zero, List.set_cons_succ, List.getElem_toArray, List.getElem_cons_zero, List.getElem_cons_succ]
      refine wpAnyH_take (i := 13) (oi := _) (v := .bool false) rfl (by kernel_rfl) (by kernel_rfl) (by kernel_rfl) (fun _ _ _ h => h) (Or.inl ⟨by rfl, ?_⟩) (by assumption) ?_
      · intro w hSw
        try dsimp only at hSw
        go_simp
        try with_reducible rfl
      try simp only [Act.put, List.setIfInBounds_toArray, List.set_cons_zero, List.set_cons_succ, List.getElem_toArray, List.getElem_cons_zero, List.getElem_cons_succ]
      refine wpAnyH_take (i := 14) (oi := _) (v := .bool false) rfl (by kernel_rfl) (by kernel_rfl) (by kernel_rfl) (fun _ _ _ h => h) (Or.inl ⟨by rfl, ?_⟩) (by assumption) ?_
      · intro w hSw
        try dsimp only at hSw
        go_simp
        try with_reducible rfl
      try simp only [Act.put, List.setIfInBounds_toArray, List.set_cons_zero, List.set_cons_succ, List.getElem_toArray, List.getElem_cons_zero, List.getElem_cons_succ]
      refine wpAnyH_take (i := 15) (oi := _) (v := ?_) rfl (by kernel_rfl) (by kernel_rfl) (by kernel_rfl) (fun _ _ _ h => h) (Or.inl ⟨by rfl, ?_⟩) (by assumption) ?_
      rotate_left
      · intro w hSw
        try dsimp only at hSw
        go_simp
        try with_reducible rfl
      try simp only [Act.put, List.setIfInBounds_toArray, List.set_cons_zero, List.set_cons_succ, List.getElem_toArray, List.getElem_cons_zero, List.getElem_cons_succ]
      refine wpAnyH_take (i := 16) (oi := _) (v := .bool false) rfl (by kernel_rfl) (by kernel_rfl) (by kernel_rfl) (fun _ _ _ h => h) (Or.inl ⟨by rfl, ?_⟩) (by assumption) ?_
      · intro w hSw
        try dsimp only at hSw
        go_simp
        try with_reducible rfl
      try simp only [Act.put, List.setIfInBounds_toArray, List.set_cons_zero, List.set_cons_succ, List.getElem_toArray, List.getElem_cons_zero, List.getElem_cons_succ]
      refine wpAnyH_take (i := 17) (oi := _) (v := .bool false) rfl (by kernel_rfl) (by kernel_rfl) (by kernel_rfl) (fun _ _ _ h => h) (Or.inl ⟨by rfl, ?_⟩) (by assumption) ?_
      · intro w hSw
        try dsimp only at hSw
        go_simp
        try with_reducible rfl
      try simp only [Act.put, List.setIfInBounds_toArray, List.set_cons_zero, List.set_cons_succ, List.getElem_toArray, List.getElem_cons_zero, List.getElem_cons_succ]
      refine wpAnyH_take (i := 18) (oi := _) (v := undef) rfl (by kernel_rfl) (by kernel_rfl) (by kernel_rfl) (fun _ _ _ h => h) (Or.inr ⟨by rfl, rfl⟩) (by assumption) ?_
      try simp only [Act.put, List.setIfInBounds_toArray, List.set_cons_zero, List.set_cons_succ, List.getElem_toArray, List.getElem_cons_zero, List.getElem_cons_succ]
      refine wpAnyH_take (i := 19) (oi := _) (v := undef) rfl (by kernel_rfl) (by kernel_rfl) (by kernel_rfl) (fun _ _ _ h => h) (Or.inr ⟨by rfl, rfl⟩) (by assumption) ?_
      try simp only [Act.put, List.setIfInBounds_toArray, List.set_cons_zero, List.set_cons_succ, List.getElem_toArray, List.getElem_cons_zero, List.getElem_cons_succ]
      refine wpAnyH_take (i := 20) (oi := _) (v := undef) rfl (by kernel_rfl) (by kernel_rfl) (by kernel_rfl) (fun _ _ _ h => h) (Or.inr ⟨by rfl, rfl⟩) (by assumption) ?_
      try simp only [Act.put, List.setIfInBounds_toArray, List.set_cons_zero, List.set_cons_succ, List.getElem_toArray, List.getElem_cons_zero, List.getElem_cons_succ]
      refine wpAnyH_take (i := 21) (oi := _) (v := undef) rfl (by kernel_rfl) (by kernel_rfl) (by kernel_rfl) (fun _ _ _ h => h) (Or.inr ⟨by rfl, rfl⟩) (by assumption) ?_
      try simp only [Act.put, List.setIfInBounds_toArray, List.set_cons_zero, List.set_cons_succ, List.getElem_toArray, List.getElem_cons_zero, List.getElem_cons_succ]
      refine wpAnyH_take (i := 22) (oi := _) (v := .bool false) rfl (by kernel_rfl) (by kernel_rfl) (by kernel_rfl) (fun _ _ _ h => h) (Or.inl ⟨by rfl, ?_⟩) (by assumption) ?_
      · intro w hSw
        try dsimp only at hSw
        go_simp
        try with_reducible rfl
      try simp only [Act.put, List.setIfInBounds_toArray, List.set_cons_zero, List.set_cons_succ, List.getElem_toArray, List.getElem_cons_zero, List.getElem_cons_succ]
      refine wpAnyH_take (i := 23) (oi := _) (v := .bool false) rfl (by kernel_rfl) (by kernel_rfl) (by kernel_rfl) (fun _ _ _ h => h) (Or.inl ⟨by rfl, ?_⟩) (by assumption) ?_
      · intro w hSw
        try dsimp only at hSw
        go_simp
        try with_reducible rfl
      try simp only [Act.put, List.setIfInBounds_toArray, List.set_cons_zero, List.set_cons_succ, List.getElem_toArray, List.getElem_cons_zero, List.getElem_cons_succ]
      refine wpAnyH_done (by kernel_rfl) ?_ _
      try clear n0 n1 n2 n3 n4 q0 q1 q2 q3 q4 r0 r1 r2 r3 r4
      try clear s0 s1 s2 s3 s4 t0 t1 t2 t3 t4 u0 u1 u2 u3 u4
      try clear f0 f1 f2 f3 f4 v0 v1 v2 v3 v4 y0 y1 y2 y3 y4
      clear m0 m1 m2 m3 m4 k0 k1 k2 k3 k4 l0 l1 l2 l3 l4
      have KSw := hid (sync7 w28 HW28.out Hgw28.out hfit4)
      go_upto_region 17 with (go_at_call 55; (with_reducible refine KSw.out.mono ?_); rintro e30 w30 ⟨rfl, hE30⟩; have HT30 := hid (HT28.out.disk hE30 fXw fYw fOw fww); have HW30 := hid hE30.1; clear hE30)
      have KCw := hid (disk_crash w30 HW30.out none 0 0 (fun _ => 0) (CutsAt.none _ _ _ _ _))
      go_upto_region 18 with (go_at_call 56; (with_reducible refine KCw.out.mono ?_); rintro e31 w31 ⟨rfl, hE31⟩; have HT31 := hid (HT30.out.disk hE31 fXw fYw fOw fww); have HW31 := hid hE31.1; clear hE31)
      have hr := lread7 w31 HW31.out hdead2 _ HSb.out
      have hbr : (D4.sunk7.crash 0 (fun _ => 0)).bErr = 0 := by unfold Dsk.bErr; rw [HSb.out]; exact if_neg (by show ¬ py = 0; have := Hpx0.out; omega)
      rw [hbr] at hr
      have KR : Hid (Calls Tryd.prog 63 #[.pointer (some ⟨bw, 0, none⟩)] w31 fun e w' => e = .returned (.tuple #[.agg #[.int .u32 (py : Int), .int .i64 (jy : Int), .int .i64 (iy : Int), .int .i64 (ty : Int), .int .u32 (ny : Int)], .int .i64 0]) ∧ Below w31.heap.size w31 w') := hid hr
      clear hr hbr KSw KCw
      go_upto_region 19 with (go_at_call 63; (with_reducible refine KR.out.mono ?_); rintro e32 w32 ⟨rfl, hB32⟩; have HT32 := hid (HT31.out.below hB32); clear hB32)
      have hM33 := heap_new w32 (sup5 py jy iy ty ny)
      have HT33 := hid (HT32.out.below ((Below.refl _ w32).alloc (Nat.le_refl _) (sup5 py jy iy ty ny)))
      generalize w32.alloc (sup5 py jy iy ty ny) = w33 at *
      generalize w32.heap.size = M2 at *
      have HM33 := hid hM33
      obtain ⟨m0, m1, m2, m3, m4⟩ := sup_cells' hM33
      obtain ⟨l0, l1, l2, l3, l4⟩ := sup_cells' HT33.out.hY
      dsimp only at l0 l1 l2 l3 l4
      clear hM33 KR
      go_region_held3 (fun w' => w'.cell? ⟨M2, 0, none⟩ = some (.int .u32 (py : Int)) ∧ w'.cell? ⟨M2, 1, none⟩ = some (.int .i64 (jy : Int)) ∧ w'.cell? ⟨M2, 2, none⟩ = some (.int .i64 (iy : Int)) ∧ w'.cell? ⟨M2, 3, none⟩ = some (.int .i64 (ty : Int)) ∧ w'.cell? ⟨M2, 4, none⟩ = some (.int .u32 (ny : Int)) ∧ w'.cell? ⟨Y, 0, none⟩ = some (.int .i64 (py : Int)) ∧ w'.cell? ⟨Y, 1, none⟩ = some (.int .i64 (jy : Int)) ∧ w'.cell? ⟨Y, 2, none⟩ = some (.int .i64 (iy : Int)) ∧ w'.cell? ⟨Y, 3, none⟩ = some (.int .i64 (ty : Int)) ∧ w'.cell? ⟨Y, 4, none⟩ = some (.int .i64 (ny : Int)))
        (first | go_keep | exact ⟨m0, m1, m2, m3, m4, l0, l1, l2, l3, l4⟩ | exact ⟨n0, n1, n2, n3, n4, q0, q1, q2, q3, q4⟩)
        (first | (go_at_call 59; (with_reducible refine (KOy.out w33.drew).mono ?_); rintro e34 w34 ⟨rfl, hB34⟩; have HT34 := hid (HT33.out.below (Below.undrew hB34)); have hM34 := ((Below.undrew hB34).block M2 (lt_of_block HM33.out)).trans HM33.out; obtain ⟨n0, n1, n2, n3, n4⟩ := sup_cells' hM34; obtain ⟨q0, q1, q2, q3, q4⟩ := sup_cells' HT34.out.hY; dsimp only at q0 q1 q2 q3 q4; clear hB34 hM34))
      go_wp2_with fail
      go_ret
      exact ⟨rfl, HT34.out.hB⟩
    · have hz1 : decide ((64 : Int) ≤ z) = true := by simp; omega
      have hr := lread7 w24 HD24.out hdead _ hbe
      have hbr : E.bErr = 0 := by unfold Dsk.bErr; rw [hbe]; exact if_neg (by show ¬ py = 0; have := Hpx0.out; omega)
      rw [hbr] at hr
      have KR : Hid (Calls Tryd.prog 63 #[.pointer (some ⟨bd, 0, none⟩)] w24 fun e w' => e = .returned (.tuple #[.agg #[.int .u32 (py : Int), .int .i64 (jy : Int), .int .i64 (iy : Int), .int .i64 (ty : Int), .int .u32 (ny : Int)], .int .i64 0]) ∧ Below w24.heap.size w24 w') := hid hr
      clear hr hbr hbe
      go_upto_region 14 with (go_at_call 63; (with_reducible refine KR.out.mono ?_); rintro e25 w25 ⟨rfl, hB25⟩; have HT25 := hid (HT24.out.below hB25); have HW25 := hid (HW24.out.below hB25); have Hgw25 := hid (show gw < w25.heap.size by have := hB25.size; have := Hgw24.out; omega); clear hB25)
      have hM26 := heap_new w25 (sup5 py jy iy ty ny)
      have HT26 := hid (HT25.out.below ((Below.refl _ w25).alloc (Nat.le_refl _) (sup5 py jy iy ty ny)))
      have HW26 := hid (HW25.out.alloc (sup5 py jy iy ty ny))
      have Hgw26 := hid (show gw < (w25.alloc (sup5 py jy iy ty ny)).heap.size by have := Hgw25.out; simp; omega)
      generalize w25.alloc (sup5 py jy iy ty ny) = w26 at *
      generalize w25.heap.size = M at *
      have HM26 := hid hM26
      obtain ⟨m0, m1, m2, m3, m4⟩ := sup_cells' hM26
      obtain ⟨k0, k1, k2, k3, k4⟩ := sup_cells' HT26.out.hX
      obtain ⟨l0, l1, l2, l3, l4⟩ := sup_cells' HT26.out.hY
      dsimp only at k0 k1 k2 k3 k4 l0 l1 l2 l3 l4
      clear hM26 KR HT24 HD24 HW24 Hgw24 HT25 HW25 Hgw25
      refine wp_region_held_drew (S := fun w' => w'.cell? ⟨M, 0, none⟩ = some (.int .u32 (py : Int)) ∧ w'.cell? ⟨M, 1, none⟩ = some (.int .i64 (jy : Int)) ∧ w'.cell? ⟨M, 2, none⟩ = some (.int .i64 (iy : Int)) ∧ w'.cell? ⟨M, 3, none⟩ = some (.int .i64 (ty : Int)) ∧ w'.cell? ⟨M, 4, none⟩ = some (.int .u32 (ny : Int)) ∧ w'.cell? ⟨w.heap.size, 0, none⟩ = some (.int .i64 (px : Int)) ∧ w'.cell? ⟨w.heap.size, 1, none⟩ = some (.int .i64 (jx : Int)) ∧ w'.cell? ⟨w.heap.size, 2, none⟩ = some (.int .i64 (ix : Int)) ∧ w'.cell? ⟨w.heap.size, 3, none⟩ = some (.int .i64 (tx : Int)) ∧ w'.cell? ⟨w.heap.size, 4, none⟩ = some (.int .i64 (nx : Int)) ∧ w'.cell? ⟨Y, 0, none⟩ = some (.int .i64 (py : Int)) ∧ w'.cell? ⟨Y, 1, none⟩ = some (.int .i64 (jy : Int)) ∧ w'.cell? ⟨Y, 2, none⟩ = some (.int .i64 (iy : Int)) ∧ w'.cell? ⟨Y, 3, none⟩ = some (.int .i64 (ty : Int)) ∧ w'.cell? ⟨Y, 4, none⟩ = some (.int .i64 (ny : Int))) (by kernel_rfl) ⟨m0, m1, m2, m3, m4, k0, k1, k2, k3, k4, l0, l1, l2, l3, l4⟩ (fun hHeld => ?_)
      refine wpAnyH_take (i := 0) (oi := _) (v := ?_) rfl (by kernel_rfl) (by kernel_rfl) (by kernel_rfl) (fun _ _ _ h => h) (Or.inl ⟨by rfl, ?_⟩) (by assumption) ?_
      rotate_left
      · intro w hSw
        try dsimp only at hSw
        go_simp
        try with_reducible rfl
      try simp only [Act.put, List.setIfInBounds_toArray, List.set_cons_zero, List.set_cons_succ, List.getElem_toArray, List.getElem_cons_zero, List.getElem_cons_succ]
      refine wpAnyH_take (i := 1) (oi := _) (v := .bool false) rfl (by kernel_rfl) (by kernel_rfl) (by kernel_rfl) (fun _ _ _ h => h) (Or.inl ⟨by rfl, ?_⟩) (by assumption) ?_
      · intro w hSw
        try dsimp only at hSw
        go_simp
        try with_reducible rfl
      try simp only [Act.put, List.setIfInBounds_toArray, List.set_cons_zero, List.set_cons_succ, List.getElem_toArray, List.getElem_cons_zero, List.getElem_cons_succ]
      refine wpAnyH_take (i := 2) (oi := _) (v := .bool false) rfl (by kernel_rfl) (by kernel_rfl) (by kernel_rfl) (fun _ _ _ h => h) (Or.inl ⟨by rfl, ?_⟩) (by assumption) ?_
      · intro w hSw
        try dsimp only at hSw
        go_simp
        try with_reducible rfl
      try simp only [Act.put, List.setIfInBounds_toArray, List.set_cons_zero, List.set_cons_succ, List.getElem_toArray, List.getElem_cons_zero, List.getElem_cons_succ]
      refine wpAnyH_take (i := 3) (oi := _) (v := ?_) rfl (by kernel_rfl) (by kernel_rfl) (by kernel_rfl) (fun _ _ _ h => h) (Or.inl ⟨by rfl, ?_⟩) (by assumption) ?_
      rotate_left
      · intro w hSw
        try dsimp only at hSw
        go_simp
        try with_reducible rfl
      try simp only [Act.put, List.setIfInBounds_toArray, List.set_cons_zero, List.set_cons_succ, List.getElem_toArray, List.getElem_cons_zero, List.getElem_cons_succ]
      refine wpAnyH_take (i := 4) (oi := _) (v := ?_) rfl (by kernel_rfl) (by kernel_rfl) (by kernel_rfl) (fun _ _ _ h => h) (Or.inl ⟨by rfl, ?_⟩) (by assumption) ?_
      rotate_left
      · intro w hSw
        try dsimp only at hSw
        go_simp
        try with_reducible rfl
      try simp only [Act.put, List.setIfInBounds_toArray, List.set_cons_zero, List.set_cons_succ, List.getElem_toArray, List.getElem_cons_zero, List.getElem_cons_succ]
      refine wpAnyH_ready (rs := [5]) (by kernel_rfl) (by simp) ?_
      refine AllReadyH.cons (o := _) rfl (fun K hK => ?_) AllReadyH.nil
      go_simp
      go_at_call 59
      (with_reducible refine (KOx.out w26.drew).mono ?_)
      rintro e27 w27 ⟨rfl, hB27⟩
      have HT27 := hid (HT26.out.below (Below.undrew hB27))
      have HW27 := hid (HW26.out.below (Below.undrew hB27))
      have hM27 := ((Below.undrew hB27).block M (lt_of_block HM26.out)).trans HM26.out
      have Hgw27 := hid (show gw < w27.heap.size by have h1 := hB27.size; have h2 := Hgw26.out; exact Nat.lt_of_lt_of_le h2 h1)
      obtain ⟨n0, n1, n2, n3, n4⟩ := sup_cells' hM27
      obtain ⟨q0, q1, q2, q3, q4⟩ := sup_cells' HT27.out.hX
      obtain ⟨r0, r1, r2, r3, r4⟩ := sup_cells' HT27.out.hY
      dsimp only at q0 q1 q2 q3 q4 r0 r1 r2 r3 r4
      have HM27 := hid hM27
      clear hB27 hM27
      try dsimp only
      refine hK.out _ _ ?_ (fun hHeld => ?_)
      · exact ⟨n0, n1, n2, n3, n4, q0, q1, q2, q3, q4, r0, r1, r2, r3, r4⟩
      clear hK K
      try simp only [Act.put, List.setIfInBounds_toArray, List.set_cons_zero, List.set_cons_succ, List.getElem_toArray, List.getElem_cons_zero, List.getElem_cons_succ]
      refine wpAnyH_take (i := 6) (oi := _) (v := .bool true) rfl (by kernel_rfl) (by kernel_rfl) (by kernel_rfl) (fun _ _ _ h => h) (Or.inl ⟨by rfl, ?_⟩) (by assumption) ?_
      · intro w hSw
        try dsimp only at hSw
        go_simp
        try with_reducible rfl
      try simp only [Act.put, List.setIfInBounds_toArray, List.set_cons_zero, List.set_cons_succ, List.getElem_toArray, List.getElem_cons_zero, List.getElem_cons_succ]
      refine wpAnyH_take (i := 7) (oi := _) (v := .bool true) rfl (by kernel_rfl) (by kernel_rfl) (by kernel_rfl) (fun _ _ _ h => h) (Or.inl ⟨by rfl, ?_⟩) (by assumption) ?_
      · intro w hSw
        try dsimp only at hSw
        go_simp
        try with_reducible rfl
      try simp only [Act.put, List.setIfInBounds_toArray, List.set_cons_zero, List.set_cons_succ, List.getElem_toArray, List.getElem_cons_zero, List.getElem_cons_succ]
      refine wpAnyH_take (i := 8) (oi := _) (v := ?_) rfl (by kernel_rfl) (by kernel_rfl) (by kernel_rfl) (fun _ _ _ h => h) (Or.inl ⟨by rfl, ?_⟩) (by assumption) ?_
      rotate_left
      · intro w hSw
        try dsimp only at hSw
        go_simp
        try with_reducible rfl
      try simp only [Act.put, List.setIfInBounds_toArray, List.set_cons_zero, List.set_cons_succ, List.getElem_toArray, List.getElem_cons_zero, List.getElem_cons_succ]
      refine wpAnyH_take (i := 9) (oi := _) (v := ?_) rfl (by kernel_rfl) (by kernel_rfl) (by kernel_rfl) (fun _ _ _ h => h) (Or.inl ⟨by rfl, ?_⟩) (by assumption) ?_
      rotate_left
      · intro w hSw
        try dsimp only at hSw
        go_simp
        try with_reducible rfl
      try simp only [Act.put, List.setIfInBounds_toArray, List.set_cons_zero, List.set_cons_succ, List.getElem_toArray, List.getElem_cons_zero, List.getElem_cons_succ]
      refine wpAnyH_ready (rs := [10]) (by kernel_rfl) (by simp) ?_
      refine AllReadyH.cons (o := _) rfl (fun K hK => ?_) AllReadyH.nil
      go_simp
      go_at_call 59
      (with_reducible refine (KOy.out w27).mono ?_)
      rintro e28 w28 ⟨rfl, hB28⟩
      have HT28 := hid (HT27.out.below hB28)
      have HW28 := hid (HW27.out.below hB28)
      have hM28 := (hB28.block M (lt_of_block HM27.out)).trans HM27.out
      have Hgw28 := hid (show gw < w28.heap.size by have h1 := hB28.size; have h2 := Hgw27.out; exact Nat.lt_of_lt_of_le h2 h1)
      obtain ⟨s0, s1, s2, s3, s4⟩ := sup_cells' hM28
      obtain ⟨t0, t1, t2, t3, t4⟩ := sup_cells' HT28.out.hX
      obtain ⟨u0, u1, u2, u3, u4⟩ := sup_cells' HT28.out.hY
      dsimp only at t0 t1 t2 t3 t4 u0 u1 u2 u3 u4
      have HM28 := hid hM28
      clear hB28 hM28
      try dsimp only
      refine hK.out _ _ ?_ (fun hHeld => ?_)
      · exact ⟨s0, s1, s2, s3, s4, t0, t1, t2, t3, t4, u0, u1, u2, u3, u4⟩
      clear hK K
      try simp only [Act.put, List.setIfInBounds_toArray, List.set_cons_zero, List.set_cons_succ, List.getElem_toArray, List.getElem_cons_zero, List.getElem_cons_succ]
      refine wpAnyH_take (i := 11) (oi := _) (v := .bool false) rfl (by kernel_rfl) (by kernel_rfl) (by kernel_rfl) (fun _ _ _ h => h) (Or.inl ⟨by rfl, ?_⟩) (by assumption) ?_
      · intro w hSw
        try dsimp only at hSw
        go_simp
        try with_reducible rfl
      try simp only [Act.put, List.setIfInBounds_toArray, List.set_cons_zero, List.set_cons_succ, List.getElem_toArray, List.getElem_cons_zero, List.getElem_cons_succ]
      refine wpAnyH_take (i := 12) (oi := _) (v := .bool false) rfl (by kernel_rfl) (by kernel_rfl) (by kernel_rfl) (fun _ _ _ h => h) (Or.inl ⟨by rfl, ?_⟩) (by assumption) ?_
      · intro w hSw
        try dsimp only at hSw
        go_simp
        try with_reducible rfl
      try simp only [Act.put, List.setIfInBounds_toArray, List.set_cons_zero, List.set_cons_succ, List.getElem_toArray, List.getElem_cons_zero, List.getElem_cons_succ]
      refine wpAnyH_take (i := 13) (oi := _) (v := .bool false) rfl (by kernel_rfl) (by kernel_rfl) (by kernel_rfl) (fun _ _ _ h => h) (Or.inl ⟨by rfl, ?_⟩) (by assumption) ?_
      · intro w hSw
        try dsimp only at hSw
        go_simp
        try with_reducible rfl
      try simp only [Act.put, List.setIfInBounds_toArray, List.set_cons_zero, List.set_cons_succ, List.getElem_toArray, List.getElem_cons_zero, List.getElem_cons_succ]
      refine wpAnyH_take (i := 14) (oi := _) (v := .bool false) rfl (by kernel_rfl) (by kernel_rfl) (by kernel_rfl) (fun _ _ _ h => h) (Or.inl ⟨by rfl, ?_⟩) (by assumption) ?_
      · intro w hSw
        try dsimp only at hSw
        go_simp
        try with_reducible rfl
      try simp only [Act.put, List.setIfInBounds_toArray, List.set_cons_zero, List.set_cons_succ, List.getElem_toArray, List.getElem_cons_zero, List.getElem_cons_succ]
      refine wpAnyH_take (i := 15) (oi := _) (v := ?_) rfl (by kernel_rfl) (by kernel_rfl) (by kernel_rfl) (fun _ _ _ h => h) (Or.inl ⟨by rfl, ?_⟩) (by assumption) ?_
      rotate_left
      · intro w hSw
        try dsimp only at hSw
        go_simp
        try with_reducible rfl
      try simp only [Act.put, List.setIfInBounds_toArray, List.set_cons_zero, List.set_cons_succ, List.getElem_toArray, List.getElem_cons_zero, List.getElem_cons_succ]
      refine wpAnyH_take (i := 16) (oi := _) (v := .bool true) rfl (by kernel_rfl) (by kernel_rfl) (by kernel_rfl) (fun _ _ _ h => h) (Or.inl ⟨by rfl, ?_⟩) (by assumption) ?_
      · intro w hSw
        try dsimp only at hSw
        go_simp
        try with_reducible rfl
      try simp only [Act.put, List.setIfInBounds_toArray, List.set_cons_zero, List.set_cons_succ, List.getElem_toArray, List.getElem_cons_zero, List.getElem_cons_succ]
      refine wpAnyH_take (i := 17) (oi := _) (v := .bool true) rfl (by kernel_rfl) (by kernel_rfl) (by kernel_rfl) (fun _ _ _ h => h) (Or.inl ⟨by rfl, ?_⟩) (by assumption) ?_
      · intro w hSw
        try dsimp only at hSw
        go_simp
        try with_reducible rfl
      try simp only [Act.put, List.setIfInBounds_toArray, List.set_cons_zero, List.set_cons_succ, List.getElem_toArray, List.getElem_cons_zero, List.getElem_cons_succ]
      refine wpAnyH_take (i := 18) (oi := _) (v := ?_) rfl (by kernel_rfl) (by kernel_rfl) (by kernel_rfl) (fun _ _ _ h => h) (Or.inl ⟨by rfl, ?_⟩) (by assumption) ?_
      rotate_left
      · intro w hSw
        try dsimp only at hSw
        go_simp
        try with_reducible rfl
      try simp only [Act.put, List.setIfInBounds_toArray, List.set_cons_zero, List.set_cons_succ, List.getElem_toArray, List.getElem_cons_zero, List.getElem_cons_succ]
      refine wpAnyH_take (i := 19) (oi := _) (v := ?_) rfl (by kernel_rfl) (by kernel_rfl) (by kernel_rfl) (fun _ _ _ h => h) (Or.inl ⟨by rfl, ?_⟩) (by assumption) ?_
      rotate_left
      · intro w hSw
        try dsimp only at hSw
        go_simp
        try with_reducible rfl
      try simp only [Act.put, List.setIfInBounds_toArray, List.set_cons_zero, List.set_cons_succ, List.getElem_toArray, List.getElem_cons_zero, List.getElem_cons_succ]
      refine wpAnyH_ready (rs := [20]) (by kernel_rfl) (by simp) ?_
      refine AllReadyH.cons (o := _) rfl (fun K hK => ?_) AllReadyH.nil
      go_simp
      go_at_call 59
      (with_reducible refine (KOy.out w28).mono ?_)
      rintro e29 w29 ⟨rfl, hB29⟩
      have HT29 := hid (HT28.out.below hB29)
      have HW29 := hid (HW28.out.below hB29)
      have hM29 := (hB29.block M (lt_of_block HM28.out)).trans HM28.out
      have Hgw29 := hid (show gw < w29.heap.size by have h1 := hB29.size; have h2 := Hgw28.out; exact Nat.lt_of_lt_of_le h2 h1)
      obtain ⟨f0, f1, f2, f3, f4⟩ := sup_cells' hM29
      obtain ⟨v0, v1, v2, v3, v4⟩ := sup_cells' HT29.out.hX
      obtain ⟨y0, y1, y2, y3, y4⟩ := sup_cells' HT29.out.hY
      dsimp only at v0 v1 v2 v3 v4 y0 y1 y2 y3 y4
      have HM29 := hid hM29
      clear hB29 hM29
      try dsimp only
      refine hK.out _ _ ?_ (fun hHeld => ?_)
      · exact ⟨f0, f1, f2, f3, f4, v0, v1, v2, v3, v4, y0, y1, y2, y3, y4⟩
      clear hK K
      try simp only [Act.put, List.setIfInBounds_toArray, List.set_cons_zero, List.set_cons_succ, List.getElem_toArray, List.getElem_cons_zero, List.getElem_cons_succ]
      refine wpAnyH_take (i := 21) (oi := _) (v := .bool false) rfl (by kernel_rfl) (by kernel_rfl) (by kernel_rfl) (fun _ _ _ h => h) (Or.inl ⟨by rfl, ?_⟩) (by assumption) ?_
      · intro w hSw
        try dsimp only at hSw
        go_simp
        try with_reducible rfl
      try simp only [Act.put, List.setIfInBounds_toArray, List.set_cons_zero, List.set_cons_succ, List.getElem_toArray, List.getElem_cons_zero, List.getElem_cons_succ]
      refine wpAnyH_take (i := 22) (oi := _) (v := .bool false) rfl (by kernel_rfl) (by kernel_rfl) (by kernel_rfl) (fun _ _ _ h => h) (Or.inl ⟨by rfl, ?_⟩) (by assumption) ?_
      · intro w hSw
        try dsimp only at hSw
        go_simp
        try with_reducible rfl
      try simp only [Act.put, List.setIfInBounds_toArray, List.set_cons_zero, List.set_cons_succ, List.getElem_toArray, List.getElem_cons_zero, List.getElem_cons_succ]
      refine wpAnyH_take (i := 23) (oi := _) (v := .bool false) rfl (by kernel_rfl) (by kernel_rfl) (by kernel_rfl) (fun _ _ _ h => h) (Or.inl ⟨by rfl, ?_⟩) (by assumption) ?_
      · intro w hSw
        try dsimp only at hSw
        go_simp
        try with_reducible rfl
      try simp only [Act.put, List.setIfInBounds_toArray, List.set_cons_zero, List.set_cons_succ, List.getElem_toArray, List.getElem_cons_zero, List.getElem_cons_succ]
      refine wpAnyH_done (by kernel_rfl) ?_ _
      try clear n0 n1 n2 n3 n4 q0 q1 q2 q3 q4 r0 r1 r2 r3 r4
      try clear s0 s1 s2 s3 s4 t0 t1 t2 t3 t4 u0 u1 u2 u3 u4
      try clear f0 f1 f2 f3 f4 v0 v1 v2 v3 v4 y0 y1 y2 y3 y4
      clear m0 m1 m2 m3 m4 k0 k1 k2 k3 k4 l0 l1 l2 l3 l4
      have KSw := hid (sync7 w29 HW29.out Hgw29.out hfit4)
      go_upto_region 17 with (go_at_call 55; (with_reducible refine KSw.out.mono ?_); rintro e30 w30 ⟨rfl, hE30⟩; have HT30 := hid (HT29.out.disk hE30 fXw fYw fOw fww); have HW30 := hid hE30.1; clear hE30)
      have KCw := hid (disk_crash w30 HW30.out none 0 0 (fun _ => 0) (CutsAt.none _ _ _ _ _))
      go_upto_region 18 with (go_at_call 56; (with_reducible refine KCw.out.mono ?_); rintro e31 w31 ⟨rfl, hE31⟩; have HT31 := hid (HT30.out.disk hE31 fXw fYw fOw fww); have HW31 := hid hE31.1; clear hE31)
      have hr := lread7 w31 HW31.out hdead2 _ HSb.out
      have hbr : (D4.sunk7.crash 0 (fun _ => 0)).bErr = 0 := by unfold Dsk.bErr; rw [HSb.out]; exact if_neg (by show ¬ py = 0; have := Hpx0.out; omega)
      rw [hbr] at hr
      have KR : Hid (Calls Tryd.prog 63 #[.pointer (some ⟨bw, 0, none⟩)] w31 fun e w' => e = .returned (.tuple #[.agg #[.int .u32 (py : Int), .int .i64 (jy : Int), .int .i64 (iy : Int), .int .i64 (ty : Int), .int .u32 (ny : Int)], .int .i64 0]) ∧ Below w31.heap.size w31 w') := hid hr
      clear hr hbr KSw KCw
      go_upto_region 19 with (go_at_call 63; (with_reducible refine KR.out.mono ?_); rintro e32 w32 ⟨rfl, hB32⟩; have HT32 := hid (HT31.out.below hB32); clear hB32)
      have hM33 := heap_new w32 (sup5 py jy iy ty ny)
      have HT33 := hid (HT32.out.below ((Below.refl _ w32).alloc (Nat.le_refl _) (sup5 py jy iy ty ny)))
      generalize w32.alloc (sup5 py jy iy ty ny) = w33 at *
      generalize w32.heap.size = M2 at *
      have HM33 := hid hM33
      obtain ⟨m0, m1, m2, m3, m4⟩ := sup_cells' hM33
      obtain ⟨l0, l1, l2, l3, l4⟩ := sup_cells' HT33.out.hY
      dsimp only at l0 l1 l2 l3 l4
      clear hM33 KR
      go_region_held3 (fun w' => w'.cell? ⟨M2, 0, none⟩ = some (.int .u32 (py : Int)) ∧ w'.cell? ⟨M2, 1, none⟩ = some (.int .i64 (jy : Int)) ∧ w'.cell? ⟨M2, 2, none⟩ = some (.int .i64 (iy : Int)) ∧ w'.cell? ⟨M2, 3, none⟩ = some (.int .i64 (ty : Int)) ∧ w'.cell? ⟨M2, 4, none⟩ = some (.int .u32 (ny : Int)) ∧ w'.cell? ⟨Y, 0, none⟩ = some (.int .i64 (py : Int)) ∧ w'.cell? ⟨Y, 1, none⟩ = some (.int .i64 (jy : Int)) ∧ w'.cell? ⟨Y, 2, none⟩ = some (.int .i64 (iy : Int)) ∧ w'.cell? ⟨Y, 3, none⟩ = some (.int .i64 (ty : Int)) ∧ w'.cell? ⟨Y, 4, none⟩ = some (.int .i64 (ny : Int)))
        (first | go_keep | exact ⟨m0, m1, m2, m3, m4, l0, l1, l2, l3, l4⟩ | exact ⟨n0, n1, n2, n3, n4, q0, q1, q2, q3, q4⟩)
        (first | (go_at_call 59; (with_reducible refine (KOy.out w33.drew).mono ?_); rintro e34 w34 ⟨rfl, hB34⟩; have HT34 := hid (HT33.out.below (Below.undrew hB34)); have hM34 := ((Below.undrew hB34).block M2 (lt_of_block HM33.out)).trans HM33.out; obtain ⟨n0, n1, n2, n3, n4⟩ := sup_cells' hM34; obtain ⟨q0, q1, q2, q3, q4⟩ := sup_cells' HT34.out.hY; dsimp only at q0 q1 q2 q3 q4; clear hB34 hM34))
      go_wp2_with fail
      go_ret
      exact ⟨rfl, HT34.out.hB⟩
end Go.Proofs.YtkmbbgnbklklcaaDoor
