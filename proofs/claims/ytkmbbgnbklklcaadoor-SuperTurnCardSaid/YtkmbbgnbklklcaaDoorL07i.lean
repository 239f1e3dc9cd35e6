/-
  Law 07: SuperSpoilt.
-/
import Derived.Test.YtkmbbgnbklklcaaDoorL07d
import Derived.Test.YtkmbbgnbklklcaaDoorL07g
import Derived.Test.YtkmbbgnbklklcaaDoorDiskG
namespace Go.Proofs.YtkmbbgnbklklcaaDoor
open Go.RowKit

theorem best_alone {D : Dsk} {p : Nat} (hp : p < 2) (hn : 2 ≤ D.n) (h2 : ∀ i, i < 2 → i ≠ p → D.now i = nul) : D.best = if bearsSup (D.now p) D.n ∧ sEp (D.now p) % 2 = p then refSup (D.now p) else sup0 := by
  rw [Dsk.best_two hn]
  have hz : sup0.ep = 0 := rfl
  have h01 : p = 0 ∨ p = 1 := by omega
  rcases h01 with rfl | rfl
  · rw [pick_no (i := 1) (by rw [h2 1 (by omega) (by omega)]; exact bears_nul _)]
    by_cases h : bearsSup (D.now 0) D.n ∧ sEp (D.now 0) % 2 = 0
    · rw [if_pos h, pick_yes ⟨h.1, h.2, by rw [hz]; exact bears_ep h.1⟩, bears_eq h.1]
    · rw [if_neg h, pick_not fun hh => h ⟨hh.1, hh.2.1⟩]
  · rw [pick_no (i := 0) (by rw [h2 0 (by omega) (by omega)]; exact bears_nul _)]
    by_cases h : bearsSup (D.now 1) D.n ∧ sEp (D.now 1) % 2 = 1
    · rw [if_pos h, pick_yes ⟨h.1, h.2, by rw [hz]; exact bears_ep h.1⟩, bears_eq h.1]
    · rw [if_neg h, pick_not fun hh => h ⟨hh.1, hh.2.1⟩]
theorem enters_sp (a b c d : Value) : Enters 67 #[a, b, c, d] := fun w => by kernel_rfl
/-- The law's boxes beside its disk. -/
structure Spo (w wz : World) (X Y Z P bd g : Nat) (D : Dsk) (ep jo bi he ne : Nat) (by_ : Int) (c : UInt8) : Prop where
  hB : Below w.heap.size w wz
  hX : wz.heap[X]? = some (.cells #[.int .i64 (ep : Int), .int .i64 (jo : Int), .int .i64 (bi : Int), .int .i64 (he : Int), .int .i64 (ne : Int)] 88 (0, 0))
  hY : wz.heap[Y]? = some (.cells #[.int .i64 by_] 3 (0, 0))
  hZ : wz.heap[Z]? = some (.cells #[.int .u8 (c.toNat : Int)] 5 (0, 0))
  hP : wz.heap[P]? = some (.cells #[.pointer (some ⟨bd, 0, none⟩)] 66 (0, 0))
  hD : DiskAt wz bd bd g D
  hg : g < wz.heap.size
  hw : w.heap.size ≤ bd
  fX : ¬ dfoot bd g X
  fY : ¬ dfoot bd g Y
  fZ : ¬ dfoot bd g Z
  fP : ¬ dfoot bd g P
section
variable {w wz w' : World} {X Y Z P bd g : Nat} {D D' : Dsk} {ep jo bi he ne : Nat} {by_ : Int} {c : UInt8}
theorem Spo.below (h : Spo w wz X Y Z P bd g D ep jo bi he ne by_ c) (hB : Below wz.heap.size wz w') : Spo w w' X Y Z P bd g D ep jo bi he ne by_ c :=
  ⟨h.hB.trans (hB.mono h.hB.size), (hB.block X (lt_of_block h.hX)).trans h.hX, (hB.block Y (lt_of_block h.hY)).trans h.hY, (hB.block Z (lt_of_block h.hZ)).trans h.hZ, (hB.block P (lt_of_block h.hP)).trans h.hP, h.hD.below hB, by have := hB.size; have := h.hg; omega, h.hw, h.fX, h.fY, h.fZ, h.fP⟩
theorem Spo.drew (h : Spo w wz X Y Z P bd g D ep jo bi he ne by_ c) : Spo w wz.drew X Y Z P bd g D ep jo bi he ne by_ c := h.below ((Below.refl _ _).drew)
theorem Spo.disk (h : Spo w wz X Y Z P bd g D ep jo bi he ne by_ c) (hE : DiskEnd wz bd bd g D' w') : Spo w w' X Y Z P bd g D' ep jo bi he ne by_ c :=
  ⟨h.hB.trans (hE.2.below h.hB.size (fun k hk e => by have := h.hw; have := h.hD.hg; rcases e with e | e <;> omega)), hE.2.heap h.hX h.fX, hE.2.heap h.hY h.fY, hE.2.heap h.hZ h.fZ, hE.2.heap h.hP h.fP, hE.1, by have := hE.2.size; have := h.hg; omega, h.hw, h.fX, h.fY, h.fZ, h.fP⟩
end
theorem spoil_1 {w wz : World} {X Y Z P bd g : Nat} {D : Dsk} {ep jo bi he ne : Nat} {by_ : Int} {c : UInt8} (k : Nat) (h : Spo w wz X Y Z P bd g D ep jo bi he ne by_ c) (hk : bits .and .i64 by_ 63 = (k : Int)) (hk2 : k < 64) (hn : 2 ≤ D.n) (wc : World) (hB : Below wz.heap.size wz wc) :
    Calls Tryd.prog 67 #[.pointer (some ⟨P, 0, none⟩), .pointer (some ⟨X, 0, none⟩), .pointer (some ⟨Y, 0, none⟩), .pointer (some ⟨Z, 0, none⟩)] wc fun e w' => e = .returned (.tuple #[]) ∧ DiskEnd wc bd bd g (D.bent2 (ep % 2) k c) w' := by
  have h2 := h.below hB
  obtain ⟨k0, k1, k2, k3, k4⟩ := sup_cells' h2.hX
  have c1 := cell_of_one h2.hY
  have c2 := cell_of_one h2.hZ
  have c3 := cell_of_one h2.hP
  have H := hid h2.hD
  obtain ⟨p, hp⟩ : ∃ p : Nat, p = ep % 2 := ⟨_, rfl⟩
  have et : Int.tmod (ep : Int) 2 = (p : Int) := by rw [Int.tmod_eq_emod_of_nonneg (by omega)]; omega
  rw [← hp]
  have hp2 : p < 2 := by omega
  clear h h2 hp
  have K := hid (fun w h => disk_spoil (B := bd) (b := bd) (g := g) (D := D) p k c w h (by omega) hk2)
  go_enter Tryd.func67, Tryd.ntmps67
  go_wp2_with (go_at_call 68; (with_reducible refine (K.out wc H.out).mono ?_); rintro e w1 ⟨rfl, hE⟩; have HE := hid hE; clear hE)
  go_end0
  exact ⟨rfl, HE.out⟩
theorem spoil_g {w wz : World} {X Y Z P bd g : Nat} {D : Dsk} {ep jo bi he ne : Nat} {by_ : Int} {c : UInt8} (k : Nat) (h : Spo w wz X Y Z P bd g D ep jo bi he ne by_ c) (hk : bits .and .i64 by_ 63 = (k : Int)) (hk2 : k < 64) (hn : 2 ≤ D.n) :
    Calls Tryd.prog 19 #[.func (.func 67) #[] #[.pointer (some ⟨P, 0, none⟩), .pointer (some ⟨X, 0, none⟩), .pointer (some ⟨Y, 0, none⟩), .pointer (some ⟨Z, 0, none⟩)]] wz fun e w' => e = .returned (.int .i64 0) ∧ DiskEnd wz bd bd g (D.bent2 (ep % 2) k c) w' := by
  have hg := h.hg
  have hd := h.hD.lt
  refine (guard_fr _ _ wz 0 (dfoot bd g) (fun w' => DiskAt w' bd bd g (D.bent2 (ep % 2) k c)) (enters_sp _ _ _ _) (by rintro (e | e) <;> omega) (fun w1 w2 hs hp hF => hp.fr hF (by omega) (by omega)) ((spoil_1 k h hk hk2 hn _ ((Below.refl _ wz).alloc (Nat.le_refl _) _)).mono ?_)).mono ?_
  · rintro e w' ⟨rfl, hE⟩
    exact ⟨hE.2, hE.1, .inl ⟨_, rfl, rfl⟩⟩
  · rintro e w' ⟨rfl, hF, hD⟩
    exact ⟨rfl, hD, hF⟩
theorem rcheck_1000 (ep jo bi he ne c : Nat) (w : World) (hj : jo < 65536) (hh : he < 65536) (hc : supErr ep jo bi he ne 1000 = c) :
    Calls Tryd.prog 60 #[.agg #[.int .i64 (ep : Int), .int .i64 (jo : Int), .int .i64 (bi : Int), .int .i64 (he : Int), .int .i64 (ne : Int)], .int .i64 1000] w fun e w' => e = .returned (.int .i64 (c : Int)) ∧ Below w.heap.size w w' := by rw [← hc]; exact ref7_check ep jo bi he ne 1000 w hj hh (by decide)
theorem new_1000 (w : World) : Calls Tryd.prog 43 #[.int .i64 1000] w fun e w' => e = .returned (.pointer (some ⟨w.heap.size, 0, none⟩)) ∧ ∃ g, DiskAt w' w.heap.size w.heap.size g (Dsk.new 1000) ∧ g < w'.heap.size ∧ Below w.heap.size w w' := disk_new 1000 1000 w (by decide)

set_option maxRecDepth 100000 in
set_option linter.unusedSimpArgs false in
set_option maxHeartbeats 4000000 in
theorem walkSuperSpoilt (w : World) (a b c d e : Int) (y z : Int) (_hy : (Lit.int .i64 y).wf = true) (hz : (Lit.int .u8 z).wf = true) : Calls Tryd.prog 14 #[.agg #[.int .i64 a, .int .i64 b, .int .i64 c, .int .i64 d, .int .i64 e], .int .i64 y, .int .u8 z] w fun e w' => e = .returned (.bool true) ∧ Below w.heap.size w w' := by
  obtain ⟨x, hx, hK⟩ := few7_any a b c d e
  obtain ⟨ep, jo, bi, he, ne⟩ := x
  dsimp only at hK
  have hj : jo < 65536 := hx.jo
  have hb : bi < 65536 := hx.bi
  have hh : he < 65536 := hx.he
  have hn : ne < 4294967296 := hx.ne
  have hep : ep < 4294967296 := hx.ep
  have HK := hid hK
  obtain ⟨ch, hch⟩ : ∃ ch : UInt8, z = (ch.toNat : Int) := by
    simp [Lit.wf, IntKind.min, IntKind.max, IntKind.signed, IntKind.bits] at hz
    refine ⟨UInt8.ofNat z.toNat, ?_⟩
    rw [UInt8.toNat_ofNat', Nat.mod_eq_of_lt (by omega)]
    omega
  subst hch
  obtain ⟨k, hk1, hk2⟩ := and_le y 63 (by decide)
  change bits .and .i64 y 63 = (k : Int) at hk2
  have Hk := hid hk2
  have hB1 : Below w.heap.size w (((w.alloc (.cells #[.int .i64 a, .int .i64 b, .int .i64 c, .int .i64 d, .int .i64 e] 88)).alloc (.cells #[.int .i64 y] 3)).alloc (.cells #[.int .u8 (ch.toNat : Int)] 5)) := (((Below.refl _ w).alloc (Nat.le_refl _) _).alloc (by simp) _).alloc (by simp; omega) _
  have hX1 := heap_old (heap_old (heap_new w (.cells #[.int .i64 a, .int .i64 b, .int .i64 c, .int .i64 d, .int .i64 e] 88)) (.cells #[.int .i64 y] 3)) (.cells #[.int .u8 (ch.toNat : Int)] 5)
  have hY1 := heap_old (heap_newk (w := w.alloc (.cells #[.int .i64 a, .int .i64 b, .int .i64 c, .int .i64 d, .int .i64 e] 88)) (k := w.heap.size + 1) (.cells #[.int .i64 y] 3) (by simp)) (.cells #[.int .u8 (ch.toNat : Int)] 5)
  have hZ1 := heap_newk (w := (w.alloc (.cells #[.int .i64 a, .int .i64 b, .int .i64 c, .int .i64 d, .int .i64 e] 88)).alloc (.cells #[.int .i64 y] 3)) (k := w.heap.size + 1 + 1) (.cells #[.int .u8 (ch.toNat : Int)] 5) (by simp)
  clear hK hz hk2
  go_enter Tryd.func14, Tryd.ntmps14
  go_upto_region 1 with fail
  generalize ((w.alloc (.cells #[.int .i64 a, .int .i64 b, .int .i64 c, .int .i64 d, .int .i64 e] 88)).alloc (.cells #[.int .i64 y] 3)).alloc (.cells #[.int .u8 (ch.toNat : Int)] 5) = w1 at *
  have HB1 := hid hB1
  have HX1 := hid hX1
  have HY1 := hid hY1
  have HZ1 := hid hZ1
  have hltX := lt_of_block hX1
  have hltY := lt_of_block hY1
  have hltZ := lt_of_block hZ1
  clear hB1 hX1 hY1 hZ1
  go_upto_region 3 with (go_at_call 57; (with_reducible refine (awake07 w1).mono ?_); rintro e2 w2 ⟨rfl, hB2⟩; have HB2 := hid (HB1.out.trans (hB2.mono HB1.out.size)); have HC2 := hid hB2; have hX2 := (hB2.block w.heap.size hltX).trans HX1.out; have HX2 := hid hX2; clear hB2 hX2)
  obtain ⟨k0, k1, k2, k3, k4⟩ := sup_cells' HX2.out
  go_upto_region 4 with (go_at_call 58; (with_reducible refine (HK.out w2).mono ?_); rintro e3 w3 ⟨rfl, hB3⟩; have HB3 := hid (HB2.out.trans (hB3.mono HB2.out.size)); have HC3 := hid (HC2.out.trans (hB3.mono HC2.out.size)); have hX3 := (hB3.block w.heap.size (lt_of_block HX2.out)).trans HX2.out; have HX3 := hid hX3; obtain ⟨l0, l1, l2, l3, l4⟩ := sup_cells' hX3; obtain ⟨g0, g1, g2, g3, g4⟩ := free_five hX3; clear hB3 hX3)
  have hX4 := five_set HX3.out (.int .i64 (ep : Int)) (.int .i64 (jo : Int)) (.int .i64 (bi : Int)) (.int .i64 (he : Int)) (.int .i64 (ne : Int))
  have hF4 := five_fr (w := w3) w.heap.size (.int .i64 (ep : Int)) (.int .i64 (jo : Int)) (.int .i64 (bi : Int)) (.int .i64 (he : Int)) (.int .i64 (ne : Int))
  have hB4 := HB3.out.trans (hF4.below HB3.out.size (fun k hk e => by omega))
  have hY4 := hF4.heap ((HC3.out.block (w.heap.size + 1) hltY).trans HY1.out) (by omega)
  have hZ4 := hF4.heap ((HC3.out.block (w.heap.size + 1 + 1) hltZ).trans HZ1.out) (by omega)
  generalize ((((w3.setCell ⟨w.heap.size, 0, none⟩ (.int .i64 (ep : Int))).setCell ⟨w.heap.size, 1, none⟩ (.int .i64 (jo : Int))).setCell ⟨w.heap.size, 2, none⟩ (.int .i64 (bi : Int))).setCell ⟨w.heap.size, 3, none⟩ (.int .i64 (he : Int))).setCell ⟨w.heap.size, 4, none⟩ (.int .i64 (ne : Int)) = w4 at *
  have HX4 := hid hX4
  have HY4 := hid hY4
  have HZ4 := hid hZ4
  have HB4 := hid hB4
  clear hX4 hY4 hZ4 hB4 hF4 k0 k1 k2 k3 k4 l0 l1 l2 l3 l4 g0 g1 g2 g3 g4 HX3 HB3 HX2 HB2 HX1 HB1 HC2 HC3 HY1 HZ1 hltX hltY hltZ
  obtain ⟨k0, k1, k2, k3, k4⟩ := sup_cells' HX4.out
  generalize hc : supErr ep jo bi he ne 1000 = c9
  have KC := hid (rcheck_1000 ep jo bi he ne c9 w4 hj hh hc)
  have Hc := hid hc
  clear hc
  by_cases h0 : c9 = 0
  case neg =>
    have dc : decide ((c9 : Int) = 0) = false := by simp; omega
    have dcb : ((c9 : Int) == 0) = false := by simp; omega
    clear h0
    go_wp2_with (go_at_call 60; (with_reducible refine KC.out.mono ?_); rintro e5 w5 ⟨rfl, hB5⟩; have HB5 := hid (HB4.out.trans (hB5.mono HB4.out.size)); clear hB5)
    go_ret
    exact ⟨rfl, HB5.out⟩
  subst h0
  have hE0 : (⟨ep, jo, bi, he, ne⟩ : Sup).err (Dsk.new 1000).n = 0 := Hc.out
  clear Hc
  go_upto_region 6 with (go_at_call 60; (with_reducible refine KC.out.mono ?_); rintro e5 w5 ⟨rfl, hB5⟩; have HC5 := hid hB5; clear hB5)
  go_upto_region 7 with (go_at_call 43; (with_reducible refine (new_1000 w5).mono ?_); rintro e6 w6 ⟨rfl, g, hD6, hg6, hB6⟩; have HC6 := hid (HC5.out.trans (hB6.mono HC5.out.size)); have HD6 := hid hD6; have Hg6 := hid hg6; clear hB6 hD6 hg6)
  have hS7 : Spo w (w6.alloc (.cells #[.pointer (some ⟨w5.heap.size, 0, none⟩)] 66)) w.heap.size (w.heap.size + 1) (w.heap.size + 1 + 1) w6.heap.size w5.heap.size g (Dsk.new 1000) ep jo bi he ne y ch := by
    have hs := HC5.out.size
    have hs4 := HB4.out.size
    have hg := HD6.out.hg
    have hg2 := Hg6.out
    have hb2 := HD6.out.lt
    have hZl := lt_of_block HZ4.out
    have hC7 := HC6.out.alloc HC6.out.size (.cells #[.pointer (some ⟨w5.heap.size, 0, none⟩)] 66)
    refine ⟨HB4.out.trans (hC7.mono hs4), (hC7.block _ (lt_of_block HX4.out)).trans HX4.out, (hC7.block _ (lt_of_block HY4.out)).trans HY4.out, (hC7.block _ (lt_of_block HZ4.out)).trans HZ4.out, heap_new w6 _, HD6.out.alloc _, by simp; omega, by omega, ?_, ?_, ?_, ?_⟩ <;> rintro (h | h) <;> omega
  generalize w6.alloc (.cells #[.pointer (some ⟨w5.heap.size, 0, none⟩)] 66) = w7 at *
  generalize w6.heap.size = P at *
  generalize w5.heap.size = bd at *
  generalize w.heap.size + 1 + 1 = Z at *
  generalize w.heap.size + 1 = Y at *
  have HS7 := hid hS7
  clear hS7 HC5 HC6 HD6 Hg6 HX4 HY4 HZ4 HB4 KC k0 k1 k2 k3 k4
  obtain ⟨k0, k1, k2, k3, k4⟩ := sup_cells' HS7.out.hX
  have kp := cell_of_one HS7.out.hP
  have KO := hid (fun w => own7_any ep jo bi he ne w hep hn)
  have KW : Hid (∀ w8, DiskAt w8 bd bd g (Dsk.new 1000) → g < w8.heap.size → Calls Tryd.prog 61 #[.pointer (some ⟨bd, 0, none⟩), .agg #[.int .u32 (ep : Int), .int .i64 (jo : Int), .int .i64 (bi : Int), .int .i64 (he : Int), .int .u32 (ne : Int)]] w8 fun e w' => e = .returned (.int .i64 0) ∧ DiskEnd w8 bd bd g ((Dsk.new 1000).took ⟨ep, jo, bi, he, ne⟩) w') := hid (fun w8 h1 h2 => by have h := lwrite7 ⟨ep, jo, bi, he, ne⟩ w8 h1 h2 hx (fit_new 1000); rw [hE0] at h; exact h)
  have hD9 := took_ok hE0
  have hnn : ((Dsk.new 1000).took ⟨ep, jo, bi, he, ne⟩).n = 1000 := by rw [hD9]; rfl
  have hdd : ((Dsk.new 1000).took ⟨ep, jo, bi, he, ne⟩).dead = false := by rw [hD9]; rfl
  have hother : ∀ i, i ≠ ep % 2 → ((Dsk.new 1000).took ⟨ep, jo, bi, he, ne⟩).now i = nul := fun i hi => by rw [hD9]; exact if_neg hi
  have hlen9 : ((Dsk.new 1000).took ⟨ep, jo, bi, he, ne⟩).now (ep % 2) = (⟨ep, jo, bi, he, ne⟩ : Sup).sec := by rw [hD9]; exact if_pos rfl
  have Hoth := hid hother
  have Hl9 := hid hlen9
  have Hx := hid hx
  clear hD9 hE0 hother hlen9 hx
  generalize (Dsk.new 1000).took ⟨ep, jo, bi, he, ne⟩ = D at *
  go_region_held3 (fun w' => w'.cell? ⟨P, 0, none⟩ = some (.pointer (some ⟨bd, 0, none⟩)) ∧ w'.cell? ⟨w.heap.size, 0, none⟩ = some (.int .i64 (ep : Int)) ∧ w'.cell? ⟨w.heap.size, 1, none⟩ = some (.int .i64 (jo : Int)) ∧ w'.cell? ⟨w.heap.size, 2, none⟩ = some (.int .i64 (bi : Int)) ∧ w'.cell? ⟨w.heap.size, 3, none⟩ = some (.int .i64 (he : Int)) ∧ w'.cell? ⟨w.heap.size, 4, none⟩ = some (.int .i64 (ne : Int)))
    (first | go_keep | exact ⟨kp, k0, k1, k2, k3, k4⟩ | exact ⟨lp, l0, l1, l2, l3, l4⟩ | exact ⟨mp, m0, m1, m2, m3, m4⟩ | exact ⟨np, n0, n1, n2, n3, n4⟩)
    (first
      | (go_at_call 59; (with_reducible refine (KO.out w7.drew).mono ?_); rintro e8 w8 ⟨rfl, hB8⟩; have HS8 := hid (HS7.out.drew.below hB8); obtain ⟨l0, l1, l2, l3, l4⟩ := sup_cells' HS8.out.hX; have lp := cell_of_one HS8.out.hP; clear hB8)
      | (go_at_call 61; (with_reducible refine (KW.out w8 HS8.out.hD HS8.out.hg).mono ?_); rintro e9 w9 ⟨rfl, hE9⟩; have HS9 := hid (HS8.out.disk hE9); obtain ⟨m0, m1, m2, m3, m4⟩ := sup_cells' HS9.out.hX; have mp := cell_of_one HS9.out.hP; clear hE9)
      | (go_at_call 19; (with_reducible refine (spoil_g k HS9.out Hk.out (by omega) (by omega)).mono ?_); rintro e10 w10 ⟨rfl, hE10⟩; have HS10 := hid (HS9.out.disk hE10); obtain ⟨n0, n1, n2, n3, n4⟩ := sup_cells' HS10.out.hX; have np := cell_of_one HS10.out.hP; clear hE10))
  clear KO KW HS7 HS8 HS9 k0 k1 k2 k3 k4 l0 l1 l2 l3 l4 m0 m1 m2 m3 m4 kp lp mp
  obtain ⟨sl, hsl⟩ : ∃ sl, bend (D.now (ep % 2)) k ch = sl := ⟨_, rfl⟩
  have hl64 : sl.length = 64 := by rw [← hsl, Hl9.out, bend_length _ _ _ (by rw [Sup.sec_length]; omega)]; exact Sup.sec_length _
  have hnow2 : (D.bent2 (ep % 2) k ch).now (ep % 2) = sl := by rw [← hsl]; exact if_pos rfl
  have hoth2 : ∀ i, i < 2 → i ≠ ep % 2 → (D.bent2 (ep % 2) k ch).now i = nul := fun i _ hi => (if_neg hi).trans (Hoth.out i hi)
  have hn2 : (D.bent2 (ep % 2) k ch).n = 1000 := hnn
  have hd2 : (D.bent2 (ep % 2) k ch).dead = false := hdd
  have hba := best_alone (D := D.bent2 (ep % 2) k ch) (p := ep % 2) (by omega) (by omega) hoth2
  rw [hnow2, hn2] at hba
  generalize D.bent2 (ep % 2) k ch = E at *
  obtain ⟨p, hp⟩ : ∃ p : Nat, p = ep % 2 := ⟨_, rfl⟩
  have et : Int.tmod (ep : Int) 2 = (p : Int) := by rw [Int.tmod_eq_emod_of_nonneg (by omega)]; omega
  rw [← hp] at hba hnow2
  have hp2 : p < 2 := by omega
  have hrt : E.rText (p : Int) = sl ∧ E.rErr (p : Int) = 0 := by
    have ho : ¬ E.out (p : Int) := by unfold Dsk.out; omega
    have hd9 : ¬ E.dead = true := by rw [hd2]; decide
    unfold Dsk.rText Dsk.rErr
    rw [if_neg hd9, if_neg hd9, if_neg ho, if_neg ho]
    exact ⟨hnow2, rfl⟩
  have KL : Hid (∀ w, DiskAt w bd bd g E → Calls Tryd.prog 49 #[.pointer (some ⟨bd, 0, none⟩), .int .i64 (p : Int)] w fun e w' => e = .returned (.tuple #[.string (S sl), .int .i64 0]) ∧ Below w.heap.size w w') := hid (fun w h => by have h1 := lread_any (p : Int) w h; rw [hrt.1, hrt.2] at h1; exact h1)
  have hsm := refSup_small sl
  have hpa := fun w => ref7_parse sl (p : Int) 1000 1000 w hl64 rfl (by decide)
  have hbz := bears_ep (l := sl) (n := 1000)
  have hrep : (refSup sl).ep = sEp sl := rfl
  generalize hrf : refSup sl = x2 at *
  obtain ⟨ep2, jo2, bi2, he2, ne2⟩ := x2
  have KO2 := hid (fun w => own7_any ep2 jo2 bi2 he2 ne2 w hsm.ep hsm.ne)
  dsimp only at hpa
  clear hp hnn hdd hn2 hoth2 hnow2 hsl Hoth Hl9 Hk hrt hrf hl64 hsm
  by_cases hbs : bearsSup sl 1000 ∧ sEp sl % 2 = p
  · rw [if_pos hbs] at hba
    have hde : decide (bearsSup sl 1000 ∧ ((sEp sl % 2 : Nat) : Int) = (p : Int)) = true := by rw [decide_eq_true_iff]; exact ⟨hbs.1, by rw [hbs.2]⟩
    rw [hde] at hpa
    have KP := hid hpa
    have hbe : E.bErr = 0 := by unfold Dsk.bErr; rw [hba]; exact if_neg (by have := hbz hbs.1; rw [hrep]; omega)
    have KR : Hid (∀ w, DiskAt w bd bd g E → Calls Tryd.prog 63 #[.pointer (some ⟨bd, 0, none⟩)] w fun e w' => e = .returned (.tuple #[.agg #[.int .u32 (ep2 : Int), .int .i64 (jo2 : Int), .int .i64 (bi2 : Int), .int .i64 (he2 : Int), .int .u32 (ne2 : Int)], .int .i64 0]) ∧ Below w.heap.size w w') := hid (fun w h => by have h1 := lread7 w h hd2 ⟨ep2, jo2, bi2, he2, ne2⟩ hba; rw [hbe] at h1; exact h1)
    clear hpa hde hbe hba hbz hrep hbs
    go_upto_region 10 with (go_at_call 49; (with_reducible refine (KL.out w10 HS10.out.hD).mono ?_); rintro e11 w11 ⟨rfl, hB11⟩; have HS11 := hid (HS10.out.below hB11); clear hB11)
    clear n0 n1 n2 n3 n4 np
    have lp := cell_of_one HS11.out.hP
    go_upto_region 11 with (go_at_call 63; (with_reducible refine (KR.out w11 HS11.out.hD).mono ?_); rintro e12 w12 ⟨rfl, hB12⟩; have HS12 := hid (HS11.out.below hB12); clear hB12)
    have hM13 := heap_new w12 (sup5 ep2 jo2 bi2 he2 ne2)
    have HS13 := hid (HS12.out.below ((Below.refl _ w12).alloc (Nat.le_refl _) (sup5 ep2 jo2 bi2 he2 ne2)))
    generalize w12.alloc (sup5 ep2 jo2 bi2 he2 ne2) = w13 at *
    generalize w12.heap.size = M at *
    have HM13 := hid hM13
    clear hM13 lp
    obtain ⟨k0, k1, k2, k3, k4⟩ := sup_cells' HS13.out.hX
    go_upto_region 12 with (go_at_call 69; (with_reducible refine (KP.out w13).mono ?_); rintro e14 w14 ⟨rfl, hB14⟩; have HS14 := hid (HS13.out.below hB14); have hM14 := (hB14.block M (lt_of_block HM13.out)).trans HM13.out; have HM14 := hid hM14; clear hB14 hM14)
    have hQ15 := heap_new w14 (.cells #[.int .i64 (ep2 : Int), .int .i64 (jo2 : Int), .int .i64 (bi2 : Int), .int .i64 (he2 : Int), .int .i64 (ne2 : Int)] 88)
    have HS15 := hid (HS14.out.below ((Below.refl _ w14).alloc (Nat.le_refl _) (.cells #[.int .i64 (ep2 : Int), .int .i64 (jo2 : Int), .int .i64 (bi2 : Int), .int .i64 (he2 : Int), .int .i64 (ne2 : Int)] 88)))
    have hM15 := heap_old HM14.out (.cells #[.int .i64 (ep2 : Int), .int .i64 (jo2 : Int), .int .i64 (bi2 : Int), .int .i64 (he2 : Int), .int .i64 (ne2 : Int)] 88)
    generalize w14.alloc (.cells #[.int .i64 (ep2 : Int), .int .i64 (jo2 : Int), .int .i64 (bi2 : Int), .int .i64 (he2 : Int), .int .i64 (ne2 : Int)] 88) = w15 at *
    generalize w14.heap.size = Q at *
    clear k0 k1 k2 k3 k4
    obtain ⟨k0, k1, k2, k3, k4⟩ := sup_cells' hQ15
    obtain ⟨l0, l1, l2, l3, l4⟩ := sup_cells' hM15
    have HQ15 := hid hQ15
    have HM15 := hid hM15
    clear hQ15 hM15
    go_upto_region 14 with fail
    go_region_held3 (fun w' => w'.cell? ⟨Q, 0, none⟩ = some (.int .i64 (ep2 : Int)) ∧ w'.cell? ⟨Q, 1, none⟩ = some (.int .i64 (jo2 : Int)) ∧ w'.cell? ⟨Q, 2, none⟩ = some (.int .i64 (bi2 : Int)) ∧ w'.cell? ⟨Q, 3, none⟩ = some (.int .i64 (he2 : Int)) ∧ w'.cell? ⟨Q, 4, none⟩ = some (.int .i64 (ne2 : Int)) ∧ w'.cell? ⟨M, 0, none⟩ = some (.int .u32 (ep2 : Int)) ∧ w'.cell? ⟨M, 1, none⟩ = some (.int .i64 (jo2 : Int)) ∧ w'.cell? ⟨M, 2, none⟩ = some (.int .i64 (bi2 : Int)) ∧ w'.cell? ⟨M, 3, none⟩ = some (.int .i64 (he2 : Int)) ∧ w'.cell? ⟨M, 4, none⟩ = some (.int .u32 (ne2 : Int)))
      (first | go_keep | exact ⟨k0, k1, k2, k3, k4, l0, l1, l2, l3, l4⟩ | exact ⟨m0, m1, m2, m3, m4, n0, n1, n2, n3, n4⟩)
      (first | (go_at_call 59; (with_reducible refine (KO2.out w15.drew).mono ?_); rintro e16 w16 ⟨rfl, hB16⟩; have HS16 := hid (HS15.out.drew.below hB16); have hQ16 := ((Below.undrew hB16).block Q (lt_of_block HQ15.out)).trans HQ15.out; have hM16 := ((Below.undrew hB16).block M (lt_of_block HM15.out)).trans HM15.out; obtain ⟨m0, m1, m2, m3, m4⟩ := sup_cells' hQ16; obtain ⟨n0, n1, n2, n3, n4⟩ := sup_cells' hM16; clear hB16 hQ16 hM16))
    go_wp2_with fail
    go_ret
    exact ⟨rfl, HS16.out.hB⟩
  · rw [if_neg hbs] at hba
    have hde : decide (bearsSup sl 1000 ∧ ((sEp sl % 2 : Nat) : Int) = (p : Int)) = false := by rw [decide_eq_false_iff_not]; exact fun h => hbs ⟨h.1, by have := h.2; omega⟩
    rw [hde] at hpa
    have KP := hid hpa
    have hbe : E.bErr = 1 := by unfold Dsk.bErr; rw [hba]; rfl
    have KR : Hid (∀ w, DiskAt w bd bd g E → Calls Tryd.prog 63 #[.pointer (some ⟨bd, 0, none⟩)] w fun e w' => e = .returned (.tuple #[.agg #[.int .u32 0, .int .i64 0, .int .i64 0, .int .i64 0, .int .u32 0], .int .i64 1]) ∧ Below w.heap.size w w') := hid (fun w h => by have h1 := lread7 w h hd2 sup0 hba; rw [hbe] at h1; exact h1)
    clear hpa hde hbe hba hbz hrep hbs
    go_upto_region 10 with (go_at_call 49; (with_reducible refine (KL.out w10 HS10.out.hD).mono ?_); rintro e11 w11 ⟨rfl, hB11⟩; have HS11 := hid (HS10.out.below hB11); clear hB11)
    clear n0 n1 n2 n3 n4 np
    have lp := cell_of_one HS11.out.hP
    go_upto_region 11 with (go_at_call 63; (with_reducible refine (KR.out w11 HS11.out.hD).mono ?_); rintro e12 w12 ⟨rfl, hB12⟩; have HS12 := hid (HS11.out.below hB12); clear hB12)
    have HS13 := hid (HS12.out.below ((Below.refl _ w12).alloc (Nat.le_refl _) z5))
    generalize w12.alloc z5 = w13 at *
    clear lp
    obtain ⟨k0, k1, k2, k3, k4⟩ := sup_cells' HS13.out.hX
    go_wp2_with (go_at_call 69; (with_reducible refine (KP.out w13).mono ?_); rintro e14 w14 ⟨rfl, hB14⟩; have HS14 := hid (HS13.out.below hB14); clear hB14)
    go_ret
    exact ⟨rfl, HS14.out.hB.alloc HS14.out.hB.size _⟩
end Go.Proofs.YtkmbbgnbklklcaaDoor
