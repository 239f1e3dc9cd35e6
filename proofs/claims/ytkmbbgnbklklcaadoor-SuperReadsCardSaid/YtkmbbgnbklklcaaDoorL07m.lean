/-
  Law 07: SuperReads.
-/
import Derived.Test.YtkmbbgnbklklcaaDoorL07k
import Derived.Test.YtkmbbgnbklklcaaDoorL07g
import Derived.Test.YtkmbbgnbklklcaaDoorCut
namespace Go.Proofs.YtkmbbgnbklklcaaDoor
open Go.RowKit

theorem cut64s (s : List UInt8) (w : World) : Calls Tryd.prog 16 #[.string (S s), .int .i64 64] w fun e w' => e = .returned (.string (S (s.take 64))) ∧ w' = w := cut_any s 64 w
theorem pad_snoc {m : List UInt8} (h : m.length < 64) : pad (m ++ [0]) = pad m := by
  unfold pad
  rw [List.append_assoc, List.length_append, List.length_singleton, show 64 - m.length = (64 - (m.length + 1)) + 1 from by omega, List.replicate_succ]
  rfl
theorem pad_full {m : List UInt8} (h : m.length = 64) : pad m = m := by unfold pad; rw [h]; simp
/-- The law's two texts beside its disk. -/
structure LW (w wr : World) (G bd g : Nat) (m0 m1 : List UInt8) (D : Dsk) : Prop where
  hB : Below w.heap.size w wr
  hG : wr.heap[G]? = some (.cells #[.string (S m0), .string (S m1)] 9 (0, 0))
  hD : DiskAt wr bd bd g D
  hg : g < wr.heap.size
  hf : ¬ dfoot bd g G
  hw : w.heap.size ≤ bd
  hwG : w.heap.size ≤ G
section
variable {w wr w' : World} {G bd g : Nat} {m0 m1 : List UInt8} {D D' : Dsk}
theorem LW.below (h : LW w wr G bd g m0 m1 D) (hB : Below wr.heap.size wr w') : LW w w' G bd g m0 m1 D :=
  ⟨h.hB.trans (hB.mono h.hB.size), (hB.block G (lt_of_block h.hG)).trans h.hG, h.hD.below hB, by have := hB.size; have := h.hg; omega, h.hf, h.hw, h.hwG⟩
theorem LW.disk (h : LW w wr G bd g m0 m1 D) (hE : DiskEnd wr bd bd g D' w') : LW w w' G bd g m0 m1 D' :=
  ⟨h.hB.trans (hE.2.below h.hB.size (fun k hk e => by have := h.hw; have := h.hD.hg; rcases e with e | e <;> omega)), hE.2.heap h.hG h.hf, hE.1, by have := hE.2.size; have := h.hg; omega, h.hf, h.hw, h.hwG⟩
theorem LW.set0 (h : LW w wr G bd g m0 m1 D) (m : List UInt8) : LW w (wr.setCell ⟨G, 0, none⟩ (.string (S m))) G bd g m m1 D :=
  have hF : Fr (fun k => k = G) wr (wr.setCell ⟨G, 0, none⟩ (.string (S m))) := (Fr.refl (fun k => k = G) wr).setCell (p := ⟨G, 0, none⟩) (fun _ => rfl) _
  ⟨h.hB.trans (hF.below h.hB.size (fun k hk e => by have := h.hwG; omega)), heap_set_same (i := 0) h.hG _, h.hD.fr hF (fun e => h.hf (.inl e.symm)) (fun e => h.hf (.inr e.symm)), by have := hF.size; have := h.hg; omega, h.hf, h.hw, h.hwG⟩
theorem LW.set1 (h : LW w wr G bd g m0 m1 D) (m : List UInt8) : LW w (wr.setCell ⟨G, 1, none⟩ (.string (S m))) G bd g m0 m D :=
  have hF : Fr (fun k => k = G) wr (wr.setCell ⟨G, 1, none⟩ (.string (S m))) := (Fr.refl (fun k => k = G) wr).setCell (p := ⟨G, 1, none⟩) (fun _ => rfl) _
  ⟨h.hB.trans (hF.below h.hB.size (fun k hk e => by have := h.hwG; omega)), heap_set_same (i := 1) h.hG _, h.hD.fr hF (fun e => h.hf (.inl e.symm)) (fun e => h.hf (.inr e.symm)), by have := hF.size; have := h.hg; omega, h.hf, h.hw, h.hwG⟩
end
def Dsk.put7 (D : Dsk) (q : Nat) (s : List UInt8) : Dsk := { D with now := upd D.now q (pad s) }
theorem write7q {B b g : Nat} {D : Dsk} (q : Nat) (s : List UInt8) (w : World) (h : DiskAt w B b g D) (hg : g < w.heap.size) (hf : D.dead = false ∧ D.armed = false) (hs : s.length ≤ 64) (hq : q < D.n) :
    Calls Tryd.prog 52 #[.pointer (some ⟨b, 0, none⟩), .int .i64 (q : Int), .string (S s)] w fun e w' => e = .returned (.int .i64 0) ∧ DiskEnd w B b g (D.put7 q s) w' := by
  have h1 := write_any (q : Int) s w h hg (by omega)
  have ho : ¬ D.out (q : Int) := by unfold Dsk.out; omega
  have hd : ¬ D.dead = true := by rw [hf.1]; decide
  have hft : D.fit := ⟨hf.1, fun h => by rw [hf.2] at h; cases h⟩
  have hl : D.less = D := by unfold Dsk.less; rw [if_neg (by rw [hf.2]; decide)]
  have hs2 : ¬ 64 < s.length := by omega
  unfold Dsk.wErr Dsk.wrote at h1
  rw [if_neg hd, if_neg hd, if_neg ho, if_neg ho, if_neg hs2, if_neg hs2, if_pos hft, if_pos hft, hl, Int.toNat_natCast] at h1
  exact h1
def lenAt (w : World) (G q : Nat) : Nat := match w.cell? ⟨G, q, none⟩ with
  | some (.string s) => s.size
  | _ => 0
theorem lenAt_is {w : World} {G q : Nat} {s : ByteArray} (h : w.cell? ⟨G, q, none⟩ = some (.string s)) : lenAt w G q = s.size := by unfold lenAt; rw [h]
/-- The texts' row, one of them another one. -/
def dq (n : Nat) (l0 l1 : List UInt8) : Nat → Dsk
  | 0 => Dsk.new n
  | 1 => (Dsk.new n).put7 0 l0
  | _ => ((Dsk.new n).put7 0 l0).put7 1 l1
theorem docRead_small {a b : List UInt8} {n : Nat} {x : Sup} (h : docRead a b n = some x) : x.small := by
  unfold docRead at h
  split at h
  · injection h with h; rw [← h]; exact refSup_small a
  · split at h
    · injection h with h; rw [← h]; exact refSup_small b
    · exact absurd h (by simp)
/-- Behind the document's Read: the two supers read. -/
structure RD (w wz : World) (M N : Nat) (x : Sup) : Prop where
  hB : Below w.heap.size w wz
  hM : wz.heap[M]? = some (.cells #[.int .u32 (x.ep : Int), .int .i64 (x.jo : Int), .int .i64 (x.bi : Int), .int .i64 (x.he : Int), .int .u32 (x.ne : Int)] 91 (0, 0))
  hN : wz.heap[N]? = some (.cells #[.int .i64 (x.ep : Int), .int .i64 (x.jo : Int), .int .i64 (x.bi : Int), .int .i64 (x.he : Int), .int .i64 (x.ne : Int)] 88 (0, 0))
theorem row_set {w : World} {G k : Nat} {l0 l1 : List UInt8} (h : w.heap[G]? = some (.cells #[.string (S l0), .string (S l1)] 9 (0, 0))) (h0 : l0.length ≤ 64) (h1 : l1.length ≤ 64) (f : List UInt8) (hf : f.length ≤ 64) (hk : k ≤ 1) :
    ∃ m0 m1 : List UInt8, m0.length ≤ 64 ∧ m1.length ≤ 64 ∧ (w.setCell ⟨G, k, none⟩ (.string (S f))).heap[G]? = some (.cells #[.string (S m0), .string (S m1)] 9 (0, 0)) := by
  have hk2 : k = 0 ∨ k = 1 := by omega
  rcases hk2 with rfl | rfl
  · exact ⟨f, l1, hf, h1, heap_set_same (i := 0) h _⟩
  · exact ⟨l0, f, h0, hf, heap_set_same (i := 1) h _⟩
theorem row_cell {w : World} {G k : Nat} {v0 v1 : Value} {t : TypeId} (h : w.heap[G]? = some (.cells #[v0, v1] t (0, 0))) (hk : k ≤ 1) : (∃ v, w.cell? ⟨G, k, none⟩ = some v) ∧ w.frozen? ⟨G, k, none⟩ = false := by
  have hk2 : k = 0 ∨ k = 1 := by omega
  rcases hk2 with rfl | rfl
  · exact ⟨⟨_, cell_of_block h 0⟩, free_of_block h 0⟩
  · exact ⟨⟨_, cell_of_block h 1⟩, free_of_block h 1⟩

set_option maxRecDepth 100000 in
set_option linter.unusedSimpArgs false in
set_option maxHeartbeats 16000000 in
theorem walkSuperReads (w : World) (sa sb : ByteArray) (a b c d e a' b' c' d' e' : Int) (wh z : Int) (_ha : sa.size ≤ 140737488351232) (_hb : sb.size ≤ 140737488351232) (_hw : (Lit.int .i64 wh).wf = true) (_hz : (Lit.int .i64 z).wf = true) : Calls Tryd.prog 13 #[.string sa, .string sb, .agg #[.int .i64 a, .int .i64 b, .int .i64 c, .int .i64 d, .int .i64 e], .agg #[.int .i64 a', .int .i64 b', .int .i64 c', .int .i64 d', .int .i64 e'], .int .i64 wh, .int .i64 z] w fun e w' => e = .returned (.bool true) ∧ Below w.heap.size w w' := by
  rw [← S_of sa, ← S_of sb]
  generalize sa.data.toList = ta
  generalize sb.data.toList = tb
  obtain ⟨x0, hx0, hK1⟩ := few7_any a b c d e
  obtain ⟨y0, hy0, hK2⟩ := few7_any a' b' c' d' e'
  obtain ⟨px, jx, ix, tx, nx⟩ := x0
  obtain ⟨py, jy, iy, ty, ny⟩ := y0
  dsimp only at hK1 hK2
  have HK1 := hid hK1
  have HK2 := hid hK2
  have HF1 := hid (fun w => ref7_bytes px jx ix tx nx w hx0.ep hx0.jo hx0.bi hx0.he hx0.ne)
  have HF2 := hid (fun w => ref7_bytes py jy iy ty ny w hy0.ep hy0.jo hy0.bi hy0.he hy0.ne)
  have hf1 := Sup.sec_length ⟨px, jx, ix, tx, nx⟩
  have hf2 := Sup.sec_length ⟨py, jy, iy, ty, ny⟩
  change (frame px 0 (supBytes jx ix tx nx)).length = 64 at hf1
  change (frame py 0 (supBytes jy iy ty ny)).length = 64 at hf2
  generalize frame px 0 (supBytes jx ix tx nx) = f1 at *
  generalize frame py 0 (supBytes jy iy ty ny) = f2 at *
  have Hf1 := hid hf1
  have Hf2 := hid hf2
  obtain ⟨k, hk1, hk2⟩ := and_le z 4095 (by decide)
  change bits .and .i64 z 4095 = (k : Int) at hk2
  obtain ⟨r, hr⟩ : ∃ r : Nat, r = k % 4095 := ⟨_, rfl⟩
  have er : Int.tmod (k : Int) 4095 = (r : Int) := by rw [Int.tmod_eq_emod_of_nonneg (by omega)]; omega
  obtain ⟨n, hn⟩ : ∃ n : Nat, n = 2 + r := ⟨_, rfl⟩
  have en : IntKind.i64.wrap (2 + (r : Int)) = (n : Int) := by rw [IntKind.wrap_i64]; omega
  have hn4 : n ≤ 4096 := by omega
  have hn2 : 2 ≤ n := by omega
  obtain ⟨q1, hq1, eq1⟩ := and_le wh 1 (by decide)
  obtain ⟨q2, hq2, eq2⟩ := and_le wh 2 (by decide)
  change bits .and .i64 wh 1 = (q1 : Int) at eq1
  change bits .and .i64 wh 2 = (q2 : Int) at eq2
  have hB1 : Below w.heap.size w ((w.alloc (.cells #[.int .i64 a, .int .i64 b, .int .i64 c, .int .i64 d, .int .i64 e] 88)).alloc (.cells #[.int .i64 a', .int .i64 b', .int .i64 c', .int .i64 d', .int .i64 e'] 88)) := ((Below.refl _ w).alloc (Nat.le_refl _) _).alloc (by simp) _
  have hX1 := heap_old (heap_new w (.cells #[.int .i64 a, .int .i64 b, .int .i64 c, .int .i64 d, .int .i64 e] 88)) (.cells #[.int .i64 a', .int .i64 b', .int .i64 c', .int .i64 d', .int .i64 e'] 88)
  have hY1 := heap_newk (w := w.alloc (.cells #[.int .i64 a, .int .i64 b, .int .i64 c, .int .i64 d, .int .i64 e] 88)) (k := w.heap.size + 1) (.cells #[.int .i64 a', .int .i64 b', .int .i64 c', .int .i64 d', .int .i64 e'] 88) (by simp)
  clear hK1 hK2 hx0 hy0 hf1 hf2
  go_enter Tryd.func13, Tryd.ntmps13
  go_upto_region 1 with fail
  generalize (w.alloc (.cells #[.int .i64 a, .int .i64 b, .int .i64 c, .int .i64 d, .int .i64 e] 88)).alloc (.cells #[.int .i64 a', .int .i64 b', .int .i64 c', .int .i64 d', .int .i64 e'] 88) = w1 at *
  have HB1 := hid hB1
  have HX1 := hid hX1
  have HY1 := hid hY1
  clear hB1 hX1 hY1 hr hn
  go_upto_region 4 with (go_at_call 57; (with_reducible refine (awake07 w1).mono ?_); rintro e2 w2 ⟨rfl, hB2⟩; have HB2 := hid (HB1.out.trans (hB2.mono HB1.out.size)); have hX2 := (hB2.block (w.heap.size) (lt_of_block HX1.out)).trans HX1.out; have hY2 := (hB2.block (w.heap.size + 1) (lt_of_block HY1.out)).trans HY1.out; have HX2 := hid hX2; have HY2 := hid hY2; clear hB2 hX2 hY2)
  clear hk2 er en
  go_upto_region 5 with (first | (go_at_call 16; (with_reducible refine (cut64s ta w2).mono ?_); rintro e3 w3 ⟨rfl, rfl⟩) | (go_at_call 16; (with_reducible refine (cut64s tb _).mono ?_); rintro e4 w4 ⟨rfl, rfl⟩))
  obtain ⟨s1, hs1, es1⟩ := and_le (wh / 4) 1 (by decide)
  obtain ⟨s2, hs2, es2⟩ := and_le (wh / 8) 1 (by decide)
  change bits .and .i64 (wh / 4) 1 = (s1 : Int) at es1
  change bits .and .i64 (wh / 8) 1 = (s2 : Int) at es2
  have bs1 : (s1 : Int) < 2 := by omega
  have bs2 : (s2 : Int) < 2 := by omega
  have bs1b : (0 : Int) ≤ (s1 : Int) := by omega
  have bs2b : (0 : Int) ≤ (s2 : Int) := by omega
  have hG5 := heap_new w4 (.cells #[.string (S (ta.take 64)), .string (S (tb.take 64))] 9)
  have hX5 := heap_old HX2.out (.cells #[.string (S (ta.take 64)), .string (S (tb.take 64))] 9)
  have hY5 := heap_old HY2.out (.cells #[.string (S (ta.take 64)), .string (S (tb.take 64))] 9)
  have hB5 := HB2.out.alloc HB2.out.size (.cells #[.string (S (ta.take 64)), .string (S (tb.take 64))] 9)
  have hGw : w.heap.size ≤ w4.heap.size := HB2.out.size
  have hGX : w.heap.size ≠ w4.heap.size := by have := lt_of_block HX2.out; omega
  have hGY : w.heap.size + 1 ≠ w4.heap.size := by have := lt_of_block HY2.out; omega
  have hl0 : (ta.take 64).length ≤ 64 := by rw [List.length_take]; omega
  have hl1 : (tb.take 64).length ≤ 64 := by rw [List.length_take]; omega
  generalize w4.alloc (.cells #[.string (S (ta.take 64)), .string (S (tb.take 64))] 9) = w5 at *
  generalize w4.heap.size = G at *
  generalize ta.take 64 = l0 at *
  generalize tb.take 64 = l1 at *
  generalize w.heap.size + 1 = Y at *
  have HG5 := hid hG5
  have HX5 := hid hX5
  have HY5 := hid hY5
  have HB5 := hid hB5
  clear hG5 hX5 hY5 hB5 HX1 HY1 HB1 HX2 HY2 HB2
  by_cases ca : q1 = 1
  · have d1 : decide ((q1 : Int) = 1) = true := by simp; omega
    have d1b : ((q1 : Int) == 1) = true := by simp; omega
    obtain ⟨k0, k1, k2, k3, k4⟩ := sup_cells' HX5.out
    go_upto_region 7 with (first
      | (go_at_call 58; (with_reducible refine (HK1.out w5).mono ?_); rintro e6 wa6 ⟨rfl, hB6⟩; have HC6 := hid hB6; clear hB6)
      | (go_at_call 65; (with_reducible refine (HF1.out wa6).mono ?_); rintro e7 wa7 ⟨rfl, hB7⟩; have HC7 := hid (HC6.out.trans (hB7.mono HC6.out.size)); have hG7 := (HC7.out.block G (lt_of_block HG5.out)).trans HG5.out; obtain ⟨⟨v7, cv7⟩, fv7⟩ := row_cell hG7 hs1; have HG7 := hid hG7; clear hB7 hG7))
    obtain ⟨m0a, m1a, hm0a, hm1a, hG8⟩ := row_set HG7.out hl0 hl1 f1 (by have := Hf1.out; omega) hs1
    have hF8 : Fr (fun k => k = G) wa7 (wa7.setCell ⟨G, s1, none⟩ (.string (S f1))) := (Fr.refl (fun k => k = G) wa7).setCell (p := ⟨G, s1, none⟩) (fun _ => rfl) _
    have hY8 := hF8.heap ((HC7.out.block _ (lt_of_block HY5.out)).trans HY5.out) hGY
    have hB8 := (HB5.out.trans (HC7.out.mono HB5.out.size)).trans (hF8.below (by have h1 := HB5.out.size; have h2 := HC7.out.size; omega) (fun k hk e => by omega))
    generalize wa7.setCell ⟨G, s1, none⟩ (.string (S f1)) = wa8 at *
    have HGa := hid hG8
    have HYa := hid hY8
    have HBa := hid hB8
    clear hG8 hY8 hB8 hF8 HC6 HC7 HG7 cv7 fv7 k0 k1 k2 k3 k4
    clear d1 d1b
    by_cases cb : q2 = 2
    · have d1 : decide ((q2 : Int) = 2) = true := by simp; omega
      have d1b : ((q2 : Int) == 2) = true := by simp; omega
      obtain ⟨k0, k1, k2, k3, k4⟩ := sup_cells' HYa.out
      go_upto_region 9 with (first
        | (go_at_call 58; (with_reducible refine (HK2.out wa8).mono ?_); rintro e6 wb6 ⟨rfl, hB6⟩; have HC6 := hid hB6; clear hB6)
        | (go_at_call 65; (with_reducible refine (HF2.out wb6).mono ?_); rintro e7 wb7 ⟨rfl, hB7⟩; have HC7 := hid (HC6.out.trans (hB7.mono HC6.out.size)); have hG7 := (HC7.out.block G (lt_of_block HGa.out)).trans HGa.out; obtain ⟨⟨v7, cv7⟩, fv7⟩ := row_cell hG7 hs2; have HG7 := hid hG7; clear hB7 hG7))
      obtain ⟨m0b, m1b, hm0b, hm1b, hG8⟩ := row_set HG7.out hm0a hm1a f2 (by have := Hf2.out; omega) hs2
      have hF8 : Fr (fun k => k = G) wb7 (wb7.setCell ⟨G, s2, none⟩ (.string (S f2))) := (Fr.refl (fun k => k = G) wb7).setCell (p := ⟨G, s2, none⟩) (fun _ => rfl) _
      have hY8 := hF8.heap ((HC7.out.block _ (lt_of_block HYa.out)).trans HYa.out) hGY
      have hB8 := (HBa.out.trans (HC7.out.mono HBa.out.size)).trans (hF8.below (by have h1 := HBa.out.size; have h2 := HC7.out.size; omega) (fun k hk e => by omega))
      generalize wb7.setCell ⟨G, s2, none⟩ (.string (S f2)) = wb8 at *
      have HGb := hid hG8
      have HYb := hid hY8
      have HBb := hid hB8
      clear hG8 hY8 hB8 hF8 HC6 HC7 HG7 cv7 fv7 k0 k1 k2 k3 k4
      clear HYb
      go_upto_region 10 with (go_at_call 43; (with_reducible refine (disk_new (n : Int) n wb8 (by omega)).mono ?_); rintro e9 w9 ⟨rfl, g, hD9, hg9, hB9⟩; have HB9 := hid hB9; have HD9 := hid hD9; have Hg9 := hid hg9; clear hB9 hD9 hg9)
      have hL : LW w w9 G wb8.heap.size g m0b m1b (Dsk.new n) := by
        have h1 := lt_of_block HGb.out
        have h2 := HD9.out.hg
        have h3 := HBb.out.size
        exact ⟨HBb.out.trans (HB9.out.mono h3), (HB9.out.block G h1).trans HGb.out, HD9.out, Hg9.out, by rintro (e | e) <;> omega, h3, hGw⟩
      generalize wb8.heap.size = bd at *
      have hLa : (m0b).length ≤ 64 := hm0b
      have hLb : (m1b).length ≤ 64 := hm1b
      generalize m0b = La at *
      generalize m1b = Lb at *
      have HL := hid hL
      clear hL HB9 HD9 Hg9 HGb HBb
      go_wp2_with fail
      go_loopw [57] (fun iv wr => ∃ q : Nat, q ≤ 2 ∧ iv = .int .i64 q ∧ LW w wr G bd g (if 0 < q then pad La else La) (if 1 < q then pad Lb else Lb) (dq n La Lb q)) (fun iv _ => 2 - lenOf7 iv)
      case atStart => exact ⟨0, by omega, rfl, HL.out⟩
      case round =>
        obtain ⟨q, hq, rfl, hP⟩ := hrel
        clear HL
        have h3 : q = 0 ∨ q = 1 ∨ q = 2 := by omega
        rcases h3 with rfl | rfl | rfl
        · have hP : LW w wr G bd g La Lb (Dsk.new n) := hP
          have HP := hid hP
          have k0 := cell_of_block hP.hG 0
          have k1 := cell_of_block hP.hG 1
          simp only [List.getElem?_toArray, List.getElem?_cons_zero, List.getElem?_cons_succ] at k0 k1
          have KW : Hid (Calls Tryd.prog 52 #[.pointer (some ⟨bd, 0, none⟩), .int .i64 0, .string (S La)] wr fun e w' => e = .returned (.int .i64 0) ∧ DiskEnd wr bd bd g ((Dsk.new n).put7 0 La) w') := hid (write7q 0 La wr hP.hD hP.hg ⟨rfl, rfl⟩ hLa (by show 0 < n; omega))
          clear hP
          go_wp2_with (go_at_call 52; (with_reducible refine KW.out.mono ?_); rintro e13 w13 ⟨rfl, hE13⟩; have HP13 := hid (HP.out.disk hE13); clear hE13 k0 k1)
          go_loopw [] (fun wi => ∃ m : List UInt8, m.length ≤ 64 ∧ pad m = pad La ∧ LW w wi G bd g (m) (Lb) ((Dsk.new n).put7 0 La)) (fun wi => 64 - lenAt wi G 0)
          case atStart => exact ⟨La, hLa, rfl, HP13.out⟩
          case round =>
            obtain ⟨m, hm, hpm, hQ⟩ := hrel
            have k0 := cell_of_block hQ.hG 0
            have k1 := cell_of_block hQ.hG 1
            simp only [List.getElem?_toArray, List.getElem?_cons_zero, List.getElem?_cons_succ] at k0 k1
            have f0 := free_of_block hQ.hG 0
            have HQ := hid hQ
            have hsm := S_size m
            have Hpm := hid hpm
            clear hQ hpm HP HP13 KW
            by_cases hlt : m.length < 64
            · have d1 : decide ((m.length : Int) < 64) = true := by simp; omega
              have hadd : ∀ w, (Op.stringOp .add (S m) ⟨#[0]⟩).run Tryd.prog w = .ok (.string (S (m ++ [0]))) w := fun w => str_add m [0] (by omega) (by simp) w
              go_wp2_with fail
              have hQ2 := HQ.out.set0 (m ++ [0])
              have kq := cell_of_block hQ2.hG 0
              simp only [List.getElem?_toArray, List.getElem?_cons_zero, List.getElem?_cons_succ] at kq
              refine ⟨⟨m ++ [0], by simp; omega, by rw [pad_snoc hlt]; exact Hpm.out, hQ2⟩, ?_⟩
              rw [lenAt_is kq, lenAt_is k0, S_size, S_size, List.length_append, List.length_singleton]
              omega
            · have hm64 : m.length = 64 := by omega
              have d1 : decide ((m.length : Int) < 64) = false := by simp; omega
              go_wp2_with fail
              refine ⟨⟨1, by omega, by go_num, ?_⟩, by simp [lenOf7]⟩
              have hmp : m = pad La := by rw [← Hpm.out, pad_full hm64]
              have h := HQ.out
              rw [hmp] at h
              exact h
        · have hP : LW w wr G bd g (pad La) Lb ((Dsk.new n).put7 0 La) := hP
          have HP := hid hP
          have k0 := cell_of_block hP.hG 0
          have k1 := cell_of_block hP.hG 1
          simp only [List.getElem?_toArray, List.getElem?_cons_zero, List.getElem?_cons_succ] at k0 k1
          have KW : Hid (Calls Tryd.prog 52 #[.pointer (some ⟨bd, 0, none⟩), .int .i64 1, .string (S Lb)] wr fun e w' => e = .returned (.int .i64 0) ∧ DiskEnd wr bd bd g (((Dsk.new n).put7 0 La).put7 1 Lb) w') := hid (write7q 1 Lb wr hP.hD hP.hg ⟨rfl, rfl⟩ hLb (by show 1 < n; omega))
          clear hP
          go_wp2_with (go_at_call 52; (with_reducible refine KW.out.mono ?_); rintro e13 w13 ⟨rfl, hE13⟩; have HP13 := hid (HP.out.disk hE13); clear hE13 k0 k1)
          go_loopw [] (fun wi => ∃ m : List UInt8, m.length ≤ 64 ∧ pad m = pad Lb ∧ LW w wi G bd g (pad La) (m) (((Dsk.new n).put7 0 La).put7 1 Lb)) (fun wi => 64 - lenAt wi G 1)
          case atStart => exact ⟨Lb, hLb, rfl, HP13.out⟩
          case round =>
            obtain ⟨m, hm, hpm, hQ⟩ := hrel
            have k0 := cell_of_block hQ.hG 0
            have k1 := cell_of_block hQ.hG 1
            simp only [List.getElem?_toArray, List.getElem?_cons_zero, List.getElem?_cons_succ] at k0 k1
            have f0 := free_of_block hQ.hG 1
            have HQ := hid hQ
            have hsm := S_size m
            have Hpm := hid hpm
            clear hQ hpm HP HP13 KW
            by_cases hlt : m.length < 64
            · have d1 : decide ((m.length : Int) < 64) = true := by simp; omega
              have hadd : ∀ w, (Op.stringOp .add (S m) ⟨#[0]⟩).run Tryd.prog w = .ok (.string (S (m ++ [0]))) w := fun w => str_add m [0] (by omega) (by simp) w
              go_wp2_with fail
              have hQ2 := HQ.out.set1 (m ++ [0])
              have kq := cell_of_block hQ2.hG 1
              simp only [List.getElem?_toArray, List.getElem?_cons_zero, List.getElem?_cons_succ] at kq
              refine ⟨⟨m ++ [0], by simp; omega, by rw [pad_snoc hlt]; exact Hpm.out, hQ2⟩, ?_⟩
              rw [lenAt_is kq, lenAt_is k1, S_size, S_size, List.length_append, List.length_singleton]
              omega
            · have hm64 : m.length = 64 := by omega
              have d1 : decide ((m.length : Int) < 64) = false := by simp; omega
              go_wp2_with fail
              refine ⟨⟨2, by omega, by go_num, ?_⟩, by simp [lenOf7]⟩
              have hmp : m = pad Lb := by rw [← Hpm.out, pad_full hm64]
              have h := HQ.out
              rw [hmp] at h
              exact h
        · have hP : LW w wr G bd g (pad La) (pad Lb) (((Dsk.new n).put7 0 La).put7 1 Lb) := hP
          have HP := hid hP
          have hdn2 : (((Dsk.new n).put7 0 La).put7 1 Lb).n = n := rfl
          have hdd2 : (((Dsk.new n).put7 0 La).put7 1 Lb).dead = false := rfl
          have hbd := best_doc (D := ((Dsk.new n).put7 0 La).put7 1 Lb) hn2
          have e0 : (((Dsk.new n).put7 0 La).put7 1 Lb).now 0 = pad La := rfl
          have e1 : (((Dsk.new n).put7 0 La).put7 1 Lb).now 1 = pad Lb := rfl
          rw [e0, e1, hdn2] at hbd
          have hP0 : (pad La).length = 64 := pad_length hLa
          have hP1 : (pad Lb).length = 64 := pad_length hLb
          clear hP e0 e1
          generalize ((Dsk.new n).put7 0 La).put7 1 Lb = E at *
          generalize pad La = P0 at *
          generalize pad Lb = P1 at *
          cases hdoc : docRead P0 P1 n with
          | none =>
            have hbest : E.best = sup0 := by rw [hbd, hdoc]; rfl
            have hber : E.bErr = 1 := by unfold Dsk.bErr; rw [hbest]; rfl
            clear hbd
            have KR : Hid (Calls Tryd.prog 63 #[.pointer (some ⟨bd, 0, none⟩)] wr fun e w' => e = .returned (.tuple #[.agg #[.int .u32 0, .int .i64 0, .int .i64 0, .int .i64 0, .int .u32 0], .int .i64 1]) ∧ Below wr.heap.size wr w') := hid (by have h := lread7 wr HP.out.hD hdd2 sup0 hbest; rw [hber] at h; exact h)
            have KD : Hid (∀ w, Calls Tryd.prog 66 #[.string (S P0), .string (S P1), .int .i64 (n : Int)] w fun e w' => e = .returned (.tuple #[.agg #[.int .i64 0, .int .i64 0, .int .i64 0, .int .i64 0, .int .i64 0], .bool false]) ∧ Below w.heap.size w w') := hid (fun w => ref7_read P0 P1 n sup0 false w hP0 hP1 (by omega) (by rw [hdoc]; rfl) (by rw [hdoc]; rfl))
            clear hbest hber hdoc hdd2 hdn2
            go_upto_region 19 with (go_at_call 63; (with_reducible refine KR.out.mono ?_); rintro e20 w20 ⟨rfl, hB20⟩; have HQ20 := hid (HP.out.below hB20); clear hB20)
            have hM21 := heap_new w20 (.cells #[.int .u32 0, .int .i64 0, .int .i64 0, .int .i64 0, .int .u32 0] 91)
            have HQ21 := hid (HQ20.out.below ((Below.refl _ w20).alloc (Nat.le_refl _) (.cells #[.int .u32 0, .int .i64 0, .int .i64 0, .int .i64 0, .int .u32 0] 91)))
            generalize w20.alloc (.cells #[.int .u32 0, .int .i64 0, .int .i64 0, .int .i64 0, .int .u32 0] 91) = w21 at *
            generalize w20.heap.size = M at *
            have HM21 := hid hM21
            have hltG := lt_of_block HQ21.out.hG
            have k0 := cell_of_block HQ21.out.hG 0
            have k1 := cell_of_block HQ21.out.hG 1
            simp only [List.getElem?_toArray, List.getElem?_cons_zero, List.getElem?_cons_succ] at k0 k1
            clear hM21 KR HQ20
            apply shared7
            · intro key
              refine wp_region_held_drew (S := fun w' => w'.cell? ⟨G, 0, none⟩ = some (.string (S P0)) ∧ w'.cell? ⟨G, 1, none⟩ = some (.string (S P1))) (by kernel_rfl) ⟨k0, k1⟩ (fun hHeld => ?_)
              refine wpAnyH_take (i := 0) (oi := _) (v := ?_) rfl (by kernel_rfl) (by kernel_rfl) (by kernel_rfl) (fun _ _ _ h => h) (Or.inl ⟨by rfl, ?_⟩) (by assumption) ?_
              rotate_left
              · intro w hSw
                try dsimp only at hSw
                go_simp
                try with_reducible rfl
              try simp only [Act.put, List.setIfInBounds_toArray, List.set_cons_zero, List.set_cons_succ, List.getElem_toArray, List.getElem_cons_zero, List.getElem_cons_succ]
              refine wpAnyH_take (i := 1) (oi := _) (v := ?_) rfl (by kernel_rfl) (by kernel_rfl) (by kernel_rfl) (fun _ _ _ h => h) (Or.inl ⟨by rfl, ?_⟩) (by assumption) ?_
              rotate_left
              · intro w hSw
                try dsimp only at hSw
                go_simp
                try with_reducible rfl
              try simp only [Act.put, List.setIfInBounds_toArray, List.set_cons_zero, List.set_cons_succ, List.getElem_toArray, List.getElem_cons_zero, List.getElem_cons_succ]
              refine wpAnyH_take (i := 2) (oi := _) (v := ?_) rfl (by kernel_rfl) (by kernel_rfl) (by kernel_rfl) (fun _ _ _ h => h) (Or.inl ⟨by rfl, ?_⟩) (by assumption) ?_
              rotate_left
              · intro w hSw
                try dsimp only at hSw
                go_simp
                try with_reducible rfl
              try simp only [Act.put, List.setIfInBounds_toArray, List.set_cons_zero, List.set_cons_succ, List.getElem_toArray, List.getElem_cons_zero, List.getElem_cons_succ]
              refine wpAnyH_take (i := 3) (oi := _) (v := ?_) rfl (by kernel_rfl) (by kernel_rfl) (by kernel_rfl) (fun _ _ _ h => h) (Or.inl ⟨by rfl, ?_⟩) (by assumption) ?_
              rotate_left
              · intro w hSw
                try dsimp only at hSw
                go_simp
                try with_reducible rfl
              try simp only [Act.put, List.setIfInBounds_toArray, List.set_cons_zero, List.set_cons_succ, List.getElem_toArray, List.getElem_cons_zero, List.getElem_cons_succ]
              refine wpAnyH_take (i := 4) (oi := _) (v := ?_) rfl (by kernel_rfl) (by kernel_rfl) (by kernel_rfl) (fun _ _ _ h => h) (Or.inl ⟨by rfl, ?_⟩) (by assumption) ?_
              rotate_left
              · intro w hSw
                try dsimp only at hSw
                go_simp
                try with_reducible rfl
              try simp only [Act.put, List.setIfInBounds_toArray, List.set_cons_zero, List.set_cons_succ, List.getElem_toArray, List.getElem_cons_zero, List.getElem_cons_succ]
              refine wpAnyH_take (i := 5) (oi := _) (v := ?_) rfl (by kernel_rfl) (by kernel_rfl) (by kernel_rfl) (fun _ _ _ h => h) (Or.inl ⟨by rfl, ?_⟩) (by assumption) ?_
              rotate_left
              · intro w hSw
                try dsimp only at hSw
                go_simp
                try with_reducible rfl
              try simp only [Act.put, List.setIfInBounds_toArray, List.set_cons_zero, List.set_cons_succ, List.getElem_toArray, List.getElem_cons_zero, List.getElem_cons_succ]
              refine wpAnyH_take (i := 6) (oi := _) (v := ?_) rfl (by kernel_rfl) (by kernel_rfl) (by kernel_rfl) (fun _ _ _ h => h) (Or.inl ⟨by rfl, ?_⟩) (by assumption) ?_
              rotate_left
              · intro w hSw
                try dsimp only at hSw
                go_simp
                try with_reducible rfl
              try simp only [Act.put, List.setIfInBounds_toArray, List.set_cons_zero, List.set_cons_succ, List.getElem_toArray, List.getElem_cons_zero, List.getElem_cons_succ]
              refine wpAnyH_ready (rs := [7, 11]) (by kernel_rfl) (by simp) ?_
              refine AllReadyH.cons (o := _) rfl (fun K hK => ?_) (AllReadyH.cons (o := _) rfl (fun K hK => ?_) AllReadyH.nil)
              · go_simp
                go_at_call 66
                (with_reducible refine (KD.out _).mono ?_)
                rintro e22 w22 ⟨rfl, hB22⟩
                have hC22 : Below w21.heap.size w21 w22 := Below.undrew hB22
                have HC22 := hid hC22
                have hG22 := (hC22.block G hltG).trans HQ21.out.hG
                have j0 := cell_of_block hG22 0
                have j1 := cell_of_block hG22 1
                simp only [List.getElem?_toArray, List.getElem?_cons_zero, List.getElem?_cons_succ] at j0 j1
                clear hB22 hG22 hC22
                try dsimp only
                refine hK.out _ _ ?_ (fun hHeld => ?_)
                · exact ⟨j0, j1⟩
                clear hK K
                try simp only [Act.put, List.setIfInBounds_toArray, List.set_cons_zero, List.set_cons_succ, List.getElem_toArray, List.getElem_cons_zero, List.getElem_cons_succ]
                refine wpAnyH_take (i := 8) (oi := _) (v := ?_) rfl (by kernel_rfl) (by kernel_rfl) (by kernel_rfl) (fun _ _ _ h => h) (Or.inl ⟨by rfl, ?_⟩) (by assumption) ?_
                rotate_left
                · intro w hSw
                  try dsimp only at hSw
                  go_simp
                  try with_reducible rfl
                try simp only [Act.put, List.setIfInBounds_toArray, List.set_cons_zero, List.set_cons_succ, List.getElem_toArray, List.getElem_cons_zero, List.getElem_cons_succ]
                refine wpAnyH_take (i := 9) (oi := _) (v := ?_) rfl (by kernel_rfl) (by kernel_rfl) (by kernel_rfl) (fun _ _ _ h => h) (Or.inl ⟨by rfl, ?_⟩) (by assumption) ?_
                rotate_left
                · intro w hSw
                  try dsimp only at hSw
                  go_simp
                  try with_reducible rfl
                try simp only [Act.put, List.setIfInBounds_toArray, List.set_cons_zero, List.set_cons_succ, List.getElem_toArray, List.getElem_cons_zero, List.getElem_cons_succ]
                refine wpAnyH_take (i := 10) (oi := _) (v := ?_) rfl (by kernel_rfl) (by kernel_rfl) (by kernel_rfl) (fun _ _ _ h => h) (Or.inl ⟨by rfl, ?_⟩) (by assumption) ?_
                rotate_left
                · intro w hSw
                  try dsimp only at hSw
                  go_simp
                  try with_reducible rfl
                try simp only [Act.put, List.setIfInBounds_toArray, List.set_cons_zero, List.set_cons_succ, List.getElem_toArray, List.getElem_cons_zero, List.getElem_cons_succ]
                refine wpAnyH_ready (rs := [11]) (by kernel_rfl) (by simp) ?_
                refine AllReadyH.cons (o := _) rfl (fun K hK => ?_) AllReadyH.nil
                go_simp
                try dsimp only
                refine hK.out _ _ ?_ (fun hHeld => ?_)
                · exact (by go_keep)
                clear hK K
                try simp only [Act.put, List.setIfInBounds_toArray, List.set_cons_zero, List.set_cons_succ, List.getElem_toArray, List.getElem_cons_zero, List.getElem_cons_succ]
                refine wpAnyH_ready (rs := [12]) (by kernel_rfl) (by simp) ?_
                refine AllReadyH.cons (o := _) rfl (fun K hK => ?_) AllReadyH.nil
                go_simp
                try dsimp only
                refine hK.out _ _ ?_ (fun hHeld => ?_)
                · exact (by go_keep)
                clear hK K
                try simp only [Act.put, List.setIfInBounds_toArray, List.set_cons_zero, List.set_cons_succ, List.getElem_toArray, List.getElem_cons_zero, List.getElem_cons_succ]
                refine wpAnyH_ready (rs := [13]) (by kernel_rfl) (by simp) ?_
                refine AllReadyH.cons (o := _) rfl (fun K hK => ?_) AllReadyH.nil
                go_simp
                try dsimp only
                refine hK.out _ _ ?_ (fun hHeld => ?_)
                · exact (by go_keep)
                clear hK K
                try simp only [Act.put, List.setIfInBounds_toArray, List.set_cons_zero, List.set_cons_succ, List.getElem_toArray, List.getElem_cons_zero, List.getElem_cons_succ]
                refine wpAnyH_done (by kernel_rfl) ?_ _
                go_simp
                have hRD : RD w (w22.alloc (.cells #[.int .i64 0, .int .i64 0, .int .i64 0, .int .i64 0, .int .i64 0] 88)) M w22.heap.size sup0 := ⟨HQ21.out.hB.trans ((HC22.out.alloc HC22.out.size _).mono HQ21.out.hB.size), heap_old ((HC22.out.block M (lt_of_block HM21.out)).trans HM21.out) _, heap_new w22 _⟩
                generalize w22.alloc (.cells #[.int .i64 0, .int .i64 0, .int .i64 0, .int .i64 0, .int .i64 0] 88) = wz at hRD ⊢
                generalize w22.heap.size = N at hRD ⊢
                revert hRD
                revert wz N
                exact key.out
              · go_simp
                try dsimp only
                refine hK.out _ _ ?_ (fun hHeld => ?_)
                · exact (by go_keep)
                clear hK K
                try simp only [Act.put, List.setIfInBounds_toArray, List.set_cons_zero, List.set_cons_succ, List.getElem_toArray, List.getElem_cons_zero, List.getElem_cons_succ]
                refine wpAnyH_ready (rs := [7]) (by kernel_rfl) (by simp) ?_
                refine AllReadyH.cons (o := _) rfl (fun K hK => ?_) AllReadyH.nil
                go_simp
                go_at_call 66
                (with_reducible refine (KD.out _).mono ?_)
                rintro e22 w22 ⟨rfl, hB22⟩
                have hC22 : Below w21.heap.size w21 w22 := Below.trans (B := w21.heap.size) ((Below.refl _ w21).alloc (Nat.le_refl _) r5z) ((Below.undrew hB22).mono (by simp))
                have HC22 := hid hC22
                have hG22 := (hC22.block G hltG).trans HQ21.out.hG
                have j0 := cell_of_block hG22 0
                have j1 := cell_of_block hG22 1
                simp only [List.getElem?_toArray, List.getElem?_cons_zero, List.getElem?_cons_succ] at j0 j1
                have hN22 := ((Below.undrew hB22).block w21.heap.size (by simp)).trans (heap_new w21 r5z)
                obtain ⟨z0, z1, z2, z3, z4⟩ := sup_cells' hN22
                obtain ⟨y0, y1, y2, y3, y4⟩ := free_five hN22
                have HN22 := hid hN22
                clear hN22
                clear hB22 hG22 hC22
                try dsimp only
                refine hK.out _ _ ?_ (fun hHeld => ?_)
                · exact ⟨j0, j1⟩
                clear hK K
                try simp only [Act.put, List.setIfInBounds_toArray, List.set_cons_zero, List.set_cons_succ, List.getElem_toArray, List.getElem_cons_zero, List.getElem_cons_succ]
                refine wpAnyH_take (i := 8) (oi := _) (v := ?_) rfl (by kernel_rfl) (by kernel_rfl) (by kernel_rfl) (fun _ _ _ h => h) (Or.inl ⟨by rfl, ?_⟩) (by assumption) ?_
                rotate_left
                · intro w hSw
                  try dsimp only at hSw
                  go_simp
                  try with_reducible rfl
                try simp only [Act.put, List.setIfInBounds_toArray, List.set_cons_zero, List.set_cons_succ, List.getElem_toArray, List.getElem_cons_zero, List.getElem_cons_succ]
                refine wpAnyH_take (i := 9) (oi := _) (v := ?_) rfl (by kernel_rfl) (by kernel_rfl) (by kernel_rfl) (fun _ _ _ h => h) (Or.inl ⟨by rfl, ?_⟩) (by assumption) ?_
                rotate_left
                · intro w hSw
                  try dsimp only at hSw
                  go_simp
                  try with_reducible rfl
                try simp only [Act.put, List.setIfInBounds_toArray, List.set_cons_zero, List.set_cons_succ, List.getElem_toArray, List.getElem_cons_zero, List.getElem_cons_succ]
                refine wpAnyH_take (i := 10) (oi := _) (v := ?_) rfl (by kernel_rfl) (by kernel_rfl) (by kernel_rfl) (fun _ _ _ h => h) (Or.inl ⟨by rfl, ?_⟩) (by assumption) ?_
                rotate_left
                · intro w hSw
                  try dsimp only at hSw
                  go_simp
                  try with_reducible rfl
                try simp only [Act.put, List.setIfInBounds_toArray, List.set_cons_zero, List.set_cons_succ, List.getElem_toArray, List.getElem_cons_zero, List.getElem_cons_succ]
                have hne : w21.heap.size ≠ G := by omega
                refine wpAnyH_ready (rs := [12]) (by kernel_rfl) (by simp) ?_
                refine AllReadyH.cons (o := _) rfl (fun K hK => ?_) AllReadyH.nil
                go_simp
                try dsimp only
                refine hK.out _ _ ?_ (fun hHeld => ?_)
                · exact ⟨cellS (cellS (cellS (cellS (cellS j0 (p := ⟨w21.heap.size, 0, none⟩) hne _) (p := ⟨w21.heap.size, 1, none⟩) hne _) (p := ⟨w21.heap.size, 2, none⟩) hne _) (p := ⟨w21.heap.size, 3, none⟩) hne _) (p := ⟨w21.heap.size, 4, none⟩) hne _, cellS (cellS (cellS (cellS (cellS j1 (p := ⟨w21.heap.size, 0, none⟩) hne _) (p := ⟨w21.heap.size, 1, none⟩) hne _) (p := ⟨w21.heap.size, 2, none⟩) hne _) (p := ⟨w21.heap.size, 3, none⟩) hne _) (p := ⟨w21.heap.size, 4, none⟩) hne _⟩
                clear hK K
                try simp only [Act.put, List.setIfInBounds_toArray, List.set_cons_zero, List.set_cons_succ, List.getElem_toArray, List.getElem_cons_zero, List.getElem_cons_succ]
                refine wpAnyH_ready (rs := [13]) (by kernel_rfl) (by simp) ?_
                refine AllReadyH.cons (o := _) rfl (fun K hK => ?_) AllReadyH.nil
                go_simp
                try dsimp only
                refine hK.out _ _ ?_ (fun hHeld => ?_)
                · exact ⟨cellS (cellS (cellS (cellS (cellS j0 (p := ⟨w21.heap.size, 0, none⟩) hne _) (p := ⟨w21.heap.size, 1, none⟩) hne _) (p := ⟨w21.heap.size, 2, none⟩) hne _) (p := ⟨w21.heap.size, 3, none⟩) hne _) (p := ⟨w21.heap.size, 4, none⟩) hne _, cellS (cellS (cellS (cellS (cellS j1 (p := ⟨w21.heap.size, 0, none⟩) hne _) (p := ⟨w21.heap.size, 1, none⟩) hne _) (p := ⟨w21.heap.size, 2, none⟩) hne _) (p := ⟨w21.heap.size, 3, none⟩) hne _) (p := ⟨w21.heap.size, 4, none⟩) hne _⟩
                clear hK K
                try simp only [Act.put, List.setIfInBounds_toArray, List.set_cons_zero, List.set_cons_succ, List.getElem_toArray, List.getElem_cons_zero, List.getElem_cons_succ]
                refine wpAnyH_done (by kernel_rfl) ?_ _
                go_simp
                have hF22 := five_fr (w := w22) w21.heap.size (.int .i64 0) (.int .i64 0) (.int .i64 0) (.int .i64 0) (.int .i64 0)
                have hRD : RD w (((((w22.setCell ⟨w21.heap.size, 0, none⟩ (.int .i64 0)).setCell ⟨w21.heap.size, 1, none⟩ (.int .i64 0)).setCell ⟨w21.heap.size, 2, none⟩ (.int .i64 0)).setCell ⟨w21.heap.size, 3, none⟩ (.int .i64 0)).setCell ⟨w21.heap.size, 4, none⟩ (.int .i64 0)) M w21.heap.size sup0 := ⟨(HQ21.out.hB.trans (HC22.out.mono HQ21.out.hB.size)).trans (hF22.below (by have h1 := HQ21.out.hB.size; have h2 := HC22.out.size; omega) (fun k hk e => by have h1 := HQ21.out.hB.size; omega)), hF22.heap ((HC22.out.block M (lt_of_block HM21.out)).trans HM21.out) (by have := lt_of_block HM21.out; omega), five_set HN22.out _ _ _ _ _⟩
                clear hF22
                generalize ((((w22.setCell ⟨w21.heap.size, 0, none⟩ (.int .i64 0)).setCell ⟨w21.heap.size, 1, none⟩ (.int .i64 0)).setCell ⟨w21.heap.size, 2, none⟩ (.int .i64 0)).setCell ⟨w21.heap.size, 3, none⟩ (.int .i64 0)).setCell ⟨w21.heap.size, 4, none⟩ (.int .i64 0) = wz at hRD ⊢
                generalize w21.heap.size = N at hRD ⊢
                revert hRD
                revert wz N
                exact key.out
            intro wz N hRD
            clear k0 k1 KD HQ21 HM21 hltG HP
            obtain ⟨m0, m1, m2, m3, m4⟩ := sup_cells' hRD.hM
            change wz.cell? _ = some (.int .u32 0) at m0
            change wz.cell? _ = some (.int .i64 0) at m1
            change wz.cell? _ = some (.int .i64 0) at m2
            change wz.cell? _ = some (.int .i64 0) at m3
            change wz.cell? _ = some (.int .u32 0) at m4
            have HRD := hid hRD
            clear hRD
            go_wp2_with fail
            go_ret
            exact ⟨rfl, HRD.out.hB⟩
          | some x =>
            have hep := docRead_ep hdoc
            have hxs := docRead_small hdoc
            have hbest : E.best = x := by rw [hbd, hdoc]; rfl
            have hber : E.bErr = 0 := by unfold Dsk.bErr; rw [hbest]; exact if_neg (by omega)
            obtain ⟨ep, jo, bi, he, ne⟩ := x
            have KO := hid (fun w => own7_any ep jo bi he ne w hxs.ep hxs.ne)
            clear hbd hep hxs
            have KR : Hid (Calls Tryd.prog 63 #[.pointer (some ⟨bd, 0, none⟩)] wr fun e w' => e = .returned (.tuple #[.agg #[.int .u32 (ep : Int), .int .i64 (jo : Int), .int .i64 (bi : Int), .int .i64 (he : Int), .int .u32 (ne : Int)], .int .i64 0]) ∧ Below wr.heap.size wr w') := hid (by have h := lread7 wr HP.out.hD hdd2 ⟨ep, jo, bi, he, ne⟩ hbest; rw [hber] at h; exact h)
            have KD : Hid (∀ w, Calls Tryd.prog 66 #[.string (S P0), .string (S P1), .int .i64 (n : Int)] w fun e w' => e = .returned (.tuple #[.agg #[.int .i64 (ep : Int), .int .i64 (jo : Int), .int .i64 (bi : Int), .int .i64 (he : Int), .int .i64 (ne : Int)], .bool true]) ∧ Below w.heap.size w w') := hid (fun w => ref7_read P0 P1 n ⟨ep, jo, bi, he, ne⟩ true w hP0 hP1 (by omega) (by rw [hdoc]; rfl) (by rw [hdoc]; rfl))
            clear hbest hber hdoc hdd2 hdn2
            go_upto_region 19 with (go_at_call 63; (with_reducible refine KR.out.mono ?_); rintro e20 w20 ⟨rfl, hB20⟩; have HQ20 := hid (HP.out.below hB20); clear hB20)
            have hM21 := heap_new w20 (.cells #[.int .u32 (ep : Int), .int .i64 (jo : Int), .int .i64 (bi : Int), .int .i64 (he : Int), .int .u32 (ne : Int)] 91)
            have HQ21 := hid (HQ20.out.below ((Below.refl _ w20).alloc (Nat.le_refl _) (.cells #[.int .u32 (ep : Int), .int .i64 (jo : Int), .int .i64 (bi : Int), .int .i64 (he : Int), .int .u32 (ne : Int)] 91)))
            generalize w20.alloc (.cells #[.int .u32 (ep : Int), .int .i64 (jo : Int), .int .i64 (bi : Int), .int .i64 (he : Int), .int .u32 (ne : Int)] 91) = w21 at *
            generalize w20.heap.size = M at *
            have HM21 := hid hM21
            have hltG := lt_of_block HQ21.out.hG
            have k0 := cell_of_block HQ21.out.hG 0
            have k1 := cell_of_block HQ21.out.hG 1
            simp only [List.getElem?_toArray, List.getElem?_cons_zero, List.getElem?_cons_succ] at k0 k1
            clear hM21 KR HQ20
            apply shared7
            · intro key
              refine wp_region_held_drew (S := fun w' => w'.cell? ⟨G, 0, none⟩ = some (.string (S P0)) ∧ w'.cell? ⟨G, 1, none⟩ = some (.string (S P1))) (by kernel_rfl) ⟨k0, k1⟩ (fun hHeld => ?_)
              refine wpAnyH_take (i := 0) (oi := _) (v := ?_) rfl (by kernel_rfl) (by kernel_rfl) (by kernel_rfl) (fun _ _ _ h => h) (Or.inl ⟨by rfl, ?_⟩) (by assumption) ?_
              rotate_left
              · intro w hSw
                try dsimp only at hSw
                go_simp
                try with_reducible rfl
              try simp only [Act.put, List.setIfInBounds_toArray, List.set_cons_zero, List.set_cons_succ, List.getElem_toArray, List.getElem_cons_zero, List.getElem_cons_succ]
              refine wpAnyH_take (i := 1) (oi := _) (v := ?_) rfl (by kernel_rfl) (by kernel_rfl) (by kernel_rfl) (fun _ _ _ h => h) (Or.inl ⟨by rfl, ?_⟩) (by assumption) ?_
              rotate_left
              · intro w hSw
                try dsimp only at hSw
                go_simp
                try with_reducible rfl
              try simp only [Act.put, List.setIfInBounds_toArray, List.set_cons_zero, List.set_cons_succ, List.getElem_toArray, List.getElem_cons_zero, List.getElem_cons_succ]
              refine wpAnyH_take (i := 2) (oi := _) (v := ?_) rfl (by kernel_rfl) (by kernel_rfl) (by kernel_rfl) (fun _ _ _ h => h) (Or.inl ⟨by rfl, ?_⟩) (by assumption) ?_
              rotate_left
              · intro w hSw
                try dsimp only at hSw
                go_simp
                try with_reducible rfl
              try simp only [Act.put, List.setIfInBounds_toArray, List.set_cons_zero, List.set_cons_succ, List.getElem_toArray, List.getElem_cons_zero, List.getElem_cons_succ]
              refine wpAnyH_take (i := 3) (oi := _) (v := ?_) rfl (by kernel_rfl) (by kernel_rfl) (by kernel_rfl) (fun _ _ _ h => h) (Or.inl ⟨by rfl, ?_⟩) (by assumption) ?_
              rotate_left
              · intro w hSw
                try dsimp only at hSw
                go_simp
                try with_reducible rfl
              try simp only [Act.put, List.setIfInBounds_toArray, List.set_cons_zero, List.set_cons_succ, List.getElem_toArray, List.getElem_cons_zero, List.getElem_cons_succ]
              refine wpAnyH_take (i := 4) (oi := _) (v := ?_) rfl (by kernel_rfl) (by kernel_rfl) (by kernel_rfl) (fun _ _ _ h => h) (Or.inl ⟨by rfl, ?_⟩) (by assumption) ?_
              rotate_left
              · intro w hSw
                try dsimp only at hSw
                go_simp
                try with_reducible rfl
              try simp only [Act.put, List.setIfInBounds_toArray, List.set_cons_zero, List.set_cons_succ, List.getElem_toArray, List.getElem_cons_zero, List.getElem_cons_succ]
              refine wpAnyH_take (i := 5) (oi := _) (v := ?_) rfl (by kernel_rfl) (by kernel_rfl) (by kernel_rfl) (fun _ _ _ h => h) (Or.inl ⟨by rfl, ?_⟩) (by assumption) ?_
              rotate_left
              · intro w hSw
                try dsimp only at hSw
                go_simp
                try with_reducible rfl
              try simp only [Act.put, List.setIfInBounds_toArray, List.set_cons_zero, List.set_cons_succ, List.getElem_toArray, List.getElem_cons_zero, List.getElem_cons_succ]
              refine wpAnyH_take (i := 6) (oi := _) (v := ?_) rfl (by kernel_rfl) (by kernel_rfl) (by kernel_rfl) (fun _ _ _ h => h) (Or.inl ⟨by rfl, ?_⟩) (by assumption) ?_
              rotate_left
              · intro w hSw
                try dsimp only at hSw
                go_simp
                try with_reducible rfl
              try simp only [Act.put, List.setIfInBounds_toArray, List.set_cons_zero, List.set_cons_succ, List.getElem_toArray, List.getElem_cons_zero, List.getElem_cons_succ]
              refine wpAnyH_ready (rs := [7, 11]) (by kernel_rfl) (by simp) ?_
              refine AllReadyH.cons (o := _) rfl (fun K hK => ?_) (AllReadyH.cons (o := _) rfl (fun K hK => ?_) AllReadyH.nil)
              · go_simp
                go_at_call 66
                (with_reducible refine (KD.out _).mono ?_)
                rintro e22 w22 ⟨rfl, hB22⟩
                have hC22 : Below w21.heap.size w21 w22 := Below.undrew hB22
                have HC22 := hid hC22
                have hG22 := (hC22.block G hltG).trans HQ21.out.hG
                have j0 := cell_of_block hG22 0
                have j1 := cell_of_block hG22 1
                simp only [List.getElem?_toArray, List.getElem?_cons_zero, List.getElem?_cons_succ] at j0 j1
                clear hB22 hG22 hC22
                try dsimp only
                refine hK.out _ _ ?_ (fun hHeld => ?_)
                · exact ⟨j0, j1⟩
                clear hK K
                try simp only [Act.put, List.setIfInBounds_toArray, List.set_cons_zero, List.set_cons_succ, List.getElem_toArray, List.getElem_cons_zero, List.getElem_cons_succ]
                refine wpAnyH_take (i := 8) (oi := _) (v := ?_) rfl (by kernel_rfl) (by kernel_rfl) (by kernel_rfl) (fun _ _ _ h => h) (Or.inl ⟨by rfl, ?_⟩) (by assumption) ?_
                rotate_left
                · intro w hSw
                  try dsimp only at hSw
                  go_simp
                  try with_reducible rfl
                try simp only [Act.put, List.setIfInBounds_toArray, List.set_cons_zero, List.set_cons_succ, List.getElem_toArray, List.getElem_cons_zero, List.getElem_cons_succ]
                refine wpAnyH_take (i := 9) (oi := _) (v := ?_) rfl (by kernel_rfl) (by kernel_rfl) (by kernel_rfl) (fun _ _ _ h => h) (Or.inl ⟨by rfl, ?_⟩) (by assumption) ?_
                rotate_left
                · intro w hSw
                  try dsimp only at hSw
                  go_simp
                  try with_reducible rfl
                try simp only [Act.put, List.setIfInBounds_toArray, List.set_cons_zero, List.set_cons_succ, List.getElem_toArray, List.getElem_cons_zero, List.getElem_cons_succ]
                refine wpAnyH_take (i := 10) (oi := _) (v := ?_) rfl (by kernel_rfl) (by kernel_rfl) (by kernel_rfl) (fun _ _ _ h => h) (Or.inl ⟨by rfl, ?_⟩) (by assumption) ?_
                rotate_left
                · intro w hSw
                  try dsimp only at hSw
                  go_simp
                  try with_reducible rfl
                try simp only [Act.put, List.setIfInBounds_toArray, List.set_cons_zero, List.set_cons_succ, List.getElem_toArray, List.getElem_cons_zero, List.getElem_cons_succ]
                refine wpAnyH_ready (rs := [11]) (by kernel_rfl) (by simp) ?_
                refine AllReadyH.cons (o := _) rfl (fun K hK => ?_) AllReadyH.nil
                go_simp
                try dsimp only
                refine hK.out _ _ ?_ (fun hHeld => ?_)
                · exact (by go_keep)
                clear hK K
                try simp only [Act.put, List.setIfInBounds_toArray, List.set_cons_zero, List.set_cons_succ, List.getElem_toArray, List.getElem_cons_zero, List.getElem_cons_succ]
                refine wpAnyH_ready (rs := [12]) (by kernel_rfl) (by simp) ?_
                refine AllReadyH.cons (o := _) rfl (fun K hK => ?_) AllReadyH.nil
                go_simp
                try dsimp only
                refine hK.out _ _ ?_ (fun hHeld => ?_)
                · exact (by go_keep)
                clear hK K
                try simp only [Act.put, List.setIfInBounds_toArray, List.set_cons_zero, List.set_cons_succ, List.getElem_toArray, List.getElem_cons_zero, List.getElem_cons_succ]
                refine wpAnyH_ready (rs := [13]) (by kernel_rfl) (by simp) ?_
                refine AllReadyH.cons (o := _) rfl (fun K hK => ?_) AllReadyH.nil
                go_simp
                try dsimp only
                refine hK.out _ _ ?_ (fun hHeld => ?_)
                · exact (by go_keep)
                clear hK K
                try simp only [Act.put, List.setIfInBounds_toArray, List.set_cons_zero, List.set_cons_succ, List.getElem_toArray, List.getElem_cons_zero, List.getElem_cons_succ]
                refine wpAnyH_done (by kernel_rfl) ?_ _
                go_simp
                have hRD : RD w (w22.alloc (.cells #[.int .i64 (ep : Int), .int .i64 (jo : Int), .int .i64 (bi : Int), .int .i64 (he : Int), .int .i64 (ne : Int)] 88)) M w22.heap.size ⟨ep, jo, bi, he, ne⟩ := ⟨HQ21.out.hB.trans ((HC22.out.alloc HC22.out.size _).mono HQ21.out.hB.size), heap_old ((HC22.out.block M (lt_of_block HM21.out)).trans HM21.out) _, heap_new w22 _⟩
                generalize w22.alloc (.cells #[.int .i64 (ep : Int), .int .i64 (jo : Int), .int .i64 (bi : Int), .int .i64 (he : Int), .int .i64 (ne : Int)] 88) = wz at hRD ⊢
                generalize w22.heap.size = N at hRD ⊢
                revert hRD
                revert wz N
                exact key.out
              · go_simp
                try dsimp only
                refine hK.out _ _ ?_ (fun hHeld => ?_)
                · exact (by go_keep)
                clear hK K
                try simp only [Act.put, List.setIfInBounds_toArray, List.set_cons_zero, List.set_cons_succ, List.getElem_toArray, List.getElem_cons_zero, List.getElem_cons_succ]
                refine wpAnyH_ready (rs := [7]) (by kernel_rfl) (by simp) ?_
                refine AllReadyH.cons (o := _) rfl (fun K hK => ?_) AllReadyH.nil
                go_simp
                go_at_call 66
                (with_reducible refine (KD.out _).mono ?_)
                rintro e22 w22 ⟨rfl, hB22⟩
                have hC22 : Below w21.heap.size w21 w22 := Below.trans (B := w21.heap.size) ((Below.refl _ w21).alloc (Nat.le_refl _) r5z) ((Below.undrew hB22).mono (by simp))
                have HC22 := hid hC22
                have hG22 := (hC22.block G hltG).trans HQ21.out.hG
                have j0 := cell_of_block hG22 0
                have j1 := cell_of_block hG22 1
                simp only [List.getElem?_toArray, List.getElem?_cons_zero, List.getElem?_cons_succ] at j0 j1
                have hN22 := ((Below.undrew hB22).block w21.heap.size (by simp)).trans (heap_new w21 r5z)
                obtain ⟨z0, z1, z2, z3, z4⟩ := sup_cells' hN22
                obtain ⟨y0, y1, y2, y3, y4⟩ := free_five hN22
                have HN22 := hid hN22
                clear hN22
                clear hB22 hG22 hC22
                try dsimp only
                refine hK.out _ _ ?_ (fun hHeld => ?_)
                · exact ⟨j0, j1⟩
                clear hK K
                try simp only [Act.put, List.setIfInBounds_toArray, List.set_cons_zero, List.set_cons_succ, List.getElem_toArray, List.getElem_cons_zero, List.getElem_cons_succ]
                refine wpAnyH_take (i := 8) (oi := _) (v := ?_) rfl (by kernel_rfl) (by kernel_rfl) (by kernel_rfl) (fun _ _ _ h => h) (Or.inl ⟨by rfl, ?_⟩) (by assumption) ?_
                rotate_left
                · intro w hSw
                  try dsimp only at hSw
                  go_simp
                  try with_reducible rfl
                try simp only [Act.put, List.setIfInBounds_toArray, List.set_cons_zero, List.set_cons_succ, List.getElem_toArray, List.getElem_cons_zero, List.getElem_cons_succ]
                refine wpAnyH_take (i := 9) (oi := _) (v := ?_) rfl (by kernel_rfl) (by kernel_rfl) (by kernel_rfl) (fun _ _ _ h => h) (Or.inl ⟨by rfl, ?_⟩) (by assumption) ?_
                rotate_left
                · intro w hSw
                  try dsimp only at hSw
                  go_simp
                  try with_reducible rfl
                try simp only [Act.put, List.setIfInBounds_toArray, List.set_cons_zero, List.set_cons_succ, List.getElem_toArray, List.getElem_cons_zero, List.getElem_cons_succ]
                refine wpAnyH_take (i := 10) (oi := _) (v := ?_) rfl (by kernel_rfl) (by kernel_rfl) (by kernel_rfl) (fun _ _ _ h => h) (Or.inl ⟨by rfl, ?_⟩) (by assumption) ?_
                rotate_left
                · intro w hSw
                  try dsimp only at hSw
                  go_simp
                  try with_reducible rfl
                try simp only [Act.put, List.setIfInBounds_toArray, List.set_cons_zero, List.set_cons_succ, List.getElem_toArray, List.getElem_cons_zero, List.getElem_cons_succ]
                have hne : w21.heap.size ≠ G := by omega
                refine wpAnyH_ready (rs := [12]) (by kernel_rfl) (by simp) ?_
                refine AllReadyH.cons (o := _) rfl (fun K hK => ?_) AllReadyH.nil
                go_simp
                try dsimp only
                refine hK.out _ _ ?_ (fun hHeld => ?_)
                · exact ⟨cellS (cellS (cellS (cellS (cellS j0 (p := ⟨w21.heap.size, 0, none⟩) hne _) (p := ⟨w21.heap.size, 1, none⟩) hne _) (p := ⟨w21.heap.size, 2, none⟩) hne _) (p := ⟨w21.heap.size, 3, none⟩) hne _) (p := ⟨w21.heap.size, 4, none⟩) hne _, cellS (cellS (cellS (cellS (cellS j1 (p := ⟨w21.heap.size, 0, none⟩) hne _) (p := ⟨w21.heap.size, 1, none⟩) hne _) (p := ⟨w21.heap.size, 2, none⟩) hne _) (p := ⟨w21.heap.size, 3, none⟩) hne _) (p := ⟨w21.heap.size, 4, none⟩) hne _⟩
                clear hK K
                try simp only [Act.put, List.setIfInBounds_toArray, List.set_cons_zero, List.set_cons_succ, List.getElem_toArray, List.getElem_cons_zero, List.getElem_cons_succ]
                refine wpAnyH_ready (rs := [13]) (by kernel_rfl) (by simp) ?_
                refine AllReadyH.cons (o := _) rfl (fun K hK => ?_) AllReadyH.nil
                go_simp
                try dsimp only
                refine hK.out _ _ ?_ (fun hHeld => ?_)
                · exact ⟨cellS (cellS (cellS (cellS (cellS j0 (p := ⟨w21.heap.size, 0, none⟩) hne _) (p := ⟨w21.heap.size, 1, none⟩) hne _) (p := ⟨w21.heap.size, 2, none⟩) hne _) (p := ⟨w21.heap.size, 3, none⟩) hne _) (p := ⟨w21.heap.size, 4, none⟩) hne _, cellS (cellS (cellS (cellS (cellS j1 (p := ⟨w21.heap.size, 0, none⟩) hne _) (p := ⟨w21.heap.size, 1, none⟩) hne _) (p := ⟨w21.heap.size, 2, none⟩) hne _) (p := ⟨w21.heap.size, 3, none⟩) hne _) (p := ⟨w21.heap.size, 4, none⟩) hne _⟩
                clear hK K
                try simp only [Act.put, List.setIfInBounds_toArray, List.set_cons_zero, List.set_cons_succ, List.getElem_toArray, List.getElem_cons_zero, List.getElem_cons_succ]
                refine wpAnyH_done (by kernel_rfl) ?_ _
                go_simp
                have hF22 := five_fr (w := w22) w21.heap.size (.int .i64 (ep : Int)) (.int .i64 (jo : Int)) (.int .i64 (bi : Int)) (.int .i64 (he : Int)) (.int .i64 (ne : Int))
                have hRD : RD w (((((w22.setCell ⟨w21.heap.size, 0, none⟩ (.int .i64 (ep : Int))).setCell ⟨w21.heap.size, 1, none⟩ (.int .i64 (jo : Int))).setCell ⟨w21.heap.size, 2, none⟩ (.int .i64 (bi : Int))).setCell ⟨w21.heap.size, 3, none⟩ (.int .i64 (he : Int))).setCell ⟨w21.heap.size, 4, none⟩ (.int .i64 (ne : Int))) M w21.heap.size ⟨ep, jo, bi, he, ne⟩ := ⟨(HQ21.out.hB.trans (HC22.out.mono HQ21.out.hB.size)).trans (hF22.below (by have h1 := HQ21.out.hB.size; have h2 := HC22.out.size; omega) (fun k hk e => by have h1 := HQ21.out.hB.size; omega)), hF22.heap ((HC22.out.block M (lt_of_block HM21.out)).trans HM21.out) (by have := lt_of_block HM21.out; omega), five_set HN22.out _ _ _ _ _⟩
                clear hF22
                generalize ((((w22.setCell ⟨w21.heap.size, 0, none⟩ (.int .i64 (ep : Int))).setCell ⟨w21.heap.size, 1, none⟩ (.int .i64 (jo : Int))).setCell ⟨w21.heap.size, 2, none⟩ (.int .i64 (bi : Int))).setCell ⟨w21.heap.size, 3, none⟩ (.int .i64 (he : Int))).setCell ⟨w21.heap.size, 4, none⟩ (.int .i64 (ne : Int)) = wz at hRD ⊢
                generalize w21.heap.size = N at hRD ⊢
                revert hRD
                revert wz N
                exact key.out
            intro wz N hRD
            clear k0 k1 KD HQ21 HM21 hltG HP
            obtain ⟨m0, m1, m2, m3, m4⟩ := sup_cells' hRD.hM
            obtain ⟨v0, v1, v2, v3, v4⟩ := sup_cells' hRD.hN
            dsimp only at m0 m1 m2 m3 m4 v0 v1 v2 v3 v4
            have HRD := hid hRD
            clear hRD
            go_upto_region 22 with fail
            go_region_held3 (fun w' => w'.cell? ⟨M, 0, none⟩ = some (.int .u32 (ep : Int)) ∧ w'.cell? ⟨M, 1, none⟩ = some (.int .i64 (jo : Int)) ∧ w'.cell? ⟨M, 2, none⟩ = some (.int .i64 (bi : Int)) ∧ w'.cell? ⟨M, 3, none⟩ = some (.int .i64 (he : Int)) ∧ w'.cell? ⟨M, 4, none⟩ = some (.int .u32 (ne : Int)) ∧ w'.cell? ⟨N, 0, none⟩ = some (.int .i64 (ep : Int)) ∧ w'.cell? ⟨N, 1, none⟩ = some (.int .i64 (jo : Int)) ∧ w'.cell? ⟨N, 2, none⟩ = some (.int .i64 (bi : Int)) ∧ w'.cell? ⟨N, 3, none⟩ = some (.int .i64 (he : Int)) ∧ w'.cell? ⟨N, 4, none⟩ = some (.int .i64 (ne : Int)))
              (first | go_keep | exact ⟨m0, m1, m2, m3, m4, v0, v1, v2, v3, v4⟩ | exact ⟨s0, s1, s2, s3, s4, t0, t1, t2, t3, t4⟩)
              (first | (go_at_call 59; (with_reducible refine (KO.out wz.drew).mono ?_); rintro e30 w30 ⟨rfl, hB30⟩; have hC30 := Below.undrew hB30; have hM30 := (hC30.block M (lt_of_block HRD.out.hM)).trans HRD.out.hM; have hN30 := (hC30.block N (lt_of_block HRD.out.hN)).trans HRD.out.hN; obtain ⟨s0, s1, s2, s3, s4⟩ := sup_cells' hM30; obtain ⟨t0, t1, t2, t3, t4⟩ := sup_cells' hN30; dsimp only at s0 s1 s2 s3 s4 t0 t1 t2 t3 t4; have HC30 := hid (HRD.out.hB.trans (hC30.mono HRD.out.hB.size)); clear hB30 hC30 hM30 hN30))
            go_wp2_with fail
            go_ret
            exact ⟨rfl, HC30.out⟩
    · have d1 : decide ((q2 : Int) = 2) = false := by simp; omega
      have d1b : ((q2 : Int) == 2) = false := by simp; omega
      go_upto_region 9 with fail
      clear HYa
      go_upto_region 10 with (go_at_call 43; (with_reducible refine (disk_new (n : Int) n wa8 (by omega)).mono ?_); rintro e9 w9 ⟨rfl, g, hD9, hg9, hB9⟩; have HB9 := hid hB9; have HD9 := hid hD9; have Hg9 := hid hg9; clear hB9 hD9 hg9)
      have hL : LW w w9 G wa8.heap.size g m0a m1a (Dsk.new n) := by
        have h1 := lt_of_block HGa.out
        have h2 := HD9.out.hg
        have h3 := HBa.out.size
        exact ⟨HBa.out.trans (HB9.out.mono h3), (HB9.out.block G h1).trans HGa.out, HD9.out, Hg9.out, by rintro (e | e) <;> omega, h3, hGw⟩
      generalize wa8.heap.size = bd at *
      have hLa : (m0a).length ≤ 64 := hm0a
      have hLb : (m1a).length ≤ 64 := hm1a
      generalize m0a = La at *
      generalize m1a = Lb at *
      have HL := hid hL
      clear hL HB9 HD9 Hg9 HGa HBa
      go_wp2_with fail
      go_loopw [57] (fun iv wr => ∃ q : Nat, q ≤ 2 ∧ iv = .int .i64 q ∧ LW w wr G bd g (if 0 < q then pad La else La) (if 1 < q then pad Lb else Lb) (dq n La Lb q)) (fun iv _ => 2 - lenOf7 iv)
      case atStart => exact ⟨0, by omega, rfl, HL.out⟩
      case round =>
        obtain ⟨q, hq, rfl, hP⟩ := hrel
        clear HL
        have h3 : q = 0 ∨ q = 1 ∨ q = 2 := by omega
        rcases h3 with rfl | rfl | rfl
        · have hP : LW w wr G bd g La Lb (Dsk.new n) := hP
          have HP := hid hP
          have k0 := cell_of_block hP.hG 0
          have k1 := cell_of_block hP.hG 1
          simp only [List.getElem?_toArray, List.getElem?_cons_zero, List.getElem?_cons_succ] at k0 k1
          have KW : Hid (Calls Tryd.prog 52 #[.pointer (some ⟨bd, 0, none⟩), .int .i64 0, .string (S La)] wr fun e w' => e = .returned (.int .i64 0) ∧ DiskEnd wr bd bd g ((Dsk.new n).put7 0 La) w') := hid (write7q 0 La wr hP.hD hP.hg ⟨rfl, rfl⟩ hLa (by show 0 < n; omega))
          clear hP
          go_wp2_with (go_at_call 52; (with_reducible refine KW.out.mono ?_); rintro e13 w13 ⟨rfl, hE13⟩; have HP13 := hid (HP.out.disk hE13); clear hE13 k0 k1)
          go_loopw [] (fun wi => ∃ m : List UInt8, m.length ≤ 64 ∧ pad m = pad La ∧ LW w wi G bd g (m) (Lb) ((Dsk.new n).put7 0 La)) (fun wi => 64 - lenAt wi G 0)
          case atStart => exact ⟨La, hLa, rfl, HP13.out⟩
          case round =>
            obtain ⟨m, hm, hpm, hQ⟩ := hrel
            have k0 := cell_of_block hQ.hG 0
            have k1 := cell_of_block hQ.hG 1
            simp only [List.getElem?_toArray, List.getElem?_cons_zero, List.getElem?_cons_succ] at k0 k1
            have f0 := free_of_block hQ.hG 0
            have HQ := hid hQ
            have hsm := S_size m
            have Hpm := hid hpm
            clear hQ hpm HP HP13 KW
            by_cases hlt : m.length < 64
            · have d1 : decide ((m.length : Int) < 64) = true := by simp; omega
              have hadd : ∀ w, (Op.stringOp .add (S m) ⟨#[0]⟩).run Tryd.prog w = .ok (.string (S (m ++ [0]))) w := fun w => str_add m [0] (by omega) (by simp) w
              go_wp2_with fail
              have hQ2 := HQ.out.set0 (m ++ [0])
              have kq := cell_of_block hQ2.hG 0
              simp only [List.getElem?_toArray, List.getElem?_cons_zero, List.getElem?_cons_succ] at kq
              refine ⟨⟨m ++ [0], by simp; omega, by rw [pad_snoc hlt]; exact Hpm.out, hQ2⟩, ?_⟩
              rw [lenAt_is kq, lenAt_is k0, S_size, S_size, List.length_append, List.length_singleton]
              omega
            · have hm64 : m.length = 64 := by omega
              have d1 : decide ((m.length : Int) < 64) = false := by simp; omega
              go_wp2_with fail
              refine ⟨⟨1, by omega, by go_num, ?_⟩, by simp [lenOf7]⟩
              have hmp : m = pad La := by rw [← Hpm.out, pad_full hm64]
              have h := HQ.out
              rw [hmp] at h
              exact h
        · have hP : LW w wr G bd g (pad La) Lb ((Dsk.new n).put7 0 La) := hP
          have HP := hid hP
          have k0 := cell_of_block hP.hG 0
          have k1 := cell_of_block hP.hG 1
          simp only [List.getElem?_toArray, List.getElem?_cons_zero, List.getElem?_cons_succ] at k0 k1
          have KW : Hid (Calls Tryd.prog 52 #[.pointer (some ⟨bd, 0, none⟩), .int .i64 1, .string (S Lb)] wr fun e w' => e = .returned (.int .i64 0) ∧ DiskEnd wr bd bd g (((Dsk.new n).put7 0 La).put7 1 Lb) w') := hid (write7q 1 Lb wr hP.hD hP.hg ⟨rfl, rfl⟩ hLb (by show 1 < n; omega))
          clear hP
          go_wp2_with (go_at_call 52; (with_reducible refine KW.out.mono ?_); rintro e13 w13 ⟨rfl, hE13⟩; have HP13 := hid (HP.out.disk hE13); clear hE13 k0 k1)
          go_loopw [] (fun wi => ∃ m : List UInt8, m.length ≤ 64 ∧ pad m = pad Lb ∧ LW w wi G bd g (pad La) (m) (((Dsk.new n).put7 0 La).put7 1 Lb)) (fun wi => 64 - lenAt wi G 1)
          case atStart => exact ⟨Lb, hLb, rfl, HP13.out⟩
          case round =>
            obtain ⟨m, hm, hpm, hQ⟩ := hrel
            have k0 := cell_of_block hQ.hG 0
            have k1 := cell_of_block hQ.hG 1
            simp only [List.getElem?_toArray, List.getElem?_cons_zero, List.getElem?_cons_succ] at k0 k1
            have f0 := free_of_block hQ.hG 1
            have HQ := hid hQ
            have hsm := S_size m
            have Hpm := hid hpm
            clear hQ hpm HP HP13 KW
            by_cases hlt : m.length < 64
            · have d1 : decide ((m.length : Int) < 64) = true := by simp; omega
              have hadd : ∀ w, (Op.stringOp .add (S m) ⟨#[0]⟩).run Tryd.prog w = .ok (.string (S (m ++ [0]))) w := fun w => str_add m [0] (by omega) (by simp) w
              go_wp2_with fail
              have hQ2 := HQ.out.set1 (m ++ [0])
              have kq := cell_of_block hQ2.hG 1
              simp only [List.getElem?_toArray, List.getElem?_cons_zero, List.getElem?_cons_succ] at kq
              refine ⟨⟨m ++ [0], by simp; omega, by rw [pad_snoc hlt]; exact Hpm.out, hQ2⟩, ?_⟩
              rw [lenAt_is kq, lenAt_is k1, S_size, S_size, List.length_append, List.length_singleton]
              omega
            · have hm64 : m.length = 64 := by omega
              have d1 : decide ((m.length : Int) < 64) = false := by simp; omega
              go_wp2_with fail
              refine ⟨⟨2, by omega, by go_num, ?_⟩, by simp [lenOf7]⟩
              have hmp : m = pad Lb := by rw [← Hpm.out, pad_full hm64]
              have h := HQ.out
              rw [hmp] at h
              exact h
        · have hP : LW w wr G bd g (pad La) (pad Lb) (((Dsk.new n).put7 0 La).put7 1 Lb) := hP
          have HP := hid hP
          have hdn2 : (((Dsk.new n).put7 0 La).put7 1 Lb).n = n := rfl
          have hdd2 : (((Dsk.new n).put7 0 La).put7 1 Lb).dead = false := rfl
          have hbd := best_doc (D := ((Dsk.new n).put7 0 La).put7 1 Lb) hn2
          have e0 : (((Dsk.new n).put7 0 La).put7 1 Lb).now 0 = pad La := rfl
          have e1 : (((Dsk.new n).put7 0 La).put7 1 Lb).now 1 = pad Lb := rfl
          rw [e0, e1, hdn2] at hbd
          have hP0 : (pad La).length = 64 := pad_length hLa
          have hP1 : (pad Lb).length = 64 := pad_length hLb
          clear hP e0 e1
          generalize ((Dsk.new n).put7 0 La).put7 1 Lb = E at *
          generalize pad La = P0 at *
          generalize pad Lb = P1 at *
          cases hdoc : docRead P0 P1 n with
          | none =>
            have hbest : E.best = sup0 := by rw [hbd, hdoc]; rfl
            have hber : E.bErr = 1 := by unfold Dsk.bErr; rw [hbest]; rfl
            clear hbd
            have KR : Hid (Calls Tryd.prog 63 #[.pointer (some ⟨bd, 0, none⟩)] wr fun e w' => e = .returned (.tuple #[.agg #[.int .u32 0, .int .i64 0, .int .i64 0, .int .i64 0, .int .u32 0], .int .i64 1]) ∧ Below wr.heap.size wr w') := hid (by have h := lread7 wr HP.out.hD hdd2 sup0 hbest; rw [hber] at h; exact h)
            have KD : Hid (∀ w, Calls Tryd.prog 66 #[.string (S P0), .string (S P1), .int .i64 (n : Int)] w fun e w' => e = .returned (.tuple #[.agg #[.int .i64 0, .int .i64 0, .int .i64 0, .int .i64 0, .int .i64 0], .bool false]) ∧ Below w.heap.size w w') := hid (fun w => ref7_read P0 P1 n sup0 false w hP0 hP1 (by omega) (by rw [hdoc]; rfl) (by rw [hdoc]; rfl))
            clear hbest hber hdoc hdd2 hdn2
            go_upto_region 19 with (go_at_call 63; (with_reducible refine KR.out.mono ?_); rintro e20 w20 ⟨rfl, hB20⟩; have HQ20 := hid (HP.out.below hB20); clear hB20)
            have hM21 := heap_new w20 (.cells #[.int .u32 0, .int .i64 0, .int .i64 0, .int .i64 0, .int .u32 0] 91)
            have HQ21 := hid (HQ20.out.below ((Below.refl _ w20).alloc (Nat.le_refl _) (.cells #[.int .u32 0, .int .i64 0, .int .i64 0, .int .i64 0, .int .u32 0] 91)))
            generalize w20.alloc (.cells #[.int .u32 0, .int .i64 0, .int .i64 0, .int .i64 0, .int .u32 0] 91) = w21 at *
            generalize w20.heap.size = M at *
            have HM21 := hid hM21
            have hltG := lt_of_block HQ21.out.hG
            have k0 := cell_of_block HQ21.out.hG 0
            have k1 := cell_of_block HQ21.out.hG 1
            simp only [List.getElem?_toArray, List.getElem?_cons_zero, List.getElem?_cons_succ] at k0 k1
            clear hM21 KR HQ20
            apply shared7
            · intro key
              refine wp_region_held_drew (S := fun w' => w'.cell? ⟨G, 0, none⟩ = some (.string (S P0)) ∧ w'.cell? ⟨G, 1, none⟩ = some (.string (S P1))) (by kernel_rfl) ⟨k0, k1⟩ (fun hHeld => ?_)
              refine wpAnyH_take (i := 0) (oi := _) (v := ?_) rfl (by kernel_rfl) (by kernel_rfl) (by kernel_rfl) (fun _ _ _ h => h) (Or.inl ⟨by rfl, ?_⟩) (by assumption) ?_
              rotate_left
              · intro w hSw
                try dsimp only at hSw
                go_simp
                try with_reducible rfl
              try simp only [Act.put, List.setIfInBounds_toArray, List.set_cons_zero, List.set_cons_succ, List.getElem_toArray, List.getElem_cons_zero, List.getElem_cons_succ]
              refine wpAnyH_take (i := 1) (oi := _) (v := ?_) rfl (by kernel_rfl) (by kernel_rfl) (by kernel_rfl) (fun _ _ _ h => h) (Or.inl ⟨by rfl, ?_⟩) (by assumption) ?_
              rotate_left
              · intro w hSw
                try dsimp only at hSw
                go_simp
                try with_reducible rfl
              try simp only [Act.put, List.setIfInBounds_toArray, List.set_cons_zero, List.set_cons_succ, List.getElem_toArray, List.getElem_cons_zero, List.getElem_cons_succ]
              refine wpAnyH_take (i := 2) (oi := _) (v := ?_) rfl (by kernel_rfl) (by kernel_rfl) (by kernel_rfl) (fun _ _ _ h => h) (Or.inl ⟨by rfl, ?_⟩) (by assumption) ?_
              rotate_left
              · intro w hSw
                try dsimp only at hSw
                go_simp
                try with_reducible rfl
              try simp only [Act.put, List.setIfInBounds_toArray, List.set_cons_zero, List.set_cons_succ, List.getElem_toArray, List.getElem_cons_zero, List.getElem_cons_succ]
              refine wpAnyH_take (i := 3) (oi := _) (v := ?_) rfl (by kernel_rfl) (by kernel_rfl) (by kernel_rfl) (fun _ _ _ h => h) (Or.inl ⟨by rfl, ?_⟩) (by assumption) ?_
              rotate_left
              · intro w hSw
                try dsimp only at hSw
                go_simp
                try with_reducible rfl
              try simp only [Act.put, List.setIfInBounds_toArray, List.set_cons_zero, List.set_cons_succ, List.getElem_toArray, List.getElem_cons_zero, List.getElem_cons_succ]
              refine wpAnyH_take (i := 4) (oi := _) (v := ?_) rfl (by kernel_rfl) (by kernel_rfl) (by kernel_rfl) (fun _ _ _ h => h) (Or.inl ⟨by rfl, ?_⟩) (by assumption) ?_
              rotate_left
              · intro w hSw
                try dsimp only at hSw
                go_simp
                try with_reducible rfl
              try simp only [Act.put, List.setIfInBounds_toArray, List.set_cons_zero, List.set_cons_succ, List.getElem_toArray, List.getElem_cons_zero, List.getElem_cons_succ]
              refine wpAnyH_take (i := 5) (oi := _) (v := ?_) rfl (by kernel_rfl) (by kernel_rfl) (by kernel_rfl) (fun _ _ _ h => h) (Or.inl ⟨by rfl, ?_⟩) (by assumption) ?_
              rotate_left
              · intro w hSw
                try dsimp only at hSw
                go_simp
                try with_reducible rfl
              try simp only [Act.put, List.setIfInBounds_toArray, List.set_cons_zero, List.set_cons_succ, List.getElem_toArray, List.getElem_cons_zero, List.getElem_cons_succ]
              refine wpAnyH_take (i := 6) (oi := _) (v := ?_) rfl (by kernel_rfl) (by kernel_rfl) (by kernel_rfl) (fun _ _ _ h => h) (Or.inl ⟨by rfl, ?_⟩) (by assumption) ?_
              rotate_left
              · intro w hSw
                try dsimp only at hSw
                go_simp
                try with_reducible rfl
              try simp only [Act.put, List.setIfInBounds_toArray, List.set_cons_zero, List.set_cons_succ, List.getElem_toArray, List.getElem_cons_zero, List.getElem_cons_succ]
              refine wpAnyH_ready (rs := [7, 11]) (by kernel_rfl) (by simp) ?_
              refine AllReadyH.cons (o := _) rfl (fun K hK => ?_) (AllReadyH.cons (o := _) rfl (fun K hK => ?_) AllReadyH.nil)
              · go_simp
                go_at_call 66
                (with_reducible refine (KD.out _).mono ?_)
                rintro e22 w22 ⟨rfl, hB22⟩
                have hC22 : Below w21.heap.size w21 w22 := Below.undrew hB22
                have HC22 := hid hC22
                have hG22 := (hC22.block G hltG).trans HQ21.out.hG
                have j0 := cell_of_block hG22 0
                have j1 := cell_of_block hG22 1
                simp only [List.getElem?_toArray, List.getElem?_cons_zero, List.getElem?_cons_succ] at j0 j1
                clear hB22 hG22 hC22
                try dsimp only
                refine hK.out _ _ ?_ (fun hHeld => ?_)
                · exact ⟨j0, j1⟩
                clear hK K
                try simp only [Act.put, List.setIfInBounds_toArray, List.set_cons_zero, List.set_cons_succ, List.getElem_toArray, List.getElem_cons_zero, List.getElem_cons_succ]
                refine wpAnyH_take (i := 8) (oi := _) (v := ?_) rfl (by kernel_rfl) (by kernel_rfl) (by kernel_rfl) (fun _ _ _ h => h) (Or.inl ⟨by rfl, ?_⟩) (by assumption) ?_
                rotate_left
                · intro w hSw
                  try dsimp only at hSw
                  go_simp
                  try with_reducible rfl
                try simp only [Act.put, List.setIfInBounds_toArray, List.set_cons_zero, List.set_cons_succ, List.getElem_toArray, List.getElem_cons_zero, List.getElem_cons_succ]
                refine wpAnyH_take (i := 9) (oi := _) (v := ?_) rfl (by kernel_rfl) (by kernel_rfl) (by kernel_rfl) (fun _ _ _ h => h) (Or.inl ⟨by rfl, ?_⟩) (by assumption) ?_
                rotate_left
                · intro w hSw
                  try dsimp only at hSw
                  go_simp
                  try with_reducible rfl
                try simp only [Act.put, List.setIfInBounds_toArray, List.set_cons_zero, List.set_cons_succ, List.getElem_toArray, List.getElem_cons_zero, List.getElem_cons_succ]
                refine wpAnyH_take (i := 10) (oi := _) (v := ?_) rfl (by kernel_rfl) (by kernel_rfl) (by kernel_rfl) (fun _ _ _ h => h) (Or.inl ⟨by rfl, ?_⟩) (by assumption) ?_
                rotate_left
                · intro w hSw
                  try dsimp only at hSw
                  go_simp
                  try with_reducible rfl
                try simp only [Act.put, List.setIfInBounds_toArray, List.set_cons_zero, List.set_cons_succ, List.getElem_toArray, List.getElem_cons_zero, List.getElem_cons_succ]
                refine wpAnyH_ready (rs := [11]) (by kernel_rfl) (by simp) ?_
                refine AllReadyH.cons (o := _) rfl (fun K hK => ?_) AllReadyH.nil
                go_simp
                try dsimp only
                refine hK.out _ _ ?_ (fun hHeld => ?_)
                · exact (by go_keep)
                clear hK K
                try simp only [Act.put, List.setIfInBounds_toArray, List.set_cons_zero, List.set_cons_succ, List.getElem_toArray, List.getElem_cons_zero, List.getElem_cons_succ]
                refine wpAnyH_ready (rs := [12]) (by kernel_rfl) (by simp) ?_
                refine AllReadyH.cons (o := _) rfl (fun K hK => ?_) AllReadyH.nil
                go_simp
                try dsimp only
                refine hK.out _ _ ?_ (fun hHeld => ?_)
                · exact (by go_keep)
                clear hK K
                try simp only [Act.put, List.setIfInBounds_toArray, List.set_cons_zero, List.set_cons_succ, List.getElem_toArray, List.getElem_cons_zero, List.getElem_cons_succ]
                refine wpAnyH_ready (rs := [13]) (by kernel_rfl) (by simp) ?_
                refine AllReadyH.cons (o := _) rfl (fun K hK => ?_) AllReadyH.nil
                go_simp
                try dsimp only
                refine hK.out _ _ ?_ (fun hHeld => ?_)
                · exact (by go_keep)
                clear hK K
                try simp only [Act.put, List.setIfInBounds_toArray, List.set_cons_zero, List.set_cons_succ, List.getElem_toArray, List.getElem_cons_zero, List.getElem_cons_succ]
                refine wpAnyH_done (by kernel_rfl) ?_ _
                go_simp
                have hRD : RD w (w22.alloc (.cells #[.int .i64 0, .int .i64 0, .int .i64 0, .int .i64 0, .int .i64 0] 88)) M w22.heap.size sup0 := ⟨HQ21.out.hB.trans ((HC22.out.alloc HC22.out.size _).mono HQ21.out.hB.size), heap_old ((HC22.out.block M (lt_of_block HM21.out)).trans HM21.out) _, heap_new w22 _⟩
                generalize w22.alloc (.cells #[.int .i64 0, .int .i64 0, .int .i64 0, .int .i64 0, .int .i64 0] 88) = wz at hRD ⊢
                generalize w22.heap.size = N at hRD ⊢
                revert hRD
                revert wz N
                exact key.out
              · go_simp
                try dsimp only
                refine hK.out _ _ ?_ (fun hHeld => ?_)
                · exact (by go_keep)
                clear hK K
                try simp only [Act.put, List.setIfInBounds_toArray, List.set_cons_zero, List.set_cons_succ, List.getElem_toArray, List.getElem_cons_zero, List.getElem_cons_succ]
                refine wpAnyH_ready (rs := [7]) (by kernel_rfl) (by simp) ?_
                refine AllReadyH.cons (o := _) rfl (fun K hK => ?_) AllReadyH.nil
                go_simp
                go_at_call 66
                (with_reducible refine (KD.out _).mono ?_)
                rintro e22 w22 ⟨rfl, hB22⟩
                have hC22 : Below w21.heap.size w21 w22 := Below.trans (B := w21.heap.size) ((Below.refl _ w21).alloc (Nat.le_refl _) r5z) ((Below.undrew hB22).mono (by simp))
                have HC22 := hid hC22
                have hG22 := (hC22.block G hltG).trans HQ21.out.hG
                have j0 := cell_of_block hG22 0
                have j1 := cell_of_block hG22 1
                simp only [List.getElem?_toArray, List.getElem?_cons_zero, List.getElem?_cons_succ] at j0 j1
                have hN22 := ((Below.undrew hB22).block w21.heap.size (by simp)).trans (heap_new w21 r5z)
                obtain ⟨z0, z1, z2, z3, z4⟩ := sup_cells' hN22
                obtain ⟨y0, y1, y2, y3, y4⟩ := free_five hN22
                have HN22 := hid hN22
                clear hN22
                clear hB22 hG22 hC22
                try dsimp only
                refine hK.out _ _ ?_ (fun hHeld => ?_)
                · exact ⟨j0, j1⟩
                clear hK K
                try simp only [Act.put, List.setIfInBounds_toArray, List.set_cons_zero, List.set_cons_succ, List.getElem_toArray, List.getElem_cons_zero, List.getElem_cons_succ]
                refine wpAnyH_take (i := 8) (oi := _) (v := ?_) rfl (by kernel_rfl) (by kernel_rfl) (by kernel_rfl) (fun _ _ _ h => h) (Or.inl ⟨by rfl, ?_⟩) (by assumption) ?_
                rotate_left
                · intro w hSw
                  try dsimp only at hSw
                  go_simp
                  try with_reducible rfl
                try simp only [Act.put, List.setIfInBounds_toArray, List.set_cons_zero, List.set_cons_succ, List.getElem_toArray, List.getElem_cons_zero, List.getElem_cons_succ]
                refine wpAnyH_take (i := 9) (oi := _) (v := ?_) rfl (by kernel_rfl) (by kernel_rfl) (by kernel_rfl) (fun _ _ _ h => h) (Or.inl ⟨by rfl, ?_⟩) (by assumption) ?_
                rotate_left
                · intro w hSw
                  try dsimp only at hSw
                  go_simp
                  try with_reducible rfl
                try simp only [Act.put, List.setIfInBounds_toArray, List.set_cons_zero, List.set_cons_succ, List.getElem_toArray, List.getElem_cons_zero, List.getElem_cons_succ]
                refine wpAnyH_take (i := 10) (oi := _) (v := ?_) rfl (by kernel_rfl) (by kernel_rfl) (by kernel_rfl) (fun _ _ _ h => h) (Or.inl ⟨by rfl, ?_⟩) (by assumption) ?_
                rotate_left
                · intro w hSw
                  try dsimp only at hSw
                  go_simp
                  try with_reducible rfl
                try simp only [Act.put, List.setIfInBounds_toArray, List.set_cons_zero, List.set_cons_succ, List.getElem_toArray, List.getElem_cons_zero, List.getElem_cons_succ]
                have hne : w21.heap.size ≠ G := by omega
                refine wpAnyH_ready (rs := [12]) (by kernel_rfl) (by simp) ?_
                refine AllReadyH.cons (o := _) rfl (fun K hK => ?_) AllReadyH.nil
                go_simp
                try dsimp only
                refine hK.out _ _ ?_ (fun hHeld => ?_)
                · exact ⟨cellS (cellS (cellS (cellS (cellS j0 (p := ⟨w21.heap.size, 0, none⟩) hne _) (p := ⟨w21.heap.size, 1, none⟩) hne _) (p := ⟨w21.heap.size, 2, none⟩) hne _) (p := ⟨w21.heap.size, 3, none⟩) hne _) (p := ⟨w21.heap.size, 4, none⟩) hne _, cellS (cellS (cellS (cellS (cellS j1 (p := ⟨w21.heap.size, 0, none⟩) hne _) (p := ⟨w21.heap.size, 1, none⟩) hne _) (p := ⟨w21.heap.size, 2, none⟩) hne _) (p := ⟨w21.heap.size, 3, none⟩) hne _) (p := ⟨w21.heap.size, 4, none⟩) hne _⟩
                clear hK K
                try simp only [Act.put, List.setIfInBounds_toArray, List.set_cons_zero, List.set_cons_succ, List.getElem_toArray, List.getElem_cons_zero, List.getElem_cons_succ]
                refine wpAnyH_ready (rs := [13]) (by kernel_rfl) (by simp) ?_
                refine AllReadyH.cons (o := _) rfl (fun K hK => ?_) AllReadyH.nil
                go_simp
                try dsimp only
                refine hK.out _ _ ?_ (fun hHeld => ?_)
                · exact ⟨cellS (cellS (cellS (cellS (cellS j0 (p := ⟨w21.heap.size, 0, none⟩) hne _) (p := ⟨w21.heap.size, 1, none⟩) hne _) (p := ⟨w21.heap.size, 2, none⟩) hne _) (p := ⟨w21.heap.size, 3, none⟩) hne _) (p := ⟨w21.heap.size, 4, none⟩) hne _, cellS (cellS (cellS (cellS (cellS j1 (p := ⟨w21.heap.size, 0, none⟩) hne _) (p := ⟨w21.heap.size, 1, none⟩) hne _) (p := ⟨w21.heap.size, 2, none⟩) hne _) (p := ⟨w21.heap.size, 3, none⟩) hne _) (p := ⟨w21.heap.size, 4, none⟩) hne _⟩
                clear hK K
                try simp only [Act.put, List.setIfInBounds_toArray, List.set_cons_zero, List.set_cons_succ, List.getElem_toArray, List.getElem_cons_zero, List.getElem_cons_succ]
                refine wpAnyH_done (by kernel_rfl) ?_ _
                go_simp
                have hF22 := five_fr (w := w22) w21.heap.size (.int .i64 0) (.int .i64 0) (.int .i64 0) (.int .i64 0) (.int .i64 0)
                have hRD : RD w (((((w22.setCell ⟨w21.heap.size, 0, none⟩ (.int .i64 0)).setCell ⟨w21.heap.size, 1, none⟩ (.int .i64 0)).setCell ⟨w21.heap.size, 2, none⟩ (.int .i64 0)).setCell ⟨w21.heap.size, 3, none⟩ (.int .i64 0)).setCell ⟨w21.heap.size, 4, none⟩ (.int .i64 0)) M w21.heap.size sup0 := ⟨(HQ21.out.hB.trans (HC22.out.mono HQ21.out.hB.size)).trans (hF22.below (by have h1 := HQ21.out.hB.size; have h2 := HC22.out.size; omega) (fun k hk e => by have h1 := HQ21.out.hB.size; omega)), hF22.heap ((HC22.out.block M (lt_of_block HM21.out)).trans HM21.out) (by have := lt_of_block HM21.out; omega), five_set HN22.out _ _ _ _ _⟩
                clear hF22
                generalize ((((w22.setCell ⟨w21.heap.size, 0, none⟩ (.int .i64 0)).setCell ⟨w21.heap.size, 1, none⟩ (.int .i64 0)).setCell ⟨w21.heap.size, 2, none⟩ (.int .i64 0)).setCell ⟨w21.heap.size, 3, none⟩ (.int .i64 0)).setCell ⟨w21.heap.size, 4, none⟩ (.int .i64 0) = wz at hRD ⊢
                generalize w21.heap.size = N at hRD ⊢
                revert hRD
                revert wz N
                exact key.out
            intro wz N hRD
            clear k0 k1 KD HQ21 HM21 hltG HP
            obtain ⟨m0, m1, m2, m3, m4⟩ := sup_cells' hRD.hM
            change wz.cell? _ = some (.int .u32 0) at m0
            change wz.cell? _ = some (.int .i64 0) at m1
            change wz.cell? _ = some (.int .i64 0) at m2
            change wz.cell? _ = some (.int .i64 0) at m3
            change wz.cell? _ = some (.int .u32 0) at m4
            have HRD := hid hRD
            clear hRD
            go_wp2_with fail
            go_ret
            exact ⟨rfl, HRD.out.hB⟩
          | some x =>
            have hep := docRead_ep hdoc
            have hxs := docRead_small hdoc
            have hbest : E.best = x := by rw [hbd, hdoc]; rfl
            have hber : E.bErr = 0 := by unfold Dsk.bErr; rw [hbest]; exact if_neg (by omega)
            obtain ⟨ep, jo, bi, he, ne⟩ := x
            have KO := hid (fun w => own7_any ep jo bi he ne w hxs.ep hxs.ne)
            clear hbd hep hxs
            have KR : Hid (Calls Tryd.prog 63 #[.pointer (some ⟨bd, 0, none⟩)] wr fun e w' => e = .returned (.tuple #[.agg #[.int .u32 (ep : Int), .int .i64 (jo : Int), .int .i64 (bi : Int), .int .i64 (he : Int), .int .u32 (ne : Int)], .int .i64 0]) ∧ Below wr.heap.size wr w') := hid (by have h := lread7 wr HP.out.hD hdd2 ⟨ep, jo, bi, he, ne⟩ hbest; rw [hber] at h; exact h)
            have KD : Hid (∀ w, Calls Tryd.prog 66 #[.string (S P0), .string (S P1), .int .i64 (n : Int)] w fun e w' => e = .returned (.tuple #[.agg #[.int .i64 (ep : Int), .int .i64 (jo : Int), .int .i64 (bi : Int), .int .i64 (he : Int), .int .i64 (ne : Int)], .bool true]) ∧ Below w.heap.size w w') := hid (fun w => ref7_read P0 P1 n ⟨ep, jo, bi, he, ne⟩ true w hP0 hP1 (by omega) (by rw [hdoc]; rfl) (by rw [hdoc]; rfl))
            clear hbest hber hdoc hdd2 hdn2
            go_upto_region 19 with (go_at_call 63; (with_reducible refine KR.out.mono ?_); rintro e20 w20 ⟨rfl, hB20⟩; have HQ20 := hid (HP.out.below hB20); clear hB20)
            have hM21 := heap_new w20 (.cells #[.int .u32 (ep : Int), .int .i64 (jo : Int), .int .i64 (bi : Int), .int .i64 (he : Int), .int .u32 (ne : Int)] 91)
            have HQ21 := hid (HQ20.out.below ((Below.refl _ w20).alloc (Nat.le_refl _) (.cells #[.int .u32 (ep : Int), .int .i64 (jo : Int), .int .i64 (bi : Int), .int .i64 (he : Int), .int .u32 (ne : Int)] 91)))
            generalize w20.alloc (.cells #[.int .u32 (ep : Int), .int .i64 (jo : Int), .int .i64 (bi : Int), .int .i64 (he : Int), .int .u32 (ne : Int)] 91) = w21 at *
            generalize w20.heap.size = M at *
            have HM21 := hid hM21
            have hltG := lt_of_block HQ21.out.hG
            have k0 := cell_of_block HQ21.out.hG 0
            have k1 := cell_of_block HQ21.out.hG 1
            simp only [List.getElem?_toArray, List.getElem?_cons_zero, List.getElem?_cons_succ] at k0 k1
            clear hM21 KR HQ20
            apply shared7
            · intro key
              refine wp_region_held_drew (S := fun w' => w'.cell? ⟨G, 0, none⟩ = some (.string (S P0)) ∧ w'.cell? ⟨G, 1, none⟩ = some (.string (S P1))) (by kernel_rfl) ⟨k0, k1⟩ (fun hHeld => ?_)
              refine wpAnyH_take (i := 0) (oi := _) (v := ?_) rfl (by kernel_rfl) (by kernel_rfl) (by kernel_rfl) (fun _ _ _ h => h) (Or.inl ⟨by rfl, ?_⟩) (by assumption) ?_
              rotate_left
              · intro w hSw
                try dsimp only at hSw
                go_simp
                try with_reducible rfl
              try simp only [Act.put, List.setIfInBounds_toArray, List.set_cons_zero, List.set_cons_succ, List.getElem_toArray, List.getElem_cons_zero, List.getElem_cons_succ]
              refine wpAnyH_take (i := 1) (oi := _) (v := ?_) rfl (by kernel_rfl) (by kernel_rfl) (by kernel_rfl) (fun _ _ _ h => h) (Or.inl ⟨by rfl, ?_⟩) (by assumption) ?_
              rotate_left
              · intro w hSw
                try dsimp only at hSw
                go_simp
                try with_reducible rfl
              try simp only [Act.put, List.setIfInBounds_toArray, List.set_cons_zero, List.set_cons_succ, List.getElem_toArray, List.getElem_cons_zero, List.getElem_cons_succ]
              refine wpAnyH_take (i := 2) (oi := _) (v := ?_) rfl (by kernel_rfl) (by kernel_rfl) (by kernel_rfl) (fun _ _ _ h => h) (Or.inl ⟨by rfl, ?_⟩) (by assumption) ?_
              rotate_left
              · intro w hSw
                try dsimp only at hSw
                go_simp
                try with_reducible rfl
              try simp only [Act.put, List.setIfInBounds_toArray, List.set_cons_zero, List.set_cons_succ, List.getElem_toArray, List.getElem_cons_zero, List.getElem_cons_succ]
              refine wpAnyH_take (i := 3) (oi := _) (v := ?_) rfl (by kernel_rfl) (by kernel_rfl) (by kernel_rfl) (fun _ _ _ h => h) (Or.inl ⟨by rfl, ?_⟩) (by assumption) ?_
              rotate_left
              · intro w hSw
                try dsimp only at hSw
                go_simp
                try with_reducible rfl
              try simp only [Act.put, List.setIfInBounds_toArray, List.set_cons_zero, List.set_cons_succ, List.getElem_toArray, List.getElem_cons_zero, List.getElem_cons_succ]
              refine wpAnyH_take (i := 4) (oi := _) (v := ?_) rfl (by kernel_rfl) (by kernel_rfl) (by kernel_rfl) (fun _ _ _ h => h) (Or.inl ⟨by rfl, ?_⟩) (by assumption) ?_
              rotate_left
              · intro w hSw
                try dsimp only at hSw
                go_simp
                try with_reducible rfl
              try simp only [Act.put, List.setIfInBounds_toArray, List.set_cons_zero, List.set_cons_succ, List.getElem_toArray, List.getElem_cons_zero, List.getElem_cons_succ]
              refine wpAnyH_take (i := 5) (oi := _) (v := ?_) rfl (by kernel_rfl) (by kernel_rfl) (by kernel_rfl) (fun _ _ _ h => h) (Or.inl ⟨by rfl, ?_⟩) (by assumption) ?_
              rotate_left
              · intro w hSw
                try dsimp only at hSw
                go_simp
                try with_reducible rfl
              try simp only [Act.put, List.setIfInBounds_toArray, List.set_cons_zero, List.set_cons_succ, List.getElem_toArray, List.getElem_cons_zero, List.getElem_cons_succ]
              refine wpAnyH_take (i := 6) (oi := _) (v := ?_) rfl (by kernel_rfl) (by kernel_rfl) (by kernel_rfl) (fun _ _ _ h => h) (Or.inl ⟨by rfl, ?_⟩) (by assumption) ?_
              rotate_left
              · intro w hSw
                try dsimp only at hSw
                go_simp
                try with_reducible rfl
              try simp only [Act.put, List.setIfInBounds_toArray, List.set_cons_zero, List.set_cons_succ, List.getElem_toArray, List.getElem_cons_zero, List.getElem_cons_succ]
              refine wpAnyH_ready (rs := [7, 11]) (by kernel_rfl) (by simp) ?_
              refine AllReadyH.cons (o := _) rfl (fun K hK => ?_) (AllReadyH.cons (o := _) rfl (fun K hK => ?_) AllReadyH.nil)
              · go_simp
                go_at_call 66
                (with_reducible refine (KD.out _).mono ?_)
                rintro e22 w22 ⟨rfl, hB22⟩
                have hC22 : Below w21.heap.size w21 w22 := Below.undrew hB22
                have HC22 := hid hC22
                have hG22 := (hC22.block G hltG).trans HQ21.out.hG
                have j0 := cell_of_block hG22 0
                have j1 := cell_of_block hG22 1
                simp only [List.getElem?_toArray, List.getElem?_cons_zero, List.getElem?_cons_succ] at j0 j1
                clear hB22 hG22 hC22
                try dsimp only
                refine hK.out _ _ ?_ (fun hHeld => ?_)
                · exact ⟨j0, j1⟩
                clear hK K
                try simp only [Act.put, List.setIfInBounds_toArray, List.set_cons_zero, List.set_cons_succ, List.getElem_toArray, List.getElem_cons_zero, List.getElem_cons_succ]
                refine wpAnyH_take (i := 8) (oi := _) (v := ?_) rfl (by kernel_rfl) (by kernel_rfl) (by kernel_rfl) (fun _ _ _ h => h) (Or.inl ⟨by rfl, ?_⟩) (by assumption) ?_
                rotate_left
                · intro w hSw
                  try dsimp only at hSw
                  go_simp
                  try with_reducible rfl
                try simp only [Act.put, List.setIfInBounds_toArray, List.set_cons_zero, List.set_cons_succ, List.getElem_toArray, List.getElem_cons_zero, List.getElem_cons_succ]
                refine wpAnyH_take (i := 9) (oi := _) (v := ?_) rfl (by kernel_rfl) (by kernel_rfl) (by kernel_rfl) (fun _ _ _ h => h) (Or.inl ⟨by rfl, ?_⟩) (by assumption) ?_
                rotate_left
                · intro w hSw
                  try dsimp only at hSw
                  go_simp
                  try with_reducible rfl
                try simp only [Act.put, List.setIfInBounds_toArray, List.set_cons_zero, List.set_cons_succ, List.getElem_toArray, List.getElem_cons_zero, List.getElem_cons_succ]
                refine wpAnyH_take (i := 10) (oi := _) (v := ?_) rfl (by kernel_rfl) (by kernel_rfl) (by kernel_rfl) (fun _ _ _ h => h) (Or.inl ⟨by rfl, ?_⟩) (by assumption) ?_
                rotate_left
                · intro w hSw
                  try dsimp only at hSw
                  go_simp
                  try with_reducible rfl
                try simp only [Act.put, List.setIfInBounds_toArray, List.set_cons_zero, List.set_cons_succ, List.getElem_toArray, List.getElem_cons_zero, List.getElem_cons_succ]
                refine wpAnyH_ready (rs := [11]) (by kernel_rfl) (by simp) ?_
                refine AllReadyH.cons (o := _) rfl (fun K hK => ?_) AllReadyH.nil
                go_simp
                try dsimp only
                refine hK.out _ _ ?_ (fun hHeld => ?_)
                · exact (by go_keep)
                clear hK K
                try simp only [Act.put, List.setIfInBounds_toArray, List.set_cons_zero, List.set_cons_succ, List.getElem_toArray, List.getElem_cons_zero, List.getElem_cons_succ]
                refine wpAnyH_ready (rs := [12]) (by kernel_rfl) (by simp) ?_
                refine AllReadyH.cons (o := _) rfl (fun K hK => ?_) AllReadyH.nil
                go_simp
                try dsimp only
                refine hK.out _ _ ?_ (fun hHeld => ?_)
                · exact (by go_keep)
                clear hK K
                try simp only [Act.put, List.setIfInBounds_toArray, List.set_cons_zero, List.set_cons_succ, List.getElem_toArray, List.getElem_cons_zero, List.getElem_cons_succ]
                refine wpAnyH_ready (rs := [13]) (by kernel_rfl) (by simp) ?_
                refine AllReadyH.cons (o := _) rfl (fun K hK => ?_) AllReadyH.nil
                go_simp
                try dsimp only
                refine hK.out _ _ ?_ (fun hHeld => ?_)
                · exact (by go_keep)
                clear hK K
                try simp only [Act.put, List.setIfInBounds_toArray, List.set_cons_zero, List.set_cons_succ, List.getElem_toArray, List.getElem_cons_zero, List.getElem_cons_succ]
                refine wpAnyH_done (by kernel_rfl) ?_ _
                go_simp
                have hRD : RD w (w22.alloc (.cells #[.int .i64 (ep : Int), .int .i64 (jo : Int), .int .i64 (bi : Int), .int .i64 (he : Int), .int .i64 (ne : Int)] 88)) M w22.heap.size ⟨ep, jo, bi, he, ne⟩ := ⟨HQ21.out.hB.trans ((HC22.out.alloc HC22.out.size _).mono HQ21.out.hB.size), heap_old ((HC22.out.block M (lt_of_block HM21.out)).trans HM21.out) _, heap_new w22 _⟩
                generalize w22.alloc (.cells #[.int .i64 (ep : Int), .int .i64 (jo : Int), .int .i64 (bi : Int), .int .i64 (he : Int), .int .i64 (ne : Int)] 88) = wz at hRD ⊢
                generalize w22.heap.size = N at hRD ⊢
                revert hRD
                revert wz N
                exact key.out
              · go_simp
                try dsimp only
                refine hK.out _ _ ?_ (fun hHeld => ?_)
                · exact (by go_keep)
                clear hK K
                try simp only [Act.put, List.setIfInBounds_toArray, List.set_cons_zero, List.set_cons_succ, List.getElem_toArray, List.getElem_cons_zero, List.getElem_cons_succ]
                refine wpAnyH_ready (rs := [7]) (by kernel_rfl) (by simp) ?_
                refine AllReadyH.cons (o := _) rfl (fun K hK => ?_) AllReadyH.nil
                go_simp
                go_at_call 66
                (with_reducible refine (KD.out _).mono ?_)
                rintro e22 w22 ⟨rfl, hB22⟩
                have hC22 : Below w21.heap.size w21 w22 := Below.trans (B := w21.heap.size) ((Below.refl _ w21).alloc (Nat.le_refl _) r5z) ((Below.undrew hB22).mono (by simp))
                have HC22 := hid hC22
                have hG22 := (hC22.block G hltG).trans HQ21.out.hG
                have j0 := cell_of_block hG22 0
                have j1 := cell_of_block hG22 1
                simp only [List.getElem?_toArray, List.getElem?_cons_zero, List.getElem?_cons_succ] at j0 j1
                have hN22 := ((Below.undrew hB22).block w21.heap.size (by simp)).trans (heap_new w21 r5z)
                obtain ⟨z0, z1, z2, z3, z4⟩ := sup_cells' hN22
                obtain ⟨y0, y1, y2, y3, y4⟩ := free_five hN22
                have HN22 := hid hN22
                clear hN22
                clear hB22 hG22 hC22
                try dsimp only
                refine hK.out _ _ ?_ (fun hHeld => ?_)
                · exact ⟨j0, j1⟩
                clear hK K
                try simp only [Act.put, List.setIfInBounds_toArray, List.set_cons_zero, List.set_cons_succ, List.getElem_toArray, List.getElem_cons_zero, List.getElem_cons_succ]
                refine wpAnyH_take (i := 8) (oi := _) (v := ?_) rfl (by kernel_rfl) (by kernel_rfl) (by kernel_rfl) (fun _ _ _ h => h) (Or.inl ⟨by rfl, ?_⟩) (by assumption) ?_
                rotate_left
                · intro w hSw
                  try dsimp only at hSw
                  go_simp
                  try with_reducible rfl
                try simp only [Act.put, List.setIfInBounds_toArray, List.set_cons_zero, List.set_cons_succ, List.getElem_toArray, List.getElem_cons_zero, List.getElem_cons_succ]
                refine wpAnyH_take (i := 9) (oi := _) (v := ?_) rfl (by kernel_rfl) (by kernel_rfl) (by kernel_rfl) (fun _ _ _ h => h) (Or.inl ⟨by rfl, ?_⟩) (by assumption) ?_
                rotate_left
                · intro w hSw
                  try dsimp only at hSw
                  go_simp
                  try with_reducible rfl
                try simp only [Act.put, List.setIfInBounds_toArray, List.set_cons_zero, List.set_cons_succ, List.getElem_toArray, List.getElem_cons_zero, List.getElem_cons_succ]
                refine wpAnyH_take (i := 10) (oi := _) (v := ?_) rfl (by kernel_rfl) (by kernel_rfl) (by kernel_rfl) (fun _ _ _ h => h) (Or.inl ⟨by rfl, ?_⟩) (by assumption) ?_
                rotate_left
                · intro w hSw
                  try dsimp only at hSw
                  go_simp
                  try with_reducible rfl
                try simp only [Act.put, List.setIfInBounds_toArray, List.set_cons_zero, List.set_cons_succ, List.getElem_toArray, List.getElem_cons_zero, List.getElem_cons_succ]
                have hne : w21.heap.size ≠ G := by omega
                refine wpAnyH_ready (rs := [12]) (by kernel_rfl) (by simp) ?_
                refine AllReadyH.cons (o := _) rfl (fun K hK => ?_) AllReadyH.nil
                go_simp
                try dsimp only
                refine hK.out _ _ ?_ (fun hHeld => ?_)
                · exact ⟨cellS (cellS (cellS (cellS (cellS j0 (p := ⟨w21.heap.size, 0, none⟩) hne _) (p := ⟨w21.heap.size, 1, none⟩) hne _) (p := ⟨w21.heap.size, 2, none⟩) hne _) (p := ⟨w21.heap.size, 3, none⟩) hne _) (p := ⟨w21.heap.size, 4, none⟩) hne _, cellS (cellS (cellS (cellS (cellS j1 (p := ⟨w21.heap.size, 0, none⟩) hne _) (p := ⟨w21.heap.size, 1, none⟩) hne _) (p := ⟨w21.heap.size, 2, none⟩) hne _) (p := ⟨w21.heap.size, 3, none⟩) hne _) (p := ⟨w21.heap.size, 4, none⟩) hne _⟩
                clear hK K
                try simp only [Act.put, List.setIfInBounds_toArray, List.set_cons_zero, List.set_cons_succ, List.getElem_toArray, List.getElem_cons_zero, List.getElem_cons_succ]
                refine wpAnyH_ready (rs := [13]) (by kernel_rfl) (by simp) ?_
                refine AllReadyH.cons (o := _) rfl (fun K hK => ?_) AllReadyH.nil
                go_simp
                try dsimp only
                refine hK.out _ _ ?_ (fun hHeld => ?_)
                · exact ⟨cellS (cellS (cellS (cellS (cellS j0 (p := ⟨w21.heap.size, 0, none⟩) hne _) (p := ⟨w21.heap.size, 1, none⟩) hne _) (p := ⟨w21.heap.size, 2, none⟩) hne _) (p := ⟨w21.heap.size, 3, none⟩) hne _) (p := ⟨w21.heap.size, 4, none⟩) hne _, cellS (cellS (cellS (cellS (cellS j1 (p := ⟨w21.heap.size, 0, none⟩) hne _) (p := ⟨w21.heap.size, 1, none⟩) hne _) (p := ⟨w21.heap.size, 2, none⟩) hne _) (p := ⟨w21.heap.size, 3, none⟩) hne _) (p := ⟨w21.heap.size, 4, none⟩) hne _⟩
                clear hK K
                try simp only [Act.put, List.setIfInBounds_toArray, List.set_cons_zero, List.set_cons_succ, List.getElem_toArray, List.getElem_cons_zero, List.getElem_cons_succ]
                refine wpAnyH_done (by kernel_rfl) ?_ _
                go_simp
                have hF22 := five_fr (w := w22) w21.heap.size (.int .i64 (ep : Int)) (.int .i64 (jo : Int)) (.int .i64 (bi : Int)) (.int .i64 (he : Int)) (.int .i64 (ne : Int))
                have hRD : RD w (((((w22.setCell ⟨w21.heap.size, 0, none⟩ (.int .i64 (ep : Int))).setCell ⟨w21.heap.size, 1, none⟩ (.int .i64 (jo : Int))).setCell ⟨w21.heap.size, 2, none⟩ (.int .i64 (bi : Int))).setCell ⟨w21.heap.size, 3, none⟩ (.int .i64 (he : Int))).setCell ⟨w21.heap.size, 4, none⟩ (.int .i64 (ne : Int))) M w21.heap.size ⟨ep, jo, bi, he, ne⟩ := ⟨(HQ21.out.hB.trans (HC22.out.mono HQ21.out.hB.size)).trans (hF22.below (by have h1 := HQ21.out.hB.size; have h2 := HC22.out.size; omega) (fun k hk e => by have h1 := HQ21.out.hB.size; omega)), hF22.heap ((HC22.out.block M (lt_of_block HM21.out)).trans HM21.out) (by have := lt_of_block HM21.out; omega), five_set HN22.out _ _ _ _ _⟩
                clear hF22
                generalize ((((w22.setCell ⟨w21.heap.size, 0, none⟩ (.int .i64 (ep : Int))).setCell ⟨w21.heap.size, 1, none⟩ (.int .i64 (jo : Int))).setCell ⟨w21.heap.size, 2, none⟩ (.int .i64 (bi : Int))).setCell ⟨w21.heap.size, 3, none⟩ (.int .i64 (he : Int))).setCell ⟨w21.heap.size, 4, none⟩ (.int .i64 (ne : Int)) = wz at hRD ⊢
                generalize w21.heap.size = N at hRD ⊢
                revert hRD
                revert wz N
                exact key.out
            intro wz N hRD
            clear k0 k1 KD HQ21 HM21 hltG HP
            obtain ⟨m0, m1, m2, m3, m4⟩ := sup_cells' hRD.hM
            obtain ⟨v0, v1, v2, v3, v4⟩ := sup_cells' hRD.hN
            dsimp only at m0 m1 m2 m3 m4 v0 v1 v2 v3 v4
            have HRD := hid hRD
            clear hRD
            go_upto_region 22 with fail
            go_region_held3 (fun w' => w'.cell? ⟨M, 0, none⟩ = some (.int .u32 (ep : Int)) ∧ w'.cell? ⟨M, 1, none⟩ = some (.int .i64 (jo : Int)) ∧ w'.cell? ⟨M, 2, none⟩ = some (.int .i64 (bi : Int)) ∧ w'.cell? ⟨M, 3, none⟩ = some (.int .i64 (he : Int)) ∧ w'.cell? ⟨M, 4, none⟩ = some (.int .u32 (ne : Int)) ∧ w'.cell? ⟨N, 0, none⟩ = some (.int .i64 (ep : Int)) ∧ w'.cell? ⟨N, 1, none⟩ = some (.int .i64 (jo : Int)) ∧ w'.cell? ⟨N, 2, none⟩ = some (.int .i64 (bi : Int)) ∧ w'.cell? ⟨N, 3, none⟩ = some (.int .i64 (he : Int)) ∧ w'.cell? ⟨N, 4, none⟩ = some (.int .i64 (ne : Int)))
              (first | go_keep | exact ⟨m0, m1, m2, m3, m4, v0, v1, v2, v3, v4⟩ | exact ⟨s0, s1, s2, s3, s4, t0, t1, t2, t3, t4⟩)
              (first | (go_at_call 59; (with_reducible refine (KO.out wz.drew).mono ?_); rintro e30 w30 ⟨rfl, hB30⟩; have hC30 := Below.undrew hB30; have hM30 := (hC30.block M (lt_of_block HRD.out.hM)).trans HRD.out.hM; have hN30 := (hC30.block N (lt_of_block HRD.out.hN)).trans HRD.out.hN; obtain ⟨s0, s1, s2, s3, s4⟩ := sup_cells' hM30; obtain ⟨t0, t1, t2, t3, t4⟩ := sup_cells' hN30; dsimp only at s0 s1 s2 s3 s4 t0 t1 t2 t3 t4; have HC30 := hid (HRD.out.hB.trans (hC30.mono HRD.out.hB.size)); clear hB30 hC30 hM30 hN30))
            go_wp2_with fail
            go_ret
            exact ⟨rfl, HC30.out⟩
  · have d1 : decide ((q1 : Int) = 1) = false := by simp; omega
    have d1b : ((q1 : Int) == 1) = false := by simp; omega
    go_upto_region 7 with fail
    clear d1 d1b
    by_cases cb : q2 = 2
    · have d1 : decide ((q2 : Int) = 2) = true := by simp; omega
      have d1b : ((q2 : Int) == 2) = true := by simp; omega
      obtain ⟨k0, k1, k2, k3, k4⟩ := sup_cells' HY5.out
      go_upto_region 9 with (first
        | (go_at_call 58; (with_reducible refine (HK2.out w5).mono ?_); rintro e6 wb6 ⟨rfl, hB6⟩; have HC6 := hid hB6; clear hB6)
        | (go_at_call 65; (with_reducible refine (HF2.out wb6).mono ?_); rintro e7 wb7 ⟨rfl, hB7⟩; have HC7 := hid (HC6.out.trans (hB7.mono HC6.out.size)); have hG7 := (HC7.out.block G (lt_of_block HG5.out)).trans HG5.out; obtain ⟨⟨v7, cv7⟩, fv7⟩ := row_cell hG7 hs2; have HG7 := hid hG7; clear hB7 hG7))
      obtain ⟨m0b, m1b, hm0b, hm1b, hG8⟩ := row_set HG7.out hl0 hl1 f2 (by have := Hf2.out; omega) hs2
      have hF8 : Fr (fun k => k = G) wb7 (wb7.setCell ⟨G, s2, none⟩ (.string (S f2))) := (Fr.refl (fun k => k = G) wb7).setCell (p := ⟨G, s2, none⟩) (fun _ => rfl) _
      have hY8 := hF8.heap ((HC7.out.block _ (lt_of_block HY5.out)).trans HY5.out) hGY
      have hB8 := (HB5.out.trans (HC7.out.mono HB5.out.size)).trans (hF8.below (by have h1 := HB5.out.size; have h2 := HC7.out.size; omega) (fun k hk e => by omega))
      generalize wb7.setCell ⟨G, s2, none⟩ (.string (S f2)) = wb8 at *
      have HGb := hid hG8
      have HYb := hid hY8
      have HBb := hid hB8
      clear hG8 hY8 hB8 hF8 HC6 HC7 HG7 cv7 fv7 k0 k1 k2 k3 k4
      clear HYb
      go_upto_region 10 with (go_at_call 43; (with_reducible refine (disk_new (n : Int) n wb8 (by omega)).mono ?_); rintro e9 w9 ⟨rfl, g, hD9, hg9, hB9⟩; have HB9 := hid hB9; have HD9 := hid hD9; have Hg9 := hid hg9; clear hB9 hD9 hg9)
      have hL : LW w w9 G wb8.heap.size g m0b m1b (Dsk.new n) := by
        have h1 := lt_of_block HGb.out
        have h2 := HD9.out.hg
        have h3 := HBb.out.size
        exact ⟨HBb.out.trans (HB9.out.mono h3), (HB9.out.block G h1).trans HGb.out, HD9.out, Hg9.out, by rintro (e | e) <;> omega, h3, hGw⟩
      generalize wb8.heap.size = bd at *
      have hLa : (m0b).length ≤ 64 := hm0b
      have hLb : (m1b).length ≤ 64 := hm1b
      generalize m0b = La at *
      generalize m1b = Lb at *
      have HL := hid hL
      clear hL HB9 HD9 Hg9 HGb HBb
      go_wp2_with fail
      go_loopw [57] (fun iv wr => ∃ q : Nat, q ≤ 2 ∧ iv = .int .i64 q ∧ LW w wr G bd g (if 0 < q then pad La else La) (if 1 < q then pad Lb else Lb) (dq n La Lb q)) (fun iv _ => 2 - lenOf7 iv)
      case atStart => exact ⟨0, by omega, rfl, HL.out⟩
      case round =>
        obtain ⟨q, hq, rfl, hP⟩ := hrel
        clear HL
        have h3 : q = 0 ∨ q = 1 ∨ q = 2 := by omega
        rcases h3 with rfl | rfl | rfl
        · have hP : LW w wr G bd g La Lb (Dsk.new n) := hP
          have HP := hid hP
          have k0 := cell_of_block hP.hG 0
          have k1 := cell_of_block hP.hG 1
          simp only [List.getElem?_toArray, List.getElem?_cons_zero, List.getElem?_cons_succ] at k0 k1
          have KW : Hid (Calls Tryd.prog 52 #[.pointer (some ⟨bd, 0, none⟩), .int .i64 0, .string (S La)] wr fun e w' => e = .returned (.int .i64 0) ∧ DiskEnd wr bd bd g ((Dsk.new n).put7 0 La) w') := hid (write7q 0 La wr hP.hD hP.hg ⟨rfl, rfl⟩ hLa (by show 0 < n; omega))
          clear hP
          go_wp2_with (go_at_call 52; (with_reducible refine KW.out.mono ?_); rintro e13 w13 ⟨rfl, hE13⟩; have HP13 := hid (HP.out.disk hE13); clear hE13 k0 k1)
          go_loopw [] (fun wi => ∃ m : List UInt8, m.length ≤ 64 ∧ pad m = pad La ∧ LW w wi G bd g (m) (Lb) ((Dsk.new n).put7 0 La)) (fun wi => 64 - lenAt wi G 0)
          case atStart => exact ⟨La, hLa, rfl, HP13.out⟩
          case round =>
            obtain ⟨m, hm, hpm, hQ⟩ := hrel
            have k0 := cell_of_block hQ.hG 0
            have k1 := cell_of_block hQ.hG 1
            simp only [List.getElem?_toArray, List.getElem?_cons_zero, List.getElem?_cons_succ] at k0 k1
            have f0 := free_of_block hQ.hG 0
            have HQ := hid hQ
            have hsm := S_size m
            have Hpm := hid hpm
            clear hQ hpm HP HP13 KW
            by_cases hlt : m.length < 64
            · have d1 : decide ((m.length : Int) < 64) = true := by simp; omega
              have hadd : ∀ w, (Op.stringOp .add (S m) ⟨#[0]⟩).run Tryd.prog w = .ok (.string (S (m ++ [0]))) w := fun w => str_add m [0] (by omega) (by simp) w
              go_wp2_with fail
              have hQ2 := HQ.out.set0 (m ++ [0])
              have kq := cell_of_block hQ2.hG 0
              simp only [List.getElem?_toArray, List.getElem?_cons_zero, List.getElem?_cons_succ] at kq
              refine ⟨⟨m ++ [0], by simp; omega, by rw [pad_snoc hlt]; exact Hpm.out, hQ2⟩, ?_⟩
              rw [lenAt_is kq, lenAt_is k0, S_size, S_size, List.length_append, List.length_singleton]
              omega
            · have hm64 : m.length = 64 := by omega
              have d1 : decide ((m.length : Int) < 64) = false := by simp; omega
              go_wp2_with fail
              refine ⟨⟨1, by omega, by go_num, ?_⟩, by simp [lenOf7]⟩
              have hmp : m = pad La := by rw [← Hpm.out, pad_full hm64]
              have h := HQ.out
              rw [hmp] at h
              exact h
        · have hP : LW w wr G bd g (pad La) Lb ((Dsk.new n).put7 0 La) := hP
          have HP := hid hP
          have k0 := cell_of_block hP.hG 0
          have k1 := cell_of_block hP.hG 1
          simp only [List.getElem?_toArray, List.getElem?_cons_zero, List.getElem?_cons_succ] at k0 k1
          have KW : Hid (Calls Tryd.prog 52 #[.pointer (some ⟨bd, 0, none⟩), .int .i64 1, .string (S Lb)] wr fun e w' => e = .returned (.int .i64 0) ∧ DiskEnd wr bd bd g (((Dsk.new n).put7 0 La).put7 1 Lb) w') := hid (write7q 1 Lb wr hP.hD hP.hg ⟨rfl, rfl⟩ hLb (by show 1 < n; omega))
          clear hP
          go_wp2_with (go_at_call 52; (with_reducible refine KW.out.mono ?_); rintro e13 w13 ⟨rfl, hE13⟩; have HP13 := hid (HP.out.disk hE13); clear hE13 k0 k1)
          go_loopw [] (fun wi => ∃ m : List UInt8, m.length ≤ 64 ∧ pad m = pad Lb ∧ LW w wi G bd g (pad La) (m) (((Dsk.new n).put7 0 La).put7 1 Lb)) (fun wi => 64 - lenAt wi G 1)
          case atStart => exact ⟨Lb, hLb, rfl, HP13.out⟩
          case round =>
            obtain ⟨m, hm, hpm, hQ⟩ := hrel
            have k0 := cell_of_block hQ.hG 0
            have k1 := cell_of_block hQ.hG 1
            simp only [List.getElem?_toArray, List.getElem?_cons_zero, List.getElem?_cons_succ] at k0 k1
            have f0 := free_of_block hQ.hG 1
            have HQ := hid hQ
            have hsm := S_size m
            have Hpm := hid hpm
            clear hQ hpm HP HP13 KW
            by_cases hlt : m.length < 64
            · have d1 : decide ((m.length : Int) < 64) = true := by simp; omega
              have hadd : ∀ w, (Op.stringOp .add (S m) ⟨#[0]⟩).run Tryd.prog w = .ok (.string (S (m ++ [0]))) w := fun w => str_add m [0] (by omega) (by simp) w
              go_wp2_with fail
              have hQ2 := HQ.out.set1 (m ++ [0])
              have kq := cell_of_block hQ2.hG 1
              simp only [List.getElem?_toArray, List.getElem?_cons_zero, List.getElem?_cons_succ] at kq
              refine ⟨⟨m ++ [0], by simp; omega, by rw [pad_snoc hlt]; exact Hpm.out, hQ2⟩, ?_⟩
              rw [lenAt_is kq, lenAt_is k1, S_size, S_size, List.length_append, List.length_singleton]
              omega
            · have hm64 : m.length = 64 := by omega
              have d1 : decide ((m.length : Int) < 64) = false := by simp; omega
              go_wp2_with fail
              refine ⟨⟨2, by omega, by go_num, ?_⟩, by simp [lenOf7]⟩
              have hmp : m = pad Lb := by rw [← Hpm.out, pad_full hm64]
              have h := HQ.out
              rw [hmp] at h
              exact h
        · have hP : LW w wr G bd g (pad La) (pad Lb) (((Dsk.new n).put7 0 La).put7 1 Lb) := hP
          have HP := hid hP
          have hdn2 : (((Dsk.new n).put7 0 La).put7 1 Lb).n = n := rfl
          have hdd2 : (((Dsk.new n).put7 0 La).put7 1 Lb).dead = false := rfl
          have hbd := best_doc (D := ((Dsk.new n).put7 0 La).put7 1 Lb) hn2
          have e0 : (((Dsk.new n).put7 0 La).put7 1 Lb).now 0 = pad La := rfl
          have e1 : (((Dsk.new n).put7 0 La).put7 1 Lb).now 1 = pad Lb := rfl
          rw [e0, e1, hdn2] at hbd
          have hP0 : (pad La).length = 64 := pad_length hLa
          have hP1 : (pad Lb).length = 64 := pad_length hLb
          clear hP e0 e1
          generalize ((Dsk.new n).put7 0 La).put7 1 Lb = E at *
          generalize pad La = P0 at *
          generalize pad Lb = P1 at *
          cases hdoc : docRead P0 P1 n with
          | none =>
            have hbest : E.best = sup0 := by rw [hbd, hdoc]; rfl
            have hber : E.bErr = 1 := by unfold Dsk.bErr; rw [hbest]; rfl
            clear hbd
            have KR : Hid (Calls Tryd.prog 63 #[.pointer (some ⟨bd, 0, none⟩)] wr fun e w' => e = .returned (.tuple #[.agg #[.int .u32 0, .int .i64 0, .int .i64 0, .int .i64 0, .int .u32 0], .int .i64 1]) ∧ Below wr.heap.size wr w') := hid (by have h := lread7 wr HP.out.hD hdd2 sup0 hbest; rw [hber] at h; exact h)
            have KD : Hid (∀ w, Calls Tryd.prog 66 #[.string (S P0), .string (S P1), .int .i64 (n : Int)] w fun e w' => e = .returned (.tuple #[.agg #[.int .i64 0, .int .i64 0, .int .i64 0, .int .i64 0, .int .i64 0], .bool false]) ∧ Below w.heap.size w w') := hid (fun w => ref7_read P0 P1 n sup0 false w hP0 hP1 (by omega) (by rw [hdoc]; rfl) (by rw [hdoc]; rfl))
            clear hbest hber hdoc hdd2 hdn2
            go_upto_region 19 with (go_at_call 63; (with_reducible refine KR.out.mono ?_); rintro e20 w20 ⟨rfl, hB20⟩; have HQ20 := hid (HP.out.below hB20); clear hB20)
            have hM21 := heap_new w20 (.cells #[.int .u32 0, .int .i64 0, .int .i64 0, .int .i64 0, .int .u32 0] 91)
            have HQ21 := hid (HQ20.out.below ((Below.refl _ w20).alloc (Nat.le_refl _) (.cells #[.int .u32 0, .int .i64 0, .int .i64 0, .int .i64 0, .int .u32 0] 91)))
            generalize w20.alloc (.cells #[.int .u32 0, .int .i64 0, .int .i64 0, .int .i64 0, .int .u32 0] 91) = w21 at *
            generalize w20.heap.size = M at *
            have HM21 := hid hM21
            have hltG := lt_of_block HQ21.out.hG
            have k0 := cell_of_block HQ21.out.hG 0
            have k1 := cell_of_block HQ21.out.hG 1
            simp only [List.getElem?_toArray, List.getElem?_cons_zero, List.getElem?_cons_succ] at k0 k1
            clear hM21 KR HQ20
            apply shared7
            · intro key
              refine wp_region_held_drew (S := fun w' => w'.cell? ⟨G, 0, none⟩ = some (.string (S P0)) ∧ w'.cell? ⟨G, 1, none⟩ = some (.string (S P1))) (by kernel_rfl) ⟨k0, k1⟩ (fun hHeld => ?_)
              refine wpAnyH_take (i := 0) (oi := _) (v := ?_) rfl (by kernel_rfl) (by kernel_rfl) (by kernel_rfl) (fun _ _ _ h => h) (Or.inl ⟨by rfl, ?_⟩) (by assumption) ?_
              rotate_left
              · intro w hSw
                try dsimp only at hSw
                go_simp
                try with_reducible rfl
              try simp only [Act.put, List.setIfInBounds_toArray, List.set_cons_zero, List.set_cons_succ, List.getElem_toArray, List.getElem_cons_zero, List.getElem_cons_succ]
              refine wpAnyH_take (i := 1) (oi := _) (v := ?_) rfl (by kernel_rfl) (by kernel_rfl) (by kernel_rfl) (fun _ _ _ h => h) (Or.inl ⟨by rfl, ?_⟩) (by assumption) ?_
              rotate_left
              · intro w hSw
                try dsimp only at hSw
                go_simp
                try with_reducible rfl
              try simp only [Act.put, List.setIfInBounds_toArray, List.set_cons_zero, List.set_cons_succ, List.getElem_toArray, List.getElem_cons_zero, List.getElem_cons_succ]
              refine wpAnyH_take (i := 2) (oi := _) (v := ?_) rfl (by kernel_rfl) (by kernel_rfl) (by kernel_rfl) (fun _ _ _ h => h) (Or.inl ⟨by rfl, ?_⟩) (by assumption) ?_
              rotate_left
              · intro w hSw
                try dsimp only at hSw
                go_simp
                try with_reducible rfl
              try simp only [Act.put, List.setIfInBounds_toArray, List.set_cons_zero, List.set_cons_succ, List.getElem_toArray, List.getElem_cons_zero, List.getElem_cons_succ]
              refine wpAnyH_take (i := 3) (oi := _) (v := ?_) rfl (by kernel_rfl) (by kernel_rfl) (by kernel_rfl) (fun _ _ _ h => h) (Or.inl ⟨by rfl, ?_⟩) (by assumption) ?_
              rotate_left
              · intro w hSw
                try dsimp only at hSw
                go_simp
                try with_reducible rfl
              try simp only [Act.put, List.setIfInBounds_toArray, List.set_cons_zero, List.set_cons_succ, List.getElem_toArray, List.getElem_cons_zero, List.getElem_cons_succ]
              refine wpAnyH_take (i := 4) (oi := _) (v := ?_) rfl (by kernel_rfl) (by kernel_rfl) (by kernel_rfl) (fun _ _ _ h => h) (Or.inl ⟨by rfl, ?_⟩) (by assumption) ?_
              rotate_left
              · intro w hSw
                try dsimp only at hSw
                go_simp
                try with_reducible rfl
              try simp only [Act.put, List.setIfInBounds_toArray, List.set_cons_zero, List.set_cons_succ, List.getElem_toArray, List.getElem_cons_zero, List.getElem_cons_succ]
              refine wpAnyH_take (i := 5) (oi := _) (v := ?_) rfl (by kernel_rfl) (by kernel_rfl) (by kernel_rfl) (fun _ _ _ h => h) (Or.inl ⟨by rfl, ?_⟩) (by assumption) ?_
              rotate_left
              · intro w hSw
                try dsimp only at hSw
                go_simp
                try with_reducible rfl
              try simp only [Act.put, List.setIfInBounds_toArray, List.set_cons_zero, List.set_cons_succ, List.getElem_toArray, List.getElem_cons_zero, List.getElem_cons_succ]
              refine wpAnyH_take (i := 6) (oi := _) (v := ?_) rfl (by kernel_rfl) (by kernel_rfl) (by kernel_rfl) (fun _ _ _ h => h) (Or.inl ⟨by rfl, ?_⟩) (by assumption) ?_
              rotate_left
              · intro w hSw
                try dsimp only at hSw
                go_simp
                try with_reducible rfl
              try simp only [Act.put, List.setIfInBounds_toArray, List.set_cons_zero, List.set_cons_succ, List.getElem_toArray, List.getElem_cons_zero, List.getElem_cons_succ]
              refine wpAnyH_ready (rs := [7, 11]) (by kernel_rfl) (by simp) ?_
              refine AllReadyH.cons (o := _) rfl (fun K hK => ?_) (AllReadyH.cons (o := _) rfl (fun K hK => ?_) AllReadyH.nil)
              · go_simp
                go_at_call 66
                (with_reducible refine (KD.out _).mono ?_)
                rintro e22 w22 ⟨rfl, hB22⟩
                have hC22 : Below w21.heap.size w21 w22 := Below.undrew hB22
                have HC22 := hid hC22
                have hG22 := (hC22.block G hltG).trans HQ21.out.hG
                have j0 := cell_of_block hG22 0
                have j1 := cell_of_block hG22 1
                simp only [List.getElem?_toArray, List.getElem?_cons_zero, List.getElem?_cons_succ] at j0 j1
                clear hB22 hG22 hC22
                try dsimp only
                refine hK.out _ _ ?_ (fun hHeld => ?_)
                · exact ⟨j0, j1⟩
                clear hK K
                try simp only [Act.put, List.setIfInBounds_toArray, List.set_cons_zero, List.set_cons_succ, List.getElem_toArray, List.getElem_cons_zero, List.getElem_cons_succ]
                refine wpAnyH_take (i := 8) (oi := _) (v := ?_) rfl (by kernel_rfl) (by kernel_rfl) (by kernel_rfl) (fun _ _ _ h => h) (Or.inl ⟨by rfl, ?_⟩) (by assumption) ?_
                rotate_left
                · intro w hSw
                  try dsimp only at hSw
                  go_simp
                  try with_reducible rfl
                try simp only [Act.put, List.setIfInBounds_toArray, List.set_cons_zero, List.set_cons_succ, List.getElem_toArray, List.getElem_cons_zero, List.getElem_cons_succ]
                refine wpAnyH_take (i := 9) (oi := _) (v := ?_) rfl (by kernel_rfl) (by kernel_rfl) (by kernel_rfl) (fun _ _ _ h => h) (Or.inl ⟨by rfl, ?_⟩) (by assumption) ?_
                rotate_left
                · intro w hSw
                  try dsimp only at hSw
                  go_simp
                  try with_reducible rfl
                try simp only [Act.put, List.setIfInBounds_toArray, List.set_cons_zero, List.set_cons_succ, List.getElem_toArray, List.getElem_cons_zero, List.getElem_cons_succ]
                refine wpAnyH_take (i := 10) (oi := _) (v := ?_) rfl (by kernel_rfl) (by kernel_rfl) (by kernel_rfl) (fun _ _ _ h => h) (Or.inl ⟨by rfl, ?_⟩) (by assumption) ?_
                rotate_left
                · intro w hSw
                  try dsimp only at hSw
                  go_simp
                  try with_reducible rfl
                try simp only [Act.put, List.setIfInBounds_toArray, List.set_cons_zero, List.set_cons_succ, List.getElem_toArray, List.getElem_cons_zero, List.getElem_cons_succ]
                refine wpAnyH_ready (rs := [11]) (by kernel_rfl) (by simp) ?_
                refine AllReadyH.cons (o := _) rfl (fun K hK => ?_) AllReadyH.nil
                go_simp
                try dsimp only
                refine hK.out _ _ ?_ (fun hHeld => ?_)
                · exact (by go_keep)
                clear hK K
                try simp only [Act.put, List.setIfInBounds_toArray, List.set_cons_zero, List.set_cons_succ, List.getElem_toArray, List.getElem_cons_zero, List.getElem_cons_succ]
                refine wpAnyH_ready (rs := [12]) (by kernel_rfl) (by simp) ?_
                refine AllReadyH.cons (o := _) rfl (fun K hK => ?_) AllReadyH.nil
                go_simp
                try dsimp only
                refine hK.out _ _ ?_ (fun hHeld => ?_)
                · exact (by go_keep)
                clear hK K
                try simp only [Act.put, List.setIfInBounds_toArray, List.set_cons_zero, List.set_cons_succ, List.getElem_toArray, List.getElem_cons_zero, List.getElem_cons_succ]
                refine wpAnyH_ready (rs := [13]) (by kernel_rfl) (by simp) ?_
                refine AllReadyH.cons (o := _) rfl (fun K hK => ?_) AllReadyH.nil
                go_simp
                try dsimp only
                refine hK.out _ _ ?_ (fun hHeld => ?_)
                · exact (by go_keep)
                clear hK K
                try simp only [Act.put, List.setIfInBounds_toArray, List.set_cons_zero, List.set_cons_succ, List.getElem_toArray, List.getElem_cons_zero, List.getElem_cons_succ]
                refine wpAnyH_done (by kernel_rfl) ?_ _
                go_simp
                have hRD : RD w (w22.alloc (.cells #[.int .i64 0, .int .i64 0, .int .i64 0, .int .i64 0, .int .i64 0] 88)) M w22.heap.size sup0 := ⟨HQ21.out.hB.trans ((HC22.out.alloc HC22.out.size _).mono HQ21.out.hB.size), heap_old ((HC22.out.block M (lt_of_block HM21.out)).trans HM21.out) _, heap_new w22 _⟩
                generalize w22.alloc (.cells #[.int .i64 0, .int .i64 0, .int .i64 0, .int .i64 0, .int .i64 0] 88) = wz at hRD ⊢
                generalize w22.heap.size = N at hRD ⊢
                revert hRD
                revert wz N
                exact key.out
              · go_simp
                try dsimp only
                refine hK.out _ _ ?_ (fun hHeld => ?_)
                · exact (by go_keep)
                clear hK K
                try simp only [Act.put, List.setIfInBounds_toArray, List.set_cons_zero, List.set_cons_succ, List.getElem_toArray, List.getElem_cons_zero, List.getElem_cons_succ]
                refine wpAnyH_ready (rs := [7]) (by kernel_rfl) (by simp) ?_
                refine AllReadyH.cons (o := _) rfl (fun K hK => ?_) AllReadyH.nil
                go_simp
                go_at_call 66
                (with_reducible refine (KD.out _).mono ?_)
                rintro e22 w22 ⟨rfl, hB22⟩
                have hC22 : Below w21.heap.size w21 w22 := Below.trans (B := w21.heap.size) ((Below.refl _ w21).alloc (Nat.le_refl _) r5z) ((Below.undrew hB22).mono (by simp))
                have HC22 := hid hC22
                have hG22 := (hC22.block G hltG).trans HQ21.out.hG
                have j0 := cell_of_block hG22 0
                have j1 := cell_of_block hG22 1
                simp only [List.getElem?_toArray, List.getElem?_cons_zero, List.getElem?_cons_succ] at j0 j1
                have hN22 := ((Below.undrew hB22).block w21.heap.size (by simp)).trans (heap_new w21 r5z)
                obtain ⟨z0, z1, z2, z3, z4⟩ := sup_cells' hN22
                obtain ⟨y0, y1, y2, y3, y4⟩ := free_five hN22
                have HN22 := hid hN22
                clear hN22
                clear hB22 hG22 hC22
                try dsimp only
                refine hK.out _ _ ?_ (fun hHeld => ?_)
                · exact ⟨j0, j1⟩
                clear hK K
                try simp only [Act.put, List.setIfInBounds_toArray, List.set_cons_zero, List.set_cons_succ, List.getElem_toArray, List.getElem_cons_zero, List.getElem_cons_succ]
                refine wpAnyH_take (i := 8) (oi := _) (v := ?_) rfl (by kernel_rfl) (by kernel_rfl) (by kernel_rfl) (fun _ _ _ h => h) (Or.inl ⟨by rfl, ?_⟩) (by assumption) ?_
                rotate_left
                · intro w hSw
                  try dsimp only at hSw
                  go_simp
                  try with_reducible rfl
                try simp only [Act.put, List.setIfInBounds_toArray, List.set_cons_zero, List.set_cons_succ, List.getElem_toArray, List.getElem_cons_zero, List.getElem_cons_succ]
                refine wpAnyH_take (i := 9) (oi := _) (v := ?_) rfl (by kernel_rfl) (by kernel_rfl) (by kernel_rfl) (fun _ _ _ h => h) (Or.inl ⟨by rfl, ?_⟩) (by assumption) ?_
                rotate_left
                · intro w hSw
                  try dsimp only at hSw
                  go_simp
                  try with_reducible rfl
                try simp only [Act.put, List.setIfInBounds_toArray, List.set_cons_zero, List.set_cons_succ, List.getElem_toArray, List.getElem_cons_zero, List.getElem_cons_succ]
                refine wpAnyH_take (i := 10) (oi := _) (v := ?_) rfl (by kernel_rfl) (by kernel_rfl) (by kernel_rfl) (fun _ _ _ h => h) (Or.inl ⟨by rfl, ?_⟩) (by assumption) ?_
                rotate_left
                · intro w hSw
                  try dsimp only at hSw
                  go_simp
                  try with_reducible rfl
                try simp only [Act.put, List.setIfInBounds_toArray, List.set_cons_zero, List.set_cons_succ, List.getElem_toArray, List.getElem_cons_zero, List.getElem_cons_succ]
                have hne : w21.heap.size ≠ G := by omega
                refine wpAnyH_ready (rs := [12]) (by kernel_rfl) (by simp) ?_
                refine AllReadyH.cons (o := _) rfl (fun K hK => ?_) AllReadyH.nil
                go_simp
                try dsimp only
                refine hK.out _ _ ?_ (fun hHeld => ?_)
                · exact ⟨cellS (cellS (cellS (cellS (cellS j0 (p := ⟨w21.heap.size, 0, none⟩) hne _) (p := ⟨w21.heap.size, 1, none⟩) hne _) (p := ⟨w21.heap.size, 2, none⟩) hne _) (p := ⟨w21.heap.size, 3, none⟩) hne _) (p := ⟨w21.heap.size, 4, none⟩) hne _, cellS (cellS (cellS (cellS (cellS j1 (p := ⟨w21.heap.size, 0, none⟩) hne _) (p := ⟨w21.heap.size, 1, none⟩) hne _) (p := ⟨w21.heap.size, 2, none⟩) hne _) (p := ⟨w21.heap.size, 3, none⟩) hne _) (p := ⟨w21.heap.size, 4, none⟩) hne _⟩
                clear hK K
                try simp only [Act.put, List.setIfInBounds_toArray, List.set_cons_zero, List.set_cons_succ, List.getElem_toArray, List.getElem_cons_zero, List.getElem_cons_succ]
                refine wpAnyH_ready (rs := [13]) (by kernel_rfl) (by simp) ?_
                refine AllReadyH.cons (o := _) rfl (fun K hK => ?_) AllReadyH.nil
                go_simp
                try dsimp only
                refine hK.out _ _ ?_ (fun hHeld => ?_)
                · exact ⟨cellS (cellS (cellS (cellS (cellS j0 (p := ⟨w21.heap.size, 0, none⟩) hne _) (p := ⟨w21.heap.size, 1, none⟩) hne _) (p := ⟨w21.heap.size, 2, none⟩) hne _) (p := ⟨w21.heap.size, 3, none⟩) hne _) (p := ⟨w21.heap.size, 4, none⟩) hne _, cellS (cellS (cellS (cellS (cellS j1 (p := ⟨w21.heap.size, 0, none⟩) hne _) (p := ⟨w21.heap.size, 1, none⟩) hne _) (p := ⟨w21.heap.size, 2, none⟩) hne _) (p := ⟨w21.heap.size, 3, none⟩) hne _) (p := ⟨w21.heap.size, 4, none⟩) hne _⟩
                clear hK K
                try simp only [Act.put, List.setIfInBounds_toArray, List.set_cons_zero, List.set_cons_succ, List.getElem_toArray, List.getElem_cons_zero, List.getElem_cons_succ]
                refine wpAnyH_done (by kernel_rfl) ?_ _
                go_simp
                have hF22 := five_fr (w := w22) w21.heap.size (.int .i64 0) (.int .i64 0) (.int .i64 0) (.int .i64 0) (.int .i64 0)
                have hRD : RD w (((((w22.setCell ⟨w21.heap.size, 0, none⟩ (.int .i64 0)).setCell ⟨w21.heap.size, 1, none⟩ (.int .i64 0)).setCell ⟨w21.heap.size, 2, none⟩ (.int .i64 0)).setCell ⟨w21.heap.size, 3, none⟩ (.int .i64 0)).setCell ⟨w21.heap.size, 4, none⟩ (.int .i64 0)) M w21.heap.size sup0 := ⟨(HQ21.out.hB.trans (HC22.out.mono HQ21.out.hB.size)).trans (hF22.below (by have h1 := HQ21.out.hB.size; have h2 := HC22.out.size; omega) (fun k hk e => by have h1 := HQ21.out.hB.size; omega)), hF22.heap ((HC22.out.block M (lt_of_block HM21.out)).trans HM21.out) (by have := lt_of_block HM21.out; omega), five_set HN22.out _ _ _ _ _⟩
                clear hF22
                generalize ((((w22.setCell ⟨w21.heap.size, 0, none⟩ (.int .i64 0)).setCell ⟨w21.heap.size, 1, none⟩ (.int .i64 0)).setCell ⟨w21.heap.size, 2, none⟩ (.int .i64 0)).setCell ⟨w21.heap.size, 3, none⟩ (.int .i64 0)).setCell ⟨w21.heap.size, 4, none⟩ (.int .i64 0) = wz at hRD ⊢
                generalize w21.heap.size = N at hRD ⊢
                revert hRD
                revert wz N
                exact key.out
            intro wz N hRD
            clear k0 k1 KD HQ21 HM21 hltG HP
            obtain ⟨m0, m1, m2, m3, m4⟩ := sup_cells' hRD.hM
            change wz.cell? _ = some (.int .u32 0) at m0
            change wz.cell? _ = some (.int .i64 0) at m1
            change wz.cell? _ = some (.int .i64 0) at m2
            change wz.cell? _ = some (.int .i64 0) at m3
            change wz.cell? _ = some (.int .u32 0) at m4
            have HRD := hid hRD
            clear hRD
            go_wp2_with fail
            go_ret
            exact ⟨rfl, HRD.out.hB⟩
          | some x =>
            have hep := docRead_ep hdoc
            have hxs := docRead_small hdoc
            have hbest : E.best = x := by rw [hbd, hdoc]; rfl
            have hber : E.bErr = 0 := by unfold Dsk.bErr; rw [hbest]; exact if_neg (by omega)
            obtain ⟨ep, jo, bi, he, ne⟩ := x
            have KO := hid (fun w => own7_any ep jo bi he ne w hxs.ep hxs.ne)
            clear hbd hep hxs
            have KR : Hid (Calls Tryd.prog 63 #[.pointer (some ⟨bd, 0, none⟩)] wr fun e w' => e = .returned (.tuple #[.agg #[.int .u32 (ep : Int), .int .i64 (jo : Int), .int .i64 (bi : Int), .int .i64 (he : Int), .int .u32 (ne : Int)], .int .i64 0]) ∧ Below wr.heap.size wr w') := hid (by have h := lread7 wr HP.out.hD hdd2 ⟨ep, jo, bi, he, ne⟩ hbest; rw [hber] at h; exact h)
            have KD : Hid (∀ w, Calls Tryd.prog 66 #[.string (S P0), .string (S P1), .int .i64 (n : Int)] w fun e w' => e = .returned (.tuple #[.agg #[.int .i64 (ep : Int), .int .i64 (jo : Int), .int .i64 (bi : Int), .int .i64 (he : Int), .int .i64 (ne : Int)], .bool true]) ∧ Below w.heap.size w w') := hid (fun w => ref7_read P0 P1 n ⟨ep, jo, bi, he, ne⟩ true w hP0 hP1 (by omega) (by rw [hdoc]; rfl) (by rw [hdoc]; rfl))
            clear hbest hber hdoc hdd2 hdn2
            go_upto_region 19 with (go_at_call 63; (with_reducible refine KR.out.mono ?_); rintro e20 w20 ⟨rfl, hB20⟩; have HQ20 := hid (HP.out.below hB20); clear hB20)
            have hM21 := heap_new w20 (.cells #[.int .u32 (ep : Int), .int .i64 (jo : Int), .int .i64 (bi : Int), .int .i64 (he : Int), .int .u32 (ne : Int)] 91)
            have HQ21 := hid (HQ20.out.below ((Below.refl _ w20).alloc (Nat.le_refl _) (.cells #[.int .u32 (ep : Int), .int .i64 (jo : Int), .int .i64 (bi : Int), .int .i64 (he : Int), .int .u32 (ne : Int)] 91)))
            generalize w20.alloc (.cells #[.int .u32 (ep : Int), .int .i64 (jo : Int), .int .i64 (bi : Int), .int .i64 (he : Int), .int .u32 (ne : Int)] 91) = w21 at *
            generalize w20.heap.size = M at *
            have HM21 := hid hM21
            have hltG := lt_of_block HQ21.out.hG
            have k0 := cell_of_block HQ21.out.hG 0
            have k1 := cell_of_block HQ21.out.hG 1
            simp only [List.getElem?_toArray, List.getElem?_cons_zero, List.getElem?_cons_succ] at k0 k1
            clear hM21 KR HQ20
            apply shared7
            · intro key
              refine wp_region_held_drew (S := fun w' => w'.cell? ⟨G, 0, none⟩ = some (.string (S P0)) ∧ w'.cell? ⟨G, 1, none⟩ = some (.string (S P1))) (by kernel_rfl) ⟨k0, k1⟩ (fun hHeld => ?_)
              refine wpAnyH_take (i := 0) (oi := _) (v := ?_) rfl (by kernel_rfl) (by kernel_rfl) (by kernel_rfl) (fun _ _ _ h => h) (Or.inl ⟨by rfl, ?_⟩) (by assumption) ?_
              rotate_left
              · intro w hSw
                try dsimp only at hSw
                go_simp
                try with_reducible rfl
              try simp only [Act.put, List.setIfInBounds_toArray, List.set_cons_zero, List.set_cons_succ, List.getElem_toArray, List.getElem_cons_zero, List.getElem_cons_succ]
              refine wpAnyH_take (i := 1) (oi := _) (v := ?_) rfl (by kernel_rfl) (by kernel_rfl) (by kernel_rfl) (fun _ _ _ h => h) (Or.inl ⟨by rfl, ?_⟩) (by assumption) ?_
              rotate_left
              · intro w hSw
                try dsimp only at hSw
                go_simp
                try with_reducible rfl
              try simp only [Act.put, List.setIfInBounds_toArray, List.set_cons_zero, List.set_cons_succ, List.getElem_toArray, List.getElem_cons_zero, List.getElem_cons_succ]
              refine wpAnyH_take (i := 2) (oi := _) (v := ?_) rfl (by kernel_rfl) (by kernel_rfl) (by kernel_rfl) (fun _ _ _ h => h) (Or.inl ⟨by rfl, ?_⟩) (by assumption) ?_
              rotate_left
              · intro w hSw
                try dsimp only at hSw
                go_simp
                try with_reducible rfl
              try simp only [Act.put, List.setIfInBounds_toArray, List.set_cons_zero, List.set_cons_succ, List.getElem_toArray, List.getElem_cons_zero, List.getElem_cons_succ]
              refine wpAnyH_take (i := 3) (oi := _) (v := ?_) rfl (by kernel_rfl) (by kernel_rfl) (by kernel_rfl) (fun _ _ _ h => h) (Or.inl ⟨by rfl, ?_⟩) (by assumption) ?_
              rotate_left
              · intro w hSw
                try dsimp only at hSw
                go_simp
                try with_reducible rfl
              try simp only [Act.put, List.setIfInBounds_toArray, List.set_cons_zero, List.set_cons_succ, List.getElem_toArray, List.getElem_cons_zero, List.getElem_cons_succ]
              refine wpAnyH_take (i := 4) (oi := _) (v := ?_) rfl (by kernel_rfl) (by kernel_rfl) (by kernel_rfl) (fun _ _ _ h => h) (Or.inl ⟨by rfl, ?_⟩) (by assumption) ?_
              rotate_left
              · intro w hSw
                try dsimp only at hSw
                go_simp
                try with_reducible rfl
              try simp only [Act.put, List.setIfInBounds_toArray, List.set_cons_zero, List.set_cons_succ, List.getElem_toArray, List.getElem_cons_zero, List.getElem_cons_succ]
              refine wpAnyH_take (i := 5) (oi := _) (v := ?_) rfl (by kernel_rfl) (by kernel_rfl) (by kernel_rfl) (fun _ _ _ h => h) (Or.inl ⟨by rfl, ?_⟩) (by assumption) ?_
              rotate_left
              · intro w hSw
                try dsimp only at hSw
                go_simp
                try with_reducible rfl
              try simp only [Act.put, List.setIfInBounds_toArray, List.set_cons_zero, List.set_cons_succ, List.getElem_toArray, List.getElem_cons_zero, List.getElem_cons_succ]
              refine wpAnyH_take (i := 6) (oi := _) (v := ?_) rfl (by kernel_rfl) (by kernel_rfl) (by kernel_rfl) (fun _ _ _ h => h) (Or.inl ⟨by rfl, ?_⟩) (by assumption) ?_
              rotate_left
              · intro w hSw
                try dsimp only at hSw
                go_simp
                try with_reducible rfl
              try simp only [Act.put, List.setIfInBounds_toArray, List.set_cons_zero, List.set_cons_succ, List.getElem_toArray, List.getElem_cons_zero, List.getElem_cons_succ]
              refine wpAnyH_ready (rs := [7, 11]) (by kernel_rfl) (by simp) ?_
              refine AllReadyH.cons (o := _) rfl (fun K hK => ?_) (AllReadyH.cons (o := _) rfl (fun K hK => ?_) AllReadyH.nil)
              · go_simp
                go_at_call 66
                (with_reducible refine (KD.out _).mono ?_)
                rintro e22 w22 ⟨rfl, hB22⟩
                have hC22 : Below w21.heap.size w21 w22 := Below.undrew hB22
                have HC22 := hid hC22
                have hG22 := (hC22.block G hltG).trans HQ21.out.hG
                have j0 := cell_of_block hG22 0
                have j1 := cell_of_block hG22 1
                simp only [List.getElem?_toArray, List.getElem?_cons_zero, List.getElem?_cons_succ] at j0 j1
                clear hB22 hG22 hC22
                try dsimp only
                refine hK.out _ _ ?_ (fun hHeld => ?_)
                · exact ⟨j0, j1⟩
                clear hK K
                try simp only [Act.put, List.setIfInBounds_toArray, List.set_cons_zero, List.set_cons_succ, List.getElem_toArray, List.getElem_cons_zero, List.getElem_cons_succ]
                refine wpAnyH_take (i := 8) (oi := _) (v := ?_) rfl (by kernel_rfl) (by kernel_rfl) (by kernel_rfl) (fun _ _ _ h => h) (Or.inl ⟨by rfl, ?_⟩) (by assumption) ?_
                rotate_left
                · intro w hSw
                  try dsimp only at hSw
                  go_simp
                  try with_reducible rfl
                try simp only [Act.put, List.setIfInBounds_toArray, List.set_cons_zero, List.set_cons_succ, List.getElem_toArray, List.getElem_cons_zero, List.getElem_cons_succ]
                refine wpAnyH_take (i := 9) (oi := _) (v := ?_) rfl (by kernel_rfl) (by kernel_rfl) (by kernel_rfl) (fun _ _ _ h => h) (Or.inl ⟨by rfl, ?_⟩) (by assumption) ?_
                rotate_left
                · intro w hSw
                  try dsimp only at hSw
                  go_simp
                  try with_reducible rfl
                try simp only [Act.put, List.setIfInBounds_toArray, List.set_cons_zero, List.set_cons_succ, List.getElem_toArray, List.getElem_cons_zero, List.getElem_cons_succ]
                refine wpAnyH_take (i := 10) (oi := _) (v := ?_) rfl (by kernel_rfl) (by kernel_rfl) (by kernel_rfl) (fun _ _ _ h => h) (Or.inl ⟨by rfl, ?_⟩) (by assumption) ?_
                rotate_left
                · intro w hSw
                  try dsimp only at hSw
                  go_simp
                  try with_reducible rfl
                try simp only [Act.put, List.setIfInBounds_toArray, List.set_cons_zero, List.set_cons_succ, List.getElem_toArray, List.getElem_cons_zero, List.getElem_cons_succ]
                refine wpAnyH_ready (rs := [11]) (by kernel_rfl) (by simp) ?_
                refine AllReadyH.cons (o := _) rfl (fun K hK => ?_) AllReadyH.nil
                go_simp
                try dsimp only
                refine hK.out _ _ ?_ (fun hHeld => ?_)
                · exact (by go_keep)
                clear hK K
                try simp only [Act.put, List.setIfInBounds_toArray, List.set_cons_zero, List.set_cons_succ, List.getElem_toArray, List.getElem_cons_zero, List.getElem_cons_succ]
                refine wpAnyH_ready (rs := [12]) (by kernel_rfl) (by simp) ?_
                refine AllReadyH.cons (o := _) rfl (fun K hK => ?_) AllReadyH.nil
                go_simp
                try dsimp only
                refine hK.out _ _ ?_ (fun hHeld => ?_)
                · exact (by go_keep)
                clear hK K
                try simp only [Act.put, List.setIfInBounds_toArray, List.set_cons_zero, List.set_cons_succ, List.getElem_toArray, List.getElem_cons_zero, List.getElem_cons_succ]
                refine wpAnyH_ready (rs := [13]) (by kernel_rfl) (by simp) ?_
                refine AllReadyH.cons (o := _) rfl (fun K hK => ?_) AllReadyH.nil
                go_simp
                try dsimp only
                refine hK.out _ _ ?_ (fun hHeld => ?_)
                · exact (by go_keep)
                clear hK K
                try simp only [Act.put, List.setIfInBounds_toArray, List.set_cons_zero, List.set_cons_succ, List.getElem_toArray, List.getElem_cons_zero, List.getElem_cons_succ]
                refine wpAnyH_done (by kernel_rfl) ?_ _
                go_simp
                have hRD : RD w (w22.alloc (.cells #[.int .i64 (ep : Int), .int .i64 (jo : Int), .int .i64 (bi : Int), .int .i64 (he : Int), .int .i64 (ne : Int)] 88)) M w22.heap.size ⟨ep, jo, bi, he, ne⟩ := ⟨HQ21.out.hB.trans ((HC22.out.alloc HC22.out.size _).mono HQ21.out.hB.size), heap_old ((HC22.out.block M (lt_of_block HM21.out)).trans HM21.out) _, heap_new w22 _⟩
                generalize w22.alloc (.cells #[.int .i64 (ep : Int), .int .i64 (jo : Int), .int .i64 (bi : Int), .int .i64 (he : Int), .int .i64 (ne : Int)] 88) = wz at hRD ⊢
                generalize w22.heap.size = N at hRD ⊢
                revert hRD
                revert wz N
                exact key.out
              · go_simp
                try dsimp only
                refine hK.out _ _ ?_ (fun hHeld => ?_)
                · exact (by go_keep)
                clear hK K
                try simp only [Act.put, List.setIfInBounds_toArray, List.set_cons_zero, List.set_cons_succ, List.getElem_toArray, List.getElem_cons_zero, List.getElem_cons_succ]
                refine wpAnyH_ready (rs := [7]) (by kernel_rfl) (by simp) ?_
                refine AllReadyH.cons (o := _) rfl (fun K hK => ?_) AllReadyH.nil
                go_simp
                go_at_call 66
                (with_reducible refine (KD.out _).mono ?_)
                rintro e22 w22 ⟨rfl, hB22⟩
                have hC22 : Below w21.heap.size w21 w22 := Below.trans (B := w21.heap.size) ((Below.refl _ w21).alloc (Nat.le_refl _) r5z) ((Below.undrew hB22).mono (by simp))
                have HC22 := hid hC22
                have hG22 := (hC22.block G hltG).trans HQ21.out.hG
                have j0 := cell_of_block hG22 0
                have j1 := cell_of_block hG22 1
                simp only [List.getElem?_toArray, List.getElem?_cons_zero, List.getElem?_cons_succ] at j0 j1
                have hN22 := ((Below.undrew hB22).block w21.heap.size (by simp)).trans (heap_new w21 r5z)
                obtain ⟨z0, z1, z2, z3, z4⟩ := sup_cells' hN22
                obtain ⟨y0, y1, y2, y3, y4⟩ := free_five hN22
                have HN22 := hid hN22
                clear hN22
                clear hB22 hG22 hC22
                try dsimp only
                refine hK.out _ _ ?_ (fun hHeld => ?_)
                · exact ⟨j0, j1⟩
                clear hK K
                try simp only [Act.put, List.setIfInBounds_toArray, List.set_cons_zero, List.set_cons_succ, List.getElem_toArray, List.getElem_cons_zero, List.getElem_cons_succ]
                refine wpAnyH_take (i := 8) (oi := _) (v := ?_) rfl (by kernel_rfl) (by kernel_rfl) (by kernel_rfl) (fun _ _ _ h => h) (Or.inl ⟨by rfl, ?_⟩) (by assumption) ?_
                rotate_left
                · intro w hSw
                  try dsimp only at hSw
                  go_simp
                  try with_reducible rfl
                try simp only [Act.put, List.setIfInBounds_toArray, List.set_cons_zero, List.set_cons_succ, List.getElem_toArray, List.getElem_cons_zero, List.getElem_cons_succ]
                refine wpAnyH_take (i := 9) (oi := _) (v := ?_) rfl (by kernel_rfl) (by kernel_rfl) (by kernel_rfl) (fun _ _ _ h => h) (Or.inl ⟨by rfl, ?_⟩) (by assumption) ?_
                rotate_left
                · intro w hSw
                  try dsimp only at hSw
                  go_simp
                  try with_reducible rfl
                try simp only [Act.put, List.setIfInBounds_toArray, List.set_cons_zero, List.set_cons_succ, List.getElem_toArray, List.getElem_cons_zero, List.getElem_cons_succ]
                refine wpAnyH_take (i := 10) (oi := _) (v := ?_) rfl (by kernel_rfl) (by kernel_rfl) (by kernel_rfl) (fun _ _ _ h => h) (Or.inl ⟨by rfl, ?_⟩) (by assumption) ?_
                rotate_left
                · intro w hSw
                  try dsimp only at hSw
                  go_simp
                  try with_reducible rfl
                try simp only [Act.put, List.setIfInBounds_toArray, List.set_cons_zero, List.set_cons_succ, List.getElem_toArray, List.getElem_cons_zero, List.getElem_cons_succ]
                have hne : w21.heap.size ≠ G := by omega
                refine wpAnyH_ready (rs := [12]) (by kernel_rfl) (by simp) ?_
                refine AllReadyH.cons (o := _) rfl (fun K hK => ?_) AllReadyH.nil
                go_simp
                try dsimp only
                refine hK.out _ _ ?_ (fun hHeld => ?_)
                · exact ⟨cellS (cellS (cellS (cellS (cellS j0 (p := ⟨w21.heap.size, 0, none⟩) hne _) (p := ⟨w21.heap.size, 1, none⟩) hne _) (p := ⟨w21.heap.size, 2, none⟩) hne _) (p := ⟨w21.heap.size, 3, none⟩) hne _) (p := ⟨w21.heap.size, 4, none⟩) hne _, cellS (cellS (cellS (cellS (cellS j1 (p := ⟨w21.heap.size, 0, none⟩) hne _) (p := ⟨w21.heap.size, 1, none⟩) hne _) (p := ⟨w21.heap.size, 2, none⟩) hne _) (p := ⟨w21.heap.size, 3, none⟩) hne _) (p := ⟨w21.heap.size, 4, none⟩) hne _⟩
                clear hK K
                try simp only [Act.put, List.setIfInBounds_toArray, List.set_cons_zero, List.set_cons_succ, List.getElem_toArray, List.getElem_cons_zero, List.getElem_cons_succ]
                refine wpAnyH_ready (rs := [13]) (by kernel_rfl) (by simp) ?_
                refine AllReadyH.cons (o := _) rfl (fun K hK => ?_) AllReadyH.nil
                go_simp
                try dsimp only
                refine hK.out _ _ ?_ (fun hHeld => ?_)
                · exact ⟨cellS (cellS (cellS (cellS (cellS j0 (p := ⟨w21.heap.size, 0, none⟩) hne _) (p := ⟨w21.heap.size, 1, none⟩) hne _) (p := ⟨w21.heap.size, 2, none⟩) hne _) (p := ⟨w21.heap.size, 3, none⟩) hne _) (p := ⟨w21.heap.size, 4, none⟩) hne _, cellS (cellS (cellS (cellS (cellS j1 (p := ⟨w21.heap.size, 0, none⟩) hne _) (p := ⟨w21.heap.size, 1, none⟩) hne _) (p := ⟨w21.heap.size, 2, none⟩) hne _) (p := ⟨w21.heap.size, 3, none⟩) hne _) (p := ⟨w21.heap.size, 4, none⟩) hne _⟩
                clear hK K
                try simp only [Act.put, List.setIfInBounds_toArray, List.set_cons_zero, List.set_cons_succ, List.getElem_toArray, List.getElem_cons_zero, List.getElem_cons_succ]
                refine wpAnyH_done (by kernel_rfl) ?_ _
                go_simp
                have hF22 := five_fr (w := w22) w21.heap.size (.int .i64 (ep : Int)) (.int .i64 (jo : Int)) (.int .i64 (bi : Int)) (.int .i64 (he : Int)) (.int .i64 (ne : Int))
                have hRD : RD w (((((w22.setCell ⟨w21.heap.size, 0, none⟩ (.int .i64 (ep : Int))).setCell ⟨w21.heap.size, 1, none⟩ (.int .i64 (jo : Int))).setCell ⟨w21.heap.size, 2, none⟩ (.int .i64 (bi : Int))).setCell ⟨w21.heap.size, 3, none⟩ (.int .i64 (he : Int))).setCell ⟨w21.heap.size, 4, none⟩ (.int .i64 (ne : Int))) M w21.heap.size ⟨ep, jo, bi, he, ne⟩ := ⟨(HQ21.out.hB.trans (HC22.out.mono HQ21.out.hB.size)).trans (hF22.below (by have h1 := HQ21.out.hB.size; have h2 := HC22.out.size; omega) (fun k hk e => by have h1 := HQ21.out.hB.size; omega)), hF22.heap ((HC22.out.block M (lt_of_block HM21.out)).trans HM21.out) (by have := lt_of_block HM21.out; omega), five_set HN22.out _ _ _ _ _⟩
                clear hF22
                generalize ((((w22.setCell ⟨w21.heap.size, 0, none⟩ (.int .i64 (ep : Int))).setCell ⟨w21.heap.size, 1, none⟩ (.int .i64 (jo : Int))).setCell ⟨w21.heap.size, 2, none⟩ (.int .i64 (bi : Int))).setCell ⟨w21.heap.size, 3, none⟩ (.int .i64 (he : Int))).setCell ⟨w21.heap.size, 4, none⟩ (.int .i64 (ne : Int)) = wz at hRD ⊢
                generalize w21.heap.size = N at hRD ⊢
                revert hRD
                revert wz N
                exact key.out
            intro wz N hRD
            clear k0 k1 KD HQ21 HM21 hltG HP
            obtain ⟨m0, m1, m2, m3, m4⟩ := sup_cells' hRD.hM
            obtain ⟨v0, v1, v2, v3, v4⟩ := sup_cells' hRD.hN
            dsimp only at m0 m1 m2 m3 m4 v0 v1 v2 v3 v4
            have HRD := hid hRD
            clear hRD
            go_upto_region 22 with fail
            go_region_held3 (fun w' => w'.cell? ⟨M, 0, none⟩ = some (.int .u32 (ep : Int)) ∧ w'.cell? ⟨M, 1, none⟩ = some (.int .i64 (jo : Int)) ∧ w'.cell? ⟨M, 2, none⟩ = some (.int .i64 (bi : Int)) ∧ w'.cell? ⟨M, 3, none⟩ = some (.int .i64 (he : Int)) ∧ w'.cell? ⟨M, 4, none⟩ = some (.int .u32 (ne : Int)) ∧ w'.cell? ⟨N, 0, none⟩ = some (.int .i64 (ep : Int)) ∧ w'.cell? ⟨N, 1, none⟩ = some (.int .i64 (jo : Int)) ∧ w'.cell? ⟨N, 2, none⟩ = some (.int .i64 (bi : Int)) ∧ w'.cell? ⟨N, 3, none⟩ = some (.int .i64 (he : Int)) ∧ w'.cell? ⟨N, 4, none⟩ = some (.int .i64 (ne : Int)))
              (first | go_keep | exact ⟨m0, m1, m2, m3, m4, v0, v1, v2, v3, v4⟩ | exact ⟨s0, s1, s2, s3, s4, t0, t1, t2, t3, t4⟩)
              (first | (go_at_call 59; (with_reducible refine (KO.out wz.drew).mono ?_); rintro e30 w30 ⟨rfl, hB30⟩; have hC30 := Below.undrew hB30; have hM30 := (hC30.block M (lt_of_block HRD.out.hM)).trans HRD.out.hM; have hN30 := (hC30.block N (lt_of_block HRD.out.hN)).trans HRD.out.hN; obtain ⟨s0, s1, s2, s3, s4⟩ := sup_cells' hM30; obtain ⟨t0, t1, t2, t3, t4⟩ := sup_cells' hN30; dsimp only at s0 s1 s2 s3 s4 t0 t1 t2 t3 t4; have HC30 := hid (HRD.out.hB.trans (hC30.mono HRD.out.hB.size)); clear hB30 hC30 hM30 hN30))
            go_wp2_with fail
            go_ret
            exact ⟨rfl, HC30.out⟩
    · have d1 : decide ((q2 : Int) = 2) = false := by simp; omega
      have d1b : ((q2 : Int) == 2) = false := by simp; omega
      go_upto_region 9 with fail
      clear HY5
      go_upto_region 10 with (go_at_call 43; (with_reducible refine (disk_new (n : Int) n w5 (by omega)).mono ?_); rintro e9 w9 ⟨rfl, g, hD9, hg9, hB9⟩; have HB9 := hid hB9; have HD9 := hid hD9; have Hg9 := hid hg9; clear hB9 hD9 hg9)
      have hL : LW w w9 G w5.heap.size g l0 l1 (Dsk.new n) := by
        have h1 := lt_of_block HG5.out
        have h2 := HD9.out.hg
        have h3 := HB5.out.size
        exact ⟨HB5.out.trans (HB9.out.mono h3), (HB9.out.block G h1).trans HG5.out, HD9.out, Hg9.out, by rintro (e | e) <;> omega, h3, hGw⟩
      generalize w5.heap.size = bd at *
      have hLa : (l0).length ≤ 64 := hl0
      have hLb : (l1).length ≤ 64 := hl1
      generalize l0 = La at *
      generalize l1 = Lb at *
      have HL := hid hL
      clear hL HB9 HD9 Hg9 HG5 HB5
      go_wp2_with fail
      go_loopw [57] (fun iv wr => ∃ q : Nat, q ≤ 2 ∧ iv = .int .i64 q ∧ LW w wr G bd g (if 0 < q then pad La else La) (if 1 < q then pad Lb else Lb) (dq n La Lb q)) (fun iv _ => 2 - lenOf7 iv)
      case atStart => exact ⟨0, by omega, rfl, HL.out⟩
      case round =>
        obtain ⟨q, hq, rfl, hP⟩ := hrel
        clear HL
        have h3 : q = 0 ∨ q = 1 ∨ q = 2 := by omega
        rcases h3 with rfl | rfl | rfl
        · have hP : LW w wr G bd g La Lb (Dsk.new n) := hP
          have HP := hid hP
          have k0 := cell_of_block hP.hG 0
          have k1 := cell_of_block hP.hG 1
          simp only [List.getElem?_toArray, List.getElem?_cons_zero, List.getElem?_cons_succ] at k0 k1
          have KW : Hid (Calls Tryd.prog 52 #[.pointer (some ⟨bd, 0, none⟩), .int .i64 0, .string (S La)] wr fun e w' => e = .returned (.int .i64 0) ∧ DiskEnd wr bd bd g ((Dsk.new n).put7 0 La) w') := hid (write7q 0 La wr hP.hD hP.hg ⟨rfl, rfl⟩ hLa (by show 0 < n; omega))
          clear hP
          go_wp2_with (go_at_call 52; (with_reducible refine KW.out.mono ?_); rintro e13 w13 ⟨rfl, hE13⟩; have HP13 := hid (HP.out.disk hE13); clear hE13 k0 k1)
          go_loopw [] (fun wi => ∃ m : List UInt8, m.length ≤ 64 ∧ pad m = pad La ∧ LW w wi G bd g (m) (Lb) ((Dsk.new n).put7 0 La)) (fun wi => 64 - lenAt wi G 0)
          case atStart => exact ⟨La, hLa, rfl, HP13.out⟩
          case round =>
            obtain ⟨m, hm, hpm, hQ⟩ := hrel
            have k0 := cell_of_block hQ.hG 0
            have k1 := cell_of_block hQ.hG 1
            simp only [List.getElem?_toArray, List.getElem?_cons_zero, List.getElem?_cons_succ] at k0 k1
            have f0 := free_of_block hQ.hG 0
            have HQ := hid hQ
            have hsm := S_size m
            have Hpm := hid hpm
            clear hQ hpm HP HP13 KW
            by_cases hlt : m.length < 64
            · have d1 : decide ((m.length : Int) < 64) = true := by simp; omega
              have hadd : ∀ w, (Op.stringOp .add (S m) ⟨#[0]⟩).run Tryd.prog w = .ok (.string (S (m ++ [0]))) w := fun w => str_add m [0] (by omega) (by simp) w
              go_wp2_with fail
              have hQ2 := HQ.out.set0 (m ++ [0])
              have kq := cell_of_block hQ2.hG 0
              simp only [List.getElem?_toArray, List.getElem?_cons_zero, List.getElem?_cons_succ] at kq
              refine ⟨⟨m ++ [0], by simp; omega, by rw [pad_snoc hlt]; exact Hpm.out, hQ2⟩, ?_⟩
              rw [lenAt_is kq, lenAt_is k0, S_size, S_size, List.length_append, List.length_singleton]
              omega
            · have hm64 : m.length = 64 := by omega
              have d1 : decide ((m.length : Int) < 64) = false := by simp; omega
              go_wp2_with fail
              refine ⟨⟨1, by omega, by go_num, ?_⟩, by simp [lenOf7]⟩
              have hmp : m = pad La := by rw [← Hpm.out, pad_full hm64]
              have h := HQ.out
              rw [hmp] at h
              exact h
        · have hP : LW w wr G bd g (pad La) Lb ((Dsk.new n).put7 0 La) := hP
          have HP := hid hP
          have k0 := cell_of_block hP.hG 0
          have k1 := cell_of_block hP.hG 1
          simp only [List.getElem?_toArray, List.getElem?_cons_zero, List.getElem?_cons_succ] at k0 k1
          have KW : Hid (Calls Tryd.prog 52 #[.pointer (some ⟨bd, 0, none⟩), .int .i64 1, .string (S Lb)] wr fun e w' => e = .returned (.int .i64 0) ∧ DiskEnd wr bd bd g (((Dsk.new n).put7 0 La).put7 1 Lb) w') := hid (write7q 1 Lb wr hP.hD hP.hg ⟨rfl, rfl⟩ hLb (by show 1 < n; omega))
          clear hP
          go_wp2_with (go_at_call 52; (with_reducible refine KW.out.mono ?_); rintro e13 w13 ⟨rfl, hE13⟩; have HP13 := hid (HP.out.disk hE13); clear hE13 k0 k1)
          go_loopw [] (fun wi => ∃ m : List UInt8, m.length ≤ 64 ∧ pad m = pad Lb ∧ LW w wi G bd g (pad La) (m) (((Dsk.new n).put7 0 La).put7 1 Lb)) (fun wi => 64 - lenAt wi G 1)
          case atStart => exact ⟨Lb, hLb, rfl, HP13.out⟩
          case round =>
            obtain ⟨m, hm, hpm, hQ⟩ := hrel
            have k0 := cell_of_block hQ.hG 0
            have k1 := cell_of_block hQ.hG 1
            simp only [List.getElem?_toArray, List.getElem?_cons_zero, List.getElem?_cons_succ] at k0 k1
            have f0 := free_of_block hQ.hG 1
            have HQ := hid hQ
            have hsm := S_size m
            have Hpm := hid hpm
            clear hQ hpm HP HP13 KW
            by_cases hlt : m.length < 64
            · have d1 : decide ((m.length : Int) < 64) = true := by simp; omega
              have hadd : ∀ w, (Op.stringOp .add (S m) ⟨#[0]⟩).run Tryd.prog w = .ok (.string (S (m ++ [0]))) w := fun w => str_add m [0] (by omega) (by simp) w
              go_wp2_with fail
              have hQ2 := HQ.out.set1 (m ++ [0])
              have kq := cell_of_block hQ2.hG 1
              simp only [List.getElem?_toArray, List.getElem?_cons_zero, List.getElem?_cons_succ] at kq
              refine ⟨⟨m ++ [0], by simp; omega, by rw [pad_snoc hlt]; exact Hpm.out, hQ2⟩, ?_⟩
              rw [lenAt_is kq, lenAt_is k1, S_size, S_size, List.length_append, List.length_singleton]
              omega
            · have hm64 : m.length = 64 := by omega
              have d1 : decide ((m.length : Int) < 64) = false := by simp; omega
              go_wp2_with fail
              refine ⟨⟨2, by omega, by go_num, ?_⟩, by simp [lenOf7]⟩
              have hmp : m = pad Lb := by rw [← Hpm.out, pad_full hm64]
              have h := HQ.out
              rw [hmp] at h
              exact h
        · have hP : LW w wr G bd g (pad La) (pad Lb) (((Dsk.new n).put7 0 La).put7 1 Lb) := hP
          have HP := hid hP
          have hdn2 : (((Dsk.new n).put7 0 La).put7 1 Lb).n = n := rfl
          have hdd2 : (((Dsk.new n).put7 0 La).put7 1 Lb).dead = false := rfl
          have hbd := best_doc (D := ((Dsk.new n).put7 0 La).put7 1 Lb) hn2
          have e0 : (((Dsk.new n).put7 0 La).put7 1 Lb).now 0 = pad La := rfl
          have e1 : (((Dsk.new n).put7 0 La).put7 1 Lb).now 1 = pad Lb := rfl
          rw [e0, e1, hdn2] at hbd
          have hP0 : (pad La).length = 64 := pad_length hLa
          have hP1 : (pad Lb).length = 64 := pad_length hLb
          clear hP e0 e1
          generalize ((Dsk.new n).put7 0 La).put7 1 Lb = E at *
          generalize pad La = P0 at *
          generalize pad Lb = P1 at *
          cases hdoc : docRead P0 P1 n with
          | none =>
            have hbest : E.best = sup0 := by rw [hbd, hdoc]; rfl
            have hber : E.bErr = 1 := by unfold Dsk.bErr; rw [hbest]; rfl
            clear hbd
            have KR : Hid (Calls Tryd.prog 63 #[.pointer (some ⟨bd, 0, none⟩)] wr fun e w' => e = .returned (.tuple #[.agg #[.int .u32 0, .int .i64 0, .int .i64 0, .int .i64 0, .int .u32 0], .int .i64 1]) ∧ Below wr.heap.size wr w') := hid (by have h := lread7 wr HP.out.hD hdd2 sup0 hbest; rw [hber] at h; exact h)
            have KD : Hid (∀ w, Calls Tryd.prog 66 #[.string (S P0), .string (S P1), .int .i64 (n : Int)] w fun e w' => e = .returned (.tuple #[.agg #[.int .i64 0, .int .i64 0, .int .i64 0, .int .i64 0, .int .i64 0], .bool false]) ∧ Below w.heap.size w w') := hid (fun w => ref7_read P0 P1 n sup0 false w hP0 hP1 (by omega) (by rw [hdoc]; rfl) (by rw [hdoc]; rfl))
            clear hbest hber hdoc hdd2 hdn2
            go_upto_region 19 with (go_at_call 63; (with_reducible refine KR.out.mono ?_); rintro e20 w20 ⟨rfl, hB20⟩; have HQ20 := hid (HP.out.below hB20); clear hB20)
            have hM21 := heap_new w20 (.cells #[.int .u32 0, .int .i64 0, .int .i64 0, .int .i64 0, .int .u32 0] 91)
            have HQ21 := hid (HQ20.out.below ((Below.refl _ w20).alloc (Nat.le_refl _) (.cells #[.int .u32 0, .int .i64 0, .int .i64 0, .int .i64 0, .int .u32 0] 91)))
            generalize w20.alloc (.cells #[.int .u32 0, .int .i64 0, .int .i64 0, .int .i64 0, .int .u32 0] 91) = w21 at *
            generalize w20.heap.size = M at *
            have HM21 := hid hM21
            have hltG := lt_of_block HQ21.out.hG
            have k0 := cell_of_block HQ21.out.hG 0
            have k1 := cell_of_block HQ21.out.hG 1
            simp only [List.getElem?_toArray, List.getElem?_cons_zero, List.getElem?_cons_succ] at k0 k1
            clear hM21 KR HQ20
            apply shared7
            · intro key
              refine wp_region_held_drew (S := fun w' => w'.cell? ⟨G, 0, none⟩ = some (.string (S P0)) ∧ w'.cell? ⟨G, 1, none⟩ = some (.string (S P1))) (by kernel_rfl) ⟨k0, k1⟩ (fun hHeld => ?_)
              refine wpAnyH_take (i := 0) (oi := _) (v := ?_) rfl (by kernel_rfl) (by kernel_rfl) (by kernel_rfl) (fun _ _ _ h => h) (Or.inl ⟨by rfl, ?_⟩) (by assumption) ?_
              rotate_left
              · intro w hSw
                try dsimp only at hSw
                go_simp
                try with_reducible rfl
              try simp only [Act.put, List.setIfInBounds_toArray, List.set_cons_zero, List.set_cons_succ, List.getElem_toArray, List.getElem_cons_zero, List.getElem_cons_succ]
              refine wpAnyH_take (i := 1) (oi := _) (v := ?_) rfl (by kernel_rfl) (by kernel_rfl) (by kernel_rfl) (fun _ _ _ h => h) (Or.inl ⟨by rfl, ?_⟩) (by assumption) ?_
              rotate_left
              · intro w hSw
                try dsimp only at hSw
                go_simp
                try with_reducible rfl
              try simp only [Act.put, List.setIfInBounds_toArray, List.set_cons_zero, List.set_cons_succ, List.getElem_toArray, List.getElem_cons_zero, List.getElem_cons_succ]
              refine wpAnyH_take (i := 2) (oi := _) (v := ?_) rfl (by kernel_rfl) (by kernel_rfl) (by kernel_rfl) (fun _ _ _ h => h) (Or.inl ⟨by rfl, ?_⟩) (by assumption) ?_
              rotate_left
              · intro w hSw
                try dsimp only at hSw
                go_simp
                try with_reducible rfl
              try simp only [Act.put, List.setIfInBounds_toArray, List.set_cons_zero, List.set_cons_succ, List.getElem_toArray, List.getElem_cons_zero, List.getElem_cons_succ]
              refine wpAnyH_take (i := 3) (oi := _) (v := ?_) rfl (by kernel_rfl) (by kernel_rfl) (by kernel_rfl) (fun _ _ _ h => h) (Or.inl ⟨by rfl, ?_⟩) (by assumption) ?_
              rotate_left
              · intro w hSw
                try dsimp only at hSw
                go_simp
                try with_reducible rfl
              try simp only [Act.put, List.setIfInBounds_toArray, List.set_cons_zero, List.set_cons_succ, List.getElem_toArray, List.getElem_cons_zero, List.getElem_cons_succ]
              refine wpAnyH_take (i := 4) (oi := _) (v := ?_) rfl (by kernel_rfl) (by kernel_rfl) (by kernel_rfl) (fun _ _ _ h => h) (Or.inl ⟨by rfl, ?_⟩) (by assumption) ?_
              rotate_left
              · intro w hSw
                try dsimp only at hSw
                go_simp
                try with_reducible rfl
              try simp only [Act.put, List.setIfInBounds_toArray, List.set_cons_zero, List.set_cons_succ, List.getElem_toArray, List.getElem_cons_zero, List.getElem_cons_succ]
              refine wpAnyH_take (i := 5) (oi := _) (v := ?_) rfl (by kernel_rfl) (by kernel_rfl) (by kernel_rfl) (fun _ _ _ h => h) (Or.inl ⟨by rfl, ?_⟩) (by assumption) ?_
              rotate_left
              · intro w hSw
                try dsimp only at hSw
                go_simp
                try with_reducible rfl
              try simp only [Act.put, List.setIfInBounds_toArray, List.set_cons_zero, List.set_cons_succ, List.getElem_toArray, List.getElem_cons_zero, List.getElem_cons_succ]
              refine wpAnyH_take (i := 6) (oi := _) (v := ?_) rfl (by kernel_rfl) (by kernel_rfl) (by kernel_rfl) (fun _ _ _ h => h) (Or.inl ⟨by rfl, ?_⟩) (by assumption) ?_
              rotate_left
              · intro w hSw
                try dsimp only at hSw
                go_simp
                try with_reducible rfl
              try simp only [Act.put, List.setIfInBounds_toArray, List.set_cons_zero, List.set_cons_succ, List.getElem_toArray, List.getElem_cons_zero, List.getElem_cons_succ]
              refine wpAnyH_ready (rs := [7, 11]) (by kernel_rfl) (by simp) ?_
              refine AllReadyH.cons (o := _) rfl (fun K hK => ?_) (AllReadyH.cons (o := _) rfl (fun K hK => ?_) AllReadyH.nil)
              · go_simp
                go_at_call 66
                (with_reducible refine (KD.out _).mono ?_)
                rintro e22 w22 ⟨rfl, hB22⟩
                have hC22 : Below w21.heap.size w21 w22 := Below.undrew hB22
                have HC22 := hid hC22
                have hG22 := (hC22.block G hltG).trans HQ21.out.hG
                have j0 := cell_of_block hG22 0
                have j1 := cell_of_block hG22 1
                simp only [List.getElem?_toArray, List.getElem?_cons_zero, List.getElem?_cons_succ] at j0 j1
                clear hB22 hG22 hC22
                try dsimp only
                refine hK.out _ _ ?_ (fun hHeld => ?_)
                · exact ⟨j0, j1⟩
                clear hK K
                try simp only [Act.put, List.setIfInBounds_toArray, List.set_cons_zero, List.set_cons_succ, List.getElem_toArray, List.getElem_cons_zero, List.getElem_cons_succ]
                refine wpAnyH_take (i := 8) (oi := _) (v := ?_) rfl (by kernel_rfl) (by kernel_rfl) (by kernel_rfl) (fun _ _ _ h => h) (Or.inl ⟨by rfl, ?_⟩) (by assumption) ?_
                rotate_left
                · intro w hSw
                  try dsimp only at hSw
                  go_simp
                  try with_reducible rfl
                try simp only [Act.put, List.setIfInBounds_toArray, List.set_cons_zero, List.set_cons_succ, List.getElem_toArray, List.getElem_cons_zero, List.getElem_cons_succ]
                refine wpAnyH_take (i := 9) (oi := _) (v := ?_) rfl (by kernel_rfl) (by kernel_rfl) (by kernel_rfl) (fun _ _ _ h => h) (Or.inl ⟨by rfl, ?_⟩) (by assumption) ?_
                rotate_left
                · intro w hSw
                  try dsimp only at hSw
                  go_simp
                  try with_reducible rfl
                try simp only [Act.put, List.setIfInBounds_toArray, List.set_cons_zero, List.set_cons_succ, List.getElem_toArray, List.getElem_cons_zero, List.getElem_cons_succ]
                refine wpAnyH_take (i := 10) (oi := _) (v := ?_) rfl (by kernel_rfl) (by kernel_rfl) (by kernel_rfl) (fun _ _ _ h => h) (Or.inl ⟨by rfl, ?_⟩) (by assumption) ?_
                rotate_left
                · intro w hSw
                  try dsimp only at hSw
                  go_simp
                  try with_reducible rfl
                try simp only [Act.put, List.setIfInBounds_toArray, List.set_cons_zero, List.set_cons_succ, List.getElem_toArray, List.getElem_cons_zero, List.getElem_cons_succ]
                refine wpAnyH_ready (rs := [11]) (by kernel_rfl) (by simp) ?_
                refine AllReadyH.cons (o := _) rfl (fun K hK => ?_) AllReadyH.nil
                go_simp
                try dsimp only
                refine hK.out _ _ ?_ (fun hHeld => ?_)
                · exact (by go_keep)
                clear hK K
                try simp only [Act.put, List.setIfInBounds_toArray, List.set_cons_zero, List.set_cons_succ, List.getElem_toArray, List.getElem_cons_zero, List.getElem_cons_succ]
                refine wpAnyH_ready (rs := [12]) (by kernel_rfl) (by simp) ?_
                refine AllReadyH.cons (o := _) rfl (fun K hK => ?_) AllReadyH.nil
                go_simp
                try dsimp only
                refine hK.out _ _ ?_ (fun hHeld => ?_)
                · exact (by go_keep)
                clear hK K
                try simp only [Act.put, List.setIfInBounds_toArray, List.set_cons_zero, List.set_cons_succ, List.getElem_toArray, List.getElem_cons_zero, List.getElem_cons_succ]
                refine wpAnyH_ready (rs := [13]) (by kernel_rfl) (by simp) ?_
                refine AllReadyH.cons (o := _) rfl (fun K hK => ?_) AllReadyH.nil
                go_simp
                try dsimp only
                refine hK.out _ _ ?_ (fun hHeld => ?_)
                · exact (by go_keep)
                clear hK K
                try simp only [Act.put, List.setIfInBounds_toArray, List.set_cons_zero, List.set_cons_succ, List.getElem_toArray, List.getElem_cons_zero, List.getElem_cons_succ]
                refine wpAnyH_done (by kernel_rfl) ?_ _
                go_simp
                have hRD : RD w (w22.alloc (.cells #[.int .i64 0, .int .i64 0, .int .i64 0, .int .i64 0, .int .i64 0] 88)) M w22.heap.size sup0 := ⟨HQ21.out.hB.trans ((HC22.out.alloc HC22.out.size _).mono HQ21.out.hB.size), heap_old ((HC22.out.block M (lt_of_block HM21.out)).trans HM21.out) _, heap_new w22 _⟩
                generalize w22.alloc (.cells #[.int .i64 0, .int .i64 0, .int .i64 0, .int .i64 0, .int .i64 0] 88) = wz at hRD ⊢
                generalize w22.heap.size = N at hRD ⊢
                revert hRD
                revert wz N
                exact key.out
              · go_simp
                try dsimp only
                refine hK.out _ _ ?_ (fun hHeld => ?_)
                · exact (by go_keep)
                clear hK K
                try simp only [Act.put, List.setIfInBounds_toArray, List.set_cons_zero, List.set_cons_succ, List.getElem_toArray, List.getElem_cons_zero, List.getElem_cons_succ]
                refine wpAnyH_ready (rs := [7]) (by kernel_rfl) (by simp) ?_
                refine AllReadyH.cons (o := _) rfl (fun K hK => ?_) AllReadyH.nil
                go_simp
                go_at_call 66
                (with_reducible refine (KD.out _).mono ?_)
                rintro e22 w22 ⟨rfl, hB22⟩
                have hC22 : Below w21.heap.size w21 w22 := Below.trans (B := w21.heap.size) ((Below.refl _ w21).alloc (Nat.le_refl _) r5z) ((Below.undrew hB22).mono (by simp))
                have HC22 := hid hC22
                have hG22 := (hC22.block G hltG).trans HQ21.out.hG
                have j0 := cell_of_block hG22 0
                have j1 := cell_of_block hG22 1
                simp only [List.getElem?_toArray, List.getElem?_cons_zero, List.getElem?_cons_succ] at j0 j1
                have hN22 := ((Below.undrew hB22).block w21.heap.size (by simp)).trans (heap_new w21 r5z)
                obtain ⟨z0, z1, z2, z3, z4⟩ := sup_cells' hN22
                obtain ⟨y0, y1, y2, y3, y4⟩ := free_five hN22
                have HN22 := hid hN22
                clear hN22
                clear hB22 hG22 hC22
                try dsimp only
                refine hK.out _ _ ?_ (fun hHeld => ?_)
                · exact ⟨j0, j1⟩
                clear hK K
                try simp only [Act.put, List.setIfInBounds_toArray, List.set_cons_zero, List.set_cons_succ, List.getElem_toArray, List.getElem_cons_zero, List.getElem_cons_succ]
                refine wpAnyH_take (i := 8) (oi := _) (v := ?_) rfl (by kernel_rfl) (by kernel_rfl) (by kernel_rfl) (fun _ _ _ h => h) (Or.inl ⟨by rfl, ?_⟩) (by assumption) ?_
                rotate_left
                · intro w hSw
                  try dsimp only at hSw
                  go_simp
                  try with_reducible rfl
                try simp only [Act.put, List.setIfInBounds_toArray, List.set_cons_zero, List.set_cons_succ, List.getElem_toArray, List.getElem_cons_zero, List.getElem_cons_succ]
                refine wpAnyH_take (i := 9) (oi := _) (v := ?_) rfl (by kernel_rfl) (by kernel_rfl) (by kernel_rfl) (fun _ _ _ h => h) (Or.inl ⟨by rfl, ?_⟩) (by assumption) ?_
                rotate_left
                · intro w hSw
                  try dsimp only at hSw
                  go_simp
                  try with_reducible rfl
                try simp only [Act.put, List.setIfInBounds_toArray, List.set_cons_zero, List.set_cons_succ, List.getElem_toArray, List.getElem_cons_zero, List.getElem_cons_succ]
                refine wpAnyH_take (i := 10) (oi := _) (v := ?_) rfl (by kernel_rfl) (by kernel_rfl) (by kernel_rfl) (fun _ _ _ h => h) (Or.inl ⟨by rfl, ?_⟩) (by assumption) ?_
                rotate_left
                · intro w hSw
                  try dsimp only at hSw
                  go_simp
                  try with_reducible rfl
                try simp only [Act.put, List.setIfInBounds_toArray, List.set_cons_zero, List.set_cons_succ, List.getElem_toArray, List.getElem_cons_zero, List.getElem_cons_succ]
                have hne : w21.heap.size ≠ G := by omega
                refine wpAnyH_ready (rs := [12]) (by kernel_rfl) (by simp) ?_
                refine AllReadyH.cons (o := _) rfl (fun K hK => ?_) AllReadyH.nil
                go_simp
                try dsimp only
                refine hK.out _ _ ?_ (fun hHeld => ?_)
                · exact ⟨cellS (cellS (cellS (cellS (cellS j0 (p := ⟨w21.heap.size, 0, none⟩) hne _) (p := ⟨w21.heap.size, 1, none⟩) hne _) (p := ⟨w21.heap.size, 2, none⟩) hne _) (p := ⟨w21.heap.size, 3, none⟩) hne _) (p := ⟨w21.heap.size, 4, none⟩) hne _, cellS (cellS (cellS (cellS (cellS j1 (p := ⟨w21.heap.size, 0, none⟩) hne _) (p := ⟨w21.heap.size, 1, none⟩) hne _) (p := ⟨w21.heap.size, 2, none⟩) hne _) (p := ⟨w21.heap.size, 3, none⟩) hne _) (p := ⟨w21.heap.size, 4, none⟩) hne _⟩
                clear hK K
                try simp only [Act.put, List.setIfInBounds_toArray, List.set_cons_zero, List.set_cons_succ, List.getElem_toArray, List.getElem_cons_zero, List.getElem_cons_succ]
                refine wpAnyH_ready (rs := [13]) (by kernel_rfl) (by simp) ?_
                refine AllReadyH.cons (o := _) rfl (fun K hK => ?_) AllReadyH.nil
                go_simp
                try dsimp only
                refine hK.out _ _ ?_ (fun hHeld => ?_)
                · exact ⟨cellS (cellS (cellS (cellS (cellS j0 (p := ⟨w21.heap.size, 0, none⟩) hne _) (p := ⟨w21.heap.size, 1, none⟩) hne _) (p := ⟨w21.heap.size, 2, none⟩) hne _) (p := ⟨w21.heap.size, 3, none⟩) hne _) (p := ⟨w21.heap.size, 4, none⟩) hne _, cellS (cellS (cellS (cellS (cellS j1 (p := ⟨w21.heap.size, 0, none⟩) hne _) (p := ⟨w21.heap.size, 1, none⟩) hne _) (p := ⟨w21.heap.size, 2, none⟩) hne _) (p := ⟨w21.heap.size, 3, none⟩) hne _) (p := ⟨w21.heap.size, 4, none⟩) hne _⟩
                clear hK K
                try simp only [Act.put, List.setIfInBounds_toArray, List.set_cons_zero, List.set_cons_succ, List.getElem_toArray, List.getElem_cons_zero, List.getElem_cons_succ]
                refine wpAnyH_done (by kernel_rfl) ?_ _
                go_simp
                have hF22 := five_fr (w := w22) w21.heap.size (.int .i64 0) (.int .i64 0) (.int .i64 0) (.int .i64 0) (.int .i64 0)
                have hRD : RD w (((((w22.setCell ⟨w21.heap.size, 0, none⟩ (.int .i64 0)).setCell ⟨w21.heap.size, 1, none⟩ (.int .i64 0)).setCell ⟨w21.heap.size, 2, none⟩ (.int .i64 0)).setCell ⟨w21.heap.size, 3, none⟩ (.int .i64 0)).setCell ⟨w21.heap.size, 4, none⟩ (.int .i64 0)) M w21.heap.size sup0 := ⟨(HQ21.out.hB.trans (HC22.out.mono HQ21.out.hB.size)).trans (hF22.below (by have h1 := HQ21.out.hB.size; have h2 := HC22.out.size; omega) (fun k hk e => by have h1 := HQ21.out.hB.size; omega)), hF22.heap ((HC22.out.block M (lt_of_block HM21.out)).trans HM21.out) (by have := lt_of_block HM21.out; omega), five_set HN22.out _ _ _ _ _⟩
                clear hF22
                generalize ((((w22.setCell ⟨w21.heap.size, 0, none⟩ (.int .i64 0)).setCell ⟨w21.heap.size, 1, none⟩ (.int .i64 0)).setCell ⟨w21.heap.size, 2, none⟩ (.int .i64 0)).setCell ⟨w21.heap.size, 3, none⟩ (.int .i64 0)).setCell ⟨w21.heap.size, 4, none⟩ (.int .i64 0) = wz at hRD ⊢
                generalize w21.heap.size = N at hRD ⊢
                revert hRD
                revert wz N
                exact key.out
            intro wz N hRD
            clear k0 k1 KD HQ21 HM21 hltG HP
            obtain ⟨m0, m1, m2, m3, m4⟩ := sup_cells' hRD.hM
            change wz.cell? _ = some (.int .u32 0) at m0
            change wz.cell? _ = some (.int .i64 0) at m1
            change wz.cell? _ = some (.int .i64 0) at m2
            change wz.cell? _ = some (.int .i64 0) at m3
            change wz.cell? _ = some (.int .u32 0) at m4
            have HRD := hid hRD
            clear hRD
            go_wp2_with fail
            go_ret
            exact ⟨rfl, HRD.out.hB⟩
          | some x =>
            have hep := docRead_ep hdoc
            have hxs := docRead_small hdoc
            have hbest : E.best = x := by rw [hbd, hdoc]; rfl
            have hber : E.bErr = 0 := by unfold Dsk.bErr; rw [hbest]; exact if_neg (by omega)
            obtain ⟨ep, jo, bi, he, ne⟩ := x
            have KO := hid (fun w => own7_any ep jo bi he ne w hxs.ep hxs.ne)
            clear hbd hep hxs
            have KR : Hid (Calls Tryd.prog 63 #[.pointer (some ⟨bd, 0, none⟩)] wr fun e w' => e = .returned (.tuple #[.agg #[.int .u32 (ep : Int), .int .i64 (jo : Int), .int .i64 (bi : Int), .int .i64 (he : Int), .int .u32 (ne : Int)], .int .i64 0]) ∧ Below wr.heap.size wr w') := hid (by have h := lread7 wr HP.out.hD hdd2 ⟨ep, jo, bi, he, ne⟩ hbest; rw [hber] at h; exact h)
            have KD : Hid (∀ w, Calls Tryd.prog 66 #[.string (S P0), .string (S P1), .int .i64 (n : Int)] w fun e w' => e = .returned (.tuple #[.agg #[.int .i64 (ep : Int), .int .i64 (jo : Int), .int .i64 (bi : Int), .int .i64 (he : Int), .int .i64 (ne : Int)], .bool true]) ∧ Below w.heap.size w w') := hid (fun w => ref7_read P0 P1 n ⟨ep, jo, bi, he, ne⟩ true w hP0 hP1 (by omega) (by rw [hdoc]; rfl) (by rw [hdoc]; rfl))
            clear hbest hber hdoc hdd2 hdn2
            go_upto_region 19 with (go_at_call 63; (with_reducible refine KR.out.mono ?_); rintro e20 w20 ⟨rfl, hB20⟩; have HQ20 := hid (HP.out.below hB20); clear hB20)
            have hM21 := heap_new w20 (.cells #[.int .u32 (ep : Int), .int .i64 (jo : Int), .int .i64 (bi : Int), .int .i64 (he : Int), .int .u32 (ne : Int)] 91)
            have HQ21 := hid (HQ20.out.below ((Below.refl _ w20).alloc (Nat.le_refl _) (.cells #[.int .u32 (ep : Int), .int .i64 (jo : Int), .int .i64 (bi : Int), .int .i64 (he : Int), .int .u32 (ne : Int)] 91)))
            generalize w20.alloc (.cells #[.int .u32 (ep : Int), .int .i64 (jo : Int), .int .i64 (bi : Int), .int .i64 (he : Int), .int .u32 (ne : Int)] 91) = w21 at *
            generalize w20.heap.size = M at *
            have HM21 := hid hM21
            have hltG := lt_of_block HQ21.out.hG
            have k0 := cell_of_block HQ21.out.hG 0
            have k1 := cell_of_block HQ21.out.hG 1
            simp only [List.getElem?_toArray, List.getElem?_cons_zero, List.getElem?_cons_succ] at k0 k1
            clear hM21 KR HQ20
            apply shared7
            · intro key
              refine wp_region_held_drew (S := fun w' => w'.cell? ⟨G, 0, none⟩ = some (.string (S P0)) ∧ w'.cell? ⟨G, 1, none⟩ = some (.string (S P1))) (by kernel_rfl) ⟨k0, k1⟩ (fun hHeld => ?_)
              refine wpAnyH_take (i := 0) (oi := _) (v := ?_) rfl (by kernel_rfl) (by kernel_rfl) (by kernel_rfl) (fun _ _ _ h => h) (Or.inl ⟨by rfl, ?_⟩) (by assumption) ?_
              rotate_left
              · intro w hSw
                try dsimp only at hSw
                go_simp
                try with_reducible rfl
              try simp only [Act.put, List.setIfInBounds_toArray, List.set_cons_zero, List.set_cons_succ, List.getElem_toArray, List.getElem_cons_zero, List.getElem_cons_succ]
              refine wpAnyH_take (i := 1) (oi := _) (v := ?_) rfl (by kernel_rfl) (by kernel_rfl) (by kernel_rfl) (fun _ _ _ h => h) (Or.inl ⟨by rfl, ?_⟩) (by assumption) ?_
              rotate_left
              · intro w hSw
                try dsimp only at hSw
                go_simp
                try with_reducible rfl
              try simp only [Act.put, List.setIfInBounds_toArray, List.set_cons_zero, List.set_cons_succ, List.getElem_toArray, List.getElem_cons_zero, List.getElem_cons_succ]
              refine wpAnyH_take (i := 2) (oi := _) (v := ?_) rfl (by kernel_rfl) (by kernel_rfl) (by kernel_rfl) (fun _ _ _ h => h) (Or.inl ⟨by rfl, ?_⟩) (by assumption) ?_
              rotate_left
              · intro w hSw
                try dsimp only at hSw
                go_simp
                try with_reducible rfl
              try simp only [Act.put, List.setIfInBounds_toArray, List.set_cons_zero, List.set_cons_succ, List.getElem_toArray, List.getElem_cons_zero, List.getElem_cons_succ]
              refine wpAnyH_take (i := 3) (oi := _) (v := ?_) rfl (by kernel_rfl) (by kernel_rfl) (by kernel_rfl) (fun _ _ _ h => h) (Or.inl ⟨by rfl, ?_⟩) (by assumption) ?_
              rotate_left
              · intro w hSw
                try dsimp only at hSw
                go_simp
                try with_reducible rfl
              try simp only [Act.put, List.setIfInBounds_toArray, List.set_cons_zero, List.set_cons_succ, List.getElem_toArray, List.getElem_cons_zero, List.getElem_cons_succ]
              refine wpAnyH_take (i := 4) (oi := _) (v := ?_) rfl (by kernel_rfl) (by kernel_rfl) (by kernel_rfl) (fun _ _ _ h => h) (Or.inl ⟨by rfl, ?_⟩) (by assumption) ?_
              rotate_left
              · intro w hSw
                try dsimp only at hSw
                go_simp
                try with_reducible rfl
              try simp only [Act.put, List.setIfInBounds_toArray, List.set_cons_zero, List.set_cons_succ, List.getElem_toArray, List.getElem_cons_zero, List.getElem_cons_succ]
              refine wpAnyH_take (i := 5) (oi := _) (v := ?_) rfl (by kernel_rfl) (by kernel_rfl) (by kernel_rfl) (fun _ _ _ h => h) (Or.inl ⟨by rfl, ?_⟩) (by assumption) ?_
              rotate_left
              · intro w hSw
                try dsimp only at hSw
                go_simp
                try with_reducible rfl
              try simp only [Act.put, List.setIfInBounds_toArray, List.set_cons_zero, List.set_cons_succ, List.getElem_toArray, List.getElem_cons_zero, List.getElem_cons_succ]
              refine wpAnyH_take (i := 6) (oi := _) (v := ?_) rfl (by kernel_rfl) (by kernel_rfl) (by kernel_rfl) (fun _ _ _ h => h) (Or.inl ⟨by rfl, ?_⟩) (by assumption) ?_
              rotate_left
              · intro w hSw
                try dsimp only at hSw
                go_simp
                try with_reducible rfl
              try simp only [Act.put, List.setIfInBounds_toArray, List.set_cons_zero, List.set_cons_succ, List.getElem_toArray, List.getElem_cons_zero, List.getElem_cons_succ]
              refine wpAnyH_ready (rs := [7, 11]) (by kernel_rfl) (by simp) ?_
              refine AllReadyH.cons (o := _) rfl (fun K hK => ?_) (AllReadyH.cons (o := _) rfl (fun K hK => ?_) AllReadyH.nil)
              · go_simp
                go_at_call 66
                (with_reducible refine (KD.out _).mono ?_)
                rintro e22 w22 ⟨rfl, hB22⟩
                have hC22 : Below w21.heap.size w21 w22 := Below.undrew hB22
                have HC22 := hid hC22
                have hG22 := (hC22.block G hltG).trans HQ21.out.hG
                have j0 := cell_of_block hG22 0
                have j1 := cell_of_block hG22 1
                simp only [List.getElem?_toArray, List.getElem?_cons_zero, List.getElem?_cons_succ] at j0 j1
                clear hB22 hG22 hC22
                try dsimp only
                refine hK.out _ _ ?_ (fun hHeld => ?_)
                · exact ⟨j0, j1⟩
                clear hK K
                try simp only [Act.put, List.setIfInBounds_toArray, List.set_cons_zero, List.set_cons_succ, List.getElem_toArray, List.getElem_cons_zero, List.getElem_cons_succ]
                refine wpAnyH_take (i := 8) (oi := _) (v := ?_) rfl (by kernel_rfl) (by kernel_rfl) (by kernel_rfl) (fun _ _ _ h => h) (Or.inl ⟨by rfl, ?_⟩) (by assumption) ?_
                rotate_left
                · intro w hSw
                  try dsimp only at hSw
                  go_simp
                  try with_reducible rfl
                try simp only [Act.put, List.setIfInBounds_toArray, List.set_cons_zero, List.set_cons_succ, List.getElem_toArray, List.getElem_cons_zero, List.getElem_cons_succ]
                refine wpAnyH_take (i := 9) (oi := _) (v := ?_) rfl (by kernel_rfl) (by kernel_rfl) (by kernel_rfl) (fun _ _ _ h => h) (Or.inl ⟨by rfl, ?_⟩) (by assumption) ?_
                rotate_left
                · intro w hSw
                  try dsimp only at hSw
                  go_simp
                  try with_reducible rfl
                try simp only [Act.put, List.setIfInBounds_toArray, List.set_cons_zero, List.set_cons_succ, List.getElem_toArray, List.getElem_cons_zero, List.getElem_cons_succ]
                refine wpAnyH_take (i := 10) (oi := _) (v := ?_) rfl (by kernel_rfl) (by kernel_rfl) (by kernel_rfl) (fun _ _ _ h => h) (Or.inl ⟨by rfl, ?_⟩) (by assumption) ?_
                rotate_left
                · intro w hSw
                  try dsimp only at hSw
                  go_simp
                  try with_reducible rfl
                try simp only [Act.put, List.setIfInBounds_toArray, List.set_cons_zero, List.set_cons_succ, List.getElem_toArray, List.getElem_cons_zero, List.getElem_cons_succ]
                refine wpAnyH_ready (rs := [11]) (by kernel_rfl) (by simp) ?_
                refine AllReadyH.cons (o := _) rfl (fun K hK => ?_) AllReadyH.nil
                go_simp
                try dsimp only
                refine hK.out _ _ ?_ (fun hHeld => ?_)
                · exact (by go_keep)
                clear hK K
                try simp only [Act.put, List.setIfInBounds_toArray, List.set_cons_zero, List.set_cons_succ, List.getElem_toArray, List.getElem_cons_zero, List.getElem_cons_succ]
                refine wpAnyH_ready (rs := [12]) (by kernel_rfl) (by simp) ?_
                refine AllReadyH.cons (o := _) rfl (fun K hK => ?_) AllReadyH.nil
                go_simp
                try dsimp only
                refine hK.out _ _ ?_ (fun hHeld => ?_)
                · exact (by go_keep)
                clear hK K
                try simp only [Act.put, List.setIfInBounds_toArray, List.set_cons_zero, List.set_cons_succ, List.getElem_toArray, List.getElem_cons_zero, List.getElem_cons_succ]
                refine wpAnyH_ready (rs := [13]) (by kernel_rfl) (by simp) ?_
                refine AllReadyH.cons (o := _) rfl (fun K hK => ?_) AllReadyH.nil
                go_simp
                try dsimp only
                refine hK.out _ _ ?_ (fun hHeld => ?_)
                · exact (by go_keep)
                clear hK K
                try simp only [Act.put, List.setIfInBounds_toArray, List.set_cons_zero, List.set_cons_succ, List.getElem_toArray, List.getElem_cons_zero, List.getElem_cons_succ]
                refine wpAnyH_done (by kernel_rfl) ?_ _
                go_simp
                have hRD : RD w (w22.alloc (.cells #[.int .i64 (ep : Int), .int .i64 (jo : Int), .int .i64 (bi : Int), .int .i64 (he : Int), .int .i64 (ne : Int)] 88)) M w22.heap.size ⟨ep, jo, bi, he, ne⟩ := ⟨HQ21.out.hB.trans ((HC22.out.alloc HC22.out.size _).mono HQ21.out.hB.size), heap_old ((HC22.out.block M (lt_of_block HM21.out)).trans HM21.out) _, heap_new w22 _⟩
                generalize w22.alloc (.cells #[.int .i64 (ep : Int), .int .i64 (jo : Int), .int .i64 (bi : Int), .int .i64 (he : Int), .int .i64 (ne : Int)] 88) = wz at hRD ⊢
                generalize w22.heap.size = N at hRD ⊢
                revert hRD
                revert wz N
                exact key.out
              · go_simp
                try dsimp only
                refine hK.out _ _ ?_ (fun hHeld => ?_)
                · exact (by go_keep)
                clear hK K
                try simp only [Act.put, List.setIfInBounds_toArray, List.set_cons_zero, List.set_cons_succ, List.getElem_toArray, List.getElem_cons_zero, List.getElem_cons_succ]
                refine wpAnyH_ready (rs := [7]) (by kernel_rfl) (by simp) ?_
                refine AllReadyH.cons (o := _) rfl (fun K hK => ?_) AllReadyH.nil
                go_simp
                go_at_call 66
                (with_reducible refine (KD.out _).mono ?_)
                rintro e22 w22 ⟨rfl, hB22⟩
                have hC22 : Below w21.heap.size w21 w22 := Below.trans (B := w21.heap.size) ((Below.refl _ w21).alloc (Nat.le_refl _) r5z) ((Below.undrew hB22).mono (by simp))
                have HC22 := hid hC22
                have hG22 := (hC22.block G hltG).trans HQ21.out.hG
                have j0 := cell_of_block hG22 0
                have j1 := cell_of_block hG22 1
                simp only [List.getElem?_toArray, List.getElem?_cons_zero, List.getElem?_cons_succ] at j0 j1
                have hN22 := ((Below.undrew hB22).block w21.heap.size (by simp)).trans (heap_new w21 r5z)
                obtain ⟨z0, z1, z2, z3, z4⟩ := sup_cells' hN22
                obtain ⟨y0, y1, y2, y3, y4⟩ := free_five hN22
                have HN22 := hid hN22
                clear hN22
                clear hB22 hG22 hC22
                try dsimp only
                refine hK.out _ _ ?_ (fun hHeld => ?_)
                · exact ⟨j0, j1⟩
                clear hK K
                try simp only [Act.put, List.setIfInBounds_toArray, List.set_cons_zero, List.set_cons_succ, List.getElem_toArray, List.getElem_cons_zero, List.getElem_cons_succ]
                refine wpAnyH_take (i := 8) (oi := _) (v := ?_) rfl (by kernel_rfl) (by kernel_rfl) (by kernel_rfl) (fun _ _ _ h => h) (Or.inl ⟨by rfl, ?_⟩) (by assumption) ?_
                rotate_left
                · intro w hSw
                  try dsimp only at hSw
                  go_simp
                  try with_reducible rfl
                try simp only [Act.put, List.setIfInBounds_toArray, List.set_cons_zero, List.set_cons_succ, List.getElem_toArray, List.getElem_cons_zero, List.getElem_cons_succ]
                refine wpAnyH_take (i := 9) (oi := _) (v := ?_) rfl (by kernel_rfl) (by kernel_rfl) (by kernel_rfl) (fun _ _ _ h => h) (Or.inl ⟨by rfl, ?_⟩) (by assumption) ?_
                rotate_left
                · intro w hSw
                  try dsimp only at hSw
                  go_simp
                  try with_reducible rfl
                try simp only [Act.put, List.setIfInBounds_toArray, List.set_cons_zero, List.set_cons_succ, List.getElem_toArray, List.getElem_cons_zero, List.getElem_cons_succ]
                refine wpAnyH_take (i := 10) (oi := _) (v := ?_) rfl (by kernel_rfl) (by kernel_rfl) (by kernel_rfl) (fun _ _ _ h => h) (Or.inl ⟨by rfl, ?_⟩) (by assumption) ?_
                rotate_left
                · intro w hSw
                  try dsimp only at hSw
                  go_simp
                  try with_reducible rfl
                try simp only [Act.put, List.setIfInBounds_toArray, List.set_cons_zero, List.set_cons_succ, List.getElem_toArray, List.getElem_cons_zero, List.getElem_cons_succ]
                have hne : w21.heap.size ≠ G := by omega
                refine wpAnyH_ready (rs := [12]) (by kernel_rfl) (by simp) ?_
                refine AllReadyH.cons (o := _) rfl (fun K hK => ?_) AllReadyH.nil
                go_simp
                try dsimp only
                refine hK.out _ _ ?_ (fun hHeld => ?_)
                · exact ⟨cellS (cellS (cellS (cellS (cellS j0 (p := ⟨w21.heap.size, 0, none⟩) hne _) (p := ⟨w21.heap.size, 1, none⟩) hne _) (p := ⟨w21.heap.size, 2, none⟩) hne _) (p := ⟨w21.heap.size, 3, none⟩) hne _) (p := ⟨w21.heap.size, 4, none⟩) hne _, cellS (cellS (cellS (cellS (cellS j1 (p := ⟨w21.heap.size, 0, none⟩) hne _) (p := ⟨w21.heap.size, 1, none⟩) hne _) (p := ⟨w21.heap.size, 2, none⟩) hne _) (p := ⟨w21.heap.size, 3, none⟩) hne _) (p := ⟨w21.heap.size, 4, none⟩) hne _⟩
                clear hK K
                try simp only [Act.put, List.setIfInBounds_toArray, List.set_cons_zero, List.set_cons_succ, List.getElem_toArray, List.getElem_cons_zero, List.getElem_cons_succ]
                refine wpAnyH_ready (rs := [13]) (by kernel_rfl) (by simp) ?_
                refine AllReadyH.cons (o := _) rfl (fun K hK => ?_) AllReadyH.nil
                go_simp
                try dsimp only
                refine hK.out _ _ ?_ (fun hHeld => ?_)
                · exact ⟨cellS (cellS (cellS (cellS (cellS j0 (p := ⟨w21.heap.size, 0, none⟩) hne _) (p := ⟨w21.heap.size, 1, none⟩) hne _) (p := ⟨w21.heap.size, 2, none⟩) hne _) (p := ⟨w21.heap.size, 3, none⟩) hne _) (p := ⟨w21.heap.size, 4, none⟩) hne _, cellS (cellS (cellS (cellS (cellS j1 (p := ⟨w21.heap.size, 0, none⟩) hne _) (p := ⟨w21.heap.size, 1, none⟩) hne _) (p := ⟨w21.heap.size, 2, none⟩) hne _) (p := ⟨w21.heap.size, 3, none⟩) hne _) (p := ⟨w21.heap.size, 4, none⟩) hne _⟩
                clear hK K
                try simp only [Act.put, List.setIfInBounds_toArray, List.set_cons_zero, List.set_cons_succ, List.getElem_toArray, List.getElem_cons_zero, List.getElem_cons_succ]
                refine wpAnyH_done (by kernel_rfl) ?_ _
                go_simp
                have hF22 := five_fr (w := w22) w21.heap.size (.int .i64 (ep : Int)) (.int .i64 (jo : Int)) (.int .i64 (bi : Int)) (.int .i64 (he : Int)) (.int .i64 (ne : Int))
                have hRD : RD w (((((w22.setCell ⟨w21.heap.size, 0, none⟩ (.int .i64 (ep : Int))).setCell ⟨w21.heap.size, 1, none⟩ (.int .i64 (jo : Int))).setCell ⟨w21.heap.size, 2, none⟩ (.int .i64 (bi : Int))).setCell ⟨w21.heap.size, 3, none⟩ (.int .i64 (he : Int))).setCell ⟨w21.heap.size, 4, none⟩ (.int .i64 (ne : Int))) M w21.heap.size ⟨ep, jo, bi, he, ne⟩ := ⟨(HQ21.out.hB.trans (HC22.out.mono HQ21.out.hB.size)).trans (hF22.below (by have h1 := HQ21.out.hB.size; have h2 := HC22.out.size; omega) (fun k hk e => by have h1 := HQ21.out.hB.size; omega)), hF22.heap ((HC22.out.block M (lt_of_block HM21.out)).trans HM21.out) (by have := lt_of_block HM21.out; omega), five_set HN22.out _ _ _ _ _⟩
                clear hF22
                generalize ((((w22.setCell ⟨w21.heap.size, 0, none⟩ (.int .i64 (ep : Int))).setCell ⟨w21.heap.size, 1, none⟩ (.int .i64 (jo : Int))).setCell ⟨w21.heap.size, 2, none⟩ (.int .i64 (bi : Int))).setCell ⟨w21.heap.size, 3, none⟩ (.int .i64 (he : Int))).setCell ⟨w21.heap.size, 4, none⟩ (.int .i64 (ne : Int)) = wz at hRD ⊢
                generalize w21.heap.size = N at hRD ⊢
                revert hRD
                revert wz N
                exact key.out
            intro wz N hRD
            clear k0 k1 KD HQ21 HM21 hltG HP
            obtain ⟨m0, m1, m2, m3, m4⟩ := sup_cells' hRD.hM
            obtain ⟨v0, v1, v2, v3, v4⟩ := sup_cells' hRD.hN
            dsimp only at m0 m1 m2 m3 m4 v0 v1 v2 v3 v4
            have HRD := hid hRD
            clear hRD
            go_upto_region 22 with fail
            go_region_held3 (fun w' => w'.cell? ⟨M, 0, none⟩ = some (.int .u32 (ep : Int)) ∧ w'.cell? ⟨M, 1, none⟩ = some (.int .i64 (jo : Int)) ∧ w'.cell? ⟨M, 2, none⟩ = some (.int .i64 (bi : Int)) ∧ w'.cell? ⟨M, 3, none⟩ = some (.int .i64 (he : Int)) ∧ w'.cell? ⟨M, 4, none⟩ = some (.int .u32 (ne : Int)) ∧ w'.cell? ⟨N, 0, none⟩ = some (.int .i64 (ep : Int)) ∧ w'.cell? ⟨N, 1, none⟩ = some (.int .i64 (jo : Int)) ∧ w'.cell? ⟨N, 2, none⟩ = some (.int .i64 (bi : Int)) ∧ w'.cell? ⟨N, 3, none⟩ = some (.int .i64 (he : Int)) ∧ w'.cell? ⟨N, 4, none⟩ = some (.int .i64 (ne : Int)))
              (first | go_keep | exact ⟨m0, m1, m2, m3, m4, v0, v1, v2, v3, v4⟩ | exact ⟨s0, s1, s2, s3, s4, t0, t1, t2, t3, t4⟩)
              (first | (go_at_call 59; (with_reducible refine (KO.out wz.drew).mono ?_); rintro e30 w30 ⟨rfl, hB30⟩; have hC30 := Below.undrew hB30; have hM30 := (hC30.block M (lt_of_block HRD.out.hM)).trans HRD.out.hM; have hN30 := (hC30.block N (lt_of_block HRD.out.hN)).trans HRD.out.hN; obtain ⟨s0, s1, s2, s3, s4⟩ := sup_cells' hM30; obtain ⟨t0, t1, t2, t3, t4⟩ := sup_cells' hN30; dsimp only at s0 s1 s2 s3 s4 t0 t1 t2 t3 t4; have HC30 := hid (HRD.out.hB.trans (hC30.mono HRD.out.hB.size)); clear hB30 hC30 hM30 hN30))
            go_wp2_with fail
            go_ret
            exact ⟨rfl, HC30.out⟩
end Go.Proofs.YtkmbbgnbklklcaaDoor
