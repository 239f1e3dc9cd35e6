/-
  Contracts of package super: Read.
-/
import Derived.Test.YtkmbbgnbklklcaaDoorSupP
namespace Go.Proofs.YtkmbbgnbklklcaaDoor
open Go.RowKit

structure Shut7 (p : Prop) : Prop where
  out : p
theorem shared7 {P : Prop} (G : Prop) (f : Shut7 G → P) (h : G) : P := f ⟨h⟩
abbrev z5 : Obj := .cells #[.int .u32 0, .int .i64 0, .int .i64 0, .int .i64 0, .int .u32 0] 91 (0, 0)
abbrev sup5 (ep jo bi he ne : Nat) : Obj := .cells #[.int .u32 (ep : Int), .int .i64 (jo : Int), .int .i64 (bi : Int), .int .i64 (he : Int), .int .u32 (ne : Int)] 91 (0, 0)
/-- A super in its block. -/
def SupIn (w : World) (N : Nat) (x : Sup) : Prop := SupAt w N x.ep x.jo x.bi x.he x.ne
theorem sups_zero (D : Dsk) (k : Nat) (h : (D.sups k).ep = 0) : D.sups k = sup0 := by
  induction k with
  | zero => rfl
  | succ k ih =>
    have e : D.sups (k + 1) = pick D.n k (D.now k) (D.sups k) := rfl
    rw [e] at h ⊢
    unfold pick at h ⊢
    split
    · rename_i hh
      rw [if_pos hh, supOf_ep] at h
      have := hh.2.2
      omega
    · rename_i hh
      rw [if_neg hh] at h
      exact ih h
theorem parse_u (l : List UInt8) (n : Nat) (w : World) (hl : l.length = 64) (hn : n ≤ 100000) :
    Calls Tryd.prog 126 #[.string (S l), .int .i64 (n : Int)] w fun e w' => ∃ (ok : Bool) (ep jo bi he ne : Nat), e = .returned (.tuple #[.agg #[.int .u32 (ep : Int), .int .i64 (jo : Int), .int .i64 (bi : Int), .int .i64 (he : Int), .int .u32 (ne : Int)], .bool ok]) ∧ ((ok = true ∧ bearsSup l n ∧ (⟨ep, jo, bi, he, ne⟩ : Sup) = supOf l) ∨ (ok = false ∧ ¬ bearsSup l n)) ∧ Below w.heap.size w w' := by
  refine (super_parse l n w hl hn).mono ?_
  rintro e w' ⟨h1, h2, h3⟩
  by_cases h : bearsSup l n
  · exact ⟨true, _, _, _, _, _, h1 h, .inl ⟨rfl, h, rfl⟩, h3⟩
  · obtain ⟨ep, jo, bi, he, ne, h4⟩ := h2 h
    exact ⟨false, ep, jo, bi, he, ne, h4, .inr ⟨rfl, h⟩, h3⟩
/-- Within Read: behind q slots. -/
structure RdAt (w wr : World) (D : Dsk) (q : Nat) : Prop where
  hM : SupIn wr (w.heap.size + 1) (D.sups q)
  h0 : SupAt wr w.heap.size 0 0 0 0 0
  hB : Below w.heap.size w wr
theorem RdAt.below {w wr w' : World} {D : Dsk} {q : Nat} (h : RdAt w wr D q) (hB : Below wr.heap.size wr w') : RdAt w w' D q :=
  ⟨SupAt.below h.hM hB (lt_of_block h.hM), SupAt.below h.h0 hB (lt_of_block h.h0), h.hB.trans (hB.mono h.hB.size)⟩
theorem RdAt.lt {w wr : World} {D : Dsk} {q : Nat} (h : RdAt w wr D q) : w.heap.size + 1 < wr.heap.size := lt_of_block h.hM
theorem sup_set {w : World} {N : Nat} {a b c d e : Nat} (h : SupAt w N a b c d e) (ep jo bi he ne : Nat) : SupAt (((((w.setCell ⟨N, 0, none⟩ (.int .u32 (ep : Int))).setCell ⟨N, 1, none⟩ (.int .i64 (jo : Int))).setCell ⟨N, 2, none⟩ (.int .i64 (bi : Int))).setCell ⟨N, 3, none⟩ (.int .i64 (he : Int))).setCell ⟨N, 4, none⟩ (.int .u32 (ne : Int))) N ep jo bi he ne :=
  heap_set_same (i := 4) (heap_set_same (i := 3) (heap_set_same (i := 2) (heap_set_same (i := 1) (heap_set_same (i := 0) h _) _) _) _) _
theorem sup_fr {w : World} (N : Nat) (ep jo bi he ne : Nat) : Fr (fun k => k = N) w (((((w.setCell ⟨N, 0, none⟩ (.int .u32 (ep : Int))).setCell ⟨N, 1, none⟩ (.int .i64 (jo : Int))).setCell ⟨N, 2, none⟩ (.int .i64 (bi : Int))).setCell ⟨N, 3, none⟩ (.int .i64 (he : Int))).setCell ⟨N, 4, none⟩ (.int .u32 (ne : Int))) :=
  (((((Fr.refl (fun k => k = N) w).setCell (p := ⟨N, 0, none⟩) (fun _ => rfl) _).setCell (p := ⟨N, 1, none⟩) (fun _ => rfl) _).setCell (p := ⟨N, 2, none⟩) (fun _ => rfl) _).setCell (p := ⟨N, 3, none⟩) (fun _ => rfl) _).setCell (p := ⟨N, 4, none⟩) (fun _ => rfl) _
/-- A slot was read, its super lies at N. -/
structure RdMid (w wz : World) (D : Dsk) (q N ep jo bi he ne : Nat) : Prop where
  hR : RdAt w wz D q
  hX : SupAt wz N ep jo bi he ne
  hN : w.heap.size + 1 < N
theorem RdAt.set {w wr w4 : World} {D : Dsk} {q N a b c d e : Nat} (h : RdAt w w4 D q) (hN : SupAt w4 N a b c d e) (hlt : wr.heap.size ≤ N) (hr : w.heap.size + 1 < wr.heap.size) (ep jo bi he ne : Nat) :
    RdMid w (((((w4.setCell ⟨N, 0, none⟩ (.int .u32 (ep : Int))).setCell ⟨N, 1, none⟩ (.int .i64 (jo : Int))).setCell ⟨N, 2, none⟩ (.int .i64 (bi : Int))).setCell ⟨N, 3, none⟩ (.int .i64 (he : Int))).setCell ⟨N, 4, none⟩ (.int .u32 (ne : Int))) D q N ep jo bi he ne := by
  have hF := sup_fr (w := w4) N ep jo bi he ne
  exact ⟨⟨hF.heap h.hM (by omega), hF.heap h.h0 (by omega), h.hB.trans (hF.below h.hB.size (fun k hk e => by omega))⟩, sup_set hN ep jo bi he ne, by omega⟩
def lenOf7 : Value → Nat
  | .int _ n => n.toNat
  | _ => 0
theorem len_d {B b g : Nat} {D : Dsk} (w : World) (h : DiskAt w B b g D) :
    Calls Tryd.prog 124 #[.pointer (some ⟨b, 0, none⟩)] w fun e w' => e = .returned (.int .i64 (D.n : Int)) ∧ Below w.heap.size w w' := disk_len w h

set_option maxRecDepth 100000 in
set_option maxHeartbeats 2000000 in
theorem super_read {B b g : Nat} {D : Dsk} (w : World) (hD : DiskAt w B b g D) (hd : D.dead = false) :
    Calls Tryd.prog 102 #[.pointer (some ⟨b, 0, none⟩)] w fun e w' => (D.best.ep = 0 → e = .panicked (fault 1)) ∧ (D.best.ep ≠ 0 → e = .returned D.best.val) ∧ Below w.heap.size w w' := by
  have hsm := hD.small
  have HD := hid hD
  clear hD
  go_enter Tryd.func102, Tryd.ntmps102
  go_upto_region 2 with fail
  have hR0 : RdAt w ((w.alloc z5).alloc z5) D 0 := by
    refine ⟨heap_newk (w := w.alloc z5) (k := w.heap.size + 1) z5 (by simp), heap_old (heap_new w z5) _, ((Below.refl _ w).alloc (Nat.le_refl _) _).alloc (by simp) _⟩
  generalize (w.alloc z5).alloc z5 = w1 at *
  have HR0 := hid hR0
  have hD0 := hid (HD.out.below (HR0.out.hB))
  clear hR0
  go_upto_region 3 with (go_at_call 124; (with_reducible refine (disk_len w1 hD0.out).mono ?_); rintro e w2 ⟨rfl, hB2⟩; have HR2 := hid (HR0.out.below hB2); clear hB2)
  obtain ⟨m, hm, hm2⟩ : ∃ m : Nat, min (2 : Int) (D.n : Int) = (m : Int) ∧ m = min 2 D.n := ⟨min 2 D.n, by omega, rfl⟩
  rw [hm]
  have hmn : m ≤ D.n := by omega
  have hmm : m ≤ 2 := by omega
  have Hm2 := hid hm2
  clear HR0 hD0 hm hm2
  go_loopw [11] (fun iv wr => ∃ q : Nat, q ≤ m ∧ iv = .int .i64 q ∧ RdAt w wr D q) (fun iv _ => m - lenOf7 iv)
  case atStart => exact ⟨0, Nat.zero_le _, rfl, HR2.out⟩
  case round =>
    obtain ⟨q, hq, rfl, hP⟩ := hrel
    have HP := hid hP
    clear hP
    by_cases hqm : q < m
    · have d1 : decide ((q : Int) < (m : Int)) = true := by simp; omega
      have hlen : (D.now q).length = 64 := (HD.out.len q (by omega)).2
      have hlt := HP.out.lt
      have HDz : Hid (∀ wx, Below wr.heap.size wr wx → DiskAt wx B b g D) := hid fun wx h => (HD.out.below (HP.out.hB.trans (h.mono HP.out.hB.size)))
      have Hlen := hid hlen
      clear hlen
      go_upto_region 6 with (first
          | (go_at_call 92; (with_reducible refine (read_ok q wr (HDz.out _ (Below.refl _ wr)) hd (by omega)).mono ?_); rintro e wa ⟨rfl, hBa⟩; have HBa := hid hBa; clear hBa)
          | (go_at_call 124; (with_reducible refine (disk_len wa (HDz.out _ HBa.out)).mono ?_); rintro e wc ⟨rfl, hBc⟩; have HBc := hid (HBa.out.trans (hBc.mono HBa.out.size)); clear hBc)
          | (go_at_call 126; (with_reducible refine (parse_u (D.now q) D.n wc Hlen.out (by omega)).mono ?_); rintro e wd ⟨ok, ep, jo, bi, he, ne, rfl, hok, hBd⟩; have HBd := hid (HBc.out.trans (hBd.mono HBc.out.size)); have Hok := hid hok; clear hBd hok))
      have hR5 : RdAt w (wd.alloc (sup5 ep jo bi he ne)) D q := HP.out.below (HBd.out.alloc HBd.out.size _)
      have hX5 : SupAt (wd.alloc (sup5 ep jo bi he ne)) wd.heap.size ep jo bi he ne := heap_new wd _
      have hN5 : w.heap.size + 1 < wd.heap.size := by have := HBd.out.size; omega
      generalize wd.alloc (sup5 ep jo bi he ne) = w5 at *
      generalize wd.heap.size = N at *
      have hM5 := hR5.hM
      generalize hx : D.sups q = x at hM5
      obtain ⟨aep, ajo, abi, ahe, ane⟩ := x
      have HR5 := hid hR5
      have HX5 := hid hX5
      have HM5 := hid hM5
      have Hx := hid hx
      obtain ⟨m0, m1, m2, m3, m4⟩ := SupAt.cells hM5
      obtain ⟨x0, x1, x2, x3, x4⟩ := hX5.cells
      dsimp only at m0 m1 m2 m3 m4
      clear HBa HBc hR5 hX5 hM5 hx
      have hsucc : D.sups (q + 1) = pick D.n q (D.now q) (D.sups q) := rfl
      have Hsu := hid hsucc
      clear hsucc
      have eq1 : IntKind.i64.wrap ((q : Int) + 1) = ((q + 1 : Nat) : Int) := by rw [IntKind.wrap_i64]; omega
      rcases Hok.out with ⟨ho, hb, hs⟩ | ⟨ho, hb⟩
      · subst ho
        have e1 : ep = sEp (D.now q) := congrArg Sup.ep hs
        have E1 := hid e1
        have Hs := hid hs
        have Hb := hid hb
        clear e1 hs hb Hok
        obtain ⟨p, hp⟩ : ∃ p : Nat, p = ep % 2 := ⟨_, rfl⟩
        have et : Int.tmod (ep : Int) 2 = (p : Int) := by rw [Int.tmod_eq_emod_of_nonneg (by omega)]; omega
        have hp2 : p < 2 := by omega
        have ew : IntKind.i64.wrap (p : Int) = (p : Int) := by rw [IntKind.wrap_i64]; omega
        have Hp := hid hp
        clear hp
        by_cases hpq : p = q
        · have d2 : decide ((p : Int) = (q : Int)) = true := by simp; omega
          have d3 : ((p : Int) == (q : Int)) = true := by simp; omega
          by_cases hlt : aep < ep
          · have d4 : decide ((aep : Int) < (ep : Int)) = true := by simp; omega
            have hpk : D.sups (q + 1) = ⟨ep, jo, bi, he, ne⟩ := by
              rw [Hsu.out, Hs.out]
              exact pick_yes ⟨Hb.out, by rw [← E1.out, ← Hp.out]; exact hpq, by rw [← E1.out, Hx.out]; exact hlt⟩
            have Hpk := hid hpk
            have g0 := free_of_block HM5.out 0
            have g1 := free_of_block HM5.out 1
            have g2 := free_of_block HM5.out 2
            have g3 := free_of_block HM5.out 3
            have g4 := free_of_block HM5.out 4
            clear hpk hpq
            go_wp2_with fail
            refine ⟨⟨q + 1, by omega, by go_num, ?_⟩, by simp [lenOf7]; omega⟩
            have hF := sup_fr (w := w5) (w.heap.size + 1) ep jo bi he ne
            refine ⟨?_, hF.heap HR5.out.h0 (by omega), HR5.out.hB.trans (hF.below HR5.out.hB.size (fun k hk e => by omega))⟩
            rw [Hpk.out]
            exact sup_set HM5.out ep jo bi he ne
          · have d4 : decide ((aep : Int) < (ep : Int)) = false := by simp; omega
            have hpk : D.sups (q + 1) = D.sups q := by
              rw [Hsu.out]
              exact pick_not fun h => by have := h.2.2; rw [← E1.out, Hx.out] at this; exact hlt this
            have Hpk := hid hpk
            clear hpk hpq
            go_wp2_with fail
            refine ⟨⟨q + 1, by omega, by go_num, ?_⟩, by simp [lenOf7]; omega⟩
            refine ⟨?_, HR5.out.h0, HR5.out.hB⟩
            rw [Hpk.out]
            exact HR5.out.hM
        · have d2 : decide ((p : Int) = (q : Int)) = false := by simp; omega
          have d3 : ((p : Int) == (q : Int)) = false := by simp; omega
          have hpk : D.sups (q + 1) = D.sups q := by
            rw [Hsu.out]
            exact pick_not fun h => by have := h.2.1; rw [← E1.out, ← Hp.out] at this; exact hpq this
          have Hpk := hid hpk
          clear hpk hpq
          go_wp2_with fail
          refine ⟨⟨q + 1, by omega, by go_num, ?_⟩, by simp [lenOf7]; omega⟩
          refine ⟨?_, HR5.out.h0, HR5.out.hB⟩
          rw [Hpk.out]
          exact HR5.out.hM
      · subst ho
        have hpk : D.sups (q + 1) = D.sups q := by
          rw [Hsu.out]
          exact pick_no hb
        have Hpk := hid hpk
        clear hpk hb Hok
        go_wp2_with fail
        refine ⟨⟨q + 1, by omega, by go_num, ?_⟩, by simp [lenOf7]; omega⟩
        refine ⟨?_, HR5.out.h0, HR5.out.hB⟩
        rw [Hpk.out]
        exact HR5.out.hM
    · have d1 : decide ((q : Int) < (m : Int)) = false := by simp; omega
      obtain rfl : q = m := by omega
      have hbest : D.best = D.sups q := by rw [Hm2.out]; rfl
      have hz := sups_zero D q
      have hM5 := HP.out.hM
      generalize hx : D.sups q = x at hM5
      rw [hx] at hbest hz
      obtain ⟨aep, ajo, abi, ahe, ane⟩ := x
      have Hb := hid hbest
      have HM5 := hid hM5
      obtain ⟨m0, m1, m2, m3, m4⟩ := SupAt.cells hM5
      obtain ⟨r0, r1, r2, r3, r4⟩ := HP.out.h0.cells
      have g0 := free_of_block HP.out.h0 0
      have g1 := free_of_block HP.out.h0 1
      have g2 := free_of_block HP.out.h0 2
      have g3 := free_of_block HP.out.h0 3
      have g4 := free_of_block HP.out.h0 4
      dsimp only at m0 m1 m2 m3 m4
      clear hx hM5 hbest hqm
      by_cases h0 : aep = 0
      · have d2 : decide ((aep : Int) = 0) = true := by simp; omega
        have d3 : ((aep : Int) == 0) = true := by simp; omega
        clear hz
        go_wp2_with (go_at_call 79; (with_reducible refine (fail_any _ _).mono ?_); rintro e w4 ⟨rfl, rfl⟩)
        exact ⟨rfl, fun _ => rfl, fun h => absurd (by rw [Hb.out]; exact h0) h, HP.out.hB⟩
      · have d2 : decide ((aep : Int) = 0) = false := by simp; omega
        have d3 : ((aep : Int) == 0) = false := by simp; omega
        have H0 := hid h0
        clear hz h0
        go_wp2_with fail
        have hF := sup_fr (w := wr) w.heap.size aep ajo abi ahe ane
        have hw := sup_set HP.out.h0 aep ajo abi ahe ane
        have hB9 : Below w.heap.size w (((((wr.setCell ⟨w.heap.size, 0, none⟩ (.int .u32 (aep : Int))).setCell ⟨w.heap.size, 1, none⟩ (.int .i64 (ajo : Int))).setCell ⟨w.heap.size, 2, none⟩ (.int .i64 (abi : Int))).setCell ⟨w.heap.size, 3, none⟩ (.int .i64 (ahe : Int))).setCell ⟨w.heap.size, 4, none⟩ (.int .u32 (ane : Int))) := HP.out.hB.trans (hF.below HP.out.hB.size (fun k hk e => by omega))
        generalize ((((wr.setCell ⟨w.heap.size, 0, none⟩ (.int .u32 (aep : Int))).setCell ⟨w.heap.size, 1, none⟩ (.int .i64 (ajo : Int))).setCell ⟨w.heap.size, 2, none⟩ (.int .i64 (abi : Int))).setCell ⟨w.heap.size, 3, none⟩ (.int .i64 (ahe : Int))).setCell ⟨w.heap.size, 4, none⟩ (.int .u32 (ane : Int)) = w9 at *
        obtain ⟨z0, z1, z2, z3, z4⟩ := hw.cells
        refine bodyPost_ret (v := supV aep ajo abi ahe ane) ?_ rfl ⟨fun h => absurd (by rw [Hb.out] at h; exact h) H0.out, fun _ => by rw [Hb.out]; rfl, hB9⟩
        rw [res_cell rfl]
        clear hB9 hw hF m0 m1 m2 m3 m4 r0 r1 r2 r3 r4
        unfold supV
        simp [asAddr, Result.andThen, loadVar, z0, z1, z2, z3, z4, go_sem]
end Go.Proofs.YtkmbbgnbklklcaaDoor
