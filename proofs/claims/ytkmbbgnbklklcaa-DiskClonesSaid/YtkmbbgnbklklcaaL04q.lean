/-
  Law 04's DiskClones.
-/
import Derived.Test.YtkmbbgnbklklcaaL04p
namespace Go.Proofs.Ytkmbbgnbklklcaa
open Go.RowKit

/-- Another disk and its box, that a step leaves alone. -/
theorem PlayAt.other {w wr w2 : World} {B Y bc gc b g : Nat} {Dc D : Dsk} {N : Nat} {a1 : Option Addr} {c1 : Nat} {a2 : Option Addr} {c2 : Nat} {r : Int} {de : Bool} (h : PlayAt w wr Y bc gc Dc N a1 c1 a2 c2 r de) (hD : DiskAt wr B b g D) (hn : D.n = Dc.n) (hF : Fr (dfoot b g) wr w2) (hb : ¬ dfoot b g bc) (hg : ¬ dfoot b g gc) (hY : ¬ dfoot b g Y) (hw : w.heap.size ≤ b ∧ w.heap.size ≤ g) : PlayAt w w2 Y bc gc Dc N a1 c1 a2 c2 r de :=
  ⟨h.hD.fr hF hb hg, h.hB.trans (hF.below h.hB.size fun k hk e => by rcases e with e | e <;> omega), Nat.lt_of_lt_of_le h.hg hF.size, h.hR.disk hn hD hF, hF.heap h.hX hY, h.hXg, h.hXw, h.hn⟩
theorem PlayAt.set {w wr : World} {X Y bc gc : Nat} {Dc : Dsk} {N : Nat} {a1 : Option Addr} {c1 : Nat} {a2 : Option Addr} {c2 : Nat} {r : Int} {de : Bool} {c : Array Value} (h : PlayAt w wr Y bc gc Dc N a1 c1 a2 c2 r de) (hX : wr.heap[X]? = some (.cells c 52 (0, 0))) (hw : w.heap.size ≤ X) (h1 : bc ≠ X) (h2 : gc ≠ X) (h3 : Y ≠ X) (u0 u1 u2 u3 : Value) :
    PlayAt w ((((wr.setCell ⟨X, 0, none⟩ u0).setCell ⟨X, 1, none⟩ u1).setCell ⟨X, 2, none⟩ u2).setCell ⟨X, 3, none⟩ u3) Y bc gc Dc N a1 c1 a2 c2 r de := by
  have hF4 := fr4 (b := X) (Fr.refl (fun k => k = X) wr) rfl u0 u1 u2 u3
  exact ⟨h.hD.fr hF4 h1 h2, below4 h.hB hw _ _ _ _, Nat.lt_of_lt_of_le h.hg hF4.size, h.hR.fr3 hF4 (fun g c _ hg e => by subst e; exact absurd (ty_eq hg hX) (by decide)), hF4.heap h.hX h3, h.hXg, h.hXw, h.hn⟩
theorem PlayAt.alloc {w wr : World} {X b g : Nat} {D : Dsk} {N : Nat} {a1 : Option Addr} {c1 : Nat} {a2 : Option Addr} {c2 : Nat} {r : Int} {de : Bool} (h : PlayAt w wr X b g D N a1 c1 a2 c2 r de) (o : Obj) : PlayAt w (wr.alloc o) X b g D N a1 c1 a2 c2 r de := h.below ((Below.refl _ wr).alloc (Nat.le_refl _) o)
/-- The two of them: where they lie apart. -/
structure Twins (w wr : World) (X b g : Nat) (D : Dsk) (a1 : Option Addr) (c1 : Nat) (a2 : Option Addr) (c2 : Nat) (Y bc gc : Nat) (Dc : Dsk) (a3 : Option Addr) (c3 : Nat) (a4 : Option Addr) (c4 : Nat) (M M2 : Nat) : Prop where
  p : PlayAt w wr X b g D 8 a1 c1 a2 c2 D.rl D.dead
  c : PlayAt w wr Y bc gc Dc 8 a3 c3 a4 c4 Dc.rl Dc.dead
  x : X < M
  y : M ≤ Y ∧ Y < M2 ∧ M ≤ bc ∧ bc < M2 ∧ M ≤ gc ∧ gc < M2
  b : b < M ∨ M2 ≤ b
  g : g < M ∨ M2 ≤ g
  s : M2 ≤ wr.heap.size
theorem Twins.drew {w wr : World} {X b g : Nat} {D : Dsk} {a1 : Option Addr} {c1 : Nat} {a2 : Option Addr} {c2 Y bc gc : Nat} {Dc : Dsk} {a3 : Option Addr} {c3 : Nat} {a4 : Option Addr} {c4 M M2 : Nat} (h : Twins w wr X b g D a1 c1 a2 c2 Y bc gc Dc a3 c3 a4 c4 M M2) : Twins w wr.drew X b g D a1 c1 a2 c2 Y bc gc Dc a3 c3 a4 c4 M M2 := ⟨h.p.drew, h.c.drew, h.x, h.y, h.b, h.g, h.s⟩
theorem Twins.step {w wr w2 : World} {X b g b' g' : Nat} {D D' : Dsk} {a1 : Option Addr} {c1 : Nat} {a2 : Option Addr} {c2 Y bc gc : Nat} {Dc : Dsk} {a3 : Option Addr} {c3 : Nat} {a4 : Option Addr} {c4 M M2 : Nat} {a6 : Option Addr} {c6 : Nat} {a7 : Option Addr} {c7 : Nat} (h : Twins w wr X b g D a1 c1 a2 c2 Y bc gc Dc a3 c3 a4 c4 M M2)
    (hD : DiskAt w2 w.heap.size b' g' D') (hg : g' < w2.heap.size) (hR : RefAt w2 (.agg #[.slice a6 8 c6, .slice a7 8 c7, .int .i64 D'.rl, .bool D'.dead]) D') (hn : D'.n = D.n) (hF : Fr (dfoot b g) wr w2) (ho : (b' = b ∧ g' = g) ∨ (wr.heap.size ≤ b' ∧ wr.heap.size ≤ g')) :
    Twins w ((((w2.setCell ⟨X, 0, none⟩ (.slice a6 8 c6)).setCell ⟨X, 1, none⟩ (.slice a7 8 c7)).setCell ⟨X, 2, none⟩ (.int .i64 D'.rl)).setCell ⟨X, 3, none⟩ (.bool D'.dead)) X b' g' D' a6 c6 a7 c7 Y bc gc Dc a3 c3 a4 c4 M M2 := by
  have hx := h.x
  have hy := h.y
  have hb := h.b
  have hg2 := h.g
  have hs := h.s
  have hm := h.p.mid hF
  have hbb := h.p.hD.hb
  have hgg := h.p.hD.hg
  have hc := (h.c.other h.p.hD (h.p.hn.trans h.c.hn.symm) hF (by unfold dfoot; omega) (by unfold dfoot; omega) (by unfold dfoot; omega) ⟨hbb, hgg⟩).set hm.1 h.p.hXw (by omega) (by omega) (by omega) (.slice a6 8 c6) (.slice a7 8 c7) (.int .i64 D'.rl) (.bool D'.dead)
  refine ⟨h.p.step hD hg hR hn hF ho, hc, hx, hy, ?_, ?_, ?_⟩
  · rcases ho with ho | ho
    · rw [ho.1]; exact hb
    · right; omega
  · rcases ho with ho | ho
    · rw [ho.2]; exact hg2
    · right; omega
  · have h1 := hF.size
    simp
    omega
theorem twinsA {w wr w5 : World} {X b g gc : Nat} {D : Dsk} {a1 : Option Addr} {c1 : Nat} {a2 : Option Addr} {c2 : Nat} (hP : PlayAt w wr X b g D 8 a1 c1 a2 c2 D.rl D.dead) (hP5 : PlayAt w w5 X b g D 8 a1 c1 a2 c2 D.rl D.dead) (hs : wr.heap.size ≤ w5.heap.size) (hDc : DiskAt w5 wr.heap.size wr.heap.size gc D) (hgc : gc < w5.heap.size) :
    ∃ M M2, Twins w (w5.alloc (.cells #[.slice a1 8 c1, .slice a2 8 c2, .int .i64 D.rl, .bool D.dead] 52)) X b g D a1 c1 a2 c2 w5.heap.size wr.heap.size gc D a1 c1 a2 c2 M M2 := by
  have h1 := hP.hD.lt
  have h2 := hP.hg
  have h3 := lt_of_block hP.hX
  have h4 := hP.hB.size
  have h5 := hDc.lt
  have h6 := hDc.hg
  refine ⟨wr.heap.size, (w5.alloc (.cells #[.slice a1 8 c1, .slice a2 8 c2, .int .i64 D.rl, .bool D.dead] 52)).heap.size, hP5.alloc _, ⟨(hDc.weak h4).alloc _, (hP5.alloc (.cells #[.slice a1 8 c1, .slice a2 8 c2, .int .i64 D.rl, .bool D.dead] 52)).hB, by simp; omega, (hP5.alloc (.cells #[.slice a1 8 c1, .slice a2 8 c2, .int .i64 D.rl, .bool D.dead] 52)).hR, heap_new w5 _, by omega, by omega, hP.hn⟩, h3, ⟨hs, by simp, by omega, by simp; omega, by omega, by simp; omega⟩, .inl h1, .inl h2, Nat.le_refl _⟩
theorem twinsB {w wr w5 : World} {X b g gc : Nat} {D : Dsk} {a1 : Option Addr} {c1 : Nat} {a2 : Option Addr} {c2 : Nat} {cs : Array Value} (hP : PlayAt w wr X b g D 8 a1 c1 a2 c2 D.rl D.dead) (hP5 : PlayAt w w5 X b g D 8 a1 c1 a2 c2 D.rl D.dead) (hcs : ∃ v0 v1 v2 v3, cs = #[v0, v1, v2, v3]) (hN : w5.heap[wr.heap.size]? = some (.cells cs 52 (0, 0))) (hDc : DiskAt w5 (wr.heap.size + 1) (wr.heap.size + 1) gc D) (hgc : gc < w5.heap.size) :
    ∃ M M2, Twins w ((((w5.setCell ⟨wr.heap.size, 0, none⟩ (.slice a1 8 c1)).setCell ⟨wr.heap.size, 1, none⟩ (.slice a2 8 c2)).setCell ⟨wr.heap.size, 2, none⟩ (.int .i64 D.rl)).setCell ⟨wr.heap.size, 3, none⟩ (.bool D.dead)) X b g D a1 c1 a2 c2 wr.heap.size (wr.heap.size + 1) gc D a1 c1 a2 c2 M M2 := by
  have h1 := hP.hD.lt
  have h2 := hP.hg
  have h3 := lt_of_block hP.hX
  have h4 := hP.hB.size
  have h5 := hDc.lt
  have h6 := hDc.hg
  obtain ⟨v0, v1, v2, v3, rfl⟩ := hcs
  have hF4 := fr4 (b := wr.heap.size) (Fr.refl (fun k => k = wr.heap.size) w5) rfl (.slice a1 8 c1) (.slice a2 8 c2) (.int .i64 D.rl) (.bool D.dead)
  have hp := hP5.set hN h4 (by omega) (by omega) (by omega) (.slice a1 8 c1) (.slice a2 8 c2) (.int .i64 D.rl) (.bool D.dead)
  have hsz : w5.heap.size ≤ ((((w5.setCell ⟨wr.heap.size, 0, none⟩ (.slice a1 8 c1)).setCell ⟨wr.heap.size, 1, none⟩ (.slice a2 8 c2)).setCell ⟨wr.heap.size, 2, none⟩ (.int .i64 D.rl)).setCell ⟨wr.heap.size, 3, none⟩ (.bool D.dead)).heap.size := hF4.size
  refine ⟨wr.heap.size, ((((w5.setCell ⟨wr.heap.size, 0, none⟩ (.slice a1 8 c1)).setCell ⟨wr.heap.size, 1, none⟩ (.slice a2 8 c2)).setCell ⟨wr.heap.size, 2, none⟩ (.int .i64 D.rl)).setCell ⟨wr.heap.size, 3, none⟩ (.bool D.dead)).heap.size, hp, ⟨(hDc.weak (by omega)).fr hF4 (by omega) (by omega), hp.hB, by omega, hp.hR, set4 hN _ _ _ _, by omega, by omega, hP.hn⟩, h3, ⟨Nat.le_refl _, by omega, by omega, by omega, by omega, by omega⟩, .inl h1, .inl h2, Nat.le_refl _⟩
theorem disk_len_eq {B b g : Nat} {D : Dsk} (w : World) (h : DiskAt w B b g D) :
    Calls Try.prog 25 #[.pointer (some ⟨b, 0, none⟩)] w fun e w' => e = .returned (.int .i64 (D.n : Int)) ∧ w = w' := by
  obtain ⟨ao, cap, h1, h2⟩ := h.head
  have c0 := cell_of_block h1 0
  simp only [List.getElem?_toArray, List.getElem?_cons_zero] at c0
  clear h1 h
  go_enter Try.func25, Try.ntmps25
  go_wp2_with fail
  go_ret
  exact ⟨rfl, rfl⟩

set_option maxRecDepth 100000 in
set_option maxHeartbeats 8000000 in
theorem walkDiskClones (w : World) (l1 : Option Addr) (len1 cap1 : Nat) (E1 : Nat → Act4) (l2 : Option Addr) (len2 cap2 : Nat) (E2 : Nat → Act4) (h1 : Acts4 w l1 len1 cap1 E1) (h2 : Acts4 w l2 len2 cap2 E2) :
    Calls Try.prog 7 #[.slice l1 len1 cap1, .slice l2 len2 cap2] w fun e w' => e = .returned (.bool true) ∧ Below w.heap.size w w' := by
  have HA1 := hid h1
  have HA2 := hid h2
  clear h1 h2
  go_enter Try.func7, Try.ntmps7
  go_wp2_with fail
  refine (awake04 w).mono ?_
  rintro e w1 ⟨rfl, hB⟩
  have HB1 := hid hB
  clear hB
  go_wp2_with fail
  refine (disk_new 8 8 w1 (by decide)).mono ?_
  rintro e w2 ⟨rfl, g0, hD, hg, hB⟩
  have H2 := hid (DW.new HB1.out hD hg hB)
  clear hD hg hB
  generalize w1.heap.size = b0 at *
  go_wp2_with fail
  refine (ref4_new 8 8 w2 (by decide) (by decide)).mono ?_
  rintro e w3 ⟨v, rfl, hR, hB3⟩
  have hD0 : (Dsk.new 8).n = 8 := rfl
  generalize Dsk.new 8 = D0 at *
  obtain ⟨a10, c10, a20, c20, rfl⟩ := hR.vals hD0
  have H3 := hid (H2.out.below hB3)
  have hP : PlayAt w (w3.alloc (.cells #[.slice a10 8 c10, .slice a20 8 c20, .int .i64 D0.rl, .bool D0.dead] 52)) w3.heap.size b0 g0 D0 8 a10 c10 a20 c20 D0.rl D0.dead := by
    have hW := H3.out.alloc (.cells #[.slice a10 8 c10, .slice a20 8 c20, .int .i64 D0.rl, .bool D0.dead] 52)
    exact ⟨hW.1, hW.2.1, hW.2.2, hR.below ((Below.refl _ w3).alloc (Nat.le_refl _) _), heap_new w3 _, by have := H3.out.g; omega, by have := H3.out.B; exact this, hD0⟩
  have HP0 := hid hP
  clear hR hB3 hP
  go_wp2_with fail
  change Code.wp _ _ _ _ (w3.alloc (.cells #[.slice a10 8 c10, .slice a20 8 c20, .int .i64 D0.rl, .bool D0.dead] 52))
  generalize w3.alloc (.cells #[.slice a10 8 c10, .slice a20 8 c20, .int .i64 D0.rl, .bool D0.dead] 52) = w4 at *
  generalize w3.heap.size = X at *
  go_loopw [5, 7, 8] (fun d ok i wr => ∃ (q b g : Nat) (D : Dsk) (a1 : Option Addr) (c1 : Nat) (a2 : Option Addr) (c2 : Nat), q ≤ 20 ∧ i = .int .i64 q ∧ d = .pointer (some ⟨b, 0, none⟩) ∧ ok = .bool true ∧ PlayAt w wr X b g D 8 a1 c1 a2 c2 D.rl D.dead) (fun _ _ i _ => (20 - intOf i).toNat)
  case atStart => exact ⟨0, b0, g0, D0, a10, c10, a20, c20, by omega, rfl, rfl, rfl, HP0.out⟩
  case round =>
    clear H2 H3 HP0 hD0
    obtain ⟨q, b, g, D, a1, c1, a2, c2, hq, rfl, rfl, rfl, hP⟩ := hrel
    have HP := hid hP
    clear hP
    by_cases hql : q < len1 ∧ q < 20
    · skip
      have d1 : decide (q < len1) = true := by simp; omega
      have d2 : decide ((q : Int) < 20) = true := by simp; omega
      obtain ⟨ad, hadr, j0, j1, j2, j3, j4, hbl⟩ := HA1.out.at (Below.refl _ w) hql.1
      have hcu : SliceOf w (E1 q).ca (E1 q).cl (E1 q).cc (fun k => .int .i64 ((E1 q).cu k)) := by
        obtain ⟨ad', _, h2⟩ := HA1.out.reads (by omega)
        exact (h2 q hql.1).2.2.2.2.2
      have hcuts := cutsOf (wr := wr.drew) hcu HP.out.drew.hB HP.out.hD.hb HP.out.hD.hg
      subst hadr
      have hJ := And.intro j0 (And.intro j1 (And.intro j2 (And.intro j3 j4)))
      clear j0 j1 j2 j3 j4
      go_upto_region 7 with fail
      generalize (E1 q).s = s at *
      generalize (E1 q).at_ = z at *
      generalize (E1 q).kind = kind at *
      generalize (E1 q).n = an at *
      generalize (E1 q).ca = ca at *
      generalize (E1 q).cl = cl at *
      generalize (E1 q).cc = cc at *
      generalize (E1 q).cu = cu at *
      have hc := does_any wr.drew HP.out.drew.hD HP.out.drew.hg HP.out.drew.hR kind z an s ca cl cc cu hcuts
      have Hc := hid hc
      have HJ := hid hJ
      clear hJ
      have k0 := (HP.out.hB.cell (p := ad.add (q * 5)) hbl).trans HJ.out.1
      have k1 := (HP.out.hB.cell (p := ⟨(ad.add (q * 5)).block, (ad.add (q * 5)).off + 1, none⟩) hbl).trans HJ.out.2.1
      have k2 := (HP.out.hB.cell (p := ⟨(ad.add (q * 5)).block, (ad.add (q * 5)).off + 2, none⟩) hbl).trans HJ.out.2.2.1
      have k3 := (HP.out.hB.cell (p := ⟨(ad.add (q * 5)).block, (ad.add (q * 5)).off + 3, none⟩) hbl).trans HJ.out.2.2.2.1
      have k4 := (HP.out.hB.cell (p := ⟨(ad.add (q * 5)).block, (ad.add (q * 5)).off + 4, none⟩) hbl).trans HJ.out.2.2.2.2
      have x0 := cell_of_block HP.out.hX 0
      have x1 := cell_of_block HP.out.hX 1
      have x2 := cell_of_block HP.out.hX 2
      have x3 := cell_of_block HP.out.hX 3
      simp only [List.getElem?_toArray, List.getElem?_cons_zero, List.getElem?_cons_succ] at x0 x1 x2 x3
      have hbX : (ad.add (q * 5)).block ≠ X := by have := HP.out.hXw; omega
      have hbX' : X ≠ (ad.add (q * 5)).block := by have := HP.out.hXw; omega
      clear hc hcu hcuts
      refine wp_region_held_drew (S := (fun w' => w'.cell? (ad.add (q * 5)) = some (.int .i64 kind) ∧ w'.cell? ⟨(ad.add (q * 5)).block, (ad.add (q * 5)).off + 1, none⟩ = some (.int .i64 z) ∧ w'.cell? ⟨(ad.add (q * 5)).block, (ad.add (q * 5)).off + 2, none⟩ = some (.int .i64 an) ∧ w'.cell? ⟨(ad.add (q * 5)).block, (ad.add (q * 5)).off + 3, none⟩ = some (.string (S s)) ∧ w'.cell? ⟨(ad.add (q * 5)).block, (ad.add (q * 5)).off + 4, none⟩ = some (.slice ca cl cc))) (by kernel_rfl) ⟨k0, k1, k2, k3, k4⟩ (fun hHeld => ?_)
      refine wpAnyH_take (i := 0) (oi := _) (v := ?_) rfl (by kernel_rfl) (by kernel_rfl) (by kernel_rfl) (fun _ _ _ h => h) (Or.inl ⟨by rfl, ?_⟩) (by assumption) ?_
      rotate_left
      · intro w hSw
        try dsimp only at hSw
        go_simp
        try with_reducible rfl
      try simp only [Act.put, List.setIfInBounds_toArray, List.set_cons_zero, List.set_cons_succ, List.getElem_toArray, List.getElem_cons_zero]
      refine wpAnyH_take (i := 2) (oi := _) (v := ?_) rfl (by kernel_rfl) (by kernel_rfl) (by kernel_rfl) (fun _ _ _ h => h) (Or.inl ⟨by rfl, ?_⟩) (by assumption) ?_
      rotate_left
      · intro w hSw
        try dsimp only at hSw
        go_simp
        try with_reducible rfl
      try simp only [Act.put, List.setIfInBounds_toArray, List.set_cons_zero, List.set_cons_succ, List.getElem_toArray, List.getElem_cons_zero, List.getElem_cons_succ]
      refine wpAnyH_take (i := 3) (oi := _) (v := ?_) rfl (by kernel_rfl) (by kernel_rfl) (by kernel_rfl) (fun _ _ _ h => h) (Or.inl ⟨by rfl, ?_⟩) (by assumption) ?_
      rotate_left
      · intro w hSw
        try dsimp only at hSw
        go_simp
        try with_reducible rfl
      try simp only [Act.put, List.setIfInBounds_toArray, List.set_cons_zero, List.set_cons_succ, List.getElem_toArray, List.getElem_cons_zero, List.getElem_cons_succ]
      refine wpAnyH_take (i := 4) (oi := _) (v := ?_) rfl (by kernel_rfl) (by kernel_rfl) (by kernel_rfl) (fun _ _ _ h => h) (Or.inl ⟨by rfl, ?_⟩) (by assumption) ?_
      rotate_left
      · intro w hSw
        try dsimp only at hSw
        go_simp
        try with_reducible rfl
      try simp only [Act.put, List.setIfInBounds_toArray, List.set_cons_zero, List.set_cons_succ, List.getElem_toArray, List.getElem_cons_zero, List.getElem_cons_succ]
      refine wpAnyH_take (i := 5) (oi := _) (v := ?_) rfl (by kernel_rfl) (by kernel_rfl) (by kernel_rfl) (fun _ _ _ h => h) (Or.inl ⟨by rfl, ?_⟩) (by assumption) ?_
      rotate_left
      · intro w hSw
        try dsimp only at hSw
        go_simp
        try with_reducible rfl
      try simp only [Act.put, List.setIfInBounds_toArray, List.set_cons_zero, List.set_cons_succ, List.getElem_toArray, List.getElem_cons_zero, List.getElem_cons_succ]
      refine wpAnyH_ready (rs := [1]) (by kernel_rfl) (by simp) ?_
      refine AllReadyH.cons (o := _) rfl (fun K hK => ?_) AllReadyH.nil
      go_simp
      try dsimp only
      refine hK.out _ _ ?_ (fun hHeld => ?_)
      · exact ⟨k0, k1, k2, k3, k4⟩
      clear hK K
      try simp only [Act.put, List.setIfInBounds_toArray, List.set_cons_zero, List.set_cons_succ, List.getElem_toArray, List.getElem_cons_zero, List.getElem_cons_succ]
      refine wpAnyH_ready (rs := [6]) (by kernel_rfl) (by simp) ?_
      refine AllReadyH.cons (o := _) rfl (fun K hK => ?_) AllReadyH.nil
      go_simp
      go_at_call 23
      (with_reducible refine Hc.out.mono ?_)
      rintro e w5 hE5
      obtain ⟨b', g', v', D', rfl, hD5, hg5, hR5, hn5, hF5, ho5⟩ := hE5.open
      obtain ⟨a6, c6, a7, c7, rfl⟩ := hR5.vals (hn5.trans HP.out.hn)
      have hm5 := HP.out.drew.mid hF5
      have l0 := (hm5.2.cell (p := ad.add (q * 5)) hbl).trans HJ.out.1
      have l1 := (hm5.2.cell (p := ⟨(ad.add (q * 5)).block, (ad.add (q * 5)).off + 1, none⟩) hbl).trans HJ.out.2.1
      have l2 := (hm5.2.cell (p := ⟨(ad.add (q * 5)).block, (ad.add (q * 5)).off + 2, none⟩) hbl).trans HJ.out.2.2.1
      have l3 := (hm5.2.cell (p := ⟨(ad.add (q * 5)).block, (ad.add (q * 5)).off + 3, none⟩) hbl).trans HJ.out.2.2.2.1
      have l4 := (hm5.2.cell (p := ⟨(ad.add (q * 5)).block, (ad.add (q * 5)).off + 4, none⟩) hbl).trans HJ.out.2.2.2.2
      have y0 := cell_of_block hm5.1 0
      have y1 := cell_of_block hm5.1 1
      have y2 := cell_of_block hm5.1 2
      have y3 := cell_of_block hm5.1 3
      simp only [List.getElem?_toArray, List.getElem?_cons_zero, List.getElem?_cons_succ] at y0 y1 y2 y3
      have yf0 := free_of_block hm5.1 0
      have yf1 := free_of_block hm5.1 1
      have yf2 := free_of_block hm5.1 2
      have yf3 := free_of_block hm5.1 3
      have HD5 := hid hD5
      have Hg5 := hid hg5
      have HR5 := hid hR5
      have Hn5 := hid hn5
      have HF5 := hid hF5
      have Ho5 := hid ho5
      clear hD5 hg5 hR5 hn5 hF5 ho5 hm5
      clear hE5
      try dsimp only
      refine hK.out _ _ ?_ (fun hHeld => ?_)
      · exact ⟨l0, l1, l2, l3, l4⟩
      clear hK K
      try simp only [Act.put, List.setIfInBounds_toArray, List.set_cons_zero, List.set_cons_succ, List.getElem_toArray, List.getElem_cons_zero, List.getElem_cons_succ]
      refine wpAnyH_take (i := 7) (oi := _) (v := ?_) rfl (by kernel_rfl) (by kernel_rfl) (by kernel_rfl) (fun _ _ _ h => h) (Or.inl ⟨by rfl, ?_⟩) (by assumption) ?_
      rotate_left
      · intro w hSw
        try dsimp only at hSw
        go_simp
        try with_reducible rfl
      try simp only [Act.put, List.setIfInBounds_toArray, List.set_cons_zero, List.set_cons_succ, List.getElem_toArray, List.getElem_cons_zero, List.getElem_cons_succ]
      refine wpAnyH_take (i := 8) (oi := _) (v := ?_) rfl (by kernel_rfl) (by kernel_rfl) (by kernel_rfl) (fun _ _ _ h => h) (Or.inl ⟨by rfl, ?_⟩) (by assumption) ?_
      rotate_left
      · intro w hSw
        try dsimp only at hSw
        go_simp
        try with_reducible rfl
      try simp only [Act.put, List.setIfInBounds_toArray, List.set_cons_zero, List.set_cons_succ, List.getElem_toArray, List.getElem_cons_zero, List.getElem_cons_succ]
      refine wpAnyH_take (i := 9) (oi := _) (v := ?_) rfl (by kernel_rfl) (by kernel_rfl) (by kernel_rfl) (fun _ _ _ h => h) (Or.inl ⟨by rfl, ?_⟩) (by assumption) ?_
      rotate_left
      · intro w hSw
        try dsimp only at hSw
        go_simp
        try with_reducible rfl
      try simp only [Act.put, List.setIfInBounds_toArray, List.set_cons_zero, List.set_cons_succ, List.getElem_toArray, List.getElem_cons_zero, List.getElem_cons_succ]
      refine wpAnyH_take (i := 10) (oi := _) (v := ?_) rfl (by kernel_rfl) (by kernel_rfl) (by kernel_rfl) (fun _ _ _ h => h) (Or.inl ⟨by rfl, ?_⟩) (by assumption) ?_
      rotate_left
      · intro w hSw
        try dsimp only at hSw
        go_simp
        try with_reducible rfl
      try simp only [Act.put, List.setIfInBounds_toArray, List.set_cons_zero, List.set_cons_succ, List.getElem_toArray, List.getElem_cons_zero, List.getElem_cons_succ]
      refine wpAnyH_take (i := 11) (oi := _) (v := ?_) rfl (by kernel_rfl) (by kernel_rfl) (by kernel_rfl) (fun _ _ _ h => h) (Or.inl ⟨by rfl, ?_⟩) (by assumption) ?_
      rotate_left
      · intro w hSw
        try dsimp only at hSw
        go_simp
        try with_reducible rfl
      try simp only [Act.put, List.setIfInBounds_toArray, List.set_cons_zero, List.set_cons_succ, List.getElem_toArray, List.getElem_cons_zero, List.getElem_cons_succ]
      refine wpAnyH_ready (rs := [12]) (by kernel_rfl) (by simp) ?_
      refine AllReadyH.cons (o := _) rfl (fun K hK => ?_) AllReadyH.nil
      go_simp
      try dsimp only
      refine hK.out _ _ ?_ (fun hHeld => ?_)
      · exact ⟨cellSa (cellSa (cellSa (cellSa l0 (p := ⟨X, 0, none⟩) hbX' _) (p := ⟨X, 1, none⟩) hbX' _) (p := ⟨X, 2, none⟩) hbX' _) (p := ⟨X, 3, none⟩) hbX' _, cellS (cellS (cellS (cellS l1 (p := ⟨X, 0, none⟩) hbX' _) (p := ⟨X, 1, none⟩) hbX' _) (p := ⟨X, 2, none⟩) hbX' _) (p := ⟨X, 3, none⟩) hbX' _, cellS (cellS (cellS (cellS l2 (p := ⟨X, 0, none⟩) hbX' _) (p := ⟨X, 1, none⟩) hbX' _) (p := ⟨X, 2, none⟩) hbX' _) (p := ⟨X, 3, none⟩) hbX' _, cellS (cellS (cellS (cellS l3 (p := ⟨X, 0, none⟩) hbX' _) (p := ⟨X, 1, none⟩) hbX' _) (p := ⟨X, 2, none⟩) hbX' _) (p := ⟨X, 3, none⟩) hbX' _, cellS (cellS (cellS (cellS l4 (p := ⟨X, 0, none⟩) hbX' _) (p := ⟨X, 1, none⟩) hbX' _) (p := ⟨X, 2, none⟩) hbX' _) (p := ⟨X, 3, none⟩) hbX' _⟩
      clear hK K
      try simp only [Act.put, List.setIfInBounds_toArray, List.set_cons_zero, List.set_cons_succ, List.getElem_toArray, List.getElem_cons_zero, List.getElem_cons_succ]
      refine wpAnyH_take (i := 13) (oi := _) (v := ?_) rfl (by kernel_rfl) (by kernel_rfl) (by kernel_rfl) (fun _ _ _ h => h) (Or.inl ⟨by rfl, ?_⟩) (by assumption) ?_
      rotate_left
      · intro w hSw
        try dsimp only at hSw
        go_simp
        try with_reducible rfl
      try simp only [Act.put, List.setIfInBounds_toArray, List.set_cons_zero, List.set_cons_succ, List.getElem_toArray, List.getElem_cons_zero, List.getElem_cons_succ]
      refine wpAnyH_done (by kernel_rfl) ?_ _
      go_wp2_with fail
      exact ⟨⟨q + 1, b', g', D', a6, c6, a7, c7, by omega, by go_num, rfl, rfl, HP.out.drew.step HD5.out Hg5.out HR5.out Hn5.out HF5.out Ho5.out⟩, by simp [intOf]; omega⟩
    · have hX8 := HP.out.hX
      have x0 := cell_of_block hX8 0
      have x1 := cell_of_block hX8 1
      have x2 := cell_of_block hX8 2
      have x3 := cell_of_block hX8 3
      simp only [List.getElem?_toArray, List.getElem?_cons_zero, List.getElem?_cons_succ] at x0 x1 x2 x3
      clear hX8
      by_cases hq1 : q < len1
      case' pos =>
        have d1 : decide (q < len1) = true := by simp; omega
        have d2 : decide ((q : Int) < 20) = false := by simp; omega
        go_upto_region 8 with fail
      case' neg =>
        have d1 : decide (q < len1) = false := by simp; omega
        go_upto_region 8 with fail
      all_goals
        have hbn := HP.out.hD.lt
        have hgn := HP.out.hg
        have hxn := lt_of_block HP.out.hX
        apply shared
        · intro key
          go_region_law (first
            | (go_simp; go_at_call 20; (with_reducible refine (disk_clone_any wr.drew HP.out.drew.hD).mono ?_); rintro e w5 ⟨rfl, gc, hDc, hgc, hB5⟩; have hP5 := HP.out.drew.below hB5; have y0 := cell_of_block hP5.hX 0; have y1 := cell_of_block hP5.hX 1; have y2 := cell_of_block hP5.hX 2; have y3 := cell_of_block hP5.hX 3; simp only [List.getElem?_toArray, List.getElem?_cons_zero, List.getElem?_cons_succ] at y0 y1 y2 y3; have ya0 := cellA (lt_of_block hP5.hX) y0 (.cells #[.slice none 0 0, .slice none 0 0, .int .i64 0, .bool false] 52); have ya1 := cellA (lt_of_block hP5.hX) y1 (.cells #[.slice none 0 0, .slice none 0 0, .int .i64 0, .bool false] 52); have ya2 := cellA (lt_of_block hP5.hX) y2 (.cells #[.slice none 0 0, .slice none 0 0, .int .i64 0, .bool false] 52); have ya3 := cellA (lt_of_block hP5.hX) y3 (.cells #[.slice none 0 0, .slice none 0 0, .int .i64 0, .bool false] 52); have Hs5 := hid (show wr.heap.size ≤ w5.heap.size from hB5.size); have HDc := hid hDc; have Hgc := hid hgc; have HP5 := hid hP5; clear hDc hgc hP5 hB5)
            | (go_simp; go_at_call 20; (with_reducible refine (disk_clone_any (wr.alloc (.cells #[.slice none 0 0, .slice none 0 0, .int .i64 0, .bool false] 52)).drew (HP.out.alloc (.cells #[.slice none 0 0, .slice none 0 0, .int .i64 0, .bool false] 52)).drew.hD).mono ?_); rintro e w5 ⟨rfl, gc, hDc, hgc, hB5⟩; have hP5 := (HP.out.alloc (.cells #[.slice none 0 0, .slice none 0 0, .int .i64 0, .bool false] 52)).drew.below hB5; have hN5 := (hB5.block wr.heap.size (by simp)).trans (heap_new wr (.cells #[.slice none 0 0, .slice none 0 0, .int .i64 0, .bool false] 52)); have y0 := cell_of_block hP5.hX 0; have y1 := cell_of_block hP5.hX 1; have y2 := cell_of_block hP5.hX 2; have y3 := cell_of_block hP5.hX 3; simp only [List.getElem?_toArray, List.getElem?_cons_zero, List.getElem?_cons_succ] at y0 y1 y2 y3; have n0 := cell_of_block hN5 0; have n1 := cell_of_block hN5 1; have n2 := cell_of_block hN5 2; have n3 := cell_of_block hN5 3; simp only [List.getElem?_toArray, List.getElem?_cons_zero, List.getElem?_cons_succ] at n0 n1 n2 n3; have nf0 := free_of_block hN5 0; have nf1 := free_of_block hN5 1; have nf2 := free_of_block hN5 2; have nf3 := free_of_block hN5 3; have hsn : (wr.alloc (.cells #[.slice none 0 0, .slice none 0 0, .int .i64 0, .bool false] 52)).drew.heap.size = wr.heap.size + 1 := (by simp); rw [hsn] at hDc; have HN5 := hid hN5; have HDc := hid hDc; have Hgc := hid hgc; have HP5 := hid hP5; clear hDc hgc hP5 hN5 hB5 hsn))
          all_goals
            try go_simp
            first
              | (have hTT := twinsB HP.out HP5.out ⟨_, _, _, _, rfl⟩ HN5.out HDc.out Hgc.out; generalize ((((w5.setCell ⟨wr.heap.size, 0, none⟩ (.slice a1 8 c1)).setCell ⟨wr.heap.size, 1, none⟩ (.slice a2 8 c2)).setCell ⟨wr.heap.size, 2, none⟩ (.int .i64 D.rl)).setCell ⟨wr.heap.size, 3, none⟩ (.bool D.dead)) = w6 at hTT ⊢; generalize wr.heap.size + 1 = bc at hTT ⊢; generalize wr.heap.size = Y at hTT ⊢; clear HDc Hgc HP5 HN5; revert hTT; revert w6 Y bc gc; exact key.out)
              | (have hTT := twinsA HP.out HP5.out Hs5.out HDc.out Hgc.out; generalize w5.alloc (.cells #[.slice a1 8 c1, .slice a2 8 c2, .int .i64 D.rl, .bool D.dead] 52) = w6 at hTT ⊢; generalize wr.heap.size = bc at hTT ⊢; generalize w5.heap.size = Y at hTT ⊢; clear HDc Hgc HP5 Hs5; revert hTT; revert w6 Y bc gc; exact key.out)
        · intro gc w6 bc Y hTT
          obtain ⟨M, M2, hT0⟩ := hTT
          clear HP x0 x1 x2 x3 hbn hgn hxn
          generalize D = Dc at hT0 ⊢
          generalize a1 = a3 at hT0 ⊢
          generalize c1 = c3 at hT0 ⊢
          generalize a2 = a4 at hT0 ⊢
          generalize c2 = c4 at hT0 ⊢
          generalize b = b1 at hT0 ⊢
          generalize g = g1 at hT0 ⊢
          have HT0 := hid hT0
          clear hT0
          go_wp2_with fail
          go_loopw [5, 7, 11] (fun d ok i wr => ∃ (q b g : Nat) (D : Dsk) (a1 : Option Addr) (c1 : Nat) (a2 : Option Addr) (c2 : Nat), q ≤ 20 ∧ i = .int .i64 q ∧ d = .pointer (some ⟨b, 0, none⟩) ∧ ok = .bool true ∧ Twins w wr X b g D a1 c1 a2 c2 Y bc gc Dc a3 c3 a4 c4 M M2) (fun _ _ i _ => (20 - intOf i).toNat)
          case atStart => exact ⟨0, b1, g1, Dc, a3, c3, a4, c4, by omega, rfl, rfl, rfl, HT0.out⟩
          case round =>
            clear HT0 HA1
            obtain ⟨q, b, g, D, a1, c1, a2, c2, hq, rfl, rfl, rfl, hT⟩ := hrel
            have HT := hid hT
            have HP := hid hT.p
            clear hT
            by_cases hql : q < len2 ∧ q < 20
            · skip
              have d1 : decide (q < len2) = true := by simp; omega
              have d2 : decide ((q : Int) < 20) = true := by simp; omega
              obtain ⟨ad, hadr, j0, j1, j2, j3, j4, hbl⟩ := HA2.out.at (Below.refl _ w) hql.1
              have hcu : SliceOf w (E2 q).ca (E2 q).cl (E2 q).cc (fun k => .int .i64 ((E2 q).cu k)) := by
                obtain ⟨ad', _, h2⟩ := HA2.out.reads (by omega)
                exact (h2 q hql.1).2.2.2.2.2
              have hcuts := cutsOf (wr := wr.drew) hcu HP.out.drew.hB HP.out.hD.hb HP.out.hD.hg
              subst hadr
              have hJ := And.intro j0 (And.intro j1 (And.intro j2 (And.intro j3 j4)))
              clear j0 j1 j2 j3 j4
              go_upto_region 12 with fail
              generalize (E2 q).s = s at *
              generalize (E2 q).at_ = z at *
              generalize (E2 q).kind = kind at *
              generalize (E2 q).n = an at *
              generalize (E2 q).ca = ca at *
              generalize (E2 q).cl = cl at *
              generalize (E2 q).cc = cc at *
              generalize (E2 q).cu = cu at *
              have hc := does_any wr.drew HP.out.drew.hD HP.out.drew.hg HP.out.drew.hR kind z an s ca cl cc cu hcuts
              have Hc := hid hc
              have HJ := hid hJ
              clear hJ
              have k0 := (HP.out.hB.cell (p := ad.add (q * 5)) hbl).trans HJ.out.1
              have k1 := (HP.out.hB.cell (p := ⟨(ad.add (q * 5)).block, (ad.add (q * 5)).off + 1, none⟩) hbl).trans HJ.out.2.1
              have k2 := (HP.out.hB.cell (p := ⟨(ad.add (q * 5)).block, (ad.add (q * 5)).off + 2, none⟩) hbl).trans HJ.out.2.2.1
              have k3 := (HP.out.hB.cell (p := ⟨(ad.add (q * 5)).block, (ad.add (q * 5)).off + 3, none⟩) hbl).trans HJ.out.2.2.2.1
              have k4 := (HP.out.hB.cell (p := ⟨(ad.add (q * 5)).block, (ad.add (q * 5)).off + 4, none⟩) hbl).trans HJ.out.2.2.2.2
              have x0 := cell_of_block HP.out.hX 0
              have x1 := cell_of_block HP.out.hX 1
              have x2 := cell_of_block HP.out.hX 2
              have x3 := cell_of_block HP.out.hX 3
              simp only [List.getElem?_toArray, List.getElem?_cons_zero, List.getElem?_cons_succ] at x0 x1 x2 x3
              have hbX : (ad.add (q * 5)).block ≠ X := by have := HP.out.hXw; omega
              have hbX' : X ≠ (ad.add (q * 5)).block := by have := HP.out.hXw; omega
              clear hc hcu hcuts
              refine wp_region_held_drew (S := (fun w' => w'.cell? (ad.add (q * 5)) = some (.int .i64 kind) ∧ w'.cell? ⟨(ad.add (q * 5)).block, (ad.add (q * 5)).off + 1, none⟩ = some (.int .i64 z) ∧ w'.cell? ⟨(ad.add (q * 5)).block, (ad.add (q * 5)).off + 2, none⟩ = some (.int .i64 an) ∧ w'.cell? ⟨(ad.add (q * 5)).block, (ad.add (q * 5)).off + 3, none⟩ = some (.string (S s)) ∧ w'.cell? ⟨(ad.add (q * 5)).block, (ad.add (q * 5)).off + 4, none⟩ = some (.slice ca cl cc))) (by kernel_rfl) ⟨k0, k1, k2, k3, k4⟩ (fun hHeld => ?_)
              refine wpAnyH_take (i := 0) (oi := _) (v := ?_) rfl (by kernel_rfl) (by kernel_rfl) (by kernel_rfl) (fun _ _ _ h => h) (Or.inl ⟨by rfl, ?_⟩) (by assumption) ?_
              rotate_left
              · intro w hSw
                try dsimp only at hSw
                go_simp
                try with_reducible rfl
              try simp only [Act.put, List.setIfInBounds_toArray, List.set_cons_zero, List.set_cons_succ, List.getElem_toArray, List.getElem_cons_zero]
              refine wpAnyH_take (i := 2) (oi := _) (v := ?_) rfl (by kernel_rfl) (by kernel_rfl) (by kernel_rfl) (fun _ _ _ h => h) (Or.inl ⟨by rfl, ?_⟩) (by assumption) ?_
              rotate_left
              · intro w hSw
                try dsimp only at hSw
                go_simp
                try with_reducible rfl
              try simp only [Act.put, List.setIfInBounds_toArray, List.set_cons_zero, List.set_cons_succ, List.getElem_toArray, List.getElem_cons_zero, List.getElem_cons_succ]
              refine wpAnyH_take (i := 3) (oi := _) (v := ?_) rfl (by kernel_rfl) (by kernel_rfl) (by kernel_rfl) (fun _ _ _ h => h) (Or.inl ⟨by rfl, ?_⟩) (by assumption) ?_
              rotate_left
              · intro w hSw
                try dsimp only at hSw
                go_simp
                try with_reducible rfl
              try simp only [Act.put, List.setIfInBounds_toArray, List.set_cons_zero, List.set_cons_succ, List.getElem_toArray, List.getElem_cons_zero, List.getElem_cons_succ]
              refine wpAnyH_take (i := 4) (oi := _) (v := ?_) rfl (by kernel_rfl) (by kernel_rfl) (by kernel_rfl) (fun _ _ _ h => h) (Or.inl ⟨by rfl, ?_⟩) (by assumption) ?_
              rotate_left
              · intro w hSw
                try dsimp only at hSw
                go_simp
                try with_reducible rfl
              try simp only [Act.put, List.setIfInBounds_toArray, List.set_cons_zero, List.set_cons_succ, List.getElem_toArray, List.getElem_cons_zero, List.getElem_cons_succ]
              refine wpAnyH_take (i := 5) (oi := _) (v := ?_) rfl (by kernel_rfl) (by kernel_rfl) (by kernel_rfl) (fun _ _ _ h => h) (Or.inl ⟨by rfl, ?_⟩) (by assumption) ?_
              rotate_left
              · intro w hSw
                try dsimp only at hSw
                go_simp
                try with_reducible rfl
              try simp only [Act.put, List.setIfInBounds_toArray, List.set_cons_zero, List.set_cons_succ, List.getElem_toArray, List.getElem_cons_zero, List.getElem_cons_succ]
              refine wpAnyH_ready (rs := [1]) (by kernel_rfl) (by simp) ?_
              refine AllReadyH.cons (o := _) rfl (fun K hK => ?_) AllReadyH.nil
              go_simp
              try dsimp only
              refine hK.out _ _ ?_ (fun hHeld => ?_)
              · exact ⟨k0, k1, k2, k3, k4⟩
              clear hK K
              try simp only [Act.put, List.setIfInBounds_toArray, List.set_cons_zero, List.set_cons_succ, List.getElem_toArray, List.getElem_cons_zero, List.getElem_cons_succ]
              refine wpAnyH_ready (rs := [6]) (by kernel_rfl) (by simp) ?_
              refine AllReadyH.cons (o := _) rfl (fun K hK => ?_) AllReadyH.nil
              go_simp
              go_at_call 23
              (with_reducible refine Hc.out.mono ?_)
              rintro e w5 hE5
              obtain ⟨b', g', v', D', rfl, hD5, hg5, hR5, hn5, hF5, ho5⟩ := hE5.open
              obtain ⟨a6, c6, a7, c7, rfl⟩ := hR5.vals (hn5.trans HP.out.hn)
              have hm5 := HP.out.drew.mid hF5
              have l0 := (hm5.2.cell (p := ad.add (q * 5)) hbl).trans HJ.out.1
              have l1 := (hm5.2.cell (p := ⟨(ad.add (q * 5)).block, (ad.add (q * 5)).off + 1, none⟩) hbl).trans HJ.out.2.1
              have l2 := (hm5.2.cell (p := ⟨(ad.add (q * 5)).block, (ad.add (q * 5)).off + 2, none⟩) hbl).trans HJ.out.2.2.1
              have l3 := (hm5.2.cell (p := ⟨(ad.add (q * 5)).block, (ad.add (q * 5)).off + 3, none⟩) hbl).trans HJ.out.2.2.2.1
              have l4 := (hm5.2.cell (p := ⟨(ad.add (q * 5)).block, (ad.add (q * 5)).off + 4, none⟩) hbl).trans HJ.out.2.2.2.2
              have y0 := cell_of_block hm5.1 0
              have y1 := cell_of_block hm5.1 1
              have y2 := cell_of_block hm5.1 2
              have y3 := cell_of_block hm5.1 3
              simp only [List.getElem?_toArray, List.getElem?_cons_zero, List.getElem?_cons_succ] at y0 y1 y2 y3
              have yf0 := free_of_block hm5.1 0
              have yf1 := free_of_block hm5.1 1
              have yf2 := free_of_block hm5.1 2
              have yf3 := free_of_block hm5.1 3
              have HD5 := hid hD5
              have Hg5 := hid hg5
              have HR5 := hid hR5
              have Hn5 := hid hn5
              have HF5 := hid hF5
              have Ho5 := hid ho5
              clear hD5 hg5 hR5 hn5 hF5 ho5 hm5
              clear hE5
              try dsimp only
              refine hK.out _ _ ?_ (fun hHeld => ?_)
              · exact ⟨l0, l1, l2, l3, l4⟩
              clear hK K
              try simp only [Act.put, List.setIfInBounds_toArray, List.set_cons_zero, List.set_cons_succ, List.getElem_toArray, List.getElem_cons_zero, List.getElem_cons_succ]
              refine wpAnyH_take (i := 7) (oi := _) (v := ?_) rfl (by kernel_rfl) (by kernel_rfl) (by kernel_rfl) (fun _ _ _ h => h) (Or.inl ⟨by rfl, ?_⟩) (by assumption) ?_
              rotate_left
              · intro w hSw
                try dsimp only at hSw
                go_simp
                try with_reducible rfl
              try simp only [Act.put, List.setIfInBounds_toArray, List.set_cons_zero, List.set_cons_succ, List.getElem_toArray, List.getElem_cons_zero, List.getElem_cons_succ]
              refine wpAnyH_take (i := 8) (oi := _) (v := ?_) rfl (by kernel_rfl) (by kernel_rfl) (by kernel_rfl) (fun _ _ _ h => h) (Or.inl ⟨by rfl, ?_⟩) (by assumption) ?_
              rotate_left
              · intro w hSw
                try dsimp only at hSw
                go_simp
                try with_reducible rfl
              try simp only [Act.put, List.setIfInBounds_toArray, List.set_cons_zero, List.set_cons_succ, List.getElem_toArray, List.getElem_cons_zero, List.getElem_cons_succ]
              refine wpAnyH_take (i := 9) (oi := _) (v := ?_) rfl (by kernel_rfl) (by kernel_rfl) (by kernel_rfl) (fun _ _ _ h => h) (Or.inl ⟨by rfl, ?_⟩) (by assumption) ?_
              rotate_left
              · intro w hSw
                try dsimp only at hSw
                go_simp
                try with_reducible rfl
              try simp only [Act.put, List.setIfInBounds_toArray, List.set_cons_zero, List.set_cons_succ, List.getElem_toArray, List.getElem_cons_zero, List.getElem_cons_succ]
              refine wpAnyH_take (i := 10) (oi := _) (v := ?_) rfl (by kernel_rfl) (by kernel_rfl) (by kernel_rfl) (fun _ _ _ h => h) (Or.inl ⟨by rfl, ?_⟩) (by assumption) ?_
              rotate_left
              · intro w hSw
                try dsimp only at hSw
                go_simp
                try with_reducible rfl
              try simp only [Act.put, List.setIfInBounds_toArray, List.set_cons_zero, List.set_cons_succ, List.getElem_toArray, List.getElem_cons_zero, List.getElem_cons_succ]
              refine wpAnyH_take (i := 11) (oi := _) (v := ?_) rfl (by kernel_rfl) (by kernel_rfl) (by kernel_rfl) (fun _ _ _ h => h) (Or.inl ⟨by rfl, ?_⟩) (by assumption) ?_
              rotate_left
              · intro w hSw
                try dsimp only at hSw
                go_simp
                try with_reducible rfl
              try simp only [Act.put, List.setIfInBounds_toArray, List.set_cons_zero, List.set_cons_succ, List.getElem_toArray, List.getElem_cons_zero, List.getElem_cons_succ]
              refine wpAnyH_ready (rs := [12]) (by kernel_rfl) (by simp) ?_
              refine AllReadyH.cons (o := _) rfl (fun K hK => ?_) AllReadyH.nil
              go_simp
              try dsimp only
              refine hK.out _ _ ?_ (fun hHeld => ?_)
              · exact ⟨cellSa (cellSa (cellSa (cellSa l0 (p := ⟨X, 0, none⟩) hbX' _) (p := ⟨X, 1, none⟩) hbX' _) (p := ⟨X, 2, none⟩) hbX' _) (p := ⟨X, 3, none⟩) hbX' _, cellS (cellS (cellS (cellS l1 (p := ⟨X, 0, none⟩) hbX' _) (p := ⟨X, 1, none⟩) hbX' _) (p := ⟨X, 2, none⟩) hbX' _) (p := ⟨X, 3, none⟩) hbX' _, cellS (cellS (cellS (cellS l2 (p := ⟨X, 0, none⟩) hbX' _) (p := ⟨X, 1, none⟩) hbX' _) (p := ⟨X, 2, none⟩) hbX' _) (p := ⟨X, 3, none⟩) hbX' _, cellS (cellS (cellS (cellS l3 (p := ⟨X, 0, none⟩) hbX' _) (p := ⟨X, 1, none⟩) hbX' _) (p := ⟨X, 2, none⟩) hbX' _) (p := ⟨X, 3, none⟩) hbX' _, cellS (cellS (cellS (cellS l4 (p := ⟨X, 0, none⟩) hbX' _) (p := ⟨X, 1, none⟩) hbX' _) (p := ⟨X, 2, none⟩) hbX' _) (p := ⟨X, 3, none⟩) hbX' _⟩
              clear hK K
              try simp only [Act.put, List.setIfInBounds_toArray, List.set_cons_zero, List.set_cons_succ, List.getElem_toArray, List.getElem_cons_zero, List.getElem_cons_succ]
              refine wpAnyH_take (i := 13) (oi := _) (v := ?_) rfl (by kernel_rfl) (by kernel_rfl) (by kernel_rfl) (fun _ _ _ h => h) (Or.inl ⟨by rfl, ?_⟩) (by assumption) ?_
              rotate_left
              · intro w hSw
                try dsimp only at hSw
                go_simp
                try with_reducible rfl
              try simp only [Act.put, List.setIfInBounds_toArray, List.set_cons_zero, List.set_cons_succ, List.getElem_toArray, List.getElem_cons_zero, List.getElem_cons_succ]
              refine wpAnyH_done (by kernel_rfl) ?_ _
              go_wp2_with fail
              exact ⟨⟨q + 1, b', g', D', a6, c6, a7, c7, by omega, by go_num, rfl, rfl, HT.out.drew.step HD5.out Hg5.out HR5.out Hn5.out HF5.out Ho5.out⟩, by simp [intOf]; omega⟩
            · have HC := hid HT.out.c
              clear HA2 HP
              by_cases hq1 : q < len2
              case' pos =>
                have d1 : decide (q < len2) = true := by simp; omega
                have d2 : decide ((q : Int) < 20) = false := by simp; omega
                go_upto_region 13 with fail
              case' neg =>
                have d1 : decide (q < len2) = false := by simp; omega
                go_upto_region 13 with fail
              all_goals
                have x0 := cell_of_block HC.out.hX 0
                have x1 := cell_of_block HC.out.hX 1
                have x2 := cell_of_block HC.out.hX 2
                have x3 := cell_of_block HC.out.hX 3
                simp only [List.getElem?_toArray, List.getElem?_cons_zero, List.getElem?_cons_succ] at x0 x1 x2 x3
                have Hc1 := hid (disk_dead_eq wr.drew HC.out.drew.hD)
                have Hc2 := hid (disk_len_eq wr.drew HC.out.drew.hD)
                have Hc3 := hid (disk_loose wr.drew HC.out.drew.hD)
                have Hc4 := hid (fun (w : World) (h : RefAt w (.agg #[.slice a3 8 c3, .slice a4 8 c4, .int .i64 Dc.rl, .bool Dc.dead]) Dc) => ref4_loose h HC.out.hD.small)
                have hnD : ((Dc.n : Nat) : Int) = 8 := by have := HC.out.hn; omega
                clear HT
                go_region_held3 (fun w' => w'.cell? ⟨Y, 0, none⟩ = some (.slice a3 8 c3) ∧ w'.cell? ⟨Y, 1, none⟩ = some (.slice a4 8 c4) ∧ w'.cell? ⟨Y, 2, none⟩ = some (.int .i64 Dc.rl) ∧ w'.cell? ⟨Y, 3, none⟩ = some (.bool Dc.dead))
                  (first | go_keep | exact ⟨x0, x1, x2, x3⟩ | exact ⟨y0, y1, y2, y3⟩ | exact ⟨z0, z1, z2, z3⟩)
                  (first
                    | (go_at_call 17; (with_reducible refine Hc1.out.mono ?_); rintro e wd ⟨rfl, hwd⟩; subst hwd)
                    | (go_at_call 25; (with_reducible refine Hc2.out.mono ?_); rintro e wd ⟨rfl, hwd⟩; subst hwd)
                    | (go_at_call 21; (with_reducible refine Hc3.out.mono ?_); rintro e w5 ⟨lv, rfl, hO5, hB5⟩; obtain ⟨lo, lcap, rfl⟩ := shape_of hO5; have hP5 := HC.out.drew.below hB5; have y0 := cell_of_block hP5.hX 0; have y1 := cell_of_block hP5.hX 1; have y2 := cell_of_block hP5.hX 2; have y3 := cell_of_block hP5.hX 3; simp only [List.getElem?_toArray, List.getElem?_cons_zero, List.getElem?_cons_succ] at y0 y1 y2 y3; have HP5 := hid hP5; clear hP5 hO5 hB5)
                    | (go_at_call 24; (with_reducible refine (Hc4.out w5 HP5.out.hR).mono ?_); rintro e w6 ⟨mv, rfl, hM6, hB6⟩; obtain ⟨mo, mcap, rfl⟩ := shape_of hM6; have hP6 := HP5.out.below hB6; have z0 := cell_of_block hP6.hX 0; have z1 := cell_of_block hP6.hX 1; have z2 := cell_of_block hP6.hX 2; have z3 := cell_of_block hP6.hX 3; simp only [List.getElem?_toArray, List.getElem?_cons_zero, List.getElem?_cons_succ] at z0 z1 z2 z3; have HP6 := hid hP6; clear hP6 hM6 hB6))
                clear x0 x1 x2 x3 y0 y1 y2 y3 z0 z1 z2 z3 HC HP5 Hc1 Hc2 Hc3 Hc4
                go_wp2_with fail
                have hP7 := HP6.out.alloc (.cells #[.int .i64 64, .int .i64 64, .int .i64 64, .int .i64 64, .int .i64 64, .int .i64 64, .int .i64 64, .int .i64 64] 3)
                have hcuts := cutsNew (w := w6) (b := bc) (g := gc) 8 #[.int .i64 64, .int .i64 64, .int .i64 64, .int .i64 64, .int .i64 64, .int .i64 64, .int .i64 64, .int .i64 64] 3 (fun _ => 64) HP6.out.hD.lt HP6.out.hg (fun k hk => by rcases (by omega : k = 0 ∨ k = 1 ∨ k = 2 ∨ k = 3 ∨ k = 4 ∨ k = 5 ∨ k = 6 ∨ k = 7) with h | h | h | h | h | h | h | h <;> subst h <;> rfl)
                have HP7 := hid hP7
                refine (disk_crash _ hP7.hD (some ⟨w6.heap.size, 0, none⟩) 8 8 (fun _ => 64) hcuts).mono ?_
                rintro e w8 ⟨rfl, hE8⟩
                clear hcuts hP7
                generalize w6.alloc (.cells #[.int .i64 64, .int .i64 64, .int .i64 64, .int .i64 64, .int .i64 64, .int .i64 64, .int .i64 64, .int .i64 64] 3) = w7 at *
                have hm8 := HP7.out.mid hE8.2
                have hR8 := HP7.out.hR.disk rfl HP7.out.hD hE8.2
                have hn8 : (Dc.crash 8 (fun _ => 64)).n = Dc.n := tearN_n Dc (cutAt 8 (fun _ => 64)) (loose Dc) _
                have hi8 := (cutsNew (w := w8) (b := bc) (g := gc) 8 #[.int .i64 64, .int .i64 64, .int .i64 64, .int .i64 64, .int .i64 64, .int .i64 64, .int .i64 64, .int .i64 64] 3 (fun _ => 64) hE8.1.lt (by have := HP7.out.hg; have := hE8.2.size; omega) (fun k hk => by rcases (by omega : k = 0 ∨ k = 1 ∨ k = 2 ∨ k = 3 ∨ k = 4 ∨ k = 5 ∨ k = 6 ∨ k = 7) with h | h | h | h | h | h | h | h <;> subst h <;> rfl)).ints
                have hc8 := (ref4_crash (hR8.below ((Below.refl _ w8).alloc (Nat.le_refl _) (.cells #[.int .i64 64, .int .i64 64, .int .i64 64, .int .i64 64, .int .i64 64, .int .i64 64, .int .i64 64, .int .i64 64] 3))) HP7.out.hD.small HP7.out.hD.len (some ⟨w8.heap.size, 0, none⟩) 8 8 (fun _ => 64) hi8)
                have hdd : (Dc.crash 8 (fun _ => 64)).dead = false := rfl
                generalize Dc.crash 8 (fun _ => 64) = D2 at *
                have hX8 := hm8.1
                have hX8' := heap_old hm8.1 (.cells #[.int .i64 64, .int .i64 64, .int .i64 64, .int .i64 64, .int .i64 64, .int .i64 64, .int .i64 64, .int .i64 64] 3)
                have Hc8 := hid hc8
                have HE8 := hid hE8
                have Hdd := hid hdd
                have Hn8 := hid hn8
                have HX8 := hid hX8'
                have x0 := cell_of_block hX8 0
                have x1 := cell_of_block hX8 1
                have x2 := cell_of_block hX8 2
                have x3 := cell_of_block hX8 3
                simp only [List.getElem?_toArray, List.getElem?_cons_zero, List.getElem?_cons_succ] at x0 x1 x2 x3
                have v0 := cell_of_block hX8' 0
                have v1 := cell_of_block hX8' 1
                have v2 := cell_of_block hX8' 2
                have v3 := cell_of_block hX8' 3
                simp only [List.getElem?_toArray, List.getElem?_cons_zero, List.getElem?_cons_succ] at v0 v1 v2 v3
                clear hm8 hR8 hc8 hE8 hdd hn8 hi8 hX8 hX8'
                go_wp2_with fail
                refine Hc8.out.mono ?_
                rintro e w9 ⟨v9, rfl, hR9, hB9⟩
                obtain ⟨a6, c6, a7, c7, rfl⟩ := hR9.vals (Hn8.out.trans HP7.out.hn)
                have hX9 := (hB9.block Y (lt_of_block HX8.out)).trans HX8.out
                have hB89 : Below w8.heap.size w8 w9 := ((Below.refl _ w8).alloc (Nat.le_refl _) (.cells #[.int .i64 64, .int .i64 64, .int .i64 64, .int .i64 64, .int .i64 64, .int .i64 64, .int .i64 64, .int .i64 64] 3)).trans (hB9.mono (by simp))
                have y0 := cell_of_block hX9 0
                have y1 := cell_of_block hX9 1
                have y2 := cell_of_block hX9 2
                have y3 := cell_of_block hX9 3
                simp only [List.getElem?_toArray, List.getElem?_cons_zero, List.getElem?_cons_succ] at y0 y1 y2 y3
                have yf0 := free_of_block hX9 0
                have yf1 := free_of_block hX9 1
                have yf2 := free_of_block hX9 2
                have yf3 := free_of_block hX9 3
                have hst := HP7.out.step (HE8.out.1.below hB89) (by have := HP7.out.hg; have := HE8.out.2.size; have := hB89.size; omega) hR9 Hn8.out (HE8.out.2.trans (Fr.ofBelow hB89 (dfoot bc gc)) (fun _ _ h => h)) (.inl ⟨rfl, rfl⟩)
                have HS11 := hid hst
                clear hst hR9 hB9 hB89 hX9 x0 x1 x2 x3 v0 v1 v2 v3 Hc8 HP6 HP7 HX8 HE8
                go_wp2_with fail
                generalize ((((w9.setCell ⟨Y, 0, none⟩ (.slice a6 8 c6)).setCell ⟨Y, 1, none⟩ (.slice a7 8 c7)).setCell ⟨Y, 2, none⟩ (.int .i64 D2.rl)).setCell ⟨Y, 3, none⟩ (.bool D2.dead)) = w10 at *
                clear y0 y1 y2 y3 yf0 yf1 yf2 yf3
                go_loopw [99] (fun x wr => ∃ q : Nat, q ≤ 8 ∧ x = .int .i64 q ∧ PlayAt w wr Y bc gc D2 8 a6 c6 a7 c7 D2.rl D2.dead) (fun x _ => (8 - intOf x).toNat)
                case atStart => exact ⟨0, Nat.zero_le _, rfl, HS11.out⟩
                case round =>
                  clear HS11
                  obtain ⟨q3, hq3, rfl, hP3⟩ := hrel
                  by_cases hq3N : q3 < 8
                  · have d10 : decide ((q3 : Int) < 8) = true := by simp; omega
                    have hr3 := lread_any (q3 : Int) wr hP3.hD
                    have hro : ¬ D2.out (q3 : Int) := by unfold Dsk.out; have := hP3.hn; omega
                    have hrd : ¬ D2.dead = true := by rw [Hdd.out]; decide
                    rw [show D2.rErr q3 = 0 by unfold Dsk.rErr; rw [if_neg hrd, if_neg hro], show D2.rText q3 = D2.now q3 by unfold Dsk.rText; rw [if_neg hrd, if_neg hro, Int.toNat_natCast]] at hr3
                    have Hr3 := hid hr3
                    have HP3 := hid hP3
                    clear hr3 hP3 hro hrd
                    go_wp2_with fail
                    (with_reducible refine Hr3.out.mono ?_)
                    rintro e w12 ⟨rfl, hB12⟩
                    have hP12 := HP3.out.below hB12
                    obtain ⟨g7, cur7, e7, hg7, hc7⟩ := hP12.hR.rows.2 (by omega)
                    subst e7
                    have u1 := cell_of_block hP12.hX 1
                    have u2 := cell_of_block hg7 q3
                    rw [hc7 q3 hq3N] at u2
                    simp only [List.getElem?_toArray, List.getElem?_cons_zero, List.getElem?_cons_succ] at u1
                    have HP12 := hid hP12
                    clear hP12 hg7 hc7 hB12 Hr3
                    go_wp2_with fail
                    exact ⟨⟨q3 + 1, by omega, by go_num, HP12.out⟩, by simp [intOf]; omega⟩
                  · obtain rfl : q3 = 8 := by omega
                    have d10 : decide (((8 : Nat) : Int) < 8) = false := by simp
                    have HP3 := hid hP3
                    clear hP3
                    go_wp2_with fail
                    go_ret
                    exact ⟨rfl, HP3.out.hB⟩
end Go.Proofs.Ytkmbbgnbklklcaa
