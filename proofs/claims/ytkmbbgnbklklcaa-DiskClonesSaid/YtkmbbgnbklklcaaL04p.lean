/-
  Law 04's DiskPlays, DiskClones: the disk and the document's, side by side.
-/
import Derived.Test.YtkmbbgnbklklcaaL04o
namespace Go.Proofs.Ytkmbbgnbklklcaa
open Go.RowKit

theorem cellSa {w : World} {a : Addr} {v : Value} (h : w.cell? a = some v) {p : Addr} (hp : p.block ≠ a.block) (u : Value) : (w.setCell p u).cell? a = some v := (World.cell?_setCell_other _ _ _ _ (fun e => hp (by rw [e]))).trans h
theorem RefAt.rows {w : World} {a1 : Option Addr} {c1 : Nat} {a2 : Option Addr} {c2 N : Nat} {r : Int} {de : Bool} {D : Dsk} (h : RefAt w (.agg #[.slice a1 N c1, .slice a2 N c2, .int .i64 r, .bool de]) D) : SRow w a1 N D.sure ∧ SRow w a2 N D.now := by
  obtain ⟨a1', c1', a2', c2', hv, h1, h2⟩ := h
  unfold rv at hv
  injection hv with hv
  injection hv with hv
  injection hv with e1 hv
  injection hv with e2 hv
  injection e1 with e3 e4 e5
  injection e2 with e6 e7 e8
  subst e3 e6
  rw [e4]
  exact ⟨h1, h2⟩
/-- A disk and the document's, in its box at X. -/
structure PlayAt (w wr : World) (X b g : Nat) (D : Dsk) (N : Nat) (a1 : Option Addr) (c1 : Nat) (a2 : Option Addr) (c2 : Nat) (r : Int) (de : Bool) : Prop where
  hD : DiskAt wr w.heap.size b g D
  hB : Below w.heap.size w wr
  hg : g < wr.heap.size
  hR : RefAt wr (.agg #[.slice a1 N c1, .slice a2 N c2, .int .i64 r, .bool de]) D
  hX : wr.heap[X]? = some (.cells #[.slice a1 N c1, .slice a2 N c2, .int .i64 r, .bool de] 52 (0, 0))
  hXg : g ≠ X
  hXw : w.heap.size ≤ X
  hn : D.n = N
theorem PlayAt.hXb {w wr : World} {X b g : Nat} {D : Dsk} {N : Nat} {a1 : Option Addr} {c1 : Nat} {a2 : Option Addr} {c2 : Nat} {r : Int} {de : Bool} (h : PlayAt w wr X b g D N a1 c1 a2 c2 r de) : b ≠ X := by
  obtain ⟨ao, cap, h1, _⟩ := h.hD.head
  exact tne h1 h.hX (by decide)
theorem PlayAt.below {w wr wr' : World} {X b g : Nat} {D : Dsk} {N : Nat} {a1 : Option Addr} {c1 : Nat} {a2 : Option Addr} {c2 : Nat} {r : Int} {de : Bool} (h : PlayAt w wr X b g D N a1 c1 a2 c2 r de) (hB : Below wr.heap.size wr wr') : PlayAt w wr' X b g D N a1 c1 a2 c2 r de :=
  ⟨h.hD.below hB, h.hB.trans (hB.mono h.hB.size), Nat.lt_of_lt_of_le h.hg hB.size, h.hR.below hB, (hB.block _ (lt_of_block h.hX)).trans h.hX, h.hXg, h.hXw, h.hn⟩
theorem PlayAt.drew {w wr : World} {X b g : Nat} {D : Dsk} {N : Nat} {a1 : Option Addr} {c1 : Nat} {a2 : Option Addr} {c2 : Nat} {r : Int} {de : Bool} (h : PlayAt w wr X b g D N a1 c1 a2 c2 r de) : PlayAt w wr.drew X b g D N a1 c1 a2 c2 r de := h.below ((Below.refl _ wr).drew)
theorem RefAt.vals {w : World} {v : Value} {D : Dsk} {N : Nat} (h : RefAt w v D) (hn : D.n = N) : ∃ a1 c1 a2 c2, v = .agg #[.slice a1 N c1, .slice a2 N c2, .int .i64 D.rl, .bool D.dead] := by
  obtain ⟨a1, c1, a2, c2, rfl, _⟩ := h
  exact ⟨a1, c1, a2, c2, by unfold rv; rw [hn]⟩
theorem own_base {w : World} {b b' e size n : Nat} {v : Value} {xs : List Value} (h : w.ownsRow b e size v n xs) (hb : b' ≤ b) : w.ownsRow b' e size v n xs :=
  ⟨h.1, h.2.imp id fun ⟨g, c, cur, h1, h2, h3⟩ => ⟨g, c, cur, h1, Nat.le_trans hb h2, h3⟩⟩
/-- The disk's part of a step: what the box holds is as it was. -/
theorem PlayAt.mid {w wr w2 : World} {X b g : Nat} {D : Dsk} {N : Nat} {a1 : Option Addr} {c1 : Nat} {a2 : Option Addr} {c2 : Nat} {r : Int} {de : Bool} (h : PlayAt w wr X b g D N a1 c1 a2 c2 r de) (hF : Fr (dfoot b g) wr w2) :
    w2.heap[X]? = some (.cells #[.slice a1 N c1, .slice a2 N c2, .int .i64 r, .bool de] 52 (0, 0)) ∧ Below w.heap.size w w2 :=
  ⟨hF.heap h.hX (by have := h.hXb; have := h.hXg; unfold dfoot; omega), h.hB.trans (hF.below h.hB.size fun k hk e => by have := h.hD.hb; have := h.hD.hg; rcases e with e | e <;> omega)⟩
theorem PlayAt.step {w wr w2 : World} {X b g b' g' : Nat} {D D' : Dsk} {N : Nat} {a1 : Option Addr} {c1 : Nat} {a2 : Option Addr} {c2 : Nat} {r : Int} {de : Bool} {a6 : Option Addr} {c6 : Nat} {a7 : Option Addr} {c7 : Nat} {r6 : Int} {de6 : Bool} (h : PlayAt w wr X b g D N a1 c1 a2 c2 r de)
    (hD : DiskAt w2 w.heap.size b' g' D') (hg : g' < w2.heap.size) (hR : RefAt w2 (.agg #[.slice a6 N c6, .slice a7 N c7, .int .i64 r6, .bool de6]) D') (hn : D'.n = D.n) (hF : Fr (dfoot b g) wr w2) (ho : (b' = b ∧ g' = g) ∨ (wr.heap.size ≤ b' ∧ wr.heap.size ≤ g')) :
    PlayAt w ((((w2.setCell ⟨X, 0, none⟩ (.slice a6 N c6)).setCell ⟨X, 1, none⟩ (.slice a7 N c7)).setCell ⟨X, 2, none⟩ (.int .i64 r6)).setCell ⟨X, 3, none⟩ (.bool de6)) X b' g' D' N a6 c6 a7 c7 r6 de6 := by
  have hm := h.mid hF
  have hb := h.hXb
  have hxg := h.hXg
  have hxl := lt_of_block h.hX
  have hF4 := fr4 (b := X) (Fr.refl (fun k => k = X) w2) rfl (.slice a6 N c6) (.slice a7 N c7) (.int .i64 r6) (.bool de6)
  exact ⟨hD.fr hF4 (by omega) (by omega), below4 hm.2 h.hXw _ _ _ _, Nat.lt_of_lt_of_le hg hF4.size, hR.fr3 hF4 (fun g c _ hg e => by subst e; exact absurd (ty_eq hg hm.1) (by decide)), set4 hm.1 _ _ _ _, by omega, h.hXw, hn.trans h.hn⟩

set_option maxRecDepth 100000 in
set_option maxHeartbeats 4000000 in
theorem walkDiskPlays (w : World) (n : Int) (a : Option Addr) (len cap : Nat) (E : Nat → Act4) (_hn : (Lit.int .i64 n).wf = true) (h : Acts4 w a len cap E) :
    Calls Try.prog 6 #[.int .i64 n, .slice a len cap] w fun e w' => e = .returned (.bool true) ∧ Below w.heap.size w w' := by
  have HA := hid h
  clear h _hn
  go_enter Try.func6, Try.ntmps6
  go_wp2_with fail
  refine (awake04 w).mono ?_
  rintro e w1 ⟨rfl, hB⟩
  have HB1 := hid hB
  clear hB
  go_wp2_with fail
  generalize hn' : min n 9 = n' at *
  have hn9 : n' ≤ 9 := by omega
  obtain ⟨N, hN⟩ : ∃ N : Nat, max n' 0 = (N : Int) := ⟨(max n' 0).toNat, by omega⟩
  have hN9 : N ≤ 9 := by omega
  clear hn'
  refine (disk_new n' N w1 (by omega)).mono ?_
  rintro e w2 ⟨rfl, g, hD, hg, hB⟩
  have H2 := hid (DW.new HB1.out hD hg hB)
  clear hD hg hB
  generalize w1.heap.size = b at *
  go_wp2_with fail
  refine (ref4_new n' N w2 hN (by omega)).mono ?_
  rintro e w3 ⟨v, rfl, hR, hB3⟩
  have hD0 : (Dsk.new N).n = N := rfl
  generalize Dsk.new N = D0 at *
  obtain ⟨a1, c1, a2, c2, rfl⟩ := hR.vals hD0
  have H3 := hid (H2.out.below hB3)
  have hP : PlayAt w (w3.alloc (.cells #[.slice a1 N c1, .slice a2 N c2, .int .i64 D0.rl, .bool D0.dead] 52)) w3.heap.size b g D0 N a1 c1 a2 c2 D0.rl D0.dead := by
    have hW := H3.out.alloc (.cells #[.slice a1 N c1, .slice a2 N c2, .int .i64 D0.rl, .bool D0.dead] 52)
    exact ⟨hW.1, hW.2.1, hW.2.2, hR.below ((Below.refl _ w3).alloc (Nat.le_refl _) _), heap_new w3 _, by have := H3.out.g; omega, by have := H3.out.B; exact this, hD0⟩
  have HP := hid hP
  clear hR hB3 hP
  go_wp2_with fail
  change Code.wp _ _ _ _ (w3.alloc (.cells #[.slice a1 N c1, .slice a2 N c2, .int .i64 D0.rl, .bool D0.dead] 52))
  generalize w3.alloc (.cells #[.slice a1 N c1, .slice a2 N c2, .int .i64 D0.rl, .bool D0.dead] 52) = w4 at *
  generalize w3.heap.size = X at *
  go_loopw [5, 7, 8] (fun d ok i wr => ∃ (q b g : Nat) (D : Dsk) (a1 : Option Addr) (c1 : Nat) (a2 : Option Addr) (c2 : Nat) (r : Int) (de : Bool), q ≤ 50 ∧ i = .int .i64 q ∧ d = .pointer (some ⟨b, 0, none⟩) ∧ ok = .bool true ∧ PlayAt w wr X b g D N a1 c1 a2 c2 r de) (fun _ _ i _ => (50 - intOf i).toNat)
  case atStart => exact ⟨0, b, g, D0, a1, c1, a2, c2, _, _, by omega, rfl, rfl, rfl, HP.out⟩
  case round =>
    clear H2 H3 HP hD0
    obtain ⟨q, b, g, D, a1, c1, a2, c2, r, de, hq, rfl, rfl, rfl, hP⟩ := hrel
    have HP := hid hP
    clear hP
    by_cases hql : q < len ∧ q < 50
    · have d1 : decide (q < len) = true := by simp; omega
      have d2 : decide ((q : Int) < 50) = true := by simp; omega
      obtain ⟨ad, hadr, j0, j1, j2, j3, j4, hbl⟩ := HA.out.at (Below.refl _ w) hql.1
      have hcu : SliceOf w (E q).ca (E q).cl (E q).cc (fun k => .int .i64 ((E q).cu k)) := by
        obtain ⟨ad', _, h2⟩ := HA.out.reads (by omega)
        exact (h2 q hql.1).2.2.2.2.2
      have hcuts := cutsOf (wr := wr.drew) hcu HP.out.drew.hB HP.out.hD.hb HP.out.hD.hg
      subst hadr
      have hJ := And.intro j0 (And.intro j1 (And.intro j2 (And.intro j3 j4)))
      clear j0 j1 j2 j3 j4
      go_upto_region 8 with fail
      generalize (E q).s = s at *
      generalize (E q).at_ = z at *
      generalize (E q).kind = kind at *
      generalize (E q).n = an at *
      generalize (E q).ca = ca at *
      generalize (E q).cl = cl at *
      generalize (E q).cc = cc at *
      generalize (E q).cu = cu at *
      have hc := does_any wr.drew HP.out.drew.hD HP.out.drew.hg HP.out.drew.hR kind z an s ca cl cc cu hcuts
      have Hc := hid hc
      have HJ := hid hJ
      clear hJ
      have k0 := (HP.out.hB.cell (p := ad.add (q * 5)) hbl).trans HJ.out.1
      have k1 := (HP.out.hB.cell (p := ⟨(ad.add (q * 5)).block, (ad.add (q * 5)).off + 1, none⟩) hbl).trans HJ.out.2.1
      have k2 := (HP.out.hB.cell (p := ⟨(ad.add (q * 5)).block, (ad.add (q * 5)).off + 2, none⟩) hbl).trans HJ.out.2.2.1
      have k3 := (HP.out.hB.cell (p := ⟨(ad.add (q * 5)).block, (ad.add (q * 5)).off + 3, none⟩) hbl).trans HJ.out.2.2.2.1
      have k4 := (HP.out.hB.cell (p := ⟨(ad.add (q * 5)).block, (ad.add (q * 5)).off + 4, none⟩) hbl).trans HJ.out.2.2.2.2
      have x0 := cell_of_block HP.out.hX 0
      have x1 := cell_of_block HP.out.hX 1
      have x2 := cell_of_block HP.out.hX 2
      have x3 := cell_of_block HP.out.hX 3
      simp only [List.getElem?_toArray, List.getElem?_cons_zero, List.getElem?_cons_succ] at x0 x1 x2 x3
      have hbX : (ad.add (q * 5)).block ≠ X := by have := HP.out.hXw; omega
      have hbX' : X ≠ (ad.add (q * 5)).block := by have := HP.out.hXw; omega
      clear hc hcu hcuts
      refine wp_region_held_drew (S := (fun w' => w'.cell? (ad.add (q * 5)) = some (.int .i64 kind) ∧ w'.cell? ⟨(ad.add (q * 5)).block, (ad.add (q * 5)).off + 1, none⟩ = some (.int .i64 z) ∧ w'.cell? ⟨(ad.add (q * 5)).block, (ad.add (q * 5)).off + 2, none⟩ = some (.int .i64 an) ∧ w'.cell? ⟨(ad.add (q * 5)).block, (ad.add (q * 5)).off + 3, none⟩ = some (.string (S s)) ∧ w'.cell? ⟨(ad.add (q * 5)).block, (ad.add (q * 5)).off + 4, none⟩ = some (.slice ca cl cc))) (by kernel_rfl) ⟨k0, k1, k2, k3, k4⟩ (fun hHeld => ?_)
      refine wpAnyH_take (i := 0) (oi := _) (v := ?_) rfl (by kernel_rfl) (by kernel_rfl) (by kernel_rfl) (fun _ _ _ h => h) (Or.inl ⟨by rfl, ?_⟩) (by assumption) ?_
      rotate_left
      · intro w hSw
        try dsimp only at hSw
        go_simp
        try with_reducible rfl
      try simp only [Act.put, List.setIfInBounds_toArray, List.set_cons_zero, List.set_cons_succ, List.getElem_toArray, List.getElem_cons_zero]
      refine wpAnyH_take (i := 2) (oi := _) (v := ?_) rfl (by kernel_rfl) (by kernel_rfl) (by kernel_rfl) (fun _ _ _ h => h) (Or.inl ⟨by rfl, ?_⟩) (by assumption) ?_
      rotate_left
      · intro w hSw
        try dsimp only at hSw
        go_simp
        try with_reducible rfl
      try simp only [Act.put, List.setIfInBounds_toArray, List.set_cons_zero, List.set_cons_succ, List.getElem_toArray, List.getElem_cons_zero, List.getElem_cons_succ]
      refine wpAnyH_take (i := 3) (oi := _) (v := ?_) rfl (by kernel_rfl) (by kernel_rfl) (by kernel_rfl) (fun _ _ _ h => h) (Or.inl ⟨by rfl, ?_⟩) (by assumption) ?_
      rotate_left
      · intro w hSw
        try dsimp only at hSw
        go_simp
        try with_reducible rfl
      try simp only [Act.put, List.setIfInBounds_toArray, List.set_cons_zero, List.set_cons_succ, List.getElem_toArray, List.getElem_cons_zero, List.getElem_cons_succ]
      refine wpAnyH_take (i := 4) (oi := _) (v := ?_) rfl (by kernel_rfl) (by kernel_rfl) (by kernel_rfl) (fun _ _ _ h => h) (Or.inl ⟨by rfl, ?_⟩) (by assumption) ?_
      rotate_left
      · intro w hSw
        try dsimp only at hSw
        go_simp
        try with_reducible rfl
      try simp only [Act.put, List.setIfInBounds_toArray, List.set_cons_zero, List.set_cons_succ, List.getElem_toArray, List.getElem_cons_zero, List.getElem_cons_succ]
      refine wpAnyH_take (i := 5) (oi := _) (v := ?_) rfl (by kernel_rfl) (by kernel_rfl) (by kernel_rfl) (fun _ _ _ h => h) (Or.inl ⟨by rfl, ?_⟩) (by assumption) ?_
      rotate_left
      · intro w hSw
        try dsimp only at hSw
        go_simp
        try with_reducible rfl
      try simp only [Act.put, List.setIfInBounds_toArray, List.set_cons_zero, List.set_cons_succ, List.getElem_toArray, List.getElem_cons_zero, List.getElem_cons_succ]
      refine wpAnyH_ready (rs := [1]) (by kernel_rfl) (by simp) ?_
      refine AllReadyH.cons (o := _) rfl (fun K hK => ?_) AllReadyH.nil
      go_simp
      try dsimp only
      refine hK.out _ _ ?_ (fun hHeld => ?_)
      · exact ⟨k0, k1, k2, k3, k4⟩
      clear hK K
      try simp only [Act.put, List.setIfInBounds_toArray, List.set_cons_zero, List.set_cons_succ, List.getElem_toArray, List.getElem_cons_zero, List.getElem_cons_succ]
      refine wpAnyH_ready (rs := [6]) (by kernel_rfl) (by simp) ?_
      refine AllReadyH.cons (o := _) rfl (fun K hK => ?_) AllReadyH.nil
      go_simp
      go_at_call 23
      (with_reducible refine Hc.out.mono ?_)
      rintro e w5 hE5
      obtain ⟨b', g', v', D', rfl, hD5, hg5, hR5, hn5, hF5, ho5⟩ := hE5.open
      obtain ⟨a6, c6, a7, c7, rfl⟩ := hR5.vals (hn5.trans HP.out.hn)
      have hm5 := HP.out.drew.mid hF5
      have l0 := (hm5.2.cell (p := ad.add (q * 5)) hbl).trans HJ.out.1
      have l1 := (hm5.2.cell (p := ⟨(ad.add (q * 5)).block, (ad.add (q * 5)).off + 1, none⟩) hbl).trans HJ.out.2.1
      have l2 := (hm5.2.cell (p := ⟨(ad.add (q * 5)).block, (ad.add (q * 5)).off + 2, none⟩) hbl).trans HJ.out.2.2.1
      have l3 := (hm5.2.cell (p := ⟨(ad.add (q * 5)).block, (ad.add (q * 5)).off + 3, none⟩) hbl).trans HJ.out.2.2.2.1
      have l4 := (hm5.2.cell (p := ⟨(ad.add (q * 5)).block, (ad.add (q * 5)).off + 4, none⟩) hbl).trans HJ.out.2.2.2.2
      have y0 := cell_of_block hm5.1 0
      have y1 := cell_of_block hm5.1 1
      have y2 := cell_of_block hm5.1 2
      have y3 := cell_of_block hm5.1 3
      have yf0 := free_of_block hm5.1 0
      have yf1 := free_of_block hm5.1 1
      have yf2 := free_of_block hm5.1 2
      have yf3 := free_of_block hm5.1 3
      simp only [List.getElem?_toArray, List.getElem?_cons_zero, List.getElem?_cons_succ] at y0 y1 y2 y3
      have HD5 := hid hD5
      have Hg5 := hid hg5
      have HR5 := hid hR5
      have Hn5 := hid hn5
      have HF5 := hid hF5
      have Ho5 := hid ho5
      clear hD5 hg5 hR5 hn5 hF5 ho5 hm5
      clear hE5
      try dsimp only
      refine hK.out _ _ ?_ (fun hHeld => ?_)
      · exact ⟨l0, l1, l2, l3, l4⟩
      clear hK K
      try simp only [Act.put, List.setIfInBounds_toArray, List.set_cons_zero, List.set_cons_succ, List.getElem_toArray, List.getElem_cons_zero, List.getElem_cons_succ]
      refine wpAnyH_take (i := 7) (oi := _) (v := ?_) rfl (by kernel_rfl) (by kernel_rfl) (by kernel_rfl) (fun _ _ _ h => h) (Or.inl ⟨by rfl, ?_⟩) (by assumption) ?_
      rotate_left
      · intro w hSw
        try dsimp only at hSw
        go_simp
        try with_reducible rfl
      try simp only [Act.put, List.setIfInBounds_toArray, List.set_cons_zero, List.set_cons_succ, List.getElem_toArray, List.getElem_cons_zero, List.getElem_cons_succ]
      refine wpAnyH_take (i := 8) (oi := _) (v := ?_) rfl (by kernel_rfl) (by kernel_rfl) (by kernel_rfl) (fun _ _ _ h => h) (Or.inl ⟨by rfl, ?_⟩) (by assumption) ?_
      rotate_left
      · intro w hSw
        try dsimp only at hSw
        go_simp
        try with_reducible rfl
      try simp only [Act.put, List.setIfInBounds_toArray, List.set_cons_zero, List.set_cons_succ, List.getElem_toArray, List.getElem_cons_zero, List.getElem_cons_succ]
      refine wpAnyH_take (i := 9) (oi := _) (v := ?_) rfl (by kernel_rfl) (by kernel_rfl) (by kernel_rfl) (fun _ _ _ h => h) (Or.inl ⟨by rfl, ?_⟩) (by assumption) ?_
      rotate_left
      · intro w hSw
        try dsimp only at hSw
        go_simp
        try with_reducible rfl
      try simp only [Act.put, List.setIfInBounds_toArray, List.set_cons_zero, List.set_cons_succ, List.getElem_toArray, List.getElem_cons_zero, List.getElem_cons_succ]
      refine wpAnyH_take (i := 10) (oi := _) (v := ?_) rfl (by kernel_rfl) (by kernel_rfl) (by kernel_rfl) (fun _ _ _ h => h) (Or.inl ⟨by rfl, ?_⟩) (by assumption) ?_
      rotate_left
      · intro w hSw
        try dsimp only at hSw
        go_simp
        try with_reducible rfl
      try simp only [Act.put, List.setIfInBounds_toArray, List.set_cons_zero, List.set_cons_succ, List.getElem_toArray, List.getElem_cons_zero, List.getElem_cons_succ]
      refine wpAnyH_take (i := 11) (oi := _) (v := ?_) rfl (by kernel_rfl) (by kernel_rfl) (by kernel_rfl) (fun _ _ _ h => h) (Or.inl ⟨by rfl, ?_⟩) (by assumption) ?_
      rotate_left
      · intro w hSw
        try dsimp only at hSw
        go_simp
        try with_reducible rfl
      try simp only [Act.put, List.setIfInBounds_toArray, List.set_cons_zero, List.set_cons_succ, List.getElem_toArray, List.getElem_cons_zero, List.getElem_cons_succ]
      refine wpAnyH_ready (rs := [12]) (by kernel_rfl) (by simp) ?_
      refine AllReadyH.cons (o := _) rfl (fun K hK => ?_) AllReadyH.nil
      go_simp
      try dsimp only
      refine hK.out _ _ ?_ (fun hHeld => ?_)
      · exact ⟨cellSa (cellSa (cellSa (cellSa l0 (p := ⟨X, 0, none⟩) hbX' _) (p := ⟨X, 1, none⟩) hbX' _) (p := ⟨X, 2, none⟩) hbX' _) (p := ⟨X, 3, none⟩) hbX' _, cellS (cellS (cellS (cellS l1 (p := ⟨X, 0, none⟩) hbX' _) (p := ⟨X, 1, none⟩) hbX' _) (p := ⟨X, 2, none⟩) hbX' _) (p := ⟨X, 3, none⟩) hbX' _, cellS (cellS (cellS (cellS l2 (p := ⟨X, 0, none⟩) hbX' _) (p := ⟨X, 1, none⟩) hbX' _) (p := ⟨X, 2, none⟩) hbX' _) (p := ⟨X, 3, none⟩) hbX' _, cellS (cellS (cellS (cellS l3 (p := ⟨X, 0, none⟩) hbX' _) (p := ⟨X, 1, none⟩) hbX' _) (p := ⟨X, 2, none⟩) hbX' _) (p := ⟨X, 3, none⟩) hbX' _, cellS (cellS (cellS (cellS l4 (p := ⟨X, 0, none⟩) hbX' _) (p := ⟨X, 1, none⟩) hbX' _) (p := ⟨X, 2, none⟩) hbX' _) (p := ⟨X, 3, none⟩) hbX' _⟩
      clear hK K
      try simp only [Act.put, List.setIfInBounds_toArray, List.set_cons_zero, List.set_cons_succ, List.getElem_toArray, List.getElem_cons_zero, List.getElem_cons_succ]
      refine wpAnyH_take (i := 13) (oi := _) (v := ?_) rfl (by kernel_rfl) (by kernel_rfl) (by kernel_rfl) (fun _ _ _ h => h) (Or.inl ⟨by rfl, ?_⟩) (by assumption) ?_
      rotate_left
      · intro w hSw
        try dsimp only at hSw
        go_simp
        try with_reducible rfl
      try simp only [Act.put, List.setIfInBounds_toArray, List.set_cons_zero, List.set_cons_succ, List.getElem_toArray, List.getElem_cons_zero, List.getElem_cons_succ]
      refine wpAnyH_done (by kernel_rfl) ?_ _
      go_wp2_with fail
      exact ⟨⟨q + 1, b', g', D', a6, c6, a7, c7, _, _, by omega, by go_num, rfl, rfl, HP.out.drew.step HD5.out Hg5.out HR5.out Hn5.out HF5.out Ho5.out⟩, by simp [intOf]; omega⟩
    · by_cases hq1 : q < len
      case' pos =>
        have d1 : decide (q < len) = true := by simp; omega
        have d2 : decide ((q : Int) < 50) = false := by simp; omega
        go_upto_region 9 with fail
      case' neg =>
        have d1 : decide (q < len) = false := by simp; omega
        go_upto_region 9 with fail
      all_goals
        have x0 := cell_of_block HP.out.hX 0
        have x1 := cell_of_block HP.out.hX 1
        have x2 := cell_of_block HP.out.hX 2
        have x3 := cell_of_block HP.out.hX 3
        simp only [List.getElem?_toArray, List.getElem?_cons_zero, List.getElem?_cons_succ] at x0 x1 x2 x3
        have Hc1 := hid (disk_loose wr.drew HP.out.drew.hD)
        have Hc2 := hid (fun (w : World) (h : RefAt w (.agg #[.slice a1 N c1, .slice a2 N c2, .int .i64 r, .bool de]) D) => ref4_loose h HP.out.hD.small)
        have hll : (loose D).length ≤ 4096 := by have := looseTo_length D D.n; have := HP.out.hD.small; unfold loose; omega
        clear HA
        go_region_held3 (fun w' => w'.cell? ⟨X, 0, none⟩ = some (.slice a1 N c1) ∧ w'.cell? ⟨X, 1, none⟩ = some (.slice a2 N c2) ∧ w'.cell? ⟨X, 2, none⟩ = some (.int .i64 r) ∧ w'.cell? ⟨X, 3, none⟩ = some (.bool de))
          (first | go_keep | exact ⟨x0, x1, x2, x3⟩ | exact ⟨y0, y1, y2, y3⟩ | exact ⟨z0, z1, z2, z3⟩)
          (first
            | (go_at_call 21; (with_reducible refine Hc1.out.mono ?_); rintro e w5 ⟨lv, rfl, hO5, hB5⟩; obtain ⟨lo, lcap, rfl⟩ := shape_of hO5; have hP5 := HP.out.drew.below hB5; have y0 := cell_of_block hP5.hX 0; have y1 := cell_of_block hP5.hX 1; have y2 := cell_of_block hP5.hX 2; have y3 := cell_of_block hP5.hX 3; simp only [List.getElem?_toArray, List.getElem?_cons_zero, List.getElem?_cons_succ] at y0 y1 y2 y3; have HP5 := hid hP5; have HO5 := hid hO5; clear hP5 hO5 hB5)
            | (go_at_call 24; (with_reducible refine (Hc2.out w5 HP5.out.hR).mono ?_); rintro e w6 ⟨mv, rfl, hM6, hB6⟩; obtain ⟨mo, mcap, rfl⟩ := shape_of hM6; have hP6 := HP5.out.below hB6; have z0 := cell_of_block hP6.hX 0; have z1 := cell_of_block hP6.hX 1; have z2 := cell_of_block hP6.hX 2; have z3 := cell_of_block hP6.hX 3; simp only [List.getElem?_toArray, List.getElem?_cons_zero, List.getElem?_cons_succ] at z0 z1 z2 z3; have HP6 := hid hP6; have HM6 := hid hM6; have HO6 := hid (own_below HO5.out hB6); clear hP6 hM6 hB6))
        have hbs : w.heap.size ≤ w5.heap.size := HP5.out.hB.size
        have HL := hid (own_base HO6.out (show w.heap.size ≤ wr.drew.heap.size from HP.out.hB.size))
        have HM := hid (own_base HM6.out hbs)
        have HQ := HP6
        have hnD := HP.out.hn
        clear x0 x1 x2 x3 y0 y1 y2 y3 z0 z1 z2 z3 HP HP5 HP6 HO5 HO6 HM6 Hc1 Hc2 hbs
        go_wp2_with fail
        refine (disk_len w6 HQ.out.hD).mono ?_
        rintro e w7 ⟨rfl, hB7⟩
        have HQ7 := hid (HQ.out.below hB7)
        have HL7 := hid (own_below HL.out hB7)
        have HM7 := hid (own_below HM.out hB7)
        clear HQ HL HM hB7
        go_wp2_with fail
        go_loopw [69] (fun x wr => ∃ q : Nat, q ≤ (loose D).length ∧ x = .int .i64 q ∧ PlayAt w wr X b g D N a1 c1 a2 c2 r de ∧ wr.ownsRow w.heap.size 3 1 (.slice lo (loose D).length lcap) (loose D).length (natCells (loose D)) ∧ wr.ownsRow w.heap.size 3 1 (.slice mo (loose D).length mcap) (loose D).length (natCells (loose D))) (fun x _ => ((loose D).length - intOf x).toNat)
        case atStart => exact ⟨0, Nat.zero_le _, rfl, HQ7.out, HL7.out, HM7.out⟩
        case round =>
          clear HQ7 HL7 HM7
          obtain ⟨q2, hq2, rfl, hP, hL, hM⟩ := hrel
          by_cases hqN : q2 < (loose D).length
          · have d9 : decide (q2 < (loose D).length) = true := by simp; omega
            obtain ⟨rg, rc, hv, _, _⟩ := hL.form (by omega)
            obtain ⟨rm, rmc, hvm, _, _⟩ := hM.form (by omega)
            have hxc := hL
            rw [hv] at hxc
            have hx0 := hxc.cellAt q2 (by omega)
            have hxm := hM
            rw [hvm] at hxm
            have hy0 := hxm.cellAt q2 (by omega)
            obtain ⟨hi1, hi2⟩ := loose_get D hqN
            rw [hi2] at hx0 hy0
            cases hv
            cases hvm
            have HP := hid hP
            have HL := hid hL
            have HM := hid hM
            clear hP hL hM hxc hxm hi2
            generalize (loose D).getD q2 0 = i at *
            go_upto_region 15 with fail
            go_region_held3 (fun w' => w'.cell? ⟨rg, q2, none⟩ = some (.int .i64 (i : Int)) ∧ w'.cell? ⟨rm, q2, none⟩ = some (.int .i64 (i : Int)))
              (first | go_keep | exact ⟨hx0, hy0⟩) (fail)
            go_wp2_with fail
            exact ⟨⟨q2 + 1, by omega, by go_num, HP.out.drew, HL.out.drew, HM.out.drew⟩, by simp [intOf]; omega⟩
          · obtain rfl : q2 = (loose D).length := by omega
            have d9 : decide ((loose D).length < (loose D).length) = false := by simp
            have HP := hid hP
            clear hP hL hM
            go_wp2_with fail
            refine (disk_crash wr HP.out.hD none 0 0 (fun _ => 0) (CutsAt.none _ _ _ _ _)).mono ?_
            rintro e w8 ⟨rfl, hE8⟩
            have hm8 := HP.out.mid hE8.2
            have hR8 := HP.out.hR.disk rfl HP.out.hD hE8.2
            have hn8 : (D.crash 0 (fun _ => 0)).n = D.n := tearN_n D (cutAt 0 (fun _ => 0)) (loose D) _
            have hc8 := (ref4_crash hR8 HP.out.hD.small HP.out.hD.len none 0 0 (fun _ => 0) (fun h => absurd h (Nat.lt_irrefl _)))
            have hdd : (D.crash 0 (fun _ => 0)).dead = false := rfl
            generalize D.crash 0 (fun _ => 0) = D2 at *
            have Hc8 := hid hc8
            have HE8 := hid hE8
            have Hdd := hid hdd
            have Hn8 := hid hn8
            have Hm8 := hid hm8.1
            have x0 := cell_of_block hm8.1 0
            have x1 := cell_of_block hm8.1 1
            have x2 := cell_of_block hm8.1 2
            have x3 := cell_of_block hm8.1 3
            simp only [List.getElem?_toArray, List.getElem?_cons_zero, List.getElem?_cons_succ] at x0 x1 x2 x3
            clear hm8 hR8 hc8 hE8 hdd hn8
            go_wp2_with fail
            refine Hc8.out.mono ?_
            rintro e w9 ⟨v9, rfl, hR9, hB9⟩
            obtain ⟨a6, c6, a7, c7, rfl⟩ := hR9.vals (Hn8.out.trans HP.out.hn)
            have hX9 := (hB9.block X (lt_of_block Hm8.out)).trans Hm8.out
            have y0 := cell_of_block hX9 0
            have y1 := cell_of_block hX9 1
            have y2 := cell_of_block hX9 2
            have y3 := cell_of_block hX9 3
            simp only [List.getElem?_toArray, List.getElem?_cons_zero, List.getElem?_cons_succ] at y0 y1 y2 y3
            have yf0 := free_of_block hX9 0
            have yf1 := free_of_block hX9 1
            have yf2 := free_of_block hX9 2
            have yf3 := free_of_block hX9 3
            have hst := HP.out.step (HE8.out.1.below hB9) (by have := HP.out.hg; have := HE8.out.2.size; have := hB9.size; omega) hR9 Hn8.out (HE8.out.2.trans (Fr.ofBelow hB9 (dfoot b g)) (fun _ _ h => h)) (.inl ⟨rfl, rfl⟩)
            have HS := hid hst
            clear hst hR9 hB9 hX9 x0 x1 x2 x3 Hc8
            go_wp2_with fail
            generalize ((((w9.setCell ⟨X, 0, none⟩ (.slice a6 N c6)).setCell ⟨X, 1, none⟩ (.slice a7 N c7)).setCell ⟨X, 2, none⟩ (.int .i64 D2.rl)).setCell ⟨X, 3, none⟩ (.bool D2.dead)) = w10 at *
            clear y0 y1 y2 y3 yf0 yf1 yf2 yf3
            refine (disk_len w10 HS.out.hD).mono ?_
            rintro e w11 ⟨rfl, hB11⟩
            have HS11 := hid (HS.out.below hB11)
            rw [HS.out.hn]
            clear HS hB11
            go_wp2_with fail
            go_loopw [88] (fun x wr => ∃ q : Nat, q ≤ N ∧ x = .int .i64 q ∧ PlayAt w wr X b g D2 N a6 c6 a7 c7 D2.rl D2.dead) (fun x _ => (N - intOf x).toNat)
            case atStart => exact ⟨0, Nat.zero_le _, rfl, HS11.out⟩
            case round =>
              clear HS11
              obtain ⟨q3, hq3, rfl, hP3⟩ := hrel
              by_cases hq3N : q3 < N
              · have d10 : decide (q3 < N) = true := by simp; omega
                have hr3 := lread_any (q3 : Int) wr hP3.hD
                have hro : ¬ D2.out (q3 : Int) := by unfold Dsk.out; have := hP3.hn; omega
                have hrd : ¬ D2.dead = true := by rw [Hdd.out]; decide
                rw [show D2.rErr q3 = 0 by unfold Dsk.rErr; rw [if_neg hrd, if_neg hro], show D2.rText q3 = D2.now q3 by unfold Dsk.rText; rw [if_neg hrd, if_neg hro, Int.toNat_natCast]] at hr3
                have Hr3 := hid hr3
                have HP3 := hid hP3
                clear hr3 hP3 hro hrd
                go_wp2_with fail
                (with_reducible refine Hr3.out.mono ?_)
                rintro e w12 ⟨rfl, hB12⟩
                have hP12 := HP3.out.below hB12
                obtain ⟨g7, cur7, e7, hg7, hc7⟩ := hP12.hR.rows.2 (by omega)
                subst e7
                have u1 := cell_of_block hP12.hX 1
                have u2 := cell_of_block hg7 q3
                rw [hc7 q3 hq3N] at u2
                simp only [List.getElem?_toArray, List.getElem?_cons_zero, List.getElem?_cons_succ] at u1
                have HP12 := hid hP12
                clear hP12 hg7 hc7 hB12 Hr3
                go_wp2_with fail
                exact ⟨⟨q3 + 1, by omega, by go_num, HP12.out⟩, by simp [intOf]; omega⟩
              · obtain rfl : q3 = N := by omega
                have d10 : decide (q3 < q3) = false := by simp
                have HP3 := hid hP3
                clear hP3
                go_wp2_with fail
                go_ret
                exact ⟨rfl, HP3.out.hB⟩
end Go.Proofs.Ytkmbbgnbklklcaa
