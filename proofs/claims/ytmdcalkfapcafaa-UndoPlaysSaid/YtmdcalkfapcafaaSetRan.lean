/-
  undo.Set as a step from state to state.
-/
import Derived.Test.YtmdcalkfapcafaaTry
import Derived.Test.YtmdcalkfapcafaaSetInt
namespace Go.Proofs.Ytmdcalkfapcafaa
open Go.RowKit

theorem setInt_zero (b base : Nat) (v : Value) (fs : List Value) (p : Addr) (x : Int) (y : Int) (w : World) (h : LogAt w b base v fs 0) (hp : w.cell? p = some (.int .i64 x)) (hf : w.frozen? p = false) (hsp : p.spot = none) :
    Calls Try.prog 35 #[.pointer (some ⟨b, 0, none⟩), .pointer (some p), (.int .i64 y)] w fun e w' => e = .returned (.tuple #[]) ∧
      ((w.setCell p (.int .i64 y)).alloc (.cells #[.pointer (some p)] 72)).alloc (.cells #[(.int .i64 x)] 3) = w' := by
  obtain ⟨pb, po, ps⟩ := p
  simp only [] at hsp
  subst hsp
  have hb := h.lt
  have hpl := World.block_lt_of_cell? _ _ hp
  simp only [] at hpl
  have H := hid h
  clear h
  go_enter Try.func35, Try.ntmps35
  go_wp2_with fail
  have hLa : LogAt ((w.alloc (.cells #[.pointer (some ⟨pb, po, none⟩)] 72)).alloc (.cells #[(.int .i64 x)] 3)) b base v fs 0 := H.out.fr (((Fr.refl (fun _ => False) w).alloc _).alloc _) id (fun _ _ => id)
  refine (back_idle b base v fs _ _ hLa).mono ?_
  rintro e w2 ⟨rfl, rfl⟩
  clear hLa
  go_wp2
  go_end0
  exact ⟨rfl, rfl⟩

section
variable {κ σ : Type} (b : Nat) (D : Nat → Prop) (Inv : κ → σ → World → Prop)
/-- Where a number of the state lies. -/
structure Var (p : Addr) (get : σ → Int) (put : σ → Int → σ) : Prop where
  spot : p.spot = none
  inD : D p.block
  far : p.block = b → 2 ≤ p.off
  hget : ∀ K s w, Inv K s w → w.cell? p = some (.int .i64 (get s)) ∧ w.frozen? p = false
  hput : ∀ K s w y, Inv K s w → Inv K (put s y) (w.setCell p (.int .i64 y))
  hback : ∀ s y, put (put s y) (get s) = s
variable {b D Inv}
theorem Var.same {p : Addr} {get : σ → Int} {put : σ → Int → σ} (h : Var b D Inv p get put) (w : World) (x : Value) : LogSame b w (w.setCell p x) := by
  have hn : ∀ o, o < 2 → p ≠ ⟨b, o, none⟩ := by
    rintro o ho rfl
    have := h.far rfl
    simp at this
    omega
  exact ⟨World.cell?_setCell_other _ _ _ _ (hn 0 (by omega)), World.cell?_setCell_other _ _ _ _ (hn 1 (by omega)), World.frozen?_setCell _ _ _ _, World.frozen?_setCell _ _ _ _⟩
end

theorem setInt_ran {κ σ : Type} (b base : Nat) (D : Nat → Prop) (Inv : κ → σ → World → Prop) (hI : Stable b D Inv) (p : Addr) (get : σ → Int) (put : σ → Int → σ) (hV : Var b D Inv p get put)
    (v : Value) (fs : List Value) (d : Nat) (w : World) (K : κ) (s1 : σ) (y : Int) (h : LogAt w b base v fs d) (hl : fs.length ≤ 1000000) (hbase : base ≤ w.heap.size) (hD : ∀ k, D k → k < w.heap.size) (hDv : ∀ k, some k = v.ownBlock → ¬ D k) (hs : Inv K s1 w) :
    Calls Try.prog 35 #[.pointer (some ⟨b, 0, none⟩), .pointer (some p), (.int .i64 y)] w fun e w' => e = .returned (.tuple #[]) ∧
      ∃ rs v', rs.length ≤ 1 ∧ Ran b base D Inv v fs d s1 w w' K (put s1 y) rs v' := by
  have hg := hV.hget K s1 w hs
  have hb := h.lt
  by_cases hd : d = 0
  · subst hd
    refine (setInt_zero b base v fs p _ y w h hg.1 hg.2 hV.spot).mono ?_
    rintro e w' ⟨rfl, rfl⟩
    have hL1 := h.same (D := D) ((Fr.refl _ _).setCell (fun _ => hV.inD) (.int .i64 y)) (hV.same w _) hDv
    have hs1 := hV.hput K s1 w y hs
    have hF := ((Fr.refl (fun _ => False) (w.setCell p (.int .i64 y))).alloc (.cells #[.pointer (some p)] 72)).alloc (.cells #[(.int .i64 (get s1))] 3)
    have hL := hL1.fr hF id (fun _ _ => id)
    refine ⟨rfl, [], v, by simp, ⟨by simpa using hL, LMoved.refl _ _, fun _ => rfl, fun h => by omega, hI K _ _ _ hs1 (fun k hk _ => hF.block k (by simpa using hD k hk) id) (fun o _ => ?_), (fun r hr => by cases hr), (fun r hr => by cases hr), (((Fr.refl _ _).setCell (fun _ => .inl hV.inD) _).alloc _).alloc _⟩⟩
    have hB := hF.block b (by simpa using hb) id
    exact ⟨World.cell?_of_block (a := ⟨b, o, none⟩) hB, World.frozen?_of_block (a := ⟨b, o, none⟩) hB⟩
  · have hpb : p.block ≠ b ∨ 1 < p.off := by
      by_cases e : p.block = b
      · exact .inr (hV.far e)
      · exact .inl e
    refine (setInt_some b base v fs d p _ y w h (by omega) hl hbase hg.1 hg.2 hpb hV.spot (fun e => hDv _ e.symm hV.inD)).mono ?_
    rintro e w' ⟨rfl, v', bw, ba, w1, hL, hM, hF, hbw, hba, kw, ka, hR, nw, na, rfl⟩
    have hDn : ∀ k, w.heap.size ≤ k → ¬ D k := fun k hk hd => by have := hD k hd; omega
    have hDv' : ∀ k, some k = v'.ownBlock → ¬ D k := fun k hk hd => by
      rcases hM k hk.symm with e | e
      · exact hDv k e.symm hd
      · exact hDn k e hd
    have hs1 : Inv K s1 w1 := hI K s1 _ _ hs (fun k hk hkb => hF.block k (hD k hk) (fun h => h.elim hkb (fun e => hDv k e hk))) (fun o ho => hR o (by omega))
    refine ⟨rfl, [⟨47, #[.pointer (some ⟨bw, 0, none⟩), .pointer (some ⟨ba, 0, none⟩)], [(bw, .cells #[(.int .i64 (get s1))] 3), (ba, .cells #[.pointer (some p)] 72)]⟩], v', by simp, ⟨hL.same (D := D) ((Fr.refl _ _).setCell (fun _ => hV.inD) _) (hV.same _ _) hDv', hM, fun h => by omega, fun _ K => ?_, hV.hput _ _ _ _ hs1, ?_, ?_, ?_⟩⟩
    · refine Chain.snoc (rs := []) (.nil s1) ⟨?_, setInt_enters _ _, ?_⟩
      · intro q hq
        simp at hq
        rcases hq with rfl | rfl
        · exact ⟨hDn _ hbw, by simp only []; omega⟩
        · exact ⟨hDn _ hba, by simp only []; omega⟩
      · intro w2 hs2 hok
        have hg2 := hV.hget K _ w2 hs2
        refine (setInt_undo bw ba p (get s1) _ w2 (hok (bw, _) (by simp)) (hok (ba, _) (by simp)) hg2.1 hg2.2).mono ?_
        rintro e w3 ⟨rfl, rfl⟩
        refine ⟨⟨_, rfl⟩, ?_, (Fr.refl _ _).setCell (fun _ => hV.inD) _, hV.same _ _⟩
        have := hV.hput K _ w2 (get s1) hs2
        rwa [hV.hback] at this
    · intro r hr
      simp at hr
      subst hr
      refine ⟨fun q hq => ?_, fun q hq => ?_⟩
      · simp at hq
        have hne : ∀ k, w.heap.size ≤ k → k ≠ p.block := fun k hk e => hDn k hk (e ▸ hV.inD)
        rcases hq with rfl | rfl
        · exact heap_set_other kw (hne _ hbw) _
        · exact heap_set_other ka (hne _ hba) _
      · simp at hq
        rcases hq with rfl | rfl
        · exact nw
        · exact na
    · intro r hr q hq
      simp at hr
      subst hr
      simp at hq
      rcases hq with rfl | rfl
      · exact hbw
      · exact hba
    · exact (hF.mono (fun i _ h => .inr h)).setCell (fun _ => .inl hV.inD) _

end Go.Proofs.Ytmdcalkfapcafaa
