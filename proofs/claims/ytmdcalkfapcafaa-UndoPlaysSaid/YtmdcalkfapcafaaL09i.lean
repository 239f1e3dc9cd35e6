/-
  Law 09: UndoPlays: a Try of what follows, out of a run of what follows.
-/
import Derived.Test.YtmdcalkfapcafaaL09h
namespace Go.Proofs.Ytmdcalkfapcafaa
open Go.RowKit

theorem Ran.turn {κ σ : Type} {b base : Nat} {D : Nat → Prop} {Inv : κ → σ → World → Prop} {v : Value} {fs : List Value} {d : Nat} {s : σ} {w w' : World} {K : κ} (h : LogAt w b base v fs d) (hI : Inv K s w') (hF : Fr D w w') (hS : LogSame b w w') (hDv : ∀ k, some k = v.ownBlock → ¬ D k) :
    Ran b base D Inv v fs d s w w' K s [] v :=
  ⟨by simpa using h.same hF hS hDv, LMoved.refl _ _, fun _ => rfl, fun _ _ => .nil s, hI, (fun r hr => by cases hr), (fun r hr => by cases hr), hF.mono (fun _ _ h => .inl h)⟩

/-- All that a run stands on. -/
structure PAt (b bm base : Nat) (A : Option Addr) (bl cap : Nat) (l : List ActN) (v : Value) (fs : List Value) (d : Nat) (K : Nat × Nat) (s : C4 × DataW Unit) (w : World) : Prop where
  log : LogAt w b base v fs d
  inv : PInv b bm K s w
  acts : ActsAt w A bl cap l
  ob : b < base
  om : bm < base
  ol : bl < base
  n1 : bm ≠ b
  n2 : bl ≠ b
  n3 : bl ≠ bm
  bs : base ≤ w.heap.size
  link : Link s
  size : Maps.size s.2 ≤ K.1
  fsl : fs.length ≤ 2 * K.1
  dle : d ≤ K.1
  trys : K.2 ≤ K.1
  at' : K.1 ≤ l.length
  hz : d = 0 → fs = []
theorem PAt.hDv {b bm base : Nat} {A : Option Addr} {bl cap : Nat} {l : List ActN} {v : Value} {fs : List Value} {d : Nat} {K : Nat × Nat} {s : C4 × DataW Unit} {w : World} (h : PAt b bm base A bl cap l v fs d K s w) : ∀ k, some k = v.ownBlock → ¬ PD b bm k := by
  intro k hk hd
  have h1 := (h.log.own.lt k hk.symm).1
  have h2 := h.ob
  have h3 := h.om
  rcases hd with hd | hd <;> omega
/-- What a run leaves beside its ending. -/
structure PLeft (b bm base : Nat) (l : List ActN) (v : Value) (fs : List Value) (d : Nat) (K : Nat × Nat) (s : C4 × DataW Unit) (w : World) (K' : Nat × Nat) (s' : C4 × DataW Unit) (rs : List Rec) (v' : Value) (w' : World) : Prop where
  ran : Ran b base (PD b bm) (PInv b bm) v fs d s w w' K' s' rs v'
  link : Link s'
  size : Maps.size s'.2 ≤ K'.1
  rsl : rs.length + 2 * K.1 ≤ 2 * K'.1
  trys : K'.2 ≤ K'.1
  at' : K.1 ≤ K'.1 ∧ K'.1 ≤ l.length
theorem PAt.step {b bm base : Nat} {A : Option Addr} {bl cap : Nat} {l : List ActN} {v : Value} {fs : List Value} {d : Nat} {K : Nat × Nat} {s : C4 × DataW Unit} {w : World} (h : PAt b bm base A bl cap l v fs d K s w)
    {K' : Nat × Nat} {s' : C4 × DataW Unit} {rs : List Rec} {v' : Value} {w' : World} (hL : PLeft b bm base l v fs d K s w K' s' rs v' w') : PAt b bm base A bl cap l v' (fs ++ rs.map Rec.fn) d K' s' w' := by
  have hR := hL.ran
  refine ⟨hR.log, hR.inv, h.acts.fr fun hlt => hR.fr.block bl hlt fun hx => ?_, h.ob, h.om, h.ol, h.n1, h.n2, h.n3, Nat.le_trans h.bs hR.fr.size, hL.link, hL.size, ?_, ?_, hL.trys, hL.at'.2, fun hd => ?_⟩
  · rcases hx with (hx | hx) | hx | hx
    · exact h.n3 hx
    · exact h.n2 hx
    · exact h.n2 hx
    · have := (h.log.own.lt bl hx.symm).1
      have := h.ol
      omega
  · have h1 := h.fsl
    have h2 := hL.rsl
    have h3 := hL.at'.1
    rw [List.length_append, List.length_map]
    omega
  · exact Nat.le_trans h.dle hL.at'.1
  · rw [h.hz hd, hR.zero hd]; rfl
theorem PLeft.trans {b bm base : Nat} {l : List ActN} {v v1 v2 : Value} {fs : List Value} {d : Nat} {K K1 K2 : Nat × Nat} {s s1 s2 : C4 × DataW Unit} {w w1 w2 : World} {rs qs : List Rec} (h : PLeft b bm base l v fs d K s w K1 s1 rs v1 w1) (k : PLeft b bm base l v1 (fs ++ rs.map Rec.fn) d K1 s1 w1 K2 s2 qs v2 w2) :
    PLeft b bm base l v fs d K s w K2 s2 (rs ++ qs) v2 w2 := by
  refine ⟨h.ran.trans k.ran, k.link, k.size, ?_, k.trys, Nat.le_trans h.at'.1 k.at'.1, k.at'.2⟩
  have h1 := h.rsl
  have h2 := k.rsl
  rw [List.length_append]
  omega

def RunPost (b bm base : Nat) (l : List ActN) (v : Value) (fs : List Value) (d : Nat) (K : Nat × Nat) (s : C4 × DataW Unit) (st : List C4) (w : World) (e : Ending) (w' : World) : Prop :=
  ∃ K' s' rs v', PLeft b bm base l v fs d K s w K' s' rs v' w' ∧ RunEnd l K.1 s.1 st d K'.1 s'.1 e
def RunSaid (b bm base : Nat) (A : Option Addr) (bl cap : Nat) (l : List ActN) (m : Nat) : Prop :=
  ∀ (v : Value) (fs : List Value) (d : Nat) (K : Nat × Nat) (s : C4 × DataW Unit) (st : List C4) (w : World), PAt b bm base A bl cap l v fs d K s w → st.length = d → l.length - K.1 ≤ m →
    Calls Try.prog 28 #[.pointer (some ⟨b, 0, none⟩), .slice A l.length cap] w (RunPost b bm base l v fs d K s st w)
def TrySaid (b bm base : Nat) (A : Option Addr) (bl cap : Nat) (l : List ActN) (m : Nat) : Prop :=
  ∀ (v : Value) (fs : List Value) (d : Nat) (K : Nat × Nat) (s : C4 × DataW Unit) (st : List C4) (w : World), PAt b bm base A bl cap l v fs d K s w → K.2 + 1 ≤ K.1 → d + 1 ≤ K.1 → st.length = d → l.length - K.1 ≤ m →
    Calls Try.prog 45 #[.pointer (some ⟨b, 0, none⟩), .slice A l.length cap] w fun e w' => e = .returned (.tuple #[]) ∧
      ∃ K' s' rs v', PLeft b bm base l v fs d K s w K' s' rs v' w' ∧ playFrom (l.drop K.1) s.1 (s.1 :: st) = playFrom (l.drop K'.1) s'.1 st

theorem enters_try1 (a c d : Value) : Enters 52 #[a, c, d] := fun w => by kernel_rfl

/-- A number of the world beside its state is another one. -/
theorem PInv.turn {b bm : Nat} {K K' : Nat × Nat} {s : C4 × DataW Unit} {w : World} (h : PInv b bm K s w) (hb : bm ≠ b) (o : Nat) (x : Int) (ho : (o = 7 ∧ K' = (x.toNat, K.2) ∧ 0 ≤ x) ∨ (o = 9 ∧ K' = (K.1, x.toNat) ∧ 0 ≤ x)) : PInv b bm K' s (w.setCell ⟨b, o, none⟩ (.int .i64 x)) := by
  have hne : ∀ i, i ≠ o → (w.setCell ⟨b, o, none⟩ (.int .i64 x)).cell? ⟨b, i, none⟩ = w.cell? ⟨b, i, none⟩ := fun i hi => World.cell?_setCell_other _ _ _ _ (fun e => hi (by injection e; omega))
  refine ⟨fun i hi => (hne _ (by omega)).trans (h.cells i hi), (hne 6 (by omega)).trans h.tab, ?_, (hne 8 (by omega)).trans h.fine, ?_, fun i hi => frzS (h.free i hi) _, h.own.same (Below.heap_setCell _ _ _ _ hb), h.size⟩
  · rcases ho with ⟨rfl, rfl, hx⟩ | ⟨rfl, rfl, hx⟩
    · rw [World.cell?_setCell_same _ _ _ h.at', Int.toNat_of_nonneg hx]
    · exact (hne 7 (by omega)).trans h.at'
  · rcases ho with ⟨rfl, rfl, hx⟩ | ⟨rfl, rfl, hx⟩
    · exact (hne 9 (by omega)).trans h.trys
    · rw [World.cell?_setCell_same _ _ _ h.trys, Int.toNat_of_nonneg hx]
theorem PAt.turn {b bm base : Nat} {A : Option Addr} {bl cap : Nat} {l : List ActN} {v : Value} {fs : List Value} {d : Nat} {K K' : Nat × Nat} {s : C4 × DataW Unit} {w : World} (h : PAt b bm base A bl cap l v fs d K s w) (o : Nat) (x : Int)
    (ho : (o = 7 ∧ K' = (x.toNat, K.2) ∧ 0 ≤ x) ∨ (o = 9 ∧ K' = (K.1, x.toNat) ∧ 0 ≤ x)) (h1 : K.1 ≤ K'.1) (h2 : K'.1 ≤ l.length) (h3 : K'.2 ≤ K'.1) : PLeft b bm base l v fs d K s w K' s [] v (w.setCell ⟨b, o, none⟩ (.int .i64 x)) := by
  have hS : LogSame b w (w.setCell ⟨b, o, none⟩ (.int .i64 x)) := by
    have h0 : o ≠ 0 ∧ o ≠ 1 := by omega
    exact ⟨World.cell?_setCell_other _ _ _ _ (fun e => h0.1 (by injection e)), World.cell?_setCell_other _ _ _ _ (fun e => h0.2 (by injection e)), World.frozen?_setCell _ _ _ _, World.frozen?_setCell _ _ _ _⟩
  exact ⟨Ran.turn h.log (h.inv.turn h.n1 o x ho) ((Fr.refl _ _).setCell (p := ⟨b, o, none⟩) (fun _ => .inr rfl) _) hS h.hDv, h.link, Nat.le_trans h.size h1, by simp; omega, h3, h1, h2⟩

theorem PAt.still {b bm base : Nat} {A : Option Addr} {bl cap : Nat} {l : List ActN} {v : Value} {fs : List Value} {d : Nat} {K : Nat × Nat} {s : C4 × DataW Unit} {w w' : World} (h : PAt b bm base A bl cap l v fs d K s w) (hF : Fr (fun _ => False) w w') :
    PLeft b bm base l v fs d K s w K s [] v w' := by
  have hb := hF.block b h.log.lt id
  refine ⟨Ran.turn h.log (pInv_stable b bm h.n1 K s w w' h.inv (fun k hk _ => hF.block k ?_ id) (fun o _ => ⟨World.cell?_of_block (a := ⟨b, o, none⟩) hb, World.frozen?_of_block (a := ⟨b, o, none⟩) hb⟩)) (hF.mono (fun _ _ h => h.elim)) (LogSame.ofBlock hb) h.hDv, h.link, h.size, by simp, h.trys, Nat.le_refl _, h.at'⟩
  have h1 := h.bs
  have h2 := h.ob
  have h3 := h.om
  rcases hk with hk | hk <;> omega

theorem PAt.same {b bm base : Nat} {A : Option Addr} {bl cap : Nat} {l : List ActN} {v : Value} {fs : List Value} {d : Nat} {K : Nat × Nat} {s : C4 × DataW Unit} {w w' : World} (h : PAt b bm base A bl cap l v fs d K s w) (hF : Fr (fun k => k = b) w w')
    (hS : ∀ o, w'.cell? ⟨b, o, none⟩ = w.cell? ⟨b, o, none⟩ ∧ w'.frozen? ⟨b, o, none⟩ = w.frozen? ⟨b, o, none⟩) : PLeft b bm base l v fs d K s w K s [] v w' := by
  refine ⟨Ran.turn h.log (pInv_stable b bm h.n1 K s w w' h.inv (fun k hk hkb => hF.block k ?_ hkb) (fun o _ => hS o)) (hF.mono (fun _ _ h => .inr h)) ⟨(hS 0).1, (hS 1).1, (hS 0).2, (hS 1).2⟩ h.hDv, h.link, h.size, by simp, h.trys, Nat.le_refl _, h.at'⟩
  have h1 := h.bs
  have h2 := h.ob
  have h3 := h.om
  rcases hk with hk | hk <;> omega
theorem fine_same {w : World} {b : Nat} (h : w.cell? ⟨b, 8, none⟩ = some (.bool true)) : Fr (fun k => k = b) w (w.setCell ⟨b, 8, none⟩ (.bool true)).drew.drew ∧
    ∀ o, (w.setCell ⟨b, 8, none⟩ (.bool true)).drew.drew.cell? ⟨b, o, none⟩ = w.cell? ⟨b, o, none⟩ ∧ (w.setCell ⟨b, 8, none⟩ (.bool true)).drew.drew.frozen? ⟨b, o, none⟩ = w.frozen? ⟨b, o, none⟩ := by
  refine ⟨((Fr.refl (fun k => k = b) w).setCell (p := ⟨b, 8, none⟩) (fun _ => rfl) _).drew.drew, fun o => ⟨?_, World.frozen?_setCell _ _ _ _⟩⟩
  by_cases ho : o = 8
  · subst ho
    exact (World.cell?_setCell_same w ⟨b, 8, none⟩ (.bool true) h).trans h.symm
  · exact World.cell?_setCell_other _ _ _ _ (fun e => ho (by injection e; omega))

/-- What a Try of what follows leaves, if what runs returned; n: how many steps were remembered. -/
def TryOk (l : List ActN) (K : Nat × Nat) (s : C4 × DataW Unit) (st : List C4) (K' : Nat × Nat) (s' : C4 × DataW Unit) (n : Nat) : Prop :=
  Link s' ∧ Maps.size s'.2 ≤ K'.1 ∧ n + 2 * K.1 ≤ 2 * K'.1 ∧ K'.2 ≤ K'.1 ∧ K.1 ≤ K'.1 ∧ K'.1 ≤ l.length ∧ playFrom (l.drop K.1) s.1 (s.1 :: st) = playFrom (l.drop K'.1) s'.1 st
def TryBad (l : List ActN) (K : Nat × Nat) (s : C4 × DataW Unit) (st : List C4) (c : Int) (K' : Nat × Nat) : Prop :=
  c = 4 ∧ K'.2 ≤ K'.1 ∧ K.1 < K'.1 ∧ K'.1 ≤ l.length ∧ (∀ h : K'.1 - 1 < l.length, l[K'.1 - 1].kind = 4) ∧ playFrom (l.drop K.1) s.1 (s.1 :: st) = playFrom (l.drop K'.1) s.1 st

theorem call_try (b bm base : Nat) (A : Option Addr) (bl cap : Nat) (l : List ActN) (m : Nat) (hrun : RunSaid b bm base A bl cap l m) (v : Value) (fs : List Value) (d : Nat) (K : Nat × Nat) (s : C4 × DataW Unit) (st : List C4) (w : World)
    (h : PAt b bm base A bl cap l v fs d K s w) (hd : d + 1 ≤ K.1) (hst : st.length = d) (hm : l.length - K.1 ≤ m) (bw bd bs : Nat) (hw : w.heap[bw]? = some (.cells #[.pointer (some ⟨b, 0, none⟩)] 56 (0, 0))) (hdd : w.heap[bd]? = some (.cells #[.int .i64 d] 3 (0, 0)))
    (hs : w.heap[bs]? = some (.cells #[.slice A l.length cap] 54 (0, 0))) (n1 : bw ≠ b) (n2 : bd ≠ b) (n3 : bs ≠ b) :
    Calls Try.prog 16 #[.pointer (some ⟨b, 0, none⟩), .func (.func 52) #[] #[.pointer (some ⟨bw, 0, none⟩), .pointer (some ⟨bd, 0, none⟩), .pointer (some ⟨bs, 0, none⟩)]] w fun e w' =>
      ∃ (c : Int) (K' : Nat × Nat) (s' : C4 × DataW Unit) (rs : List Rec) (v' : Value), e = .returned (.int .i64 c) ∧ PLeft b bm base l v fs d K s w K' s' rs v' w' ∧ playFrom (l.drop K.1) s.1 (s.1 :: st) = playFrom (l.drop K'.1) s'.1 st ∧
        (c = 0 ∨ c = 4 ∧ ∀ h : K'.1 - 1 < l.length, l[K'.1 - 1].kind = 4) := by
  have hlen := h.acts.len
  have hat := h.at'
  have hD : ∀ k, PD b bm k → k < w.heap.size := by
    have h1 := h.bs
    have h2 := h.ob
    have h3 := h.om
    rintro k (hk | hk) <;> omega
  refine (try_ranR b base (PD b bm) (PInv b bm) (pInv_stable b bm h.n1) v fs d _ _ w s h.log (by omega) h.hz hD h.hDv (enters_try1 _ _ _) (TryOk l K s st)
    (fun K' s' n n' hn ho => ⟨ho.1, ho.2.1, by have := ho.2.2.1; omega, ho.2.2.2⟩) (TryBad l K s st) ?_).mono ?_
  · intro w1 hL1 hF1 hR1
    have hI1 : PInv b bm K s w1 := pInv_stable b bm h.n1 K s w w1 h.inv (fun k hk hkb => hF1.block k (hD k hk) hkb) hR1
    refine try1_fine b bm bw bd bs base A l.length cap v fs d K s w1 hL1 hI1 (hF1.heap hw n1) (hF1.heap hdd n2) (hF1.heap hs n3) (by omega) _ ?_
    intro w2 hF2 hS2
    have hLS : LogSame b w1 w2 := ⟨(hS2 0).1, (hS2 1).1, (hS2 0).2, (hS2 1).2⟩
    have hrow : ∀ k, some k = v.ownBlock → ¬ k = b := fun k hk e => h.hDv k hk (.inr e)
    have hL2 : LogAt w2 b base v fs (d + 1) := hL1.same hF2 hLS hrow
    have hI2 : PInv b bm K s w2 := pInv_stable b bm h.n1 K s w1 w2 hI1 (fun k hk hkb => hF2.block k (by have := hD k hk; have := hF1.size; omega) hkb) (fun o _ => hS2 o)
    have hA2 : PAt b bm base A bl cap l v fs (d + 1) K s w2 := ⟨hL2, hI2, (h.acts.fr (fun hlt => hF1.block bl hlt h.n2)).fr (fun hlt => hF2.block bl hlt h.n2), h.ob, h.om, h.ol, h.n1, h.n2, h.n3, Nat.le_trans h.bs (Nat.le_trans hF1.size hF2.size), h.link, h.size, h.fsl, hd, h.trys, h.at', fun e => by omega⟩
    have hT : Ran b base (PD b bm) (PInv b bm) v fs (d + 1) s w1 w2 K s [] v := Ran.turn hL1 hI2 (hF2.mono (fun _ _ e => .inr e)) hLS h.hDv
    refine (hrun v fs (d + 1) K s (s.1 :: st) w2 hA2 (by rw [List.length_cons, hst]) hm).mono ?_
    rintro e w3 ⟨K', s', rs, v', hL, hE⟩
    have hR : Ran b base (PD b bm) (PInv b bm) v fs (d + 1) s w1 w3 K' s' rs v' := by
      have := hT.trans (by simpa using hL.ran)
      simpa using this
    rcases hE.how with ⟨rfl, hp, _⟩ | ⟨rfl, _, hij, hk4, hp⟩
    · exact ⟨.inl rfl, K', s', rs, v', hR, .inl ⟨_, rfl, hL.link, hL.size, hL.rsl, hL.trys, hL.at'.1, hL.at'.2, hp⟩⟩
    · exact ⟨.inr ⟨_, rfl⟩, K', s', rs, v', hR, .inr ⟨4, by decide, rfl, rfl, hL.trys, hij, hL.at'.2, hk4, hp⟩⟩
  · rintro e w' ⟨c, rfl, K', s3, rs, v', hcase, hRan, hLog, hz0, hM, hI3, hF3⟩
    have hR : Ran b base (PD b bm) (PInv b bm) v fs d s w w' K' s3 rs v' := by
      by_cases hd0 : d = 0
      · obtain ⟨rfl, rfl⟩ := hz0 hd0
        exact ⟨hLog, hM, fun _ => rfl, fun h => by omega, hI3, (fun r hr => by cases hr), (fun r hr => by cases hr), hF3⟩
      · exact hRan (by omega)
    rcases hcase with ⟨rfl, hk1, hk2, hk3, hk4, hk5, hk6, hp⟩ | ⟨hc, rfl, rfl, rfl, hk1, hk2, hk3, hk4, hp⟩
    · exact ⟨0, K', s3, rs, v', rfl, ⟨hR, hk1, hk2, hk3, hk4, hk5, hk6⟩, hp, .inl rfl⟩
    · refine ⟨4, K', s3, [], v', rfl, ⟨hR, h.link, Nat.le_trans h.size (by omega), by simp; omega, hk1, by omega, hk3⟩, hp, .inr ⟨rfl, hk4⟩⟩

set_option maxHeartbeats 4000000 in
theorem try_of_run (b bm base : Nat) (A : Option Addr) (bl cap : Nat) (l : List ActN) (m : Nat) (hrun : RunSaid b bm base A bl cap l m) : TrySaid b bm base A bl cap l m := by
  intro v fs d K s st w h hk hd hst hm
  have hb := h.log.lt
  have c1 := h.log.c1
  have c9 := h.inv.trys
  have f9 := h.inv.free 9 (by omega)
  have hlen := h.acts.len
  have hat := h.at'
  have hl1 : LogAt w b base v fs d := h.log
  have H := hid h
  have Hrun := hid hrun
  have Hm := hid hm
  have Hst := hid hst
  clear h hrun hm hst
  go_enter Try.func45, Try.ntmps45
  go_wp2_with fail
  have hP1 := H.out.turn (K' := (K.1, K.2 + 1)) 9 ((K.2 : Int) + 1) (.inr ⟨rfl, by simp, by omega⟩) (Nat.le_refl _) hat (by omega)
  have hA1 := H.out.step hP1
  have hP2 := hA1.still (((Fr.refl (fun _ => False) _).alloc (.cells #[.pointer (some ⟨b, 0, none⟩)] 56)).alloc (.cells #[.slice A l.length cap] 54))
  have hA2 := hA1.step hP2
  have hP12 := hP1.trans hP2
  have hw2 := heap_old (heap_new (w.setCell ⟨b, 9, none⟩ (.int .i64 ((K.2 : Int) + 1))) (.cells #[.pointer (some ⟨b, 0, none⟩)] 56)) (.cells #[.slice A l.length cap] 54)
  have hs2 := heap_newk (w := (w.setCell ⟨b, 9, none⟩ (.int .i64 ((K.2 : Int) + 1))).alloc (.cells #[.pointer (some ⟨b, 0, none⟩)] 56)) (k := w.heap.size + 1) (.cells #[.slice A l.length cap] 54) (by simp)
  rw [show (w.setCell ⟨b, 9, none⟩ (.int .i64 ((K.2 : Int) + 1))).heap.size = w.heap.size from by simp] at hw2
  have hsz2 : (((w.setCell ⟨b, 9, none⟩ (.int .i64 ((K.2 : Int) + 1))).alloc (.cells #[.pointer (some ⟨b, 0, none⟩)] 56)).alloc (.cells #[.slice A l.length cap] 54)).heap.size = w.heap.size + 2 := by simp
  simp only [List.map_nil, List.append_nil] at hA1 hA2 hP12
  generalize ((w.setCell ⟨b, 9, none⟩ (.int .i64 ((K.2 : Int) + 1))).alloc (.cells #[.pointer (some ⟨b, 0, none⟩)] 56)).alloc (.cells #[.slice A l.length cap] 54) = w2 at hA2 hP12 hw2 hs2 hsz2 ⊢
  clear hP1 hA1 hP2 c1 c9 f9 hl1
  refine (deep_any b base v fs d _ hA2.log).mono ?_
  rintro e w' ⟨rfl, rfl⟩
  have lt1 : w.heap.size < w2.heap.size := by omega
  have lt2 : w.heap.size + 1 < w2.heap.size := by omega
  have k1 := cell_of_one hw2
  have k2 := cell_of_one hs2
  have HA2 := hid hA2
  have HP12 := hid hP12
  have Hw2 := hid hw2
  have Hs2 := hid hs2
  have Hsz2 := hid hsz2
  clear hA2 hP12 hw2 hs2 hsz2
  go_wp2_with fail
  have hP3 := HA2.out.still ((Fr.refl (fun _ => False) w2).alloc (.cells #[.int .i64 d] 3))
  have hA3 := HA2.out.step hP3
  have hP13 := HP12.out.trans (by simpa using hP3)
  simp only [List.map_nil, List.append_nil] at hA3 hP13
  have hw3 := heap_old Hw2.out (.cells #[.int .i64 d] 3)
  have hs3 := heap_old Hs2.out (.cells #[.int .i64 d] 3)
  have hd3 := heap_new w2 (.cells #[.int .i64 d] 3)
  have hsz3 : (w2.alloc (.cells #[.int .i64 d] 3)).heap.size = w.heap.size + 3 := by have := Hsz2.out; simp; omega
  rw [Hsz2.out] at hd3 ⊢
  generalize w2.alloc (.cells #[.int .i64 d] 3) = w3 at *
  clear k1 k2 lt1 lt2 HA2 HP12 Hw2 Hs2 hP3
  refine (call_try b bm base A bl cap l m Hrun.out v fs d (K.1, K.2 + 1) s st w3 hA3 hd Hst.out Hm.out w.heap.size (w.heap.size + 2) (w.heap.size + 1) hw3 hd3 hs3 (by omega) (by omega) (by omega)).mono ?_
  rintro e w5 ⟨c, K', s', rs, v', rfl, hL, hp, hc⟩
  have hA5 := hA3.step hL
  have hP15 := hP13.trans (by simpa using hL)
  simp only [List.nil_append] at hP15
  have hbox : ∀ k o, w3.heap[k]? = some o → w.heap.size ≤ k → w5.heap[k]? = some o := fun k o hk hge => hL.ran.fr.heap hk fun hx => by
    have h1 := H.out.bs
    have h2 := H.out.ob
    have h3 := H.out.om
    rcases hx with (hx | hx) | hx | hx
    · omega
    · omega
    · omega
    · have := (H.out.log.own.lt k hx.symm).2
      omega
  have k1 := cell_of_one (hbox _ _ hw3 (Nat.le_refl _))
  have k2 := cell_of_one (hbox _ _ hs3 (by omega))
  have k3 := cell_of_one (hbox _ _ hd3 (by omega))
  have ha := hA5.inv.at'
  have hf := hA5.inv.fine
  have hf8 := hA5.inv.free 8 (by omega)
  have hLog5 := hA5.log
  have hat5 := hA5.at'
  have hge := hL.at'.1
  obtain ⟨q, hq⟩ : ∃ q, K'.1 = q + 1 := ⟨K'.1 - 1, by simp only [] at hge; omega⟩
  have hql : q < l.length := by omega
  obtain ⟨rfl, r0, _, _⟩ := hA5.acts.get hql
  have hok := hA5.acts.ok l[q] (List.getElem_mem hql)
  have hc4 : c = 0 ∨ c = 4 ∧ l[q].kind = 4 := by
    rcases hc with hc | ⟨hc, h4⟩
    · exact .inl hc
    · have h5 := h4 (by rw [hq]; simpa using hql)
      simp only [hq, Nat.add_sub_cancel] at h5
      exact .inr ⟨hc, h5⟩
  generalize l[q].kind = kd at *
  rw [hq, show ((q + 1 : Nat) : Int) = (q : Int) + 1 from by omega] at ha
  have HL := hid hLog5
  have HP := hid (hP15.trans (hA5.same (fine_same hf).1 (fine_same hf).2))
  have Hp := hid hp
  have hqi : (q : Int) < (l.length : Int) := by omega
  have hq40 : q ≤ 40 := by omega
  clear hA3 hP13 hw3 hs3 hd3 hsz3 hL hp hc hA5 hP15 hbox hLog5 hat5 hge hq hok Hrun Hm Hsz2
  dsimp only
  have hpos : decide ((0 : Int) < (q : Int) + 1) = true := by simp
  obtain ⟨fl, hfl⟩ : ∃ fl : Bool, ((kd : Int) == 4) = fl := ⟨_, rfl⟩
  have hc5 : (c = 0) ∨ (c = 4 ∧ fl = true) := hc4.imp id (fun ⟨h1, h2⟩ => ⟨h1, by rw [← hfl, h2]; rfl⟩)
  clear hc4
  go_wp2_with fail
  have e1 : IntKind.i64.wrap ((q : Int) + 1 - 1) = (q : Int) := by rw [IntWalk.i64_in _ (by omega)]; omega
  have e2 : IntKind.i64.wrap (q : Int) = (q : Int) := IntWalk.i64_in _ (by omega)
  refine wp_region_still_lit (by kernel_rfl) (by kernel_rfl) ?_
  change wpStill _ _ w5.drew _ _ _
  repeat still_step
  refine wpStill_nil ?_
  change Exit.then _ _ Exit.normal _ w5.drew
  go_wp2_with fail
  clear e1 e2 hpos
  rcases hc5 with rfl | ⟨rfl, rfl⟩
  all_goals
    refine wp_region_still_tail 26 (by kernel_rfl) (by kernel_rfl) ?_
    simp only [List.take_succ_cons, List.take_zero, List.drop_succ_cons, List.drop_zero]
    change wpStill _ _ w5.drew.drew _ _ _
    repeat still_step
    still_call (still_left (deep_any b base v' _ d w5.drew.drew (HL.out.fr (Fr.refl (fun _ => False) w5).drew.drew id (fun _ _ => id))))
    repeat still_step
    refine wpStill_nil ?_
    change wpList _ _ _ _ _ w5.drew.drew
    go_wp2_with fail
    go_end0
    exact ⟨rfl, K', s', rs, v', by simpa using HP.out, Hp.out⟩
end Go.Proofs.Ytmdcalkfapcafaa
