/-
  Tables in a state: steps that put and drop.
-/
import Derived.Test.YtmdcalkfapcafaaSetRan
import Derived.Maps.OwnSet
import Derived.Maps.Ext
import Derived.Maps.StringElems
namespace Go.Proofs.Ytmdcalkfapcafaa
open Go.RowKit

/-- Block bm is a table that reads as D. -/
def OwnM (P : Program) (k e : TypeId) (w : World) (bm : Nat) (D : DataW Unit) : Prop := w.ownsMap P k (plainElem P e) bm (Maps.size D) D
section
variable {P : Program} {k e : TypeId} {w : World} {bm n : Nat} {D : DataW Unit}
theorem OwnM.of (h : w.ownsMap P k (plainElem P e) bm n D) : OwnM P k e w bm D := by
  obtain ⟨es, clock, hb, F, hs, rfl⟩ := h
  refine ⟨es, clock, hb, F, ?_, rfl⟩
  simp [Maps.size, length_sorted]
theorem OwnM.lt (h : OwnM P k e w bm D) : bm < w.heap.size := World.ownsMap.lt h
theorem OwnM.same (h : OwnM P k e w bm D) {w' : World} (hB : w'.heap[bm]? = w.heap[bm]?) : OwnM P k e w' bm D := by
  obtain ⟨es, clock, hb, F, hs, hD⟩ := h
  exact ⟨es, clock, hB.trans hb, F, hs, hD⟩
end

/-- What a key's way back makes of a table. -/
def unput (D : DataW Unit) (x : Lit) (z : DataW Unit) (D2 : DataW Unit) : DataW Unit := if Maps.has D x then D2.put x (D.atKey x z) else D2.del x
theorem has_atKey {D : DataW Unit} {x : Lit} (h : Maps.has D x = true) (z z' : DataW Unit) : D.atKey x z = D.atKey x z' := by
  cases D <;> try (simp [Maps.has] at h; done)
  rename_i es
  unfold DataW.atKey
  simp only []
  cases hf : es.find? (fun p => p.1.sameKey x) with
  | some p => rfl
  | none =>
    rw [List.find?_eq_none] at hf
    rw [Maps.has_eq, List.any_eq_true] at h
    obtain ⟨p, hp, hq⟩ := h
    exact absurd hq (hf p hp)
theorem unput_eq {D D2 : DataW Unit} {x : Lit} {z : DataW Unit} (c : Maps.Canon D) (m : Maps.IsMap D2) (cE : Maps.Canon (unput D x z D2)) (hk : WideAt.IsKeyLit x) (hh : ∀ k, k ≠ x → Maps.has D2 k = Maps.has D k) (ha : ∀ k, k ≠ x → ∀ z, D2.atKey k z = D.atKey k z) : unput D x z D2 = D := by
  refine Maps.ext cE c (fun k => ?_) (fun k u hu => ?_)
  · unfold unput
    by_cases hx : k = x
    · subst hx
      split
      · rename_i h; rw [Maps.has_put_same m hk, h]
      · rename_i h; rw [Maps.has_del_same]; simpa using h
    · split
      · rw [Maps.has_put_other hx, hh k hx]
      · rw [Maps.has_del_other hx, hh k hx]
  · unfold unput at hu ⊢
    by_cases hx : k = x
    · subst hx
      split
      · rename_i h; rw [Maps.atKey_put_same m hk]; exact has_atKey h _ _
      · rename_i h; rw [if_neg h, Maps.has_del_same] at hu; cases hu
    · split
      · rw [Maps.atKey_put_other hx, ha k hx]
      · rw [Maps.atKey_del_other hx, ha k hx]

/-- The step back of a put, or of a drop. -/
def MapBack (P : Program) (k e : TypeId) (bm : Nat) (D : DataW Unit) (x : Lit) (z : DataW Unit) (r : Rec) : Prop :=
  ∀ w2 D2, r.ok w2 → OwnM P k e w2 bm D2 → Maps.size D2 ≤ 1000 → Calls P r.f r.cap w2 fun e' w3 => e' = .returned (.tuple #[]) ∧ OwnM P k e w3 bm (unput D x z D2) ∧ w2.grownBy w3 (some bm)

/-- Whether or not it is in a Try: what Back makes of a Log. -/
theorem back_any (b base : Nat) (v : Value) (fs : List Value) (d : Nat) (fn : FuncId) (cap : Array Value) (w : World) (h : LogAt w b base v fs d) (hl : fs.length ≤ 1000000) (hbase : base ≤ w.heap.size) :
    Calls Try.prog 14 #[.pointer (some ⟨b, 0, none⟩), .func (.func fn) #[] cap] w fun e w' => e = .returned (.tuple #[]) ∧
      ∃ v', LogAt w' b base v' (fs ++ if d = 0 then [] else [closure fn cap]) d ∧ LMoved w v v' ∧ Fr (logs b v) w w' ∧ Rest b w w' := by
  by_cases hd : d = 0
  · subst hd
    refine (back_idle b base v fs _ w h).mono ?_
    rintro e w' ⟨rfl, rfl⟩
    exact ⟨rfl, v, by simpa using h, LMoved.refl _ _, Fr.refl _ _, fun _ _ => ⟨rfl, rfl⟩⟩
  · rw [if_neg hd]
    exact back_some b base v fs d fn cap w h (by omega) hl hbase

/-- A put or a drop is done: D has become D2; the way back is remembered. -/
structure MapDid (P : Program) (k e : TypeId) (b base bm : Nat) (v : Value) (fs : List Value) (d : Nat) (D D2 : DataW Unit) (r : Rec) (w w' : World) : Prop where
  out : ∃ v' w1, LogAt w1 b base v' (fs ++ if d = 0 then [] else [r.fn]) d ∧ LMoved w v v' ∧ Fr (logs b v) w w1 ∧ Rest b w w1 ∧ (∀ p ∈ r.keep, w.heap.size ≤ p.1 ∧ w1.heap[p.1]? = some p.2 ∧ some p.1 ≠ v'.ownBlock) ∧ OwnM P k e w' bm D2 ∧ w1.grownBy w' (some bm)

section
variable {κ σ : Type} (b : Nat) (D : Nat → Prop) (Inv : κ → σ → World → Prop)
/-- Where a table of the state lies. -/
structure MVar (P : Program) (k e : TypeId) (bm : Nat) (get : σ → DataW Unit) (put : σ → DataW Unit → σ) : Prop where
  inD : D bm
  far : bm ≠ b
  hlt : ∀ K s w, Inv K s w → b < w.heap.size
  hget : ∀ K s w, Inv K s w → OwnM P k e w bm (get s) ∧ Maps.size (get s) ≤ 1000
  hput : ∀ K s w w' M, Inv K s w → w.grownBy w' (some bm) → OwnM P k e w' bm M → Maps.size M ≤ 1000 → Inv K (put s M) w'
  hgp : ∀ s M, get (put s M) = M
  hback : ∀ s M, put (put s M) (get s) = s
end

theorem map_ran {κ σ : Type} {k e : TypeId} (b base : Nat) (D : Nat → Prop) (Inv : κ → σ → World → Prop) (hI : Stable b D Inv) (bm : Nat) (get : σ → DataW Unit) (put : σ → DataW Unit → σ) (hV : MVar b D Inv Try.prog k e bm get put) (Kd : Maps.Keyed Try.prog k)
    (v : Value) (fs : List Value) (d : Nat) (w w' : World) (K : κ) (s1 : σ) (D2 : DataW Unit) (x : Lit) (z : DataW Unit) (r : Rec) (hxk : WideAt.IsKeyLit x) (h : LogAt w b base v fs d) (hD : ∀ k, D k → k < w.heap.size) (hDv : ∀ k, some k = v.ownBlock → ¬ D k) (hs : Inv K s1 w)
    (hr : MapBack Try.prog k e bm (get s1) x z r) (hin : ∀ w : World, (callFunc r.f r.cap).run Try.prog w = .ok (.enter r.f r.cap) w) (hdid : MapDid Try.prog k e b base bm v fs d (get s1) D2 r w w') (hsz : Maps.size D2 ≤ 1000)
    (hh : ∀ k, k ≠ x → Maps.has D2 k = Maps.has (get s1) k) (ha : ∀ k, k ≠ x → ∀ z, D2.atKey k z = (get s1).atKey k z) :
    ∃ rs v', rs.length ≤ 1 ∧ Ran b base D Inv v fs d s1 w w' K (put s1 D2) rs v' := by
  obtain ⟨v', w1, hL, hM, hF, hR, hk, hO2, hG⟩ := hdid.out
  have hDn : ∀ k, w.heap.size ≤ k → ¬ D k := fun k hk hd => by have := hD k hd; omega
  have hDv' : ∀ k, some k = v'.ownBlock → ¬ D k := fun k hk hd => by
    rcases hM k hk.symm with e | e
    · exact hDv k e.symm hd
    · exact hDn k e hd
  have hs1 : Inv K s1 w1 := hI K s1 _ _ hs (fun k hk hkb => hF.block k (hD k hk) (fun h => h.elim hkb (fun e => hDv k e hk))) (fun o ho => hR o (by omega))
  have hG' : Fr (fun k => some k = some bm) w1 w' := Fr.ofGrown hG
  have hb1 : b < w1.heap.size := hL.lt
  have hbb : w'.heap[b]? = w1.heap[b]? := hG'.block b hb1 (fun e => hV.far (by simpa using e.symm))
  have hGD : Fr D w1 w' := hG'.mono (fun i _ e => by simp at e; subst e; exact hV.inD)
  have hL' : LogAt w' b base v' (fs ++ if d = 0 then [] else [r.fn]) d := hL.same hGD (LogSame.ofBlock hbb) hDv'
  have hc1 : Maps.Canon (get s1) := (hV.hget K s1 w hs).1.canon Kd
  have hFr : Fr (fun k => D k ∨ k = b ∨ some k = v.ownBlock) w w' := (hF.mono (fun i _ h => .inr h)).trans hGD (fun i _ h => .inl h)
  have hinv := hV.hput K s1 w1 w' D2 hs1 hG hO2 hsz
  by_cases hd : d = 0
  · rw [if_pos hd] at hL'
    exact ⟨[], v', by simp, ⟨by simpa using hL', hM, fun _ => rfl, fun h => by omega, hinv, (fun r hr => by cases hr), (fun r hr => by cases hr), hFr⟩⟩
  · rw [if_neg hd] at hL'
    refine ⟨[r], v', by simp, ⟨hL', hM, fun h => by omega, fun _ K => ?_, hinv, ?_, ?_, hFr⟩⟩
    · refine Chain.snoc (rs := []) (.nil s1) ⟨?_, hin, ?_⟩
      · intro p hp
        have := (hk p hp).1
        refine ⟨hDn _ this, ?_⟩
        have := h.lt
        omega
      · intro w2 hs2 hok
        obtain ⟨hO3, hs3⟩ := hV.hget K _ w2 hs2
        rw [hV.hgp] at hO3 hs3
        refine (hr w2 D2 hok hO3 hs3).mono ?_
        rintro e' w3 ⟨rfl, hO4, hG4⟩
        have hE := unput_eq (z := z) hc1 (World.ownsMap.isMap hO3) (World.ownsMap.canon hO4 Kd) hxk hh ha
        rw [hE] at hO4
        have hLS : LogSame b w2 w3 := LogSame.ofBlock (hG4.block b (hV.hlt _ _ _ hs2) (fun e => hV.far (by simpa using e.symm)))
        refine ⟨⟨_, rfl⟩, ?_, (Fr.ofGrown hG4).mono (fun i _ e => by simp at e; subst e; exact hV.inD), hLS⟩
        have := hV.hput K _ w2 w3 (get s1) hs2 hG4 hO4 (hV.hget _ s1 w1 hs1).2
        rwa [hV.hback] at this
    · intro q hq
      simp at hq
      subst hq
      refine ⟨fun p hp => hGD.heap (hk p hp).2.1 (hDn _ (hk p hp).1), fun p hp => (hk p hp).2.2⟩
    · intro q hq p hp
      simp at hq
      subst hq
      exact (hk p hp).1

end Go.Proofs.Ytmdcalkfapcafaa
