/-
  The way back, step by step: a Log whose steps lead from state to state; a Try over it.
-/
import Derived.Test.YtmdcalkfapcafaaLog
namespace Go.Proofs.Ytmdcalkfapcafaa
open Go.RowKit

/-- A step that was remembered: the closure, and the blocks that it reads and nobody writes. -/
structure Rec where
  f : FuncId
  cap : Array Value
  keep : List (Nat × Obj)
def Rec.fn (r : Rec) : Value := closure r.f r.cap
def Rec.ok (r : Rec) (w : World) : Prop := ∀ p ∈ r.keep, w.heap[p.1]? = some p.2
/-- The Log's own two cells are as they were. -/
def LogSame (b : Nat) (w w' : World) : Prop := w'.cell? ⟨b, 0, none⟩ = w.cell? ⟨b, 0, none⟩ ∧ w'.cell? ⟨b, 1, none⟩ = w.cell? ⟨b, 1, none⟩ ∧ w'.frozen? ⟨b, 0, none⟩ = w.frozen? ⟨b, 0, none⟩ ∧ w'.frozen? ⟨b, 1, none⟩ = w.frozen? ⟨b, 1, none⟩
theorem LogSame.refl (b : Nat) (w : World) : LogSame b w w := ⟨rfl, rfl, rfl, rfl⟩
theorem LogSame.trans {b : Nat} {w1 w2 w3 : World} (h : LogSame b w1 w2) (k : LogSame b w2 w3) : LogSame b w1 w3 := ⟨k.1.trans h.1, k.2.1.trans h.2.1, k.2.2.1.trans h.2.2.1, k.2.2.2.trans h.2.2.2⟩
theorem LogSame.ofBlock {b : Nat} {w w' : World} (h : w'.heap[b]? = w.heap[b]?) : LogSame b w w' :=
  ⟨World.cell?_of_block (a := ⟨b, 0, none⟩) h, World.cell?_of_block (a := ⟨b, 1, none⟩) h, World.frozen?_of_block (a := ⟨b, 0, none⟩) h, World.frozen?_of_block (a := ⟨b, 1, none⟩) h⟩

section
variable {σ : Type} (b : Nat) (D : Nat → Prop) (Inv : σ → World → Prop)
/-- Undone in state s2 the step leads to state s1. -/
def StepBack (r : Rec) (s1 s2 : σ) : Prop :=
  (∀ p ∈ r.keep, ¬ D p.1 ∧ p.1 ≠ b) ∧ (∀ w : World, (callFunc r.f r.cap).run Try.prog w = .ok (.enter r.f r.cap) w) ∧
    ∀ w, Inv s2 w → r.ok w → Calls Try.prog r.f r.cap w fun e w' => (∃ v, e = .returned v) ∧ Inv s1 w' ∧ Fr D w w' ∧ LogSame b w w'
/-- Steps that lead from one state to another: of each the step back. -/
inductive Chain : σ → List Rec → σ → Prop
  | nil (s : σ) : Chain s [] s
  | snoc {s s1 s2 : σ} {rs : List Rec} {r : Rec} (h : Chain s rs s1) (hr : StepBack b D Inv r s1 s2) : Chain s (rs ++ [r]) s2
theorem Chain.append {s1 s2 s3 : σ} {rs qs : List Rec} (h : Chain b D Inv s1 rs s2) (k : Chain b D Inv s2 qs s3) : Chain b D Inv s1 (rs ++ qs) s3 := by
  induction k with
  | nil => simpa using h
  | snoc _ hr ih => rw [← List.append_assoc]; exact .snoc ih hr
theorem Chain.keeps {s1 s2 : σ} {rs : List Rec} (h : Chain b D Inv s1 rs s2) : ∀ r ∈ rs, ∀ p ∈ r.keep, ¬ D p.1 ∧ p.1 ≠ b := by
  induction h with
  | nil => intro r hr; cases hr
  | snoc _ hr ih =>
    intro r hm
    rcases List.mem_append.1 hm with hm | hm
    · exact ih r hm
    · simp at hm; subst hm; exact hr.1
theorem Chain.unsnoc {s1 s2 : σ} {rs : List Rec} {r : Rec} (h : Chain b D Inv s1 (rs ++ [r]) s2) : ∃ s, Chain b D Inv s1 rs s ∧ StepBack b D Inv r s s2 := by
  generalize hq : rs ++ [r] = qs at h
  cases h with
  | nil => simp at hq
  | snoc hc hr =>
    obtain ⟨rfl, h2⟩ := List.append_inj' hq rfl
    simp at h2
    subst h2
    exact ⟨_, hc, hr⟩
theorem Chain.eq_of_nil {s1 s2 : σ} (h : Chain b D Inv s1 [] s2) : s1 = s2 := by
  generalize hq : ([] : List Rec) = qs at h
  cases h with
  | nil => rfl
  | snoc hc hr => simp at hq
end

theorem own_take {w : World} {base e : Nat} {g n cap m : Nat} {xs : List Value} (h : w.ownsRow base e 1 (.slice (some ⟨g, 0, none⟩) n cap) n xs) (hm : m ≤ n) : w.ownsRow base e 1 (.slice (some ⟨g, 0, none⟩) m cap) m (xs.take m) := by
  obtain ⟨hl, h⟩ := h
  refine ⟨by rw [List.length_take]; omega, ?_⟩
  rcases h with ⟨h, _⟩ | ⟨g', c', cur, hv, h1, h2, h3, h4, h5, h6⟩
  · cases h
  · cases hv
    refine .inr ⟨g, cap, cur, rfl, h1, h2, by omega, h4, h5, ?_⟩
    rw [← h6, List.take_take]
    congr 1
    omega
/-- A value that owns n cells is a slice of that length. -/
theorem own_slice {w : World} {base e n : Nat} {v : Value} {xs : List Value} (h : w.ownsRow base e 1 v n xs) : ∃ ao cap, v = .slice ao n cap ∧ n ≤ cap ∧ cap ≤ maxLen ∧ (0 < n → ∃ g, ao = some ⟨g, 0, none⟩ ∧ ∀ i, i < n → w.cell? ⟨g, i, none⟩ = some (xs.getD i .nilFunc)) := by
  obtain ⟨hl, h⟩ := h
  rcases h with ⟨rfl, rfl⟩ | ⟨g, c, cur, rfl, h1, h2, h3, h4, h5, h6⟩
  · exact ⟨none, 0, rfl, by simp, by simp, fun h => by omega⟩
  · refine ⟨some ⟨g, 0, none⟩, c, rfl, h3, h4, fun _ => ⟨g, rfl, fun i hi => ?_⟩⟩
    rw [cell_of_block h2, ← h6]
    have hc : i < cur.size := by omega
    simp [List.getD, hc, hi]

theorem Left.of {w : World} {b base : Nat} {v : Value} {fs all : List Value} {d : Nat} (h : LogAt w b base v fs d) (hfs : ∃ n, fs = all.take n ∧ n ≤ all.length) : Left w b fs.length all := by
  obtain ⟨n, rfl, hn⟩ := hfs
  obtain ⟨ao, cap, rfl, h1, h2, h3⟩ := own_slice h.own
  refine ⟨h.f0, ao, cap, h.c0, h1, h2, fun hp => ?_⟩
  obtain ⟨g, hg, hc⟩ := h3 hp
  refine ⟨g, hg, fun i hi => (hc i hi).trans ?_⟩
  have : i < n := by rw [List.length_take] at hi; omega
  simp [List.getD, this]

theorem LogAt.pop {w : World} {b base g n cap : Nat} {fs : List Value} {d : Nat} (h : LogAt w b base (.slice (some ⟨g, 0, none⟩) (n + 1) cap) fs d) (hn : fs.length = n + 1) : LogAt (w.setCell ⟨b, 0, none⟩ (.slice (some ⟨g, 0, none⟩) n cap)) b base (.slice (some ⟨g, 0, none⟩) n cap) (fs.take n) d := by
  have hown := h.own
  rw [hn] at hown
  have hlen : (fs.take n).length = n := by rw [List.length_take]; omega
  refine ⟨World.cell?_setCell_same _ _ _ h.c0, (World.cell?_setCell_other _ _ _ _ (by simp)).trans h.c1, frzS h.f0 _, frzS h.f1 _, ?_, h.apart, fun u hu => h.one u (List.mem_of_mem_take hu)⟩
  rw [hlen]
  exact ownsRow_setCell_other (own_take hown (by omega)) h.apart _
theorem LogAt.same {w w' : World} {b base : Nat} {v : Value} {fs : List Value} {d : Nat} {D : Nat → Prop} (h : LogAt w b base v fs d) (hF : Fr D w w') (hS : LogSame b w w') (hrow : ∀ k, some k = v.ownBlock → ¬ D k) : LogAt w' b base v fs d :=
  ⟨hS.1.trans h.c0, hS.2.1.trans h.c1, hS.2.2.1.trans h.f0, hS.2.2.2.trans h.f1, hF.own h.own hrow, h.apart, h.one⟩

theorem replay {σ : Type} (b : Nat) (D : Nat → Prop) (Inv : σ → World → Prop) (hInv : ∀ s w x, Inv s w → Inv s (w.setCell ⟨b, 0, none⟩ x))
    (base : Nat) (v : Value) (old : List Value) (rs : List Rec) (d : Nat) (s1 s2 : σ) (w : World) (hL : LogAt w b base v (old ++ rs.map Rec.fn) d) (hc : Chain b D Inv s1 rs s2) (hI : Inv s2 w) (hok : ∀ r ∈ rs, r.ok w) (hrow : ∀ k, some k = v.ownBlock → ¬ D k) :
    Calls Try.prog 38 #[.pointer (some ⟨b, 0, none⟩), .int .i64 old.length] w fun e w' => e = .returned (.tuple #[]) ∧
      (∃ v', LogAt w' b base v' old d ∧ v'.ownBlock = v.ownBlock) ∧ Inv s1 w' ∧ Fr (fun k => D k ∨ k = b) w w' := by
  have hlen : (old ++ rs.map Rec.fn).length = old.length + rs.length := by simp
  let J : Nat → World → Prop := fun n x => ∃ i, i ≤ rs.length ∧ n = old.length + i ∧ ∃ s v', Chain b D Inv s1 (rs.take i) s ∧ Inv s x ∧ LogAt x b base v' ((old ++ rs.map Rec.fn).take n) d ∧ v'.ownBlock = v.ownBlock ∧ Fr (fun k => D k ∨ k = b) w x
  have hJn : ∀ n x, J n x → ((old ++ rs.map Rec.fn).take n).length = n := by
    rintro n x ⟨i, hi, rfl, _⟩
    rw [List.length_take, hlen]; omega
  refine (to_any b old.length (old ++ rs.map Rec.fn) J (by omega) ?_ ?_ w ?_).mono ?_
  · intro n x h1 h2 hJ
    have hn := hJn n x hJ
    obtain ⟨i, hi, rfl, s, v', h3, h4, h5, h6, h7⟩ := hJ
    have := Left.of h5 ⟨_, rfl, h2⟩
    rwa [hn] at this
  · intro n x g cap h1 h2 hJ h0
    have hn := hJn _ x hJ
    obtain ⟨i, hi, hni, s', v', h3, h4, h5, h6, h7⟩ := hJ
    obtain ⟨i, rfl⟩ : ∃ j, i = j + 1 := ⟨i - 1, by omega⟩
    have hni' : n = old.length + i := by omega
    have hir : i < rs.length := by omega
    have htk : rs.take (i + 1) = rs.take i ++ [rs[i]] := by rw [List.take_succ_eq_append_getElem hir]
    rw [htk] at h3
    obtain ⟨s, hcs, hsb⟩ := h3.unsnoc
    have hv : v' = .slice (some ⟨g, 0, none⟩) (n + 1) cap := by
      have := h5.c0
      rw [h0] at this
      exact (Option.some.inj this).symm
    subst hv
    refine ⟨rs[i].f, rs[i].cap, ?_, hsb.2.1, ?_⟩
    · rw [List.getD_eq_getElem?_getD, hni', List.getElem?_append_right (by omega)]
      simp [hir, Rec.fn]
    · have hpop := h5.pop hn
      rw [List.take_take, Nat.min_eq_left (by omega)] at hpop
      have hF1 : Fr (fun k => D k ∨ k = b) w (x.setCell ⟨b, 0, none⟩ (.slice (some ⟨g, 0, none⟩) n cap)) := h7.setCell (fun _ => .inr rfl) _
      have hro : rs[i].ok (x.setCell ⟨b, 0, none⟩ (.slice (some ⟨g, 0, none⟩) n cap)) := fun p hp => hF1.heap (hok _ (List.getElem_mem _) p hp) (fun h => h.elim (hsb.1 p hp).1 (hsb.1 p hp).2)
      refine (hsb.2.2 _ (hInv _ _ _ h4) hro).mono ?_
      rintro e w' ⟨he, hI', hF', hS'⟩
      refine ⟨he, i, by omega, hni', s, _, hcs, hI', hpop.same hF' hS' (fun k hk => hrow k (hk.trans h6)), h6, hF1.trans hF' (fun _ _ h => .inl h)⟩
  · exact ⟨rs.length, Nat.le_refl _, hlen, s2, v, by rw [List.take_length]; exact hc, hI, by rw [List.take_length]; exact hL, rfl, Fr.refl _ _⟩
  · rintro e w' ⟨rfl, i, hi, hni, s, v', h3, h4, h5, h6, h7⟩
    obtain rfl : i = 0 := by omega
    have := h3.eq_of_nil
    subst this
    refine ⟨rfl, ⟨v', ?_, h6⟩, h4, h7⟩
    rw [List.take_append_of_le_length (Nat.le_refl _), List.take_length] at h5
    exact h5

end Go.Proofs.Ytmdcalkfapcafaa
