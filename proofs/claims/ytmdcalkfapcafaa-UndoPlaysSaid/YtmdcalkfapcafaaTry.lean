/-
  A Try over steps that lead from state to state.
-/
import Derived.Test.YtmdcalkfapcafaaReplay
namespace Go.Proofs.Ytmdcalkfapcafaa
open Go.RowKit

theorem LMoved.refl (w : World) (v : Value) : LMoved w v v := fun _ h => .inl h
theorem LMoved.trans {w w' : World} {v v1 v2 : Value} (h : LMoved w v v1) (k : LMoved w' v1 v2) (hs : w.heap.size ≤ w'.heap.size) : LMoved w v v2 := by
  intro i hi
  rcases k i hi with e | e
  · exact h i e
  · exact .inr (by omega)
theorem LMoved.not {w : World} {v v' : Value} (h : LMoved w v v') {k : Nat} (hk : k < w.heap.size) (hv : some k ≠ v.ownBlock) : some k ≠ v'.ownBlock := by
  intro e
  rcases h k e.symm with e | e
  · exact hv e.symm
  · omega

section
variable {κ σ : Type} (b base : Nat) (D : Nat → Prop) (Inv : κ → σ → World → Prop)

/-- Whatever the Log's own cells hold, and whatever lies elsewhere: the state is the same. -/
def Stable : Prop := ∀ K s w w', Inv K s w → (∀ k, D k → k ≠ b → w'.heap[k]? = w.heap[k]?) → (∀ o, 2 ≤ o → w'.cell? ⟨b, o, none⟩ = w.cell? ⟨b, o, none⟩ ∧ w'.frozen? ⟨b, o, none⟩ = w.frozen? ⟨b, o, none⟩) → Inv K s w'

/-- A run led from state s1 at w to state s2 at w'; the steps rs were remembered. -/
structure Ran (v : Value) (fs : List Value) (d : Nat) (s1 : σ) (w w' : World) (K : κ) (s2 : σ) (rs : List Rec) (v' : Value) : Prop where
  log : LogAt w' b base v' (fs ++ rs.map Rec.fn) d
  moved : LMoved w v v'
  zero : d = 0 → rs = []
  chain : 0 < d → ∀ K, Chain b D (Inv K) s1 rs s2
  inv : Inv K s2 w'
  ok : ∀ r ∈ rs, r.ok w' ∧ ∀ p ∈ r.keep, some p.1 ≠ v'.ownBlock
  new : ∀ r ∈ rs, ∀ p ∈ r.keep, w.heap.size ≤ p.1
  fr : Fr (fun k => D k ∨ k = b ∨ some k = v.ownBlock) w w'

variable {b base D Inv}
theorem Ran.refl {v : Value} {fs : List Value} {d : Nat} {s : σ} {w : World} {K : κ} (h : LogAt w b base v fs d) (hI : Inv K s w) : Ran b base D Inv v fs d s w w K s [] v :=
  ⟨by simpa using h, LMoved.refl _ _, fun _ => rfl, fun _ _ => .nil s, hI, (fun r hr => by cases hr), (fun r hr => by cases hr), Fr.refl _ _⟩
theorem Ran.trans {v v1 v2 : Value} {fs : List Value} {d : Nat} {s1 s2 s3 : σ} {w w1 w2 : World} {K1 K : κ} {rs qs : List Rec} (h : Ran b base D Inv v fs d s1 w w1 K1 s2 rs v1)
    (k : Ran b base D Inv v1 (fs ++ rs.map Rec.fn) d s2 w1 w2 K s3 qs v2) : Ran b base D Inv v fs d s1 w w2 K s3 (rs ++ qs) v2 := by
  refine ⟨?_, h.moved.trans k.moved h.fr.size, ?_, ?_, k.inv, ?_, ?_, ?_⟩
  · have := k.log
    rwa [List.append_assoc, ← List.map_append] at this
  · intro e
    rw [h.zero e, k.zero e]; rfl
  · exact fun hd K => (h.chain hd K).append b D (Inv K) (k.chain hd K)
  · intro r hr
    rcases List.mem_append.1 hr with hr | hr
    · by_cases hd : d = 0
      · rw [h.zero hd] at hr; cases hr
      · obtain ⟨h1, h2⟩ := h.ok r hr
        have h3 := (h.chain (by omega) K).keeps b D (Inv K) r hr
        refine ⟨fun p hp => k.fr.heap (h1 p hp) (fun hx => ?_), fun p hp => k.moved.not (lt_of_block (h1 p hp)) (h2 p hp)⟩
        rcases hx with hx | hx | hx
        · exact (h3 p hp).1 hx
        · exact (h3 p hp).2 hx
        · exact h2 p hp hx
    · exact k.ok r hr
  · intro r hr p hp
    rcases List.mem_append.1 hr with hr | hr
    · exact h.new r hr p hp
    · exact Nat.le_trans h.fr.size (k.new r hr p hp)
  · refine h.fr.trans k.fr (fun i hi hx => ?_)
    rcases hx with hx | hx | hx
    · exact .inl hx
    · exact .inr (.inl hx)
    · refine .inr (.inr ?_)
      rcases h.moved i hx.symm with e | e
      · exact e.symm
      · omega
end

theorem left'_fr (b d : Nat) (w : World) : Fr (fun k => k = b) w (left' b d w) := by
  unfold left'
  split
  · exact ((Fr.refl (fun k => k = b) w).setCell (p := ⟨b, 1, none⟩) (fun _ => rfl) _).setCell (p := ⟨b, 0, none⟩) (fun _ => rfl) _
  · exact (Fr.refl (fun k => k = b) w).setCell (p := ⟨b, 1, none⟩) (fun _ => rfl) _
theorem left'_rest (b d : Nat) (w : World) (o : Nat) (ho : 2 ≤ o) : (left' b d w).cell? ⟨b, o, none⟩ = w.cell? ⟨b, o, none⟩ ∧ (left' b d w).frozen? ⟨b, o, none⟩ = w.frozen? ⟨b, o, none⟩ := by
  unfold left'
  split
  · exact ⟨(World.cell?_setCell_other _ _ _ _ (by simp; try omega)).trans (World.cell?_setCell_other _ _ _ _ (by simp; try omega)), (World.frozen?_setCell _ _ _ _).trans (World.frozen?_setCell _ _ _ _)⟩
  · exact ⟨World.cell?_setCell_other _ _ _ _ (by simp; try omega), World.frozen?_setCell _ _ _ _⟩
theorem left'_log {w : World} {b base : Nat} {v : Value} {fs : List Value} {d : Nat} (h : LogAt w b base v fs (d + 1)) : (0 < d ∧ LogAt (left' b d w) b base v fs d) ∨ (d = 0 ∧ LogAt (left' b d w) b base (.slice none 0 0) [] d) := by
  have hk := (World.cell?_setCell_other w ⟨b, 1, none⟩ ⟨b, 0, none⟩ (.int .i64 d) (by simp)).trans h.c0
  have hk1 := World.cell?_setCell_same w ⟨b, 1, none⟩ (.int .i64 d) h.c1
  unfold left'
  by_cases hz : d = 0
  · right
    rw [if_pos hz]
    refine ⟨hz, World.cell?_setCell_same _ _ _ hk, (World.cell?_setCell_other _ _ _ _ (by simp)).trans hk1, frzS (frzS h.f0 _) _, frzS (frzS h.f1 _) _, ⟨rfl, .inl ⟨rfl, rfl⟩⟩, by simp [Value.ownBlock], by simp⟩
  · left
    rw [if_neg hz]
    exact ⟨by omega, hk, hk1, frzS h.f0 _, frzS h.f1 _, ownsRow_setCell_other h.own h.apart _, h.apart, h.one⟩

set_option maxHeartbeats 400000 in
theorem try_ranR {κ σ : Type} (b base : Nat) (D : Nat → Prop) (Inv : κ → σ → World → Prop) (hI : Stable b D Inv)
    (v : Value) (fs : List Value) (d : Nat) (f : FuncId) (cap : Array Value) (w : World) (s1 : σ) (h : LogAt w b base v fs d) (hd : d ≤ 1000) (hz : d = 0 → fs = []) (hD : ∀ k, D k → k < w.heap.size) (hDv : ∀ k, some k = v.ownBlock → ¬ D k)
    (hin : Enters f cap) (Pok : κ → σ → Nat → Prop) (hmono : ∀ K s n m, m ≤ n → Pok K s n → Pok K s m) (Pbad : Int → κ → Prop)
    (hrun : ∀ w1, LogAt w1 b base v fs (d + 1) → Fr (fun k => k = b) w w1 → (∀ o, 2 ≤ o → w1.cell? ⟨b, o, none⟩ = w.cell? ⟨b, o, none⟩ ∧ w1.frozen? ⟨b, o, none⟩ = w.frozen? ⟨b, o, none⟩) →
      Calls Try.prog f cap w1 fun e w3 => ∃ K s2 rs v', Ran b base D Inv v fs (d + 1) s1 w1 w3 K s2 rs v' ∧ ((∃ x, e = .returned x ∧ Pok K s2 rs.length) ∨ ∃ c, c ≠ 0 ∧ e = .panicked (fault c) ∧ Pbad c K)) :
    Calls Try.prog 16 #[.pointer (some ⟨b, 0, none⟩), .func (.func f) #[] cap] w fun e w' =>
      ∃ c : Int, e = .returned (.int .i64 c) ∧ ∃ K s3 rs v', ((c = 0 ∧ Pok K s3 rs.length) ∨ (c ≠ 0 ∧ s3 = s1 ∧ rs = [] ∧ Pbad c K)) ∧
        (0 < d → Ran b base D Inv v fs d s1 w w' K s3 rs v') ∧ LogAt w' b base v' (fs ++ rs.map Rec.fn) d ∧ (d = 0 → rs = [] ∧ v' = .slice none 0 0) ∧ LMoved w v v' ∧ Inv K s3 w' ∧ Fr (fun k => D k ∨ k = b ∨ some k = v.ownBlock) w w' := by
  have hb := h.lt
  have hvl : ∀ k, some k = v.ownBlock → k < w.heap.size := fun k hk => (h.own.lt k hk.symm).2
  have h1 : LogAt (w.setCell ⟨b, 1, none⟩ (.int .i64 ((d + 1 : Nat) : Int))) b base v fs (d + 1) :=
    ⟨(World.cell?_setCell_other _ _ _ _ (by simp)).trans h.c0, World.cell?_setCell_same _ _ _ h.c1, frzS h.f0 _, frzS h.f1 _, ownsRow_setCell_other h.own h.apart _, h.apart, h.one⟩
  have ha := h1.fr ((Fr.refl (fun _ => False) _).alloc (.cells #[.int .i64 0] 26)) id (fun _ _ => id)
  have hF1 : Fr (fun k => k = b) w ((w.setCell ⟨b, 1, none⟩ (.int .i64 ((d + 1 : Nat) : Int))).alloc (.cells #[.int .i64 0] 26)) := ((Fr.refl (fun k => k = b) w).setCell (p := ⟨b, 1, none⟩) (fun _ => rfl) _).alloc _
  have hR1 : ∀ o, 2 ≤ o → ((w.setCell ⟨b, 1, none⟩ (.int .i64 ((d + 1 : Nat) : Int))).alloc (.cells #[.int .i64 0] 26)).cell? ⟨b, o, none⟩ = w.cell? ⟨b, o, none⟩ ∧ ((w.setCell ⟨b, 1, none⟩ (.int .i64 ((d + 1 : Nat) : Int))).alloc (.cells #[.int .i64 0] 26)).frozen? ⟨b, o, none⟩ = w.frozen? ⟨b, o, none⟩ := fun o ho =>
    ⟨(World.cell?_alloc_past _ _ _ (by simpa using hb)).trans (World.cell?_setCell_other _ _ _ _ (by simp; try omega)), (World.frozen?_alloc_past _ _ _ (by simpa using hb)).trans (World.frozen?_setCell _ _ _ _)⟩
  have hrun := hrun _ ha hF1 hR1
  have hs0 : (w.setCell ⟨b, 1, none⟩ (.int .i64 ((d + 1 : Nat) : Int))).heap.size = w.heap.size := by simp
  have hsz : ((w.setCell ⟨b, 1, none⟩ (.int .i64 ((d + 1 : Nat) : Int))).alloc (.cells #[.int .i64 0] 26)).heap.size = w.heap.size + 1 := by simp
  refine (log_try b base v fs d f cap w h hd
    (fun c w3 => ∃ K s2 rs v', Ran b base D Inv v fs (d + 1) s1 w w3 K s2 rs v' ∧ ((c = 0 ∧ Pok K s2 rs.length) ∨ (c ≠ 0 ∧ Pbad c K)))
    (fun c w4 => c ≠ 0 ∧ ∃ K v', LogAt w4 b base v' fs (d + 1) ∧ LMoved w v v' ∧ Inv K s1 w4 ∧ Pbad c K ∧ Fr (fun k => D k ∨ k = b ∨ some k = v.ownBlock) w w4) ?_ ?_ ?_ ?_).mono ?_
  · refine (guard_any f cap _ (fun c w' => ∃ K s2 rs v', Ran b base D Inv v fs (d + 1) s1 ((w.setCell ⟨b, 1, none⟩ (.int .i64 ((d + 1 : Nat) : Int))).alloc (.cells #[.int .i64 0] 26)) w' K s2 rs v' ∧ ((c = 0 ∧ Pok K s2 rs.length) ∨ (c ≠ 0 ∧ Pbad c K))) hin (hrun.mono ?_)).mono ?_
    · rintro e w3 ⟨K, s2, rs, v', hR, hx⟩
      refine ⟨hR.fr.heap (heap_newk _ (by simp)) (fun hk => ?_), ?_⟩
      · rw [hs0] at hk
        rcases hk with hk | hk | hk
        · exact absurd (hD _ hk) (by omega)
        · omega
        · exact absurd (hvl _ hk) (by omega)
      · rcases hx with ⟨x, rfl, hp⟩ | ⟨c, hc, rfl, hp⟩
        · exact .inl ⟨x, rfl, K, s2, rs, v', hR, .inl ⟨rfl, hp⟩⟩
        · exact .inr ⟨c, rfl, K, s2, rs, v', hR, .inr ⟨hc, hp⟩⟩
    · rintro e w3 ⟨c, w', rfl, ⟨K, s2, rs, v', hR, hx⟩, hF⟩
      rw [hs0] at hF
      have hvn : ∀ k, some k = v'.ownBlock → k ≠ w.heap.size := by
        rintro k hk rfl
        rcases hR.moved _ hk.symm with e | e
        · exact absurd (hvl _ e.symm) (by omega)
        · omega
      have hbn : w'.heap.size ≥ w.heap.size + 1 := by have := hR.fr.size; omega
      refine ⟨c, rfl, K, s2, rs, v', ⟨hR.log.fr hF (by omega) hvn, ?_, hR.zero, hR.chain, ?_, ?_, ?_, ?_⟩, hx⟩
      · intro k hk
        rcases hR.moved k hk with e | e
        · exact .inl e
        · exact .inr (by omega)
      · refine hI K s2 w' w3 hR.inv (fun k hk _ => hF.block k (by have := hD k hk; omega) (by have := hD k hk; omega)) (fun o _ => ?_)
        have hB := hF.block b (by omega) (by omega)
        exact ⟨World.cell?_of_block (a := ⟨b, o, none⟩) hB, World.frozen?_of_block (a := ⟨b, o, none⟩) hB⟩
      · intro r hr
        refine ⟨fun p hp => hF.heap ((hR.ok r hr).1 p hp) ?_, (hR.ok r hr).2⟩
        have := hR.new r hr p hp
        omega
      · intro r hr p hp
        have := hR.new r hr p hp
        omega
      · refine ((hF1.mono (fun _ _ e => .inr (.inl e))).trans hR.fr (fun _ _ hk => hk)).trans hF (fun i hi e => by omega)
  · rintro c w3 ⟨K, s2, rs, v', hR, hx⟩ hc
    have hrow : ∀ k, some k = v'.ownBlock → ¬ D k := by
      intro k hk hd
      rcases hR.moved k hk.symm with e | e
      · exact hDv k e.symm hd
      · have := hD k hd
        omega
    refine (replay b D (Inv K) ?_ base v' fs rs (d + 1) s1 s2 w3 hR.log (hR.chain (by omega) K) hR.inv (fun r hr => (hR.ok r hr).1) hrow).mono ?_
    · intro s w x hi
      refine hI K s _ _ hi (fun k _ hk => Below.heap_setCell _ _ _ _ hk) (fun o ho => ⟨World.cell?_setCell_other _ _ _ _ (by simp; try omega), World.frozen?_setCell _ _ _ _⟩)
    · rintro e w4 ⟨rfl, ⟨v2, hL2, ho2⟩, hi2, hF2⟩
      rcases hx with ⟨h0, _⟩ | ⟨_, hp⟩
      · exact absurd h0 hc
      · refine ⟨rfl, hc, K, v2, hL2, ?_, hi2, hp, hR.fr.trans hF2 (fun i _ hk => ?_)⟩
        · intro k hk
          rw [ho2] at hk
          exact hR.moved k hk
        · rcases hk with hk | hk
          · exact .inl hk
          · exact .inr (.inl hk)
  · rintro w3 ⟨K, s2, rs, v', hR, _⟩
    exact ⟨⟨v', hR.log.c0⟩, hR.log.c1, hR.log.f0, hR.log.f1⟩
  · rintro c w4 ⟨_, K, v', hL, _⟩
    exact ⟨⟨v', hL.c0⟩, hL.c1, hL.f0, hL.f1⟩
  · rintro e w' ⟨c, rfl, ⟨rfl, w3, ⟨K, s2, rs, v', hR, hx⟩, rfl⟩ | ⟨hc, w4, ⟨_, K, v', hL, hM, hi, hp, hF⟩, rfl⟩⟩
    · refine ⟨0, rfl, K, s2, ?_⟩
      have hpok : Pok K s2 rs.length := by
        rcases hx with ⟨_, h⟩ | ⟨h, _⟩
        · exact h
        · exact absurd rfl h
      have hinv : Inv K s2 (left' b d w3) := hI K s2 _ _ hR.inv (fun k h1 hk => (left'_fr b d w3).block k (by have := hD k h1; have := hR.fr.size; omega) hk) (left'_rest b d w3)
      have hfr := hR.fr.trans (left'_fr b d w3) (fun i _ e => .inr (.inl e))
      rcases left'_log hR.log with ⟨hd0, hL⟩ | ⟨hd0, hL⟩
      · refine ⟨rs, v', .inl ⟨rfl, hpok⟩, fun _ => ⟨hL, hR.moved, fun h => by omega, fun _ => hR.chain (by omega), hinv, ?_, hR.new, hfr⟩, hL, fun h => by omega, hR.moved, hinv, hfr⟩
        intro r hr
        refine ⟨fun p hp => (left'_fr b d w3).heap ((hR.ok r hr).1 p hp) ?_, (hR.ok r hr).2⟩
        exact ((hR.chain (by omega) K).keeps b D (Inv K) r hr p hp).2
      · refine ⟨[], .slice none 0 0, .inl ⟨rfl, hmono _ _ _ _ (Nat.zero_le _) hpok⟩, fun h => by omega, ?_, fun _ => ⟨rfl, rfl⟩, ?_, hinv, hfr⟩
        · rw [hz hd0]; simpa using hL
        · intro k hk
          cases hk
    · have hinv : Inv K s1 (left' b d w4) := hI K s1 _ _ hi (fun k h1 hk => (left'_fr b d w4).block k (by have := hD k h1; have := hF.size; omega) hk) (left'_rest b d w4)
      have hfr := hF.trans (left'_fr b d w4) (fun i _ e => .inr (.inl e))
      rcases left'_log hL with ⟨hd0, hL⟩ | ⟨hd0, hL⟩
      · exact ⟨c, rfl, K, s1, [], v', .inr ⟨hc, rfl, rfl, hp⟩, fun _ => ⟨by simpa using hL, hM, fun h => rfl, fun _ _ => .nil _, hinv, (fun r hr => by cases hr), (fun r hr => by cases hr), hfr⟩, by simpa using hL, fun h => by omega, hM, hinv, hfr⟩
      · refine ⟨c, rfl, K, s1, [], .slice none 0 0, .inr ⟨hc, rfl, rfl, hp⟩, fun h => by omega, ?_, fun _ => ⟨rfl, rfl⟩, ?_, hinv, hfr⟩
        · rw [hz hd0]; simpa using hL
        · intro k hk
          cases hk


theorem try_ran {κ σ : Type} (b base : Nat) (D : Nat → Prop) (Inv : κ → σ → World → Prop) (hI : Stable b D Inv)
    (v : Value) (fs : List Value) (d : Nat) (f : FuncId) (cap : Array Value) (w : World) (s1 : σ) (h : LogAt w b base v fs d) (hd : d ≤ 1000) (hz : d = 0 → fs = []) (hD : ∀ k, D k → k < w.heap.size) (hDv : ∀ k, some k = v.ownBlock → ¬ D k)
    (hin : Enters f cap) (Pok : κ → σ → Prop) (Pbad : Int → κ → Prop)
    (hrun : ∀ w1, LogAt w1 b base v fs (d + 1) → Fr (fun k => k = b) w w1 → (∀ o, 2 ≤ o → w1.cell? ⟨b, o, none⟩ = w.cell? ⟨b, o, none⟩ ∧ w1.frozen? ⟨b, o, none⟩ = w.frozen? ⟨b, o, none⟩) →
      Calls Try.prog f cap w1 fun e w3 => ∃ K s2 rs v', Ran b base D Inv v fs (d + 1) s1 w1 w3 K s2 rs v' ∧ ((∃ x, e = .returned x ∧ Pok K s2) ∨ ∃ c, c ≠ 0 ∧ e = .panicked (fault c) ∧ Pbad c K)) :
    Calls Try.prog 16 #[.pointer (some ⟨b, 0, none⟩), .func (.func f) #[] cap] w fun e w' =>
      ∃ c : Int, e = .returned (.int .i64 c) ∧ ∃ K s3 rs v', ((c = 0 ∧ Pok K s3) ∨ (c ≠ 0 ∧ s3 = s1 ∧ Pbad c K)) ∧
        (0 < d → Ran b base D Inv v fs d s1 w w' K s3 rs v') ∧ LogAt w' b base v' (fs ++ rs.map Rec.fn) d ∧ (d = 0 → rs = [] ∧ v' = .slice none 0 0) ∧ LMoved w v v' ∧ Inv K s3 w' ∧ Fr (fun k => D k ∨ k = b ∨ some k = v.ownBlock) w w' :=
  (try_ranR b base D Inv hI v fs d f cap w s1 h hd hz hD hDv hin (fun K s _ => Pok K s) (fun _ _ _ _ _ h => h) Pbad hrun).mono fun _ _ ⟨c, he, K, s3, rs, v', hc, hr⟩ => ⟨c, he, K, s3, rs, v', hc.imp id (fun ⟨h1, h2, _, h4⟩ => ⟨h1, h2, h4⟩), hr⟩

end Go.Proofs.Ytmdcalkfapcafaa
