/-
  Law 09: UndoOrder.
-/
import Derived.Test.YtmdcalkfapcafaaL09a
namespace Go.Proofs.Ytmdcalkfapcafaa
open Go.RowKit

theorem Try.info3 : (Try.prog.info? 3).map (fun i => (i.zero, i.size, i.bytes)) = some (some (.int .i64 0), 1, 8) := by kernel_rfl

/-- A row of numbers that a variable holds. -/
structure RowAt (w : World) (bl : Nat) (v : Value) (s : List Int) : Prop where
  at_ : w.heap[bl]? = some (.cells #[v] 22 (0, 0))
  own : w.ownsRow 0 3 1 v s.length (s.map (.int .i64 ·))
  apart : v.ownBlock ≠ some bl

theorem order_step_enters (a c : Value) : ∀ w : World, (callFunc 18 #[a, c]).run Try.prog w = .ok (.enter 18 #[a, c]) w := fun w => by kernel_rfl

set_option maxHeartbeats 400000 in
theorem order_step (bl bi : Nat) (v : Value) (s : List Int) (i : Int) (w : World) (h : RowAt w bl v s) (hi : w.heap[bi]? = some (.cells #[.int .i64 i] 3 (0, 0))) (hl : s.length ≤ 1000) :
    Calls Try.prog 18 #[.pointer (some ⟨bl, 0, none⟩), .pointer (some ⟨bi, 0, none⟩)] w fun e w' => e = .returned (.tuple #[]) ∧
      ∃ v', RowAt w' bl v' (s ++ [i]) ∧ LMoved w v v' ∧ Fr (fun k => k = bl ∨ some k = v.ownBlock) w w' := by
  obtain ⟨i0, hi0, hz0, hz1, hz2⟩ := info_parts Try.info3
  have hb := lt_of_block h.at_
  have c0 := cell_of_one h.at_
  have f0 := free_of_one h.at_
  have c1 := cell_of_one hi
  have hlen1 : s.length + 1 ≤ maxLen := by unfold maxLen; omega
  have H := hid h
  clear h hi
  go_enter Try.func18, Try.ntmps18
  go_wp2_with (at_builtin; (refine wpList_append_lies _ rfl (.tmp 2) (.tmp 4) 22 rfl 0 3 i0 (.int .i64 0) 1 8 Try.underlying22 hi0 hz0 hz1 hz2 rfl (by decide) v _ _ rfl (H.out.own.alloc _) ⟨w.heap.size, 0, none⟩ 1 1 [.int .i64 i] rfl rfl (news_one (by simp)) (one_one rfl) (by decide) hlen1 (by omega) (by simp) (w.heap.size + 1) (by simp) ?_; intro g c w2 hown2 hgrow hg hlt2; have c2 := (hgrow.cell_far ⟨bl, 0, none⟩ (by simp; omega) (fun e => H.out.apart e.symm)).trans (cellA hb c0 _); have f2 := (hgrow.frozen_far ⟨bl, 0, none⟩ (by simp; omega) (fun e => H.out.apart e.symm)).trans (frzA hb f0 _); have Hown2 := hid hown2; have Hgrow := hid hgrow; have Hg := hid hg; clear hown2 hgrow hg))
  first | go_end0 | go_returns
  have hne : g ≠ bl := by
    rcases Hg.out with hg | hg
    · intro e; subst e; exact H.out.apart hg
    · omega
  have hF : Fr (fun k => k = bl ∨ some k = v.ownBlock) w w2 := (((Fr.refl (fun k => k = bl ∨ some k = v.ownBlock) w).alloc (.cells #[.int .i64 i] 3))).trans (Fr.ofGrown Hgrow.out) (fun _ _ e => .inr e)
  refine ⟨rfl, .slice (some ⟨g, 0, none⟩) (s.length + 1) c, ⟨?_, ?_, by simpa [Value.ownBlock] using hne⟩, ?_, hF.setCell (fun _ => .inl rfl) _⟩
  · have hB := Hgrow.out.block bl (by simp; omega) (fun e => H.out.apart e.symm)
    exact heap_set_same (hB.trans (heap_old H.out.at_ _)) _
  · have := ownsRow_setCell_other Hown2.out (a := ⟨bl, 0, none⟩) (by simpa [Value.ownBlock] using hne) (.slice (some ⟨g, 0, none⟩) (s.length + 1) c)
    simpa using this
  · intro k hk
    have e : g = k := by simpa [Value.ownBlock] using hk
    subst e
    rcases Hg.out with hg | hg
    · exact .inl hg
    · exact .inr (by omega)

/-- The step that UndoOrder remembers. -/
def recB (bl bi j : Nat) : Rec := ⟨18, #[.pointer (some ⟨bl, 0, none⟩), .pointer (some ⟨bi, 0, none⟩)], [(bi, .cells #[.int .i64 j] 3 (0, 0))]⟩
/-- The steps that have been remembered so far. -/
structure Steps (w w' : World) (b base bl : Nat) (v v' : Value) (rs : List Rec) : Prop where
  log : LogAt w' b base v' (rs.map Rec.fn) 1
  moved : LMoved w v v'
  each : ∀ j r, rs[j]? = some r → ∃ bi, r = recB bl bi j ∧ w.heap.size ≤ bi ∧ bi < w'.heap.size ∧ some bi ≠ v'.ownBlock ∧ r.ok w'
  fr : Fr (logs b v) w w'

set_option maxHeartbeats 400000 in
theorem order_run (bn b bl bf base : Nat) (n : Nat) (fails : Bool) (v : Value) (w : World) (hL : LogAt w b base v [] 1) (hbase : base ≤ w.heap.size) (hn : w.heap[bn]? = some (.cells #[.int .i64 n] 3 (0, 0))) (hf : w.heap[bf]? = some (.cells #[.bool fails] 4 (0, 0)))
    (hn20 : n ≤ 20) (hbf : bf ≠ b) (hbfv : some bf ≠ v.ownBlock) :
    Calls Try.prog 17 #[.pointer (some ⟨bn, 0, none⟩), .pointer (some ⟨b, 0, none⟩), .pointer (some ⟨bl, 0, none⟩), .pointer (some ⟨bf, 0, none⟩)] w fun e w' =>
      (∃ rs v', rs.length = n ∧ Steps w w' b base bl v v' rs) ∧ e = if fails then .panicked (fault 8) else .returned (.tuple #[]) := by
  have cn := cell_of_one hn
  have HL := hid hL
  have Hn := hid hn
  have Hf := hid hf
  have hb := hL.lt
  have hvl : ∀ k, some k = v.ownBlock → k < w.heap.size := fun k hk => (hL.own.lt k hk.symm).2
  have Hvl := hid hvl
  clear hL hn hf hvl
  go_enter Try.func17, Try.ntmps17
  go_wp2_with fail
  go_loopw [6] (fun i w' => ∃ j : Nat, j ≤ n ∧ i = .int .i64 j ∧ ∃ rs v', rs.length = j ∧ Steps w w' b base bl v v' rs) (fun i _ => n - (intOf i).toNat)
  case atStart =>
    exact ⟨0, by omega, rfl, [], v, rfl, ⟨HL.out, LMoved.refl _ _, by simp, Fr.refl _ _⟩⟩
  case round =>
    obtain ⟨j, hj, rfl, rs, v1, hr, hS⟩ := hrel
    have HS := hid hS
    have hsz := hS.fr.size
    have cf := cell_of_one (hS.fr.heap Hf.out (fun h => h.elim hbf hbfv))
    clear hS
    by_cases hjn : j < n
    · have hd : decide (j < n) = true := by simp; omega
      go_wp2_with fail
      have hLa : LogAt (wr.alloc (.cells #[.int .i64 j] 3)) b base v1 (rs.map Rec.fn) 1 := HS.out.log.fr ((Fr.refl (fun _ => False) _).alloc _) id (fun _ _ => id)
      refine (back_some b base v1 _ 1 _ _ _ hLa (by omega) (by simp; omega) (by simp; omega)).mono ?_
      rintro e w2 ⟨rfl, v2, hL2, hM2, hF2, hR2⟩
      have hsz2 := hF2.size
      have hS2 : Steps w w2 b base bl v v2 (rs ++ [recB bl wr.heap.size j]) := by
        have hv1 : ∀ k, some k = v1.ownBlock → k < wr.heap.size := fun k hk => (HS.out.log.own.lt k hk.symm).2
        have hb2 : b < wr.heap.size := by omega
        have hM3 : LMoved wr v1 v2 := fun k hk => (hM2 k hk).imp id (fun h => by simp at h; omega)
        refine ⟨by simpa [recB, Rec.fn, closure] using hL2, HS.out.moved.trans hM3 hsz, ?_, ?_⟩
        · intro i r hi
          rw [List.getElem?_append] at hi
          split at hi
          · obtain ⟨bi, h1, h2, h3, h4, h5⟩ := HS.out.each i r hi
            refine ⟨bi, h1, h2, by simp at hsz2; omega, hM3.not h3 h4, ?_⟩
            intro p hp
            refine hF2.heap (heap_old (h5 p hp) _) ?_
            have hpb : p.1 = bi := by rw [h1] at hp; simp [recB] at hp; rw [hp]
            rw [hpb]
            rintro (h | h)
            · omega
            · exact h4 h
          · rename_i hlt
            have hi0 : i = j := by
              have := List.getElem?_eq_some_iff.1 hi
              obtain ⟨h, _⟩ := this
              simp at h
              omega
            subst hi0
            rw [hr] at hi
            simp at hi
            subst hi
            refine ⟨wr.heap.size, rfl, hsz, by simp at hsz2; omega, ?_, ?_⟩
            · intro e
              rcases hM2 _ e.symm with h | h
              · have := hv1 _ h.symm; omega
              · simp at h; omega
            · intro p hp
              simp [recB] at hp
              subst hp
              exact hF2.heap (heap_new _ _) (fun h => h.elim (by omega) (fun e => by have := hv1 _ e; omega))
        · refine (HS.out.fr.trans ((Fr.refl (fun _ => False) wr).alloc (.cells #[.int .i64 j] 3)) (fun _ _ h => h.elim)).trans hF2 (fun i hi h => ?_)
          rcases h with h | h
          · exact .inl h
          · rcases HS.out.moved i h.symm with e | e
            · exact .inr e.symm
            · omega
      have HS2 := hid hS2
      clear hL2 hM2 hF2 hR2 hS2 hLa
      go_wp2
      go_roundw
      case rel => exact ⟨j + 1, by omega, by go_num, _, v2, by simp [hr], HS2.out⟩
      case measure => simp [intOf]; omega
    · have hd : decide (j < n) = false := by simp; omega
      obtain rfl : j = n := by omega
      cases fails with
      | true =>
        go_wp2_with fail
        refine (fail_any _ _).mono ?_
        rintro e w' ⟨rfl, rfl⟩
        exact ⟨rfl, ⟨rs, v1, hr, HS.out⟩, rfl⟩
      | false =>
        go_wp2
        go_end0
        exact ⟨⟨rs, hr, v1, HS.out⟩, rfl⟩

/-- What l holds when the first m of n steps are yet to be undone. -/
def backs (n m : Nat) : List Int := (((List.range n).drop m).map Int.ofNat).reverse
theorem backs_all (n : Nat) : backs n n = [] := by simp [backs]
theorem backs_step (n m : Nat) (h : m < n) : backs n m = backs n (m + 1) ++ [(m : Int)] := by
  unfold backs
  rw [List.drop_eq_getElem_cons (by simpa using h)]
  simp
theorem backs_length (n m : Nat) : (backs n m).length = n - m := by simp [backs]
theorem backs_get (n j : Nat) (h : j < n) : (backs n 0)[j]? = some ((n : Int) - 1 - j) := by
  unfold backs
  simp [h]
  omega

/-- The blocks that the way back writes. -/
def wayBack (bl b0 B : Nat) (k : Nat) : Prop := k = bl ∨ k = b0 ∨ B ≤ k
def InvL (b bl b0 B : Nat) (s : List Int) (w : World) : Prop := s.length ≤ 100 ∧ B ≤ w.heap.size ∧ ∃ v, RowAt w bl v s ∧ ∀ k, some k = v.ownBlock → wayBack bl b0 B k ∧ k ≠ b

theorem order_chain (b bl b0 B n : Nat) (hb : b < B) (hbl : bl ≠ b) (hn : n ≤ 20) (rs : List Rec) (hr : rs.length = n) (each : ∀ j r, rs[j]? = some r → ∃ bi, r = recB bl bi j ∧ bi < B ∧ bi ≠ bl ∧ bi ≠ b0 ∧ bi ≠ b) :
    Chain b (wayBack bl b0 B) (InvL b bl b0 B) (backs n 0) rs [] := by
  have h : ∀ m, m ≤ n → Chain b (wayBack bl b0 B) (InvL b bl b0 B) (backs n 0) (rs.take m) (backs n m) := by
    intro m
    induction m with
    | zero => intro _; simpa using Chain.nil _
    | succ m ih =>
      intro hm
      have hm2 : m < rs.length := by omega
      rw [List.take_succ_eq_append_getElem hm2]
      refine .snoc (ih (by omega)) ?_
      obtain ⟨bi, h1, h2, h3, h4, h5⟩ := each m _ (List.getElem?_eq_getElem hm2)
      rw [h1, backs_step n m (by omega)]
      refine ⟨?_, order_step_enters _ _, ?_⟩
      · intro p hp
        simp [recB] at hp
        subst hp
        refine ⟨?_, h5⟩
        rintro (h | h | h)
        · exact h3 h
        · exact h4 h
        · simp only [] at h; omega
      · rintro w ⟨hs, hB, v, hR, hv⟩ hok
        have hl := backs_length n (m + 1)
        refine (order_step bl bi v _ m w hR (hok (bi, _) (by simp [recB])) (by omega)).mono ?_
        rintro e w' ⟨rfl, v', hR', hM, hF⟩
        refine ⟨⟨_, rfl⟩, ⟨by simp; omega, Nat.le_trans hB hF.size, v', hR', ?_⟩, hF.mono ?_, LogSame.ofBlock (hF.block b (by omega) ?_)⟩
        · intro k hk
          rcases hM k hk.symm with h | h
          · exact hv k h.symm
          · exact ⟨.inr (.inr (by omega)), by omega⟩
        · rintro i hi (h | h)
          · exact .inl h
          · exact (hv i h).1
        · rintro (h | h)
          · exact hbl h.symm
          · exact (hv b h).2 rfl
  have := h n (Nat.le_refl _)
  rwa [List.take_of_length_le (by omega), backs_all] at this

theorem enters_order (a c d e : Value) : Enters 17 #[a, c, d, e] := fun w => by kernel_rfl

set_option maxHeartbeats 400000 in
theorem order_try (bn b bl bf b0 : Nat) (n : Nat) (fails : Bool) (v0 : Value) (w : World) (hL : LogAt w b 0 (.slice none 0 0) [] 0) (hn : w.heap[bn]? = some (.cells #[.int .i64 n] 3 (0, 0))) (hf : w.heap[bf]? = some (.cells #[.bool fails] 4 (0, 0)))
    (hl : RowAt w bl v0 []) (h0 : ∀ k, some k = v0.ownBlock → k = b0) (hn20 : n ≤ 20) (hbn : bn ≠ b) (hbf : bf ≠ b) (hbl : bl ≠ b) (hb0 : b0 ≠ b) (hb0l : b0 < w.heap.size) :
    Calls Try.prog 16 #[.pointer (some ⟨b, 0, none⟩), .func (.func 17) #[] #[.pointer (some ⟨bn, 0, none⟩), .pointer (some ⟨b, 0, none⟩), .pointer (some ⟨bl, 0, none⟩), .pointer (some ⟨bf, 0, none⟩)]] w fun e w' =>
      e = .returned (.int .i64 (if fails then 8 else 0)) ∧ (∃ v', RowAt w' bl v' (if fails then backs n 0 else [])) ∧ Fr (fun k => k = b ∨ k = bl ∨ k = b0) w w' := by
  have hb := hL.lt
  have hll := lt_of_block hl.at_
  have hbnl := lt_of_block hn
  have hbfl := lt_of_block hf
  have h1 : LogAt (w.setCell ⟨b, 1, none⟩ (.int .i64 ((0 + 1 : Nat) : Int))) b 0 (.slice none 0 0) [] 1 :=
    ⟨(World.cell?_setCell_other _ _ _ _ (by simp)).trans hL.c0, World.cell?_setCell_same _ _ _ hL.c1, frzS hL.f0 _, frzS hL.f1 _, ownsRow_setCell_other hL.own hL.apart _, hL.apart, hL.one⟩
  have ha := h1.fr ((Fr.refl (fun _ => False) _).alloc (.cells #[.int .i64 0] 26)) id (fun _ _ => id)
  have hF1 : Fr (fun k => k = b) w ((w.setCell ⟨b, 1, none⟩ (.int .i64 ((0 + 1 : Nat) : Int))).alloc (.cells #[.int .i64 0] 26)) := ((Fr.refl (fun k => k = b) w).setCell (p := ⟨b, 1, none⟩) (fun _ => rfl) _).alloc _
  have hs0 : (w.setCell ⟨b, 1, none⟩ (.int .i64 ((0 + 1 : Nat) : Int))).heap.size = w.heap.size := by simp
  have hw1 : ((w.setCell ⟨b, 1, none⟩ (.int .i64 ((0 + 1 : Nat) : Int))).alloc (.cells #[.int .i64 0] 26)).heap.size = w.heap.size + 1 := by simp
  have hnew := heap_newk (w := w.setCell ⟨b, 1, none⟩ (.int .i64 ((0 + 1 : Nat) : Int))) (k := w.heap.size) (.cells #[.int .i64 0] 26) (by simp)
  generalize hgw : (w.setCell ⟨b, 1, none⟩ (.int .i64 ((0 + 1 : Nat) : Int))).alloc (.cells #[.int .i64 0] 26) = w1 at *
  have nov : ∀ k, some k ≠ (Value.slice none 0 0).ownBlock := fun k => by simp [Value.ownBlock]
  refine (log_try b 0 _ [] 0 _ _ w hL (by omega)
    (fun c w3 => c = (if fails then 8 else 0) ∧ ∃ (rs : List Rec) (v' : Value), LogAt w3 b 0 v' (rs.map Rec.fn) 1 ∧ rs.length = n ∧ (∀ j r, rs[j]? = some r → ∃ bi, r = recB bl bi j ∧ w.heap.size < bi ∧ bi < w3.heap.size ∧ r.ok w3) ∧ (∀ k, v'.ownBlock = some k → w.heap.size < k ∧ k < w3.heap.size) ∧ Fr (fun k => k = b) w w3)
    (fun c w4 => c = (if fails then 8 else 0) ∧ fails = true ∧ Leaving b 0 w4 ∧ (∃ v', RowAt w4 bl v' (backs n 0) ∧ v'.ownBlock ≠ some b) ∧ Fr (fun k => k = b ∨ k = bl ∨ k = b0) w w4) ?_ ?_ ?_ ?_).mono ?_
  · have hR := order_run bn b bl bf 0 n fails (.slice none 0 0) w1 ha (Nat.zero_le _) (hF1.heap hn hbn) (hF1.heap hf hbf) hn20 hbf (nov _)
    refine (guard_any _ _ _ (fun c w' => c = (if fails then 8 else 0) ∧ ∃ rs v', rs.length = n ∧ Steps w1 w' b 0 bl (.slice none 0 0) v' rs) (enters_order _ _ _ _) ?_).mono ?_
    · rw [hgw, hs0]
      refine hR.mono ?_
      rintro e w3 ⟨⟨rs, v', hr, hS⟩, he⟩
      refine ⟨hS.fr.heap hnew (fun h => h.elim (by omega) (nov _)), ?_⟩
      cases fails with
      | true => exact .inr ⟨8, by simpa using he, rfl, rs, v', hr, hS⟩
      | false => exact .inl ⟨_, by simpa using he, rfl, rs, v', hr, hS⟩
    · rintro e w3 ⟨c, w', rfl, ⟨hc, rs, v', hr, hS⟩, hF⟩
      rw [hs0] at hF
      have hsz := hS.fr.size
      have hvn : ∀ k, v'.ownBlock = some k → w.heap.size < k := fun k hk => by
        rcases hS.moved k hk with h | h
        · exact absurd h.symm (nov _)
        · omega
      refine ⟨c, rfl, hc, rs, v', hS.log.fr hF (by omega) (fun k hk => by have := hvn k hk.symm; omega), hr, ?_, ?_, ?_⟩
      · intro j r hj
        obtain ⟨bi, e1, e2, e3, e4, e5⟩ := hS.each j r hj
        refine ⟨bi, e1, by omega, Nat.lt_of_lt_of_le e3 hF.size, fun p hp => hF.heap (e5 p hp) ?_⟩
        rw [e1] at hp
        simp [recB] at hp
        subst hp
        simp only []
        omega
      · exact fun k hk => ⟨hvn k hk, Nat.lt_of_lt_of_le (hS.log.own.lt k hk).2 hF.size⟩
      · refine (hF1.trans (T := fun k => k = b) (hS.fr.mono (fun i _ h => h.elim id (fun e => absurd e (nov _)))) (fun _ _ h => h)).trans hF (fun i hi h => by omega)
  · rintro c w3 ⟨hc, rs, v', hL3, hr, each, hv, hF⟩ hc0
    have hfl : fails = true := by
      cases fails with
      | true => rfl
      | false => exact absurd hc hc0
    have hsz := hF.size
    have hch := order_chain b bl b0 w3.heap.size n (by omega) hbl hn20 rs hr (fun j r hj => by
      obtain ⟨bi, e1, e2, e3, e4⟩ := each j r hj
      exact ⟨bi, e1, e3, by omega, by omega, by omega⟩)
    refine (replay b (wayBack bl b0 w3.heap.size) (InvL b bl b0 w3.heap.size) ?_ 0 v' [] rs 1 _ _ w3 (by simpa using hL3) hch ⟨by simp, Nat.le_refl _, v0, ⟨hF.heap hl.at_ hbl, hF.own hl.own (fun k hk => by rw [h0 k hk]; exact hb0), hl.apart⟩, fun k hk => ⟨.inr (.inl (h0 k hk)), by rw [h0 k hk]; exact hb0⟩⟩ ?_ ?_).mono ?_
    · rintro s x y ⟨a1, a2, va, a3, a4⟩
      refine ⟨a1, by simpa using a2, va, ⟨heap_set_other a3.at_ hbl _, ownsRow_setCell_other a3.own (fun e => (a4 b e.symm).2 rfl) _, a3.apart⟩, a4⟩
    · intro r hrm
      obtain ⟨j, hj, e⟩ := List.getElem_of_mem hrm
      obtain ⟨bi, e1, e2, e3, e4⟩ := each j r (by rw [← e]; exact List.getElem?_eq_getElem hj)
      exact e4
    · intro k hk
      have := hv k hk.symm
      rintro (h | h | h) <;> omega
    · rintro e w4 ⟨rfl, ⟨v2, hL4, ho⟩, ⟨a1, a2, va, a3, a4⟩, hF4⟩
      refine ⟨rfl, hc, hfl, ⟨⟨_, hL4.c0⟩, hL4.c1, hL4.f0, hL4.f1⟩, ⟨va, a3, fun e => (a4 b e.symm).2 rfl⟩, (hF.mono (fun _ _ h => .inl h)).trans hF4 (fun i hi h => ?_)⟩
      rcases h with (h | h | h) | h
      · exact .inr (.inl h)
      · exact .inr (.inr h)
      · omega
      · exact .inl h
  · rintro w3 ⟨hc, rs, v', hL3, _⟩
    exact ⟨⟨_, hL3.c0⟩, hL3.c1, hL3.f0, hL3.f1⟩
  · rintro c w4 ⟨hc, _, h, _⟩
    exact h
  · rintro e w' ⟨c, rfl, ⟨rfl, w3, ⟨hc, rs, v', hL3, hr, each, hv, hF⟩, rfl⟩ | ⟨hc0, w4, ⟨hc, hfl, hle, ⟨va, hva, hvb⟩, hF⟩, rfl⟩⟩
    · have hfl : fails = false := by
        cases fails with
        | true => exact absurd hc (by decide)
        | false => rfl
      subst hfl
      have hL' := left'_fr b 0 w3
      refine ⟨rfl, ⟨v0, (hF.trans hL' (fun _ _ h => h)).heap hl.at_ hbl, (hF.trans hL' (fun _ _ h => h)).own hl.own (fun k hk => by rw [h0 k hk]; exact hb0), hl.apart⟩, (hF.trans hL' (fun _ _ h => h)).mono (fun _ _ h => .inl h)⟩
    · subst hfl
      have hL' := left'_fr b 0 w4
      refine ⟨by rw [hc], ⟨va, hL'.heap hva.at_ hbl, hL'.own hva.own (fun k hk e => hvb (by rw [← hk, e])), hva.apart⟩, hF.trans hL' (fun _ _ h => .inl h)⟩

end Go.Proofs.Ytmdcalkfapcafaa
