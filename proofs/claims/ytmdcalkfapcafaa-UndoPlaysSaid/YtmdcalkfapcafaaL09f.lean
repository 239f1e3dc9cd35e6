/-
  Law 09: UndoPlays: what the reference plays.
-/
import Derived.Test.YtmdcalkfapcafaaGuard
import Derived.IntWalk
import Derived.Laws.ResultCell
namespace Go.Proofs.Ytmdcalkfapcafaa
open Go.RowKit

/-- A step. -/
structure ActN where
  kind : Nat
  at' : Nat
  to' : Nat
def ActN.ok (a : ActN) : Prop := a.kind < 5 ∧ a.at' < 4 ∧ 1 ≤ a.to' ∧ a.to' ≤ 256

/-- The steps lie in block bl. -/
structure ActsAt (w : World) (A : Option Addr) (bl cap : Nat) (l : List ActN) : Prop where
  len : l.length ≤ 40
  le : l.length ≤ cap
  ok : ∀ a ∈ l, a.ok
  reads : (A = none ∧ l = []) ∨ (A = some ⟨bl, 0, none⟩ ∧ ∀ i (h : i < l.length), w.cell? ⟨bl, i * 3, none⟩ = some (.int .i64 (l[i].kind : Int)) ∧ w.cell? ⟨bl, i * 3 + 1, none⟩ = some (.int .i64 (l[i].at' : Int)) ∧ w.cell? ⟨bl, i * 3 + 2, none⟩ = some (.int .i64 (l[i].to' : Int)))
theorem ActsAt.fr {w w' : World} {A : Option Addr} {bl cap : Nat} {l : List ActN} (h : ActsAt w A bl cap l) (hB : bl < w.heap.size → w'.heap[bl]? = w.heap[bl]?) : ActsAt w' A bl cap l := by
  refine ⟨h.len, h.le, h.ok, ?_⟩
  rcases h.reads with h1 | ⟨rfl, h1⟩
  · exact .inl h1
  · refine .inr ⟨rfl, fun i hi => ?_⟩
    obtain ⟨h2, h3, h4⟩ := h1 i hi
    have hB2 := hB (World.block_lt_of_cell? _ _ h2)
    exact ⟨(World.cell?_of_block (a := ⟨bl, i * 3, none⟩) hB2).trans h2, (World.cell?_of_block (a := ⟨bl, i * 3 + 1, none⟩) hB2).trans h3, (World.cell?_of_block (a := ⟨bl, i * 3 + 2, none⟩) hB2).trans h4⟩
theorem ActsAt.get {w : World} {A : Option Addr} {bl cap : Nat} {l : List ActN} (h : ActsAt w A bl cap l) {q : Nat} (hq : q < l.length) : A = some ⟨bl, 0, none⟩ ∧ w.cell? ⟨bl, q * 3, none⟩ = some (.int .i64 (l[q].kind : Int)) ∧ w.cell? ⟨bl, q * 3 + 1, none⟩ = some (.int .i64 (l[q].at' : Int)) ∧ w.cell? ⟨bl, q * 3 + 2, none⟩ = some (.int .i64 (l[q].to' : Int)) := by
  rcases h.reads with ⟨_, h1⟩ | ⟨rfl, h1⟩
  · rw [h1] at hq; simp at hq
  · exact ⟨rfl, h1 q hq⟩

/-- What the cells hold. -/
abbrev C4 := Nat → Int
def C4.set (c : C4) (i : Nat) (y : Int) : C4 := fun j => if j = i then y else c j
def C4.vals (c : C4) : List Value := [.int .i64 (c 0), .int .i64 (c 1), .int .i64 (c 2), .int .i64 (c 3)]
def c0 : C4 := fun _ => 0
theorem C4.store (c : C4) (i : Nat) (y : Int) (h : i < 4) : (#[.int .i64 (c 0), .int .i64 (c 1), .int .i64 (c 2), .int .i64 (c 3)] : Array Value).setIfInBounds i (.int .i64 y) = #[.int .i64 (c.set i y 0), .int .i64 (c.set i y 1), .int .i64 (c.set i y 2), .int .i64 (c.set i y 3)] := by
  rcases (by omega : i = 0 ∨ i = 1 ∨ i = 2 ∨ i = 3) with rfl | rfl | rfl | rfl <;> simp [C4.set]

theorem C4.read {w : World} {b : Nat} {T : TypeId} {c : C4} (h : w.heap[b]? = some (.cells #[.int .i64 (c 0), .int .i64 (c 1), .int .i64 (c 2), .int .i64 (c 3)] T (0, 0))) {i : Nat} (hi : i < 4) : w.cell? ⟨b, i, none⟩ = some (.int .i64 (c i)) := by
  rw [cell_of_block h]
  rcases (by omega : i = 0 ∨ i = 1 ∨ i = 2 ∨ i = 3) with rfl | rfl | rfl | rfl <;> simp

/-- The document's play: a stack of what was when each Try began. -/
def playFrom : List ActN → C4 → List C4 → C4
  | [], c, _ => c
  | a :: l, c, st => if a.kind = 0 then playFrom l (c.set a.at' a.to') st else if a.kind = 1 then playFrom l (c.set a.at' 0) st else if a.kind = 2 then playFrom l c (c :: st)
      else if a.kind = 3 then playFrom l c st.tail else playFrom l (st.headD c) st.tail

theorem Try.infoState : (Try.prog.info? 62).map (fun i => (i.zero, i.size, i.bytes)) = some (some (.agg #[.int .i64 0, .int .i64 0, .int .i64 0, .int .i64 0]), 4, 32) := by kernel_rfl

def stCells (st : List C4) : List Value := st.reverse.flatMap C4.vals
theorem stCells_cons (c : C4) (st : List C4) : stCells (c :: st) = stCells st ++ c.vals := by simp [stCells]
theorem stCells_length (st : List C4) : (stCells st).length = st.length * 4 := by
  induction st with
  | nil => rfl
  | cons a l ih => rw [stCells_cons, List.length_append, ih]; simp [C4.vals]; omega

theorem results_cell {fn : Func} {p : Tmp} {ty : TypeId} (h : fn.results = #[.cell p ty]) (tmps : Array Value) (P : Program) (w : World) :
    (results fn tmps).run P w = ((asAddr (tmps.getD p undef)).run P w).andThen fun a w₁ => (loadVar ty a).run P w₁ := by
  simp only [results, h]
  simp [Sem.run_bind, Result.andThen]
theorem wrap64_small (m : Nat) (h : m ≤ 1000) : wrap64 (m : Int) = m := IntWalk.wrap64_in _ (by omega)
theorem own_shape {w : World} {base e size n : Nat} {v : Value} {xs : List Value} (h : w.ownsRow base e size v n xs) : ∃ ao cap, v = .slice ao n cap ∧ n ≤ cap ∧ cap ≤ maxLen ∧ (0 < n → ∃ g, ao = some ⟨g, 0, none⟩ ∧ ∀ i, i < n * size → w.cell? ⟨g, i, none⟩ = some (xs.getD i .nilFunc)) := by
  obtain ⟨hl, h⟩ := h
  rcases h with ⟨rfl, rfl⟩ | ⟨g, c, cur, rfl, h1, h2, h3, h4, h5, h6⟩
  · exact ⟨none, 0, rfl, by simp, by simp, fun h => by omega⟩
  · refine ⟨some ⟨g, 0, none⟩, c, rfl, h3, h4, fun _ => ⟨g, rfl, fun i hi => ?_⟩⟩
    rw [cell_of_block h2, ← h6]
    have hc : i < cur.size := by rw [h5]; exact Nat.lt_of_lt_of_le hi (Nat.mul_le_mul_right _ h3)
    simp [List.getD, hc, hi]
theorem own_pop {w : World} {base e size n m cap : Nat} {ao : Option Addr} {xs : List Value} (h : w.ownsRow base e size (.slice ao n cap) n xs) (hm : m ≤ n) (hn : 0 < n) : w.ownsRow base e size (.slice ao m cap) m (xs.take (m * size)) := by
  obtain ⟨hl, h⟩ := h
  have hms : m * size ≤ n * size := Nat.mul_le_mul_right _ hm
  refine ⟨by rw [List.length_take]; omega, ?_⟩
  rcases h with ⟨_, h⟩ | ⟨g', c', cur, hv, h1, h2, h3, h4, h5, h6⟩
  · omega
  · cases hv
    refine .inr ⟨g', cap, cur, rfl, h1, h2, by omega, h4, h5, ?_⟩
    rw [← h6, List.take_take, Nat.min_eq_left hms]

theorem pop_own {w : World} {B m cp : Nat} {T : TypeId} {ao : Option Addr} {c1 : C4} {st1 : List C4} (h : w.ownsRow B T 4 (.slice ao (m + 1) cp) (m + 1) (stCells (c1 :: st1))) (hm : st1.length = m) : w.ownsRow B T 4 (.slice ao m cp) m (stCells st1) := by
  have h1 := own_pop (m := m) h (by omega) (by omega)
  rwa [stCells_cons, List.take_left' (by rw [stCells_length, hm])] at h1
theorem top_cells {w : World} {B m cp : Nat} {T : TypeId} {ao : Option Addr} {c1 : C4} {st1 : List C4} (h : w.ownsRow B T 4 (.slice ao (m + 1) cp) (m + 1) (stCells (c1 :: st1))) (hm : st1.length = m) :
    ∃ g, ao = some ⟨g, 0, none⟩ ∧ w.cell? ⟨g, m * 4, none⟩ = some (.int .i64 (c1 0)) ∧ w.cell? ⟨g, m * 4 + 1, none⟩ = some (.int .i64 (c1 1)) ∧ w.cell? ⟨g, m * 4 + 2, none⟩ = some (.int .i64 (c1 2)) ∧ w.cell? ⟨g, m * 4 + 3, none⟩ = some (.int .i64 (c1 3)) := by
  obtain ⟨ao', cp', hv, _, _, hc⟩ := own_shape h
  cases hv
  obtain ⟨g, rfl, hd⟩ := hc (by omega)
  clear hc
  have hl : (stCells st1).length = m * 4 := by rw [stCells_length, hm]
  refine ⟨g, rfl, (hd _ (by omega)).trans ?_, (hd _ (by omega)).trans ?_, (hd _ (by omega)).trans ?_, (hd _ (by omega)).trans ?_⟩
  all_goals rw [stCells_cons, List.getD_eq_getElem?_getD, List.getElem?_append_right (by omega), hl]
  all_goals simp [C4.vals]

set_option maxHeartbeats 1000000 in
theorem play_any (W : World) (A : Option Addr) (bl cap : Nat) (l : List ActN) (h : ActsAt W A bl cap l) :
    Calls Try.prog 29 #[.slice A l.length cap] W fun e w' => e = .returned (.agg #[.int .i64 (playFrom l c0 [] 0), .int .i64 (playFrom l c0 [] 1), .int .i64 (playFrom l c0 [] 2), .int .i64 (playFrom l c0 [] 3)]) ∧ Below W.heap.size W w' := by
  obtain ⟨i0, hi, hz0, hz1, hz2⟩ := info_parts Try.infoState
  have H := hid h
  have hlen := h.len
  clear h
  go_enter Try.func29, Try.ntmps29
  go_wp2_with fail
  go_loopw [4, 12] (fun v x wr => ∃ (q : Nat) (c : C4) (st : List C4), q ≤ l.length ∧ x = .int .i64 q ∧ st.length ≤ q ∧ playFrom l c0 [] = playFrom (l.drop q) c st ∧ wr.heap[W.heap.size + 1]? = some (.cells #[.int .i64 (c 0), .int .i64 (c 1), .int .i64 (c 2), .int .i64 (c 3)] 62 (0, 0)) ∧
    wr.heap[W.heap.size]? = some (.cells #[.int .i64 0, .int .i64 0, .int .i64 0, .int .i64 0] 62 (0, 0)) ∧ wr.ownsRow (W.heap.size + 2) 62 4 v st.length (stCells st) ∧ Below W.heap.size W wr ∧ W.heap.size + 2 ≤ wr.heap.size) (fun _ x _ => l.length - (intOf x).toNat)
  case atStart =>
    refine ⟨0, c0, [], by omega, rfl, by simp, by simp, heap_old (heap_newk _ (by simp)) _, heap_old (heap_old (heap_new _ _) _) _, ⟨rfl, .inr ⟨W.heap.size + 1 + 1, 0, #[], rfl, by omega, heap_newk _ (by simp), by simp, by unfold maxLen; omega, rfl, rfl⟩⟩, ((((Below.refl W.heap.size W).alloc (Nat.le_refl _) _).alloc (by simp) _).alloc (by simp; omega) _), by simp⟩
  case round =>
    obtain ⟨q, c, st, hq, rfl, hst, hpl, hc, hr, hown, hB, hsz⟩ := hrel
    obtain ⟨n, hn⟩ : ∃ n, st.length = n := ⟨_, rfl⟩
    rw [hn] at hown hst
    obtain ⟨ao, cp, rfl, hcp, hmx, hcells⟩ := own_shape hown
    have Hn := hid hn
    have hn40 : n ≤ 1000 := by omega
    clear hcells hn
    clear hmx
    have Hc := hid hc
    have Hr := hid hr
    have Hown := hid hown
    have HB := hid hB
    have Hpl := hid hpl
    clear hc hr hown hB hpl
    by_cases hql : q < l.length
    · have hd : decide (q < l.length) = true := by simp; omega
      have hqi : (q : Int) < l.length := by omega
      have hok := H.out.ok l[q] (List.getElem_mem hql)
      obtain ⟨rfl, r0, r1, r2⟩ := (H.out.fr (fun h => HB.out.block _ h)).get hql
      have hdrop : l.drop q = l[q] :: l.drop (q + 1) := List.drop_eq_getElem_cons hql
      generalize l[q] = act at *
      obtain ⟨k, a, t⟩ := act
      obtain ⟨hk, ha, ht, ht2⟩ := hok
      simp only [] at hk ha ht ht2 r0 r1 r2
      have Hdrop := hid hdrop
      clear hdrop
      go_upto_region 6 with fail
      have Hc5 := hid (heap_old Hc.out (.cells #[.int .i64 k, .int .i64 a, .int .i64 t] 79))
      have Hr5 := hid (heap_old Hr.out (.cells #[.int .i64 k, .int .i64 a, .int .i64 t] 79))
      have Ho5 := hid (Hown.out.alloc (.cells #[.int .i64 k, .int .i64 a, .int .i64 t] 79))
      have HB5 := hid (HB.out.alloc HB.out.size (.cells #[.int .i64 k, .int .i64 a, .int .i64 t] 79))
      have hg := heap_new wr (.cells #[.int .i64 k, .int .i64 a, .int .i64 t] 79)
      have hs5 : (wr.alloc (.cells #[.int .i64 k, .int .i64 a, .int .i64 t] 79)).heap.size = wr.heap.size + 1 := by simp
      generalize wr.alloc (.cells #[.int .i64 k, .int .i64 a, .int .i64 t] 79) = w5 at Hc5 Hr5 Ho5 HB5 hg hs5 ⊢
      have g0 := cell_of_block hg 0
      have g1 := cell_of_block hg 1
      have g2 := cell_of_block hg 2
      have ea := C4.read Hc5.out ha
      have fa := free_of_block Hc5.out a
      have e0 := cell_of_block Hc5.out 0
      have e1 := cell_of_block Hc5.out 1
      have e2 := cell_of_block Hc5.out 2
      have e3 := cell_of_block Hc5.out 3
      have f0 := free_of_block Hc5.out 0
      have f1 := free_of_block Hc5.out 1
      have f2 := free_of_block Hc5.out 2
      have f3 := free_of_block Hc5.out 3
      simp only [List.getElem?_toArray, List.getElem?_cons_zero, List.getElem?_cons_succ] at g0 g1 g2 e0 e1 e2 e3
      have ha4 : (a : Int) < 4 := by omega
      clear hg r0 r1 r2
      have Hset : ∀ y : Int, (w5.setCell ⟨W.heap.size + 1, a, none⟩ (.int .i64 y)).heap[W.heap.size + 1]? = some (.cells #[.int .i64 (c.set a y 0), .int .i64 (c.set a y 1), .int .i64 (c.set a y 2), .int .i64 (c.set a y 3)] 62 (0, 0)) := fun y => by rw [← C4.store c a y ha]; exact heap_set_same Hc5.out _
      have HSet := hid Hset
      clear Hset
      have hnb : ∀ k, k = W.heap.size + 1 → (Value.slice ao n cp).ownBlock ≠ some k := fun k hk e => by
        have := (Ho5.out.lt _ e).1
        omega
      rcases (by omega : k = 0 ∨ k = 1 ∨ k = 2 ∨ k = 3 ∨ k = 4) with rfl | rfl | rfl | rfl | rfl
      · go_wp2_with fail
        refine ⟨⟨q + 1, c.set a t, st, by omega, by go_num, by rw [Hn.out]; omega, by rw [Hpl.out, Hdrop.out]; simp [playFrom], HSet.out _, heap_set_other Hr5.out (by simp) _, by rw [Hn.out]; exact ownsRow_setCell_other Ho5.out (hnb _ rfl) _, HB5.out.trans ((Fr.refl (fun k => k = W.heap.size + 1) w5).setCell (fun _ => rfl) _ |>.below HB5.out.size (fun k hk e => by omega)), by simp; omega⟩, by simp [intOf]; omega⟩
      · go_wp2_with fail
        refine ⟨⟨q + 1, c.set a 0, st, by omega, by go_num, by rw [Hn.out]; omega, by rw [Hpl.out, Hdrop.out]; simp [playFrom], HSet.out _, heap_set_other Hr5.out (by simp) _, by rw [Hn.out]; exact ownsRow_setCell_other Ho5.out (hnb _ rfl) _, HB5.out.trans ((Fr.refl (fun k => k = W.heap.size + 1) w5).setCell (fun _ => rfl) _ |>.below HB5.out.size (fun k hk e => by omega)), by simp; omega⟩, by simp [intOf]; omega⟩
      · go_wp2_with (at_builtin; refine wpList_append_lies _ rfl (.tmp 34) (.tmp 36) 82 rfl (W.heap.size + 2) 62 i0 (.agg #[.int .i64 0, .int .i64 0, .int .i64 0, .int .i64 0]) 4 32 Try.underlying82 hi hz0 hz1 hz2 rfl (by decide) _ _ _ rfl (Ho5.out.alloc _) ⟨wr.heap.size + 1, 0, none⟩ 1 1 c.vals rfl rfl (World.news_of_block (heap_newk _ (by omega))) (by intro u hu; simp [C4.vals] at hu; rcases hu with rfl | rfl | rfl | rfl <;> rfl) (by decide) (by unfold maxLen; omega) (by omega) (by simp; omega) (w5.heap.size + 1) (by simp) ?_; intro g cap' w6 hown6 hgrow6 hg6 hlt6; have HO6 := hid hown6; have HG6 := hid hgrow6; clear hown6 hgrow6 hg6)
        have hF6 := Fr.ofGrown HG6.out
        have hnot : ∀ k, k < W.heap.size + 2 → some k ≠ (Value.slice ao n cp).ownBlock := fun k hk e => by
          have := (Ho5.out.lt _ e.symm).1
          omega
        have h1 := hF6.heap (heap_old Hc5.out (.cells #[.int .i64 (c 0), .int .i64 (c 1), .int .i64 (c 2), .int .i64 (c 3)] 62)) (hnot _ (by omega))
        have h2 := hF6.heap (heap_old Hr5.out (.cells #[.int .i64 (c 0), .int .i64 (c 1), .int .i64 (c 2), .int .i64 (c 3)] 62)) (hnot _ (by omega))
        have hsz6 := hF6.size
        rw [show (w5.alloc (.cells #[.int .i64 (c 0), .int .i64 (c 1), .int .i64 (c 2), .int .i64 (c 3)] 62)).heap.size = w5.heap.size + 1 from by simp] at hsz6
        have hBl := HB5.out.trans ((((Fr.refl (fun k => some k = (Value.slice ao n cp).ownBlock) w5).alloc (.cells #[.int .i64 (c 0), .int .i64 (c 1), .int .i64 (c 2), .int .i64 (c 3)] 62)).trans hF6 (fun _ _ h => h)).below HB5.out.size (fun k hk e => hnot k (by omega) e))
        have hown6 := HO6.out
        have hst6 := stCells_cons c st
        have hl6 : (c :: st).length = n + 1 := by rw [List.length_cons, Hn.out]
        rw [← hst6, ← hl6] at hown6
        have hpl6 : playFrom l c0 [] = playFrom (l.drop (q + 1)) c (c :: st) := by rw [Hpl.out, Hdrop.out]; simp [playFrom]
        have hle6 : (c :: st).length ≤ q + 1 := by omega
        rw [hl6] at hown6 hle6
        exact ⟨⟨q + 1, c, c :: st, by omega, by go_num, by rw [hl6]; exact hle6, hpl6, h1, h2, by rw [hl6]; exact hown6, hBl, by omega⟩, by simp [intOf]; omega⟩
      · cases st with
        | nil =>
          obtain rfl : n = 0 := Hn.out.symm
          go_wp2_with fail
          have hpl6 : playFrom l c0 [] = playFrom (l.drop (q + 1)) c [] := by rw [Hpl.out, Hdrop.out]; simp [playFrom]
          exact ⟨⟨q + 1, c, [], by omega, by go_num, by simp, hpl6, Hc5.out, Hr5.out, Ho5.out, HB5.out, by omega⟩, by simp [intOf]; omega⟩
        | cons c1 st1 =>
          obtain ⟨m, rfl⟩ : ∃ m, n = m + 1 := ⟨st1.length, Hn.out.symm⟩
          have hm : st1.length = m := Nat.succ.inj Hn.out
          have Hpop := hid (pop_own Ho5.out hm)
          have HM := hid hm
          have hcpi : (m : Int) ≤ cp := Int.ofNat_le.2 (Nat.le_of_succ_le hcp)
          have hm40 : st1.length ≤ 1000 := by have := HM.out; omega
          have hlen3 : st1.length ≤ q + 1 := by have := HM.out; omega
          have Hm40 := hid (show m ≤ 1000 from hm ▸ hm40)
          have Hlen3 := hid hlen3
          clear hm hn40 hst hlen3 hm40
          go_upto_region 16 with fail
          have hwm := wrap64_small m Hm40.out
          clear hcp
          have hpl3 : playFrom l c0 [] = playFrom (l.drop (q + 1)) c st1 := by rw [Hpl.out, Hdrop.out]; simp [playFrom]
          have Hpl3 := hid hpl3
          have Hown3 : Hid (w5.ownsRow (W.heap.size + 2) 62 4 (.slice ao m cp) st1.length (stCells st1)) := hid (by rw [HM.out]; exact Hpop.out)
          have Hsz5 : Hid (W.heap.size + 2 ≤ w5.heap.size) := hid (by omega)
          clear hpl3
          go_upto_region 21 with fail
          go_wp2_with fail
          exact ⟨⟨q + 1, c, st1, hql, by go_num, Hlen3.out, Hpl3.out, Hc5.out, Hr5.out, Hown3.out, HB5.out, Hsz5.out⟩, by simp [intOf]; omega⟩
      · cases st with
        | nil =>
          obtain rfl : n = 0 := Hn.out.symm
          go_wp2_with fail
          have hpl6 : playFrom l c0 [] = playFrom (l.drop (q + 1)) c [] := by rw [Hpl.out, Hdrop.out]; simp [playFrom]
          exact ⟨⟨q + 1, c, [], by omega, by go_num, by simp, hpl6, Hc5.out, Hr5.out, Ho5.out, HB5.out, by omega⟩, by simp [intOf]; omega⟩
        | cons c1 st1 =>
          obtain ⟨m, rfl⟩ : ∃ m, n = m + 1 := ⟨st1.length, Hn.out.symm⟩
          have hm : st1.length = m := Nat.succ.inj Hn.out
          have Hpop := hid (pop_own Ho5.out hm)
          have Htop := hid (top_cells Ho5.out hm)
          have HM := hid hm
          have Hcpi := hid (show (m : Int) ≤ cp from Int.ofNat_le.2 (Nat.le_of_succ_le hcp))
          have Hm40 := hid (show m ≤ 1000 by omega)
          have Hlen3 := hid (show st1.length ≤ q + 1 by omega)
          clear hm hn40 hst hcp
          go_upto_region 19 with fail
          obtain ⟨g, rfl, k0, k1, k2, k3⟩ := Htop.out
          have hwm := wrap64_small m Hm40.out
          have hmlt : (m : Int) < ((m + 1 : Nat) : Int) := Int.ofNat_lt.2 (Nat.lt_succ_self m)
          go_upto_region 20 with fail
          have h4 : ((((w5.setCell ⟨W.heap.size + 1, 0, none⟩ (.int .i64 (c1 0))).setCell ⟨W.heap.size + 1, 1, none⟩ (.int .i64 (c1 1))).setCell ⟨W.heap.size + 1, 2, none⟩ (.int .i64 (c1 2))).setCell ⟨W.heap.size + 1, 3, none⟩ (.int .i64 (c1 3))).heap[W.heap.size + 1]? = some (.cells #[.int .i64 (c1 0), .int .i64 (c1 1), .int .i64 (c1 2), .int .i64 (c1 3)] 62 (0, 0)) := by
            have := heap_set_same (i := 3) (heap_set_same (i := 2) (heap_set_same (i := 1) (heap_set_same (i := 0) Hc5.out (.int .i64 (c1 0))) (.int .i64 (c1 1))) (.int .i64 (c1 2))) (.int .i64 (c1 3))
            simpa using this
          have hF4 : Fr (fun k => k = W.heap.size + 1) w5 ((((w5.setCell ⟨W.heap.size + 1, 0, none⟩ (.int .i64 (c1 0))).setCell ⟨W.heap.size + 1, 1, none⟩ (.int .i64 (c1 1))).setCell ⟨W.heap.size + 1, 2, none⟩ (.int .i64 (c1 2))).setCell ⟨W.heap.size + 1, 3, none⟩ (.int .i64 (c1 3))) :=
            ((((Fr.refl (fun k => k = W.heap.size + 1) w5).setCell (p := ⟨W.heap.size + 1, 0, none⟩) (fun _ => rfl) _).setCell (p := ⟨W.heap.size + 1, 1, none⟩) (fun _ => rfl) _).setCell (p := ⟨W.heap.size + 1, 2, none⟩) (fun _ => rfl) _).setCell (p := ⟨W.heap.size + 1, 3, none⟩) (fun _ => rfl) _
          have H4 := hid h4
          have HF4 := hid hF4
          have hpl3 : playFrom l c0 [] = playFrom (l.drop (q + 1)) c1 st1 := by rw [Hpl.out, Hdrop.out]; simp [playFrom]
          have Hpl3 := hid hpl3
          generalize (((w5.setCell ⟨W.heap.size + 1, 0, none⟩ (.int .i64 (c1 0))).setCell ⟨W.heap.size + 1, 1, none⟩ (.int .i64 (c1 1))).setCell ⟨W.heap.size + 1, 2, none⟩ (.int .i64 (c1 2))).setCell ⟨W.heap.size + 1, 3, none⟩ (.int .i64 (c1 3)) = w7 at H4 HF4 ⊢
          clear h4 hF4 hpl3
          have Hown3 : Hid (w7.ownsRow (W.heap.size + 2) 62 4 (.slice (some ⟨g, 0, none⟩) m cp) st1.length (stCells st1)) := hid (by rw [HM.out]; exact HF4.out.own Hpop.out (fun k hk e => hnb k e hk.symm))
          have Hr7 := hid (HF4.out.heap Hr5.out (by omega))
          have HB7 := hid (HB5.out.trans (HF4.out.below HB5.out.size (fun k hk e => by omega)))
          have Hsz7 : Hid (W.heap.size + 2 ≤ w7.heap.size) := hid (by have := HF4.out.size; omega)
          have hcpi := Hcpi.out
          go_upto_region 21 with fail
          go_wp2_with fail
          exact ⟨⟨q + 1, c1, st1, hql, by go_num, Hlen3.out, Hpl3.out, H4.out, Hr7.out, Hown3.out, HB7.out, Hsz7.out⟩, by simp [intOf]; omega⟩
    · have hd : decide (q < l.length) = false := by simp; omega
      have hpl2 := Hpl.out
      rw [List.drop_of_length_le (by omega)] at hpl2
      simp only [playFrom] at hpl2
      have Hpl2 := hid hpl2
      have e0 := cell_of_block Hc.out 0
      have e1 := cell_of_block Hc.out 1
      have e2 := cell_of_block Hc.out 2
      have e3 := cell_of_block Hc.out 3
      have r0 := cell_of_block Hr.out 0
      have r1 := cell_of_block Hr.out 1
      have r2 := cell_of_block Hr.out 2
      have r3 := cell_of_block Hr.out 3
      have f0 := free_of_block Hr.out 0
      have f1 := free_of_block Hr.out 1
      have f2 := free_of_block Hr.out 2
      have f3 := free_of_block Hr.out 3
      simp only [List.getElem?_toArray, List.getElem?_cons_zero, List.getElem?_cons_succ] at e0 e1 e2 e3 r0 r1 r2 r3
      clear hpl2
      go_wp2_with fail
      have h4 := heap_set_same (i := 3) (heap_set_same (i := 2) (heap_set_same (i := 1) (heap_set_same (i := 0) Hr.out (.int .i64 (c 0))) (.int .i64 (c 1))) (.int .i64 (c 2))) (.int .i64 (c 3))
      have hF4 : Fr (fun k => k = W.heap.size) wr ((((wr.setCell ⟨W.heap.size, 0, none⟩ (.int .i64 (c 0))).setCell ⟨W.heap.size, 1, none⟩ (.int .i64 (c 1))).setCell ⟨W.heap.size, 2, none⟩ (.int .i64 (c 2))).setCell ⟨W.heap.size, 3, none⟩ (.int .i64 (c 3))) :=
        ((((Fr.refl (fun k => k = W.heap.size) wr).setCell (p := ⟨W.heap.size, 0, none⟩) (fun _ => rfl) _).setCell (p := ⟨W.heap.size, 1, none⟩) (fun _ => rfl) _).setCell (p := ⟨W.heap.size, 2, none⟩) (fun _ => rfl) _).setCell (p := ⟨W.heap.size, 3, none⟩) (fun _ => rfl) _
      have hB7 := HB.out.trans (hF4.below HB.out.size (fun k hk e => by omega))
      generalize (((wr.setCell ⟨W.heap.size, 0, none⟩ (.int .i64 (c 0))).setCell ⟨W.heap.size, 1, none⟩ (.int .i64 (c 1))).setCell ⟨W.heap.size, 2, none⟩ (.int .i64 (c 2))).setCell ⟨W.heap.size, 3, none⟩ (.int .i64 (c 3)) = w7 at h4 hF4 hB7 ⊢
      have q0 := cell_of_block h4 0
      have q1 := cell_of_block h4 1
      have q2 := cell_of_block h4 2
      have q3 := cell_of_block h4 3
      simp at q0 q1 q2 q3
      rw [Hpl2.out]
      refine bodyPost_ret (v := .agg #[.int .i64 (c 0), .int .i64 (c 1), .int .i64 (c 2), .int .i64 (c 3)]) ?_ rfl ⟨rfl, hB7⟩
      rw [results_cell rfl]
      simp [asAddr, Result.andThen, loadVar, q0, q1, q2, q3, go_sem]

end Go.Proofs.Ytmdcalkfapcafaa
