/-
  undo.restore, Put, Drop at one type: as steps from state to state. Printed by tools/undomap.py.
-/
import Derived.Test.YtmdcalkfapcafaaMapRan
namespace Go.Proofs.Ytmdcalkfapcafaa
open Go.RowKit

theorem keyInt : Maps.Keyed Try.prog 3 := Maps.int_keyed Try.underlying3
theorem zeroInt (w : World) : (zeroValue 3).run Try.prog w = .ok (.int .i64 0) w := by kernel_rfl

theorem restoreInt (bm : Nat) (D : DataW Unit) (x y : Int) (ok : Bool) (w : World) (h : OwnM Try.prog 3 3 w bm D) (hs : Maps.size D ≤ 1000) (hx : (Lit.int .i64 x).wf = true) (hy : (Lit.int .i64 y).wf = true) :
    Calls Try.prog 50 #[.map (some bm), .int .i64 x, .int .i64 y, .bool ok] w fun e w' => e = .returned (.tuple #[]) ∧
      OwnM Try.prog 3 3 w' bm (if ok then D.put (.int .i64 x) (.lit (.int .i64 y)) else D.del (.int .i64 x)) ∧ w.grownBy w' (some bm) := by
  have hkey := Maps.keyOf_int_mk Try.underlying3 hx
  have hval := plainElem_int (H := Unit) Try.underlying3 hy
  have H := hid h
  clear h
  cases ok with
  | true =>
    go_enter Try.func50, Try.ntmps50
    go_wp2_with (first | (at_mapUpdate; refine wpList_mapUpdate_own _ rfl _ _ _ 57 rfl 3 3 keyInt Try.underlying57 _ bm _ D rfl H.out (by unfold maxLen; omega) _ _ _ rfl rfl hkey _ [] hval ?_; intro w1 hown1 hgrow1; have HO := hid hown1; have HG := hid hgrow1; clear hown1 hgrow1))
    go_end0
    exact ⟨rfl, by simpa using OwnM.of HO.out, HG.out⟩
  | false =>
    go_enter Try.func50, Try.ntmps50
    go_wp2_with (first | (at_delete; refine wpList_delete_own _ rfl _ _ 57 3 rfl 3 keyInt Try.underlying57 _ bm _ D rfl H.out _ _ rfl hkey ?_; intro w1 hown1 hturn1; have HO := hid hown1; have HG := hid hturn1.grown; clear hown1 hturn1))
    first | go_end0 | go_returns
    exact ⟨rfl, by simpa using OwnM.of HO.out, HG.out⟩

section
variable (bm bt bk bv bo : Nat) (D : DataW Unit) (x y : Int) (ok : Bool) (w : World) (h : OwnM Try.prog 3 3 w bm D) (hs : Maps.size D ≤ 1000) (hx : (Lit.int .i64 x).wf = true) (hy : (Lit.int .i64 y).wf = true)
  (ht : w.heap[bt]? = some (.cells #[.map (some bm)] 57 (0, 0))) (hk : w.heap[bk]? = some (.cells #[.int .i64 x] 3 (0, 0))) (hv : w.heap[bv]? = some (.cells #[.int .i64 y] 3 (0, 0))) (ho : w.heap[bo]? = some (.cells #[.bool ok] 4 (0, 0)))
include h hs hx hy ht hk hv ho

theorem unputInt : Calls Try.prog 49 #[.pointer (some ⟨bt, 0, none⟩), .pointer (some ⟨bk, 0, none⟩), .pointer (some ⟨bv, 0, none⟩), .pointer (some ⟨bo, 0, none⟩)] w fun e w' => e = .returned (.tuple #[]) ∧
      OwnM Try.prog 3 3 w' bm (if ok then D.put (.int .i64 x) (.lit (.int .i64 y)) else D.del (.int .i64 x)) ∧ w.grownBy w' (some bm) := by
  have c1 := cell_of_one ht
  have c2 := cell_of_one hk
  have c3 := cell_of_one hv
  have c4 := cell_of_one ho
  have H := hid h
  clear ht hk hv ho h
  cases ok
  all_goals
    go_enter Try.func49, Try.ntmps49
    go_wp2_with fail
    refine (restoreInt bm D x y _ w H.out hs hx hy).mono ?_
    rintro e w1 ⟨rfl, h1, h2⟩
    have H1 := hid h1
    have H2 := hid h2
    clear h1 h2
    go_wp2
    go_end0
    exact ⟨rfl, by simpa using H1.out, H2.out⟩

theorem undropInt : Calls Try.prog 51 #[.pointer (some ⟨bt, 0, none⟩), .pointer (some ⟨bk, 0, none⟩), .pointer (some ⟨bv, 0, none⟩), .pointer (some ⟨bo, 0, none⟩)] w fun e w' => e = .returned (.tuple #[]) ∧
      OwnM Try.prog 3 3 w' bm (if ok then D.put (.int .i64 x) (.lit (.int .i64 y)) else D.del (.int .i64 x)) ∧ w.grownBy w' (some bm) := by
  have c1 := cell_of_one ht
  have c2 := cell_of_one hk
  have c3 := cell_of_one hv
  have c4 := cell_of_one ho
  have H := hid h
  clear ht hk hv ho h
  cases ok
  all_goals
    go_enter Try.func51, Try.ntmps51
    go_wp2_with fail
    refine (restoreInt bm D x y _ w H.out hs hx hy).mono ?_
    rintro e w1 ⟨rfl, h1, h2⟩
    have H1 := hid h1
    have H2 := hid h2
    clear h1 h2
    go_wp2
    go_end0
    exact ⟨rfl, by simpa using H1.out, H2.out⟩
end

theorem unputInt_enters (a c d e : Value) : ∀ w : World, (callFunc 49 #[a, c, d, e]).run Try.prog w = .ok (.enter 49 #[a, c, d, e]) w := fun w => by kernel_rfl
theorem undropInt_enters (a c d e : Value) : ∀ w : World, (callFunc 51 #[a, c, d, e]).run Try.prog w = .ok (.enter 51 #[a, c, d, e]) w := fun w => by kernel_rfl

/-- The blocks that a step back reads. -/
def keepInt (n bm : Nat) (x y : Int) (ok : Bool) : List (Nat × Obj) := [(n, .cells #[.map (some bm)] 57 (0, 0)), (n + 1, .cells #[.int .i64 x] 3 (0, 0)), (n + 1 + 1, .cells #[.int .i64 y] 3 (0, 0)), (n + 1 + 1 + 1, .cells #[.bool ok] 4 (0, 0))]
def capsInt (n : Nat) : Array Value := #[.pointer (some ⟨n, 0, none⟩), .pointer (some ⟨n + 1, 0, none⟩), .pointer (some ⟨n + 1 + 1, 0, none⟩), .pointer (some ⟨n + 1 + 1 + 1, 0, none⟩)]
theorem unputInt_step (bm n : Nat) (D : DataW Unit) (x y : Int) (hx : (Lit.int .i64 x).wf = true) (hy : (Lit.int .i64 y).wf = true) (hat : D.atKey (.int .i64 x) (.lit (.int .i64 0)) = .lit (.int .i64 y)) :
    MapBack Try.prog 3 3 bm D (.int .i64 x) (.lit (.int .i64 0)) ⟨49, capsInt n, keepInt n bm x y (Maps.has D (.int .i64 x))⟩ := by
  intro w2 D2 hok hO hs
  unfold unput
  rw [hat]
  exact unputInt bm n (n + 1) (n + 1 + 1) (n + 1 + 1 + 1) D2 x y _ w2 hO hs hx hy (hok (n, _) (by simp [keepInt])) (hok (n + 1, _) (by simp [keepInt])) (hok (n + 1 + 1, _) (by simp [keepInt])) (hok (n + 1 + 1 + 1, _) (by simp [keepInt]))
theorem undropInt_step (bm n : Nat) (D : DataW Unit) (x y : Int) (hx : (Lit.int .i64 x).wf = true) (hy : (Lit.int .i64 y).wf = true) (hat : D.atKey (.int .i64 x) (.lit (.int .i64 0)) = .lit (.int .i64 y)) :
    MapBack Try.prog 3 3 bm D (.int .i64 x) (.lit (.int .i64 0)) ⟨51, capsInt n, keepInt n bm x y (Maps.has D (.int .i64 x))⟩ := by
  intro w2 D2 hok hO hs
  unfold unput
  rw [hat]
  exact undropInt bm n (n + 1) (n + 1 + 1) (n + 1 + 1 + 1) D2 x y _ w2 hO hs hx hy (hok (n, _) (by simp [keepInt])) (hok (n + 1, _) (by simp [keepInt])) (hok (n + 1 + 1, _) (by simp [keepInt])) (hok (n + 1 + 1 + 1, _) (by simp [keepInt]))

set_option maxHeartbeats 400000 in
theorem putInt_any (b base bm : Nat) (v : Value) (fs : List Value) (d : Nat) (D : DataW Unit) (x t : Int) (w : World) (h : LogAt w b base v fs d) (hl : fs.length ≤ 1000000) (hbase : base ≤ w.heap.size)
    (hO : OwnM Try.prog 3 3 w bm D) (hs : Maps.size D ≤ 1000) (hbm : bm ≠ b) (hbv : some bm ≠ v.ownBlock) (hx : (Lit.int .i64 x).wf = true) (ht : (Lit.int .i64 t).wf = true) :
    Calls Try.prog 43 #[.pointer (some ⟨b, 0, none⟩), .map (some bm), .int .i64 x, .int .i64 t] w fun e w' => e = .returned (.tuple #[]) ∧
      ∃ y, (Lit.int .i64 y).wf = true ∧ D.atKey (.int .i64 x) (.lit (.int .i64 0)) = .lit (.int .i64 y) ∧ MapDid Try.prog 3 3 b base bm v fs d D (D.put (.int .i64 x) (.lit (.int .i64 t))) ⟨49, capsInt w.heap.size, keepInt w.heap.size bm x y (Maps.has D (.int .i64 x))⟩ w w' := by
  have hkey := Maps.keyOf_int_mk Try.underlying3 hx
  have hval := plainElem_int (H := Unit) Try.underlying3 ht
  have hb := h.lt
  have hml := hO.lt
  have hvl : ∀ k, some k = v.ownBlock → k < w.heap.size := fun k hk => (h.own.lt k hk.symm).2
  have H := hid h
  have HO := hid hO
  clear h hO
  go_enter Try.func43, Try.ntmps43
  go_wp2_with (first | (at_lookup; refine wpList_lookup_own_ok _ rfl _ _ 57 rfl 3 3 keyInt Try.underlying57 _ (zeroInt _) (.lit (.int .i64 0)) [] (by first | rfl | exact plainElem_int Try.underlying3 (by decide)) bm _ D rfl ((World.ownsMap.alloc HO.out _).alloc _) _ _ rfl hkey ?_; intro v2 ps hv; obtain ⟨y, rfl, hy1, hyw⟩ := plainElem_int_inv Try.underlying3 hv; have Hy := hid hy1; have Hyw := hid hyw; clear hv hy1 hyw) | fail)
  have hF0 := ((((Fr.refl (fun _ => False) w).alloc (.cells #[.map (some bm)] 57)).alloc (.cells #[.int .i64 x] 3)).alloc (.cells #[.int .i64 y] 3)).alloc (.cells #[.bool (Maps.has D (.int .i64 x))] 4)
  have k0 := heap_old (heap_old (heap_old (heap_new w (.cells #[.map (some bm)] 57)) (.cells #[.int .i64 x] 3)) (.cells #[.int .i64 y] 3)) (.cells #[.bool (Maps.has D (.int .i64 x))] 4)
  have k1 := heap_old (heap_old (heap_newk (w := w.alloc (.cells #[.map (some bm)] 57)) (k := w.heap.size + 1) (.cells #[.int .i64 x] 3) (by simp)) (.cells #[.int .i64 y] 3)) (.cells #[.bool (Maps.has D (.int .i64 x))] 4)
  have k2 := heap_old (heap_newk (w := (w.alloc (.cells #[.map (some bm)] 57)).alloc (.cells #[.int .i64 x] 3)) (k := w.heap.size + 1 + 1) (.cells #[.int .i64 y] 3) (by simp)) (.cells #[.bool (Maps.has D (.int .i64 x))] 4)
  have k3 := heap_newk (w := ((w.alloc (.cells #[.map (some bm)] 57)).alloc (.cells #[.int .i64 x] 3)).alloc (.cells #[.int .i64 y] 3)) (k := w.heap.size + 1 + 1 + 1) (.cells #[.bool (Maps.has D (.int .i64 x))] 4) (by simp)
  have hsz : ((((w.alloc (.cells #[.map (some bm)] 57)).alloc (.cells #[.int .i64 x] 3)).alloc (.cells #[.int .i64 y] 3)).alloc (.cells #[.bool (Maps.has D (.int .i64 x))] 4)).heap.size = w.heap.size + 4 := by simp
  generalize (((w.alloc (.cells #[.map (some bm)] 57)).alloc (.cells #[.int .i64 x] 3)).alloc (.cells #[.int .i64 y] 3)).alloc (.cells #[.bool (Maps.has D (.int .i64 x))] 4) = w0 at hF0 k0 k1 k2 k3 hsz ⊢
  have hL0 := H.out.fr hF0 id (fun _ _ => id)
  refine (back_any b base v fs d _ _ w0 hL0 hl (by omega)).mono ?_
  rintro e w2 ⟨rfl, v', hL2, hM2, hF2, hR2⟩
  have hnl : ∀ k, w.heap.size ≤ k → ¬ logs b v k := fun k hk h => h.elim (fun e => by omega) (fun e => by have := hvl k e; omega)
  have j0 := hF2.heap k0 (hnl _ (by omega))
  have j1 := hF2.heap k1 (hnl _ (by omega))
  have j2 := hF2.heap k2 (hnl _ (by omega))
  have j3 := hF2.heap k3 (hnl _ (by omega))
  have hO2 : OwnM Try.prog 3 3 w2 bm D := HO.out.same ((hF2.block bm (by omega) (fun h => h.elim hbm hbv)).trans (hF0.block bm hml id))
  have c0 := cell_of_one j0
  have c1 := cell_of_one j1
  have hnv : ∀ k, w.heap.size ≤ k → k < w.heap.size + 4 → some k ≠ v'.ownBlock := fun k h1 h2 e => by
    rcases hM2 k e.symm with h | h
    · have := hvl k h.symm; omega
    · omega
  have HO2 := hid hO2
  have HK : Hid (∀ p ∈ keepInt w.heap.size bm x y (Maps.has D (.int .i64 x)), w.heap.size ≤ p.1 ∧ w2.heap[p.1]? = some p.2 ∧ some p.1 ≠ v'.ownBlock) := hid (by
    intro p hp
    simp [keepInt] at hp
    rcases hp with rfl | rfl | rfl | rfl
    · exact ⟨by simp, j0, hnv _ (by simp) (by simp)⟩
    · exact ⟨by simp, j1, hnv _ (by simp) (by simp)⟩
    · exact ⟨by simp <;> omega, j2, hnv _ (by simp <;> omega) (by simp <;> omega)⟩
    · exact ⟨by simp <;> omega, j3, hnv _ (by simp <;> omega) (by simp <;> omega)⟩)
  have HL2 := hid hL2
  have HM : Hid (LMoved w v v') := hid (fun k hk => (hM2 k hk).imp id (fun h => by omega))
  have HF : Hid (Fr (logs b v) w w2) := hid ((hF0.mono (fun _ _ h => h.elim)).trans hF2 (fun _ _ h => h))
  have HR : Hid (Rest b w w2) := hid (fun o ho => ⟨(hR2 o ho).1.trans (World.cell?_of_block (a := ⟨b, o, none⟩) (hF0.block b hb id)), (hR2 o ho).2.trans (World.frozen?_of_block (a := ⟨b, o, none⟩) (hF0.block b hb id))⟩)
  clear hF0 k0 k1 k2 k3 hL0 hL2 hM2 hF2 hR2 hnl j0 j1 j2 j3 hO2 hnv
  go_wp2_with (first | (at_mapUpdate; refine wpList_mapUpdate_own _ rfl _ _ _ 57 rfl 3 3 keyInt Try.underlying57 _ bm _ D rfl HO2.out (by unfold maxLen; omega) _ _ _ rfl rfl hkey _ [] hval ?_; intro w3 hown3 hgrow3; have HO3 := hid (OwnM.of hown3); have HG3 := hid hgrow3; clear hown3 hgrow3) | fail)
  first | go_end0 | go_returns
  have hy := Hy.out
  simp only [Prod.mk.injEq] at hy
  exact ⟨rfl, y, Hyw.out, hy.1, v', w2, HL2.out, HM.out, HF.out, HR.out, HK.out, HO3.out, HG3.out⟩

set_option maxHeartbeats 400000 in
theorem dropInt_any (b base bm : Nat) (v : Value) (fs : List Value) (d : Nat) (D : DataW Unit) (x : Int) (w : World) (h : LogAt w b base v fs d) (hl : fs.length ≤ 1000000) (hbase : base ≤ w.heap.size)
    (hO : OwnM Try.prog 3 3 w bm D) (hbm : bm ≠ b) (hbv : some bm ≠ v.ownBlock) (hx : (Lit.int .i64 x).wf = true) :
    Calls Try.prog 44 #[.pointer (some ⟨b, 0, none⟩), .map (some bm), .int .i64 x] w fun e w' => e = .returned (.tuple #[]) ∧
      ∃ y, (Lit.int .i64 y).wf = true ∧ D.atKey (.int .i64 x) (.lit (.int .i64 0)) = .lit (.int .i64 y) ∧ MapDid Try.prog 3 3 b base bm v fs d D (D.del (.int .i64 x)) ⟨51, capsInt w.heap.size, keepInt w.heap.size bm x y (Maps.has D (.int .i64 x))⟩ w w' := by
  have hkey := Maps.keyOf_int_mk Try.underlying3 hx
  have hb := h.lt
  have hml := hO.lt
  have hvl : ∀ k, some k = v.ownBlock → k < w.heap.size := fun k hk => (h.own.lt k hk.symm).2
  have H := hid h
  have HO := hid hO
  clear h hO
  go_enter Try.func44, Try.ntmps44
  go_wp2_with (first | (at_lookup; refine wpList_lookup_own_ok _ rfl _ _ 57 rfl 3 3 keyInt Try.underlying57 _ (zeroInt _) (.lit (.int .i64 0)) [] (by first | rfl | exact plainElem_int Try.underlying3 (by decide)) bm _ D rfl ((World.ownsMap.alloc HO.out _).alloc _) _ _ rfl hkey ?_; intro v2 ps hv; obtain ⟨y, rfl, hy1, hyw⟩ := plainElem_int_inv Try.underlying3 hv; have Hy := hid hy1; have Hyw := hid hyw; clear hv hy1 hyw) | fail)
  have hF0 := ((((Fr.refl (fun _ => False) w).alloc (.cells #[.map (some bm)] 57)).alloc (.cells #[.int .i64 x] 3)).alloc (.cells #[.int .i64 y] 3)).alloc (.cells #[.bool (Maps.has D (.int .i64 x))] 4)
  have k0 := heap_old (heap_old (heap_old (heap_new w (.cells #[.map (some bm)] 57)) (.cells #[.int .i64 x] 3)) (.cells #[.int .i64 y] 3)) (.cells #[.bool (Maps.has D (.int .i64 x))] 4)
  have k1 := heap_old (heap_old (heap_newk (w := w.alloc (.cells #[.map (some bm)] 57)) (k := w.heap.size + 1) (.cells #[.int .i64 x] 3) (by simp)) (.cells #[.int .i64 y] 3)) (.cells #[.bool (Maps.has D (.int .i64 x))] 4)
  have k2 := heap_old (heap_newk (w := (w.alloc (.cells #[.map (some bm)] 57)).alloc (.cells #[.int .i64 x] 3)) (k := w.heap.size + 1 + 1) (.cells #[.int .i64 y] 3) (by simp)) (.cells #[.bool (Maps.has D (.int .i64 x))] 4)
  have k3 := heap_newk (w := ((w.alloc (.cells #[.map (some bm)] 57)).alloc (.cells #[.int .i64 x] 3)).alloc (.cells #[.int .i64 y] 3)) (k := w.heap.size + 1 + 1 + 1) (.cells #[.bool (Maps.has D (.int .i64 x))] 4) (by simp)
  have hsz : ((((w.alloc (.cells #[.map (some bm)] 57)).alloc (.cells #[.int .i64 x] 3)).alloc (.cells #[.int .i64 y] 3)).alloc (.cells #[.bool (Maps.has D (.int .i64 x))] 4)).heap.size = w.heap.size + 4 := by simp
  generalize (((w.alloc (.cells #[.map (some bm)] 57)).alloc (.cells #[.int .i64 x] 3)).alloc (.cells #[.int .i64 y] 3)).alloc (.cells #[.bool (Maps.has D (.int .i64 x))] 4) = w0 at hF0 k0 k1 k2 k3 hsz ⊢
  have hL0 := H.out.fr hF0 id (fun _ _ => id)
  refine (back_any b base v fs d _ _ w0 hL0 hl (by omega)).mono ?_
  rintro e w2 ⟨rfl, v', hL2, hM2, hF2, hR2⟩
  have hnl : ∀ k, w.heap.size ≤ k → ¬ logs b v k := fun k hk h => h.elim (fun e => by omega) (fun e => by have := hvl k e; omega)
  have j0 := hF2.heap k0 (hnl _ (by omega))
  have j1 := hF2.heap k1 (hnl _ (by omega))
  have j2 := hF2.heap k2 (hnl _ (by omega))
  have j3 := hF2.heap k3 (hnl _ (by omega))
  have hO2 : OwnM Try.prog 3 3 w2 bm D := HO.out.same ((hF2.block bm (by omega) (fun h => h.elim hbm hbv)).trans (hF0.block bm hml id))
  have c0 := cell_of_one j0
  have c1 := cell_of_one j1
  have hnv : ∀ k, w.heap.size ≤ k → k < w.heap.size + 4 → some k ≠ v'.ownBlock := fun k h1 h2 e => by
    rcases hM2 k e.symm with h | h
    · have := hvl k h.symm; omega
    · omega
  have HO2 := hid hO2
  have HK : Hid (∀ p ∈ keepInt w.heap.size bm x y (Maps.has D (.int .i64 x)), w.heap.size ≤ p.1 ∧ w2.heap[p.1]? = some p.2 ∧ some p.1 ≠ v'.ownBlock) := hid (by
    intro p hp
    simp [keepInt] at hp
    rcases hp with rfl | rfl | rfl | rfl
    · exact ⟨by simp, j0, hnv _ (by simp) (by simp)⟩
    · exact ⟨by simp, j1, hnv _ (by simp) (by simp)⟩
    · exact ⟨by simp <;> omega, j2, hnv _ (by simp <;> omega) (by simp <;> omega)⟩
    · exact ⟨by simp <;> omega, j3, hnv _ (by simp <;> omega) (by simp <;> omega)⟩)
  have HL2 := hid hL2
  have HM : Hid (LMoved w v v') := hid (fun k hk => (hM2 k hk).imp id (fun h => by omega))
  have HF : Hid (Fr (logs b v) w w2) := hid ((hF0.mono (fun _ _ h => h.elim)).trans hF2 (fun _ _ h => h))
  have HR : Hid (Rest b w w2) := hid (fun o ho => ⟨(hR2 o ho).1.trans (World.cell?_of_block (a := ⟨b, o, none⟩) (hF0.block b hb id)), (hR2 o ho).2.trans (World.frozen?_of_block (a := ⟨b, o, none⟩) (hF0.block b hb id))⟩)
  clear hF0 k0 k1 k2 k3 hL0 hL2 hM2 hF2 hR2 hnl j0 j1 j2 j3 hO2 hnv
  go_wp2_with (first | (at_delete; refine wpList_delete_own _ rfl _ _ 57 3 rfl 3 keyInt Try.underlying57 _ bm _ D rfl HO2.out _ _ rfl hkey ?_; intro w3 hown3 hturn3; have HO3 := hid (OwnM.of hown3); have HG3 := hid hturn3.grown; clear hown3 hturn3) | fail)
  first | go_end0 | go_returns
  have hy := Hy.out
  simp only [Prod.mk.injEq] at hy
  exact ⟨rfl, y, Hyw.out, hy.1, v', w2, HL2.out, HM.out, HF.out, HR.out, HK.out, HO3.out, HG3.out⟩

section
variable {κ σ : Type} (b base : Nat) (D : Nat → Prop) (Inv : κ → σ → World → Prop) (hI : Stable b D Inv) (bm : Nat) (get : σ → DataW Unit) (put : σ → DataW Unit → σ) (hV : MVar b D Inv Try.prog 3 3 bm get put)
  (v : Value) (fs : List Value) (d : Nat) (w : World) (K : κ) (s1 : σ) (h : LogAt w b base v fs d) (hl : fs.length ≤ 1000000) (hbase : base ≤ w.heap.size) (hD : ∀ k, D k → k < w.heap.size) (hDv : ∀ k, some k = v.ownBlock → ¬ D k) (hs : Inv K s1 w)
include hI hV h hl hbase hD hDv hs
theorem putInt_ran (x t : Int) (hx : (Lit.int .i64 x).wf = true) (ht : (Lit.int .i64 t).wf = true) (hsz : Maps.size ((get s1).put (.int .i64 x) (.lit (.int .i64 t))) ≤ 1000) :
    Calls Try.prog 43 #[.pointer (some ⟨b, 0, none⟩), .map (some bm), .int .i64 x, .int .i64 t] w fun e w' => e = .returned (.tuple #[]) ∧
      ∃ rs v', rs.length ≤ 1 ∧ Ran b base D Inv v fs d s1 w w' K (put s1 ((get s1).put (.int .i64 x) (.lit (.int .i64 t)))) rs v' := by
  obtain ⟨hO, hsO⟩ := hV.hget K s1 w hs
  refine (putInt_any b base bm v fs d _ x t w h hl hbase hO hsO hV.far (fun e => hDv _ e hV.inD) hx ht).mono ?_
  rintro e w' ⟨rfl, y, hy, hat, hd⟩
  exact ⟨rfl, map_ran b base D Inv hI bm get put hV keyInt v fs d w w' K s1 _ (.int .i64 x) _ _ trivial h hD hDv hs (unputInt_step bm _ _ x y hx hy hat) (unputInt_enters _ _ _ _) hd hsz (fun k hk => Maps.has_put_other hk _) (fun k hk z => Maps.atKey_put_other hk _ _)⟩
theorem dropInt_ran (x : Int) (hx : (Lit.int .i64 x).wf = true) (hsz : Maps.size ((get s1).del (.int .i64 x)) ≤ 1000) :
    Calls Try.prog 44 #[.pointer (some ⟨b, 0, none⟩), .map (some bm), .int .i64 x] w fun e w' => e = .returned (.tuple #[]) ∧
      ∃ rs v', rs.length ≤ 1 ∧ Ran b base D Inv v fs d s1 w w' K (put s1 ((get s1).del (.int .i64 x))) rs v' := by
  obtain ⟨hO, hsO⟩ := hV.hget K s1 w hs
  refine (dropInt_any b base bm v fs d _ x w h hl hbase hO hV.far (fun e => hDv _ e hV.inD) hx).mono ?_
  rintro e w' ⟨rfl, y, hy, hat, hd⟩
  exact ⟨rfl, map_ran b base D Inv hI bm get put hV keyInt v fs d w w' K s1 _ (.int .i64 x) _ _ trivial h hD hDv hs (undropInt_step bm _ _ x y hx hy hat) (undropInt_enters _ _ _ _) hd hsz (fun k hk => Maps.has_del_other hk) (fun k hk z => Maps.atKey_del_other hk _)⟩
end

end Go.Proofs.Ytmdcalkfapcafaa
