/-
  Law 09: UndoTable: the Try, and the loops.
-/
import Derived.Test.YtmdcalkfapcafaaL09d
import Derived.Maps.RangeWalk
namespace Go.Proofs.Ytmdcalkfapcafaa
open Go.RowKit

theorem tab_try (W : World) (av ak af : Option Addr) (lv cv lk ck lf cf : Nat) (T V : Nat → List UInt8) (B : Nat → Bool) (hv : SliceOf W av lv cv (fun i => .string (S (V i)))) (hk : SliceOf W ak lk ck (fun i => .string (S (T i)))) (hf : SliceOf W af lf cf (fun i => .bool (B i)))
    (hT : ∀ i, i < lk → (T i).length ≤ maxLen) (hV : ∀ i, i < lv → (V i).length ≤ maxLen)
    (b bm bi bl bv bc bk bf : Nat) (i last : Nat) (D : DataW Unit) (w : World) (hW : Below W.heap.size W w) (hNb : W.heap.size ≤ b) (hL : LogAt w b 0 (.slice none 0 0) [] 0) (hb : b < bm) (hI : InvT bm () D w) (hsz : Maps.size D ≤ i)
    (hi : w.heap[bi]? = some (.cells #[.int .i64 i] 3 (0, 0))) (hl : w.heap[bl]? = some (.cells #[.int .i64 last] 3 (0, 0))) (hbv : w.heap[bv]? = some (.cells #[.slice av lv cv] 46 (0, 0))) (hbc : w.heap[bc]? = some (.cells #[.map (some bm)] 47 (0, 0)))
    (hbk : w.heap[bk]? = some (.cells #[.slice ak lk ck] 46 (0, 0))) (hbf : w.heap[bf]? = some (.cells #[.slice af lf cf] 23 (0, 0)))
    (hne : ∀ k, k = bi ∨ k = bl ∨ k = bv ∨ k = bc ∨ k = bk ∨ k = bf → k ≠ bm ∧ k ≠ b) (hlast : i ≤ last) (hlv : last < lv) (hlk : last < lk) (hlf : last < lf) (hl30 : last < 30) (fl : Bool) (hfl : B last = fl) :
    Calls Try.prog 16 #[.pointer (some ⟨b, 0, none⟩), .func (.func 24) #[] #[.pointer (some ⟨bi, 0, none⟩), .pointer (some ⟨bl, 0, none⟩), .pointer (some ⟨bv, 0, none⟩), .pointer (some ⟨b, 0, none⟩), .pointer (some ⟨bc, 0, none⟩), .pointer (some ⟨bk, 0, none⟩), .pointer (some ⟨bf, 0, none⟩)]] w fun e w' =>
      e = .returned (.int .i64 (if fl then 11 else 0)) ∧ LogAt w' b 0 (.slice none 0 0) [] 0 ∧ InvT bm () (if fl then D else tabTo T V i (last + 1 - i) D) w' ∧ Fr (fun k => k = bm ∨ k = b) w w' := by
  have nov : ∀ k, some k ≠ (Value.slice none 0 0).ownBlock := fun k => by simp [Value.ownBlock]
  have hbm := hI.1.lt
  refine (try_ran b 0 (fun k => k = bm) (InvT bm) (invT_stable b bm (by omega)) _ [] 0 _ _ w D hL (by omega) (fun _ => rfl) (fun k hk => by omega) (fun k hk => absurd hk (nov k)) (enters_tab _ _ _ _ _ _ _) (fun _ s => s = tabTo T V i (last + 1 - i) D ∧ fl = false) (fun c _ => c = 11 ∧ fl = true) (fun w1 hL1 hF1 _ =>
    (tab_run W av ak af lv cv lk ck lf cf T V B hv hk hf hT hV b bm bi bl bv bc bk bf i last D w1 (hW.trans (hF1.below hW.size (fun k hk e => by omega))) hNb hL1 hb ⟨hI.1.same (hF1.block bm hbm (by omega)), hI.2⟩ hsz (hF1.heap hi (hne _ (by simp)).2) (hF1.heap hl (hne _ (by simp)).2) (hF1.heap hbv (hne _ (by simp)).2) (hF1.heap hbc (hne _ (by simp)).2) (hF1.heap hbk (hne _ (by simp)).2) (hF1.heap hbf (hne _ (by simp)).2) hne hlast hlv hlk hlf hl30 fl hfl).mono ?_)).mono ?_
  · rintro e w3 ⟨⟨rs, v', hR⟩, he⟩
    refine ⟨(), _, rs, v', hR, ?_⟩
    cases fl with
    | true => exact .inr ⟨11, by omega, by simpa using he, rfl, rfl⟩
    | false => exact .inl ⟨_, by simpa using he, rfl, rfl⟩
  · rintro e w' ⟨c, rfl, K, s3, rs, v', hc, -, hL', hrs, hM, hi', hF⟩
    obtain ⟨rfl, rfl⟩ := hrs rfl
    have hF' : Fr (fun k => k = bm ∨ k = b) w w' := hF.mono (fun i _ h => by
      rcases h with h | h | h
      · exact .inl h
      · exact .inr h
      · exact absurd h (nov i))
    rcases hc with ⟨rfl, rfl, rfl⟩ | ⟨_, rfl, rfl, rfl⟩
    · exact ⟨rfl, by simpa using hL', hi', hF'⟩
    · exact ⟨rfl, by simpa using hL', hi', hF'⟩

theorem SliceOf.at {w : World} {y : Addr} {len cap : Nat} {f : Nat → Value} (h : SliceOf w (some y) len cap f) {i : Nat} (hi : i < len) : w.cell? (y.add i) = some (f i) := by
  obtain ⟨x, hx, h2⟩ := h.get hi
  cases hx
  exact h2
theorem SliceOf.some {w : World} {a : Option Addr} {len cap : Nat} {f : Nat → Value} (h : SliceOf w a len cap f) (hi : 0 < len) : ∃ y, a = some y := by
  obtain ⟨x, hx, h2⟩ := h.get hi
  exact ⟨x, hx⟩

/-- Struck, then put: as put alone. -/
theorem del_put (D : DataW Unit) (k : Lit) (d : DataW Unit) : (D.del k).put k d = D.put k d := by
  cases D <;> try rfl
  rename_i es
  show DataW.map (DataW.insert (k, d) ((es.filter fun p => !p.1.sameKey k).filter fun p => !p.1.sameKey k)) = DataW.map (DataW.insert (k, d) (es.filter fun p => !p.1.sameKey k))
  rw [List.filter_filter]
  simp

/-- What lies in memory between the Tries. -/
structure TabSt (W : World) (ak av af : Option Addr) (lk ck lv cv lf cf : Nat) (b : Nat) (Dm Dw : DataW Unit) (w : World) : Prop where
  below : Below W.heap.size W w
  hb : W.heap.size + 3 ≤ b
  hsz : b + 4 ≤ w.heap.size
  k : w.heap[W.heap.size]? = some (.cells #[.slice ak lk ck] 46 (0, 0))
  v : w.heap[W.heap.size + 1]? = some (.cells #[.slice av lv cv] 46 (0, 0))
  f : w.heap[W.heap.size + 1 + 1]? = some (.cells #[.slice af lf cf] 23 (0, 0))
  c : w.heap[b + 1 + 1 + 1]? = some (.cells #[.map (some (b + 1))] 47 (0, 0))
  log : LogAt w b 0 (.slice none 0 0) [] 0
  m : OwnM Try.prog 9 9 w (b + 1) Dm
  w : OwnM Try.prog 9 9 w (b + 1 + 1) Dw
section
variable {W : World} {ak av af : Option Addr} {lk ck lv cv lf cf : Nat} {b : Nat} {Dm Dw : DataW Unit} {w w' : World}
theorem TabSt.fr (h : TabSt W ak av af lk ck lv cv lf cf b Dm Dw w) (hF : Fr (fun k => b + 4 ≤ k) w w') : TabSt W ak av af lk ck lv cv lf cf b Dm Dw w' := by
  have hb := h.hb
  have h1 := h.m.lt
  have h2 := h.w.lt
  exact ⟨h.below.trans (hF.below h.below.size (fun k hk e => by omega)), h.hb, Nat.le_trans h.hsz hF.size, hF.heap h.k (by omega), hF.heap h.v (by omega), hF.heap h.f (by omega), hF.heap h.c (by omega), h.log.fr hF (by omega) (fun k hk => by simp [Value.ownBlock] at hk),
    h.m.same (hF.block _ h1 (by omega)), h.w.same (hF.block _ h2 (by omega))⟩
theorem TabSt.alloc (h : TabSt W ak av af lk ck lv cv lf cf b Dm Dw w) (o : Obj) : TabSt W ak av af lk ck lv cv lf cf b Dm Dw (w.alloc o) := h.fr ((Fr.refl _ _).alloc o)
theorem TabSt.set (h : TabSt W ak av af lk ck lv cv lf cf b Dm Dw w) (a : Addr) (x : Value) (ha : b + 4 ≤ a.block) : TabSt W ak av af lk ck lv cv lf cf b Dm Dw (w.setCell a x) := h.fr ((Fr.refl _ _).setCell (fun _ => ha) x)
theorem TabSt.drew (h : TabSt W ak av af lk ck lv cv lf cf b Dm Dw w) : TabSt W ak av af lk ck lv cv lf cf b Dm Dw w.drew := h.fr (Fr.refl _ _).drew
/-- The other table has turned. -/
theorem TabSt.want (h : TabSt W ak av af lk ck lv cv lf cf b Dm Dw w) {D2 : DataW Unit} (hG : w.grownBy w' (some (b + 1 + 1))) (hO : OwnM Try.prog 9 9 w' (b + 1 + 1) D2) : TabSt W ak av af lk ck lv cv lf cf b Dm D2 w' := by
  have hb := h.hb
  have hF : Fr (fun k => k = b + 1 + 1) w w' := (Fr.ofGrown hG).mono (fun i _ e => by simpa using e)
  have h1 := h.m.lt
  exact ⟨h.below.trans (hF.below h.below.size (fun k hk e => by omega)), h.hb, Nat.le_trans h.hsz hF.size, hF.heap h.k (by omega), hF.heap h.v (by omega), hF.heap h.f (by omega), hF.heap h.c (by omega), h.log.fr hF (by omega) (fun k hk => by simp [Value.ownBlock] at hk),
    h.m.same (hF.block _ h1 (by omega)), hO⟩
/-- A Try has turned the table. -/
theorem TabSt.tried (h : TabSt W ak av af lk ck lv cv lf cf b Dm Dw w) {D2 : DataW Unit} (hF : Fr (fun k => k = b + 1 ∨ k = b) w w') (hL : LogAt w' b 0 (.slice none 0 0) [] 0) (hO : OwnM Try.prog 9 9 w' (b + 1) D2) : TabSt W ak av af lk ck lv cv lf cf b D2 Dw w' := by
  have hb := h.hb
  have h1 := h.w.lt
  exact ⟨h.below.trans (hF.below h.below.size (fun k hk e => by omega)), h.hb, Nat.le_trans h.hsz hF.size, hF.heap h.k (by omega), hF.heap h.v (by omega), hF.heap h.f (by omega), hF.heap h.c (by omega), hL, hO, h.w.same (hF.block _ h1 (by omega))⟩
end

theorem run_min2 {P : Program} (ts : Array TypeId) (t : TypeId) (a b n : Nat) (ai : Int) (ha : ai = a) (hn : min a b = n) (w : World) : (Builtin.min_ ts t #[.int .i64 ai, .int .i64 (b : Int)]).run P w = .ok (.int .i64 (n : Int)) w := by
  subst hn ha
  simp only [Builtin.min_, Builtin.min2, List.foldlM, Sem.run_pure, pure_bind]
  congr 2
  split <;> omega

theorem keyOf_string_inv {P : Program} {k : TypeId} (hk : P.underlying k = some .string) {key : Value} {kl : Lit} (h : keyOf P k key = some kl) : ∃ x : ByteArray, key = .string x ∧ kl = .string x.data.toList ∧ x.size ≤ maxLen := by
  cases key <;> simp [keyOf, hk, mapKey] at h
  exact ⟨_, rfl, h.2.symm, h.1⟩

section
variable {P : Program} (w : World) {ops : Array Oper} {rest : List Oper} {o : Oper} {a : Act} {Q : Exit → Act → World → Prop}
theorem wpList_next_ss (hg : o.guard = none) (it : Operand) (hop : o.op = Op.next it false) (k e : TypeId) (K : Maps.Keyed P k) (hk : P.underlying k = some .string) (he : P.underlying e = some .string)
    (b r n : Nat) (D : DataW Unit) (left : Lit → Bool) (cnt : Nat) (hit : a.eval it = .pointer (some ⟨r, 0, none⟩)) (h : w.ranges P k (plainElem P e) b r n D left cnt)
    (hDone : wpList P ops Q rest (a.put o.dst (.tuple #[.bool false])) w)
    (hMore : ∀ (x c : ByteArray) (w' : World) (left' : Lit → Bool) (cnt' : Nat), x.size ≤ maxLen → (∀ zd, D.atKey (.string x.data.toList) zd = .lit (.string c.data.toList)) → w'.ranges P k (plainElem P e) b r n D left' cnt' → cnt' < cnt →
      w.grownBy w' (some r) → w'.heap.size = w.heap.size → (Instr.entry (.pointer (some ⟨r, 0, none⟩))).run P w' = .ok (.tuple #[.string x, .string c]) w' → wpList P ops Q rest (a.put o.dst (.tuple #[.bool true, .string x, .string c])) w') :
    wpList P ops Q (o :: rest) a w :=
  wpList_next_ranges w hg it hop k K (plainElem P e) Value.string Value.string (fun key kl hkey => by obtain ⟨x, rfl, _⟩ := keyOf_string_inv hk hkey; exact ⟨x, rfl⟩) (fun v y hv => by obtain ⟨c, rfl, _⟩ := plainElem_string_inv he hv; exact ⟨c, rfl⟩)
    b r n D left cnt hit h (fun _ _ => hDone) (fun x c kl y w' cnt' hkey hlk hv hat hrg hlt hgr hsz hen => by
      obtain ⟨x', ex, rfl, hwx⟩ := keyOf_string_inv hk hkey
      cases ex
      obtain ⟨c', ec, rfl, hwc⟩ := plainElem_string_inv he hv
      cases ec
      exact hMore x c w' _ cnt' hwx hat hrg hlt hgr hsz hen)
theorem wpList_lookup_known (hg : o.guard = none) (m x : Operand) (t : TypeId) (hop : o.op = Op.lookup t m x true) (k e : TypeId) (K : Maps.Keyed P k) (ht : P.underlying t = some (.map k e)) (he : P.underlying e = some .string) (hz : (zeroValue e).run P w = .ok (.string ByteArray.empty) w) (b n : Nat) (D : DataW Unit)
    (hm : a.eval m = .map (some b)) (hown : w.ownsMap P k (plainElem P e) b n D) (key : Value) (kl : Lit) (hx : a.eval x = key) (hkey : keyOf P k key = some kl) (c : ByteArray) (hat : ∀ zd, D.atKey kl zd = .lit (.string c.data.toList))
    (hK : wpList P ops Q rest (a.put o.dst (.tuple #[.string c, .bool true])) w) :
    wpList P ops Q (o :: rest) a w := by
  refine wpList_plain hg fun K' hK' => ?_
  obtain ⟨v, ps, hrun, hv⟩ := hown.look_ok K ht hz (plainElem_string he (by decide)) hkey
  rw [hat] at hv
  obtain ⟨s, rfl, h2, _⟩ := plainElem_string_inv he hv
  have hs : s = c := by
    simp at h2
    have h3 : s.data = c.data := h2.1.symm
    cases s; cases c; simpa using h3
  subst hs
  rw [Maps.has_true_of_atKey hat] at hrun
  unfold Oper.wp
  simp [execOp, hop, hm, hx, hrun, Result.andThen]
  exact hK' _ _ hK
end

theorem run_min4 {P : Program} (ts : Array TypeId) (t : TypeId) (a b c d n : Nat) (di : Int) (hd : di = d) (hn : min (min (min a b) c) d = n) (w : World) : (Builtin.min_ ts t #[.int .i64 (a : Int), .int .i64 (b : Int), .int .i64 (c : Int), .int .i64 di]).run P w = .ok (.int .i64 (n : Int)) w := by
  subst hn hd
  simp only [Builtin.min_, Builtin.min2, List.foldlM, Sem.run_pure, pure_bind]
  congr 2
  split <;> split <;> split <;> omega

set_option maxHeartbeats 1000000 in
theorem walkUndoTable (W : World) (ak : Option Addr) (lk ck : Nat) (T : Nat → List UInt8) (av : Option Addr) (lv cv : Nat) (V : Nat → List UInt8) (af : Option Addr) (lf cf : Nat) (B : Nat → Bool)
    (h0 : SliceOf W ak lk ck (fun i => .string (S (T i))) ∧ ∀ i, i < lk → (T i).length ≤ maxLen) (h1 : SliceOf W av lv cv (fun i => .string (S (V i))) ∧ ∀ i, i < lv → (V i).length ≤ maxLen) (h2 : SliceOf W af lf cf (fun i => .bool (B i))) :
    Calls Try.prog 6 #[.slice ak lk ck, .slice av lv cv, .slice af lf cf] W fun e w' => e = .returned (.bool true) ∧ Below W.heap.size W w' := by
  obtain ⟨n, hn⟩ : ∃ n, min (min (min lk lv) lf) 30 = n := ⟨_, rfl⟩
  have hmin := fun w => run_min4 (P := Try.prog) #[3, 3, 3, 3] 3 lk lv lf 30 n 30 rfl hn w
  have hmm := @run_makeMap Try.prog
  have H0 := hid h0
  have H1 := hid h1
  have H2 := hid h2
  clear h0 h1 h2
  go_enter Try.func6, Try.ntmps6
  go_wp2_with fail
  refine (awake09 _).mono ?_
  rintro e w1 ⟨rfl, hB1⟩
  have ck1 := (hB1.block W.heap.size (by simp; omega)).trans (heap_old (heap_old (heap_new W (.cells #[.slice ak lk ck] 46)) (.cells #[.slice av lv cv] 46)) (.cells #[.slice af lf cf] 23))
  have cv1 := (hB1.block (W.heap.size + 1) (by simp)).trans (heap_old (heap_newk (w := W.alloc (.cells #[.slice ak lk ck] 46)) (k := W.heap.size + 1) (.cells #[.slice av lv cv] 46) (by simp)) (.cells #[.slice af lf cf] 23))
  have cf1 := (hB1.block (W.heap.size + 1 + 1) (by simp)).trans (heap_newk (w := (W.alloc (.cells #[.slice ak lk ck] 46)).alloc (.cells #[.slice av lv cv] 46)) (k := W.heap.size + 1 + 1) (.cells #[.slice af lf cf] 23) (by simp))
  have hsz : W.heap.size + 3 ≤ w1.heap.size := by simpa using hB1.size
  have hBW : Below W.heap.size W w1 := ((((Below.refl W.heap.size W).alloc (Nat.le_refl _) (.cells #[.slice ak lk ck] 46)).alloc (by simp) (.cells #[.slice av lv cv] 46)).alloc (by simp; omega) (.cells #[.slice af lf cf] 23)).trans (hB1.mono (by simp; omega))
  have l0 : W.heap.size < w1.heap.size := by omega
  have l1 : W.heap.size + 1 < w1.heap.size := by omega
  have l2 : W.heap.size + 1 + 1 < w1.heap.size := by omega
  have d0 := cell_of_one ck1
  have d1 := cell_of_one cv1
  have d2 := cell_of_one cf1
  have hBWs : W.heap.size ≤ w1.heap.size := by omega
  have Hck := hid ck1
  have Hcv := hid cv1
  have Hcf := hid cf1
  have HBW := hid hBW
  clear ck1 cv1 cf1 hB1 hBW
  go_upto_region 5 with fail
  have hLg := LogAt.new (heap_old (heap_old (heap_old (heap_new w1 (.cells #[.slice none 0 0, .int .i64 0] 32)) (.map #[] 0)) (.map #[] 0)) (.cells #[.map (some (w1.heap.size + 1))] 47)) 0
  have hbc := heap_newk (w := ((w1.alloc (.cells #[.slice none 0 0, .int .i64 0] 32)).alloc (.map #[] 0)).alloc (.map #[] 0)) (k := w1.heap.size + 1 + 1 + 1) (.cells #[.map (some (w1.heap.size + 1))] 47) (by simp)
  have hm := ((World.ownsMap_made (w1.alloc (.cells #[.slice none 0 0, .int .i64 0] 32)) Try.prog 9 (plainElem (H := Unit) Try.prog 9)).alloc (.map #[] 0)).alloc (.cells #[.map (some (w1.heap.size + 1))] 47)
  have hw := (World.ownsMap_made ((w1.alloc (.cells #[.slice none 0 0, .int .i64 0] 32)).alloc (.map #[] 0)) Try.prog 9 (plainElem (H := Unit) Try.prog 9)).alloc (.cells #[.map (some (w1.heap.size + 1))] 47)
  have hF := ((((Fr.refl (fun _ => False) w1).alloc (.cells #[.slice none 0 0, .int .i64 0] 32)).alloc (.map #[] 0)).alloc (.map #[] 0)).alloc (.cells #[.map (some (w1.heap.size + 1))] 47)
  have hsz2 : (((((w1.alloc (.cells #[.slice none 0 0, .int .i64 0] 32)).alloc (.map #[] 0)).alloc (.map #[] 0)).alloc (.cells #[.map (some (w1.heap.size + 1))] 47))).heap.size = w1.heap.size + 4 := by simp
  rw [show (w1.alloc (.cells #[.slice none 0 0, .int .i64 0] 32)).heap.size = w1.heap.size + 1 from by simp] at hm
  rw [show ((w1.alloc (.cells #[.slice none 0 0, .int .i64 0] 32)).alloc (.map #[] 0)).heap.size = w1.heap.size + 1 + 1 from by simp] at hw
  generalize (((w1.alloc (.cells #[.slice none 0 0, .int .i64 0] 32)).alloc (.map #[] 0)).alloc (.map #[] 0)).alloc (.cells #[.map (some (w1.heap.size + 1))] 47) = w2 at hLg hbc hm hw hF hsz2 ⊢
  have e0 := cell_of_one (hF.heap Hck.out id)
  have e1 := cell_of_one (hF.heap Hcv.out id)
  have e2 := cell_of_one (hF.heap Hcf.out id)
  have Hck2 := hid (hF.heap Hck.out id)
  have Hcv2 := hid (hF.heap Hcv.out id)
  have Hcf2 := hid (hF.heap Hcf.out id)
  have HBW2 := hid (HBW.out.trans (hF.below hBWs (fun _ _ => id)))
  have HS : Hid (TabSt W ak av af lk ck lv cv lf cf w1.heap.size (.map []) (.map []) w2) := hid ⟨HBW2.out, hsz, by omega, Hck2.out, Hcv2.out, Hcf2.out, hbc, hLg, OwnM.of hm, OwnM.of hw⟩
  clear hLg hbc hm hw hF d0 d1 d2 Hck2 Hcv2 Hcf2 HBW2 Hck Hcv Hcf HBW
  generalize hbq : w1.heap.size = b at *
  go_wp2_with fail
  clear e0 e1 e2 hmm hmin l0 l1 l2 hBWs hbq w1
  go_loopg [11] n (fun r p wr => ∃ i bi D, r = n - i ∧ p = .pointer (some ⟨bi, 0, none⟩) ∧ b + 4 ≤ bi ∧ wr.heap[bi]? = some (.cells #[.int .i64 i] 3 (0, 0)) ∧ Maps.size D ≤ i ∧ i ≤ 60 ∧ TabSt W ak av af lk ck lv cv lf cf b D D wr)
  case atStart => exact ⟨0, b + 4, .map [], by omega, rfl, by omega, heap_newk _ (by omega), by simp [Maps.size], by omega, HS.out.alloc _⟩
  case round =>
    obtain ⟨i, bi, D, hr, rfl, hbi, hci, hsD, hi60, hS⟩ := hrel
    have ci := cell_of_one hci
    have hbil := lt_of_block hci
    have HSr := hid hS
    have Hci := hid hci
    clear hci hS
    by_cases hin : i < n
    · have hd : decide (i < n) = true := by simp; omega
      obtain ⟨last, hlast⟩ : ∃ last, min (i + 3) n = last + 1 := ⟨min (i + 3) n - 1, by omega⟩
      have hmin2 := fun w => run_min2 (P := Try.prog) #[3, 3] 3 (i + 3) n (last + 1) ((i : Int) + 3) (by omega) hlast w
      have hl1 : (((last + 1 : Nat) : Int) - 1) = (last : Int) := by omega
      have hl30 : last < 30 := by omega
      have hil : i ≤ last := by omega
      have hln : last < n := by omega
      have hlv : last < lv := by omega
      have hlk : last < lk := by omega
      have hlf : last < lf := by omega
      have hS := HSr.out
      have hb3 := hS.hb
      cases hfl : B last
      all_goals
        go_wp2_with fail
        refine (tab_try W av ak af lv cv lk ck lf cf T V B H1.out.1 H0.out.1 H2.out H0.out.2 H1.out.2 b (b + 1) bi wr.heap.size (W.heap.size + 1) (b + 1 + 1 + 1) W.heap.size (W.heap.size + 1 + 1) i last D _ (hS.alloc _).below (by omega) (hS.alloc _).log (by omega) ⟨(hS.alloc _).m, by omega⟩ hsD (heap_old Hci.out _) (heap_new _ _) (hS.alloc _).v (hS.alloc _).c (hS.alloc _).k (hS.alloc _).f (fun k hk => by omega) hil hlv hlk hlf hl30 _ hfl).mono ?_
        rintro e w3 ⟨rfl, hL3, hI3, hF3⟩
        have hS3 := (hS.alloc (.cells #[.int .i64 last] 3)).tried hF3 hL3 hI3.1
        have hci3 := hF3.heap (heap_old Hci.out (.cells #[.int .i64 last] 3)) (by omega)
        have hcl3 := hF3.heap (heap_new wr (.cells #[.int .i64 last] 3)) (by omega)
        have HS3 := hid hS3
        have Hci3 := hid hci3
        have Hcl3 := hid hcl3
        have c5 := cell_of_one hS3.f
        have cl := cell_of_one hcl3
        have ci3 := cell_of_one hci3
        obtain ⟨yf, hyf, hcf⟩ := (H2.out.below hS3.below).get (i := last) hlf
        rw [hfl] at hcf
        have hqf : (last : Int) < lf := by omega
        clear hS3 hci3 hcl3 hL3 hI3 hF3
        subst hyf
        have Hfl := hid hfl
        clear hfl hmin2
        go_wp2_with fail
      · simp only [Bool.false_eq_true, if_false] at HS3
        go_loopw [14] (fun x w' => ∃ q : Nat, i ≤ q ∧ q ≤ last + 1 ∧ x = .int .i64 q ∧ w'.heap[bi]? = some (.cells #[.int .i64 i] 3 (0, 0)) ∧ w'.heap[wr.heap.size]? = some (.cells #[.int .i64 last] 3 (0, 0)) ∧ Maps.size (tabTo T V i (q - i) D) ≤ q ∧ TabSt W ak av (some yf) lk ck lv cv lf cf b (tabTo T V i (last + 1 - i) D) (tabTo T V i (q - i) D) w') (fun x _ => last + 1 - (intOf x).toNat)
        case atStart => exact ⟨i, Nat.le_refl _, by omega, rfl, Hci3.out, Hcl3.out, by rw [Nat.sub_self, tabTo_zero]; exact hsD, by rw [Nat.sub_self, tabTo_zero]; exact HS3.out⟩
        case round =>
          obtain ⟨q, hiq, hql, rfl, hci4, hcl4, hsq, hS4⟩ := hrel
          have cl4 := cell_of_one hcl4
          have ci4 := cell_of_one hci4
          have c5 := cell_of_one hS4.f
          have c6 := cell_of_one hS4.k
          have c7 := cell_of_one hS4.v
          obtain ⟨yf', hyf', hcf⟩ := (H2.out.below hS4.below).get (i := last) hlf
          cases hyf'
          rw [Hfl.out] at hcf
          have hbi4 := lt_of_block hci4
          have HS4 := hid hS4
          have Hci4 := hid hci4
          have Hcl4 := hid hcl4
          by_cases hjl : q ≤ last
          · have hd2 : decide (q ≤ last) = true := by simp; omega
            obtain ⟨yk, hyk, hck⟩ := (H0.out.1.below hS4.below).get (i := q) (by omega)
            obtain ⟨yv, hyv, hcv⟩ := (H1.out.1.below hS4.below).get (i := q) (by omega)
            subst hyk
            subst hyv
            have hqk : (q : Int) < lk := by omega
            have hqv : (q : Int) < lv := by omega
            have hOw := hid hS4.w
            clear hS4 hci4 hcl4
            have Hop : ∀ D2, tabOp T V q (tabTo T V i (q - i) D) = D2 → tabTo T V i (q + 1 - i) D = D2 := fun D2 h => by rw [show q + 1 - i = (q - i) + 1 from by omega, tabTo_succ, show i + (q - i) = q from by omega]; exact h
            have Hsz : Maps.size (tabOp T V q (tabTo T V i (q - i) D)) ≤ q + 1 := by have := size_op (T := T) (V := V) (j := q) keyStr hOw.out; omega
            have HOp := hid Hop
            have HSz := hid Hsz
            clear Hop Hsz
            by_cases hV0 : V q = []
            · have hem : (S (V q)).toList.isEmpty = true := by rw [hV0, S_toList]; rfl
              have HV0 := hid hV0
              clear hV0
              go_wp2_with (first | (at_delete; refine wpList_delete_own _ rfl _ _ 47 9 rfl 9 keyStr Try.underlying47 _ (b + 1 + 1) _ _ rfl hOw.out _ _ rfl (WideMaps.keyOf_string_mk Try.underlying9 (by rw [S_size]; exact H0.out.2 q (by omega))) ?_; intro w5 hown5 hturn5; have hS5 := HS4.out.want hturn5.grown (OwnM.of hown5); have hF5 : Fr (fun k => k = b + 1 + 1) wr w5 := (Fr.ofGrown hturn5.grown).mono (fun i _ e => by simpa using e); have q5 := cell_of_one hS5.k; have q6 := cell_of_one hS5.v; have q7 := (H0.out.1.below hS5.below).at (i := q) (by omega); have q8 := (H1.out.1.below hS5.below).at (i := q) (by omega); have HS5 := hid hS5; have HF5 := hid hF5; clear hown5 hturn5 hS5 hF5) | fail)
              refine ⟨⟨q + 1, by omega, by omega, by go_num, HF5.out.heap Hci4.out (by omega), HF5.out.heap Hcl4.out (by omega), by rw [HOp.out _ rfl]; exact HSz.out, ?_⟩, by simp [intOf]; omega⟩
              rw [HOp.out _ rfl, show tabOp T V q (tabTo T V i (q - i) D) = (tabTo T V i (q - i) D).del (.string (S (T q)).data.toList) from by unfold tabOp; rw [if_pos HV0.out]]
              exact HS5.out
            · have hem : (S (V q)).toList.isEmpty = false := by rw [S_toList]; simpa using hV0
              have HV0 := hid hV0
              clear hV0
              go_wp2_with (first | (at_delete; refine wpList_delete_own _ rfl _ _ 47 9 rfl 9 keyStr Try.underlying47 _ (b + 1 + 1) _ _ rfl hOw.out _ _ rfl (WideMaps.keyOf_string_mk Try.underlying9 (by rw [S_size]; exact H0.out.2 q (by omega))) ?_; intro w5 hown5 hturn5; have hS5 := HS4.out.want hturn5.grown (OwnM.of hown5); have hF5 : Fr (fun k => k = b + 1 + 1) wr w5 := (Fr.ofGrown hturn5.grown).mono (fun i _ e => by simpa using e); have q5 := cell_of_one hS5.k; have q6 := cell_of_one hS5.v; have q7 := (H0.out.1.below hS5.below).at (i := q) (by omega); have q8 := (H1.out.1.below hS5.below).at (i := q) (by omega); have HS5 := hid hS5; have HF5 := hid hF5; clear hown5 hturn5 hS5 hF5) | fail)
              go_still_tail 9, (by kernel_rfl)
              change wpList _ _ _ _ _ w5.drew
              have hsd : Maps.size ((tabTo T V i (q - i) D).del (.string (S (T q)).data.toList)) < maxLen := by have := Maps.size_del (k := .string (S (T q)).data.toList) (World.ownsMap.tidy hOw.out keyStr); unfold maxLen; omega
              go_wp2_with (first | (at_mapUpdate; refine wpList_mapUpdate_own _ rfl _ _ _ 47 rfl 9 9 keyStr Try.underlying47 _ (b + 1 + 1) _ _ rfl (World.ownsMap.drew HS5.out.w) hsd _ _ _ rfl rfl (WideMaps.keyOf_string_mk Try.underlying9 (by rw [S_size]; exact H0.out.2 q (by omega))) _ [] (plainElem_string Try.underlying9 (by rw [S_size]; exact H1.out.2 q (by omega))) ?_; intro w6 hown6 hgrow6; have hS6 := HS5.out.drew.want hgrow6 (OwnM.of hown6); have hF6 : Fr (fun k => k = b + 1 + 1) wr w6 := HF5.out.drew.trans ((Fr.ofGrown hgrow6).mono (fun i _ e => by simpa using e)) (fun _ _ h => h); have HS6 := hid hS6; have HF6 := hid hF6; clear hown6 hgrow6 hS6 hF6) | fail)
              refine ⟨⟨q + 1, by omega, by omega, by go_num, HF6.out.heap Hci4.out (by omega), HF6.out.heap Hcl4.out (by omega), by rw [HOp.out _ rfl]; exact HSz.out, ?_⟩, by simp [intOf]; omega⟩
              rw [HOp.out _ rfl, show tabOp T V q (tabTo T V i (q - i) D) = (tabTo T V i (q - i) D).put (.string (S (T q)).data.toList) (.lit (.string (S (V q)).data.toList)) from by unfold tabOp; rw [if_neg HV0.out]]
              have := HS6.out
              rwa [del_put] at this
          · have hd2 : decide (q ≤ last) = false := by simp; omega
            have hql2 : q = last + 1 := by omega
            clear hS4 hci4 hcl4
            have HQ := hid hql2
            clear hql2
            go_wp2_with fail
            go_roundg (n - (i + 3))
            case measure => omega
            case rel =>
              have hS5 := HS4.out
              rw [HQ.out] at hS5 hsq
              exact ⟨i + 3, wr.heap.size, tabTo T V i (last + 1 - i) D, rfl, rfl, by omega, by rw [show (((i + 3 : Nat)) : Int) = (i : Int) + 3 from by omega]; exact heap_new _ _, by omega, by omega, hS5.alloc _⟩
      · simp only [if_true] at HS3
        have hd2 : decide (i ≤ last) = true := by simp; omega
        go_loopw [14] (fun x w' => x = .int .i64 i ∧ w3 = w') (fun _ _ => 0)
        case atStart => exact ⟨rfl, rfl⟩
        case round =>
          obtain ⟨rfl, rfl⟩ := hrel
          go_wp2_with fail
          go_roundg (n - (i + 3))
          case measure => omega
          case rel =>
            exact ⟨i + 3, w3.heap.size, D, rfl, rfl, by have := HS3.out.hsz; omega, by rw [show (((i + 3 : Nat)) : Int) = (i : Int) + 3 from by omega]; exact heap_new _ _, by omega, by omega, HS3.out.alloc _⟩
    · have hd : decide (i < n) = false := by simp; omega
      have hS := HSr.out
      have hb3 := hS.hb
      have hcc := cell_of_one hS.c
      have Hm := hid hS.m
      have Hw := hid hS.w
      clear hS
      go_wp2_with (first | (at_len; refine wpList_len_own _ rfl _ 47 rfl 9 9 Try.underlying47 _ (b + 1) _ D rfl Hm.out ?_) | (at_len; refine wpList_len_own _ rfl _ 47 rfl 9 9 Try.underlying47 _ (b + 1 + 1) _ D rfl Hw.out ?_) | (at_range; refine wpList_range_own _ rfl _ 47 rfl 9 9 keyStr Try.underlying47 _ (b + 1 + 1) _ D rfl Hw.out ?_; intro w4 hrg4 hg4 hs4; have Hrg4 := hid hrg4; have Hg4 := hid hg4; clear hrg4 hg4) | fail)
      go_frame
      go_loopw [15] (fun _ w' => ∃ left cnt, w'.ranges Try.prog 9 (plainElem Try.prog 9) (b + 1 + 1) wr.heap.size (Maps.size D) D left cnt ∧ Below W.heap.size W w' ∧ OwnM Try.prog 9 9 w' (b + 1) D ∧ w'.heap[b + 1 + 1 + 1]? = some (.cells #[.map (some (b + 1))] 47 (0, 0))) (fun _ w' => w'.rangeLeft (b + 1 + 1) wr.heap.size)
      case atStart =>
        have hS := HSr.out
        have hb3 := hS.hb
        have hF4 : Fr (fun _ => False) wr w4 := (Fr.ofGrown Hg4.out).mono (fun i _ e => by simp at e)
        exact ⟨_, _, Hrg4.out, hS.below.trans (hF4.below hS.below.size (fun _ _ h => h)), hS.m.same (hF4.block _ hS.m.lt id), hF4.heap hS.c id⟩
      case round =>
        obtain ⟨left, cnt, hrg, hBr, hmr, hcr⟩ := hrel
        have Hrg := hid hrg
        have HBr := hid hBr
        have Hmr := hid hmr
        have Hcr := hid hcr
        clear hrg hBr hmr hcr
        go_wp2_with (first | (at_next; refine wpList_next_ss _ rfl _ rfl 9 9 keyStr Try.underlying9 Try.underlying9 (b + 1 + 1) _ _ D _ _ rfl Hrg.out ?_ ?_; rotate_left; intro x c w5 left5 cnt5 hx hat hrg5 hlt hg5 hs5 hen; have hF5 : Fr (fun k => b + 4 ≤ k) _ w5 := (Fr.ofGrown hg5).mono (fun i _ e => by simp at e; omega); have hc5 := cell_of_one (hF5.heap Hcr.out (by omega)); have Hcr5 := hid (hF5.heap Hcr.out (by omega)); have Hmr5 := hid (Hmr.out.same (hF5.block _ Hmr.out.lt (by omega))); have HBr5 := hid (HBr.out.trans (hF5.below HBr.out.size (fun k hk e => by omega))); have Hrg5 := hid hrg5; have Hat := hid hat; clear hrg5 hat hg5 hF5) | (at_lookup; refine wpList_lookup_known _ rfl _ _ 47 rfl 9 9 keyStr Try.underlying47 Try.underlying9 (zeroStr _) (b + 1) _ D rfl Hmr5.out _ _ rfl (WideMaps.keyOf_string_mk Try.underlying9 hx) c Hat.out ?_) | fail)
        case roundEnd => exact ⟨⟨_, _, Hrg5.out, HBr5.out, Hmr5.out, Hcr5.out⟩, by rw [Hrg5.out.left_eq, Hrg.out.left_eq]; omega⟩
        go_ret
        exact ⟨rfl, HBr.out⟩

end Go.Proofs.Ytmdcalkfapcafaa
