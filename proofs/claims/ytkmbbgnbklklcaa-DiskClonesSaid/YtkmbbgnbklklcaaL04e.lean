/-
  Law 04: steps that are handed in; DiskSure's plain part.
-/
import Derived.Test.YtkmbbgnbklklcaaL04d
import Derived.Test.YtkmbbgnbklklcaaDiskF
import Derived.Test.YtkmbbgnbklklcaaArgsS
import Derived.Test.YtkmbbgnbklklcaaCut
namespace Go.Proofs.Ytkmbbgnbklklcaa
open Go.ChangeShapes Go.WideShapes Go.Deep Go.RowKit

/-- A step as it is handed in. -/
structure Act4 where
  kind : Int
  at_ : Int
  n : Int
  s : List UInt8
  ca : Option Addr
  cl : Nat
  cc : Nat
  cu : Nat → Int
structure Acts4 (w : World) (a : Option Addr) (len cap : Nat) (E : Nat → Act4) : Prop where
  max : len ≤ maxLen
  le : len ≤ cap
  reads : 0 < len → ∃ ad, a = some ad ∧ ∀ i, i < len → w.cell? (ad.add (i * 5)) = some (.int .i64 (E i).kind) ∧ w.cell? ⟨(ad.add (i * 5)).block, (ad.add (i * 5)).off + 1, none⟩ = some (.int .i64 (E i).at_) ∧ w.cell? ⟨(ad.add (i * 5)).block, (ad.add (i * 5)).off + 2, none⟩ = some (.int .i64 (E i).n) ∧
    w.cell? ⟨(ad.add (i * 5)).block, (ad.add (i * 5)).off + 3, none⟩ = some (.string (S (E i).s)) ∧ w.cell? ⟨(ad.add (i * 5)).block, (ad.add (i * 5)).off + 4, none⟩ = some (.slice (E i).ca (E i).cl (E i).cc) ∧ SliceOf w (E i).ca (E i).cl (E i).cc (fun k => .int .i64 ((E i).cu k))
theorem add_field4 (a : Addr) (i j : Nat) (hj : 0 < j) : a.add (i + j) = ⟨(a.add i).block, (a.add i).off + j, none⟩ := by
  unfold Addr.add
  rw [if_neg (by omega)]
  by_cases hi : i = 0 <;> simp [hi, Nat.add_assoc]
theorem args_acts4 {H : Type} {enc : TypeId × Value → H} {w : World} {held : Bool} {a : Option Addr} {len cap : Nat} {x : DataW H × List MemPlace} (h : ∃ fuel, DataW.trod enc Try.prog w 0 (fun _ => true) held fuel 42 [.slice a len cap] = some x) :
    ∃ E : Nat → Act4, Acts4 w a len cap E := by
  obtain ⟨fuel, hf⟩ := h
  obtain ⟨hm, hc, hr⟩ := open_slice_ints Try.underlying42 Try.underlying45 (by kernel_rfl) (by kernel_rfl) hf
  by_cases h0 : 0 < len
  · obtain ⟨ad, rfl, hg⟩ := hr h0
    have h3 : ∀ i, ∃ E : Act4, i < len → w.cell? (ad.add (i * 5)) = some (.int .i64 E.kind) ∧ w.cell? ⟨(ad.add (i * 5)).block, (ad.add (i * 5)).off + 1, none⟩ = some (.int .i64 E.at_) ∧ w.cell? ⟨(ad.add (i * 5)).block, (ad.add (i * 5)).off + 2, none⟩ = some (.int .i64 E.n) ∧
        w.cell? ⟨(ad.add (i * 5)).block, (ad.add (i * 5)).off + 3, none⟩ = some (.string (S E.s)) ∧ w.cell? ⟨(ad.add (i * 5)).block, (ad.add (i * 5)).off + 4, none⟩ = some (.slice E.ca E.cl E.cc) ∧ SliceOf w E.ca E.cl E.cc (fun k => .int .i64 (E.cu k)) := fun i => by
      by_cases hi : i < len
      · obtain ⟨v0, c0, n0, y0, t0⟩ := hg i hi 0 _ rfl
        obtain ⟨v1, c1, n1, y1, t1⟩ := hg i hi 1 _ rfl
        obtain ⟨v2, c2, n2, y2, t2⟩ := hg i hi 2 _ rfl
        obtain ⟨v3, c3, n3, y3, t3⟩ := hg i hi 3 _ rfl
        obtain ⟨v4, c4, n4, y4, t4⟩ := hg i hi 4 _ rfl
        obtain ⟨z0, e0, _⟩ := DataW.trod_int Try.underlying3 t0
        obtain ⟨z1, e1, _⟩ := DataW.trod_int Try.underlying3 t1
        obtain ⟨z2, e2, _⟩ := DataW.trod_int Try.underlying3 t2
        obtain ⟨z3, e3, _⟩ := DataW.trod_string Try.underlying9 t3
        have hsl : ∃ aa ll cc, v4 = .slice aa ll cc := by
          rcases open_slice Try.underlying43 t4 with ⟨e4, _⟩ | ⟨aa, ll, cc, _, _, _, _, e4, _⟩
          · simp only [List.cons.injEq, and_true] at e4
            exact ⟨none, 0, 0, e4⟩
          · simp only [List.cons.injEq, and_true] at e4
            exact ⟨_, _, _, e4⟩
        obtain ⟨aa, ll, cc, e4⟩ := hsl
        subst e4
        obtain ⟨cu, hcu, _⟩ := args_ints (k := .i64) Try.underlying43 Try.underlying3 (by kernel_rfl) ⟨_, t4⟩
        simp only [List.cons.injEq, and_true] at e0 e1 e2 e3
        subst e0 e1 e2 e3
        refine ⟨⟨z0, z1, z2, z3.data.toList, aa, ll, cc, cu⟩, fun _ => ⟨c0, ?_, ?_, ?_, ?_, hcu⟩⟩
        · rw [← add_field4 _ _ _ (by decide)]; exact c1
        · rw [← add_field4 _ _ _ (by decide)]; exact c2
        · rw [← add_field4 _ _ _ (by decide), S_of]; exact c3
        · rw [← add_field4 _ _ _ (by decide)]; exact c4
      · exact ⟨⟨0, 0, 0, [], none, 0, 0, fun _ => 0⟩, fun h => absurd h hi⟩
    exact ⟨fun i => Classical.choose (h3 i), ⟨hm, hc, fun _ => ⟨ad, rfl, fun i hi => Classical.choose_spec (h3 i) hi⟩⟩⟩
  · exact ⟨fun _ => ⟨0, 0, 0, [], none, 0, 0, fun _ => 0⟩, ⟨hm, hc, fun h => absurd h h0⟩⟩

theorem and_small (z : Int) (m : Nat) (hm : m < 1024) : ∃ k : Nat, k ≤ m ∧ bits .and .i64 z (m : Int) = (k : Int) := by
  have h : (BitVec.ofInt 64 z &&& BitVec.ofInt 64 (m : Int)).toNat ≤ m := by
    rw [BitVec.toNat_and]
    refine Nat.le_trans Nat.and_le_right ?_
    simp
    omega
  refine ⟨_, h, ?_⟩
  show IntKind.i64.wrap (((BitVec.ofInt 64 z &&& BitVec.ofInt 64 (m : Int)).toNat : Nat) : Int) = _
  rw [IntKind.wrap_i64]
  omega

/-- There is power, for as many calls as one likes; eight sectors. -/
structure Calm (D : Dsk) : Prop where
  n : D.n = 8
  dead : D.dead = false
  armed : D.armed = false
theorem Calm.fit {D : Dsk} (h : Calm D) : D.fit := ⟨h.dead, fun e => by rw [h.armed] at e; cases e⟩
theorem Calm.less {D : Dsk} (h : Calm D) : D.less = D := by unfold Dsk.less; rw [if_neg (by simp [h.armed])]
theorem Calm.write {D : Dsk} (h : Calm D) (k : Nat) (hk : k < 8) (s : List UInt8) (hs : s.length ≤ 64) : D.wErr k s = 0 ∧ D.wrote k s = { D with now := upd D.now k (pad s) } := by
  have ho : ¬ D.out k := by unfold Dsk.out; have := h.n; omega
  have hs' : ¬ 64 < s.length := by omega
  have hd : ¬ D.dead = true := by rw [h.dead]; simp
  unfold Dsk.wErr Dsk.wrote
  rw [if_neg hd, if_neg hd, if_neg ho, if_neg ho, if_neg hs', if_neg hs', if_pos h.fit, if_pos h.fit, h.less]
  exact ⟨rfl, rfl⟩
theorem Calm.sync {D : Dsk} (h : Calm D) : D.syncErr = 0 ∧ D.synced = { D with sure := fun i => if i < D.n then D.now i else D.sure i } := by
  have hf := h.fit
  unfold Dsk.fit at hf
  unfold Dsk.syncErr Dsk.synced
  rw [if_pos hf, if_pos hf, h.less]
  exact ⟨rfl, rfl⟩
theorem Calm.read {D : Dsk} (h : Calm D) (k : Nat) (hk : k < 8) : D.rErr k = 0 ∧ D.rText k = D.now k := by
  have ho : ¬ D.out k := by unfold Dsk.out; have := h.n; omega
  have hd : ¬ D.dead = true := by rw [h.dead]; simp
  unfold Dsk.rErr Dsk.rText
  rw [if_neg hd, if_neg hd, if_neg ho, if_neg ho]
  exact ⟨rfl, rfl⟩
theorem take_succ_getD (L : List Nat) (q : Nat) (h : q < L.length) : L.take (q + 1) = L.take q ++ [L.getD q 0] := by
  rw [List.take_add_one]
  simp [List.getD, h]
theorem tear_eq (D : Dsk) (cs : Nat → Nat) (L : List Nat) (q : Nat) (hq : q ≤ L.length) (j : Nat) (h : D.sure j = D.now j ∨ j ∈ L.take q) : (D.tearN cs L q).sure j = (D.tearN cs L q).now j := by
  induction q with
  | zero => rcases h with h | h; exact h; simp at h
  | succ q ih =>
    rw [take_succ_getD L q (by omega), List.mem_append, List.mem_singleton] at h
    show upd (D.tearN cs L q).sure (L.getD q 0) _ j = upd (D.tearN cs L q).now (L.getD q 0) _ j
    unfold upd
    by_cases hj : j = L.getD q 0
    · rw [if_pos hj, if_pos hj]
    · rw [if_neg hj, if_neg hj]
      exact ih (by omega) (by rcases h with h | h | h; exact .inl h; exact .inr h; exact absurd h hj)
theorem tear_keep (D : Dsk) (cs : Nat → Nat) (L : List Nat) (q : Nat) (hq : q ≤ L.length) (j : Nat) (h : j ∉ L.take q) : (D.tearN cs L q).sure j = D.sure j ∧ (D.tearN cs L q).now j = D.now j := by
  induction q with
  | zero => exact ⟨rfl, rfl⟩
  | succ q ih =>
    rw [take_succ_getD L q (by omega), List.mem_append, List.mem_singleton] at h
    have hj : ¬ j = L.getD q 0 := fun e => h (.inr e)
    show upd (D.tearN cs L q).sure (L.getD q 0) _ j = _ ∧ upd (D.tearN cs L q).now (L.getD q 0) _ j = _
    unfold upd
    rw [if_neg hj, if_neg hj]
    exact ih (by omega) (fun e => h (.inl e))
theorem mem_loose (D : Dsk) (j : Nat) : j ∈ loose D ↔ j < D.n ∧ D.sure j ≠ D.now j := by simp [loose, looseTo]
/-- Behind a crash all is sure; what was sure is there. -/
theorem crash_facts (D : Dsk) (n : Nat) (cs : Nat → Int) : (∀ j, j < D.n → (D.crash n cs).sure j = (D.crash n cs).now j) ∧ (∀ j, D.sure j = D.now j → (D.crash n cs).now j = D.now j) ∧ loose (D.crash n cs) = [] := by
  have h1 : ∀ j, j < D.n → (D.crash n cs).sure j = (D.crash n cs).now j := fun j hj => by
    refine tear_eq D (cutAt n cs) (loose D) _ (Nat.le_refl _) j ?_
    rw [List.take_length]
    by_cases h : D.sure j = D.now j
    · exact .inl h
    · exact .inr ((mem_loose D j).2 ⟨hj, h⟩)
  refine ⟨h1, fun j hj => (tear_keep D (cutAt n cs) (loose D) _ (Nat.le_refl _) j ?_).2, ?_⟩
  · rw [List.take_length]
    exact fun h => ((mem_loose D j).1 h).2 hj
  · refine List.eq_nil_iff_forall_not_mem.2 fun j hj => ?_
    obtain ⟨h2, h3⟩ := (mem_loose _ j).1 hj
    have hn : (D.crash n cs).n = D.n := tearN_n D (cutAt n cs) (loose D) _
    exact h3 (h1 j (by omega))
theorem Calm.crash {D : Dsk} (h : Calm D) (n : Nat) (cs : Nat → Int) : Calm (D.crash n cs) := ⟨(tearN_n D (cutAt n cs) (loose D) _).trans h.n, rfl, rfl⟩
end Go.Proofs.Ytkmbbgnbklklcaa
