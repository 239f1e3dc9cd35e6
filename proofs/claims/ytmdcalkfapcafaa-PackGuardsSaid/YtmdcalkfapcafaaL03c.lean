/-
  Law 03's PackGuards: Guards within Guards.
-/
import Derived.Test.YtmdcalkfapcafaaL03a
namespace Go.Proofs.Ytmdcalkfapcafaa
open Go.RowKit

def odd (E : Nat → Int) (k : Nat) : Bool := bits .and .i64 (E k) 1 == 1
def cnt (E : Nat → Int) (B : Nat → Bool) (n : Nat) : Nat → Nat → Nat
  | 0, _ => 0
  | m + 1, k => if k = n then 0 else 1 + (if odd E k && !B k then 0 else cnt E B n m (k + 1))

/-- What is given: where the blocks lie, what the slices read. -/
structure GG where
  bn : Nat
  bran : Nat
  be : Nat
  bb : Nat
  br : Nat
  bf : Nat
  n : Nat
  ve : Value
  vb : Value
  ae : Addr
  ce : Nat
  le : Nat
  ab : Addr
  lb : Nat
  cb : Nat
  E : Nat → Int
  B : Nat → Bool
  base : Nat
def GG.caps (g : GG) : Array Value := #[.pointer (some ⟨g.bn, 0, none⟩), .pointer (some ⟨g.bran, 0, none⟩), .pointer (some ⟨g.be, 0, none⟩), .pointer (some ⟨g.bb, 0, none⟩), .pointer (some ⟨g.br, 0, none⟩), .pointer (some ⟨g.bf, 0, none⟩)]
structure GW (g : GG) (w : World) (r : Nat) : Prop where
  n8 : g.n ≤ 8
  nle : g.n ≤ g.le
  nlb : g.n ≤ g.lb
  hn : w.heap[g.bn]? = some (.cells #[.int .i64 g.n] 3 (0, 0))
  hran : w.heap[g.bran]? = some (.cells #[.int .i64 r] 3 (0, 0))
  hbe : w.heap[g.be]? = some (.cells #[g.ve] 22 (0, 0))
  hbb : w.heap[g.bb]? = some (.cells #[g.vb] 23 (0, 0))
  hbr : w.heap[g.br]? = some (.cells #[.func (.func 9) #[] g.caps] 25 (0, 0))
  hbf : w.heap[g.bf]? = some (.cells #[.bool true] 4 (0, 0))
  hve : 0 < g.n → g.ve = .slice (some g.ae) g.le g.ce
  hvb : 0 < g.n → g.vb = .slice (some g.ab) g.lb g.cb
  errs : ∀ i, i < g.n → w.cell? (g.ae.add i) = some (.int .i64 (g.E i))
  behs : ∀ i, i < g.n → w.cell? (g.ab.add i) = some (.bool (g.B i))
  o1 : g.ae.block < g.base
  o2 : g.ab.block < g.base
  b1 : g.base ≤ g.bran
  b2 : g.base ≤ g.bf
  ne : [g.bn, g.be, g.bb, g.br, g.bf].all (· ≠ g.bran) = true
  ne2 : [g.bn, g.be, g.bb, g.br].all (· ≠ g.bf) = true
/-- The blocks that the runs write. -/
def GG.may (g : GG) (k : Nat) : Prop := k = g.bran ∨ k = g.bf
theorem GW.next {g : GG} {w w' : World} {r r' : Nat} (h : GW g w r) (hF : Fr g.may w w') (h1 : w'.heap[g.bran]? = some (.cells #[.int .i64 r'] 3 (0, 0))) (h2 : w'.heap[g.bf]? = some (.cells #[.bool true] 4 (0, 0))) : GW g w' r' := by
  have n1 := h.ne
  have n2 := h.ne2
  simp at n1 n2
  obtain ⟨p1, p2, p3, p4, p5⟩ := n1
  obtain ⟨q1, q2, q3, q4⟩ := n2
  have hb1 := h.b1
  have hb2 := h.b2
  have ho1 := h.o1
  have ho2 := h.o2
  refine ⟨h.n8, h.nle, h.nlb, hF.heap h.hn (by rintro (e | e) <;> contradiction), h1, hF.heap h.hbe (by rintro (e | e) <;> contradiction), hF.heap h.hbb (by rintro (e | e) <;> contradiction), hF.heap h.hbr (by rintro (e | e) <;> contradiction), h2, h.hve, h.hvb, ?_, ?_, ho1, ho2, hb1, hb2, h.ne, h.ne2⟩
  · intro i hi
    rw [World.cell?_of_block (hF.block _ (World.block_lt_of_cell? _ _ (h.errs i hi)) (by rw [add_block]; rintro (e | e) <;> omega))]
    exact h.errs i hi
  · intro i hi
    rw [World.cell?_of_block (hF.block _ (World.block_lt_of_cell? _ _ (h.behs i hi)) (by rw [add_block]; rintro (e | e) <;> omega))]
    exact h.behs i hi

def RunSaid (g : GG) (m : Nat) : Prop := ∀ (k r : Nat) (w : World), g.n - k = m → k ≤ g.n → GW g w r → r + m ≤ 1000 →
  Calls Try.prog 9 (#[.int .i64 k] ++ g.caps) w fun e w' => e = .returned (.tuple #[]) ∧ GW g w' (r + cnt g.E g.B g.n (m + 1) k) ∧ Fr g.may w w'

theorem GW.alloc {g : GG} {w : World} {r : Nat} (h : GW g w r) (o : Obj) : GW g (w.alloc o) r :=
  h.next ((Fr.refl g.may w).alloc o) (heap_old h.hran o) (heap_old h.hbf o)
theorem GW.set {g : GG} {w : World} {r : Nat} (h : GW g w r) (r' : Nat) : GW g (w.setCell ⟨g.bran, 0, none⟩ (.int .i64 r')) r' ∧ Fr g.may w (w.setCell ⟨g.bran, 0, none⟩ (.int .i64 r')) := by
  have hF : Fr g.may w (w.setCell ⟨g.bran, 0, none⟩ (.int .i64 r')) := (Fr.refl g.may w).setCell (p := ⟨g.bran, 0, none⟩) (fun _ => .inl rfl) _
  have n1 := h.ne
  simp at n1
  exact ⟨h.next hF (one_setCell h.hran) (heap_set_other h.hbf (by simp only []; exact n1.2.2.2.2) _), hF⟩

set_option maxHeartbeats 800000 in
theorem inner_any (g : GG) (m k r bk : Nat) (w : World) (hm : g.n - k = m + 1) (hk : k < g.n) (hW : GW g w r) (hr : r + m + 1 ≤ 1000) (hbk : w.heap[bk]? = some (.cells #[.int .i64 k] 3 (0, 0))) (hne : bk ≠ g.bran ∧ bk ≠ g.bf) (ih : RunSaid g m) :
    Calls Try.prog 11 #[.pointer (some ⟨g.bran, 0, none⟩), .pointer (some ⟨g.be, 0, none⟩), .pointer (some ⟨bk, 0, none⟩), .pointer (some ⟨g.bb, 0, none⟩), .pointer (some ⟨g.br, 0, none⟩)] w fun e w' =>
      ((odd g.E k = false ∧ ∃ v, e = .returned v) ∨ (odd g.E k = true ∧ e = .panicked (fault (bits .and .i64 (g.E k) 15)))) ∧ GW g w' (r + cnt g.E g.B g.n (m + 2) k) ∧ Fr g.may w w' := by
  have c1 := cell_of_one hW.hran
  have f1 := free_of_one hW.hran
  have HW := hid hW
  have Hbk := hid hbk
  have Hm := hid hm
  clear hW hbk hm
  have hcnt : cnt g.E g.B g.n (m + 2) k = 1 + (if odd g.E k && !g.B k then 0 else cnt g.E g.B g.n (m + 1) (k + 1)) := by
    rw [cnt]
    exact if_neg (by omega)
  have Hcnt := hid hcnt
  clear hcnt
  have hn8 := HW.out.n8
  have hnle := HW.out.nle
  have hnlb := HW.out.nlb
  go_enter Try.func11, Try.ntmps11
  go_upto_region 1 with fail
  have hw := HW.out.set (r + 1)
  have hb1 := heap_set_other Hbk.out (p := ⟨g.bran, 0, none⟩) (by simp only []; exact hne.1) (.int .i64 ((r + 1 : Nat) : Int))
  rw [show ((r : Int) + 1) = ((r + 1 : Nat) : Int) from by omega]
  generalize w.setCell ⟨g.bran, 0, none⟩ (.int .i64 ((r + 1 : Nat) : Int)) = w1 at *
  obtain ⟨hW1, hF1⟩ := hw
  clear c1 f1
  have c2 := cell_of_one hW1.hbe
  rw [hW1.hve (by omega)] at c2
  have c3 := cell_of_one hb1
  have c4 := cell_of_one hW1.hbb
  rw [hW1.hvb (by omega)] at c4
  have c5 := cell_of_one hW1.hbr
  have c6 := hW1.errs k hk
  have c7 := hW1.behs k hk
  have HW1 := hid hW1
  have HF1 := hid hF1
  have Hb1 := hid hb1
  clear hW1 hF1 hb1
  have hk1 : IntKind.i64.wrap ((k : Int) + 1) = (k : Int) + 1 := IntWalk.i64_in _ (by omega)
  cases ho : odd g.E k with
  | true =>
    have ho1 : (bits .and .i64 (g.E k) 1 == 1) = true := ho
    cases hB : g.B k with
    | false =>
      rw [hB] at c7
      rw [ho, hB] at Hcnt
      go_wp2_with fail
      refine (fail_any _ _).mono ?_
      rintro e w' ⟨rfl, rfl⟩
      exact ⟨rfl, .inr ⟨ho, rfl⟩, by rw [Hcnt.out]; exact HW1.out, HF1.out⟩
    | true =>
      rw [hB] at c7
      rw [ho, hB] at Hcnt
      go_wp2_with fail
      rw [show ((k : Int) + 1) = ((k + 1 : Nat) : Int) from by omega]
      refine (ih (k + 1) (r + 1) w1 (by have := Hm.out; omega) (by omega) HW1.out (by omega)).mono ?_
      rintro e w2 ⟨rfl, hW2, hF2⟩
      have hb2 := hF2.heap Hb1.out (by rintro (e | e); exact hne.1 e; exact hne.2 e)
      clear c2 c3 c4 c5 c6 c7
      have c2 := cell_of_one hW2.hbe
      rw [hW2.hve (by omega)] at c2
      have c3 := cell_of_one hb2
      have c6 := hW2.errs k hk
      have HW2 := hid hW2
      have HF2 := hid hF2
      clear hW2 hF2 hb2
      go_wp2_with fail
      refine (fail_any _ _).mono ?_
      rintro e w' ⟨rfl, rfl⟩
      exact ⟨rfl, .inr ⟨ho, rfl⟩, by rw [Hcnt.out]; simpa [Nat.add_assoc] using HW2.out, HF1.out.trans HF2.out (fun _ _ h => h)⟩
  | false =>
    have ho1 : (bits .and .i64 (g.E k) 1 == 1) = false := ho
    rw [ho] at Hcnt
    go_wp2_with fail
    rw [show ((k : Int) + 1) = ((k + 1 : Nat) : Int) from by omega]
    refine (ih (k + 1) (r + 1) w1 (by have := Hm.out; omega) (by omega) HW1.out (by omega)).mono ?_
    rintro e w2 ⟨rfl, hW2, hF2⟩
    have hb2 := hF2.heap Hb1.out (by rintro (e | e); exact hne.1 e; exact hne.2 e)
    clear c2 c3 c4 c5 c6 c7
    have c2 := cell_of_one hW2.hbe
    rw [hW2.hve (by omega)] at c2
    have c3 := cell_of_one hb2
    have c6 := hW2.errs k hk
    have HW2 := hid hW2
    have HF2 := hid hF2
    clear hW2 hF2 hb2
    go_wp2
    go_end0
    exact ⟨.inl ⟨ho, _, rfl⟩, by rw [Hcnt.out]; simpa [Nat.add_assoc] using HW2.out, HF1.out.trans HF2.out (fun _ _ h => h)⟩

theorem enters_inner (a b c d e : Value) : Enters 11 #[a, b, c, d, e] := fun w => by kernel_rfl

set_option maxHeartbeats 800000 in
theorem run_any (g : GG) : ∀ m, RunSaid g m := by
  intro m
  induction m with
  | zero =>
    intro k r w hm hk hW hr
    obtain rfl : k = g.n := by omega
    have c1 := cell_of_one hW.hn
    have hlt := lt_of_block hW.hn
    have HW := hid hW
    clear hW hk hm
    unfold GG.caps
    simp only [List.append_toArray, List.cons_append, List.nil_append]
    go_enter Try.func9, Try.ntmps9
    go_wp2
    go_returns
    refine ⟨rfl, ?_, (Fr.refl _ _).alloc _⟩
    have : cnt g.E g.B g.n (0 + 1) g.n = 0 := by simp [cnt]
    rw [this]
    exact HW.out.alloc _
  | succ m ih =>
    intro k r w hm hk hW hr
    have hkn : k < g.n := by omega
    have hn8 := hW.n8
    have c1 := cell_of_one hW.hn
    have hlt := lt_of_block hW.hn
    have hne : ((k : Int) == (g.n : Int)) = false := by simp; omega
    have HW := hid hW
    clear hW hk
    unfold GG.caps
    simp only [List.append_toArray, List.cons_append, List.nil_append]
    go_enter Try.func9, Try.ntmps9
    go_wp2_with fail
    have hlr := lt_of_block HW.out.hran
    have hlf := lt_of_block HW.out.hbf
    have hW1 : GW g ((w.alloc (.cells #[.int .i64 k] 3)).alloc (.cells #[.int .i64 0] 26)) r := (HW.out.alloc _).alloc _
    have hin := inner_any g m k r w.heap.size _ (by omega) hkn hW1 (by omega) (heap_old (heap_new _ _) _) ⟨by omega, by omega⟩ ih
    refine (guard_any _ _ _ (fun c w' => c = (if odd g.E k then bits .and .i64 (g.E k) 15 else 0) ∧ GW g w' (r + cnt g.E g.B g.n (m + 2) k) ∧ Fr g.may w w' ∧ w'.heap[w.heap.size]? = some (.cells #[.int .i64 k] 3 (0, 0))) (enters_inner _ _ _ _ _) (hin.mono ?_)).mono ?_
    · rintro e w' ⟨hE, hG, hF⟩
      have hk' := hF.heap (heap_old (heap_new w (.cells #[.int .i64 k] 3)) _) (by rintro (e | e) <;> omega)
      have hF' : Fr g.may w w' := (((Fr.refl g.may w).alloc _).alloc _).trans hF (fun _ _ h => h)
      refine ⟨hF.heap (heap_new _ _) (by simp only [World.size_alloc]; rintro (e | e) <;> omega), ?_⟩
      rcases hE with ⟨ho, v, rfl⟩ | ⟨ho, rfl⟩
      · exact .inl ⟨v, rfl, by simp [ho], hG, hF', hk'⟩
      · exact .inr ⟨_, rfl, by simp [ho], hG, hF', hk'⟩
    rintro e w3 ⟨c, w', rfl, ⟨hc, hG, hF, hk'⟩, hF3⟩
    have hlN := hF.size
    have hFt : Fr g.may w w3 := hF.trans hF3 (fun i hi e => by simp only [World.size_alloc] at e; omega)
    have hG3 : GW g w3 (r + cnt g.E g.B g.n (m + 2) k) := HW.out.next hFt (hF3.heap hG.hran (by simp only [World.size_alloc]; omega)) (hF3.heap hG.hbf (by simp only [World.size_alloc]; omega))
    have hk3 := hF3.heap hk' (by simp only [World.size_alloc]; omega)
    have c2 := cell_of_one hG3.hbe
    rw [hG3.hve (by omega)] at c2
    have c3 := cell_of_one hk3
    have c4 := cell_of_one hG3.hbf
    have f4 := free_of_one hG3.hbf
    have c6 := hG3.errs k hkn
    have hnle := hG3.nle
    have HG3 := hid hG3
    have HFt := hid hFt
    clear hG3 hFt hk3 hF3 hF hG hk' hin hW1
    cases ho : odd g.E k with
    | true =>
      have ho1 : (bits .and .i64 (g.E k) 1 == 1) = true := ho
      rw [ho, if_pos rfl] at hc
      subst hc
      go_wp2
      go_end0
      refine ⟨rfl, ?_, ?_⟩
      · exact HG3.out.next ((Fr.refl g.may w3).setCell (fun _ => .inr rfl) _) (heap_set_other HG3.out.hran (by have := HG3.out.ne; simp at this; simp only []; exact fun e => this.2.2.2.2 e.symm) _) (one_setCell HG3.out.hbf)
      · exact HFt.out.setCell (fun _ => .inr rfl) _
    | false =>
      have ho1 : (bits .and .i64 (g.E k) 1 == 1) = false := ho
      rw [ho, if_neg (by simp)] at hc
      subst hc
      go_wp2
      go_end0
      refine ⟨rfl, ?_, ?_⟩
      · exact HG3.out.next ((Fr.refl g.may w3).setCell (fun _ => .inr rfl) _) (heap_set_other HG3.out.hran (by have := HG3.out.ne; simp at this; simp only []; exact fun e => this.2.2.2.2 e.symm) _) (one_setCell HG3.out.hbf)
      · exact HFt.out.setCell (fun _ => .inr rfl) _


set_option maxHeartbeats 800000 in
theorem pack_guards (a b : Option Addr) (la ca lb cb : Nat) (E : Nat → Int) (B : Nat → Bool) (w : World) (hla : la ≤ maxLen) (hlb : lb ≤ maxLen) (ha : Reads w a la (fun i => .int .i64 (E i))) (hb : Reads w b lb (fun i => .bool (B i))) :
    Calls Try.prog 3 #[.slice a la ca, .slice b lb cb] w fun e w' => e = .returned (.bool true) ∧ Below w.heap.size w w' := by
  unfold maxLen at *
  have Ha := hid ha
  have Hb := hid hb
  clear ha hb
  go_enter Try.func3, Try.ntmps3
  go_wp2_with fail
  refine (awake03 _).mono ?_
  rintro e w1 ⟨rfl, hB1⟩
  have h0 := (hB1.block w.heap.size (by simp; omega)).trans (heap_old (heap_new w (.cells #[.slice a la ca] 22)) _)
  have h1 := (hB1.block (w.heap.size + 1) (by simp)).trans (heap_newk (w := w.alloc (.cells #[.slice a la ca] 22)) (.cells #[.slice b lb cb] 23) (by simp))
  have hB : Below w.heap.size w w1 := (((Below.refl w.heap.size w).alloc (Nat.le_refl _) _).alloc (by simp) _).trans (hB1.mono (by simp; omega))
  have c0 := cell_of_one h0
  have c1 := cell_of_one h1
  have l1 := lt_of_block h1
  have H0 := hid h0
  have H1 := hid h1
  have HB := hid hB
  clear h0 h1 hB hB1
  obtain ⟨n, hn⟩ : ∃ n, min (min la lb) 8 = n := ⟨_, rfl⟩
  have hmin := fun w => run_min3 (P := Try.prog) #[3, 3, 3] 3 la lb 8 n 8 rfl hn w
  have hn1 : n ≤ la ∧ n ≤ lb ∧ n ≤ 8 := by omega
  obtain ⟨n1, n2, n3⟩ := hn1
  clear hn
  go_wp2_with fail
  obtain ⟨ae, hae⟩ : ∃ ae : Addr, (0 < n → a = some ae) ∧ ae.block < w.heap.size + 1 ∧ ∀ i, i < n → w.cell? (ae.add i) = some (.int .i64 (E i)) := by
    rcases Ha.out with ⟨rfl, h⟩ | ⟨x, rfl, h⟩
    · exact ⟨⟨0, 0, none⟩, fun _ => by omega, by simp, fun i hi => by omega⟩
    · by_cases h0 : n = 0
      · exact ⟨⟨0, 0, none⟩, fun _ => by omega, by simp, fun i hi => by omega⟩
      · have := World.block_lt_of_cell? _ _ (h 0 (by omega))
        rw [add_block] at this
        exact ⟨x, fun _ => rfl, Nat.lt_succ_of_lt this, fun i hi => h i (by omega)⟩
  obtain ⟨ab, hab⟩ : ∃ ab : Addr, (0 < n → b = some ab) ∧ ab.block < w.heap.size + 1 ∧ ∀ i, i < n → w.cell? (ab.add i) = some (.bool (B i)) := by
    rcases Hb.out with ⟨rfl, h⟩ | ⟨x, rfl, h⟩
    · exact ⟨⟨0, 0, none⟩, fun _ => by omega, by simp, fun i hi => by omega⟩
    · by_cases h0 : n = 0
      · exact ⟨⟨0, 0, none⟩, fun _ => by omega, by simp, fun i hi => by omega⟩
      · have := World.block_lt_of_cell? _ _ (h 0 (by omega))
        rw [add_block] at this
        exact ⟨x, fun _ => rfl, Nat.lt_succ_of_lt this, fun i hi => h i (by omega)⟩
  obtain ⟨g, hg⟩ : ∃ g : GG, g = { bn := w1.heap.size, bran := w1.heap.size + 1, be := w.heap.size, bb := w.heap.size + 1, br := w1.heap.size + 1 + 1 + 1, bf := w1.heap.size + 1 + 1, n := n, ve := .slice a la ca, vb := .slice b lb cb, ae := ae, ce := ca, le := la, ab := ab, lb := lb, cb := cb, E := E, B := B, base := w.heap.size + 1 } := ⟨_, rfl⟩
  obtain ⟨W4, hW4⟩ : ∃ W4, W4 = ((((w1.alloc (.cells #[.int .i64 (n : Int)] 3)).alloc (.cells #[.int .i64 0] 3)).alloc (.cells #[.bool true] 4)).alloc (.cells #[.func (.func 9) #[] g.caps] 25)) := ⟨_, rfl⟩
  have hGW : GW g W4 0 := by
    have hc : ∀ (p : Addr) (v : Value), w.cell? p = some v → W4.cell? p = some v := by
      intro p v hp
      have hlt := World.block_lt_of_cell? _ _ hp
      have := (HB.out.cell hlt).trans hp
      rw [hW4]
      rw [World.cell?_alloc_lt _ _ _ (by simp only [World.size_alloc]; omega), World.cell?_alloc_lt _ _ _ (by simp only [World.size_alloc]; omega), World.cell?_alloc_lt _ _ _ (by simp only [World.size_alloc]; omega), World.cell?_alloc_lt _ _ _ (by omega)]
      exact this
    subst hg
    constructor
    case n8 => exact n3
    case nle => exact n1
    case nlb => exact n2
    case hn => rw [hW4]; exact heap_old (heap_old (heap_old (heap_new _ _) _) _) _
    case hran => rw [hW4]; exact heap_old (heap_old (heap_newk _ (by simp)) _) _
    case hbe => rw [hW4]; exact heap_old (heap_old (heap_old (heap_old H0.out _) _) _) _
    case hbb => rw [hW4]; exact heap_old (heap_old (heap_old (heap_old H1.out _) _) _) _
    case hbr => rw [hW4]; exact heap_newk _ (by simp)
    case hbf => rw [hW4]; exact heap_old (heap_newk _ (by simp)) _
    case hve => intro h; simp only [] at h ⊢; rw [hae.1 h]
    case hvb => intro h; simp only [] at h ⊢; rw [hab.1 h]
    case errs => exact fun i hi => hc _ _ (hae.2.2 i hi)
    case behs => exact fun i hi => hc _ _ (hab.2.2 i hi)
    case o1 => exact hae.2.1
    case o2 => exact hab.2.1
    case b1 => simp only []; omega
    case b2 => simp only []; omega
    case ne => simp; omega
    case ne2 => simp; omega
  have hr := run_any g n 0 0 W4 (by subst hg; rfl) (Nat.zero_le _) hGW (by omega)
  have hr2 : (#[Value.int .i64 ((0 : Nat) : Int)] ++ g.caps) = #[Value.int .i64 0, .pointer (some ⟨w1.heap.size, 0, none⟩), .pointer (some ⟨w1.heap.size + 1, 0, none⟩), .pointer (some ⟨w.heap.size, 0, none⟩), .pointer (some ⟨w.heap.size + 1, 0, none⟩), .pointer (some ⟨w1.heap.size + 1 + 1 + 1, 0, none⟩), .pointer (some ⟨w1.heap.size + 1 + 1, 0, none⟩)] := by subst hg; rfl
  have hgc : g.caps = #[.pointer (some ⟨w1.heap.size, 0, none⟩), .pointer (some ⟨w1.heap.size + 1, 0, none⟩), .pointer (some ⟨w.heap.size, 0, none⟩), .pointer (some ⟨w.heap.size + 1, 0, none⟩), .pointer (some ⟨w1.heap.size + 1 + 1 + 1, 0, none⟩), .pointer (some ⟨w1.heap.size + 1 + 1, 0, none⟩)] := by subst hg; rfl
  have hB4 : Below w.heap.size w W4 := by
    rw [hW4]
    exact (((HB.out.alloc (by omega) _).alloc (by simp; omega) _).alloc (by simp; omega) _).alloc (by simp; omega) _
  rw [hr2, hW4, hgc] at hr
  rw [hW4, hgc] at hB4
  refine hr.mono ?_
  rintro e w5 ⟨rfl, hG5, hF5⟩
  have hB5 : Below w.heap.size w w5 := hB4.trans (hF5.below (by simp only [World.size_alloc]; omega) (by subst hg; rintro k hk (e | e) <;> simp only [] at e <;> omega))
  have e1 : g.bn = w1.heap.size := by rw [hg]
  have e2 : g.bran = w1.heap.size + 1 := by rw [hg]
  have e3 : g.be = w.heap.size := by rw [hg]
  have e4 : g.bb = w.heap.size + 1 := by rw [hg]
  have e5 : g.bf = w1.heap.size + 1 + 1 := by rw [hg]
  have e6 : g.n = n := by rw [hg]
  have e7 : g.ve = .slice a la ca := by rw [hg]
  have e8 : g.vb = .slice b lb cb := by rw [hg]
  have e9 : g.E = E := by rw [hg]
  have e10 : g.B = B := by rw [hg]
  have e11 : g.ae = ae := by rw [hg]
  have e12 : g.ab = ab := by rw [hg]
  have d1 := cell_of_one hG5.hn
  have d2 := cell_of_one hG5.hran
  have d3 := cell_of_one hG5.hbe
  have d4 := cell_of_one hG5.hbb
  have d5 := cell_of_one hG5.hbf
  have d6 := hG5.errs
  have d7 := hG5.behs
  rw [e1, e6] at d1
  rw [e2, e6, e9, e10, Nat.zero_add] at d2
  rw [e3, e7] at d3
  rw [e4, e8] at d4
  rw [e5] at d5
  rw [e6, e9, e11] at d6
  rw [e6, e10, e12] at d7
  have hap := hae.1
  have hbp := hab.1
  have HB5 := hid hB5
  have Hap := hid hap
  have Hbp := hid hbp
  have D6 := hid d6
  have D7 := hid d7
  clear e1 e2 e3 e4 e5 e6 e7 e8 e9 e10 e11 e12 hr2 hgc hB4 hr hG5 hF5 hB5 hap hbp d6 d7 hae hab hGW hW4 hg c0 c1
  generalize hC : cnt E B n (n + 1) 0 = C at *
  have HC := hid hC
  clear hC hmin
  go_wp2_with fail
  go_loop [9, 10] (fun x k => ∃ j : Nat, j ≤ n ∧ x = .int .i64 j ∧ k = .int .i64 j ∧ C = j + cnt E B n (n - j + 1) j) (fun _ k => n - (intOf k).toNat)
  case atStart => exact ⟨0, Nat.zero_le _, rfl, rfl, by rw [← HC.out]; simp⟩
  case round =>
    obtain ⟨j, hj, rfl, rfl, hCj⟩ := hrel
    have HCj := hid hCj
    clear hCj
    by_cases hlt : j < n
    · have r6 := D6.out j hlt
      have r7 := D7.out j hlt
      obtain rfl := Hap.out (by omega)
      obtain rfl := Hbp.out (by omega)
      have hstep : cnt E B n (n - j + 1) j = 1 + (if odd E j && !B j then 0 else cnt E B n (n - (j + 1) + 1) (j + 1)) := by
        rw [show n - j + 1 = (n - (j + 1) + 1) + 1 from by omega, cnt]
        exact if_neg (by omega)
      have Hstep := hid hstep
      clear hstep
      cases ho : odd E j with
      | true =>
        have ho1 : (bits .and .i64 (E j) 1 == 1) = true := ho
        cases hBj : B j with
        | false =>
          rw [hBj] at r7
          have hfin : C = j + 1 := by rw [HCj.out, Hstep.out, ho, hBj]; simp
          go_wp2
          go_ret
          exact ⟨rfl, HB5.out⟩
        | true =>
          rw [hBj] at r7
          go_wp2
          refine ⟨⟨j + 1, by omega, by go_num, by go_num, ?_⟩, by simp [intOf]; omega⟩
          rw [HCj.out, Hstep.out, ho, hBj]
          simp; omega
      | false =>
        have ho1 : (bits .and .i64 (E j) 1 == 1) = false := ho
        go_wp2
        refine ⟨⟨j + 1, by omega, by go_num, by go_num, ?_⟩, by simp [intOf]; omega⟩
        rw [HCj.out, Hstep.out, ho]
        simp; omega
    · obtain rfl : j = n := by omega
      have hfin : C = j := by rw [HCj.out]; simp [cnt]
      go_wp2
      go_ret
      exact ⟨rfl, HB5.out⟩

theorem walkPackGuards (w : World) (a : Option Addr) (la ca : Nat) (E : Nat → Int) (b : Option Addr) (lb cb : Nat) (B : Nat → Bool) (h0 : SliceOf w a la ca (fun i => .int .i64 (E i)) ∧ ∀ i, i < la → (Lit.int .i64 (E i)).wf = true) (h1 : SliceOf w b lb cb (fun i => .bool (B i))) :
    Calls Try.prog 3 #[.slice a la ca, .slice b lb cb] w fun e w' => e = .returned (.bool true) ∧ Below w.heap.size w w' :=
  pack_guards a b la ca lb cb E B w h0.1.max h1.max h0.1.reads h1.reads

end Go.Proofs.Ytmdcalkfapcafaa
