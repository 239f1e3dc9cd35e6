/-
  Law 08: RingAppends: what is written and what is told.
-/
import Derived.Test.YtkmbbgnbklklcaaDoorL08e
namespace Go.Proofs.YtkmbbgnbklklcaaDoor
open Go.RowKit

theorem and7n (z : Int) : ∃ k : Nat, k ≤ 7 ∧ bits .and .i64 z 7 = (k : Int) := by
  have h : (BitVec.ofInt 64 z &&& BitVec.ofInt 64 ((7 : Nat) : Int)).toNat ≤ 7 := by
    rw [BitVec.toNat_and]
    refine Nat.le_trans Nat.and_le_right ?_
    simp
  refine ⟨_, h, ?_⟩
  show IntKind.i64.wrap (((BitVec.ofInt 64 z &&& BitVec.ofInt 64 ((7 : Nat) : Int)).toNat : Nat) : Int) = _
  rw [IntKind.wrap_i64]
  omega
theorem slice_below {w w' : World} {a : Option Addr} {len cap : Nat} {f : Nat → Value} (h : SliceOf w a len cap f) (hB : Below w.heap.size w w') : SliceOf w' a len cap f :=
  ⟨h.max, h.le, by
    rcases h.reads with h1 | ⟨x, h1, h2⟩
    · exact .inl h1
    · exact .inr ⟨x, h1, fun i hi => (hB.cell (World.block_lt_of_cell? w _ (h2 i hi))).trans (h2 i hi)⟩⟩
/-- The journal holds KJ; the two rows tell of K1 and K2. -/
structure AppsAt (W w : World) (B r b g f : Nat) (D0 : Dsk) (m ep : Nat) (KJ K1 K2 : List (List UInt8)) (v1 v2 : Value) : Prop where
  hJ : Jour w B r b g (D0.puts f (frs ep 0 (allParts KJ))) (f : Int) (m : Int) ep (allParts KJ).length
  hm : (allParts KJ).length ≤ m
  h1 : w.ownsRow W.heap.size 9 1 v1 (allParts K1).length (txts (frs ep 0 (allParts K1)))
  h2 : w.ownsRow W.heap.size 9 1 v2 K2.length (txts K2)
  hd : ∀ k, v1.ownBlock = some k → v2.ownBlock ≠ some k
  hB : Below W.heap.size W w
  hr : W.heap.size ≤ r
  hBb : W.heap.size ≤ B
section
variable {W w w' : World} {B r b g f : Nat} {D0 : Dsk} {m ep : Nat} {KJ K1 K2 : List (List UInt8)} {v1 v2 : Value}
theorem AppsAt.below (h : AppsAt W w B r b g f D0 m ep KJ K1 K2 v1 v2) (hB : Below w.heap.size w w') : AppsAt W w' B r b g f D0 m ep KJ K1 K2 v1 v2 :=
  ⟨h.hJ.below hB, h.hm, own_below h.h1 hB, own_below h.h2 hB, h.hd, h.hB.trans (hB.mono h.hB.size), h.hr, h.hBb⟩
/-- Strings are no journal and no disk. -/
theorem AppsAt.far (h : AppsAt W w B r b g f D0 m ep KJ K1 K2 v1 v2) (h0 : 0 < D0.n) {base n : Nat} {v : Value} {xs : List Value} (ho : w.ownsRow base 9 1 v n xs) : v.ownBlock ≠ some r ∧ v.ownBlock ≠ some b ∧ v.ownBlock ≠ some g := by
  obtain ⟨ao, cap, h3, _⟩ := h.hJ.hD.head
  obtain ⟨cur, h4, _⟩ := h.hJ.hD.row (by rw [Dsk.puts_n]; exact h0)
  exact ⟨own_ne ho h.hJ.hR (by decide), own_ne ho h3 (by decide), own_ne ho h4 (by decide)⟩
theorem AppsAt.put (h : AppsAt W w B r b g f D0 m ep KJ K1 K2 v1 v2) (h0 : 0 < D0.n) {s : List UInt8} (hJ : Jour w' B r b g ((D0.puts f (frs ep 0 (allParts KJ))).puts (f + (allParts KJ).length) (frs ep (allParts KJ).length (parts s))) (f : Int) (m : Int) ep ((allParts KJ).length + cost s.length)) (hF : Fr (rfoot r b g) w w') (hf : (allParts KJ).length + cost s.length ≤ m) :
    AppsAt W w' B r b g f D0 m ep (KJ ++ [s]) K1 K2 v1 v2 := by
  have hl : (allParts (KJ ++ [s])).length = (allParts KJ).length + cost s.length := by rw [allParts_snoc, List.length_append, parts_length]
  have hg := h.hJ.hD.hg
  have hb := h.hJ.hD.hb
  have hr := h.hr
  have hBb := h.hBb
  refine ⟨?_, by omega, hF.own h.h1 (fun k hk hx => ?_), hF.own h.h2 (fun k hk hx => ?_), h.hd, h.hB.trans (hF.below h.hB.size (fun k hk hx => by unfold rfoot at hx; omega)), h.hr, h.hBb⟩
  · rw [hl, allParts_snoc, frs_append, Dsk.puts_append, frs_length, Nat.zero_add]
    exact hJ
  · obtain ⟨a1, a2, a3⟩ := h.far h0 h.h1
    rcases hx with rfl | rfl | rfl
    · exact a1 hk.symm
    · exact a2 hk.symm
    · exact a3 hk.symm
  · obtain ⟨a1, a2, a3⟩ := h.far h0 h.h2
    rcases hx with rfl | rfl | rfl
    · exact a1 hk.symm
    · exact a2 hk.symm
    · exact a3 hk.symm
theorem AppsAt.idle (h : AppsAt W w B r b g f D0 m ep KJ K1 K2 v1 v2) (h0 : 0 < D0.n) (hJ : Jour w' B r b g (D0.puts f (frs ep 0 (allParts KJ))) (f : Int) (m : Int) ep (allParts KJ).length) (hF : Fr (rfoot r b g) w w') :
    AppsAt W w' B r b g f D0 m ep KJ K1 K2 v1 v2 := by
  have hg := h.hJ.hD.hg
  have hb := h.hJ.hD.hb
  have hr := h.hr
  have hBb := h.hBb
  refine ⟨hJ, h.hm, hF.own h.h1 (fun k hk hx => ?_), hF.own h.h2 (fun k hk hx => ?_), h.hd, h.hB.trans (hF.below h.hB.size (fun k hk hx => by unfold rfoot at hx; omega)), h.hr, h.hBb⟩
  · obtain ⟨a1, a2, a3⟩ := h.far h0 h.h1
    rcases hx with rfl | rfl | rfl
    · exact a1 hk.symm
    · exact a2 hk.symm
    · exact a3 hk.symm
  · obtain ⟨a1, a2, a3⟩ := h.far h0 h.h2
    rcases hx with rfl | rfl | rfl
    · exact a1 hk.symm
    · exact a2 hk.symm
    · exact a3 hk.symm
theorem Jour.grown {fo n : Int} {sq : Nat} {D : Dsk} (h : Jour w B r b g D fo n ep sq) {v : Value} (hF : w.grownBy w' v.ownBlock) (hn : v.ownBlock ≠ some r ∧ v.ownBlock ≠ some b ∧ v.ownBlock ≠ some g) : Jour w' B r b g D fo n ep sq :=
  h.fr (Fr.ofGrown hF) (fun e => hn.1 e.symm) (fun e => hn.2.1 e.symm) (fun e => hn.2.2 e.symm)
theorem AppsAt.row1 (h : AppsAt W w B r b g f D0 m ep KJ K1 K2 v1 v2) (h0 : 0 < D0.n) {s : List UInt8} {g5 cap5 c : Nat} (hc : cost s.length = c) (hO : w'.ownsRow W.heap.size 9 1 (.slice (some ⟨g5, 0, none⟩) ((allParts K1).length + c) cap5) ((allParts K1).length + c) (txts (frs ep 0 (allParts K1)) ++ txts (frs ep (allParts K1).length (parts s)))) (hG : w.grownBy w' v1.ownBlock) (hg : v1.ownBlock = some g5 ∨ g5 = w.heap.size) :
    AppsAt W w' B r b g f D0 m ep KJ (K1 ++ [s]) K2 (.slice (some ⟨g5, 0, none⟩) ((allParts K1).length + c) cap5) v2 := by
  have hl : (allParts (K1 ++ [s])).length = (allParts K1).length + c := by rw [allParts_snoc, List.length_append, parts_length, hc]
  refine ⟨h.hJ.grown hG (h.far h0 h.h1), h.hm, ?_, (Fr.ofGrown hG).own h.h2 (fun k hk e => h.hd k e.symm hk.symm), fun k hk e => ?_, h.hB.grown hG h.hB.size (fun k hk => (h.h1.lt k hk).1), h.hr, h.hBb⟩
  · rw [hl, allParts_snoc, frs_append, Nat.zero_add]
    simpa [txts] using hO
  · injection hk with hk
    simp only at hk
    subst hk
    rcases hg with hg | hg
    · exact h.hd _ hg e
    · have := (h.h2.lt _ e).2
      omega
theorem AppsAt.row2 (h : AppsAt W w B r b g f D0 m ep KJ K1 K2 v1 v2) (h0 : 0 < D0.n) {s : List UInt8} {g5 cap5 : Nat} (hO : w'.ownsRow W.heap.size 9 1 (.slice (some ⟨g5, 0, none⟩) (K2.length + 1) cap5) (K2.length + 1) (txts K2 ++ [.string (S s)])) (hG : w.grownBy w' v2.ownBlock) (hg : v2.ownBlock = some g5 ∨ g5 = w.heap.size) :
    AppsAt W w' B r b g f D0 m ep KJ K1 (K2 ++ [s]) v1 (.slice (some ⟨g5, 0, none⟩) (K2.length + 1) cap5) := by
  refine ⟨h.hJ.grown hG (h.far h0 h.h2), h.hm, (Fr.ofGrown hG).own h.h1 (fun k hk e => h.hd k hk.symm e.symm), ?_, fun k hk e => ?_, h.hB.grown hG h.hB.size (fun k hk => (h.h2.lt k hk).1), h.hr, h.hBb⟩
  · rw [List.length_append, List.length_singleton]
    simpa [txts] using hO
  · injection e with e
    simp only at e
    subst e
    rcases hg with hg | hg
    · exact h.hd _ hk hg
    · have := (h.h1.lt _ hk).2
      omega
end
end Go.Proofs.YtkmbbgnbklklcaaDoor
