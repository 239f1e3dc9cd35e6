/-
  Rows of strings that nobody writes; append of a whole row of any length.
-/
import Derived.Test.YtkmbbgnbklklcaaDiskD
namespace Go.Proofs.Ytkmbbgnbklklcaa
open Go.RowKit

theorem append_zero {P : Program} {w : World} (base : Nat) (t ty e : TypeId) (i : TypeInfo) (size : Nat) (ht : P.underlying t = some (.slice e)) (hi : P.info? e = some i)
    (v : Value) (n : Nat) (xs : List Value) (hown : w.ownsRow base e size v n xs) (ao : Option Addr) (cap : Nat) :
    (Builtin.append_ #[t, t] ty #[v, .slice ao 0 cap]).run P w = .ok v w := by
  rcases hown.2 with ⟨rfl, rfl⟩ | ⟨g, cap, cur, rfl, _, _, hnc, _⟩ <;> cases ao
  · simp [Builtin.append_, run_underlying ht, sizeOf, typeInfo, hi, Builtin.lenOf, Builtin.firstCells]
  · simp [Builtin.append_, run_underlying ht, sizeOf, typeInfo, hi, Builtin.lenOf, Builtin.firstCells, loadCells, loadCellsFrom]
  · simp [Builtin.append_, run_underlying ht, sizeOf, typeInfo, hi, Builtin.lenOf, Builtin.firstCells, hnc, storeCells]
  · simp [Builtin.append_, run_underlying ht, sizeOf, typeInfo, hi, Builtin.lenOf, Builtin.firstCells, hnc, storeCells, loadCells, loadCellsFrom]

theorem grown_refl (w : World) (row : Option Nat) : w.grownBy w row := ⟨rfl, rfl, rfl, Nat.le_refl _, fun _ _ _ => rfl⟩

/-- At the list of a plain region's operations: append of a whole row, empty or not. -/
theorem wpList_append_row {P : Program} {w : World} {ops : Array Oper} {rest : List Oper} {o : Oper} {a : Act} {Q : Exit → Act → World → Prop} (hgd : o.guard = none) (s x : Operand) (t : TypeId)
    (ho : o.op = .call { callee := .builtin .append, args := #[s, x], argTypes := #[t, t] })
    (base : Nat) (e : TypeId) (i : TypeInfo) (z : Value) (size bytes : Nat) (ht : P.underlying t = some (.slice e)) (hi : P.info? e = some i) (hz : i.zero = some z)
    (hsize : i.size = size) (hby : i.bytes = bytes) (hzs : z.cells.size = size) (hsz : 0 < size)
    (v : Value) (n : Nat) (xs : List Value) (hs : a.eval s = v) (hown : w.ownsRow base e size v n xs)
    (ao : Option Addr) (m c : Nat) (news : List Value) (hx : a.eval x = .slice ao m c) (hl : news.length = m * size) (hnews : 0 < m → ∃ ad, ao = some ad ∧ ∀ j u, news[j]? = some u → w.cell? (ad.add j) = some u) (h1 : ∀ u ∈ news, u.oneCell' = true)
    (h63 : n + m ≤ maxLen) (hbytes : (n + m) * bytes ≤ 140737488355328) (hbase : base ≤ w.heap.size)
    (h : ∀ ao' cap' w', w'.ownsRow base e size (.slice ao' (n + m) cap') (n + m) (xs ++ news) → w.grownBy w' v.ownBlock → wpList P ops Q rest (a.put o.dst (.slice ao' (n + m) cap')) w') : wpList P ops Q (o :: rest) a w := by
  by_cases hm : 0 < m
  · obtain ⟨ad, rfl, hn⟩ := hnews hm
    refine wpList_append_own w hgd s x t ho base e i z size bytes ht hi hz hsize hby hzs hsz v n xs hs hown ad m c news hx hl hn h1 h63 hbytes hbase fun v' w' h2 h3 _ => ?_
    obtain ⟨ao', cap', rfl⟩ := shape_of h2
    exact h _ _ _ h2 h3
  · obtain rfl : m = 0 := by omega
    have hnil : news = [] := List.length_eq_zero_iff.1 (by omega)
    subst hnil
    refine wpList_plain hgd fun K hK => ?_
    have hrun := append_zero (P := P) (w := w) base t o.type e i size ht hi v n xs hown ao c
    unfold Oper.wp
    simp [execOp, ho, resolve, invoke, builtin, hs, hx, hrun, Result.andThen]
    have hown' : w.ownsRow base e size v (n + 0) (xs ++ []) := by rw [List.append_nil]; exact hown
    obtain ⟨ao', cap', rfl⟩ := shape_of hown'
    exact hK _ _ (h ao' cap' w hown' (grown_refl w _))

/-- A row of texts. -/
def SRow (w : World) (ao : Option Addr) (n : Nat) (T : Nat → List UInt8) : Prop :=
  0 < n → ∃ g cur, ao = some ⟨g, 0, none⟩ ∧ w.heap[g]? = some (.cells cur 9 (0, 0)) ∧ ∀ i, i < n → cur[i]? = some (.string (S (T i)))
def strs (T : Nat → List UInt8) (q : Nat) : List Value := (List.range q).map fun i => .string (S (T i))
theorem strs_length (T : Nat → List UInt8) (q : Nat) : (strs T q).length = q := by simp [strs]
theorem strs_get (T : Nat → List UInt8) (q i : Nat) (h : i < q) : (strs T q)[i]? = some (.string (S (T i))) := by simp [strs, h]
theorem strs_succ (T : Nat → List UInt8) (q : Nat) : strs T (q + 1) = strs T q ++ [.string (S (T q))] := by simp [strs, List.range_succ]
theorem strs_one (T : Nat → List UInt8) (q : Nat) : ∀ u ∈ strs T q, u.oneCell' = true := by
  intro u hu
  simp only [strs, List.mem_map] at hu
  obtain ⟨i, _, rfl⟩ := hu
  rfl
theorem SRow.fr {w w' : World} {ao : Option Addr} {n : Nat} {T : Nat → List UInt8} (h : SRow w ao n T) {R : Nat → Prop} (hF : Fr R w w') (hR : ∀ g c, 0 < n → w.heap[g]? = some (.cells c 9 (0, 0)) → ao.map (·.block) = some g → ¬ R g) : SRow w' ao n T := fun h0 => by
  obtain ⟨g, cur, h1, h2, h3⟩ := h h0
  exact ⟨g, cur, h1, hF.heap h2 (hR g cur h0 h2 (by rw [h1]; rfl)), h3⟩
theorem SRow.below {w w' : World} {ao : Option Addr} {n : Nat} {T : Nat → List UInt8} (h : SRow w ao n T) (hB : Below w.heap.size w w') : SRow w' ao n T := h.fr (Fr.ofBelow hB (fun _ => False)) fun _ _ _ _ _ => id
theorem SRow.disk {w w' : World} {ao : Option Addr} {T : Nat → List UInt8} {B b g : Nat} {D : Dsk} (h : SRow w ao D.n T) (hD : DiskAt w B b g D) (hF : Fr (dfoot b g) w w') : SRow w' ao D.n T := h.fr hF fun k c h0 hk _ hR => by
  have := hD.other hk (by decide) (by decide)
  rcases hR with e | e
  · exact this.1 e
  · exact this.2 h0 e
theorem SRow.congr {w : World} {ao : Option Addr} {n : Nat} {T T' : Nat → List UInt8} (h : SRow w ao n T) (hT : ∀ i, i < n → T i = T' i) : SRow w ao n T' := fun h0 => by
  obtain ⟨g, cur, h1, h2, h3⟩ := h h0
  exact ⟨g, cur, h1, h2, fun i hi => by rw [h3 i hi, hT i hi]⟩
theorem SRow.ofOwn {w : World} {base n cap : Nat} {ao : Option Addr} {T : Nat → List UInt8} (h : w.ownsRow base 9 1 (.slice ao n cap) n (strs T n)) : SRow w ao n T := fun h0 => by
  rcases h.2 with ⟨hv, hn⟩ | ⟨g, c, cur, hv, h1, h2, h3, h4, h5, h6⟩
  · omega
  · cases hv
    refine ⟨g, cur, rfl, h2, fun i hi => ?_⟩
    rw [← strs_get T n i hi, ← h6, List.getElem?_take, if_pos (by omega)]
    simp
theorem zero_add_at' (b j : Nat) : (⟨b, 0, none⟩ : Addr).add j = ⟨b, j, none⟩ := by
  unfold Addr.add
  cases j <;> simp
theorem SRow.cells {w : World} {ao : Option Addr} {n : Nat} {T : Nat → List UInt8} (h : SRow w ao n T) (h0 : 0 < n) : ∃ ad, ao = some ad ∧ ∀ j u, (strs T n)[j]? = some u → w.cell? (ad.add j) = some u := by
  obtain ⟨g, cur, h1, h2, h3⟩ := h h0
  refine ⟨_, h1, fun j u hu => ?_⟩
  have hj : j < n := by
    have := (List.getElem?_eq_some_iff.1 hu).1
    rwa [strs_length] at this
  rw [strs_get T n j hj] at hu
  rw [zero_add_at', cell_of_block h2 j, h3 j hj, ← hu]
end Go.Proofs.Ytkmbbgnbklklcaa
