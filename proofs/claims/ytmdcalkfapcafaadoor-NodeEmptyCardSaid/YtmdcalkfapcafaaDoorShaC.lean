/-
  sha: what waits for a whole block; texts added.
-/
import Derived.Test.YtmdcalkfapcafaaDoorShaB
namespace Go.Proofs.YtmdcalkfapcafaaDoor
open Go.RowKit

/-- v is a slice of bytes l, somewhere in a row of its own (from B on). -/
def WaitAt (B : Nat) (w : World) (v : Value) (l : List UInt8) : Prop :=
  (v = .slice none 0 0 ∧ l = []) ∨
  ∃ g off cap cur, v = .slice (some ⟨g, off, none⟩) l.length cap ∧ B ≤ g ∧ w.heap[g]? = some (.cells cur 5 (0, 0)) ∧ l.length ≤ cap ∧ cap ≤ maxLen ∧ off + cap ≤ cur.size ∧ (cur.toList.drop off).take l.length = byteCells l

theorem strCells_B (t : List UInt8) : Lib.strCells (S t) = byteCells t := by
  simp [Lib.strCells, S, byteCells]

section
variable {P : Program} (w : World)
theorem run_append_room_win (t u ty e : TypeId) (i : TypeInfo) (ht : P.underlying t = some (.slice e)) (hu : P.underlying u = some .string) (hi : P.info? e = some i) (hs1 : i.size = 1)
    (g off sLen sCap : Nat) (cur : Array Value) (hg : w.heap[g]? = some (.cells cur e (0, 0))) (s : ByteArray)
    (hroom : sLen + s.size ≤ sCap) (hfit : off + sLen + s.size ≤ cur.size) :
    (Builtin.append_ #[t, u] ty #[.slice (some ⟨g, off, none⟩) sLen sCap, .string s]).run P w =
      .ok (.slice (some ⟨g, off, none⟩) (sLen + s.size) sCap) (w.setRow g (cur.toList.take (off + sLen) ++ Lib.strCells s ++ cur.toList.drop (off + sLen + s.size)).toArray) := by
  have hf := Lib.run_firstCells_string (P := P) w 1 s
  have hst := run_storeCells_at P g (off + sLen) e (Lib.strCells s) 0 cur w hg (by simpa [Lib.strCells_length] using hfit) (Lib.strCells_oneCell s)
  simp only [Nat.add_zero, Lib.strCells_length] at hst
  have ha : (⟨g, off, none⟩ : Addr).add sLen = ⟨g, off + sLen, none⟩ := Addr.add_mid g off sLen
  simp [Builtin.append_, run_underlying ht, run_underlying hu, sizeOf, typeInfo, hi, hs1, Builtin.lenOf, hroom, hf, ha, hst]

theorem WaitAt.of_own {B : Nat} {w : World} {v : Value} {l : List UInt8} (h : w.ownsRow B 5 1 v l.length (byteCells l)) : WaitAt B w v l := by
  rcases h.2 with ⟨rfl, h0⟩ | ⟨g, cap, cur, rfl, hb, hg, hn, hm, hc, ht⟩
  · exact .inl ⟨rfl, List.eq_nil_of_length_eq_zero h0⟩
  · exact .inr ⟨g, 0, cap, cur, rfl, hb, hg, hn, hm, by omega, by simpa using ht⟩

theorem run_append_win (t u ty : TypeId) (i : TypeInfo) (ht : P.underlying t = some (.slice 5)) (hu : P.underlying u = some .string) (hi : P.info? 5 = some i) (hz : i.zero = some (.int .u8 0))
    (hsize : i.size = 1) (hby : i.bytes = 1) {B : Nat} {v : Value} {l : List UInt8} (hW : WaitAt B w v l) (m : List UInt8) (hlen : l.length + m.length ≤ 1000000000) (hB : B ≤ w.heap.size) :
    ∃ v' w', (Builtin.append_ #[t, u] ty #[v, .string (S m)]).run P w = .ok v' w' ∧ WaitAt B w' v' (l ++ m) ∧ w.grownBy w' v.ownBlock := by
  have hml : l.length + m.length ≤ maxLen := by unfold maxLen; omega
  rcases hW with ⟨rfl, rfl⟩ | ⟨g, off, cap, cur, rfl, hb, hg, hn, hm, hc, htk⟩
  · obtain ⟨v', w', h1, h2, h3, _⟩ := Lib.run_append_own_string (P := P) w B t u ty 5 i ht hu hi hz hsize hby (.slice none 0 0) 0 [] (World.ownsRow_nil _ _ _ _) (S m) (by rw [S_size]; simpa using hml) (by rw [S_size]; simp at hlen; omega) hB
    rw [strCells_B, S_size, List.nil_append, Nat.zero_add] at h2
    exact ⟨v', w', h1, .of_own h2, h3⟩
  · by_cases hroom : l.length + m.length ≤ cap
    · have hr := run_append_room_win (P := P) w t u ty 5 i ht hu hi hsize g off l.length cap cur hg (S m) (by rw [S_size]; exact hroom) (by rw [S_size]; omega)
      rw [S_size, strCells_B] at hr
      refine ⟨_, _, hr, .inr ⟨g, off, cap, _, by rw [List.length_append], hb, setRow_heap w g cur _ _ _ hg, by rw [List.length_append]; exact hroom, hm, ?_, ?_⟩, ⟨rfl, rfl, rfl, by simp, fun k _ hk => setRow_other w g k _ (fun e => hk (by simp [Value.ownBlock, e]))⟩⟩
      · simp only [List.size_toArray, List.length_append, List.length_take, List.length_drop, Array.length_toList, byteCells_length]
        omega
      · have h1 : cur.toList.take (off + l.length) = cur.toList.take off ++ byteCells l := by rw [List.take_add, htk]
        rw [List.append_assoc, h1, List.append_assoc, List.drop_append_of_le_length (by rw [List.length_take, Array.length_toList]; omega), List.drop_of_length_le (by rw [List.length_take]; omega), List.nil_append, ← List.append_assoc, ← byteCells_append]
        exact List.take_left' (byteCells_length _)
    · have holds : ∀ j u, (byteCells l)[j]? = some u → w.cell? ((⟨g, off, none⟩ : Addr).add j) = some u := by
        intro j u hj
        have hjl : j < l.length := by have := (List.getElem?_eq_some_iff.1 hj).1; rwa [byteCells_length] at this
        rw [Addr.add_mid, cell_of_block hg, ← hj, ← htk, List.getElem?_take_of_lt hjl, List.getElem?_drop, Array.getElem?_toList]
      have hr := Lib.run_append_grow_string (P := P) w t u ty 5 i (.int .u8 0) ht hu hi hz ⟨g, off, none⟩ l.length cap (byteCells l) (by rw [hsize, byteCells_length, Nat.mul_one]) holds (S m) (by rw [S_size]; omega) (by rw [S_size]; omega) (by rw [hby, S_size]; exact growslice_fits (by omega) (by omega))
      rw [S_size, strCells_B] at hr
      have hge := grownCap_ge w (l.length + m.length) cap 5
      have hcm : grownCap w (l.length + m.length) cap 5 ≤ maxLen := grownCap_le_maxLen w _ _ _ hml
      refine ⟨_, _, hr, .inr ⟨w.heap.size, 0, _, _, by rw [List.length_append], hB, heap_alloc_new w.drew _, by rw [List.length_append]; exact hge, hcm, ?_, ?_⟩, ⟨rfl, rfl, rfl, by simp, fun k hk _ => Below.heap_alloc w.drew _ k hk⟩⟩
      · have hz1 : (Value.int IntKind.u8 0).cells.size = 1 := rfl
        simp only [Array.size_append, List.size_toArray, size_zeroCells, hz1, byteCells_length]
        omega
      · simp only [Array.toList_append, List.append_assoc, List.drop_zero]
        rw [← List.append_assoc, ← byteCells_append]
        exact List.take_left' (byteCells_length _)

theorem wpList_append_win {ops : Array Oper} {rest : List Oper} {o : Oper} {a : Act} {Q : Exit → Act → World → Prop} (hgd : o.guard = none) (sl x : Operand) (t u : TypeId)
    (ho : o.op = .call { callee := .builtin .append, args := #[sl, x], argTypes := #[t, u] })
    (i : TypeInfo) (ht : P.underlying t = some (.slice 5)) (hu : P.underlying u = some .string) (hi : P.info? 5 = some i) (hz : i.zero = some (.int .u8 0))
    (hsize : i.size = 1) (hby : i.bytes = 1) {B : Nat} {v : Value} {l : List UInt8} (hs : a.eval sl = v) (hW : WaitAt B w v l) (m : List UInt8) (hx : a.eval x = .string (S m)) (hlen : l.length + m.length ≤ 1000000000) (hB : B ≤ w.heap.size)
    (h : ∀ v' w', WaitAt B w' v' (l ++ m) → w.grownBy w' v.ownBlock → wpList P ops Q rest (a.put o.dst v') w') : wpList P ops Q (o :: rest) a w := by
  refine wpList_plain hgd fun K hK => ?_
  obtain ⟨v', w', hr, h2, h3⟩ := run_append_win (P := P) w t u o.type i ht hu hi hz hsize hby hW m hlen hB
  unfold Oper.wp execOp
  simp only [ho, resolve, invoke, builtin, Sem.run_bind, Sem.run_pure, Result.andThen_ok, List.map_toArray, List.map_cons, List.map_nil, hs, hx, hr]
  exact hK _ _ (h v' w' h2 h3)
end

end Go.Proofs.YtmdcalkfapcafaaDoor
