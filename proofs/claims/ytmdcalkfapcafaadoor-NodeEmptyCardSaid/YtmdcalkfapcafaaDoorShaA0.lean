/-
  sha: RotateLeft32; a block's words.
-/
import Derived.Test.YtmdcalkfapcafaaDoorProg
import Derived.Test.YtmdcalkfapcafaaDoorShaW
import Derived.StillTailTactics
import Derived.Deep.MidRow
import Derived.Laws.Rows
namespace Go.Proofs.YtmdcalkfapcafaaDoor
open Go.RowKit

theorem rot_mask (n : Nat) (h0 : 0 < n) (h1 : n < 32) : bits .and .u64 (IntKind.u64.wrap (-(n : Int))) 31 = ((32 - n : Nat) : Int) := by
  have h : ∀ k : Fin 32, 0 < k.val → bits .and .u64 (IntKind.u64.wrap (-(k.val : Int))) 31 = ((32 - k.val : Nat) : Int) := by decide
  exact h ⟨n, h1⟩ h0

theorem rotl_any (x : U) (n : Nat) (h0 : 0 < n) (h1 : n < 32) (m : Int) (hm : m = -(n : Int)) (w : World) :
    Calls Tryd.prog 34 #[W x, .int .i64 m] w fun e w' => e = .returned (W (rotr x n)) ∧ w' = w := by
  subst hm
  have e1 := rot_mask n h0 h1
  go_enter Tryd.func34, Tryd.ntmps34
  go_wp2
  go_ret
  refine ⟨?_, rfl⟩
  show Ending.returned (Value.int _ (bits _ _ _ _)) = _
  rw [show 32 - (32 - n) = n from by omega, shl_W', shr_W, or_W]
  unfold rotr
  rw [BitVec.or_comm]

/-- The words of a block, noughts behind. -/
def wordCells (ws : List U) : Array Value := (ws.map W ++ List.replicate (64 - ws.length) (W 0)).toArray
theorem wordCells_nil : wordCells [] = (List.replicate 64 (W 0)).toArray := by simp [wordCells]
theorem wordCells_size (ws : List U) (h : ws.length ≤ 64) : (wordCells ws).size = 64 := by simp [wordCells]; omega
theorem wordCells_set (ws : List U) (x : U) (h : ws.length < 64) : (wordCells ws).setIfInBounds ws.length (W x) = wordCells (ws ++ [x]) := by
  apply Array.ext'
  simp only [wordCells, Array.toList_setIfInBounds, List.map_append, List.length_append, List.length_singleton, List.map_cons, List.map_nil]
  rw [List.set_append_right _ _ (by simp)]
  simp only [List.length_map, Nat.sub_self, List.append_assoc]
  rw [show 64 - ws.length = (64 - (ws.length + 1)) + 1 from by omega, List.replicate_succ]
  rfl
theorem wordCells_get (ws : List U) (i : Nat) (h : i < ws.length) : (wordCells ws)[i]? = some (W (ws.getD i 0)) := by
  simp [wordCells, List.getElem?_append_left, h, List.getD]

theorem word_there {w : World} {b : Nat} {ws : List U} {T : TypeId} {fr : Nat × Nat} (h : w.heap[b]? = some (.cells (wordCells ws) T fr)) (hl : ws.length ≤ 64) {n : Nat} (hn : n < 64) : ∃ u, w.cell? ⟨b, n, none⟩ = some u := by
  rw [cell_of_block h]
  exact ⟨_, Array.getElem?_eq_getElem (by rw [wordCells_size ws hl]; exact hn)⟩
theorem word_read {w : World} {b : Nat} {ws : List U} {T : TypeId} {fr : Nat × Nat} (h : w.heap[b]? = some (.cells (wordCells ws) T fr)) {n : Nat} (hn : n < ws.length) : w.cell? ⟨b, n, none⟩ = some (W (ws.getD n 0)) := by
  rw [cell_of_block h, wordCells_get ws n hn]
theorem heap_setCells {b : Nat} {T : TypeId} : ∀ (vs : List Value) (o : Nat) (c : Array Value) (w : World), w.heap[b]? = some (.cells c T (0, 0)) → o + vs.length ≤ c.size →
    (w.setCells b o vs).heap[b]? = some (.cells (c.toList.take o ++ vs ++ c.toList.drop (o + vs.length)).toArray T (0, 0))
  | [], o, c, w, h, _ => by simpa [World.setCells] using h
  | v :: r, o, c, w, h, hl => by
    rw [List.length_cons] at hl
    rw [World.setCells, heap_setCells r (o + 1) _ _ (heap_set_same h v) (by simp; omega)]
    congr 3
    simp only [Array.toList_setIfInBounds]
    rw [List.drop_set_of_lt (by omega), List.take_set]
    rw [List.take_add_one, Array.getElem?_toList, Array.getElem?_eq_getElem (by omega)]
    rw [List.set_append_right _ _ (by rw [List.length_take]; exact Nat.min_le_left _ _)]
    simp
    rw [Nat.min_eq_left (show o ≤ c.size by omega), Nat.sub_self, show o + (r.length + 1) = o + 1 + r.length from by omega]
    simp
theorem Fr.setCells {S : Nat → Prop} {a : World} {b : Nat} (hb : b < a.heap.size → S b) : ∀ (vs : List Value) (o : Nat) (w : World), Fr S a w → Fr S a (w.setCells b o vs)
  | [], _, _, h => h
  | v :: r, o, w, h => by rw [World.setCells]; exact Fr.setCells hb r (o + 1) _ (h.setCell hb v)
theorem Below.setCells {B : Nat} {a : World} {b : Nat} (hb : B ≤ b) : ∀ (vs : List Value) (o : Nat) (w : World), Below B a w → Below B a (w.setCells b o vs)
  | [], _, _, h => h
  | v :: r, o, w, h => by rw [World.setCells]; exact Below.setCells hb r (o + 1) _ (h.setCell hb v)
theorem heap_setCells_all {b : Nat} {T : TypeId} {c : Array Value} {w : World} (h : w.heap[b]? = some (.cells c T (0, 0))) (vs : List Value) (hl : vs.length = c.size) :
    (w.setCells b 0 vs).heap[b]? = some (.cells vs.toArray T (0, 0)) := by
  rw [heap_setCells vs 0 c w h (by omega)]
  simp [List.drop_of_length_le, hl]
theorem there_of_block {w : World} {b : Nat} {c : Array Value} {T : TypeId} (h : w.heap[b]? = some (.cells c T (0, 0))) : w.there b 0 c.size := fun j hj => by
  rw [cell_of_block h, free_of_block h]
  simp [hj]

theorem two_new (w : World) (x y : Obj) : ((w.alloc x).alloc y).heap[w.heap.size + 1]? = some y := by
  have h := heap_new (w.alloc x) y
  rwa [show (w.alloc x).heap.size = w.heap.size + 1 from by simp] at h
theorem two_old (w : World) (x y : Obj) : ((w.alloc x).alloc y).heap[w.heap.size]? = some x := heap_old (heap_new w x) y

/-- 64 bytes lie at b, o. -/
def Bytes64 (w : World) (b o : Nat) (l : List UInt8) : Prop := l.length = 64 ∧ ∀ i, i < 64 → w.cell? ⟨b, o + i, none⟩ = some (.int .u8 ((l.getD i 0).toNat : Int))

theorem rotl2 (x : U) (w : World) : Calls Tryd.prog 34 #[W x, .int .i64 (-2)] w fun e w' => e = .returned (W (rotr x 2)) ∧ w' = w := rotl_any x 2 (by decide) (by decide) (-2) rfl w
theorem rotl6 (x : U) (w : World) : Calls Tryd.prog 34 #[W x, .int .i64 (-6)] w fun e w' => e = .returned (W (rotr x 6)) ∧ w' = w := rotl_any x 6 (by decide) (by decide) (-6) rfl w
theorem rotl7 (x : U) (w : World) : Calls Tryd.prog 34 #[W x, .int .i64 (-7)] w fun e w' => e = .returned (W (rotr x 7)) ∧ w' = w := rotl_any x 7 (by decide) (by decide) (-7) rfl w
theorem rotl11 (x : U) (w : World) : Calls Tryd.prog 34 #[W x, .int .i64 (-11)] w fun e w' => e = .returned (W (rotr x 11)) ∧ w' = w := rotl_any x 11 (by decide) (by decide) (-11) rfl w
theorem rotl13 (x : U) (w : World) : Calls Tryd.prog 34 #[W x, .int .i64 (-13)] w fun e w' => e = .returned (W (rotr x 13)) ∧ w' = w := rotl_any x 13 (by decide) (by decide) (-13) rfl w
theorem rotl17 (x : U) (w : World) : Calls Tryd.prog 34 #[W x, .int .i64 (-17)] w fun e w' => e = .returned (W (rotr x 17)) ∧ w' = w := rotl_any x 17 (by decide) (by decide) (-17) rfl w
theorem rotl18 (x : U) (w : World) : Calls Tryd.prog 34 #[W x, .int .i64 (-18)] w fun e w' => e = .returned (W (rotr x 18)) ∧ w' = w := rotl_any x 18 (by decide) (by decide) (-18) rfl w
theorem rotl19 (x : U) (w : World) : Calls Tryd.prog 34 #[W x, .int .i64 (-19)] w fun e w' => e = .returned (W (rotr x 19)) ∧ w' = w := rotl_any x 19 (by decide) (by decide) (-19) rfl w
theorem rotl22 (x : U) (w : World) : Calls Tryd.prog 34 #[W x, .int .i64 (-22)] w fun e w' => e = .returned (W (rotr x 22)) ∧ w' = w := rotl_any x 22 (by decide) (by decide) (-22) rfl w
theorem rotl25 (x : U) (w : World) : Calls Tryd.prog 34 #[W x, .int .i64 (-25)] w fun e w' => e = .returned (W (rotr x 25)) ∧ w' = w := rotl_any x 25 (by decide) (by decide) (-25) rfl w
end Go.Proofs.YtmdcalkfapcafaaDoor
