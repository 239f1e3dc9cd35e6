/-
  Law 12's NodeDigest.
-/
import Derived.Test.YtmdcalkfapcafaaDoorL12d
import Derived.Test.YtmdcalkfapcafaaDoorL12b
import Derived.Test.YtmdcalkfapcafaaDoorL01k
import Derived.Deep.MidRow
namespace Go.Proofs.YtmdcalkfapcafaaDoor
open Go.RowKit

theorem i64_and255 (n : Int) : bits .and .i64 n 255 = n % 256 := by
  have h3 : (BitVec.ofInt 64 255).toNat = 2 ^ 8 - 1 := by decide
  have key : (BitVec.ofInt 64 n &&& BitVec.ofInt 64 255).toNat = (n % ((2 ^ 64 : Nat) : Int)).toNat % 2 ^ 8 := by
    rw [BitVec.toNat_and, BitVec.toNat_ofInt, h3, Nat.and_two_pow_sub_one_eq_mod]
  show IntKind.i64.wrap ((BitVec.ofInt 64 n &&& BitVec.ofInt 64 255).toNat : Nat) = n % 256
  rw [key, IntKind.wrap_i64]
  omega
theorem i64_and1 (n : Int) : bits .and .i64 n 1 = n % 2 := by
  have h3 : (BitVec.ofInt 64 1).toNat = 2 ^ 1 - 1 := by decide
  have key : (BitVec.ofInt 64 n &&& BitVec.ofInt 64 1).toNat = (n % ((2 ^ 64 : Nat) : Int)).toNat % 2 ^ 1 := by
    rw [BitVec.toNat_and, BitVec.toNat_ofInt, h3, Nat.and_two_pow_sub_one_eq_mod]
  show IntKind.i64.wrap ((BitVec.ofInt 64 n &&& BitVec.ofInt 64 1).toNat : Nat) = n % 2
  rw [key, IntKind.wrap_i64]
  omega

/-- Eight sums, one behind the other. -/
def cat8 (f : Nat → List UInt8) : List UInt8 := ((List.range 8).map f).flatten
theorem kid_flat (f : Nat → List UInt8) : ∀ (xs : List Nat), (∀ x ∈ xs, (f x).length = 32) → ∀ j (hj : j < xs.length), kid (xs.map f).flatten j = f xs[j]
  | [], _, j, hj => by simp at hj
  | x :: xs, h, 0, _ => by
    simp only [kid, List.map_cons, List.flatten_cons, Nat.mul_zero, List.drop_zero, List.getElem_cons_zero]
    rw [List.take_append_of_le_length (by rw [h x (by simp)]; exact Nat.le_refl _), List.take_of_length_le (by rw [h x (by simp)]; exact Nat.le_refl _)]
  | x :: xs, h, j + 1, hj => by
    have ih := kid_flat f xs (fun y hy => h y (by simp [hy])) j (by simpa using hj)
    simp only [kid, List.map_cons, List.flatten_cons, List.getElem_cons_succ] at ih ⊢
    rw [List.drop_append, List.drop_of_length_le (by rw [h x (by simp)]; omega), h x (by simp), show 32 * (j + 1) - 32 = 32 * j from by omega]
    simpa using ih
theorem kid_cat8 {f : Nat → List UInt8} (h : ∀ j, j < 8 → (f j).length = 32) {j : Nat} (hj : j < 8) : kid (cat8 f) j = f j := by
  have := kid_flat f (List.range 8) (fun x hx => h x (by simpa using hx)) j (by simpa using hj)
  simpa [cat8] using this
theorem cat8_length {f : Nat → List UInt8} (h : ∀ j, j < 8 → (f j).length = 32) : (cat8 f).length = 256 := by
  simp [cat8, List.range_succ, h]
theorem kids_cat8 {f : Nat → List UInt8} (h : ∀ j, j < 8 → (f j).length = 32) : kids (cat8 f) 8 = (List.range 8).map f := by
  unfold kids
  refine List.map_congr_left fun j hj => kid_cat8 h (by simpa using hj)

/-- Eight sums lie in block L. -/
structure Kids8 (w : World) (L : Nat) (f : Nat → List UInt8) : Prop where
  lt : L < w.heap.size
  at' : ∀ j, j < 8 → w.rangeAt L (32 * j) (byteCells (f j))
  there : w.there L 0 256
theorem there_block {w w' : World} {b o n : Nat} (h : w.there b o n) (hb : w'.heap[b]? = w.heap[b]?) : w'.there b o n := fun j hj => by
  have h1 := h j hj
  rw [World.cell?_of_block (a := ⟨b, o + j, none⟩) hb, World.frozen?_of_block (a := ⟨b, o + j, none⟩) hb]
  exact h1
theorem range_block {w w' : World} {b o : Nat} {cs : List Value} (h : w.rangeAt b o cs) (hb : w'.heap[b]? = w.heap[b]?) : w'.rangeAt b o cs := fun j v hv =>
  (World.cell?_of_block (a := ⟨b, o + j, none⟩) hb).trans (h j v hv)
theorem Kids8.block {w w' : World} {L : Nat} {f : Nat → List UInt8} (h : Kids8 w L f) (hb : w'.heap[L]? = w.heap[L]?) (hs : w.heap.size ≤ w'.heap.size) : Kids8 w' L f :=
  ⟨Nat.lt_of_lt_of_le h.lt hs, fun j hj => range_block (h.at' j hj) hb, there_block h.there hb⟩
theorem Kids8.below {w w' : World} {L : Nat} {f : Nat → List UInt8} (h : Kids8 w L f) (hB : Below w.heap.size w w') : Kids8 w' L f := h.block (hB.block L h.lt) hB.size
theorem zeros_size (n : Nat) : (zeros n).size = n := by simp [zeros]
theorem zeros_get (n i : Nat) (h : i < n) : (zeros n)[i]? = some (.int .u8 0) := by
  unfold zeros
  rw [List.getElem?_toArray, List.getElem?_replicate, if_pos h]
theorem byteCells_rep (n : Nat) : byteCells (List.replicate n 0) = List.replicate n (.int .u8 0) := by
  unfold byteCells
  rw [List.map_replicate]; rfl
theorem Kids8.new (w : World) (T : TypeId) : Kids8 (w.alloc (.cells (zeros 256) T)) w.heap.size (fun _ => zero32) := by
  have hn := heap_new w (.cells (zeros 256) T)
  have hs := zeros_size 256
  have hg := zeros_get 256
  generalize zeros 256 = Z at *
  refine ⟨by simp, fun j hj i v hv => ?_, ?_⟩
  · rw [cell_of_block hn]
    have hi : i < 32 := by
      have := (List.getElem?_eq_some_iff.1 hv).1
      rwa [byteCells_length, zero32_length] at this
    unfold zero32 at hv
    rw [byteCells_rep, List.getElem?_replicate, if_pos hi] at hv
    rw [← hv]
    exact hg _ (by omega)
  · exact there_new w T Z 256 hs
theorem Kids8.set {w : World} {L : Nat} {f : Nat → List UInt8} (h : Kids8 w L f) (hf : ∀ j, j < 8 → (f j).length = 32) {q : Nat} (hq : q < 8) (x : List UInt8) (hx : x.length = 32) :
    Kids8 (w.setCells L (32 * q) (byteCells x)) L (fun j => if j = q then x else f j) := by
  have hbl : (byteCells x).length = 32 := by rw [byteCells_length, hx]
  refine ⟨?_, fun j hj => ?_, World.there_setCells h.there _ _ _⟩
  · have hB : Below 0 w (w.setCells L (32 * q) (byteCells x)) := Below.setCells (Nat.zero_le L) _ _ _ (Below.refl 0 w)
    exact Nat.lt_of_lt_of_le h.lt hB.size
  · show World.rangeAt _ _ _ (byteCells (if j = q then x else f j))
    by_cases hjq : j = q
    · subst hjq
      rw [if_pos rfl]
      exact World.rangeAt_setCells_same w L (32 * j) (byteCells x) (fun i hi => by
        have := h.there (32 * j + i) (by omega)
        rwa [Nat.zero_add] at this)
    · rw [if_neg hjq]
      refine World.rangeAt_setCells_apart (h.at' j hj) _ _ _ (.inr ?_)
      rw [byteCells_length, hf j hj, hbl]
      omega
theorem Kids8.all {w : World} {L : Nat} {f : Nat → List UInt8} (h : Kids8 w L f) (hf : ∀ j, j < 8 → (f j).length = 32) : w.rangeAt L 0 (byteCells (cat8 f)) := fun i v hv => by
  have hi : i < 256 := by
    have := (List.getElem?_eq_some_iff.1 hv).1
    rwa [byteCells_length, cat8_length hf] at this
  have h1 := h.at' (i / 32) (by omega) (i % 32) v (by
    rw [← hv, ← kid_cat8 hf (show i / 32 < 8 by omega)]
    unfold byteCells kid
    rw [List.getElem?_map, List.getElem?_take, if_pos (Nat.mod_lt _ (by decide)), List.getElem?_drop, List.getElem?_map, Nat.div_add_mod])
  rwa [Nat.div_add_mod, show i = 0 + i from (Nat.zero_add i).symm] at h1
end Go.Proofs.YtmdcalkfapcafaaDoor
