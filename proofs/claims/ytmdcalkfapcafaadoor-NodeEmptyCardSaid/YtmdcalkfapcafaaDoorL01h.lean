/-
  Law 01's ShaHead: a sum's first bits.
-/
import Derived.Test.YtmdcalkfapcafaaDoorL01b
namespace Go.Proofs.YtmdcalkfapcafaaDoor
open Go.RowKit

/-- The first k bits of a byte. -/
def keepB (c k : Nat) : Nat := c / 2 ^ (8 - k) * 2 ^ (8 - k)
/-- How many bits of byte i are kept. -/
def keptAt (n : Int) (i : Nat) : Nat := (min (max (n - 8 * i) 0) 8).toNat
def headByte (l : List UInt8) (n : Int) (i : Nat) : UInt8 := UInt8.ofNat (keepB (l.getD i 0).toNat (keptAt n i))
def headOf (l : List UInt8) (n : Int) : List UInt8 := (List.range l.length).map (headByte l n)
theorem headOf_length (l : List UInt8) (n : Int) : (headOf l n).length = l.length := by simp [headOf]
theorem keepB_lt (c k : Nat) (h : c < 256) : keepB c k < 256 := by
  unfold keepB; exact Nat.lt_of_le_of_lt (Nat.div_mul_le_self _ _) h
theorem headOf_get (l : List UInt8) (n : Int) (i : Nat) (h : i < l.length) : (headOf l n).getD i 0 = headByte l n i := by
  simp [headOf, List.getD, h]

theorem keep_and (c : UInt8) (k : Nat) (hk : k < 8) : bits .and .u8 (c.toNat : Int) (bits .xor .u8 (if IntKind.u8.signed = true then -1 else IntKind.u8.max) (255 / 2 ^ k)) = ((keepB c.toNat k : Nat) : Int) := by
  have h : ∀ c : Fin 256, ∀ k : Fin 8, bits .and .u8 (c.val : Int) (bits .xor .u8 (if IntKind.u8.signed = true then -1 else IntKind.u8.max) (255 / 2 ^ k.val)) = ((keepB c.val k.val : Nat) : Int) := by decide +kernel
  exact h ⟨c.toNat, c.toNat_lt⟩ ⟨k, hk⟩
/-- What was put together of the first b bits, k of them kept. -/
def preB (c k b : Nat) : Nat := if b ≤ k then c / 2 ^ (8 - b) else c / 2 ^ (8 - k) * 2 ^ (b - k)
theorem preB_step (c k b : Nat) (hc : c < 256) (hk : k ≤ 8) (hb : b < 8) : preB c k (b + 1) = 2 * preB c k b + (if b < k then c / 2 ^ (7 - b) % 2 else 0) := by
  have h : ∀ c : Fin 256, ∀ k : Fin 9, ∀ b : Fin 8, preB c.val k.val (b.val + 1) = 2 * preB c.val k.val b.val + (if b.val < k.val then c.val / 2 ^ (7 - b.val) % 2 else 0) := by decide +kernel
  exact h ⟨c, hc⟩ ⟨k, by omega⟩ ⟨b, hb⟩
theorem preB_zero (c k : Nat) (hc : c < 256) : preB c k 0 = 0 := by
  unfold preB; rw [if_pos (Nat.zero_le _)]; exact Nat.div_eq_of_lt (by simpa using hc)
theorem preB_all (c k : Nat) (hk : k ≤ 8) : preB c k 8 = keepB c k := by
  unfold preB keepB
  split
  · have : k = 8 := by omega
    subst this; simp
  · rfl
theorem preB_lt (c k b : Nat) (hc : c < 256) (hk : k ≤ 8) (hb : b ≤ 8) : preB c k b < 256 := by
  have h : ∀ c : Fin 256, ∀ k : Fin 9, ∀ b : Fin 9, preB c.val k.val b.val < 256 := by decide +kernel
  exact h ⟨c, hc⟩ ⟨k, by omega⟩ ⟨b, by omega⟩

/-- The first i bytes cut, the others as they were. -/
def headTo (l : List UInt8) (n : Int) (i : Nat) : List UInt8 := (List.range l.length).map fun j => if j < i then headByte l n j else l.getD j 0
theorem headTo_length (l : List UInt8) (n : Int) (i : Nat) : (headTo l n i).length = l.length := by simp [headTo]
theorem headTo_zero (l : List UInt8) (n : Int) : headTo l n 0 = l := by
  apply List.ext_getElem (by simp [headTo])
  intro i h1 h2
  simp [headTo, List.getD, h2]
theorem headTo_all (l : List UInt8) (n : Int) : headTo l n l.length = headOf l n := by
  apply List.ext_getElem (by simp [headTo, headOf])
  intro i h1 h2
  have : i < l.length := by simpa [headTo] using h1
  simp [headTo, headOf, this]
theorem headTo_get (l : List UInt8) (n : Int) (i : Nat) (h : i < l.length) : (headTo l n i).getD i 0 = l.getD i 0 := by
  rw [List.getD_eq_getElem?_getD, List.getElem?_eq_getElem (by rw [headTo_length]; exact h)]
  simp [headTo, List.getD]
theorem headTo_set (l : List UInt8) (n : Int) (i : Nat) (_h : i < l.length) : (sumCells (headTo l n i)).setIfInBounds i (.int .u8 ((headByte l n i).toNat : Int)) = sumCells (headTo l n (i + 1)) := by
  apply Array.ext'
  simp only [sumCells, byteCells, Array.toList_setIfInBounds, List.toList_toArray]
  apply List.ext_getElem (by simp [headTo])
  intro j h1 h2
  rw [List.getElem_set]
  by_cases hj : i = j
  · subst hj; simp [headTo]
  · have h3 : j < i + 1 ↔ j < i := by omega
    simp [headTo, hj, h3]
theorem headTo_same (l : List UInt8) (n : Int) (i : Nat) (h : i < l.length) (hk : keptAt n i = 8) : headTo l n (i + 1) = headTo l n i := by
  have hb : headByte l n i = l.getD i 0 := by
    unfold headByte keepB; rw [hk]; simp
  unfold headTo
  apply List.map_congr_left
  intro j hj
  by_cases h1 : j = i
  · subst h1; simp [hb]
  · have h3 : j < i + 1 ↔ j < i := by omega
    simp [h3]
end Go.Proofs.YtmdcalkfapcafaaDoor
