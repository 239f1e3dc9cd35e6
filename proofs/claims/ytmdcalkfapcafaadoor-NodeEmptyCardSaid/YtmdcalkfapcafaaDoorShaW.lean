/-
  Words of 32 bits: what the program's operations on them are, as operations on bit vectors; the sums of the document.
-/
import Derived.Test.YtmdcalkfapcafaaDoorBase
namespace Go.Proofs.YtmdcalkfapcafaaDoor
open Go.RowKit

abbrev U := BitVec 32
/-- A word, as the program holds it. -/
@[reducible] def W (x : U) : Value := .int .u32 (x.toNat : Int)
/-- Turned right by n bits. -/
def rotr (x : U) (n : Nat) : U := x >>> n ||| x <<< (32 - n)

theorem wrap_u32 (n : Int) : IntKind.u32.wrap n = n % 4294967296 := by simp [IntKind.wrap, IntKind.bits, IntKind.signed]
theorem ofInt_W (x : U) : BitVec.ofInt 32 (x.toNat : Int) = x := by
  rw [BitVec.ofInt_natCast]; simp
theorem wrap_W (x : U) : IntKind.u32.wrap (x.toNat : Int) = (x.toNat : Int) := by
  rw [wrap_u32]; have := x.isLt; omega
theorem xor_W (x y : U) : bits .xor .u32 (x.toNat : Int) (y.toNat : Int) = ((x ^^^ y).toNat : Int) := by
  show IntKind.u32.wrap ((BitVec.ofInt 32 (x.toNat : Int) ^^^ BitVec.ofInt 32 (y.toNat : Int)).toNat : Int) = _
  rw [ofInt_W, ofInt_W, wrap_W]
theorem and_W (x y : U) : bits .and .u32 (x.toNat : Int) (y.toNat : Int) = ((x &&& y).toNat : Int) := by
  show IntKind.u32.wrap ((BitVec.ofInt 32 (x.toNat : Int) &&& BitVec.ofInt 32 (y.toNat : Int)).toNat : Int) = _
  rw [ofInt_W, ofInt_W, wrap_W]
theorem or_W (x y : U) : bits .or .u32 (x.toNat : Int) (y.toNat : Int) = ((x ||| y).toNat : Int) := by
  show IntKind.u32.wrap ((BitVec.ofInt 32 (x.toNat : Int) ||| BitVec.ofInt 32 (y.toNat : Int)).toNat : Int) = _
  rw [ofInt_W, ofInt_W, wrap_W]
theorem not_W (y : U) : bits .xor .u32 4294967295 (y.toNat : Int) = ((~~~ y).toNat : Int) := by
  have h := xor_W (BitVec.allOnes 32) y
  rw [show ((BitVec.allOnes 32).toNat : Int) = 4294967295 from by decide] at h
  rw [h, BitVec.allOnes_xor]
theorem not_W' (y : U) : bits .xor .u32 (if IntKind.u32.signed = true then -1 else IntKind.u32.max) (y.toNat : Int) = ((~~~ y).toNat : Int) := not_W y
theorem add_W (x y : U) : IntKind.u32.wrap ((x.toNat : Int) + (y.toNat : Int)) = ((x + y).toNat : Int) := by
  rw [wrap_u32, BitVec.toNat_add]; omega
theorem add_W' (x y : U) : ((x.toNat : Int) + (y.toNat : Int)) % 4294967296 = ((x + y).toNat : Int) := by
  rw [← add_W, wrap_u32]
theorem shl_W (x : U) (n : Nat) : IntKind.u32.wrap ((x.toNat : Int) * 2 ^ n) = ((x <<< n).toNat : Int) := by
  rw [wrap_u32, BitVec.toNat_shiftLeft, Nat.shiftLeft_eq]
  have : ((x.toNat : Int) * 2 ^ n) = ((x.toNat * 2 ^ n : Nat) : Int) := by simp
  rw [this]; omega
theorem shl_W' (x : U) (n : Nat) : (x.toNat : Int) * 2 ^ n % 4294967296 = ((x <<< n).toNat : Int) := by
  rw [← shl_W, wrap_u32]
theorem shr_W (x : U) (n : Nat) : (x.toNat : Int) / 2 ^ n = ((x >>> n).toNat : Int) := by
  rw [BitVec.toNat_ushiftRight, Nat.shiftRight_eq_div_pow]
  simp
theorem byte_W (c : UInt8) : IntKind.u32.wrap (c.toNat : Int) = ((BitVec.setWidth 32 c.toBitVec).toNat : Int) := by
  rw [wrap_u32, BitVec.toNat_setWidth]
  have h := c.toNat_lt
  show (c.toNat : Int) % 4294967296 = ((c.toNat % 2 ^ 32 : Nat) : Int)
  omega

/-! ### The sums -/
/-- The numbers of the rounds. -/
def roundKs : List Nat := [
  0x428a2f98, 0x71374491, 0xb5c0fbcf, 0xe9b5dba5, 0x3956c25b, 0x59f111f1, 0x923f82a4, 0xab1c5ed5,
  0xd807aa98, 0x12835b01, 0x243185be, 0x550c7dc3, 0x72be5d74, 0x80deb1fe, 0x9bdc06a7, 0xc19bf174,
  0xe49b69c1, 0xefbe4786, 0x0fc19dc6, 0x240ca1cc, 0x2de92c6f, 0x4a7484aa, 0x5cb0a9dc, 0x76f988da,
  0x983e5152, 0xa831c66d, 0xb00327c8, 0xbf597fc7, 0xc6e00bf3, 0xd5a79147, 0x06ca6351, 0x14292967,
  0x27b70a85, 0x2e1b2138, 0x4d2c6dfc, 0x53380d13, 0x650a7354, 0x766a0abb, 0x81c2c92e, 0x92722c85,
  0xa2bfe8a1, 0xa81a664b, 0xc24b8b70, 0xc76c51a3, 0xd192e819, 0xd6990624, 0xf40e3585, 0x106aa070,
  0x19a4c116, 0x1e376c08, 0x2748774c, 0x34b0bcb5, 0x391c0cb3, 0x4ed8aa4a, 0x5b9cca4f, 0x682e6ff3,
  0x748f82ee, 0x78a5636f, 0x84c87814, 0x8cc70208, 0x90befffa, 0xa4506ceb, 0xbef9a3f7, 0xc67178f2]
def Kr (i : Nat) : U := BitVec.ofNat 32 (roundKs.getD i 0)

/-- A state: eight words. -/
structure S8 where
  a : U
  b : U
  c : U
  d : U
  e : U
  f : U
  g : U
  h : U
def S8.cells (s : S8) : Array Value := #[W s.a, W s.b, W s.c, W s.d, W s.e, W s.f, W s.g, W s.h]
def S8.get (s : S8) (i : Nat) : U := [s.a, s.b, s.c, s.d, s.e, s.f, s.g, s.h].getD i 0
def S8.add (s t : S8) : S8 := ⟨s.a + t.a, s.b + t.b, s.c + t.c, s.d + t.d, s.e + t.e, s.f + t.f, s.g + t.g, s.h + t.h⟩

/-- A block's first sixteen words; the others. -/
def word0 (l : List UInt8) (i : Nat) : U :=
  BitVec.setWidth 32 (l.getD (4 * i) 0).toBitVec <<< 24 ||| BitVec.setWidth 32 (l.getD (4 * i + 1) 0).toBitVec <<< 16
    ||| BitVec.setWidth 32 (l.getD (4 * i + 2) 0).toBitVec <<< 8 ||| BitVec.setWidth 32 (l.getD (4 * i + 3) 0).toBitVec
/-- One word more behind ws. -/
def nextWord (ws : List U) (i : Nat) : U :=
  let x := ws.getD (i - 15) 0
  let y := ws.getD (i - 2) 0
  ws.getD (i - 16) 0 + (rotr x 7 ^^^ rotr x 18 ^^^ x >>> 3) + ws.getD (i - 7) 0 + (rotr y 17 ^^^ rotr y 19 ^^^ y >>> 10)
/-- The first k words of a block. -/
def wordsTo (l : List UInt8) : Nat → List U
  | 0 => []
  | k + 1 => wordsTo l k ++ [if k < 16 then word0 l k else nextWord (wordsTo l k) k]
theorem wordsTo_length (l : List UInt8) (k : Nat) : (wordsTo l k).length = k := by
  induction k with
  | zero => rfl
  | succ n ih => simp [wordsTo, ih]

/-- What a round adds. -/
def tOf (s : S8) (k w : U) : U := s.h + k + w + (rotr s.e 6 ^^^ rotr s.e 11 ^^^ rotr s.e 25) + (s.e &&& s.f ^^^ ~~~ s.e &&& s.g)
def uOf (s : S8) : U := (rotr s.a 2 ^^^ rotr s.a 13 ^^^ rotr s.a 22) + (s.a &&& s.b ^^^ s.a &&& s.c ^^^ s.b &&& s.c)
def round (s : S8) (k w : U) : S8 := ⟨tOf s k w + uOf s, s.a, s.b, s.c, s.d + tOf s k w, s.e, s.f, s.g⟩
def rounds (ws : List U) (s : S8) : Nat → S8
  | 0 => s
  | k + 1 => round (rounds ws s k) (Kr k) (ws.getD k 0)
/-- A block of 64 bytes mixed in. -/
def mixB (s : S8) (l : List UInt8) : S8 := s.add (rounds (wordsTo l 64) s 64)
def S8.start : S8 := ⟨0x6a09e667, 0xbb67ae85, 0x3c6ef372, 0xa54ff53a, 0x510e527f, 0x9b05688c, 0x1f83d9ab, 0x5be0cd19⟩

/-- What was mixed, what waits. -/
def feed (s : S8) (l : List UInt8) : S8 × List UInt8 :=
  if _h : 64 ≤ l.length then feed (mixB s (l.take 64)) (l.drop 64) else (s, l)
termination_by l.length
decreasing_by simp; omega
theorem feed_short (s : S8) (l : List UInt8) (h : l.length < 64) : feed s l = (s, l) := by
  rw [feed]; simp [show ¬ 64 ≤ l.length from by omega]
theorem feed_long (s : S8) (l : List UInt8) (h : 64 ≤ l.length) : feed s l = feed (mixB s (l.take 64)) (l.drop 64) := by
  rw [feed]; simp [h]
theorem feed_wait (s : S8) (l : List UInt8) : (feed s l).2.length < 64 := by
  induction s, l using feed.induct with
  | case1 s l h ih => rw [feed_long _ _ h]; exact ih
  | case2 s l h => rw [feed_short _ _ (by omega)]; simpa using h
theorem feed_append (s : S8) (l m : List UInt8) : feed s (l ++ m) = feed (feed s l).1 ((feed s l).2 ++ m) := by
  induction s, l using feed.induct with
  | case1 s l h ih =>
    rw [feed_long _ _ h, feed_long s (l ++ m) (by simp; omega), List.take_append_of_le_length h, List.drop_append_of_le_length h, ih]
  | case2 s l h => rw [feed_short s l (by omega)]

/-- The bytes behind a text of n bytes. -/
def padOf (n : Nat) : List UInt8 := 0x80 :: (List.replicate ((119 - n % 64) % 64) 0 ++ (List.range 8).map fun i => UInt8.ofNat (8 * n / 256 ^ (7 - i)))
/-- A word's bytes. -/
def wordBytes (x : U) : List UInt8 := (List.range 4).map fun k => UInt8.ofNat (x.toNat / 256 ^ (3 - k))
def S8.bytes (s : S8) : List UInt8 := wordBytes s.a ++ wordBytes s.b ++ wordBytes s.c ++ wordBytes s.d ++ wordBytes s.e ++ wordBytes s.f ++ wordBytes s.g ++ wordBytes s.h
/-- A text's sum. -/
def shaOf (l : List UInt8) : List UInt8 := (feed .start (l ++ padOf l.length)).1.bytes

theorem shaOf_length (l : List UInt8) : (shaOf l).length = 32 := by simp [shaOf, S8.bytes, wordBytes]

/-- 'abc'. -/
theorem sha_abc : shaOf [97, 98, 99] = [0xba, 0x78, 0x16, 0xbf, 0x8f, 0x01, 0xcf, 0xea, 0x41, 0x41, 0x40, 0xde, 0x5d, 0xae, 0x22, 0x23, 0xb0, 0x03, 0x61, 0xa3, 0x96, 0x17, 0x7a, 0x9c, 0xb4, 0x10, 0xff, 0x61, 0xf2, 0x00, 0x15, 0xad] := by
  have h : feed .start ([97, 98, 99] ++ padOf 3) = (mixB .start ([97, 98, 99] ++ padOf 3), []) := by
    rw [feed_long _ _ (by decide), feed_short _ _ (by decide)]
    rfl
  unfold shaOf
  rw [show ([97, 98, 99] : List UInt8).length = 3 from rfl, h]
  decide +kernel
end Go.Proofs.YtmdcalkfapcafaaDoor
