/-
  sha: a block mixed in.
-/
import Derived.Test.YtmdcalkfapcafaaDoorShaA
namespace Go.Proofs.YtmdcalkfapcafaaDoor
open Go.RowKit

/-- The rounds' numbers, as the package's variable holds them. -/
def roundCells : List Value := (List.range 64).map fun i => W (Kr i)
theorem roundCells_length : roundCells.length = 64 := by simp [roundCells]
theorem roundCells_get (i : Nat) (h : i < 64) : roundCells[i]? = some (W (Kr i)) := by simp [roundCells, h]
def Laid (w : World) : Prop := w.rangeAt 0 0 roundCells
theorem Laid.lt {w : World} (h : Laid w) : 0 < w.heap.size := World.block_lt_of_cell? w _ (h 0 _ (roundCells_get 0 (by decide)))
theorem Laid.fr {w w' : World} (h : Laid w) {S : Nat → Prop} (hF : Fr S w w') (hS : ¬ S 0) : Laid w' := fun j v hv =>
  (World.cell?_of_block (a := ⟨0, 0 + j, none⟩) (hF.block 0 h.lt hS)).trans (h j v hv)
theorem Laid.below {w w' : World} (h : Laid w) {B : Nat} (hB : Below B w w') (h0 : 0 < B) : Laid w' := fun j v hv =>
  (World.cell?_of_block (a := ⟨0, 0 + j, none⟩) (hB.block 0 h0)).trans (h j v hv)

theorem index_words (cs : Array Value) (hs : cs.size = 64) (n : Nat) (v : Value) (h : cs[n]? = some v) (w : World) :
    (Instr.index 64 (.agg cs) (.int .i64 n)).run Tryd.prog w = .ok v w := by
  have hn : n < 64 := by rw [← hs]; exact (Array.getElem?_eq_some_iff.1 h).1
  unfold Instr.index
  simp [asIntOf, Sem.run_bind, run_underlying Tryd.underlying64, hn, part, isAgg, run_underlying Tryd.underlying53, sizeOf, typeInfo]
  have hi : (Tryd.prog.info? 53).map (·.size) = some 1 := by kernel_rfl
  cases hq : Tryd.prog.info? 53 with
  | none => rw [hq] at hi; cases hi
  | some i =>
    have hs1 : i.size = 1 := by rw [hq] at hi; simpa using hi
    simp [hs1, h]
theorem S8.cells_size (s : S8) (x y : Value) : (s.cells ++ #[x, y]).size = 10 := rfl

/-- The first n words added. -/
def addCells (s t : S8) (n : Nat) (x y : Value) : Array Value :=
  #[W (if 0 < n then s.a + t.a else s.a), W (if 1 < n then s.b + t.b else s.b), W (if 2 < n then s.c + t.c else s.c), W (if 3 < n then s.d + t.d else s.d),
    W (if 4 < n then s.e + t.e else s.e), W (if 5 < n then s.f + t.f else s.f), W (if 6 < n then s.g + t.g else s.g), W (if 7 < n then s.h + t.h else s.h), x, y]
theorem addCells_zero (s t : S8) (x y : Value) : addCells s t 0 x y = s.cells ++ #[x, y] := rfl
theorem addCells_all (s t : S8) (x y : Value) : addCells s t 8 x y = (s.add t).cells ++ #[x, y] := rfl
theorem addCells_step (s t : S8) (n : Nat) (h : n < 8) (x y : Value) : (addCells s t n x y).setIfInBounds n (W (s.get n + t.get n)) = addCells s t (n + 1) x y := by
  rcases (by omega : n = 0 ∨ n = 1 ∨ n = 2 ∨ n = 3 ∨ n = 4 ∨ n = 5 ∨ n = 6 ∨ n = 7) with rfl | rfl | rfl | rfl | rfl | rfl | rfl | rfl <;> rfl
theorem addCells_get (s t : S8) (n : Nat) (h : n < 8) (x y : Value) : (addCells s t n x y)[n]? = some (W (s.get n)) := by
  rcases (by omega : n = 0 ∨ n = 1 ∨ n = 2 ∨ n = 3 ∨ n = 4 ∨ n = 5 ∨ n = 6 ∨ n = 7) with rfl | rfl | rfl | rfl | rfl | rfl | rfl | rfl <;> rfl
theorem S8.cells_get (t : S8) (n : Nat) (h : n < 8) : t.cells[n]? = some (W (t.get n)) := by
  rcases (by omega : n = 0 ∨ n = 1 ∨ n = 2 ∨ n = 3 ∨ n = 4 ∨ n = 5 ∨ n = 6 ∨ n = 7) with rfl | rfl | rfl | rfl | rfl | rfl | rfl | rfl <;> rfl
theorem S8.one (t : S8) : t.cells.all (·.oneCell') = true := by simp [S8.cells, Value.oneCell']


theorem store_new (w1 : World) (T : TypeId) (Z C : Array Value) (hZ : Z.size = C.size) : ((w1.alloc (.cells Z T)).setCells w1.heap.size 0 C.toList).heap[w1.heap.size]? = some (.cells C T (0, 0)) ∧
    Below w1.heap.size w1 ((w1.alloc (.cells Z T)).setCells w1.heap.size 0 C.toList) ∧ ((w1.alloc (.cells Z T)).setCells w1.heap.size 0 C.toList).heap.size = w1.heap.size + 1 := by
  refine ⟨?_, Below.setCells (Nat.le_refl _) _ _ _ ((Below.refl _ _).alloc (Nat.le_refl _) _), ?_⟩
  · have h := heap_setCells_all (heap_new w1 (.cells Z T)) C.toList (by rw [Array.length_toList, hZ])
    rwa [Array.toArray_toList] at h
  · have h : ∀ (vs : List Value) (b o : Nat) (w : World), (w.setCells b o vs).heap.size = w.heap.size := by
      intro vs
      induction vs with
      | nil => intro b o w; rfl
      | cons v r ih => intro b o w; rw [World.setCells, ih]; simp [World.setCell]
    rw [h]; simp
theorem there_new (w1 : World) (T : TypeId) (Z : Array Value) (n : Nat) (hZ : Z.size = n) : (w1.alloc (.cells Z T)).there w1.heap.size 0 n := by
  subst hZ; exact there_of_block (heap_new w1 (.cells Z T))
theorem S8.range {w : World} {b : Nat} {s : S8} {x y : Value} {T : TypeId} (h : w.heap[b]? = some (.cells (s.cells ++ #[x, y]) T (0, 0))) : w.rangeAt b 0 s.cells.toList := fun j v hv => by
  have hj : j < 8 := (List.getElem?_eq_some_iff.1 hv).1
  rw [Nat.zero_add, cell_of_block h, Array.getElem?_append_left (by exact hj), ← hv, Array.getElem?_toList]

set_option maxRecDepth 4000 in
set_option maxHeartbeats 4000000 in
theorem mix_any (l : List UInt8) (b o cap : Nat) (sb : Nat) (s : S8) (x y : Value) (w : World) (hb : Bytes64 w b o l) (hlt : b < w.heap.size) (hL : Laid w) (hsb : 0 < sb)
    (hs : w.heap[sb]? = some (.cells (s.cells ++ #[x, y]) 56 (0, 0))) :
    Calls Tryd.prog 32 #[.pointer (some ⟨sb, 0, none⟩), .slice (some ⟨b, o, none⟩) 64 cap] w fun e w' =>
      e = .returned (.tuple #[]) ∧ w'.heap[sb]? = some (.cells ((mixB s l).cells ++ #[x, y]) 56 (0, 0)) ∧ Fr (fun k => k = sb) w w' := by
  have Hb := hid hb
  have HL := hid hL
  have Hs := hid hs
  clear hb hL hs
  go_enter Tryd.func32, Tryd.ntmps32
  go_wp2_with fail
  refine (spread_any l b o cap w Hb.out hlt).mono ?_
  rintro e w1 ⟨rfl, hB1⟩
  have hsz := wordCells_size (wordsTo l 64) (by rw [wordsTo_length]; omega)
  have hone : (wordCells (wordsTo l 64)).all (·.oneCell') = true := by
    refine all_oneCell_toArray fun v hv => ?_
    rcases List.mem_append.1 hv with h | h
    · obtain ⟨x, _, rfl⟩ := List.mem_map.1 h; rfl
    · rw [List.eq_of_mem_replicate h]; rfl
  generalize hC : wordCells (wordsTo l 64) = C at *
  have HC := hid hC
  have Hsz := hid hsz
  have Hone := hid hone
  have HB1 := hid hB1
  clear hC hsz hone hB1
  have hw1 : w.heap.size ≤ w1.heap.size := HB1.out.size
  go_upto_region 1 with (refine wpList_store_mid rfl 64 (.tmp 4) (.tmp 14) rfl w1.heap.size 0 C rfl rfl (there_new w1 _ _ _ (by rw [Hsz.out]; rfl)) (by rw [Hsz.out]; kernel_rfl) Hone.out ?_)
  have hst := store_new w1 64 (List.replicate 64 (W 0)).toArray C (by rw [Hsz.out]; rfl)
  change Code.wp _ _ _ _ ((w1.alloc (Obj.cells (List.replicate 64 (W 0)).toArray 64)).setCells w1.heap.size 0 C.toList)
  generalize (w1.alloc (Obj.cells (List.replicate 64 (W 0)).toArray 64)).setCells w1.heap.size 0 C.toList = w2 at *
  obtain ⟨hc2, hb2, hz2⟩ := hst
  have hB2 := HB1.out.trans (hb2.mono hw1)
  have hsl := lt_of_block Hs.out
  have hs2 := (hB2.block sb hsl).trans Hs.out
  have hr2 := S8.range hs2
  have Hc2 := hid hc2
  have HB2 := hid hB2
  have Hr2 := hid hr2
  have Hs2 := hid hs2
  have hw2 : w.heap.size + 1 ≤ w2.heap.size := by omega
  have Hz2 := hid hz2
  clear hc2 hb2 hz2 hB2 hr2 hs2
  go_upto_region 2 with (first | (refine wpList_load_mid rfl 54 (.tmp 17) rfl sb 0 rfl s.cells.toList _ Hr2.out Tryd.underlying54 rfl (by kernel_rfl) ?_) | (refine wpList_store_mid rfl 54 (.tmp 5) (.tmp 18) rfl w2.heap.size 0 s.cells rfl rfl (there_new w2 _ _ _ rfl) (by kernel_rfl) (S8.one s) ?_))
  have hst := store_new w2 54 (List.replicate 8 (W 0)).toArray s.cells rfl
  change Code.wp _ _ _ _ ((w2.alloc (Obj.cells (List.replicate 8 (W 0)).toArray 54)).setCells w2.heap.size 0 s.cells.toList)
  generalize (w2.alloc (Obj.cells (List.replicate 8 (W 0)).toArray 54)).setCells w2.heap.size 0 s.cells.toList = w3 at *
  obtain ⟨hv3, hb3, _⟩ := hst
  have hB3 := HB2.out.trans (hb3.mono (by omega))
  have hs3 := (hB3.block sb hsl).trans Hs.out
  have hc3 := (hb3.block w1.heap.size (by rw [Hz2.out]; omega)).trans Hc2.out
  have hL3 := HL.out.below hB3 (by omega)
  have hvw : w1.heap.size ≠ w2.heap.size := by rw [Hz2.out]; omega
  have hvb : w.heap.size ≤ w2.heap.size := by omega
  generalize w1.heap.size = wb at *
  generalize w2.heap.size = vb at *
  have Hv3 := hid hv3
  have HB3 := hid hB3
  have Hs3 := hid hs3
  have Hc3 := hid hc3
  have HL3 := hid hL3
  clear hv3 hb3 hB3 hs3 hc3 hL3 Hc2 HB2 Hr2 Hs2 Hz2 HB1 hw2
  have hrs : roundCells.toArray.size = 64 := by rw [List.size_toArray, roundCells_length]
  have hrg : ∀ i, i < 64 → roundCells.toArray[i]? = some (W (Kr i)) := fun i hi => by rw [List.getElem?_toArray]; exact roundCells_get i hi
  go_upto_region 3 with (refine wpList_load_mid rfl 64 (.global 0) rfl 0 0 rfl roundCells _ HL3.out Tryd.underlying64 rfl (by rw [roundCells_length]; kernel_rfl) ?_)
  generalize roundCells.toArray = RC at *
  have Hrs := hid hrs
  have Hrg := hid hrg
  clear hrs hrg
  go_loopw [20] (fun i w' => ∃ n : Nat, n ≤ 64 ∧ i = .int .i64 n ∧ w'.heap[vb]? = some (.cells (rounds (wordsTo l 64) s n).cells 54 (0, 0)) ∧ w'.heap[wb]? = some (.cells C 64 (0, 0)) ∧ w'.heap[sb]? = some (.cells (s.cells ++ #[x, y]) 56 (0, 0)) ∧ Below w.heap.size w w') (fun i _ => (64 - intOf i).toNat)
  case atStart => exact ⟨0, by omega, rfl, Hv3.out, Hc3.out, Hs3.out, HB3.out⟩
  case round =>
    obtain ⟨n, hn, rfl, hv, hc, hs, hB⟩ := hrel
    have Hv := hid hv
    have Hc := hid hc
    have Hs := hid hs
    have HB := hid hB
    clear hv hc hs hB
    by_cases hn64 : n < 64
    · have hlt1 : ((n : Int) < 64) := by omega
      have hidx := fun w => index_words RC Hrs.out n _ (Hrg.out n hn64) w
      have hC2 : C[n]? = some (W ((wordsTo l 64).getD n 0)) := by rw [← HC.out]; exact wordCells_get _ _ (by rw [wordsTo_length]; omega)
      have hcw : wr.cell? ⟨wb, n, none⟩ = some (W ((wordsTo l 64).getD n 0)) := (cell_of_block Hc.out n).trans hC2
      have hst : rounds (wordsTo l 64) s (n + 1) = round (rounds (wordsTo l 64) s n) (Kr n) ((wordsTo l 64).getD n 0) := rfl
      obtain ⟨st, he⟩ : ∃ st, rounds (wordsTo l 64) s n = st := ⟨_, rfl⟩
      obtain ⟨st2, he2⟩ : ∃ st, rounds (wordsTo l 64) s (n + 1) = st := ⟨_, rfl⟩
      rw [he] at hst Hv
      rw [he2] at hst
      generalize (wordsTo l 64).getD n 0 = wn at *
      generalize Kr n = kn at *
      obtain ⟨a, b', c, d, e, f, g, h⟩ := st
      have v0 : wr.cell? ⟨vb, 0, none⟩ = some (W a) := cell_of_block Hv.out 0
      have v1 : wr.cell? ⟨vb, 1, none⟩ = some (W b') := cell_of_block Hv.out 1
      have v2 : wr.cell? ⟨vb, 2, none⟩ = some (W c) := cell_of_block Hv.out 2
      have v3 : wr.cell? ⟨vb, 3, none⟩ = some (W d) := cell_of_block Hv.out 3
      have v4 : wr.cell? ⟨vb, 4, none⟩ = some (W e) := cell_of_block Hv.out 4
      have v5 : wr.cell? ⟨vb, 5, none⟩ = some (W f) := cell_of_block Hv.out 5
      have v6 : wr.cell? ⟨vb, 6, none⟩ = some (W g) := cell_of_block Hv.out 6
      have v7 : wr.cell? ⟨vb, 7, none⟩ = some (W h) := cell_of_block Hv.out 7
      have Hst := hid hst
      have He2 := hid he2
      have Hlt := hid hlt1
      clear hst he2 hC2 he
      go_upto_region 6 with fail
      refine wp_region_still_lit (by kernel_rfl) (by kernel_rfl) ?_
      repeat still_step
      still_call (rotl6 _ _)
      repeat still_step
      still_call (rotl11 _ _)
      repeat still_step
      still_call (rotl25 _ _)
      repeat still_step
      refine wpStill_nil ?_
      clear hidx hcw hlt1
      have ht : IntKind.u32.wrap (IntKind.u32.wrap (IntKind.u32.wrap (IntKind.u32.wrap ((h.toNat : Int) + (kn.toNat : Int)) + (wn.toNat : Int)) + bits BinOp.xor IntKind.u32 (bits BinOp.xor IntKind.u32 ((rotr e 6).toNat : Int) ((rotr e 11).toNat : Int)) ((rotr e 25).toNat : Int)) + bits BinOp.xor IntKind.u32 (bits BinOp.and IntKind.u32 (e.toNat : Int) (f.toNat : Int)) (bits BinOp.and IntKind.u32 (bits BinOp.xor IntKind.u32 (if IntKind.u32.signed = true then -1 else IntKind.u32.max) (e.toNat : Int)) (g.toNat : Int))) = ((tOf ⟨a, b', c, d, e, f, g, h⟩ kn wn).toNat : Int) := by
        rw [not_W', xor_W, xor_W, and_W, and_W, xor_W, add_W, add_W, add_W, add_W]
        rfl
      rw [ht]
      clear ht
      obtain ⟨t, hT⟩ : ∃ t, tOf ⟨a, b', c, d, e, f, g, h⟩ kn wn = t := ⟨_, rfl⟩
      rw [hT]
      have HT := hid hT
      clear hT
      generalize hd : ({ heap := wr.heap, tape := wr.tape, drawn := wr.drawn + 1, os := wr.os, output := wr.output } : World) = wd
      have hd2 : wr.drew = wd := hd
      replace Hv : Hid (wr.drew.heap[vb]? = some (.cells (S8.cells ⟨a, b', c, d, e, f, g, h⟩) 54 (0, 0))) := Hv
      replace Hc : Hid (wr.drew.heap[wb]? = some (.cells C 64 (0, 0))) := Hc
      replace Hs : Hid (wr.drew.heap[sb]? = some (.cells (s.cells ++ #[x, y]) 56 (0, 0))) := Hs
      replace HB : Hid (Below w.heap.size w wr.drew) := hid HB.out.drew
      rw [hd2] at Hv Hc Hs HB
      clear hd hd2 v0 v1 v2 v3 v4 v5 v6 v7
      have v0 : wd.cell? ⟨vb, 0, none⟩ = some (W a) := cell_of_block Hv.out 0
      have v1 : wd.cell? ⟨vb, 1, none⟩ = some (W b') := cell_of_block Hv.out 1
      have v2 : wd.cell? ⟨vb, 2, none⟩ = some (W c) := cell_of_block Hv.out 2
      have v3 : wd.cell? ⟨vb, 3, none⟩ = some (W d) := cell_of_block Hv.out 3
      have v4 : wd.cell? ⟨vb, 4, none⟩ = some (W e) := cell_of_block Hv.out 4
      have v5 : wd.cell? ⟨vb, 5, none⟩ = some (W f) := cell_of_block Hv.out 5
      have v6 : wd.cell? ⟨vb, 6, none⟩ = some (W g) := cell_of_block Hv.out 6
      have v7 : wd.cell? ⟨vb, 7, none⟩ = some (W h) := cell_of_block Hv.out 7
      go_upto_region 8 with fail
      refine wp_region_still_lit (by kernel_rfl) (by kernel_rfl) ?_
      repeat still_step
      still_call (rotl2 _ _)
      repeat still_step
      still_call (rotl13 _ _)
      repeat still_step
      still_call (rotl22 _ _)
      repeat still_step
      refine wpStill_nil ?_
      have hu : IntKind.u32.wrap (bits BinOp.xor IntKind.u32 (bits BinOp.xor IntKind.u32 ((rotr a 2).toNat : Int) ((rotr a 13).toNat : Int)) ((rotr a 22).toNat : Int) + bits BinOp.xor IntKind.u32 (bits BinOp.xor IntKind.u32 (bits BinOp.and IntKind.u32 (a.toNat : Int) (b'.toNat : Int)) (bits BinOp.and IntKind.u32 (a.toNat : Int) (c.toNat : Int))) (bits BinOp.and IntKind.u32 (b'.toNat : Int) (c.toNat : Int))) = ((uOf ⟨a, b', c, d, e, f, g, h⟩).toNat : Int) := by
        rw [xor_W, xor_W, and_W, and_W, and_W, xor_W, xor_W, add_W]
        rfl
      rw [hu]
      clear hu
      obtain ⟨u, hU⟩ : ∃ t, uOf ⟨a, b', c, d, e, f, g, h⟩ = t := ⟨_, rfl⟩
      rw [hU]
      have HU := hid hU
      clear hU
      generalize hd : ({ heap := wd.heap, tape := wd.tape, drawn := wd.drawn + 1, os := wd.os, output := wd.output } : World) = we
      have hd2 : wd.drew = we := hd
      replace Hv : Hid (wd.drew.heap[vb]? = some (.cells (S8.cells ⟨a, b', c, d, e, f, g, h⟩) 54 (0, 0))) := Hv
      replace Hc : Hid (wd.drew.heap[wb]? = some (.cells C 64 (0, 0))) := Hc
      replace Hs : Hid (wd.drew.heap[sb]? = some (.cells (s.cells ++ #[x, y]) 56 (0, 0))) := Hs
      replace HB : Hid (Below w.heap.size w wd.drew) := hid HB.out.drew
      rw [hd2] at Hv Hc Hs HB
      clear hd hd2 v0 v1 v2 v3 v4 v5 v6 v7
      have v0 : we.cell? ⟨vb, 0, none⟩ = some (W a) := cell_of_block Hv.out 0
      have v1 : we.cell? ⟨vb, 1, none⟩ = some (W b') := cell_of_block Hv.out 1
      have v2 : we.cell? ⟨vb, 2, none⟩ = some (W c) := cell_of_block Hv.out 2
      have v3 : we.cell? ⟨vb, 3, none⟩ = some (W d) := cell_of_block Hv.out 3
      have v4 : we.cell? ⟨vb, 4, none⟩ = some (W e) := cell_of_block Hv.out 4
      have v5 : we.cell? ⟨vb, 5, none⟩ = some (W f) := cell_of_block Hv.out 5
      have v6 : we.cell? ⟨vb, 6, none⟩ = some (W g) := cell_of_block Hv.out 6
      have v7 : we.cell? ⟨vb, 7, none⟩ = some (W h) := cell_of_block Hv.out 7
      have f0 : we.frozen? ⟨vb, 0, none⟩ = false := free_of_block Hv.out 0
      have f1 : we.frozen? ⟨vb, 1, none⟩ = false := free_of_block Hv.out 1
      have f2 : we.frozen? ⟨vb, 2, none⟩ = false := free_of_block Hv.out 2
      have f3 : we.frozen? ⟨vb, 3, none⟩ = false := free_of_block Hv.out 3
      have f4 : we.frozen? ⟨vb, 4, none⟩ = false := free_of_block Hv.out 4
      have f5 : we.frozen? ⟨vb, 5, none⟩ = false := free_of_block Hv.out 5
      have f6 : we.frozen? ⟨vb, 6, none⟩ = false := free_of_block Hv.out 6
      have f7 : we.frozen? ⟨vb, 7, none⟩ = false := free_of_block Hv.out 7
      go_upto_region 10 with fail
      rw [add_W', add_W']
      change Code.wp _ _ _ _ (we.setCells vb 0 [W (t + u), W a, W b', W c, W (d + t), W e, W f, W g])
      have hv2 := heap_setCells_all Hv.out [W (t + u), W a, W b', W c, W (d + t), W e, W f, W g] rfl
      have hF : Fr (fun k => k = vb) we (we.setCells vb 0 [W (t + u), W a, W b', W c, W (d + t), W e, W f, W g]) := Fr.setCells (S := fun k => k = vb) (fun _ => rfl) _ _ _ (Fr.refl _ _)
      have hB2 : Below w.heap.size w (we.setCells vb 0 [W (t + u), W a, W b', W c, W (d + t), W e, W f, W g]) := Below.setCells hvb _ _ _ HB.out
      generalize we.setCells vb 0 [W (t + u), W a, W b', W c, W (d + t), W e, W f, W g] = wf at *
      have hc2 := hF.heap Hc.out hvw
      have hs2 := hF.heap Hs.out (by omega)
      have hv3 : wf.heap[vb]? = some (.cells (rounds (wordsTo l 64) s (n + 1)).cells 54 (0, 0)) := by
        rw [hv2, He2.out, Hst.out]
        unfold round
        rw [HT.out, HU.out]
        rfl
      have Hv3 := hid hv3
      have Hc2 := hid hc2
      have Hs2 := hid hs2
      have HB2 := hid hB2
      have Hn := hid hn64
      clear hv2 hF hB2 hc2 hs2 hv3 v0 v1 v2 v3 v4 v5 v6 v7 f0 f1 f2 f3 f4 f5 f6 f7 hn64 hn
      have e1 : IntKind.i64.wrap ((n : Int) + 1) = (n : Int) + 1 := by have := Hn.out; exact IntWalk.i64_in _ (by omega)
      go_wp2_with fail
      go_roundw
      case rel => exact ⟨n + 1, by have := Hn.out; omega, by go_num, Hv3.out, Hc2.out, Hs2.out, HB2.out⟩
      case measure => have := Hn.out; simp [intOf]; omega
    · have hn : n = 64 := by omega
      have hlt1 : ¬ ((n : Int) < 64) := by omega
      have hv := Hv.out
      rw [hn] at hv
      have hR : rounds (wordsTo l 64) s 64 = rounds (wordsTo l 64) s 64 := rfl
      have hm : mixB s l = s.add (rounds (wordsTo l 64) s 64) := rfl
      generalize rounds (wordsTo l 64) s 64 = R at *
      have Hv := hid hv
      have Hm := hid hm
      clear hv hR hm hn64 hn
      go_wp2_with fail
      go_loopw [101] (fun i w' => ∃ m : Nat, m ≤ 8 ∧ i = .int .i64 m ∧ w'.heap[vb]? = some (.cells R.cells 54 (0, 0)) ∧ w'.heap[sb]? = some (.cells (addCells s R m x y) 56 (0, 0)) ∧ Fr (fun k => k = sb) w w') (fun i _ => (8 - intOf i).toNat)
      case atStart => exact ⟨0, by omega, rfl, Hv.out, by rw [addCells_zero]; exact Hs.out, Fr.ofBelow HB.out _⟩
      case round =>
        obtain ⟨m, hm, rfl, hv, hs, hF⟩ := hrel
        by_cases hm8 : m < 8
        · have hlt2 : (m : Int) < 8 := by omega
          have c1 : wr.cell? ⟨vb, m, none⟩ = some (W (R.get m)) := (cell_of_block hv m).trans (S8.cells_get R m hm8)
          have c2 : wr.cell? ⟨sb, m, none⟩ = some (W (s.get m)) := (cell_of_block hs m).trans (addCells_get s R m hm8 x y)
          have f2 : wr.frozen? ⟨sb, m, none⟩ = false := free_of_block hs m
          have hst := addCells_step s R m hm8 x y
          generalize s.get m = p at *
          generalize R.get m = q at *
          have Hv := hid hv
          have Hs := hid hs
          have HF := hid hF
          have Hst := hid hst
          clear hv hs hF hst
          go_upto_region 14 with fail
          go_still_tail 13, (by kernel_rfl)
          change wpList _ _ _ _ _ wr.drew
          rw [add_W]
          go_wp2_with fail
          go_roundw
          case rel =>
            refine ⟨m + 1, by omega, by go_num, ?_, ?_, ?_⟩
            · exact heap_set_other (w := wr.drew) Hv.out (by show vb ≠ sb; omega) _
            · rw [← Hst.out]; exact heap_set_same (w := wr.drew) Hs.out _
            · exact HF.out.drew.setCell (fun _ => rfl) _
          case measure => simp [intOf]; omega
        · have hlt2 : ¬ (m : Int) < 8 := by omega
          obtain rfl : m = 8 := by omega
          have Hv := hid hv
          have Hs := hid hs
          have HF := hid hF
          clear hv hs hF
          go_wp2_with fail
          go_end0
          exact ⟨rfl, by rw [Hm.out, ← addCells_all]; exact Hs.out, HF.out⟩
end Go.Proofs.YtmdcalkfapcafaaDoor
