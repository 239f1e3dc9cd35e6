/-
  sha: a block's words.
-/
import Derived.Test.YtmdcalkfapcafaaDoorShaA0
namespace Go.Proofs.YtmdcalkfapcafaaDoor
open Go.RowKit

set_option maxHeartbeats 4000000 in
theorem spread_any (l : List UInt8) (b o cap : Nat) (w : World) (hb : Bytes64 w b o l) (hlt : b < w.heap.size) :
    Calls Tryd.prog 33 #[.slice (some ⟨b, o, none⟩) 64 cap] w fun e w' => e = .returned (.agg (wordCells (wordsTo l 64))) ∧ Below w.heap.size w w' := by
  have Hb := hid hb
  clear hb
  go_enter Tryd.func33, Tryd.ntmps33
  go_wp2_with fail
  go_loopw [10] (fun i w' => ∃ n : Nat, n ≤ 16 ∧ i = .int .i64 n ∧ w'.heap[w.heap.size + 1]? = some (.cells (wordCells (wordsTo l n)) 64 (0, 0)) ∧ w'.heap[w.heap.size]? = some (.cells (wordCells []) 64 (0, 0)) ∧ Below w.heap.size w w') (fun i _ => (16 - intOf i).toNat)
  case atStart => exact ⟨0, by omega, rfl, two_new _ _ _, two_old _ _ _, ((Below.refl _ _).alloc (Nat.le_refl _) _).alloc (by simp) _⟩
  case round =>
    obtain ⟨n, hn, rfl, h1, h0, hB⟩ := hrel
    have H1 := hid h1
    have H0 := hid h0
    have HB := hid hB
    clear h1 h0 hB
    by_cases hn16 : n < 16
    · have hlt1 : ((n : Int) < 16) := by omega
      go_wp2_with fail
      have c : ∀ i, i < 4 → wr.cell? ⟨b, o + (4 * n + i), none⟩ = some (.int .u8 ((l.getD (4 * n + i) 0).toNat : Int)) := fun i hi => (World.cell?_of_block (a := ⟨b, o + (4 * n + i), none⟩) (HB.out.block b hlt)).trans (Hb.out.2 _ (by omega))
      have c0 : wr.cell? ⟨b, o + 4 * n, none⟩ = _ := c 0 (by decide)
      have c1 : wr.cell? ⟨b, o + (4 * n + 1), none⟩ = _ := c 1 (by decide)
      have c2 : wr.cell? ⟨b, o + (4 * n + 2), none⟩ = _ := c 2 (by decide)
      have c4 : wr.cell? ⟨b, o + (4 * n + 3), none⟩ = _ := c 3 (by decide)
      clear c
      have hw : wordsTo l (n + 1) = wordsTo l n ++ [word0 l n] := by rw [wordsTo, if_pos hn16]
      unfold word0 at hw
      rw [Nat.add_zero] at c0
      generalize l.getD (4 * n) 0 = y0 at *
      generalize l.getD (4 * n + 1) 0 = y1 at *
      generalize l.getD (4 * n + 2) 0 = y2 at *
      generalize l.getD (4 * n + 3) 0 = y3 at *
      have Hw := hid hw
      clear hw
      have m0 : IntKind.i64.wrap (4 * (n : Int)) = 4 * (n : Int) := IntWalk.i64_in _ (by omega)
      have m1 : IntKind.i64.wrap (4 * (n : Int) + 1) = 4 * (n : Int) + 1 := IntWalk.i64_in _ (by omega)
      have m2 : IntKind.i64.wrap (4 * (n : Int) + 2) = 4 * (n : Int) + 2 := IntWalk.i64_in _ (by omega)
      have m3 : IntKind.i64.wrap (4 * (n : Int) + 3) = 4 * (n : Int) + 3 := IntWalk.i64_in _ (by omega)
      have n0 : (0 : Int) ≤ (n : Int) := by omega
      have n1 : (n : Int) < 64 := by omega
      have n1' : n < 64 := by omega
      have a0 : (0 : Int) ≤ 4 * (n : Int) := by omega
      have a1 : (0 : Int) ≤ 4 * (n : Int) + 1 := by omega
      have a2 : (0 : Int) ≤ 4 * (n : Int) + 2 := by omega
      have a3 : (0 : Int) ≤ 4 * (n : Int) + 3 := by omega
      have b0 : 4 * (n : Int) < 64 := by omega
      have b1 : 4 * (n : Int) + 1 < 64 := by omega
      have b2 : 4 * (n : Int) + 2 < 64 := by omega
      have b3 : 4 * (n : Int) + 3 < 64 := by omega
      have t0 : (4 * (n : Int)).toNat = 4 * n := by omega
      have t1 : (4 * (n : Int) + 1).toNat = 4 * n + 1 := by omega
      have t2 : (4 * (n : Int) + 2).toNat = 4 * n + 2 := by omega
      have t3 : (4 * (n : Int) + 3).toNat = 4 * n + 3 := by omega
      go_still_tail 35, (by kernel_rfl)
      change wpList _ _ _ _ _ wr.drew
      have e1 : (wordCells (wordsTo l n)).setIfInBounds n (W (BitVec.setWidth 32 y0.toBitVec <<< 24 ||| BitVec.setWidth 32 y1.toBitVec <<< 16 ||| BitVec.setWidth 32 y2.toBitVec <<< 8 ||| BitVec.setWidth 32 y3.toBitVec)) = wordCells (wordsTo l (n + 1)) := by
        have := wordCells_set (wordsTo l n) (BitVec.setWidth 32 y0.toBitVec <<< 24 ||| BitVec.setWidth 32 y1.toBitVec <<< 16 ||| BitVec.setWidth 32 y2.toBitVec <<< 8 ||| BitVec.setWidth 32 y3.toBitVec) (by rw [wordsTo_length]; omega)
        rwa [wordsTo_length, ← Hw.out] at this
      have f3 := free_of_block H1.out n
      obtain ⟨u3, c3⟩ := word_there H1.out (by rw [wordsTo_length]; omega) n1'
      have hx : bits .or .u32 (bits .or .u32 (bits .or .u32 (IntKind.u32.wrap (IntKind.u32.wrap (y0.toNat : Int) * 16777216)) (IntKind.u32.wrap (IntKind.u32.wrap (y1.toNat : Int) * 65536))) (IntKind.u32.wrap (IntKind.u32.wrap (y2.toNat : Int) * 256))) (IntKind.u32.wrap (y3.toNat : Int)) = ((BitVec.setWidth 32 y0.toBitVec <<< 24 ||| BitVec.setWidth 32 y1.toBitVec <<< 16 ||| BitVec.setWidth 32 y2.toBitVec <<< 8 ||| BitVec.setWidth 32 y3.toBitVec : U).toNat : Int) := by
        rw [byte_W, byte_W, byte_W, byte_W]
        have s1 := shl_W (BitVec.setWidth 32 y0.toBitVec) 24
        have s2 := shl_W (BitVec.setWidth 32 y1.toBitVec) 16
        have s3 := shl_W (BitVec.setWidth 32 y2.toBitVec) 8
        simp only [show (2 : Int) ^ 24 = 16777216 from rfl, show (2 : Int) ^ 16 = 65536 from rfl, show (2 : Int) ^ 8 = 256 from rfl] at s1 s2 s3
        rw [s1, s2, s3, or_W, or_W, or_W]
      rw [hx]
      clear hx
      generalize (BitVec.setWidth 32 y0.toBitVec <<< 24 ||| BitVec.setWidth 32 y1.toBitVec <<< 16 ||| BitVec.setWidth 32 y2.toBitVec <<< 8 ||| BitVec.setWidth 32 y3.toBitVec : U) = x at *
      have E1 := hid e1
      clear e1 Hw m0 m1 m2 m3 a0 a1 a2 a3 b0 b1 b2 b3 t0 t1 t2 t3 c0 c1 c2
      have hl1 : w.heap.size + 1 < wr.heap.size := lt_of_block H1.out
      go_wp2_with fail
      go_roundw
      case rel =>
        refine ⟨n + 1, by omega, by go_num, ?_, ?_, ?_⟩
        · rw [← E1.out]; exact heap_set_same (w := wr.drew) H1.out _
        · exact heap_set_other (w := wr.drew) H0.out (by simp) _
        · exact HB.out.drew.setCell (by show w.heap.size ≤ w.heap.size + 1; omega) _
      case measure => simp [intOf]; omega
    · have h16 : n = 16 := by omega
      have hlt16 : ¬ ((n : Int) < 16) := by omega
      have H1 : Hid (wr.heap[w.heap.size + 1]? = some (.cells (wordCells (wordsTo l 16)) 64 (0, 0))) := by rw [← h16]; exact H1
      go_wp2_with fail
      clear hlt16 h16 hn hn16
      go_loopw [5] (fun i w' => ∃ n : Nat, 16 ≤ n ∧ n ≤ 64 ∧ i = .int .i64 n ∧ w'.heap[w.heap.size + 1]? = some (.cells (wordCells (wordsTo l n)) 64 (0, 0)) ∧ w'.heap[w.heap.size]? = some (.cells (wordCells []) 64 (0, 0)) ∧ Below w.heap.size w w') (fun i _ => (64 - intOf i).toNat)
      case atStart => exact ⟨16, by omega, by omega, rfl, H1.out, H0.out, HB.out⟩
      case round =>
        obtain ⟨n, hn, hn2, rfl, h1, h0, hB⟩ := hrel
        have H1 := hid h1
        have H0 := hid h0
        have HB := hid hB
        clear h1 h0 hB
        by_cases hn16 : n < 64
        · have hlt1 : ((n : Int) < 64) := by omega
          obtain ⟨q0, h0⟩ : ∃ q : Nat, n - 15 = q := ⟨_, rfl⟩
          obtain ⟨q1, h1⟩ : ∃ q : Nat, n - 2 = q := ⟨_, rfl⟩
          obtain ⟨q2, h2⟩ : ∃ q : Nat, n - 16 = q := ⟨_, rfl⟩
          obtain ⟨q3, h3⟩ : ∃ q : Nat, n - 7 = q := ⟨_, rfl⟩
          have k0 : (q0 : Int) < 64 := by omega
          have k1 : (q1 : Int) < 64 := by omega
          have k2 : (q2 : Int) < 64 := by omega
          have k3 : (q3 : Int) < 64 := by omega
          have m0 : IntKind.i64.wrap ((n : Int) - 15) = (q0 : Int) := by rw [IntWalk.i64_in _ (by omega)]; omega
          have m1 : IntKind.i64.wrap ((n : Int) - 2) = (q1 : Int) := by rw [IntWalk.i64_in _ (by omega)]; omega
          have m2 : IntKind.i64.wrap ((n : Int) - 16) = (q2 : Int) := by rw [IntWalk.i64_in _ (by omega)]; omega
          have m3 : IntKind.i64.wrap ((n : Int) - 7) = (q3 : Int) := by rw [IntWalk.i64_in _ (by omega)]; omega
          have c0 := word_read H1.out (n := q0) (by rw [wordsTo_length]; omega)
          have c1 := word_read H1.out (n := q1) (by rw [wordsTo_length]; omega)
          have c2 := word_read H1.out (n := q2) (by rw [wordsTo_length]; omega)
          have c3 := word_read H1.out (n := q3) (by rw [wordsTo_length]; omega)
          have f4 := free_of_block H1.out n
          obtain ⟨u4, c4⟩ := word_there H1.out (by rw [wordsTo_length]; omega) hn16
          have hw : wordsTo l (n + 1) = wordsTo l n ++ [nextWord (wordsTo l n) n] := by rw [wordsTo, if_neg (by omega)]
          have e1 : (wordCells (wordsTo l n)).setIfInBounds n (W (nextWord (wordsTo l n) n)) = wordCells (wordsTo l (n + 1)) := by
            have := wordCells_set (wordsTo l n) (nextWord (wordsTo l n) n) (by rw [wordsTo_length]; omega)
            rwa [wordsTo_length, ← hw] at this
          have hN : nextWord (wordsTo l n) n = (wordsTo l n).getD (n - 16) 0 + (rotr ((wordsTo l n).getD (n - 15) 0) 7 ^^^ rotr ((wordsTo l n).getD (n - 15) 0) 18 ^^^ (wordsTo l n).getD (n - 15) 0 >>> 3) + (wordsTo l n).getD (n - 7) 0 + (rotr ((wordsTo l n).getD (n - 2) 0) 17 ^^^ rotr ((wordsTo l n).getD (n - 2) 0) 19 ^^^ (wordsTo l n).getD (n - 2) 0 >>> 10) := rfl
          rw [h0, h1, h2, h3] at hN
          clear h0 h1 h2 h3
          generalize (wordsTo l n).getD q0 0 = x at *
          generalize (wordsTo l n).getD q1 0 = y at *
          generalize (wordsTo l n).getD q2 0 = z at *
          generalize (wordsTo l n).getD q3 0 = v at *
          generalize nextWord (wordsTo l n) n = nx at *
          have E1 := hid e1
          have HN := hid hN
          clear e1 hN hw
          have hl1 : w.heap.size + 1 < wr.heap.size := lt_of_block H1.out
          go_upto_region 10 with fail
          go_still (by kernel_rfl)
          have K2 := hid k2
          have K3 := hid k3
          have M2 := hid m2
          have M3 := hid m3
          clear k0 k1 k2 k3 m0 m1 m2 m3 c0 c1 hlt1 hl1
          generalize hd : ({ heap := wr.heap, tape := wr.tape, drawn := wr.drawn + 1, os := wr.os, output := wr.output } : World) = wd
          have hd2 : wr.drew = wd := hd
          have C2 : wr.drew.cell? ⟨w.heap.size + 1, q2, none⟩ = some (W z) := c2
          have C3 : wr.drew.cell? ⟨w.heap.size + 1, q3, none⟩ = some (W v) := c3
          have C4 : wr.drew.cell? ⟨w.heap.size + 1, n, none⟩ = some u4 := c4
          have F4 : wr.drew.frozen? ⟨w.heap.size + 1, n, none⟩ = false := f4
          have H1 : Hid (wr.drew.heap[w.heap.size + 1]? = some (.cells (wordCells (wordsTo l n)) 64 (0, 0))) := H1
          have H0 : Hid (wr.drew.heap[w.heap.size]? = some (.cells (wordCells []) 64 (0, 0))) := H0
          have HB : Hid (Below w.heap.size w wr.drew) := hid HB.out.drew
          rw [hd2] at C2 C3 C4 F4 H1 H0 HB
          clear hd hd2 c2 c3 c4 f4
          go_upto_region 13 with fail
          refine (rotl7 _ _).mono ?_
          rintro e w1 ⟨rfl, rfl⟩
          go_upto_region 13 with fail
          refine (rotl18 _ _).mono ?_
          rintro e w1 ⟨rfl, rfl⟩
          go_upto_region 13 with fail
          refine (rotl17 _ _).mono ?_
          rintro e w1 ⟨rfl, rfl⟩
          go_upto_region 13 with fail
          refine (rotl19 _ _).mono ?_
          rintro e w1 ⟨rfl, rfl⟩
          go_upto_region 13 with fail
          have sx : (x.toNat : Int) / (8 : Int) = ((x >>> 3).toNat : Int) := shr_W x 3
          have sy : (y.toNat : Int) / (1024 : Int) = ((y >>> 10).toNat : Int) := shr_W y 10
          rw [sx, sy, xor_W (rotr x 7), xor_W (rotr y 17), xor_W, xor_W]
          clear sx sy
          have hn2 := HN.out
          clear HN
          generalize (rotr x 7 ^^^ rotr x 18 ^^^ x >>> 3) = p at *
          generalize (rotr y 17 ^^^ rotr y 19 ^^^ y >>> 10) = q at *
          have HN := hid hn2
          clear hn2
          have k2 := K2.out
          have k3 := K3.out
          have m2 := M2.out
          have m3 := M3.out
          have k4 : (n : Int) < 64 := by omega
          have hn16 := hid hn16
          go_still_tail 15, (by kernel_rfl)
          change wpList _ _ _ _ _ w1.drew
          rw [add_W, add_W, add_W, ← HN.out]
          go_wp2_with fail
          go_roundw
          case rel =>
            refine ⟨n + 1, by omega, by have := hn16.out; omega, by go_num, ?_, ?_, ?_⟩
            · rw [← E1.out]; exact heap_set_same (w := w1.drew) H1.out _
            · exact heap_set_other (w := w1.drew) H0.out (by simp) _
            · exact HB.out.drew.setCell (by show w.heap.size ≤ w.heap.size + 1; omega) _
          case measure => have := hn16.out; simp [intOf]; omega
        · have hlt1 : ¬ ((n : Int) < 64) := by omega
          have h64 : n = 64 := by omega
          have hs := wordCells_size (wordsTo l 64) (by rw [wordsTo_length]; omega)
          have H1 := H1.out
          rw [h64] at H1
          have H1 := hid H1
          have H0 := H0.out
          have hz : (wordCells []).size = 64 := wordCells_size [] (by decide)
          have hone : (wordCells (wordsTo l 64)).all (·.oneCell') = true := by
            refine all_oneCell_toArray fun v hv => ?_
            rcases List.mem_append.1 hv with h | h
            · obtain ⟨x, _, rfl⟩ := List.mem_map.1 h; rfl
            · rw [List.eq_of_mem_replicate h]; rfl
          have hth := there_of_block H0
          rw [hz, ← hs] at hth
          have H0 := hid H0
          have hcl : (wordCells (wordsTo l 64)).toList.length = (wordCells []).size := by rw [hz, Array.length_toList, hs]
          clear hn hn2 h64 hn16
          go_upto_region 14 with fail
          rename_i hK14
          generalize hC : wordCells (wordsTo l 64) = C at *
          have HC := hid hC
          clear hC
          generalize wordCells [] = Z at *
          have Hs := hid hs
          have Hone := hid hone
          have Hth := hid hth
          have Hcl := hid hcl
          clear hs hone hth hcl hz
          refine wp_region_lit ?_
          refine wpList_load_row rfl 64 (.tmp 3) rfl (w.heap.size + 1) rfl _ _ _ _ H1.out Tryd.underlying64 rfl (by rw [Hs.out]; kernel_rfl) ?_
          refine wpList_store_mid rfl 64 (.tmp 2) (.tmp 92) rfl w.heap.size 0 C rfl rfl Hth.out (by rw [Hs.out]; kernel_rfl) Hone.out ?_
          refine wpList_nil ?_
          simp only [Exit.then]
          refine hK14 _ _ ?_
          refine wp_ret ?_
          simp only [Act.put]
          have hres : Tryd.f33.results = #[.cell 2 64] := by kernel_rfl
          have hw := heap_setCells_all H0.out C.toList Hcl.out
          rw [Array.toArray_toList] at hw
          refine bodyPost_ret (P := Tryd.prog) (fn := Tryd.f33) (v := .agg C) ?_ rfl ⟨by rw [HC.out], Below.setCells (Nat.le_refl _) _ _ _ HB.out⟩
          refine results_cell_row hres _ _ w.heap.size _ C _ _ ?_ hw Tryd.underlying64 rfl (by rw [Hs.out]; kernel_rfl)
          rw [Array.getD_eq_getD_getElem?, Array.getElem?_setIfInBounds_ne (by decide)]
          rfl
end Go.Proofs.YtmdcalkfapcafaaDoor
