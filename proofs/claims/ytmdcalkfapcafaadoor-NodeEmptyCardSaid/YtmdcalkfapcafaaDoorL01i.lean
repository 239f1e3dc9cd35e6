/-
  Law 01: the walk of a sum's Head.
-/
import Derived.Test.YtmdcalkfapcafaaDoorL01h
namespace Go.Proofs.YtmdcalkfapcafaaDoor
open Go.RowKit

set_option maxRecDepth 4000 in
set_option maxHeartbeats 2000000 in
theorem head_any (l : List UInt8) (hl : l.length = 32) (n : Int) (w : World) :
    Calls Tryd.prog 17 #[.agg (sumCells l), .int .i64 n] w fun e w' => e = .returned (.agg (sumCells (headOf l n))) ∧ Below w.heap.size w w' := by
  obtain ⟨M, hM, hM2⟩ : ∃ M : Nat, min (max n 0) 256 = (M : Int) ∧ M ≤ 256 := ⟨(min (max n 0) 256).toNat, by omega, by omega⟩
  have hk : ∀ i : Nat, i < 32 → keptAt n i = (min (max ((M : Int) - 8 * i) 0) 8).toNat := fun i hi => by unfold keptAt; omega
  have Hk := hid hk
  clear hk
  go_enter Tryd.func17, Tryd.ntmps17
  go_wp2_with fail
  have h1 := two_old w (Obj.cells (sumCells l) 25) (Obj.cells (List.replicate 32 (Value.int .u8 0)).toArray 25)
  have h2 := two_new w (Obj.cells (sumCells l) 25) (Obj.cells (List.replicate 32 (Value.int .u8 0)).toArray 25)
  have hB : Below w.heap.size w ((w.alloc (Obj.cells (sumCells l) 25)).alloc (Obj.cells (List.replicate 32 (Value.int .u8 0)).toArray 25)) := ((Below.refl _ _).alloc (Nat.le_refl _) _).alloc (by simp) _
  change Code.wp _ _ _ _ ((w.alloc (Obj.cells (sumCells l) 25)).alloc (Obj.cells (List.replicate 32 (Value.int .u8 0)).toArray 25))
  generalize (w.alloc (Obj.cells (sumCells l) 25)).alloc (Obj.cells (List.replicate 32 (Value.int .u8 0)).toArray 25) = w1 at *
  generalize hN : w.heap.size = N at *
  have H1 := hid h1
  have H2 := hid h2
  have HB := hid hB
  clear h1 h2 hB
  go_loopw [10] (fun i w' => ∃ q : Nat, q ≤ 32 ∧ i = .int .i64 q ∧ w'.heap[N]? = some (.cells (sumCells (headTo l n q)) 25 (0, 0)) ∧ w'.heap[N + 1]? = some (.cells (List.replicate 32 (Value.int .u8 0)).toArray 25 (0, 0)) ∧ Below N w w') (fun i _ => (32 - intOf i).toNat)
  case atStart => exact ⟨0, by omega, rfl, by rw [headTo_zero]; exact H1.out, H2.out, HB.out⟩
  case round =>
    obtain ⟨q, hq, rfl, h1, h2, hB⟩ := hrel
    have HB := hid hB
    have H2 := hid h2
    clear hB h2
    by_cases hq32 : q < 32
    · have hlt : (q : Int) < 32 := by omega
      have hkq := Hk.out q hq32
      have n1 : IntKind.i64.wrap (8 * (q : Int)) = 8 * (q : Int) := IntWalk.i64_in _ (by omega)
      have n2 : IntKind.i64.wrap ((M : Int) - 8 * (q : Int)) = (M : Int) - 8 * (q : Int) := IntWalk.i64_in _ (by omega)
      by_cases hkp : (M : Int) - 8 * (q : Int) < 8
      · obtain ⟨k, hk, hk8⟩ : ∃ k : Nat, max ((M : Int) - 8 * (q : Int)) 0 = (k : Int) ∧ k < 8 := ⟨(max ((M : Int) - 8 * (q : Int)) 0).toNat, by omega, by omega⟩
        have hkk : keptAt n q = k := by omega
        have hset := headTo_set l n q (by omega)
        have hval : ((headByte l n q).toNat : Int) = ((keepB (l.getD q 0).toNat k : Nat) : Int) := by
          unfold headByte; rw [hkk]
          have h256 := keepB_lt (l.getD q 0).toNat k (l.getD q 0).toNat_lt
          generalize keepB (l.getD q 0).toNat k = y at *
          simp; omega
        rw [hval] at hset
        have c1 : wr.cell? ⟨N, q, none⟩ = some (.int .u8 ((l.getD q 0).toNat : Int)) := by
          rw [cell_of_block h1, sumCells_get _ q (by rw [headTo_length]; omega), headTo_get l n q (by omega)]
        have f1 : wr.frozen? ⟨N, q, none⟩ = false := free_of_block h1 q
        have hkc := keep_and (l.getD q 0) k hk8
        have H1 := hid h1
        generalize l.getD q 0 = c at *
        have Hset := hid hset
        have Hkc := hid hkc
        have hk8' : (k : Int) ≤ 8 := by omega
        clear hset hkc h1 hval hkk hkq
        go_upto_region 7 with fail
        go_still_tail 9, (by kernel_rfl)
        change wpList _ _ _ _ _ wr.drew
        rw [Hkc.out]
        go_wp2_with fail
        refine ⟨⟨q + 1, by omega, by go_num, ?_, ?_, ?_⟩, ?_⟩
        · rw [← Hset.out]; exact heap_set_same (w := wr) H1.out _
        · exact heap_set_other (w := wr) H2.out (by simp) _
        · exact (HB.out.setCell (by show N ≤ N; omega) _).drew
        · simp [intOf]; omega
      · have hkk : keptAt n q = 8 := by omega
        have hsame := headTo_same l n q (by omega) hkk
        have H1 := hid h1
        have Hsame := hid hsame
        clear hsame h1 hkk hkq
        go_wp2_with fail
        refine ⟨⟨q + 1, by omega, by go_num, by rw [Hsame.out]; exact H1.out, H2.out, HB.out⟩, ?_⟩
        simp [intOf]; omega
    · have hlt : ¬ (q : Int) < 32 := by omega
      obtain rfl : q = 32 := by omega
      have H1 := hid h1
      clear h1
      go_upto_region 9 with fail
      rename_i hK9
      have hA : headTo l n 32 = headOf l n := by rw [← hl]; exact headTo_all l n
      have h1 := H1.out
      rw [hA] at h1
      have hs : (sumCells (headOf l n)).size = 32 := by rw [sumCells_size, headOf_length, hl]
      have hone : (sumCells (headOf l n)).all (·.oneCell') = true := by
        refine all_oneCell_toArray fun v hv => ?_
        obtain ⟨c, _, rfl⟩ := List.mem_map.1 hv
        rfl
      have hth := there_of_block H2.out
      rw [show (List.replicate 32 (Value.int .u8 0)).toArray.size = (sumCells (headOf l n)).size from by rw [hs]; rfl] at hth
      generalize hC : sumCells (headOf l n) = C at *
      have hw := heap_setCells_all H2.out C.toList (by rw [Array.length_toList, hs]; rfl)
      rw [Array.toArray_toList] at hw
      have hres : Tryd.f17.results = #[.cell 4 25] := by kernel_rfl
      refine wp_region_lit ?_
      refine wpList_load_row rfl 25 (.tmp 2) rfl N rfl _ _ _ _ h1 Tryd.underlying25 rfl (by rw [hs]; kernel_rfl) ?_
      refine wpList_store_mid rfl 25 (.tmp 4) (.tmp 29) rfl (N + 1) 0 C rfl rfl hth (by rw [hs]; kernel_rfl) hone ?_
      refine wpList_nil ?_
      simp only [Exit.then]
      refine hK9 _ _ ?_
      refine wp_ret ?_
      simp only [Act.put]
      refine bodyPost_ret (P := Tryd.prog) (fn := Tryd.f17) (v := .agg C) ?_ rfl ⟨by rw [hC], by rw [hN]; exact Below.setCells (by omega) _ _ _ HB.out⟩
      refine results_cell_row hres _ _ (N + 1) _ C _ _ ?_ hw Tryd.underlying25 rfl (by rw [hs]; kernel_rfl)
      rw [Array.getD_eq_getD_getElem?, Array.getElem?_setIfInBounds_ne (by decide)]
      rfl
end Go.Proofs.YtmdcalkfapcafaaDoor
