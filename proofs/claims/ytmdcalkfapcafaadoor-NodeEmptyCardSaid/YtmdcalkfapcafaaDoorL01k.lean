/-
  Law 01's ShaHead: its walk.
-/
import Derived.Test.YtmdcalkfapcafaaDoorL01j
import Derived.Test.YtmdcalkfapcafaaDoorL01c
import Derived.Test.YtmdcalkfapcafaaDoorHeld
import Derived.Deep.RegionHeld3
import Derived.Deep.MidRow
namespace Go.Proofs.YtmdcalkfapcafaaDoor
open Go.RowKit

/-- The first q bytes of s, noughts behind, 32 in all. -/
def pad32 (s : List UInt8) (q : Nat) : List UInt8 := (List.range 32).map fun j => if j < q then s.getD j 0 else 0
theorem pad32_length (s : List UInt8) (q : Nat) : (pad32 s q).length = 32 := by simp [pad32]
theorem pad32_zero (s : List UInt8) : sumCells (pad32 s 0) = (List.replicate 32 (Value.int .u8 0)).toArray := by
  simp only [pad32, Nat.not_lt_zero, if_false]; rfl
theorem pad32_set (s : List UInt8) (q : Nat) : (sumCells (pad32 s q)).setIfInBounds q (.int .u8 ((s.getD q 0).toNat : Int)) = sumCells (pad32 s (q + 1)) := by
  apply Array.ext'
  simp only [sumCells, byteCells, Array.toList_setIfInBounds, List.toList_toArray]
  apply List.ext_getElem (by simp [pad32])
  intro j h1 h2
  rw [List.getElem_set]
  by_cases hj : q = j
  · subst hj; simp [pad32]
  · have h3 : j < q + 1 ↔ j < q := by omega
    simp [pad32, hj, h3]
theorem headOf_256 (l : List UInt8) (hl : l.length = 32) : headOf l 256 = l := by
  apply List.ext_getElem (by rw [headOf_length])
  intro i h1 h2
  have hk : keptAt 256 i = 8 := by unfold keptAt; omega
  simp [headOf, headByte, hk, keepB, List.getD, h2]
theorem headOf_idem (l : List UInt8) (n : Int) : headOf (headOf l n) n = headOf l n := by
  apply List.ext_getElem (by rw [headOf_length])
  intro i h1 h2
  have h3 : i < l.length := by rwa [headOf_length] at h2
  have e1 : (headOf (headOf l n) n)[i] = headByte (headOf l n) n i := by simp [headOf]
  have e2 : (headOf l n)[i] = headByte l n i := by simp [headOf]
  rw [e1, e2]
  unfold headByte
  rw [headOf_get l n i h3]
  unfold headByte
  have h := keepB_lt (l.getD i 0).toNat (keptAt n i) (l.getD i 0).toNat_lt
  have h8 : (UInt8.ofNat (keepB (l.getD i 0).toNat (keptAt n i))).toNat = keepB (l.getD i 0).toNat (keptAt n i) := by
    rw [UInt8.toNat_ofNat']; exact Nat.mod_eq_of_lt h
  rw [h8]
  congr 1
  unfold keepB
  rw [Nat.mul_div_cancel _ (Nat.two_pow_pos _)]

theorem range_below {w w' : World} {b : Nat} {cs : List Value} (h : w.rangeAt b 0 cs) (hb : b < w.heap.size) (hB : Below w.heap.size w w') : w'.rangeAt b 0 cs := fun j v hv =>
  (World.cell?_of_block (a := ⟨b, 0 + j, none⟩) (hB.block b hb)).trans (h j v hv)
/-- A world behind w0, in which two blocks hold the sum x. -/
structure Lw2 (w0 w : World) (N M : Nat) (x : List UInt8) : Prop where
  lw : Lw w0 w
  lt : N < w.heap.size
  lt2 : M < w.heap.size
  a : w.rangeAt N 0 (byteCells x)
  b : w.rangeAt M 0 (byteCells x)
theorem Lw2.trans {w0 w w' : World} {N M : Nat} {x : List UInt8} (h : Lw2 w0 w N M x) (hB : Below w.heap.size w w') : Lw2 w0 w' N M x :=
  ⟨h.lw.trans hB, Nat.lt_of_lt_of_le h.lt hB.size, Nat.lt_of_lt_of_le h.lt2 hB.size, range_below h.a h.lt hB, range_below h.b h.lt2 hB⟩
theorem Lw2.drew {w0 w : World} {N M : Nat} {x : List UInt8} (h : Lw2 w0 w N M x) : Lw2 w0 w.drew N M x := h.trans ((Below.refl _ w).drew)
theorem range_of_block {w : World} {b : Nat} {cs : List Value} {T : TypeId} (h : w.heap[b]? = some (.cells cs.toArray T (0, 0))) : w.rangeAt b 0 cs := fun j v hv => by
  rw [Nat.zero_add, cell_of_block h]; simpa using hv
theorem head_gen {w0 w : World} {N M : Nat} {x : List UInt8} (l : List UInt8) (n : Int) (hl : l.length = 32) (hW : Lw2 w0 w N M x) :
    Calls Tryd.prog 17 #[.agg (byteCells l).toArray, .int .i64 n] w fun e w' => e = .returned (.agg (byteCells (headOf l n)).toArray) ∧ Lw2 w0 w' N M x :=
  (head_any l hl n w).mono fun _ _ h => ⟨h.1, hW.trans h.2⟩
theorem text_gen {w0 w : World} {N M : Nat} {x : List UInt8} (l : List UInt8) (hl : l.length = 32) (hW : Lw2 w0 w N M x) :
    Calls Tryd.prog 14 #[.agg (byteCells l).toArray] w fun e w' => e = .returned (.string (S l)) ∧ Lw2 w0 w' N M x :=
  (text_any l hl w).mono fun _ _ h => ⟨h.1, hW.trans h.2⟩
theorem refhead_gen {w0 w : World} {N M : Nat} {x : List UInt8} (l : List UInt8) (n : Int) (hl : l.length = 32) (hW : Lw2 w0 w N M x) :
    Calls Tryd.prog 18 #[.string (S l), .int .i64 n] w fun e w' => e = .returned (.string (S (headOf l n))) ∧ Lw2 w0 w' N M x :=
  (refhead_any l hl n w).mono fun _ _ h => ⟨h.1, hW.trans h.2⟩
theorem awake_gen {w0 w : World} {N M : Nat} {x : List UInt8} (hW : Lw2 w0 w N M x) : Calls Tryd.prog 11 #[] w fun e w' => e = .returned (.bool true) ∧ Lw2 w0 w' N M x :=
  (awake01 w hW.lw.laid).mono fun _ _ h => ⟨h.1, hW.trans h.2⟩

set_option maxRecDepth 4000 in
set_option maxHeartbeats 4000000 in
theorem shahead_any (s : List UInt8) (n : Int) (w : World) (hL : Laid w) :
    Calls Tryd.prog 6 #[.string (S s), .int .i64 n] w fun e w' => e = .returned (.bool true) ∧ Below w.heap.size w w' := by
  have HL := hid hL
  have hL0 := hL.lt
  have hss := S_size s
  clear hL
  go_enter Tryd.func6, Tryd.ntmps6
  go_wp2_with fail
  have h1 := heap_new w (Obj.cells (sumCells (pad32 s 0)) 25)
  have hB : Below w.heap.size w (w.alloc (Obj.cells (sumCells (pad32 s 0)) 25)) := (Below.refl _ _).alloc (Nat.le_refl _) _
  have hsz : w.heap.size < (w.alloc (Obj.cells (sumCells (pad32 s 0)) 25)).heap.size := by simp
  change Code.wp _ _ _ _ (w.alloc (Obj.cells (List.replicate 32 (Value.int .u8 0)).toArray 25))
  rw [← pad32_zero s]
  generalize w.alloc (Obj.cells (sumCells (pad32 s 0)) 25) = w1 at *
  have H1 := hid h1
  have HB := hid hB
  clear h1 hB
  go_loopw [6] (fun i w' => ∃ q : Nat, q ≤ 32 ∧ i = .int .i64 q ∧ w'.heap[w.heap.size]? = some (.cells (sumCells (pad32 s q)) 25 (0, 0)) ∧ w'.heap.size = w1.heap.size ∧ Below w.heap.size w w') (fun i _ => (32 - intOf i).toNat)
  case atStart => exact ⟨0, by omega, rfl, H1.out, rfl, HB.out⟩
  case round =>
    obtain ⟨q, hq, rfl, h1, hz, hB⟩ := hrel
    have HB := hid hB
    have Hz := hid hz
    clear hB hz
    by_cases hin : q < s.length ∧ q < 32
    · obtain ⟨hq1, hq32⟩ := hin
      have d1 : (q : Int) < (s.length : Int) := by omega
      have d2 : (q : Int) < 32 := by omega
      have hidx := fun w => index_text s q hq1 w
      have hset := pad32_set s q
      have c1 : ∃ u, wr.cell? ⟨w.heap.size, q, none⟩ = some u := ⟨_, (cell_of_block h1 q).trans (Array.getElem?_eq_getElem (by rw [sumCells_size, pad32_length]; exact hq32))⟩
      obtain ⟨u1, c1⟩ := c1
      have f1 := free_of_block h1 q
      have H1 := hid h1
      have Hset := hid hset
      generalize s.getD q 0 = c at *
      clear h1 hset
      go_wp2_with fail
      refine ⟨⟨q + 1, by omega, by go_num, by rw [← Hset.out]; exact heap_set_same H1.out _, by simpa [World.setCell] using Hz.out, HB.out.setCell (Nat.le_refl _) _⟩, ?_⟩
      simp [intOf]; omega
    · have H1 := hid h1
      clear h1
      obtain ⟨X, hX⟩ : ∃ X, pad32 s q = X := ⟨_, rfl⟩
      have hXl : X.length = 32 := by rw [← hX]; exact pad32_length _ _
      rw [hX] at H1
      clear hX
      have hdec : (decide ((q : Int) < (s.length : Int)) && decide ((q : Int) < 32)) = false := by
        by_cases h : q < s.length
        · have h2 : ¬ q < 32 := fun h2 => hin ⟨h, h2⟩
          simp; omega
        · simp; omega
      go_upto_region 6 with fail
      all_goals
        have hsx : (sumCells X).size = 32 := by rw [sumCells_size, hXl]
        have hone : (sumCells X).all (·.oneCell') = true := by
          refine all_oneCell_toArray fun v hv => ?_
          obtain ⟨c, _, rfl⟩ := List.mem_map.1 hv
          rfl
        have hlw : Lw w wr := ⟨HL.out.below HB.out hL0, HB.out⟩
        have hnlt := lt_of_block H1.out
        have hst := store_new wr 25 (List.replicate 32 (Value.int .u8 0)).toArray (sumCells X) (by rw [hsx]; rfl)
        obtain ⟨h2, hb2, hz2⟩ := hst
        have h1' := (hb2.block w.heap.size hnlt).trans H1.out
        have hW2 : Lw2 w ((wr.alloc (.cells (List.replicate 32 (Value.int .u8 0)).toArray 25)).setCells wr.heap.size 0 (sumCells X).toList) w.heap.size wr.heap.size X := ⟨hlw.trans hb2, by omega, by omega, range_of_block h1', range_of_block h2⟩
        have Hsx := hid hsx
        have Hone := hid hone
        have HW2 := hid hW2
        clear hone hlw h2 hb2 hz2 h1' hW2 hdec hsx
        go_upto_region 7 with (first | (refine wpList_load_row rfl 25 (.tmp 5) rfl w.heap.size rfl _ _ _ _ H1.out Tryd.underlying25 rfl (by rw [Hsx.out]; kernel_rfl) ?_) | (refine wpList_store_mid rfl 25 (.tmp 7) (.tmp 23) rfl wr.heap.size 0 (sumCells X) rfl rfl (there_new wr _ _ _ (by rw [Hsx.out]; rfl)) (by rw [Hsx.out]; kernel_rfl) Hone.out ?_))
        change Code.wp _ _ _ _ ((wr.alloc (.cells (List.replicate 32 (Value.int .u8 0)).toArray 25)).setCells wr.heap.size 0 (sumCells X).toList)
        generalize (wr.alloc (.cells (List.replicate 32 (Value.int .u8 0)).toArray 25)).setCells wr.heap.size 0 (sumCells X).toList = w2 at *
        generalize wr.heap.size = M at *
        simp only [Act.put]
        have HWW := HW2
        have hu := Tryd.underlying25
        have hbl : (byteCells X).length = 32 := by rw [byteCells_length, hXl]
        have hinf : (Tryd.prog.info? 25).map (·.size) = some (byteCells X).length := by rw [hbl]; kernel_rfl
        have hYl : (headOf X n).length = 32 := by rw [headOf_length, hXl]
        have heqX := sum_eql X X hXl hXl
        rw [beq_self_eq_true] at heqX
        have heqY := sum_eql (headOf X n) (headOf X n) hYl hYl
        rw [beq_self_eq_true] at heqY
        unfold sumCells at heqX heqY
        have h256 := headOf_256 X hXl
        have hidem := headOf_idem X n
        obtain ⟨Y, hY⟩ : ∃ Y, headOf X n = Y := ⟨_, rfl⟩
        rw [hY] at hYl heqY hidem
        have HY := hid hY
        have H256 := hid h256
        have Hidem := hid hidem
        clear hY h256 hidem H1 Hz HB HL
        generalize w.heap.size = N at *
        refine wp_region_held_drew (S := fun w' => w'.rangeAt N 0 (byteCells X) ∧ w'.rangeAt M 0 (byteCells X)) (by kernel_rfl) ⟨HWW.out.drew.a, HWW.out.drew.b⟩ (fun hHeld => ?_)
        refine wpAnyH_ready (rs := [0]) (by kernel_rfl) (by simp) ?_
        refine cons_held rfl (fun K hK => ?_) AllReadyH.nil
        go_simp
        refine (awake_gen HWW.out.drew).mono ?_
        rintro e w4 ⟨rfl, hW⟩
        have HWW := hid hW
        clear hW
        refine hK.out _ _ ?_ (fun hHeld => ?_)
        · first | exact ⟨HWW.out.a, HWW.out.b⟩
        clear hK K
        try simp only [Act.put, List.setIfInBounds_toArray, List.set_cons_zero, List.set_cons_succ]
        refine take_held (i := 1) (v := ?_) rfl (by kernel_rfl) (by kernel_rfl) (by kernel_rfl) (fun _ _ _ h => h) (Or.inl ⟨by rfl, ?_⟩) (by assumption) ?_
        rotate_left
        · (intro w hSw; (try dsimp only at hSw); go_simp; try (with_reducible rfl))
        try simp only [Act.put, List.setIfInBounds_toArray, List.set_cons_zero, List.set_cons_succ]
        refine take_held (i := 2) (v := .agg (byteCells X).toArray) rfl (by kernel_rfl) (by kernel_rfl) (by kernel_rfl) (fun _ _ _ h => h) (yieldsIf_load_mid (by rfl) _ _ rfl _ _ rfl (byteCells X) _ (fun w h => h.1) hu rfl hinf) (by assumption) ?_
        try simp only [Act.put, List.setIfInBounds_toArray, List.set_cons_zero, List.set_cons_succ]
        refine take_held (i := 3) (v := ?_) rfl (by kernel_rfl) (by kernel_rfl) (by kernel_rfl) (fun _ _ _ h => h) (Or.inl ⟨by rfl, ?_⟩) (by assumption) ?_
        rotate_left
        · (intro w hSw; (try dsimp only at hSw); go_simp; try (with_reducible rfl))
        try simp only [Act.put, List.setIfInBounds_toArray, List.set_cons_zero, List.set_cons_succ]
        refine take_held (i := 6) (v := .agg (byteCells X).toArray) rfl (by kernel_rfl) (by kernel_rfl) (by kernel_rfl) (fun _ _ _ h => h) (yieldsIf_load_mid (by rfl) _ _ rfl _ _ rfl (byteCells X) _ (fun w h => h.1) hu rfl hinf) (by assumption) ?_
        try simp only [Act.put, List.setIfInBounds_toArray, List.set_cons_zero, List.set_cons_succ]
        refine take_held (i := 8) (v := ?_) rfl (by kernel_rfl) (by kernel_rfl) (by kernel_rfl) (fun _ _ _ h => h) (Or.inl ⟨by rfl, ?_⟩) (by assumption) ?_
        rotate_left
        · (intro w hSw; (try dsimp only at hSw); go_simp; try (with_reducible rfl))
        try simp only [Act.put, List.setIfInBounds_toArray, List.set_cons_zero, List.set_cons_succ]
        refine wpAnyH_ready (rs := [4]) (by kernel_rfl) (by simp) ?_
        refine cons_held rfl (fun K hK => ?_) AllReadyH.nil
        go_simp
        refine (head_gen _ _ (by first | exact hXl | exact hYl) HWW.out).mono ?_
        rintro e w4 ⟨rfl, hW⟩
        have HWW := hid hW
        clear hW
        first | rw [HY.out] | rw [H256.out] | rw [Hidem.out]
        refine hK.out _ _ ?_ (fun hHeld => ?_)
        · first | exact ⟨HWW.out.a, HWW.out.b⟩
        clear hK K
        try simp only [Act.put, List.setIfInBounds_toArray, List.set_cons_zero, List.set_cons_succ]
        refine wpAnyH_ready (rs := [5]) (by kernel_rfl) (by simp) ?_
        refine cons_held rfl (fun K hK => ?_) AllReadyH.nil
        go_simp
        refine (text_gen _ (by first | exact hXl | exact hYl) HWW.out).mono ?_
        rintro e w4 ⟨rfl, hW⟩
        have HWW := hid hW
        clear hW
        refine hK.out _ _ ?_ (fun hHeld => ?_)
        · first | exact ⟨HWW.out.a, HWW.out.b⟩
        clear hK K
        try simp only [Act.put, List.setIfInBounds_toArray, List.set_cons_zero, List.set_cons_succ]
        refine wpAnyH_ready (rs := [7]) (by kernel_rfl) (by simp) ?_
        refine cons_held rfl (fun K hK => ?_) AllReadyH.nil
        go_simp
        refine (text_gen _ (by first | exact hXl | exact hYl) HWW.out).mono ?_
        rintro e w4 ⟨rfl, hW⟩
        have HWW := hid hW
        clear hW
        refine hK.out _ _ ?_ (fun hHeld => ?_)
        · first | exact ⟨HWW.out.a, HWW.out.b⟩
        clear hK K
        try simp only [Act.put, List.setIfInBounds_toArray, List.set_cons_zero, List.set_cons_succ]
        refine wpAnyH_ready (rs := [9]) (by kernel_rfl) (by simp) ?_
        refine cons_held rfl (fun K hK => ?_) AllReadyH.nil
        go_simp
        refine (refhead_gen _ _ hXl HWW.out).mono ?_
        rintro e w4 ⟨rfl, hW⟩
        have HWW := hid hW
        clear hW
        rw [HY.out]
        refine hK.out _ _ ?_ (fun hHeld => ?_)
        · first | exact ⟨HWW.out.a, HWW.out.b⟩
        clear hK K
        try simp only [Act.put, List.setIfInBounds_toArray, List.set_cons_zero, List.set_cons_succ]
        refine take_held (i := 10) (v := ?_) rfl (by kernel_rfl) (by kernel_rfl) (by kernel_rfl) (fun _ _ _ h => h) (Or.inl ⟨by rfl, ?_⟩) (by assumption) ?_
        rotate_left
        · (intro w hSw; (try dsimp only at hSw); go_simp; try (with_reducible rfl))
        try simp only [Act.put, List.setIfInBounds_toArray, List.set_cons_zero, List.set_cons_succ]
        refine take_held (i := 11) (v := ?_) rfl (by kernel_rfl) (by kernel_rfl) (by kernel_rfl) (fun _ _ _ h => h) (Or.inl ⟨by rfl, ?_⟩) (by assumption) ?_
        rotate_left
        · (intro w hSw; (try dsimp only at hSw); go_simp; try (with_reducible rfl))
        try simp only [Act.put, List.setIfInBounds_toArray, List.set_cons_zero, List.set_cons_succ]
        refine take_held (i := 12) (v := ?_) rfl (by kernel_rfl) (by kernel_rfl) (by kernel_rfl) (fun _ _ _ h => h) (Or.inl ⟨by rfl, ?_⟩) (by assumption) ?_
        rotate_left
        · (intro w hSw; (try dsimp only at hSw); go_simp; try (with_reducible rfl))
        try simp only [Act.put, List.setIfInBounds_toArray, List.set_cons_zero, List.set_cons_succ]
        refine take_held (i := 13) (v := .agg (byteCells X).toArray) rfl (by kernel_rfl) (by kernel_rfl) (by kernel_rfl) (fun _ _ _ h => h) (yieldsIf_load_mid (by rfl) _ _ rfl _ _ rfl (byteCells X) _ (fun w h => h.1) hu rfl hinf) (by assumption) ?_
        try simp only [Act.put, List.setIfInBounds_toArray, List.set_cons_zero, List.set_cons_succ]
        refine take_held (i := 14) (v := .agg (byteCells X).toArray) rfl (by kernel_rfl) (by kernel_rfl) (by kernel_rfl) (fun _ _ _ h => h) (yieldsIf_load_mid (by rfl) _ _ rfl _ _ rfl (byteCells X) _ (fun w h => h.2) hu rfl hinf) (by assumption) ?_
        try simp only [Act.put, List.setIfInBounds_toArray, List.set_cons_zero, List.set_cons_succ]
        refine take_held (i := 15) (v := ?_) rfl (by kernel_rfl) (by kernel_rfl) (by kernel_rfl) (fun _ _ _ h => h) (Or.inl ⟨by rfl, ?_⟩) (by assumption) ?_
        rotate_left
        · (intro w hSw; (try dsimp only at hSw); go_simp; try (with_reducible rfl))
        try simp only [Act.put, List.setIfInBounds_toArray, List.set_cons_zero, List.set_cons_succ]
        refine take_held (i := 16) (v := ?_) rfl (by kernel_rfl) (by kernel_rfl) (by kernel_rfl) (fun _ _ _ h => h) (Or.inl ⟨by rfl, ?_⟩) (by assumption) ?_
        rotate_left
        · (intro w hSw; (try dsimp only at hSw); go_simp; try (with_reducible rfl))
        try simp only [Act.put, List.setIfInBounds_toArray, List.set_cons_zero, List.set_cons_succ]
        refine take_held (i := 17) (v := ?_) rfl (by kernel_rfl) (by kernel_rfl) (by kernel_rfl) (fun _ _ _ h => h) (Or.inl ⟨by rfl, ?_⟩) (by assumption) ?_
        rotate_left
        · (intro w hSw; (try dsimp only at hSw); go_simp; try (with_reducible rfl))
        try simp only [Act.put, List.setIfInBounds_toArray, List.set_cons_zero, List.set_cons_succ]
        refine take_held (i := 18) (v := .agg (byteCells X).toArray) rfl (by kernel_rfl) (by kernel_rfl) (by kernel_rfl) (fun _ _ _ h => h) (yieldsIf_load_mid (by rfl) _ _ rfl _ _ rfl (byteCells X) _ (fun w h => h.1) hu rfl hinf) (by assumption) ?_
        try simp only [Act.put, List.setIfInBounds_toArray, List.set_cons_zero, List.set_cons_succ]
        refine take_held (i := 20) (v := .agg (byteCells X).toArray) rfl (by kernel_rfl) (by kernel_rfl) (by kernel_rfl) (fun _ _ _ h => h) (yieldsIf_load_mid (by rfl) _ _ rfl _ _ rfl (byteCells X) _ (fun w h => h.1) hu rfl hinf) (by assumption) ?_
        try simp only [Act.put, List.setIfInBounds_toArray, List.set_cons_zero, List.set_cons_succ]
        refine wpAnyH_ready (rs := [19]) (by kernel_rfl) (by simp) ?_
        refine cons_held rfl (fun K hK => ?_) AllReadyH.nil
        go_simp
        refine (head_gen _ _ (by first | exact hXl | exact hYl) HWW.out).mono ?_
        rintro e w4 ⟨rfl, hW⟩
        have HWW := hid hW
        clear hW
        first | rw [HY.out] | rw [H256.out] | rw [Hidem.out]
        refine hK.out _ _ ?_ (fun hHeld => ?_)
        · first | exact ⟨HWW.out.a, HWW.out.b⟩
        clear hK K
        try simp only [Act.put, List.setIfInBounds_toArray, List.set_cons_zero, List.set_cons_succ]
        refine take_held (i := 21) (v := ?_) rfl (by kernel_rfl) (by kernel_rfl) (by kernel_rfl) (fun _ _ _ h => h) (Or.inl ⟨by rfl, ?_⟩) (by assumption) ?_
        rotate_left
        · (intro w hSw; (try dsimp only at hSw); go_simp; try (with_reducible rfl))
        try simp only [Act.put, List.setIfInBounds_toArray, List.set_cons_zero, List.set_cons_succ]
        refine take_held (i := 22) (v := ?_) rfl (by kernel_rfl) (by kernel_rfl) (by kernel_rfl) (fun _ _ _ h => h) (Or.inl ⟨by rfl, ?_⟩) (by assumption) ?_
        rotate_left
        · (intro w hSw; (try dsimp only at hSw); go_simp; try (with_reducible rfl))
        try simp only [Act.put, List.setIfInBounds_toArray, List.set_cons_zero, List.set_cons_succ]
        refine take_held (i := 23) (v := ?_) rfl (by kernel_rfl) (by kernel_rfl) (by kernel_rfl) (fun _ _ _ h => h) (Or.inl ⟨by rfl, ?_⟩) (by assumption) ?_
        rotate_left
        · (intro w hSw; (try dsimp only at hSw); go_simp; try (with_reducible rfl))
        try simp only [Act.put, List.setIfInBounds_toArray, List.set_cons_zero, List.set_cons_succ]
        refine take_held (i := 24) (v := .agg (byteCells X).toArray) rfl (by kernel_rfl) (by kernel_rfl) (by kernel_rfl) (fun _ _ _ h => h) (yieldsIf_load_mid (by rfl) _ _ rfl _ _ rfl (byteCells X) _ (fun w h => h.1) hu rfl hinf) (by assumption) ?_
        try simp only [Act.put, List.setIfInBounds_toArray, List.set_cons_zero, List.set_cons_succ]
        refine take_held (i := 25) (v := ?_) rfl (by kernel_rfl) (by kernel_rfl) (by kernel_rfl) (fun _ _ _ h => h) (Or.inl ⟨by rfl, ?_⟩) (by assumption) ?_
        rotate_left
        · (intro w hSw; (try dsimp only at hSw); go_simp; try (with_reducible rfl))
        try simp only [Act.put, List.setIfInBounds_toArray, List.set_cons_zero, List.set_cons_succ]
        refine take_held (i := 27) (v := ?_) rfl (by kernel_rfl) (by kernel_rfl) (by kernel_rfl) (fun _ _ _ h => h) (Or.inl ⟨by rfl, ?_⟩) (by assumption) ?_
        rotate_left
        · (intro w hSw; (try dsimp only at hSw); go_simp; try (with_reducible rfl))
        try simp only [Act.put, List.setIfInBounds_toArray, List.set_cons_zero, List.set_cons_succ]
        refine take_held (i := 29) (v := .agg (byteCells X).toArray) rfl (by kernel_rfl) (by kernel_rfl) (by kernel_rfl) (fun _ _ _ h => h) (yieldsIf_load_mid (by rfl) _ _ rfl _ _ rfl (byteCells X) _ (fun w h => h.1) hu rfl hinf) (by assumption) ?_
        try simp only [Act.put, List.setIfInBounds_toArray, List.set_cons_zero, List.set_cons_succ]
        refine take_held (i := 30) (v := ?_) rfl (by kernel_rfl) (by kernel_rfl) (by kernel_rfl) (fun _ _ _ h => h) (Or.inl ⟨by rfl, ?_⟩) (by assumption) ?_
        rotate_left
        · (intro w hSw; (try dsimp only at hSw); go_simp; try (with_reducible rfl))
        try simp only [Act.put, List.setIfInBounds_toArray, List.set_cons_zero, List.set_cons_succ]
        refine wpAnyH_ready (rs := [26]) (by kernel_rfl) (by simp) ?_
        refine cons_held rfl (fun K hK => ?_) AllReadyH.nil
        go_simp
        refine (head_gen _ _ (by first | exact hXl | exact hYl) HWW.out).mono ?_
        rintro e w4 ⟨rfl, hW⟩
        have HWW := hid hW
        clear hW
        first | rw [HY.out] | rw [H256.out] | rw [Hidem.out]
        refine hK.out _ _ ?_ (fun hHeld => ?_)
        · first | exact ⟨HWW.out.a, HWW.out.b⟩
        clear hK K
        try simp only [Act.put, List.setIfInBounds_toArray, List.set_cons_zero, List.set_cons_succ]
        refine wpAnyH_ready (rs := [28]) (by kernel_rfl) (by simp) ?_
        refine cons_held rfl (fun K hK => ?_) AllReadyH.nil
        go_simp
        refine (head_gen _ _ (by first | exact hXl | exact hYl) HWW.out).mono ?_
        rintro e w4 ⟨rfl, hW⟩
        have HWW := hid hW
        clear hW
        first | rw [HY.out] | rw [H256.out] | rw [Hidem.out]
        refine hK.out _ _ ?_ (fun hHeld => ?_)
        · first | exact ⟨HWW.out.a, HWW.out.b⟩
        clear hK K
        try simp only [Act.put, List.setIfInBounds_toArray, List.set_cons_zero, List.set_cons_succ]
        refine wpAnyH_ready (rs := [31]) (by kernel_rfl) (by simp) ?_
        refine cons_held rfl (fun K hK => ?_) AllReadyH.nil
        go_simp
        refine (head_gen _ _ (by first | exact hXl | exact hYl) HWW.out).mono ?_
        rintro e w4 ⟨rfl, hW⟩
        have HWW := hid hW
        clear hW
        first | rw [HY.out] | rw [H256.out] | rw [Hidem.out]
        refine hK.out _ _ ?_ (fun hHeld => ?_)
        · first | exact ⟨HWW.out.a, HWW.out.b⟩
        clear hK K
        try simp only [Act.put, List.setIfInBounds_toArray, List.set_cons_zero, List.set_cons_succ]
        refine take_held (i := 32) (v := ?_) rfl (by kernel_rfl) (by kernel_rfl) (by kernel_rfl) (fun _ _ _ h => h) (Or.inl ⟨by rfl, ?_⟩) (by assumption) ?_
        rotate_left
        · (intro w hSw; (try dsimp only at hSw); go_simp; try (with_reducible rfl))
        try simp only [Act.put, List.setIfInBounds_toArray, List.set_cons_zero, List.set_cons_succ]
        refine take_held (i := 33) (v := ?_) rfl (by kernel_rfl) (by kernel_rfl) (by kernel_rfl) (fun _ _ _ h => h) (Or.inl ⟨by rfl, ?_⟩) (by assumption) ?_
        rotate_left
        · (intro w hSw; (try dsimp only at hSw); go_simp; try (with_reducible rfl))
        try simp only [Act.put, List.setIfInBounds_toArray, List.set_cons_zero, List.set_cons_succ]
        refine take_held (i := 34) (v := ?_) rfl (by kernel_rfl) (by kernel_rfl) (by kernel_rfl) (fun _ _ _ h => h) (Or.inl ⟨by rfl, ?_⟩) (by assumption) ?_
        rotate_left
        · (intro w hSw; (try dsimp only at hSw); go_simp; try (with_reducible rfl))
        try simp only [Act.put, List.setIfInBounds_toArray, List.set_cons_zero, List.set_cons_succ]
        refine wpAnyH_done (by kernel_rfl) ?_ _
        go_wp2
        go_ret
        exact ⟨rfl, HWW.out.lw.below⟩

theorem walkShaHead (w : World) (s : ByteArray) (n : Int) (_hs : s.size ≤ 140737488351232) (_hn : (Lit.int .i64 n).wf = true) (hL : Laid w) :
    Calls Tryd.prog 6 #[.string s, .int .i64 n] w fun e w' => e = .returned (.bool true) ∧ Below w.heap.size w w' := by
  rw [← S_of s]
  exact shahead_any _ n w hL
end Go.Proofs.YtmdcalkfapcafaaDoor
