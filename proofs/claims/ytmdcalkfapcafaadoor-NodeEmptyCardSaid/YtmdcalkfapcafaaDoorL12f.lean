/-
  Law 12's NodeDigest: its walk.
-/
import Derived.Test.YtmdcalkfapcafaaDoorL12e
namespace Go.Proofs.YtmdcalkfapcafaaDoor
open Go.RowKit

theorem isAggArr32 (w : World) : (isAgg 24).run Tryd.prog w = .ok true w := by kernel_rfl
theorem sizeArr32 (w : World) : (sizeOf 24).run Tryd.prog w = .ok 32 w := by kernel_rfl
theorem part_kidB (l : List UInt8) (j : Nat) (w : World) : (part 24 (sumCells l) (j * 32)).run Tryd.prog w = .ok (.agg (sumCells (kid l j))) w := by
  unfold part
  simp only [Sem.run_bind, isAggArr32, sizeArr32, Result.andThen_ok, if_true, Sem.run_pure]
  congr 2
  unfold sumCells
  rw [List.extract_toArray, List.extract_eq_take_drop, Nat.add_sub_cancel_left, Nat.mul_comm]
  simp [byteCells, kid, List.map_drop, List.map_take]
theorem index_kidB (l : List UInt8) (n : Nat) (hn : n < 8) (w : World) :
    (Instr.index 35 (.agg (sumCells l)) (.int .i64 n)).run Tryd.prog w = .ok (.agg (sumCells (kid l n))) w := by
  unfold Instr.index
  simp [asIntOf, Sem.run_bind, run_underlying Tryd.underlying35, hn, part_kidB]

/-- The kid's sum, if it is picked. -/
def pk (s : List UInt8) (some : Int) (j : Nat) : List UInt8 := if some / 2 ^ j % 2 = 1 then kid s j else zero32
theorem pk_length {s : List UInt8} (hs : s.length = 256) (some : Int) {j : Nat} (hj : j < 8) : (pk s some j).length = 32 := by
  unfold pk; split
  · exact kid_length hs hj
  · exact zero32_length
def pkTo (s : List UInt8) (some : Int) (q j : Nat) : List UInt8 := if j < q then pk s some j else zero32
theorem pkTo_length {s : List UInt8} (hs : s.length = 256) (some : Int) (q : Nat) {j : Nat} (hj : j < 8) : (pkTo s some q j).length = 32 := by
  unfold pkTo; split
  · exact pk_length hs some hj
  · exact zero32_length

theorem pkTo_succ1 {s : List UInt8} {sm : Int} {q : Nat} (hb : sm / 2 ^ q % 2 = 1) : (fun j => if j = q then kid s q else pkTo s sm q j) = pkTo s sm (q + 1) := by
  funext j
  unfold pkTo pk
  by_cases h : j = q
  · subst h; simp [hb]
  · rw [if_neg h]
    by_cases h2 : j < q
    · rw [if_pos h2, if_pos (by omega : j < q + 1)]
    · rw [if_neg h2, if_neg (by omega : ¬ j < q + 1)]
theorem pkTo_succ0 {s : List UInt8} {sm : Int} {q : Nat} (hb : sm / 2 ^ q % 2 ≠ 1) : pkTo s sm q = pkTo s sm (q + 1) := by
  funext j
  unfold pkTo pk
  by_cases h : j = q
  · subst h; simp [hb]
  · by_cases h2 : j < q
    · rw [if_pos h2, if_pos (by omega : j < q + 1)]
    · rw [if_neg h2, if_neg (by omega : ¬ j < q + 1)]
set_option maxRecDepth 4000 in
set_option maxHeartbeats 4000000 in
theorem nodedigest_any (level : Int) (s : List UInt8) (sm : Int) (hs : s.length = 256) (w : World) (hL : Laid w) :
    Calls Tryd.prog 7 #[.int .i64 level, .agg (sumCells s), .int .i64 sm] w fun e w' => e = .returned (.bool true) ∧ Below w.heap.size w w' := by
  have HL := hid hL
  clear hL
  obtain ⟨i0, hi, hz0, hz1, hz2⟩ := info_parts Tryd.infoString
  obtain ⟨b, hb⟩ : ∃ b : UInt8, bits .and .i64 level 255 = (b.toNat : Int) := ⟨UInt8.ofNat (level % 256).toNat, by rw [i64_and255, UInt8.toNat_ofNat']; omega⟩
  go_enter Tryd.func7, Tryd.ntmps7
  go_upto_region 3 with (refine (awake12 _).mono ?_; rintro e w1 ⟨rfl, hB1⟩; have HB1 := hid hB1; clear hB1)
  have z36 : ∀ w, (zeroValue 36).run Tryd.prog w = .ok (.agg (zeros 256)) w := fun w => by kernel_rfl
  go_upto_region 5 with fail
  clear z36
  have hK0 := Kids8.new w1 36
  have hsz1 : w.heap.size + 1 ≤ w1.heap.size := by have := HB1.out.size; simpa using this
  have hBw : Below w.heap.size w w1 := ((Below.refl w.heap.size w).alloc (Nat.le_refl _) _).trans (HB1.out.mono (by simp))
  have hbx : w1.heap[w.heap.size]? = some (.cells (sumCells s) 35 (0, 0)) := (HB1.out.block _ (by simp)).trans (heap_new _ _)
  generalize hw2 : w1.alloc (.cells (zeros 256) 36) = w2 at *
  have hB2 : Below w1.heap.size w1 w2 := by rw [← hw2]; exact (Below.refl _ _).alloc (Nat.le_refl _) _
  have hs2 : w1.heap.size + 1 = w2.heap.size := by rw [← hw2]; simp
  clear hw2
  have hO := World.ownsRow_lit (base := w2.heap.size) (e := 9) (size := 1) w2 #[] 0 (Nat.le_refl _) (by decide) rfl
  have hK1 := hK0.below ((Below.refl _ w2).alloc (Nat.le_refl _) (Obj.cells #[] 9))
  have hB3 : Below w.heap.size w (w2.alloc (Obj.cells #[] 9)) := (hBw.trans (hB2.mono hBw.size)).alloc (by omega) _
  have hbx3 : (w2.alloc (Obj.cells #[] 9)).heap[w.heap.size]? = some (.cells (sumCells s) 35 (0, 0)) := heap_old ((hB2.block _ (by omega)).trans hbx) _
  have hz3 : (w2.alloc (Obj.cells #[] 9)).heap.size = w1.heap.size + 2 := by simp; omega
  rw [← hs2] at hO
  generalize w2.alloc (Obj.cells #[] 9) = w3 at *
  generalize w1.heap.size = N at *
  have hinf : (Tryd.prog.info? 35).map (·.size) = some (sumCells s).size := by rw [sumCells_size, hs]; kernel_rfl
  have HO := hid hO
  have HK1 := hid hK1
  have HB3 := hid hB3
  have Hz3 := hid hz3
  have Hsz1 := hid hsz1
  have Hidx := hid (fun n hn w => index_kidB s n hn w)
  have Hs := hid hs
  have Hb := hid hb
  clear hO hK1 hB3 hz3 hK0 hB2 hs2 hbx hBw hsz1 HB1 hs hb
  go_wp2_with (refine wpList_load_row rfl 35 (.tmp 4) rfl w.heap.size rfl _ _ _ _ hbx3 Tryd.underlying35 rfl hinf ?_)
  clear hbx3 hinf
  go_loopw [8, 15] (fun v i w' => ∃ q : Nat, q ≤ 8 ∧ i = .int .i64 q ∧ w'.ownsRow (N + 1) 9 1 v q (((List.range q).map (pk s sm)).map fun l => Value.string (S l)) ∧ Kids8 w' N (pkTo s sm q) ∧ Below N w3 w') (fun _ i _ => (8 - intOf i).toNat)
  case atStart =>
    refine ⟨0, by omega, rfl, HO.out, ?_, Below.refl _ _⟩
    have h := HK1.out
    rwa [show pkTo s sm 0 = fun _ => zero32 from by funext j; simp [pkTo]]
  case round =>
    obtain ⟨q, hq, rfl, hO, hK, hF⟩ := hrel
    have hNs : N + 2 ≤ wr.heap.size := by have := hF.size; rw [Hz3.out] at this; exact this
    have HNs := hid hNs
    clear hNs
    by_cases hq8 : q < 8
    · have hlt : (q : Int) < 8 := by omega
      have hidx := Hidx.out q hq8
      have hkl := kid_length Hs.out hq8
      obtain ⟨x, hx⟩ : ∃ x, kid s q = x := ⟨_, rfl⟩
      rw [hx] at hidx hkl
      have Hx := hid hx
      clear hx
      have hxs : (sumCells x).size = 32 := by rw [sumCells_size, hkl]
      have hone : (sumCells x).all (·.oneCell') = true := by
        refine all_oneCell_toArray fun v hv => ?_
        obtain ⟨c, _, rfl⟩ := List.mem_map.1 hv
        rfl
      obtain ⟨h4, hb4, hz4⟩ := store_new wr 24 (List.replicate 32 (Value.int .u8 0)).toArray (sumCells x) (by rw [hxs]; rfl)
      have hinf4 : (Tryd.prog.info? 24).map (·.size) = some (sumCells x).size := by rw [hxs]; kernel_rfl
      have hO4 := (Fr.ofBelow hb4 (fun _ => False)).own hO (fun _ _ h => h)
      have hK4 := hK.below hb4
      have hF4 := hF.trans (hb4.mono (by have := HNs.out; omega))
      have HO4 := hid hO4
      have HK4 := hid hK4
      have HF4 := hid hF4
      have Hxs := hid hxs
      have Hone := hid hone
      have Hkl := hid hkl
      clear hb4 hO4 hK4 hF4 hO hK hF hxs hone hkl
      go_upto_region 8 with (refine wpList_store_mid rfl 24 (.tmp 10) (.tmp 18) rfl wr.heap.size 0 (sumCells x) rfl rfl (there_new wr _ _ _ (by rw [Hxs.out]; rfl)) (by rw [Hxs.out]; kernel_rfl) Hone.out ?_)
      change Code.wp _ _ _ _ ((wr.alloc (.cells (List.replicate 32 (Value.int .u8 0)).toArray 24)).setCells wr.heap.size 0 (sumCells x).toList)
      generalize (wr.alloc (.cells (List.replicate 32 (Value.int .u8 0)).toArray 24)).setCells wr.heap.size 0 (sumCells x).toList = w4 at *
      clear hidx
      by_cases hbit : sm / 2 ^ q % 2 = 1
      · have hbt : bits .and .i64 (sm / 2 ^ q) 1 = 1 := by rw [i64_and1]; exact hbit
        go_upto_region 9 with fail
        clear hbt
        have hth5 : w4.there N (q * 32) (sumCells x).size := fun j hj => by
          have h := HK4.out.there (q * 32 + j) (by rw [Hxs.out] at hj; omega)
          rwa [Nat.zero_add] at h
        have hK5 : Kids8 (w4.setCells N (q * 32) (sumCells x).toList) N (pkTo s sm (q + 1)) := by
          have h := HK4.out.set (fun j hj => pkTo_length Hs.out sm q hj) hq8 x Hkl.out
          rw [← Hx.out, pkTo_succ1 hbit, Hx.out] at h
          rw [Nat.mul_comm]; exact h
        have hF5 : Fr (fun k => k = N) w4 (w4.setCells N (q * 32) (sumCells x).toList) := Fr.setCells (S := fun k => k = N) (fun _ => rfl) _ _ _ (Fr.refl _ _)
        have hO5 := hF5.own HO4.out (fun k hk e => by have := (HO4.out.lt k hk.symm).1; omega)
        have HK5 := hid hK5
        have HF5 : Hid (Below N w3 (w4.setCells N (q * 32) (sumCells x).toList)) := hid (Below.setCells (Nat.le_refl N) _ _ _ HF4.out)
        have HO5 := hid hO5
        have Hth5 := hid hth5
        clear hK5 hF5 hO5 hth5
        go_upto_region 10 with (first
          | (refine wpList_load_row rfl 24 (.tmp 10) rfl wr.heap.size rfl _ _ _ _ h4 Tryd.underlying24 rfl hinf4 ?_)
          | (refine wpList_store_mid rfl 25 (.tmp 26) (.tmp 25) rfl N (q * 32) (sumCells x) rfl rfl Hth5.out (by rw [Hxs.out]; kernel_rfl) Hone.out ?_))
        clear h4 hinf4
        generalize w4.setCells N (q * 32) (sumCells x).toList = w5 at *
        have hr5 : w5.rangeAt N (32 * q) (sumCells x).toList := by
          have h := HK5.out.at' q hq8
          rw [show pkTo s sm (q + 1) q = x from by unfold pkTo pk; rw [if_pos (Nat.lt_succ_self q), if_pos hbit]; exact Hx.out] at h
          exact h
        have hx5 := Hkl.out
        have Hpk := hid (show pk s sm q = x from by unfold pk; rw [if_pos hbit]; exact Hx.out)
        generalize x = x5 at *
        have hxs5 : (sumCells x5).size = 32 := by rw [sumCells_size, hx5]
        have hr5 : w5.rangeAt N (q * 32) (sumCells x5).toList := by rw [Nat.mul_comm]; exact hr5
        have hinf5 : (Tryd.prog.info? 25).map (·.size) = some (sumCells x5).toList.length := by rw [Array.length_toList, hxs5]; kernel_rfl
        have htx := text_any x5 hx5
        have Htx := hid htx
        have Hlen1 := hid (show q + 1 ≤ maxLen from by unfold maxLen; omega)
        have Hlt5 := hid (show N + 2 ≤ w5.heap.size from by have := HF5.out.size; rw [Hz3.out] at this; exact this)
        clear hxs5 htx hx5
        go_wp2_with (first
          | (refine wpList_load_mid rfl 25 (.tmp 29) rfl N (q * 32) rfl (sumCells x5).toList _ hr5 Tryd.underlying25 rfl hinf5 ?_; rw [Array.toArray_toList])
          | (go_at_call 14; refine (Htx.out _).mono ?_; rintro e w6 ⟨rfl, hB6⟩; have HO6 := hid ((Fr.ofBelow hB6 (fun _ => False)).own HO5.out (fun _ _ h => h)); have HK6 := hid (HK5.out.below hB6); have HF6 := hid (HF5.out.trans (hB6.mono (by have := Hlt5.out; omega))); have Hlt6 := hid (Nat.le_trans Hlt5.out hB6.size); clear hB6)
          | (at_builtin; refine wpList_append_lies _ rfl (.tmp 27) (.tmp 32) 37 rfl (N + 1) 9 i0 (.string ByteArray.empty) 1 16 Tryd.underlying37 hi hz0 hz1 hz2 rfl (by decide) u8 _ _ (by simp [Act.eval]) (HO6.out.alloc _) ⟨w6.heap.size, 0, none⟩ 1 1 [.string (S x5)] (by simp [Act.eval]) rfl (news_one (by simp)) (one_one rfl) (by decide) Hlen1.out (by omega) (by have := Hlt6.out; simp; omega) (w6.heap.size + 1) (by simp) ?_; intro g cap w7 hown7 hgrow7 hg7 hlt7; have HO7 := hid hown7; have HG7 := hid hgrow7; clear hown7 hgrow7 hg7))
        have hB7 : Below (N + 1) w6 w7 := ((Below.refl _ w6).alloc (by have := Hlt6.out; omega) _).grown HG7.out (by have := Hlt6.out; simp; omega) (fun k hk => (HO6.out.lt k hk).1)
        refine ⟨⟨q + 1, by omega, by go_num, ?_, HK6.out.block (hB7.block N (by omega)) hB7.size, HF6.out.trans (hB7.mono (by omega))⟩, by simp [intOf]; omega⟩
        have h := HO7.out
        rw [List.range_succ, List.map_append, List.map_append, List.map_singleton, List.map_singleton, Hpk.out]
        exact h
      · have hbt : bits .and .i64 (sm / 2 ^ q) 1 = 0 := by rw [i64_and1]; omega
        go_upto_region 10 with fail
        clear hbt h4 hinf4
        have HK5 := hid (show Kids8 w4 N (pkTo s sm (q + 1)) from by rw [← pkTo_succ0 hbit]; exact HK4.out)
        have HF5 := HF4
        have HO5 := HO4
        generalize w4 = w5 at *
        obtain ⟨x5, hz5⟩ : ∃ x5, zero32 = x5 := ⟨_, rfl⟩
        have hx5 : x5.length = 32 := by rw [← hz5]; exact zero32_length
        have Hpk := hid (show pk s sm q = x5 from by unfold pk; rw [if_neg hbit]; exact hz5)
        have hr5 : w5.rangeAt N (32 * q) (sumCells x5).toList := by
          have h := HK5.out.at' q hq8
          rw [show pkTo s sm (q + 1) q = x5 from by unfold pkTo; rw [if_pos (Nat.lt_succ_self q)]; exact Hpk.out] at h
          exact h
        clear hz5
        have hxs5 : (sumCells x5).size = 32 := by rw [sumCells_size, hx5]
        have hr5 : w5.rangeAt N (q * 32) (sumCells x5).toList := by rw [Nat.mul_comm]; exact hr5
        have hinf5 : (Tryd.prog.info? 25).map (·.size) = some (sumCells x5).toList.length := by rw [Array.length_toList, hxs5]; kernel_rfl
        have htx := text_any x5 hx5
        have Htx := hid htx
        have Hlen1 := hid (show q + 1 ≤ maxLen from by unfold maxLen; omega)
        have Hlt5 := hid (show N + 2 ≤ w5.heap.size from by have := HF5.out.size; rw [Hz3.out] at this; exact this)
        clear hxs5 htx hx5
        go_wp2_with (first
          | (refine wpList_load_mid rfl 25 (.tmp 29) rfl N (q * 32) rfl (sumCells x5).toList _ hr5 Tryd.underlying25 rfl hinf5 ?_; rw [Array.toArray_toList])
          | (go_at_call 14; refine (Htx.out _).mono ?_; rintro e w6 ⟨rfl, hB6⟩; have HO6 := hid ((Fr.ofBelow hB6 (fun _ => False)).own HO5.out (fun _ _ h => h)); have HK6 := hid (HK5.out.below hB6); have HF6 := hid (HF5.out.trans (hB6.mono (by have := Hlt5.out; omega))); have Hlt6 := hid (Nat.le_trans Hlt5.out hB6.size); clear hB6)
          | (at_builtin; refine wpList_append_lies _ rfl (.tmp 27) (.tmp 32) 37 rfl (N + 1) 9 i0 (.string ByteArray.empty) 1 16 Tryd.underlying37 hi hz0 hz1 hz2 rfl (by decide) u8 _ _ (by simp [Act.eval]) (HO6.out.alloc _) ⟨w6.heap.size, 0, none⟩ 1 1 [.string (S x5)] (by simp [Act.eval]) rfl (news_one (by simp)) (one_one rfl) (by decide) Hlen1.out (by omega) (by have := Hlt6.out; simp; omega) (w6.heap.size + 1) (by simp) ?_; intro g cap w7 hown7 hgrow7 hg7 hlt7; have HO7 := hid hown7; have HG7 := hid hgrow7; clear hown7 hgrow7 hg7))
        have hB7 : Below (N + 1) w6 w7 := ((Below.refl _ w6).alloc (by have := Hlt6.out; omega) _).grown HG7.out (by have := Hlt6.out; simp; omega) (fun k hk => (HO6.out.lt k hk).1)
        refine ⟨⟨q + 1, by omega, by go_num, ?_, HK6.out.block (hB7.block N (by omega)) hB7.size, HF6.out.trans (hB7.mono (by omega))⟩, by simp [intOf]; omega⟩
        have h := HO7.out
        rw [List.range_succ, List.map_append, List.map_append, List.map_singleton, List.map_singleton, Hpk.out]
        exact h
    · obtain rfl : q = 8 := by omega
      have hlt : ¬ ((8 : Nat) : Int) < 8 := by omega
      have hfl : ∀ j, j < 8 → (pkTo s sm 8 j).length = 32 := fun j hj => pkTo_length Hs.out sm 8 hj
      have hmap : (List.range 8).map (pk s sm) = (List.range 8).map (pkTo s sm 8) := List.map_congr_left fun j hj => by
        unfold pkTo; rw [if_pos (by simpa using hj)]
      rw [hmap, ← kids_cat8 hfl] at hO
      have hall := hK.all hfl
      have hl := cat8_length hfl
      generalize cat8 (pkTo s sm 8) = l at *
      obtain ⟨g, cap, rfl, hg1, hg2⟩ := hO.form (by omega)
      obtain ⟨hP, hpn⟩ := PartsAt.ofOwn hO
      have hBw : Below w.heap.size w wr := HB3.out.trans (hF.mono (by have := Hsz1.out; omega))
      have hLr := HL.out.below hBw HL.out.lt
      have hinf : (Tryd.prog.info? 36).map (·.size) = some (byteCells l).length := by rw [byteCells_length, hl]; kernel_rfl
      have hdig := digest_any b l hl wr hLr
      have hdl := digOf_length b l
      have hdig2 : (if (kids l 8).all (fun x => x == zero32) then zero32 else shaOf (78 :: b :: (kids l 8).flatten)) = digOf b l := by
        rw [kids_all hl, kids_flatten, List.take_of_length_le (by omega)]
        unfold digOf
        by_cases h : l = zero256
        · simp [h]
        · simp [h]
      have hfl2 : (kids l 8).flatten.length ≤ 1000000 := by rw [kids_flatten, List.length_take]; omega
      have href := fun (w' : World) (hB : Below wr.heap.size wr w') => refdig_any b (kids l 8) g cap 8 w' (hP.below hB) hpn hfl2 (by omega)
      rw [hdig2] at href
      generalize digOf b l = Y at *
      have htx := fun w' => text_any Y hdl w'
      have Htx := hid htx
      have Hdig := hid hdig
      have Href := hid href
      have HBw := hid hBw
      have hb := Hb.out
      clear htx hdig href hBw hLr hP hpn hO hK hF hfl hmap hdig2 hfl2 hdl hl hg1 hg2
      go_wp2_with (first
        | (refine wpList_load_mid rfl 36 (.tmp 7) rfl N 0 rfl (byteCells l) _ hall Tryd.underlying36 rfl hinf ?_)
        | (go_at_call 20; refine Hdig.out.mono ?_; rintro e w6 ⟨rfl, hB6⟩; have HB6 := hid hB6; clear hB6)
        | (go_at_call 14; refine (Htx.out _).mono ?_; rintro e w7 ⟨rfl, hB7⟩; have HB7 := hid (HB6.out.trans (hB7.mono HB6.out.size)); clear hB7)
        | (go_at_call 21; refine (Href.out _ HB7.out).mono ?_; rintro e w8 ⟨rfl, hB8⟩; have HB8 := hid (HB7.out.trans (hB8.mono HB7.out.size)); clear hB8))
      go_ret
      exact ⟨rfl, HBw.out.trans (HB8.out.mono HBw.out.size)⟩

theorem walkNodeDigest (w : World) (level : Int) (s : List UInt8) (sm : Int) (_h : (Lit.int .i64 level).wf = true) (hs : s.length = 256) (_h2 : (Lit.int .i64 sm).wf = true) (hL : Laid w) :
    Calls Tryd.prog 7 #[.int .i64 level, .agg (sumCells s), .int .i64 sm] w fun e w' => e = .returned (.bool true) ∧ Below w.heap.size w w' :=
  nodedigest_any level s sm hs w hL
end Go.Proofs.YtmdcalkfapcafaaDoor
