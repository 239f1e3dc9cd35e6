/-
  Law 12: node's Digest, of any kids' sums.
-/
import Derived.Test.YtmdcalkfapcafaaDoorL12a
import Derived.Test.YtmdcalkfapcafaaDoorL01b
import Derived.ChangeKeysEq
namespace Go.Proofs.YtmdcalkfapcafaaDoor
open Go.RowKit

/-- A kid's sum, out of eight. -/
def kid (l : List UInt8) (j : Nat) : List UInt8 := (l.drop (32 * j)).take 32
theorem kid_length {l : List UInt8} (hl : l.length = 256) {j : Nat} (hj : j < 8) : (kid l j).length = 32 := by
  unfold kid; rw [List.length_take, List.length_drop]; omega
def zero32 : List UInt8 := List.replicate 32 0
theorem zero32_length : zero32.length = 32 := by simp [zero32]
def kids (l : List UInt8) (n : Nat) : List (List UInt8) := (List.range n).map (kid l)
theorem kids_succ (l : List UInt8) (n : Nat) : kids l (n + 1) = kids l n ++ [kid l n] := by simp [kids, List.range_succ]
theorem kids_length (l : List UInt8) (n : Nat) : (kids l n).length = n := by simp [kids]
theorem PartsAt.ofOwn {w : World} {base : Nat} {T : TypeId} {g n cap : Nat} {ps : List (List UInt8)} (h : w.ownsRow base T 1 (.slice (some ⟨g, 0, none⟩) n cap) n (ps.map fun l => Value.string (S l))) : PartsAt w g ps ∧ n = ps.length := by
  have hn : n = ps.length := by have := h.1; simpa using this.symm
  refine ⟨⟨(h.lt g rfl).2, fun i hi => ?_⟩, hn⟩
  rw [h.cellAt i (by omega)]
  simp [hi]
theorem kids_flatten (l : List UInt8) (n : Nat) : (kids l n).flatten = l.take (32 * n) := by
  induction n with
  | zero => simp [kids]
  | succ n ih =>
    rw [kids_succ, List.flatten_append, ih]
    simp only [List.flatten_cons, List.flatten_nil, List.append_nil, kid]
    rw [show 32 * (n + 1) = 32 * n + 32 from by omega, List.take_add]

theorem isAggSum (w : World) : (isAgg 25).run Tryd.prog w = .ok true w := by kernel_rfl
theorem sizeSum (w : World) : (sizeOf 25).run Tryd.prog w = .ok 32 w := by kernel_rfl
theorem part_kid (l : List UInt8) (j : Nat) (w : World) : (part 25 (sumCells l) (j * 32)).run Tryd.prog w = .ok (.agg (sumCells (kid l j))) w := by
  unfold part
  simp only [Sem.run_bind, isAggSum, sizeSum, Result.andThen_ok, if_true, Sem.run_pure]
  congr 2
  unfold sumCells
  rw [List.extract_toArray, List.extract_eq_take_drop, Nat.add_sub_cancel_left, Nat.mul_comm]
  simp [byteCells, kid, List.map_drop, List.map_take]
theorem index_kid (l : List UInt8) (n : Nat) (hn : n < 8) (w : World) :
    (Instr.index 36 (.agg (sumCells l)) (.int .i64 n)).run Tryd.prog w = .ok (.agg (sumCells (kid l n))) w := by
  unfold Instr.index
  simp [asIntOf, Sem.run_bind, run_underlying Tryd.underlying36, hn, part_kid]

theorem eq_kids (l m : List UInt8) (hl : l.length = 256) (hm : m.length = 256) (w : World) :
    (Op.equalIn 10000 36 (.agg (sumCells l)) (.agg (sumCells m))).run Tryd.prog w = .ok ((List.range 8).all fun j => kid l j == kid m j) w := by
  cases hq : Tryd.prog.info? 25 with
  | none =>
    have hi : (Tryd.prog.info? 25).isSome = true := by kernel_rfl
    rw [hq] at hi; cases hi
  | some i =>
    have hc : Tryd.prog.cellsOf 25 = 32 := by kernel_rfl
    rw [run_equalIn_array (P := Tryd.prog) w 9999 (sumCells l) (sumCells m) Tryd.underlying36 hq, hc]
    have hr : ∀ j ∈ List.range 8, j < 8 := fun j hj => by simpa using hj
    generalize List.range 8 = is at *
    induction is with
    | nil => simp [Op.eqItems]
    | cons j is ih =>
      have hj : j < 8 := hr j (by simp)
      have he := run_equalIn_bytes (P := Tryd.prog) w 9997 25 5 32 Tryd.underlying25 Tryd.underlying5 (fun w => sizeByte w) (kid l j) (kid m j) (kid_length hl hj) (kid_length hm hj)
      have he' : (Op.equalIn 9999 25 (.agg (sumCells (kid l j))) (.agg (sumCells (kid m j)))).run Tryd.prog w = .ok (kid l j == kid m j) w := he
      simp only [Op.eqItems, Sem.run_bind, part_kid, Result.andThen_ok, he', List.all_cons]
      cases hb : (kid l j == kid m j)
      · simp
      · simp only [Bool.not_true, Bool.false_eq_true, if_false, Bool.true_and]
        exact ih fun j hj => hr j (by simp [hj])

theorem Tryd.infoString : (Tryd.prog.info? 9).map (fun i => (i.zero, i.size, i.bytes)) = some (some (.string ByteArray.empty), 1, 16) := by kernel_rfl
def txtCells (ps : List (List UInt8)) : List Value := ps.map fun l => .string (S l)
def zero256 : List UInt8 := List.replicate 256 0
theorem zero256_length : zero256.length = 256 := List.length_replicate

set_option maxRecDepth 4000 in
set_option maxHeartbeats 1000000 in
theorem digest_pos (level : Int) (l : List UInt8) (hl : l.length = 256) (w : World) (hL : Laid w) (hne : ((List.range 8).all fun j => kid l j == kid zero256 j) = false) :
    Calls Tryd.prog 20 #[.int .i64 level, .agg (sumCells l)] w fun e w' =>
      e = .returned (.agg (sumCells (shaOf (78 :: UInt8.ofNat (level % 256).toNat :: l)))) ∧ Below w.heap.size w w' := by
  obtain ⟨i0, hi, hz0, hz1, hz2⟩ := info_parts Tryd.infoString
  have hq := eq_kids l zero256 hl zero256_length
  rw [hne] at hq
  have HL := hid hL
  clear hL
  obtain ⟨b, hb0, hb2⟩ : ∃ b : UInt8, level % 256 = (b.toNat : Int) ∧ UInt8.ofNat (level % 256).toNat = b := ⟨_, by rw [UInt8.toNat_ofNat']; omega, rfl⟩
  have hb : IntKind.u8.wrap level = (b.toNat : Int) := by rw [IntKind.wrap_u8, hb0]
  rw [hb2]
  clear hb2
  obtain ⟨Y, hY⟩ : ∃ Y, shaOf (78 :: b :: l) = Y := ⟨_, rfl⟩
  have hYl : Y.length = 32 := by rw [← hY]; exact shaOf_length _
  rw [hY]
  have HY := hid hY
  have HYl := hid hYl
  clear hY hYl
  go_enter Tryd.func20, Tryd.ntmps20
  go_upto_region 1 with fail
  rename_i hK1
  change Code.wp _ _ _ _ ((w.alloc (Obj.cells (sumCells l) 36)).alloc (Obj.cells (zeros 32) 25))
  have h1 := two_old w (Obj.cells (sumCells l) 36) (Obj.cells (zeros 32) 25)
  have h2 := two_new w (Obj.cells (sumCells l) 36) (Obj.cells (zeros 32) 25)
  have hB : Below w.heap.size w ((w.alloc (Obj.cells (sumCells l) 36)).alloc (Obj.cells (zeros 32) 25)) := ((Below.refl _ _).alloc (Nat.le_refl _) _).alloc (by simp) _
  generalize (w.alloc (Obj.cells (sumCells l) 36)).alloc (Obj.cells (zeros 32) 25) = w1 at *
  have hsz : (sumCells l).size = 256 := by rw [sumCells_size, hl]
  have hinf : (Tryd.prog.info? 36).map (·.size) = some (sumCells l).size := by rw [hsz]; kernel_rfl
  refine wp_region_lit ?_
  refine wpList_load_row rfl 36 (.tmp 3) rfl w.heap.size rfl _ _ _ _ h1 Tryd.underlying36 rfl hinf ?_
  refine wpList_value rfl (.agg (sumCells zero256)) (by kernel_rfl) ?_
  refine wpList_value rfl (.bool false) ?_ ?_
  · go_simp
  refine wpList_nil ?_
  simp only [Exit.then, Act.put]
  refine hK1 _ _ ?_
  simp only [List.setIfInBounds_toArray, List.set_cons_succ, List.set_cons_zero]
  go_upto_region 3 with fail
  have hcv : (convert 28 9 (.slice (some ⟨w1.heap.size, 0, none⟩) 1 1)).run Tryd.prog (w1.alloc (.cells #[.int .u8 (b.toNat : Int)] 5)) = .ok (.string (S [b])) (w1.alloc (.cells #[.int .u8 (b.toNat : Int)] 5)) := by
    exact run_convert_bytes_back (P := Tryd.prog) _ _ _ 5 ⟨w1.heap.size, 0, none⟩ 1 [b] Tryd.underlying28 Tryd.underlying5 Tryd.underlying9 (by
      intro j hj
      obtain rfl : j = 0 := by simpa using hj
      exact cell_of_block (heap_new _ _) 0)
  go_upto_region 4 with fail
  have hO : ((w1.alloc (Obj.cells #[Value.int .u8 (b.toNat : Int)] 5)).alloc (Obj.cells #[Value.string ⟨#[78]⟩, Value.string (S [b])] 9)).ownsRow w1.heap.size 9 1 (.slice (some ⟨w1.heap.size + 1, 0, none⟩) 2 2) 2 (([78] :: [b] :: kids l 0).map fun l => Value.string (S l)) := by
    have h := World.ownsRow_lit (base := w1.heap.size) (e := 9) (size := 1) (w1.alloc (Obj.cells #[Value.int .u8 (b.toNat : Int)] 5)) #[Value.string ⟨#[78]⟩, Value.string (S [b])] 2 (by simp) (by decide) rfl
    rw [show (w1.alloc (Obj.cells #[Value.int .u8 (b.toNat : Int)] 5)).heap.size = w1.heap.size + 1 from by simp] at h
    exact h
  have hB2 : Below w1.heap.size w1 ((w1.alloc (Obj.cells #[Value.int .u8 (b.toNat : Int)] 5)).alloc (Obj.cells #[Value.string ⟨#[78]⟩, Value.string (S [b])] 9)) := ((Below.refl _ _).alloc (Nat.le_refl _) _).alloc (by simp) _
  generalize (w1.alloc (Obj.cells #[Value.int .u8 (b.toNat : Int)] 5)).alloc (Obj.cells #[Value.string ⟨#[78]⟩, Value.string (S [b])] 9) = w2 at *
  have hw1 : w.heap.size + 2 ≤ w1.heap.size := by have := lt_of_block h2; omega
  have h1' : w2.heap[w.heap.size]? = some (.cells (sumCells l) 36 (0, 0)) := (hB2.block _ (by omega)).trans h1
  generalize w1.heap.size + 1 = pb at *
  have HO := hid hO
  have HB2 := hid hB2
  have HB := hid hB
  have H2 := hid h2
  have Hw1 := hid hw1
  have Hidx := hid (fun n hn w => index_kid l n hn w)
  have Hkl := hid (fun n (hn : n < 8) => kid_length hl hn)
  have Hl := hid hl
  clear hO hB2 hB h1 h2 hw1 hq hne hcv hl hsz
  go_wp2_with (refine wpList_load_row rfl 36 (.tmp 3) rfl w.heap.size rfl _ _ _ _ h1' Tryd.underlying36 rfl hinf ?_)
  go_loopw [5, 18] (fun v i w' => ∃ q : Nat, q ≤ 8 ∧ i = .int .i64 q ∧ w'.ownsRow w1.heap.size 9 1 v (q + 2) (([78] :: [b] :: kids l q).map fun l => Value.string (S l)) ∧ Below w1.heap.size w1 w') (fun _ i _ => (8 - intOf i).toNat)
  case atStart => exact ⟨0, by omega, rfl, HO.out, HB2.out⟩
  case round =>
    obtain ⟨q, hq, rfl, hO, hB⟩ := hrel
    by_cases hq8 : q < 8
    · have hlt : (q : Int) < 8 := by omega
      have hidx := Hidx.out q hq8
      have hkl := Hkl.out q hq8
      have hnx := kids_succ l q
      generalize kid l q = x at *
      have hxs : (sumCells x).size = 32 := by rw [sumCells_size, hkl]
      have hone : (sumCells x).all (·.oneCell') = true := by
        refine all_oneCell_toArray fun v hv => ?_
        obtain ⟨c, _, rfl⟩ := List.mem_map.1 hv
        rfl
      obtain ⟨h3, hb3, hz3⟩ := store_new wr 25 (List.replicate 32 (Value.int .u8 0)).toArray (sumCells x) (by rw [hxs]; rfl)
      have hinf3 : (Tryd.prog.info? 25).map (·.size) = some (sumCells x).size := by rw [hxs]; kernel_rfl
      have hO3 := (Fr.ofBelow hb3 (fun _ => False)).own hO (fun _ _ h => h)
      have HB3 := hid (hB.trans (hb3.mono hB.size))
      have HO3 := hid hO3
      have Hxs := hid hxs
      have Hone := hid hone
      have Hnx := hid hnx
      have Hkx := hid hkl
      have Hlen1 := hid (show q + 2 + 1 ≤ maxLen from by unfold maxLen; omega)
      clear hb3 hO3 hO hB hxs hone hnx hkl hz3
      go_upto_region 7 with (refine wpList_store_mid rfl 25 (.tmp 7) (.tmp 20) rfl wr.heap.size 0 (sumCells x) rfl rfl (there_new wr _ _ _ (by rw [Hxs.out]; rfl)) (by rw [Hxs.out]; kernel_rfl) Hone.out ?_)
      change Code.wp _ _ _ _ ((wr.alloc (.cells (List.replicate 32 (Value.int .u8 0)).toArray 25)).setCells wr.heap.size 0 (sumCells x).toList)
      generalize (wr.alloc (.cells (List.replicate 32 (Value.int .u8 0)).toArray 25)).setCells wr.heap.size 0 (sumCells x).toList = w3 at *
      clear hidx
      go_wp2_with (first
        | (refine wpList_load_row rfl 25 (.tmp 7) rfl wr.heap.size rfl _ _ _ _ h3 Tryd.underlying25 rfl hinf3 ?_)
        | (go_at_call 14; refine (text_any x Hkx.out _).mono ?_; rintro e w4 ⟨rfl, hB4⟩; have HO4 := hid ((Fr.ofBelow hB4 (fun _ => False)).own HO3.out (fun _ _ h => h)); have HB4 := hid (HB3.out.trans (hB4.mono HB3.out.size)); clear hB4)
        | (at_builtin; refine wpList_append_lies _ rfl (.tmp 21) (.tmp 24) 37 rfl w1.heap.size 9 i0 (.string ByteArray.empty) 1 16 Tryd.underlying37 hi hz0 hz1 hz2 rfl (by decide) u5 _ _ (by simp [Act.eval]) (HO4.out.alloc _) ⟨w4.heap.size, 0, none⟩ 1 1 [.string (S x)] (by simp [Act.eval]) rfl (news_one (by simp)) (one_one rfl) (by decide) Hlen1.out (by omega) (by have := HB4.out.size; simp; omega) (w4.heap.size + 1) (by simp) ?_; intro g cap w5 hown5 hgrow5 hg5 hlt5; have HO5 := hid hown5; have HG5 := hid hgrow5; clear hown5 hgrow5 hg5))
      refine ⟨⟨q + 1, by omega, by go_num, ?_, ?_⟩, by simp [intOf]; omega⟩
      · have h := HO5.out
        rw [Hnx.out]
        simpa using h
      · exact ((HB4.out.alloc HB4.out.size _)).grown HG5.out (by have := HB4.out.size; simp; omega) (fun k hk => (HO4.out.lt k hk).1)
    · obtain rfl : q = 8 := by omega
      have hlt : ¬ ((8 : Nat) : Int) < 8 := by omega
      obtain ⟨g, cap, rfl, hg1, hg2⟩ := hO.form (by omega)
      obtain ⟨hP, hpn⟩ := PartsAt.ofOwn hO
      have hfl : ([78] :: [b] :: kids l 8).flatten = 78 :: b :: l := by
        have h := kids_flatten l 8
        rw [List.take_of_length_le (by rw [Hl.out]; decide)] at h
        simp [h]
      have hlen : ([78] :: [b] :: kids l 8).flatten.length ≤ 100000000 := by rw [hfl]; simp [Hl.out]
      have hcall := of_any wr g cap _ hP (HL.out.below (HB.out.trans (hB.mono (by have := Hw1.out; omega))) HL.out.lt) hlen (by simp [kids_length])
      rw [← hpn, hfl, HY.out] at hcall
      have H2' := hid ((hB.block (w.heap.size + 1) (by have := Hw1.out; omega)).trans H2.out)
      have HBB := hid (HB.out.trans (hB.mono (by have := Hw1.out; omega)))
      have Hcall := hid hcall
      clear hcall hP hpn hfl hlen hO hB hg1 hg2
      have hys : (sumCells Y).size = 32 := by rw [sumCells_size, HYl.out]
      have hone : (sumCells Y).all (·.oneCell') = true := by
        refine all_oneCell_toArray fun v hv => ?_
        obtain ⟨c, _, rfl⟩ := List.mem_map.1 hv
        rfl
      have Hys := hid hys
      have Hone := hid hone
      clear hys hone
      go_wp2_with (first
        | (go_at_call 12; refine Hcall.out.mono ?_; rintro e w6 ⟨rfl, hB6⟩; have H6 := hid ((hB6.block (w.heap.size + 1) (lt_of_block H2'.out)).trans H2'.out); have HB6 := hid (HBB.out.trans (hB6.mono HBB.out.size)); clear hB6)
        | (refine wpList_store_mid rfl 25 (.tmp 4) (.tmp 28) rfl (w.heap.size + 1) 0 (sumCells Y) rfl rfl (by have h := there_of_block H6.out; rw [show (zeros 32).size = (sumCells Y).size from by rw [Hys.out]; rfl] at h; exact h) (by rw [Hys.out]; kernel_rfl) Hone.out ?_))
      have hw7 := heap_setCells_all H6.out (sumCells Y).toList (by rw [Array.length_toList, Hys.out]; rfl)
      rw [Array.toArray_toList] at hw7
      have hres : Tryd.f20.results = #[.cell 4 25] := by kernel_rfl
      refine bodyPost_ret (P := Tryd.prog) (fn := Tryd.f20) (v := .agg (sumCells Y)) ?_ rfl ⟨rfl, Below.setCells (by omega) _ _ _ HB6.out⟩
      exact results_cell_row hres _ _ (w.heap.size + 1) _ (sumCells Y) _ _ rfl hw7 Tryd.underlying25 rfl (by rw [Hys.out]; kernel_rfl)
end Go.Proofs.YtmdcalkfapcafaaDoor
