/-
  Law 12: NodeEmpty.
-/
import Derived.Test.YtmdcalkfapcafaaDoorL12g
import Derived.Laws.MakeOwn
namespace Go.Proofs.YtmdcalkfapcafaaDoor
open Go.RowKit

theorem i64_and7 (n : Int) : bits .and .i64 n 7 = n % 8 := by
  have h : (BitVec.ofInt 64 n &&& 7#64).toNat = (n % 8).toNat := by
    rw [BitVec.toNat_and, show (7#64).toNat = 2 ^ 3 - 1 from rfl, Nat.and_two_pow_sub_one_eq_mod, BitVec.toNat_ofInt]
    omega
  show IntKind.i64.wrap ((BitVec.ofInt 64 n &&& BitVec.ofInt 64 7).toNat : Int) = _
  rw [show BitVec.ofInt 64 7 = 7#64 from rfl, h, IntKind.wrap_i64]
  omega
set_option maxRecDepth 100000 in
theorem build_lit (b : Int) (c0 c1 c2 c3 c4 c5 c6 c7 c8 c9 c10 c11 c12 c13 c14 c15 c16 c17 c18 c19 c20 c21 c22 c23 c24 c25 c26 c27 c28 c29 c30 c31 : Value) : Array.foldl (fun (cs : Array Value) (x : Value × Nat) => cs.setIfInBounds (9 + x.snd) x.fst) #[.int .i64 b, .int .i64 0, .int .i64 0, .int .i64 0, .int .i64 0, .int .i64 0, .int .i64 0, .int .i64 0, .int .i64 0, .int .u8 0, .int .u8 0, .int .u8 0, .int .u8 0, .int .u8 0, .int .u8 0, .int .u8 0, .int .u8 0, .int .u8 0, .int .u8 0, .int .u8 0, .int .u8 0, .int .u8 0, .int .u8 0, .int .u8 0, .int .u8 0, .int .u8 0, .int .u8 0, .int .u8 0, .int .u8 0, .int .u8 0, .int .u8 0, .int .u8 0, .int .u8 0, .int .u8 0, .int .u8 0, .int .u8 0, .int .u8 0, .int .u8 0, .int .u8 0, .int .u8 0, .int .u8 0] (#[c0, c1, c2, c3, c4, c5, c6, c7, c8, c9, c10, c11, c12, c13, c14, c15, c16, c17, c18, c19, c20, c21, c22, c23, c24, c25, c26, c27, c28, c29, c30, c31] : Array Value).zipIdx 0 32 = #[.int .i64 b, .int .i64 0, .int .i64 0, .int .i64 0, .int .i64 0, .int .i64 0, .int .i64 0, .int .i64 0, .int .i64 0, c0, c1, c2, c3, c4, c5, c6, c7, c8, c9, c10, c11, c12, c13, c14, c15, c16, c17, c18, c19, c20, c21, c22, c23, c24, c25, c26, c27, c28, c29, c30, c31] := by kernel_rfl
set_option maxRecDepth 100000 in
set_option maxHeartbeats 1000000 in
theorem build_node (b : Int) (s : List UInt8) (hs : s.length = 32) : Array.foldl (fun (cs : Array Value) (x : Value × Nat) => cs.setIfInBounds (9 + x.snd) x.fst) #[.int .i64 b, .int .i64 0, .int .i64 0, .int .i64 0, .int .i64 0, .int .i64 0, .int .i64 0, .int .i64 0, .int .i64 0, .int .u8 0, .int .u8 0, .int .u8 0, .int .u8 0, .int .u8 0, .int .u8 0, .int .u8 0, .int .u8 0, .int .u8 0, .int .u8 0, .int .u8 0, .int .u8 0, .int .u8 0, .int .u8 0, .int .u8 0, .int .u8 0, .int .u8 0, .int .u8 0, .int .u8 0, .int .u8 0, .int .u8 0, .int .u8 0, .int .u8 0, .int .u8 0, .int .u8 0, .int .u8 0, .int .u8 0, .int .u8 0, .int .u8 0, .int .u8 0, .int .u8 0, .int .u8 0] (sumCells s).zipIdx 0 32 = (nodeC b (List.replicate 8 0) s).toArray := by
  match s, hs with
  | [c0, c1, c2, c3, c4, c5, c6, c7, c8, c9, c10, c11, c12, c13, c14, c15, c16, c17, c18, c19, c20, c21, c22, c23, c24, c25, c26, c27, c28, c29, c30, c31], _ =>
    have h := build_lit b (.int .u8 (c0.toNat : Int)) (.int .u8 (c1.toNat : Int)) (.int .u8 (c2.toNat : Int)) (.int .u8 (c3.toNat : Int)) (.int .u8 (c4.toNat : Int)) (.int .u8 (c5.toNat : Int)) (.int .u8 (c6.toNat : Int)) (.int .u8 (c7.toNat : Int)) (.int .u8 (c8.toNat : Int)) (.int .u8 (c9.toNat : Int)) (.int .u8 (c10.toNat : Int)) (.int .u8 (c11.toNat : Int)) (.int .u8 (c12.toNat : Int)) (.int .u8 (c13.toNat : Int)) (.int .u8 (c14.toNat : Int)) (.int .u8 (c15.toNat : Int)) (.int .u8 (c16.toNat : Int)) (.int .u8 (c17.toNat : Int)) (.int .u8 (c18.toNat : Int)) (.int .u8 (c19.toNat : Int)) (.int .u8 (c20.toNat : Int)) (.int .u8 (c21.toNat : Int)) (.int .u8 (c22.toNat : Int)) (.int .u8 (c23.toNat : Int)) (.int .u8 (c24.toNat : Int)) (.int .u8 (c25.toNat : Int)) (.int .u8 (c26.toNat : Int)) (.int .u8 (c27.toNat : Int)) (.int .u8 (c28.toNat : Int)) (.int .u8 (c29.toNat : Int)) (.int .u8 (c30.toNat : Int)) (.int .u8 (c31.toNat : Int))
    exact h
theorem nodeC_set (b : Int) (ks : List Int) (s : List UInt8) (a : Nat) (k : Int) (ha : a < ks.length) : (nodeC b ks s).toArray.setIfInBounds (1 + a) (.int .i64 k) = (nodeC b (ks.set a k) s).toArray := by
  simp only [List.setIfInBounds_toArray, nodeC, Nat.add_comm 1 a, List.set_cons_succ]
  rw [List.set_append_left _ _ (by simpa [ints8] using ha)]
  simp [ints8, List.map_set]
theorem set8 (a : Nat) (k : Int) (ha : a < 8) : ((List.replicate 8 (0 : Int)).set a k == List.replicate 8 0) = decide (k = 0) := by
  have h : a = 0 ∨ a = 1 ∨ a = 2 ∨ a = 3 ∨ a = 4 ∨ a = 5 ∨ a = 6 ∨ a = 7 := by omega
  rcases h with rfl | rfl | rfl | rfl | rfl | rfl | rfl | rfl <;> by_cases hk : k = 0 <;> simp [hk, List.replicate]

/-- More may be held from here on. -/
theorem wpAnyH_more {P : Program} {md : Region.Mode} {ops : Array Oper} {Q : Exit → Act → World → Prop} {S S' : World → Prop} (hss : ∀ w, S' w → S w) : ∀ (fuel : Nat) (listed : Array Bool) (a : Act) (w : World), wpAnyH P md ops Q S' fuel listed a w → wpAnyH P md ops Q S fuel listed a w
  | 0, _, _, _, h => h
  | n + 1, _, _, _, h => ⟨h.1, fun i hi => wpOp_mono (fun _ _ h' => ⟨hss _ h'.1, wpAnyH_more hss n _ _ _ h'.2⟩) (h.2 i hi)⟩
def After (w7 w' : World) : Prop := Below w7.heap.size w7 w'
theorem After.step {w7 w w' : World} (h : After w7 w) (hB : Below w.heap.size w w') : After w7 w' := Below.trans h (hB.mono h.size)
theorem arr_eql (l m : List UInt8) (hl : l.length = 32) (hm : m.length = 32) (w : World) : (Op.equalIn 10000 24 (.agg (byteCells l).toArray) (.agg (byteCells m).toArray)).run Tryd.prog w = .ok (l == m) w :=
  run_equalIn_bytes (P := Tryd.prog) w 9998 24 5 32 Tryd.underlying24 Tryd.underlying5 (fun w => sizeByte w) l m hl hm
theorem kid_range {w : World} {L : Nat} {l : List UInt8} (h : w.rangeAt L 0 (byteCells l)) (j : Nat) : w.rangeAt L (32 * j) (byteCells (kid l j)) := fun i v hv => by
  have hi := (List.getElem?_eq_some_iff.1 hv).1
  have h1 := h (32 * j + i) v (by
    rw [← hv]
    unfold byteCells kid
    unfold byteCells kid at hi
    rw [List.length_map, List.length_take] at hi
    rw [List.getElem?_map, List.getElem?_map, List.getElem?_take, if_pos (by omega), List.getElem?_drop])
  rwa [Nat.zero_add] at h1
theorem parts_8 {w : World} {G : Nat} {x0 x1 x2 x3 x4 x5 x6 x7 : List UInt8} {T : TypeId} (h : w.heap[G]? = some (.cells #[.string (S x0), .string (S x1), .string (S x2), .string (S x3), .string (S x4), .string (S x5), .string (S x6), .string (S x7)] T (0, 0))) : PartsAt w G [x0, x1, x2, x3, x4, x5, x6, x7] := by
  refine ⟨lt_of_block h, fun i hi => ?_⟩
  rw [cell_of_block h]
  have h8 : i = 0 ∨ i = 1 ∨ i = 2 ∨ i = 3 ∨ i = 4 ∨ i = 5 ∨ i = 6 ∨ i = 7 := by simp at hi; omega
  rcases h8 with rfl | rfl | rfl | rfl | rfl | rfl | rfl | rfl <;> rfl
theorem Tryd.infoU8 : (Tryd.prog.info? 5).map (fun i => (i.zero, i.size, i.bytes)) = some (some (.int .u8 0), 1, 1) := by kernel_rfl
theorem madeZ : madeCells (Value.int .u8 0).cells 32 = zeros 32 := by kernel_rfl
theorem make_z (w : World) : (Instr.makeSlice 28 (.int .i64 32) (.int .i64 32)).run Tryd.prog w = .ok (.slice (some ⟨w.heap.size, 0, none⟩) 32 32) (w.alloc (.cells (zeros 32) 5)) := by
  obtain ⟨i, hi, hz0, hz1, hz2⟩ := info_parts Tryd.infoU8
  have h := run_make (P := Tryd.prog) w 28 5 i _ Tryd.underlying28 hi hz0 .i64 .i64 32 32 (by decide) (by decide) (by rw [hz2]; decide) (by decide)
  rw [hz1] at h
  rw [h, ← madeZ]
  rfl
theorem conv_z {w : World} {G : Nat} (h : w.heap[G]? = some (.cells (zeros 32) 5 (0, 0))) : (convert 28 9 (.slice (some ⟨G, 0, none⟩) 32 32)).run Tryd.prog w = .ok (.string (S zero32)) w := by
  have h1 := run_convert_bytes_back (P := Tryd.prog) w 28 9 5 ⟨G, 0, none⟩ 32 zero32 Tryd.underlying28 Tryd.underlying5 Tryd.underlying9 (by
    intro j hj
    have hj2 : j < 32 := by rw [zero32_length] at hj; exact hj
    have hz0 : zero32[j]? = some 0 := by unfold zero32; rw [List.getElem?_replicate, if_pos hj2]
    have hz1 : zero32[j]'hj = 0 := by unfold zero32; exact List.getElem_replicate _
    rw [Addr.add_mid, Nat.zero_add, cell_of_block h, zeros_get 32 j hj2]
    first | rfl | (rw [hz1]; rfl) | (simp only [List.getD, hz0]; rfl) | simp [hz1, hz0, List.getD])
  rwa [zero32_length] at h1

set_option maxRecDepth 100000 in
set_option linter.unusedSimpArgs false in
set_option maxHeartbeats 40000000 in
theorem nodeempty_any (level kd at_ : Int) (s : List UInt8) (hs : s.length = 32) (w : World) (hL : Laid w) :
    Calls Tryd.prog 9 #[.int .i64 level, .int .i64 kd, .int .i64 at_, .agg (sumCells s)] w fun e w' => e = .returned (.bool true) ∧ Below w.heap.size w w' := by
  have HL := hid hL
  obtain ⟨m, hm⟩ : ∃ m : Nat, bits .and .i64 level 255 = (m : Int) := ⟨(level % 256).toNat, by rw [i64_and255]; omega⟩
  obtain ⟨b, hb⟩ : ∃ b : UInt8, Int.tmod (m : Int) 3 = (b.toNat : Int) := ⟨UInt8.ofNat (m % 3), by rw [Int.tmod_eq_emod_of_nonneg (by omega), UInt8.toNat_ofNat']; omega⟩
  obtain ⟨k, hk⟩ : ∃ k : Nat, bits .and .i64 kd 65535 = (k : Int) := ⟨(kd % 65536).toNat, by rw [i64_and65535]; omega⟩
  obtain ⟨a, ha, ha8⟩ : ∃ a : Nat, bits .and .i64 at_ 7 = (a : Int) ∧ a < 8 := ⟨(at_ % 8).toNat, by rw [i64_and7]; omega, by omega⟩
  have hss : (sumCells s).size = 32 := by rw [sumCells_size, hs]
  have hS0 := heap_new w (Obj.cells (sumCells s) 24)
  have hB0 : Below w.heap.size w (w.alloc (.cells (sumCells s) 24)) := (Below.refl _ w).alloc (Nat.le_refl _) _
  clear hL
  go_enter Tryd.func9, Tryd.ntmps9
  go_upto_region 1 with fail
  generalize w.alloc (.cells (sumCells s) 24) = w0 at *
  have HS0 := hid hS0
  have HB0 := hid hB0
  have hlt0 := lt_of_block hS0
  clear hS0 hB0
  go_upto_region 3 with (refine (awake12 w0).mono ?_; rintro e w1 ⟨rfl, hB1⟩; have HS1 := hid ((hB1.block _ hlt0).trans HS0.out); have HB1 := hid (HB0.out.trans (hB1.mono HB0.out.size)); clear hB1)
  go_upto_region 4 with fail
  have hS1 := HS1.out
  have hinf : (Tryd.prog.info? 24).map (·.size) = some (sumCells s).size := by rw [hss]; kernel_rfl
  have hbd := build_node (b.toNat : Int) s hs
  obtain ⟨NC, hNC⟩ : ∃ NC : List Value, nodeC (b.toNat : Int) (List.replicate 8 0) s = NC := ⟨_, rfl⟩
  have hncl : NC.length = 41 := by rw [← hNC]; exact nodeC_length (by simp) hs
  have hnc1 : NC.toArray.all (·.oneCell') = true := by rw [← hNC]; exact nodeC_one _ _ _
  have hncs : NC.toArray.size = 41 := by simpa using hncl
  rw [hNC] at hbd
  have HNC := hid hNC
  clear hm hb hk ha hNC hncl
  go_upto_region 5 with (first
    | (refine wpList_load_row rfl 24 (.tmp 7) rfl w.heap.size rfl _ _ _ _ hS1 Tryd.underlying24 rfl hinf ?_)
    | (refine wpList_store_mid rfl 47 (.tmp 9) (.tmp 22) rfl w1.heap.size 0 NC.toArray rfl rfl (there_new _ _ _ _ (by rw [hncs]; rfl)) (by rw [hncs]; kernel_rfl) hnc1 ?_))
  have hst : ((w1.alloc (.cells #[.int .i64 0, .int .i64 0, .int .i64 0, .int .i64 0, .int .i64 0, .int .i64 0, .int .i64 0, .int .i64 0, .int .i64 0, .int .u8 0, .int .u8 0, .int .u8 0, .int .u8 0, .int .u8 0, .int .u8 0, .int .u8 0, .int .u8 0, .int .u8 0, .int .u8 0, .int .u8 0, .int .u8 0, .int .u8 0, .int .u8 0, .int .u8 0, .int .u8 0, .int .u8 0, .int .u8 0, .int .u8 0, .int .u8 0, .int .u8 0, .int .u8 0, .int .u8 0, .int .u8 0, .int .u8 0, .int .u8 0, .int .u8 0, .int .u8 0, .int .u8 0, .int .u8 0, .int .u8 0, .int .u8 0] 47)).setCells w1.heap.size 0 NC).heap[w1.heap.size]? = some (.cells NC.toArray 47 (0, 0)) ∧ Below w1.heap.size w1 ((w1.alloc (.cells #[.int .i64 0, .int .i64 0, .int .i64 0, .int .i64 0, .int .i64 0, .int .i64 0, .int .i64 0, .int .i64 0, .int .i64 0, .int .u8 0, .int .u8 0, .int .u8 0, .int .u8 0, .int .u8 0, .int .u8 0, .int .u8 0, .int .u8 0, .int .u8 0, .int .u8 0, .int .u8 0, .int .u8 0, .int .u8 0, .int .u8 0, .int .u8 0, .int .u8 0, .int .u8 0, .int .u8 0, .int .u8 0, .int .u8 0, .int .u8 0, .int .u8 0, .int .u8 0, .int .u8 0, .int .u8 0, .int .u8 0, .int .u8 0, .int .u8 0, .int .u8 0, .int .u8 0, .int .u8 0, .int .u8 0] 47)).setCells w1.heap.size 0 NC) ∧ ((w1.alloc (.cells #[.int .i64 0, .int .i64 0, .int .i64 0, .int .i64 0, .int .i64 0, .int .i64 0, .int .i64 0, .int .i64 0, .int .i64 0, .int .u8 0, .int .u8 0, .int .u8 0, .int .u8 0, .int .u8 0, .int .u8 0, .int .u8 0, .int .u8 0, .int .u8 0, .int .u8 0, .int .u8 0, .int .u8 0, .int .u8 0, .int .u8 0, .int .u8 0, .int .u8 0, .int .u8 0, .int .u8 0, .int .u8 0, .int .u8 0, .int .u8 0, .int .u8 0, .int .u8 0, .int .u8 0, .int .u8 0, .int .u8 0, .int .u8 0, .int .u8 0, .int .u8 0, .int .u8 0, .int .u8 0, .int .u8 0] 47)).setCells w1.heap.size 0 NC).heap.size = w1.heap.size + 1 := store_new w1 47 #[.int .i64 0, .int .i64 0, .int .i64 0, .int .i64 0, .int .i64 0, .int .i64 0, .int .i64 0, .int .i64 0, .int .i64 0, .int .u8 0, .int .u8 0, .int .u8 0, .int .u8 0, .int .u8 0, .int .u8 0, .int .u8 0, .int .u8 0, .int .u8 0, .int .u8 0, .int .u8 0, .int .u8 0, .int .u8 0, .int .u8 0, .int .u8 0, .int .u8 0, .int .u8 0, .int .u8 0, .int .u8 0, .int .u8 0, .int .u8 0, .int .u8 0, .int .u8 0, .int .u8 0, .int .u8 0, .int .u8 0, .int .u8 0, .int .u8 0, .int .u8 0, .int .u8 0, .int .u8 0, .int .u8 0] NC.toArray (by rw [hncs]; rfl)
  generalize (w1.alloc (.cells #[.int .i64 0, .int .i64 0, .int .i64 0, .int .i64 0, .int .i64 0, .int .i64 0, .int .i64 0, .int .i64 0, .int .i64 0, .int .u8 0, .int .u8 0, .int .u8 0, .int .u8 0, .int .u8 0, .int .u8 0, .int .u8 0, .int .u8 0, .int .u8 0, .int .u8 0, .int .u8 0, .int .u8 0, .int .u8 0, .int .u8 0, .int .u8 0, .int .u8 0, .int .u8 0, .int .u8 0, .int .u8 0, .int .u8 0, .int .u8 0, .int .u8 0, .int .u8 0, .int .u8 0, .int .u8 0, .int .u8 0, .int .u8 0, .int .u8 0, .int .u8 0, .int .u8 0, .int .u8 0, .int .u8 0] 47)).setCells w1.heap.size 0 NC = w2 at *
  obtain ⟨hN2, hB2, _⟩ := hst
  have HS2 := hid ((hB2.block _ (lt_of_block HS1.out)).trans HS1.out)
  have HB2 := hid (HB1.out.trans (hB2.mono HB1.out.size))
  have hwN : w.heap.size < w1.heap.size := lt_of_block HS1.out
  generalize w1.heap.size = N at *
  have HN2 := hid hN2
  have KE : Hid (∀ w, Calls Tryd.prog 24 #[.agg NC.toArray] w fun e w' => e = .returned (.bool true) ∧ Below w.heap.size w w') := hid (fun w => by rw [← HNC.out]; have h := empty_any (b.toNat : Int) (List.replicate 8 0) s (by simp) w; rw [beq_self_eq_true] at h; exact h)
  have hinf47 : (Tryd.prog.info? 47).map (·.size) = some NC.toArray.size := by rw [hncs]; kernel_rfl
  have h0 := eq_sum0
  have z36 : ∀ w, (zeroValue 36).run Tryd.prog w = .ok (.agg (zeros 256)) w := fun w => by kernel_rfl
  have z25 : ∀ w, (zeroValue 25).run Tryd.prog w = .ok (.agg (zeros 32)) w := fun w => by kernel_rfl
  clear hS1 hinf hbd hB2 HS1 HB1
  go_upto_region 7 with (first
    | (refine wpList_load_row rfl 47 (.tmp 9) rfl N rfl _ _ _ _ hN2 Tryd.underlying47 rfl hinf47 ?_)
    | (go_at_call 24; refine (KE.out _).mono ?_; rintro e w3 ⟨rfl, hB3⟩; have HB3 := hid hB3; clear hB3)
    | (go_at_call 20; refine (digest_zero _ _).mono ?_; rintro e w4 ⟨rfl, hB4⟩; have HB4 := hid (HB3.out.trans (hB4.mono HB3.out.size)); clear hB4))
  have hN4 := (HB4.out.block N (lt_of_block HN2.out)).trans HN2.out
  have hS4 := (HB4.out.block _ (lt_of_block HS2.out)).trans HS2.out
  have hBw4 := HB2.out.trans (HB4.out.mono HB2.out.size)
  have HN4 := hid hN4
  have HS4 := hid hS4
  have HBw4 := hid hBw4
  have ba : (a : Int) < 8 := by omega
  have ba0 : (0 : Int) ≤ (a : Int) := by omega
  obtain ⟨v4, hv4⟩ : ∃ v, w4.cell? ⟨N, 1 + a, none⟩ = some v := ⟨NC.toArray[1 + a]'(by rw [hncs]; omega), by rw [cell_of_block hN4]; exact Array.getElem?_eq_getElem (by rw [hncs]; omega)⟩
  have fv4 := free_of_block hN4 (1 + a)
  clear hN4 hS4 hBw4 hN2 HB2 HB3 HB4 HN2 HS2 hinf47 h0 KE
  go_upto_region 8 with fail
  have hF5 : Fr (fun k => k = N) w4 (w4.setCell ⟨N, 1 + a, none⟩ (.int .i64 (k : Int))) := (Fr.refl (fun k => k = N) w4).setCell (p := ⟨N, 1 + a, none⟩) (fun _ => rfl) _
  have hN5 : (w4.setCell ⟨N, 1 + a, none⟩ (.int .i64 (k : Int))).heap[N]? = some (.cells (nodeC (b.toNat : Int) ((List.replicate 8 0).set a (k : Int)) s).toArray 47 (0, 0)) := by
    rw [← nodeC_set _ _ _ _ _ (by simpa using ha8), HNC.out]
    exact heap_set_same (i := 1 + a) HN4.out _
  have hS5 := hF5.heap HS4.out (by omega)
  have hB5 := HBw4.out.trans (hF5.below HBw4.out.size (fun k hk e => by omega))
  generalize w4.setCell ⟨N, 1 + a, none⟩ (.int .i64 (k : Int)) = w5 at *
  clear hF5 hv4 fv4 HN4 HS4 HBw4
  have HN5 := hid hN5
  have HS5 := hid hS5
  have HB5 := hid hB5
  clear hN5 hS5 hB5 HNC hnc1 hncs
  go_upto_region 9 with fail
  have hK6 := Kids8.new w5 36
  have hN6 := heap_old HN5.out (.cells (zeros 256) 36)
  have hS6 := heap_old HS5.out (.cells (zeros 256) 36)
  have hB6 := HB5.out.alloc HB5.out.size (.cells (zeros 256) 36)
  have hL1 : w.heap.size < w5.heap.size := lt_of_block HS5.out
  have hL2 : N < w5.heap.size := lt_of_block HN5.out
  generalize w5.alloc (.cells (zeros 256) 36) = w6 at *
  generalize w5.heap.size = L at *
  have HK6 := hid hK6
  have HN6 := hid hN6
  have HS6 := hid hS6
  have HB6 := hid hB6
  have hinf : (Tryd.prog.info? 24).map (·.size) = some (sumCells s).size := by rw [hss]; kernel_rfl
  have hth : w6.there L (a * 32) (sumCells s).size := fun j hj => by
    have h := hK6.there (a * 32 + j) (by rw [hss] at hj; omega)
    rwa [Nat.zero_add] at h
  have hone : (sumCells s).all (·.oneCell') = true := by
    refine all_oneCell_toArray fun v hv => ?_
    obtain ⟨c, _, rfl⟩ := List.mem_map.1 hv
    rfl
  clear hK6 hN6 hB6 HN5 HS5 HB5 z36
  go_upto_region 10 with (first
    | (refine wpList_load_row rfl 24 (.tmp 7) rfl w.heap.size rfl _ _ _ _ hS6 Tryd.underlying24 rfl hinf ?_)
    | (refine wpList_store_mid rfl 25 (.tmp 39) (.tmp 38) rfl L (a * 32) (sumCells s) rfl rfl hth (by rw [hss]; kernel_rfl) hone ?_))
  -- REGION10
  have hfl : ∀ j, j < 8 → ((fun j => if j = a then s else zero32) j).length = 32 := fun j _ => by
    dsimp only
    split
    · exact hs
    · exact zero32_length
  have hK7 : Kids8 (w6.setCells L (a * 32) (sumCells s).toList) L (fun j => if j = a then s else zero32) := by
    have h := HK6.out.set (fun j _ => zero32_length) ha8 s hs
    rw [Nat.mul_comm] at h
    exact h
  have hF7 : Fr (fun k => k = L) w6 (w6.setCells L (a * 32) (sumCells s).toList) := Fr.setCells (S := fun k => k = L) (fun _ => rfl) _ _ _ (Fr.refl _ _)
  have hN7 := hF7.heap HN6.out (by omega)
  have hS7 := hF7.heap HS6.out (by omega)
  have hB7 := HB6.out.trans (hF7.below HB6.out.size (fun k hk e => by omega))
  have hall := hK7.all hfl
  have hL7 := hK7.lt
  have hcl := cat8_length hfl
  have hz : (cat8 (fun j => if j = a then s else zero32) = zero256) = (s = zero32) := by
    rw [eq_iff_iff]
    constructor
    · intro h
      have h1 := kid_cat8 hfl ha8
      rw [h, kid_zero256 ha8] at h1
      simpa using h1.symm
    · intro h
      subst h
      have h1 := kids_cat8 hfl
      refine kids_inj hcl zero256_length fun j hj => ?_
      rw [kid_cat8 hfl hj, kid_zero256 hj]
      simp
  generalize cat8 (fun j => if j = a then s else zero32) = l at *
  generalize w6.setCells L (a * 32) (sumCells s).toList = w7 at *
  have HB7 := hid hB7
  have hLd := HL.out.below hB7 HL.out.lt
  have HLd := hid hLd
  have Hz := hid hz
  clear hF7 hK7 hB7 hLd hz hfl hinf hth hone hS6 HS6 HN6 HB6 HK6 hL1 hL2 hwN ba ba0
  obtain ⟨Y, hY⟩ : ∃ Y, digOf b l = Y := ⟨_, rfl⟩
  have hYl : Y.length = 32 := by rw [← hY]; exact digOf_length _ _
  have KD : Hid (∀ w', After w7 w' → Calls Tryd.prog 20 #[.int .i64 (b.toNat : Int), .agg (byteCells l).toArray] w' fun e w'' => e = .returned (.agg (byteCells Y).toArray) ∧ Below w'.heap.size w' w'') := hid (fun w' h => by rw [← hY]; exact digest_any b l hcl w' (HL.out.below (HB7.out.trans (Below.mono h HB7.out.size)) HL.out.lt))
  obtain ⟨bb, hbb⟩ : ∃ bb, decide ((k : Int) = 0) = bb := ⟨_, rfl⟩
  have hbb2 : ((k : Int) == 0) = bb := by rw [← hbb]; rfl
  obtain ⟨NK, hNK⟩ : ∃ NK, nodeC (b.toNat : Int) ((List.replicate 8 0).set a (k : Int)) s = NK := ⟨_, rfl⟩
  have KE : Hid (∀ w, Calls Tryd.prog 24 #[.agg NK.toArray] w fun e w' => e = .returned (.bool bb) ∧ Below w.heap.size w w') := hid (fun w => by rw [← hNK, ← hbb, ← set8 a (k : Int) ha8]; exact empty_any (b.toNat : Int) ((List.replicate 8 0).set a (k : Int)) s (by simp) w)
  rw [hNK] at hN7
  have hNKl : NK.length = 41 := by rw [← hNK]; exact nodeC_length (by simp) hs
  have rN := range_of_block hN7
  have rS : w7.rangeAt w.heap.size 0 (byteCells s) := range_of_block hS7
  have lN := lt_of_block hN7
  have lS := lt_of_block hS7
  have iN : (Tryd.prog.info? 47).map (·.size) = some NK.length := by rw [hNKl]; kernel_rfl
  have iS : (Tryd.prog.info? 24).map (·.size) = some (byteCells s).length := by rw [byteCells_length, hs]; kernel_rfl
  have iL : (Tryd.prog.info? 36).map (·.size) = some (byteCells l).length := by rw [byteCells_length, hcl]; kernel_rfl
  have iK : ∀ j, j < 8 → (Tryd.prog.info? 25).map (·.size) = some (byteCells (kid l j)).length := fun j hj => by rw [byteCells_length, kid_length hcl hj]; kernel_rfl
  have hE10 : ∀ w, (Op.equalIn 10000 25 (.agg (byteCells Y).toArray) (.agg (zeros 32))).run Tryd.prog w = .ok (Y == zero32) w := fun w => by rw [← sumCells_zero32]; exact sum_eql Y zero32 hYl zero32_length w
  have hE13 : ∀ w, (Op.equalIn 10000 24 (.agg (byteCells s).toArray) (.agg (zeros 32))).run Tryd.prog w = .ok (s == zero32) w := fun w => by rw [← sumCells_zero32]; exact arr_eql s zero32 hs zero32_length w
  have z24 : ∀ w, (zeroValue 24).run Tryd.prog w = .ok (.agg (zeros 32)) w := fun w => by kernel_rfl
  have hss2 : (S Y).toList = Y := S_toList Y
  have hss3 : (S zero32).toList = zero32 := S_toList zero32
  have hmk := make_z
  have HS0 : Hid (After w7 w7.drew) := hid ((Below.refl _ w7).drew)
  clear hN7 hS7 hss hNK hbb
  go_upto_region 10 with fail
  by_cases hsz : s = zero32
  · have hlz : l = zero256 := by rw [Hz.out]; exact hsz
    have hYz : Y = zero32 := by rw [← hY, hlz]; unfold digOf; exact if_pos rfl
    have e10 : (Y == zero32) = true := by rw [hYz]; simp
    have e13 : (s == zero32) = true := by rw [hsz]; simp
    clear hsz hlz hYz
    refine wp_region_held_drew (S := After w7) (by kernel_rfl) HS0.out (fun hHeld => ?_)
    refine take_held (i := 0) (v := .agg (NK).toArray) rfl (by kernel_rfl) (by kernel_rfl) (by kernel_rfl) (fun _ _ _ h => h) (yieldsIf_load_mid (by rfl) _ _ rfl N 0 rfl (NK) _ (fun w h => (range_block rN (Below.block h _ lN))) Tryd.underlying47 rfl iN) (by assumption) ?_
    try simp only [Act.put, List.setIfInBounds_toArray, List.set_cons_zero, List.set_cons_succ, List.getElem_toArray, List.getElem_cons_zero, List.getElem_cons_succ]
    refine wpAnyH_take (i := 2) (oi := _) (v := ?_) rfl (by kernel_rfl) (by kernel_rfl) (by kernel_rfl) (fun _ _ _ h => h) (Or.inl ⟨by rfl, ?_⟩) (by assumption) ?_
    rotate_left
    · intro w hSw
      try dsimp only at hSw
      go_simp
      try with_reducible rfl
    try simp only [Act.put, List.setIfInBounds_toArray, List.set_cons_zero, List.set_cons_succ, List.getElem_toArray, List.getElem_cons_zero, List.getElem_cons_succ]
    refine wpAnyH_take (i := 3) (oi := _) (v := ?_) rfl (by kernel_rfl) (by kernel_rfl) (by kernel_rfl) (fun _ _ _ h => h) (Or.inl ⟨by rfl, ?_⟩) (by assumption) ?_
    rotate_left
    · intro w hSw
      try dsimp only at hSw
      go_simp
      try with_reducible rfl
    try simp only [Act.put, List.setIfInBounds_toArray, List.set_cons_zero, List.set_cons_succ, List.getElem_toArray, List.getElem_cons_zero, List.getElem_cons_succ]
    refine wpAnyH_ready (rs := [1]) (by kernel_rfl) (by simp) ?_
    refine AllReadyH.cons (o := _) rfl (fun K hK => ?_) AllReadyH.nil
    go_simp
    go_at_call 24
    refine (KE.out _).mono ?_
    rintro e q1 ⟨rfl, hB_⟩
    have hA901 := hid (HS0.out.step hB_)
    clear hB_
    try dsimp only
    refine hK.out _ _ ?_ (fun hHeld => ?_)
    · exact hA901.out
    clear hK K
    try simp only [Act.put, List.setIfInBounds_toArray, List.set_cons_zero, List.set_cons_succ, List.getElem_toArray, List.getElem_cons_zero, List.getElem_cons_succ]
    refine wpAnyH_take (i := 4) (oi := _) (v := .bool true) rfl (by kernel_rfl) (by kernel_rfl) (by kernel_rfl) (fun _ _ _ h => h) (Or.inl ⟨by rfl, ?_⟩) (by assumption) ?_
    · intro w hSw
      try dsimp only at hSw
      go_simp
      try with_reducible rfl
    try simp only [Act.put, List.setIfInBounds_toArray, List.set_cons_zero, List.set_cons_succ, List.getElem_toArray, List.getElem_cons_zero, List.getElem_cons_succ]
    refine wpAnyH_take (i := 5) (oi := _) (v := .bool true) rfl (by kernel_rfl) (by kernel_rfl) (by kernel_rfl) (fun _ _ _ h => h) (Or.inl ⟨by rfl, ?_⟩) (by assumption) ?_
    · intro w hSw
      try dsimp only at hSw
      go_simp
      try with_reducible rfl
    try simp only [Act.put, List.setIfInBounds_toArray, List.set_cons_zero, List.set_cons_succ, List.getElem_toArray, List.getElem_cons_zero, List.getElem_cons_succ]
    refine wpAnyH_take (i := 6) (oi := _) (v := ?_) rfl (by kernel_rfl) (by kernel_rfl) (by kernel_rfl) (fun _ _ _ h => h) (Or.inl ⟨by rfl, ?_⟩) (by assumption) ?_
    rotate_left
    · intro w hSw
      try dsimp only at hSw
      go_simp
      try with_reducible rfl
    try simp only [Act.put, List.setIfInBounds_toArray, List.set_cons_zero, List.set_cons_succ, List.getElem_toArray, List.getElem_cons_zero, List.getElem_cons_succ]
    refine take_held (i := 7) (v := .agg (byteCells l).toArray) rfl (by kernel_rfl) (by kernel_rfl) (by kernel_rfl) (fun _ _ _ h => h) (yieldsIf_load_mid (by rfl) _ _ rfl L 0 rfl (byteCells l) _ (fun w h => (range_block hall (Below.block h _ hL7))) Tryd.underlying36 rfl iL) (by assumption) ?_
    try simp only [Act.put, List.setIfInBounds_toArray, List.set_cons_zero, List.set_cons_succ, List.getElem_toArray, List.getElem_cons_zero, List.getElem_cons_succ]
    refine wpAnyH_take (i := 9) (oi := _) (v := ?_) rfl (by kernel_rfl) (by kernel_rfl) (by kernel_rfl) (fun _ _ _ h => h) (Or.inl ⟨by rfl, ?_⟩) (by assumption) ?_
    rotate_left
    · intro w hSw
      try dsimp only at hSw
      go_simp
      try with_reducible rfl
    try simp only [Act.put, List.setIfInBounds_toArray, List.set_cons_zero, List.set_cons_succ, List.getElem_toArray, List.getElem_cons_zero, List.getElem_cons_succ]
    refine take_held (i := 11) (v := .agg (byteCells s).toArray) rfl (by kernel_rfl) (by kernel_rfl) (by kernel_rfl) (fun _ _ _ h => h) (yieldsIf_load_mid (by rfl) _ _ rfl w.heap.size 0 rfl (byteCells s) _ (fun w h => (range_block rS (Below.block h _ lS))) Tryd.underlying24 rfl iS) (by assumption) ?_
    try simp only [Act.put, List.setIfInBounds_toArray, List.set_cons_zero, List.set_cons_succ, List.getElem_toArray, List.getElem_cons_zero, List.getElem_cons_succ]
    refine wpAnyH_take (i := 12) (oi := _) (v := ?_) rfl (by kernel_rfl) (by kernel_rfl) (by kernel_rfl) (fun _ _ _ h => h) (Or.inl ⟨by rfl, ?_⟩) (by assumption) ?_
    rotate_left
    · intro w hSw
      try dsimp only at hSw
      go_simp
      try with_reducible rfl
    try simp only [Act.put, List.setIfInBounds_toArray, List.set_cons_zero, List.set_cons_succ, List.getElem_toArray, List.getElem_cons_zero, List.getElem_cons_succ]
    refine wpAnyH_take (i := 13) (oi := _) (v := .bool true) rfl (by kernel_rfl) (by kernel_rfl) (by kernel_rfl) (fun _ _ _ h => h) (Or.inl ⟨by rfl, ?_⟩) (by assumption) ?_
    · intro w hSw
      try dsimp only at hSw
      go_simp
      try with_reducible rfl
    try simp only [Act.put, List.setIfInBounds_toArray, List.set_cons_zero, List.set_cons_succ, List.getElem_toArray, List.getElem_cons_zero, List.getElem_cons_succ]
    refine wpAnyH_ready (rs := [8]) (by kernel_rfl) (by simp) ?_
    refine AllReadyH.cons (o := _) rfl (fun K hK => ?_) AllReadyH.nil
    go_simp
    go_at_call 20
    refine (KD.out _ hA901.out).mono ?_
    rintro e q2 ⟨rfl, hB_⟩
    have hA902 := hid (hA901.out.step hB_)
    clear hB_
    try dsimp only
    refine hK.out _ _ ?_ (fun hHeld => ?_)
    · exact hA902.out
    clear hK K
    try simp only [Act.put, List.setIfInBounds_toArray, List.set_cons_zero, List.set_cons_succ, List.getElem_toArray, List.getElem_cons_zero, List.getElem_cons_succ]
    refine wpAnyH_take (i := 10) (oi := _) (v := .bool true) rfl (by kernel_rfl) (by kernel_rfl) (by kernel_rfl) (fun _ _ _ h => h) (Or.inl ⟨by rfl, ?_⟩) (by assumption) ?_
    · intro w hSw
      try dsimp only at hSw
      go_simp
      try with_reducible rfl
    try simp only [Act.put, List.setIfInBounds_toArray, List.set_cons_zero, List.set_cons_succ, List.getElem_toArray, List.getElem_cons_zero, List.getElem_cons_succ]
    refine wpAnyH_take (i := 14) (oi := _) (v := .bool true) rfl (by kernel_rfl) (by kernel_rfl) (by kernel_rfl) (fun _ _ _ h => h) (Or.inl ⟨by rfl, ?_⟩) (by assumption) ?_
    · intro w hSw
      try dsimp only at hSw
      go_simp
      try with_reducible rfl
    try simp only [Act.put, List.setIfInBounds_toArray, List.set_cons_zero, List.set_cons_succ, List.getElem_toArray, List.getElem_cons_zero, List.getElem_cons_succ]
    refine wpAnyH_take (i := 15) (oi := _) (v := undef) rfl (by kernel_rfl) (by kernel_rfl) (by kernel_rfl) (fun _ _ _ h => h) (Or.inr ⟨by rfl, rfl⟩) (by assumption) ?_
    try simp only [Act.put, List.setIfInBounds_toArray, List.set_cons_zero, List.set_cons_succ, List.getElem_toArray, List.getElem_cons_zero, List.getElem_cons_succ]
    refine wpAnyH_take (i := 16) (oi := _) (v := undef) rfl (by kernel_rfl) (by kernel_rfl) (by kernel_rfl) (fun _ _ _ h => h) (Or.inr ⟨by rfl, rfl⟩) (by assumption) ?_
    try simp only [Act.put, List.setIfInBounds_toArray, List.set_cons_zero, List.set_cons_succ, List.getElem_toArray, List.getElem_cons_zero, List.getElem_cons_succ]
    refine wpAnyH_take (i := 17) (oi := _) (v := undef) rfl (by kernel_rfl) (by kernel_rfl) (by kernel_rfl) (fun _ _ _ h => h) (Or.inr ⟨by rfl, rfl⟩) (by assumption) ?_
    try simp only [Act.put, List.setIfInBounds_toArray, List.set_cons_zero, List.set_cons_succ, List.getElem_toArray, List.getElem_cons_zero, List.getElem_cons_succ]
    refine wpAnyH_take (i := 18) (oi := _) (v := undef) rfl (by kernel_rfl) (by kernel_rfl) (by kernel_rfl) (fun _ _ _ h => h) (Or.inr ⟨by rfl, rfl⟩) (by assumption) ?_
    try simp only [Act.put, List.setIfInBounds_toArray, List.set_cons_zero, List.set_cons_succ, List.getElem_toArray, List.getElem_cons_zero, List.getElem_cons_succ]
    refine wpAnyH_take (i := 19) (oi := _) (v := undef) rfl (by kernel_rfl) (by kernel_rfl) (by kernel_rfl) (fun _ _ _ h => h) (Or.inr ⟨by rfl, rfl⟩) (by assumption) ?_
    try simp only [Act.put, List.setIfInBounds_toArray, List.set_cons_zero, List.set_cons_succ, List.getElem_toArray, List.getElem_cons_zero, List.getElem_cons_succ]
    refine wpAnyH_take (i := 20) (oi := _) (v := undef) rfl (by kernel_rfl) (by kernel_rfl) (by kernel_rfl) (fun _ _ _ h => h) (Or.inr ⟨by rfl, rfl⟩) (by assumption) ?_
    try simp only [Act.put, List.setIfInBounds_toArray, List.set_cons_zero, List.set_cons_succ, List.getElem_toArray, List.getElem_cons_zero, List.getElem_cons_succ]
    refine wpAnyH_take (i := 21) (oi := _) (v := undef) rfl (by kernel_rfl) (by kernel_rfl) (by kernel_rfl) (fun _ _ _ h => h) (Or.inr ⟨by rfl, rfl⟩) (by assumption) ?_
    try simp only [Act.put, List.setIfInBounds_toArray, List.set_cons_zero, List.set_cons_succ, List.getElem_toArray, List.getElem_cons_zero, List.getElem_cons_succ]
    refine wpAnyH_take (i := 22) (oi := _) (v := undef) rfl (by kernel_rfl) (by kernel_rfl) (by kernel_rfl) (fun _ _ _ h => h) (Or.inr ⟨by rfl, rfl⟩) (by assumption) ?_
    try simp only [Act.put, List.setIfInBounds_toArray, List.set_cons_zero, List.set_cons_succ, List.getElem_toArray, List.getElem_cons_zero, List.getElem_cons_succ]
    refine wpAnyH_take (i := 23) (oi := _) (v := undef) rfl (by kernel_rfl) (by kernel_rfl) (by kernel_rfl) (fun _ _ _ h => h) (Or.inr ⟨by rfl, rfl⟩) (by assumption) ?_
    try simp only [Act.put, List.setIfInBounds_toArray, List.set_cons_zero, List.set_cons_succ, List.getElem_toArray, List.getElem_cons_zero, List.getElem_cons_succ]
    refine wpAnyH_take (i := 24) (oi := _) (v := undef) rfl (by kernel_rfl) (by kernel_rfl) (by kernel_rfl) (fun _ _ _ h => h) (Or.inr ⟨by rfl, rfl⟩) (by assumption) ?_
    try simp only [Act.put, List.setIfInBounds_toArray, List.set_cons_zero, List.set_cons_succ, List.getElem_toArray, List.getElem_cons_zero, List.getElem_cons_succ]
    refine wpAnyH_take (i := 25) (oi := _) (v := undef) rfl (by kernel_rfl) (by kernel_rfl) (by kernel_rfl) (fun _ _ _ h => h) (Or.inr ⟨by rfl, rfl⟩) (by assumption) ?_
    try simp only [Act.put, List.setIfInBounds_toArray, List.set_cons_zero, List.set_cons_succ, List.getElem_toArray, List.getElem_cons_zero, List.getElem_cons_succ]
    refine wpAnyH_take (i := 26) (oi := _) (v := undef) rfl (by kernel_rfl) (by kernel_rfl) (by kernel_rfl) (fun _ _ _ h => h) (Or.inr ⟨by rfl, rfl⟩) (by assumption) ?_
    try simp only [Act.put, List.setIfInBounds_toArray, List.set_cons_zero, List.set_cons_succ, List.getElem_toArray, List.getElem_cons_zero, List.getElem_cons_succ]
    refine wpAnyH_take (i := 27) (oi := _) (v := undef) rfl (by kernel_rfl) (by kernel_rfl) (by kernel_rfl) (fun _ _ _ h => h) (Or.inr ⟨by rfl, rfl⟩) (by assumption) ?_
    try simp only [Act.put, List.setIfInBounds_toArray, List.set_cons_zero, List.set_cons_succ, List.getElem_toArray, List.getElem_cons_zero, List.getElem_cons_succ]
    refine wpAnyH_take (i := 28) (oi := _) (v := undef) rfl (by kernel_rfl) (by kernel_rfl) (by kernel_rfl) (fun _ _ _ h => h) (Or.inr ⟨by rfl, rfl⟩) (by assumption) ?_
    try simp only [Act.put, List.setIfInBounds_toArray, List.set_cons_zero, List.set_cons_succ, List.getElem_toArray, List.getElem_cons_zero, List.getElem_cons_succ]
    refine wpAnyH_take (i := 29) (oi := _) (v := undef) rfl (by kernel_rfl) (by kernel_rfl) (by kernel_rfl) (fun _ _ _ h => h) (Or.inr ⟨by rfl, rfl⟩) (by assumption) ?_
    try simp only [Act.put, List.setIfInBounds_toArray, List.set_cons_zero, List.set_cons_succ, List.getElem_toArray, List.getElem_cons_zero, List.getElem_cons_succ]
    refine wpAnyH_take (i := 30) (oi := _) (v := undef) rfl (by kernel_rfl) (by kernel_rfl) (by kernel_rfl) (fun _ _ _ h => h) (Or.inr ⟨by rfl, rfl⟩) (by assumption) ?_
    try simp only [Act.put, List.setIfInBounds_toArray, List.set_cons_zero, List.set_cons_succ, List.getElem_toArray, List.getElem_cons_zero, List.getElem_cons_succ]
    refine wpAnyH_take (i := 31) (oi := _) (v := undef) rfl (by kernel_rfl) (by kernel_rfl) (by kernel_rfl) (fun _ _ _ h => h) (Or.inr ⟨by rfl, rfl⟩) (by assumption) ?_
    try simp only [Act.put, List.setIfInBounds_toArray, List.set_cons_zero, List.set_cons_succ, List.getElem_toArray, List.getElem_cons_zero, List.getElem_cons_succ]
    refine wpAnyH_take (i := 32) (oi := _) (v := undef) rfl (by kernel_rfl) (by kernel_rfl) (by kernel_rfl) (fun _ _ _ h => h) (Or.inr ⟨by rfl, rfl⟩) (by assumption) ?_
    try simp only [Act.put, List.setIfInBounds_toArray, List.set_cons_zero, List.set_cons_succ, List.getElem_toArray, List.getElem_cons_zero, List.getElem_cons_succ]
    refine wpAnyH_take (i := 33) (oi := _) (v := undef) rfl (by kernel_rfl) (by kernel_rfl) (by kernel_rfl) (fun _ _ _ h => h) (Or.inr ⟨by rfl, rfl⟩) (by assumption) ?_
    try simp only [Act.put, List.setIfInBounds_toArray, List.set_cons_zero, List.set_cons_succ, List.getElem_toArray, List.getElem_cons_zero, List.getElem_cons_succ]
    refine wpAnyH_take (i := 34) (oi := _) (v := undef) rfl (by kernel_rfl) (by kernel_rfl) (by kernel_rfl) (fun _ _ _ h => h) (Or.inr ⟨by rfl, rfl⟩) (by assumption) ?_
    try simp only [Act.put, List.setIfInBounds_toArray, List.set_cons_zero, List.set_cons_succ, List.getElem_toArray, List.getElem_cons_zero, List.getElem_cons_succ]
    refine wpAnyH_take (i := 35) (oi := _) (v := undef) rfl (by kernel_rfl) (by kernel_rfl) (by kernel_rfl) (fun _ _ _ h => h) (Or.inr ⟨by rfl, rfl⟩) (by assumption) ?_
    try simp only [Act.put, List.setIfInBounds_toArray, List.set_cons_zero, List.set_cons_succ, List.getElem_toArray, List.getElem_cons_zero, List.getElem_cons_succ]
    refine wpAnyH_take (i := 36) (oi := _) (v := undef) rfl (by kernel_rfl) (by kernel_rfl) (by kernel_rfl) (fun _ _ _ h => h) (Or.inr ⟨by rfl, rfl⟩) (by assumption) ?_
    try simp only [Act.put, List.setIfInBounds_toArray, List.set_cons_zero, List.set_cons_succ, List.getElem_toArray, List.getElem_cons_zero, List.getElem_cons_succ]
    refine wpAnyH_take (i := 37) (oi := _) (v := undef) rfl (by kernel_rfl) (by kernel_rfl) (by kernel_rfl) (fun _ _ _ h => h) (Or.inr ⟨by rfl, rfl⟩) (by assumption) ?_
    try simp only [Act.put, List.setIfInBounds_toArray, List.set_cons_zero, List.set_cons_succ, List.getElem_toArray, List.getElem_cons_zero, List.getElem_cons_succ]
    refine wpAnyH_take (i := 38) (oi := _) (v := undef) rfl (by kernel_rfl) (by kernel_rfl) (by kernel_rfl) (fun _ _ _ h => h) (Or.inr ⟨by rfl, rfl⟩) (by assumption) ?_
    try simp only [Act.put, List.setIfInBounds_toArray, List.set_cons_zero, List.set_cons_succ, List.getElem_toArray, List.getElem_cons_zero, List.getElem_cons_succ]
    refine wpAnyH_take (i := 39) (oi := _) (v := undef) rfl (by kernel_rfl) (by kernel_rfl) (by kernel_rfl) (fun _ _ _ h => h) (Or.inr ⟨by rfl, rfl⟩) (by assumption) ?_
    try simp only [Act.put, List.setIfInBounds_toArray, List.set_cons_zero, List.set_cons_succ, List.getElem_toArray, List.getElem_cons_zero, List.getElem_cons_succ]
    refine wpAnyH_take (i := 40) (oi := _) (v := undef) rfl (by kernel_rfl) (by kernel_rfl) (by kernel_rfl) (fun _ _ _ h => h) (Or.inr ⟨by rfl, rfl⟩) (by assumption) ?_
    try simp only [Act.put, List.setIfInBounds_toArray, List.set_cons_zero, List.set_cons_succ, List.getElem_toArray, List.getElem_cons_zero, List.getElem_cons_succ]
    refine wpAnyH_take (i := 41) (oi := _) (v := undef) rfl (by kernel_rfl) (by kernel_rfl) (by kernel_rfl) (fun _ _ _ h => h) (Or.inr ⟨by rfl, rfl⟩) (by assumption) ?_
    try simp only [Act.put, List.setIfInBounds_toArray, List.set_cons_zero, List.set_cons_succ, List.getElem_toArray, List.getElem_cons_zero, List.getElem_cons_succ]
    refine wpAnyH_take (i := 42) (oi := _) (v := undef) rfl (by kernel_rfl) (by kernel_rfl) (by kernel_rfl) (fun _ _ _ h => h) (Or.inr ⟨by rfl, rfl⟩) (by assumption) ?_
    try simp only [Act.put, List.setIfInBounds_toArray, List.set_cons_zero, List.set_cons_succ, List.getElem_toArray, List.getElem_cons_zero, List.getElem_cons_succ]
    refine wpAnyH_take (i := 43) (oi := _) (v := undef) rfl (by kernel_rfl) (by kernel_rfl) (by kernel_rfl) (fun _ _ _ h => h) (Or.inr ⟨by rfl, rfl⟩) (by assumption) ?_
    try simp only [Act.put, List.setIfInBounds_toArray, List.set_cons_zero, List.set_cons_succ, List.getElem_toArray, List.getElem_cons_zero, List.getElem_cons_succ]
    refine wpAnyH_take (i := 44) (oi := _) (v := undef) rfl (by kernel_rfl) (by kernel_rfl) (by kernel_rfl) (fun _ _ _ h => h) (Or.inr ⟨by rfl, rfl⟩) (by assumption) ?_
    try simp only [Act.put, List.setIfInBounds_toArray, List.set_cons_zero, List.set_cons_succ, List.getElem_toArray, List.getElem_cons_zero, List.getElem_cons_succ]
    refine wpAnyH_take (i := 45) (oi := _) (v := .bool true) rfl (by kernel_rfl) (by kernel_rfl) (by kernel_rfl) (fun _ _ _ h => h) (Or.inl ⟨by rfl, ?_⟩) (by assumption) ?_
    · intro w hSw
      try dsimp only at hSw
      go_simp
      try with_reducible rfl
    try simp only [Act.put, List.setIfInBounds_toArray, List.set_cons_zero, List.set_cons_succ, List.getElem_toArray, List.getElem_cons_zero, List.getElem_cons_succ]
    refine wpAnyH_take (i := 46) (oi := _) (v := .bool true) rfl (by kernel_rfl) (by kernel_rfl) (by kernel_rfl) (fun _ _ _ h => h) (Or.inl ⟨by rfl, ?_⟩) (by assumption) ?_
    · intro w hSw
      try dsimp only at hSw
      go_simp
      try with_reducible rfl
    try simp only [Act.put, List.setIfInBounds_toArray, List.set_cons_zero, List.set_cons_succ, List.getElem_toArray, List.getElem_cons_zero, List.getElem_cons_succ]
    refine wpAnyH_take (i := 47) (oi := _) (v := .bool true) rfl (by kernel_rfl) (by kernel_rfl) (by kernel_rfl) (fun _ _ _ h => h) (Or.inl ⟨by rfl, ?_⟩) (by assumption) ?_
    · intro w hSw
      try dsimp only at hSw
      go_simp
      try with_reducible rfl
    try simp only [Act.put, List.setIfInBounds_toArray, List.set_cons_zero, List.set_cons_succ, List.getElem_toArray, List.getElem_cons_zero, List.getElem_cons_succ]
    refine wpAnyH_ready (rs := [48]) (by kernel_rfl) (by simp) ?_
    refine AllReadyH.cons (o := _) rfl (fun K hK => ?_) AllReadyH.nil
    go_simp
    try dsimp only
    refine hK.out _ _ ?_ (fun hHeld => ?_)
    · exact hA902.out
    clear hK K
    try simp only [Act.put, List.setIfInBounds_toArray, List.set_cons_zero, List.set_cons_succ, List.getElem_toArray, List.getElem_cons_zero, List.getElem_cons_succ]
    refine wpAnyH_done (by kernel_rfl) ?_ _
    go_wp2_with fail
    go_ret
    exact ⟨rfl, HB7.out.trans (Below.mono hA902.out HB7.out.size)⟩
  · have e13 : (s == zero32) = false := by simpa using hsz
    have hlz : ¬ l = zero256 := by rw [Hz.out]; exact hsz
    have hps : kids l 8 = [kid l 0, kid l 1, kid l 2, kid l 3, kid l 4, kid l 5, kid l 6, kid l 7] := rfl
    have hdig2 : (if (kids l 8).all (fun x => x == zero32) then zero32 else shaOf (78 :: b :: (kids l 8).flatten)) = Y := by
      rw [kids_all hcl, kids_flatten, List.take_of_length_le (by omega), ← hY]
      unfold digOf
      simp [hlz]
    have hfl2 : (kids l 8).flatten.length ≤ 1000000 := by rw [kids_flatten, List.length_take]; omega
    have KR : Hid (∀ (w' : World) (G : Nat), w'.heap[G]? = some (.cells #[.string (S (kid l 0)), .string (S (kid l 1)), .string (S (kid l 2)), .string (S (kid l 3)), .string (S (kid l 4)), .string (S (kid l 5)), .string (S (kid l 6)), .string (S (kid l 7))] 9 (0, 0)) → Calls Tryd.prog 21 #[.int .i64 (b.toNat : Int), .slice (some ⟨G, 0, none⟩) 8 8] w' fun e w'' => e = .returned (.string (S Y)) ∧ Below w'.heap.size w' w'') := hid (fun w' G h => by
      have h1 := refdig_any b (kids l 8) G 8 8 w' (by rw [hps]; exact parts_8 h) (by rw [hps]; rfl) hfl2 (by omega)
      rw [hdig2] at h1
      exact h1)
    have KT : ∀ (j : Nat), j < 8 → ∀ w, Calls Tryd.prog 14 #[.agg (byteCells (kid l j)).toArray] w fun e w' => e = .returned (.string (S (kid l j))) ∧ Below w.heap.size w w' := fun j hj w => text_any (kid l j) (kid_length hcl hj) w
    clear hps hdig2 hfl2 hlz hsz
    obtain ⟨dd, hdd⟩ : ∃ dd, (Y == zero32) = dd := ⟨_, rfl⟩
    have hdd2 : decide (Y = zero32) = dd := by rw [← hdd]; by_cases h : Y = zero32 <;> simp [h]
    refine wp_region_held_drew (S := After w7) (by kernel_rfl) HS0.out (fun hHeld => ?_)
    refine take_held (i := 0) (v := .agg (NK).toArray) rfl (by kernel_rfl) (by kernel_rfl) (by kernel_rfl) (fun _ _ _ h => h) (yieldsIf_load_mid (by rfl) _ _ rfl N 0 rfl (NK) _ (fun w h => (range_block rN (Below.block h _ lN))) Tryd.underlying47 rfl iN) (by assumption) ?_
    try simp only [Act.put, List.setIfInBounds_toArray, List.set_cons_zero, List.set_cons_succ, List.getElem_toArray, List.getElem_cons_zero, List.getElem_cons_succ]
    refine wpAnyH_take (i := 2) (oi := _) (v := ?_) rfl (by kernel_rfl) (by kernel_rfl) (by kernel_rfl) (fun _ _ _ h => h) (Or.inl ⟨by rfl, ?_⟩) (by assumption) ?_
    rotate_left
    · intro w hSw
      try dsimp only at hSw
      go_simp
      try with_reducible rfl
    try simp only [Act.put, List.setIfInBounds_toArray, List.set_cons_zero, List.set_cons_succ, List.getElem_toArray, List.getElem_cons_zero, List.getElem_cons_succ]
    refine wpAnyH_take (i := 3) (oi := _) (v := ?_) rfl (by kernel_rfl) (by kernel_rfl) (by kernel_rfl) (fun _ _ _ h => h) (Or.inl ⟨by rfl, ?_⟩) (by assumption) ?_
    rotate_left
    · intro w hSw
      try dsimp only at hSw
      go_simp
      try with_reducible rfl
    try simp only [Act.put, List.setIfInBounds_toArray, List.set_cons_zero, List.set_cons_succ, List.getElem_toArray, List.getElem_cons_zero, List.getElem_cons_succ]
    refine wpAnyH_ready (rs := [1]) (by kernel_rfl) (by simp) ?_
    refine AllReadyH.cons (o := _) rfl (fun K hK => ?_) AllReadyH.nil
    go_simp
    go_at_call 24
    refine (KE.out _).mono ?_
    rintro e q1 ⟨rfl, hB_⟩
    have hA901 := hid (HS0.out.step hB_)
    clear hB_
    try dsimp only
    refine hK.out _ _ ?_ (fun hHeld => ?_)
    · exact hA901.out
    clear hK K
    try simp only [Act.put, List.setIfInBounds_toArray, List.set_cons_zero, List.set_cons_succ, List.getElem_toArray, List.getElem_cons_zero, List.getElem_cons_succ]
    refine wpAnyH_take (i := 4) (oi := _) (v := .bool true) rfl (by kernel_rfl) (by kernel_rfl) (by kernel_rfl) (fun _ _ _ h => h) (Or.inl ⟨by rfl, ?_⟩) (by assumption) ?_
    · intro w hSw
      try dsimp only at hSw
      go_simp
      try with_reducible rfl
    try simp only [Act.put, List.setIfInBounds_toArray, List.set_cons_zero, List.set_cons_succ, List.getElem_toArray, List.getElem_cons_zero, List.getElem_cons_succ]
    refine wpAnyH_take (i := 5) (oi := _) (v := .bool true) rfl (by kernel_rfl) (by kernel_rfl) (by kernel_rfl) (fun _ _ _ h => h) (Or.inl ⟨by rfl, ?_⟩) (by assumption) ?_
    · intro w hSw
      try dsimp only at hSw
      go_simp
      try with_reducible rfl
    try simp only [Act.put, List.setIfInBounds_toArray, List.set_cons_zero, List.set_cons_succ, List.getElem_toArray, List.getElem_cons_zero, List.getElem_cons_succ]
    refine wpAnyH_take (i := 6) (oi := _) (v := ?_) rfl (by kernel_rfl) (by kernel_rfl) (by kernel_rfl) (fun _ _ _ h => h) (Or.inl ⟨by rfl, ?_⟩) (by assumption) ?_
    rotate_left
    · intro w hSw
      try dsimp only at hSw
      go_simp
      try with_reducible rfl
    try simp only [Act.put, List.setIfInBounds_toArray, List.set_cons_zero, List.set_cons_succ, List.getElem_toArray, List.getElem_cons_zero, List.getElem_cons_succ]
    refine take_held (i := 7) (v := .agg (byteCells l).toArray) rfl (by kernel_rfl) (by kernel_rfl) (by kernel_rfl) (fun _ _ _ h => h) (yieldsIf_load_mid (by rfl) _ _ rfl L 0 rfl (byteCells l) _ (fun w h => (range_block hall (Below.block h _ hL7))) Tryd.underlying36 rfl iL) (by assumption) ?_
    try simp only [Act.put, List.setIfInBounds_toArray, List.set_cons_zero, List.set_cons_succ, List.getElem_toArray, List.getElem_cons_zero, List.getElem_cons_succ]
    refine wpAnyH_take (i := 9) (oi := _) (v := ?_) rfl (by kernel_rfl) (by kernel_rfl) (by kernel_rfl) (fun _ _ _ h => h) (Or.inl ⟨by rfl, ?_⟩) (by assumption) ?_
    rotate_left
    · intro w hSw
      try dsimp only at hSw
      go_simp
      try with_reducible rfl
    try simp only [Act.put, List.setIfInBounds_toArray, List.set_cons_zero, List.set_cons_succ, List.getElem_toArray, List.getElem_cons_zero, List.getElem_cons_succ]
    refine take_held (i := 11) (v := .agg (byteCells s).toArray) rfl (by kernel_rfl) (by kernel_rfl) (by kernel_rfl) (fun _ _ _ h => h) (yieldsIf_load_mid (by rfl) _ _ rfl w.heap.size 0 rfl (byteCells s) _ (fun w h => (range_block rS (Below.block h _ lS))) Tryd.underlying24 rfl iS) (by assumption) ?_
    try simp only [Act.put, List.setIfInBounds_toArray, List.set_cons_zero, List.set_cons_succ, List.getElem_toArray, List.getElem_cons_zero, List.getElem_cons_succ]
    refine wpAnyH_take (i := 12) (oi := _) (v := ?_) rfl (by kernel_rfl) (by kernel_rfl) (by kernel_rfl) (fun _ _ _ h => h) (Or.inl ⟨by rfl, ?_⟩) (by assumption) ?_
    rotate_left
    · intro w hSw
      try dsimp only at hSw
      go_simp
      try with_reducible rfl
    try simp only [Act.put, List.setIfInBounds_toArray, List.set_cons_zero, List.set_cons_succ, List.getElem_toArray, List.getElem_cons_zero, List.getElem_cons_succ]
    refine wpAnyH_take (i := 13) (oi := _) (v := .bool false) rfl (by kernel_rfl) (by kernel_rfl) (by kernel_rfl) (fun _ _ _ h => h) (Or.inl ⟨by rfl, ?_⟩) (by assumption) ?_
    · intro w hSw
      try dsimp only at hSw
      go_simp
      try with_reducible rfl
    try simp only [Act.put, List.setIfInBounds_toArray, List.set_cons_zero, List.set_cons_succ, List.getElem_toArray, List.getElem_cons_zero, List.getElem_cons_succ]
    refine wpAnyH_ready (rs := [8]) (by kernel_rfl) (by simp) ?_
    refine AllReadyH.cons (o := _) rfl (fun K hK => ?_) AllReadyH.nil
    go_simp
    go_at_call 20
    refine (KD.out _ hA901.out).mono ?_
    rintro e q2 ⟨rfl, hB_⟩
    have hA902 := hid (hA901.out.step hB_)
    clear hB_
    try dsimp only
    refine hK.out _ _ ?_ (fun hHeld => ?_)
    · exact hA902.out
    clear hK K
    try simp only [Act.put, List.setIfInBounds_toArray, List.set_cons_zero, List.set_cons_succ, List.getElem_toArray, List.getElem_cons_zero, List.getElem_cons_succ]
    refine wpAnyH_take (i := 10) (oi := _) (v := ?_) rfl (by kernel_rfl) (by kernel_rfl) (by kernel_rfl) (fun _ _ _ h => h) (Or.inl ⟨by rfl, ?_⟩) (by assumption) ?_
    rotate_left
    · intro w hSw
      try dsimp only at hSw
      go_simp
      try with_reducible rfl
    try simp only [Act.put, List.setIfInBounds_toArray, List.set_cons_zero, List.set_cons_succ, List.getElem_toArray, List.getElem_cons_zero, List.getElem_cons_succ]
    refine wpAnyH_take (i := 14) (oi := _) (v := .bool false) rfl (by kernel_rfl) (by kernel_rfl) (by kernel_rfl) (fun _ _ _ h => h) (Or.inl ⟨by rfl, ?_⟩) (by assumption) ?_
    · intro w hSw
      try dsimp only at hSw
      go_simp
      try with_reducible rfl
    try simp only [Act.put, List.setIfInBounds_toArray, List.set_cons_zero, List.set_cons_succ, List.getElem_toArray, List.getElem_cons_zero, List.getElem_cons_succ]
    refine wpAnyH_take (i := 15) (oi := _) (v := ?_) rfl (by kernel_rfl) (by kernel_rfl) (by kernel_rfl) (fun _ _ _ h => h) (Or.inl ⟨by rfl, ?_⟩) (by assumption) ?_
    rotate_left
    · intro w hSw
      try dsimp only at hSw
      go_simp
      try with_reducible rfl
    try simp only [Act.put, List.setIfInBounds_toArray, List.set_cons_zero, List.set_cons_succ, List.getElem_toArray, List.getElem_cons_zero, List.getElem_cons_succ]
    refine wpAnyH_take (i := 16) (oi := _) (v := ?_) rfl (by kernel_rfl) (by kernel_rfl) (by kernel_rfl) (fun _ _ _ h => h) (Or.inl ⟨by rfl, ?_⟩) (by assumption) ?_
    rotate_left
    · intro w hSw
      try dsimp only at hSw
      go_simp
      try with_reducible rfl
    try simp only [Act.put, List.setIfInBounds_toArray, List.set_cons_zero, List.set_cons_succ, List.getElem_toArray, List.getElem_cons_zero, List.getElem_cons_succ]
    refine take_held (i := 17) (v := .agg (byteCells (kid l 0)).toArray) rfl (by kernel_rfl) (by kernel_rfl) (by kernel_rfl) (fun _ _ _ h => h) (yieldsIf_load_mid (by rfl) _ _ rfl L 0 rfl (byteCells (kid l 0)) _ (fun w h => kid_range (range_block hall (Below.block h _ hL7)) 0) Tryd.underlying25 rfl (iK 0 (by decide))) (by assumption) ?_
    try simp only [Act.put, List.setIfInBounds_toArray, List.set_cons_zero, List.set_cons_succ, List.getElem_toArray, List.getElem_cons_zero, List.getElem_cons_succ]
    refine wpAnyH_take (i := 19) (oi := _) (v := ?_) rfl (by kernel_rfl) (by kernel_rfl) (by kernel_rfl) (fun _ _ _ h => h) (Or.inl ⟨by rfl, ?_⟩) (by assumption) ?_
    rotate_left
    · intro w hSw
      try dsimp only at hSw
      go_simp
      try with_reducible rfl
    try simp only [Act.put, List.setIfInBounds_toArray, List.set_cons_zero, List.set_cons_succ, List.getElem_toArray, List.getElem_cons_zero, List.getElem_cons_succ]
    refine take_held (i := 20) (v := .agg (byteCells (kid l 1)).toArray) rfl (by kernel_rfl) (by kernel_rfl) (by kernel_rfl) (fun _ _ _ h => h) (yieldsIf_load_mid (by rfl) _ _ rfl L 32 rfl (byteCells (kid l 1)) _ (fun w h => kid_range (range_block hall (Below.block h _ hL7)) 1) Tryd.underlying25 rfl (iK 1 (by decide))) (by assumption) ?_
    try simp only [Act.put, List.setIfInBounds_toArray, List.set_cons_zero, List.set_cons_succ, List.getElem_toArray, List.getElem_cons_zero, List.getElem_cons_succ]
    refine wpAnyH_take (i := 22) (oi := _) (v := ?_) rfl (by kernel_rfl) (by kernel_rfl) (by kernel_rfl) (fun _ _ _ h => h) (Or.inl ⟨by rfl, ?_⟩) (by assumption) ?_
    rotate_left
    · intro w hSw
      try dsimp only at hSw
      go_simp
      try with_reducible rfl
    try simp only [Act.put, List.setIfInBounds_toArray, List.set_cons_zero, List.set_cons_succ, List.getElem_toArray, List.getElem_cons_zero, List.getElem_cons_succ]
    refine take_held (i := 23) (v := .agg (byteCells (kid l 2)).toArray) rfl (by kernel_rfl) (by kernel_rfl) (by kernel_rfl) (fun _ _ _ h => h) (yieldsIf_load_mid (by rfl) _ _ rfl L 64 rfl (byteCells (kid l 2)) _ (fun w h => kid_range (range_block hall (Below.block h _ hL7)) 2) Tryd.underlying25 rfl (iK 2 (by decide))) (by assumption) ?_
    try simp only [Act.put, List.setIfInBounds_toArray, List.set_cons_zero, List.set_cons_succ, List.getElem_toArray, List.getElem_cons_zero, List.getElem_cons_succ]
    refine wpAnyH_take (i := 25) (oi := _) (v := ?_) rfl (by kernel_rfl) (by kernel_rfl) (by kernel_rfl) (fun _ _ _ h => h) (Or.inl ⟨by rfl, ?_⟩) (by assumption) ?_
    rotate_left
    · intro w hSw
      try dsimp only at hSw
      go_simp
      try with_reducible rfl
    try simp only [Act.put, List.setIfInBounds_toArray, List.set_cons_zero, List.set_cons_succ, List.getElem_toArray, List.getElem_cons_zero, List.getElem_cons_succ]
    refine take_held (i := 26) (v := .agg (byteCells (kid l 3)).toArray) rfl (by kernel_rfl) (by kernel_rfl) (by kernel_rfl) (fun _ _ _ h => h) (yieldsIf_load_mid (by rfl) _ _ rfl L 96 rfl (byteCells (kid l 3)) _ (fun w h => kid_range (range_block hall (Below.block h _ hL7)) 3) Tryd.underlying25 rfl (iK 3 (by decide))) (by assumption) ?_
    try simp only [Act.put, List.setIfInBounds_toArray, List.set_cons_zero, List.set_cons_succ, List.getElem_toArray, List.getElem_cons_zero, List.getElem_cons_succ]
    refine wpAnyH_take (i := 28) (oi := _) (v := ?_) rfl (by kernel_rfl) (by kernel_rfl) (by kernel_rfl) (fun _ _ _ h => h) (Or.inl ⟨by rfl, ?_⟩) (by assumption) ?_
    rotate_left
    · intro w hSw
      try dsimp only at hSw
      go_simp
      try with_reducible rfl
    try simp only [Act.put, List.setIfInBounds_toArray, List.set_cons_zero, List.set_cons_succ, List.getElem_toArray, List.getElem_cons_zero, List.getElem_cons_succ]
    refine take_held (i := 29) (v := .agg (byteCells (kid l 4)).toArray) rfl (by kernel_rfl) (by kernel_rfl) (by kernel_rfl) (fun _ _ _ h => h) (yieldsIf_load_mid (by rfl) _ _ rfl L 128 rfl (byteCells (kid l 4)) _ (fun w h => kid_range (range_block hall (Below.block h _ hL7)) 4) Tryd.underlying25 rfl (iK 4 (by decide))) (by assumption) ?_
    try simp only [Act.put, List.setIfInBounds_toArray, List.set_cons_zero, List.set_cons_succ, List.getElem_toArray, List.getElem_cons_zero, List.getElem_cons_succ]
    refine wpAnyH_take (i := 31) (oi := _) (v := ?_) rfl (by kernel_rfl) (by kernel_rfl) (by kernel_rfl) (fun _ _ _ h => h) (Or.inl ⟨by rfl, ?_⟩) (by assumption) ?_
    rotate_left
    · intro w hSw
      try dsimp only at hSw
      go_simp
      try with_reducible rfl
    try simp only [Act.put, List.setIfInBounds_toArray, List.set_cons_zero, List.set_cons_succ, List.getElem_toArray, List.getElem_cons_zero, List.getElem_cons_succ]
    refine take_held (i := 32) (v := .agg (byteCells (kid l 5)).toArray) rfl (by kernel_rfl) (by kernel_rfl) (by kernel_rfl) (fun _ _ _ h => h) (yieldsIf_load_mid (by rfl) _ _ rfl L 160 rfl (byteCells (kid l 5)) _ (fun w h => kid_range (range_block hall (Below.block h _ hL7)) 5) Tryd.underlying25 rfl (iK 5 (by decide))) (by assumption) ?_
    try simp only [Act.put, List.setIfInBounds_toArray, List.set_cons_zero, List.set_cons_succ, List.getElem_toArray, List.getElem_cons_zero, List.getElem_cons_succ]
    refine wpAnyH_take (i := 34) (oi := _) (v := ?_) rfl (by kernel_rfl) (by kernel_rfl) (by kernel_rfl) (fun _ _ _ h => h) (Or.inl ⟨by rfl, ?_⟩) (by assumption) ?_
    rotate_left
    · intro w hSw
      try dsimp only at hSw
      go_simp
      try with_reducible rfl
    try simp only [Act.put, List.setIfInBounds_toArray, List.set_cons_zero, List.set_cons_succ, List.getElem_toArray, List.getElem_cons_zero, List.getElem_cons_succ]
    refine take_held (i := 35) (v := .agg (byteCells (kid l 6)).toArray) rfl (by kernel_rfl) (by kernel_rfl) (by kernel_rfl) (fun _ _ _ h => h) (yieldsIf_load_mid (by rfl) _ _ rfl L 192 rfl (byteCells (kid l 6)) _ (fun w h => kid_range (range_block hall (Below.block h _ hL7)) 6) Tryd.underlying25 rfl (iK 6 (by decide))) (by assumption) ?_
    try simp only [Act.put, List.setIfInBounds_toArray, List.set_cons_zero, List.set_cons_succ, List.getElem_toArray, List.getElem_cons_zero, List.getElem_cons_succ]
    refine wpAnyH_take (i := 37) (oi := _) (v := ?_) rfl (by kernel_rfl) (by kernel_rfl) (by kernel_rfl) (fun _ _ _ h => h) (Or.inl ⟨by rfl, ?_⟩) (by assumption) ?_
    rotate_left
    · intro w hSw
      try dsimp only at hSw
      go_simp
      try with_reducible rfl
    try simp only [Act.put, List.setIfInBounds_toArray, List.set_cons_zero, List.set_cons_succ, List.getElem_toArray, List.getElem_cons_zero, List.getElem_cons_succ]
    refine take_held (i := 38) (v := .agg (byteCells (kid l 7)).toArray) rfl (by kernel_rfl) (by kernel_rfl) (by kernel_rfl) (fun _ _ _ h => h) (yieldsIf_load_mid (by rfl) _ _ rfl L 224 rfl (byteCells (kid l 7)) _ (fun w h => kid_range (range_block hall (Below.block h _ hL7)) 7) Tryd.underlying25 rfl (iK 7 (by decide))) (by assumption) ?_
    try simp only [Act.put, List.setIfInBounds_toArray, List.set_cons_zero, List.set_cons_succ, List.getElem_toArray, List.getElem_cons_zero, List.getElem_cons_succ]
    refine wpAnyH_ready (rs := [18, 42]) (by kernel_rfl) (by simp) ?_
    refine AllReadyH.cons (o := _) rfl (fun K hK => ?_) (AllReadyH.cons (o := _) rfl (fun K hK => ?_) AllReadyH.nil)
    · go_simp
      go_at_call 14
      refine (KT 0 (by decide) _).mono ?_
      rintro e y12 ⟨rfl, hB_⟩
      have hA12 := hid (hA902.out.step (hB_))
      clear hB_
      try dsimp only
      refine hK.out _ _ ?_ (fun hHeld => ?_)
      · exact hA12.out
      clear hK K
      try simp only [Act.put, List.setIfInBounds_toArray, List.set_cons_zero, List.set_cons_succ, List.getElem_toArray, List.getElem_cons_zero, List.getElem_cons_succ]
      refine wpAnyH_ready (rs := [21, 42]) (by kernel_rfl) (by simp) ?_
      refine AllReadyH.cons (o := _) rfl (fun K hK => ?_) (AllReadyH.cons (o := _) rfl (fun K hK => ?_) AllReadyH.nil)
      · go_simp
        go_at_call 14
        refine (KT 1 (by decide) _).mono ?_
        rintro e y23 ⟨rfl, hB_⟩
        have hA23 := hid (hA12.out.step (hB_))
        clear hB_
        try dsimp only
        refine hK.out _ _ ?_ (fun hHeld => ?_)
        · exact hA23.out
        clear hK K
        try simp only [Act.put, List.setIfInBounds_toArray, List.set_cons_zero, List.set_cons_succ, List.getElem_toArray, List.getElem_cons_zero, List.getElem_cons_succ]
        refine wpAnyH_ready (rs := [24, 42]) (by kernel_rfl) (by simp) ?_
        refine AllReadyH.cons (o := _) rfl (fun K hK => ?_) (AllReadyH.cons (o := _) rfl (fun K hK => ?_) AllReadyH.nil)
        · go_simp
          go_at_call 14
          refine (KT 2 (by decide) _).mono ?_
          rintro e y33 ⟨rfl, hB_⟩
          have hA33 := hid (hA23.out.step (hB_))
          clear hB_
          try dsimp only
          refine hK.out _ _ ?_ (fun hHeld => ?_)
          · exact hA33.out
          clear hK K
          try simp only [Act.put, List.setIfInBounds_toArray, List.set_cons_zero, List.set_cons_succ, List.getElem_toArray, List.getElem_cons_zero, List.getElem_cons_succ]
          refine wpAnyH_ready (rs := [27, 42]) (by kernel_rfl) (by simp) ?_
          refine AllReadyH.cons (o := _) rfl (fun K hK => ?_) (AllReadyH.cons (o := _) rfl (fun K hK => ?_) AllReadyH.nil)
          · go_simp
            go_at_call 14
            refine (KT 3 (by decide) _).mono ?_
            rintro e y42 ⟨rfl, hB_⟩
            have hA42 := hid (hA33.out.step (hB_))
            clear hB_
            try dsimp only
            refine hK.out _ _ ?_ (fun hHeld => ?_)
            · exact hA42.out
            clear hK K
            try simp only [Act.put, List.setIfInBounds_toArray, List.set_cons_zero, List.set_cons_succ, List.getElem_toArray, List.getElem_cons_zero, List.getElem_cons_succ]
            refine wpAnyH_ready (rs := [30, 42]) (by kernel_rfl) (by simp) ?_
            refine AllReadyH.cons (o := _) rfl (fun K hK => ?_) (AllReadyH.cons (o := _) rfl (fun K hK => ?_) AllReadyH.nil)
            · go_simp
              go_at_call 14
              refine (KT 4 (by decide) _).mono ?_
              rintro e y50 ⟨rfl, hB_⟩
              have hA50 := hid (hA42.out.step (hB_))
              clear hB_
              try dsimp only
              refine hK.out _ _ ?_ (fun hHeld => ?_)
              · exact hA50.out
              clear hK K
              try simp only [Act.put, List.setIfInBounds_toArray, List.set_cons_zero, List.set_cons_succ, List.getElem_toArray, List.getElem_cons_zero, List.getElem_cons_succ]
              refine wpAnyH_ready (rs := [33, 42]) (by kernel_rfl) (by simp) ?_
              refine AllReadyH.cons (o := _) rfl (fun K hK => ?_) (AllReadyH.cons (o := _) rfl (fun K hK => ?_) AllReadyH.nil)
              · go_simp
                go_at_call 14
                refine (KT 5 (by decide) _).mono ?_
                rintro e y57 ⟨rfl, hB_⟩
                have hA57 := hid (hA50.out.step (hB_))
                clear hB_
                try dsimp only
                refine hK.out _ _ ?_ (fun hHeld => ?_)
                · exact hA57.out
                clear hK K
                try simp only [Act.put, List.setIfInBounds_toArray, List.set_cons_zero, List.set_cons_succ, List.getElem_toArray, List.getElem_cons_zero, List.getElem_cons_succ]
                refine wpAnyH_ready (rs := [36, 42]) (by kernel_rfl) (by simp) ?_
                refine AllReadyH.cons (o := _) rfl (fun K hK => ?_) (AllReadyH.cons (o := _) rfl (fun K hK => ?_) AllReadyH.nil)
                · go_simp
                  go_at_call 14
                  refine (KT 6 (by decide) _).mono ?_
                  rintro e y63 ⟨rfl, hB_⟩
                  have hA63 := hid (hA57.out.step (hB_))
                  clear hB_
                  try dsimp only
                  refine hK.out _ _ ?_ (fun hHeld => ?_)
                  · exact hA63.out
                  clear hK K
                  try simp only [Act.put, List.setIfInBounds_toArray, List.set_cons_zero, List.set_cons_succ, List.getElem_toArray, List.getElem_cons_zero, List.getElem_cons_succ]
                  refine wpAnyH_ready (rs := [39, 42]) (by kernel_rfl) (by simp) ?_
                  refine AllReadyH.cons (o := _) rfl (fun K hK => ?_) (AllReadyH.cons (o := _) rfl (fun K hK => ?_) AllReadyH.nil)
                  · go_simp
                    go_at_call 14
                    refine (KT 7 (by decide) _).mono ?_
                    rintro e y68 ⟨rfl, hB_⟩
                    have hA68 := hid (hA63.out.step (hB_))
                    clear hB_
                    try dsimp only
                    refine hK.out _ _ ?_ (fun hHeld => ?_)
                    · exact hA68.out
                    clear hK K
                    try simp only [Act.put, List.setIfInBounds_toArray, List.set_cons_zero, List.set_cons_succ, List.getElem_toArray, List.getElem_cons_zero, List.getElem_cons_succ]
                    refine wpAnyH_ready (rs := [40, 42]) (by kernel_rfl) (by simp) ?_
                    refine AllReadyH.cons (o := _) rfl (fun K hK => ?_) (AllReadyH.cons (o := _) rfl (fun K hK => ?_) AllReadyH.nil)
                    · go_simp
                      have hA72 := hid (hA68.out.step ((Below.refl _ y68).alloc (Nat.le_refl _) (.cells #[.string (S (kid l 0)), .string (S (kid l 1)), .string (S (kid l 2)), .string (S (kid l 3)), .string (S (kid l 4)), .string (S (kid l 5)), .string (S (kid l 6)), .string (S (kid l 7))] 9)))
                      have hP72 := heap_new y68 (.cells #[.string (S (kid l 0)), .string (S (kid l 1)), .string (S (kid l 2)), .string (S (kid l 3)), .string (S (kid l 4)), .string (S (kid l 5)), .string (S (kid l 6)), .string (S (kid l 7))] 9)
                      generalize hy72 : y68.alloc (.cells #[.string (S (kid l 0)), .string (S (kid l 1)), .string (S (kid l 2)), .string (S (kid l 3)), .string (S (kid l 4)), .string (S (kid l 5)), .string (S (kid l 6)), .string (S (kid l 7))] 9) = y72 at hA72 hP72 ⊢
                      generalize hz72 : y68.heap.size = z72 at hP72 ⊢
                      clear hy72 hz72
                      try dsimp only
                      refine hK.out _ _ ?_ (fun hHeld => ?_)
                      · exact hA72.out
                      clear hK K
                      try simp only [Act.put, List.setIfInBounds_toArray, List.set_cons_zero, List.set_cons_succ, List.getElem_toArray, List.getElem_cons_zero, List.getElem_cons_succ]
                      refine wpAnyH_ready (rs := [41, 42]) (by kernel_rfl) (by simp) ?_
                      refine AllReadyH.cons (o := _) rfl (fun K hK => ?_) (AllReadyH.cons (o := _) rfl (fun K hK => ?_) AllReadyH.nil)
                      · go_simp
                        go_at_call 21
                        refine (KR.out _ _ hP72).mono ?_
                        rintro e y75 ⟨rfl, hB_⟩
                        have hA75 := hid (hA72.out.step (hB_))
                        have hP75 := (hB_.block _ (lt_of_block hP72)).trans hP72
                        clear hB_
                        try dsimp only
                        refine hK.out _ _ ?_ (fun hHeld => ?_)
                        · exact hA75.out
                        clear hK K
                        try simp only [Act.put, List.setIfInBounds_toArray, List.set_cons_zero, List.set_cons_succ, List.getElem_toArray, List.getElem_cons_zero, List.getElem_cons_succ]
                        refine wpAnyH_ready (rs := [42]) (by kernel_rfl) (by simp) ?_
                        refine AllReadyH.cons (o := _) rfl (fun K hK => ?_) AllReadyH.nil
                        go_simp
                        have hA76 := hid (hA75.out.step ((Below.refl _ y75).alloc (Nat.le_refl _) (.cells (zeros 32) 5)))
                        have hG76 := heap_new y75 (.cells (zeros 32) 5)
                        have hP76 := heap_old hP75 (.cells (zeros 32) 5)
                        generalize hy76 : y75.alloc (.cells (zeros 32) 5) = y76 at hA76 hG76 hP76 ⊢
                        generalize hz76 : y75.heap.size = z76 at hG76 ⊢
                        clear hy76 hz76
                        try dsimp only
                        refine hK.out _ _ ?_ (fun hHeld => ?_)
                        · exact hA76.out
                        clear hK K
                        try simp only [Act.put, List.setIfInBounds_toArray, List.set_cons_zero, List.set_cons_succ, List.getElem_toArray, List.getElem_cons_zero, List.getElem_cons_succ]
                        refine wpAnyH_more (S' := fun w' => After w7 w' ∧ w'.heap[z76]? = some (.cells (zeros 32) 5 (0, 0))) (fun _ h => h.1) _ _ _ _ ?_
                        have hHeld2 : (fun w' => After w7 w' ∧ w'.heap[z76]? = some (.cells (zeros 32) 5 (0, 0))) y76 := ⟨hA76.out, hG76⟩
                        refine wpAnyH_take (i := 43) (oi := _) (v := .string (S zero32)) rfl (by kernel_rfl) (by kernel_rfl) (by kernel_rfl) (fun _ _ _ h => h) (Or.inl ⟨by rfl, ?_⟩) (by assumption) ?_
                        · intro w hSw
                          have hcv := conv_z hSw.2
                          go_simp
                        try simp only [Act.put, List.setIfInBounds_toArray, List.set_cons_zero, List.set_cons_succ, List.getElem_toArray, List.getElem_cons_zero, List.getElem_cons_succ]
                        refine wpAnyH_take (i := 44) (oi := _) (v := ?_) rfl (by kernel_rfl) (by kernel_rfl) (by kernel_rfl) (fun _ _ _ h => h) (Or.inl ⟨by rfl, ?_⟩) (by assumption) ?_
                        rotate_left
                        · intro w hSw
                          try dsimp only at hSw
                          go_simp
                          try with_reducible rfl
                        try simp only [Act.put, List.setIfInBounds_toArray, List.set_cons_zero, List.set_cons_succ, List.getElem_toArray, List.getElem_cons_zero, List.getElem_cons_succ]
                        refine wpAnyH_take (i := 45) (oi := _) (v := ?_) rfl (by kernel_rfl) (by kernel_rfl) (by kernel_rfl) (fun _ _ _ h => h) (Or.inl ⟨by rfl, ?_⟩) (by assumption) ?_
                        rotate_left
                        · intro w hSw
                          try dsimp only at hSw
                          go_simp
                          try with_reducible rfl
                        try simp only [Act.put, List.setIfInBounds_toArray, List.set_cons_zero, List.set_cons_succ, List.getElem_toArray, List.getElem_cons_zero, List.getElem_cons_succ]
                        refine wpAnyH_take (i := 46) (oi := _) (v := .bool true) rfl (by kernel_rfl) (by kernel_rfl) (by kernel_rfl) (fun _ _ _ h => h) (Or.inl ⟨by rfl, ?_⟩) (by assumption) ?_
                        · intro w hSw
                          try dsimp only at hSw
                          go_simp
                          try with_reducible rfl
                        try simp only [Act.put, List.setIfInBounds_toArray, List.set_cons_zero, List.set_cons_succ, List.getElem_toArray, List.getElem_cons_zero, List.getElem_cons_succ]
                        refine wpAnyH_take (i := 47) (oi := _) (v := .bool true) rfl (by kernel_rfl) (by kernel_rfl) (by kernel_rfl) (fun _ _ _ h => h) (Or.inl ⟨by rfl, ?_⟩) (by assumption) ?_
                        · intro w hSw
                          try dsimp only at hSw
                          go_simp
                          try with_reducible rfl
                        try simp only [Act.put, List.setIfInBounds_toArray, List.set_cons_zero, List.set_cons_succ, List.getElem_toArray, List.getElem_cons_zero, List.getElem_cons_succ]
                        refine wpAnyH_ready (rs := [48]) (by kernel_rfl) (by simp) ?_
                        refine AllReadyH.cons (o := _) rfl (fun K hK => ?_) AllReadyH.nil
                        go_simp
                        try dsimp only
                        refine hK.out _ _ ?_ (fun hHeld => ?_)
                        · exact ⟨hA76.out, hG76⟩
                        clear hK K
                        try simp only [Act.put, List.setIfInBounds_toArray, List.set_cons_zero, List.set_cons_succ, List.getElem_toArray, List.getElem_cons_zero, List.getElem_cons_succ]
                        refine wpAnyH_done (by kernel_rfl) ?_ _
                        go_wp2_with fail
                        go_ret
                        exact ⟨rfl, HB7.out.trans (Below.mono hA76.out HB7.out.size)⟩
                      · go_simp
                        have hA73 := hid (hA72.out.step ((Below.refl _ y72).alloc (Nat.le_refl _) (.cells (zeros 32) 5)))
                        have hG73 := heap_new y72 (.cells (zeros 32) 5)
                        have hP73 := heap_old hP72 (.cells (zeros 32) 5)
                        generalize hy73 : y72.alloc (.cells (zeros 32) 5) = y73 at hA73 hG73 hP73 ⊢
                        generalize hz73 : y72.heap.size = z73 at hG73 ⊢
                        clear hy73 hz73
                        try dsimp only
                        refine hK.out _ _ ?_ (fun hHeld => ?_)
                        · exact hA73.out
                        clear hK K
                        try simp only [Act.put, List.setIfInBounds_toArray, List.set_cons_zero, List.set_cons_succ, List.getElem_toArray, List.getElem_cons_zero, List.getElem_cons_succ]
                        refine wpAnyH_more (S' := fun w' => After w7 w' ∧ w'.heap[z73]? = some (.cells (zeros 32) 5 (0, 0))) (fun _ h => h.1) _ _ _ _ ?_
                        have hHeld2 : (fun w' => After w7 w' ∧ w'.heap[z73]? = some (.cells (zeros 32) 5 (0, 0))) y73 := ⟨hA73.out, hG73⟩
                        refine wpAnyH_take (i := 43) (oi := _) (v := .string (S zero32)) rfl (by kernel_rfl) (by kernel_rfl) (by kernel_rfl) (fun _ _ _ h => h) (Or.inl ⟨by rfl, ?_⟩) (by assumption) ?_
                        · intro w hSw
                          have hcv := conv_z hSw.2
                          go_simp
                        try simp only [Act.put, List.setIfInBounds_toArray, List.set_cons_zero, List.set_cons_succ, List.getElem_toArray, List.getElem_cons_zero, List.getElem_cons_succ]
                        refine wpAnyH_ready (rs := [41]) (by kernel_rfl) (by simp) ?_
                        refine AllReadyH.cons (o := _) rfl (fun K hK => ?_) AllReadyH.nil
                        go_simp
                        go_at_call 21
                        refine (KR.out _ _ hP73).mono ?_
                        rintro e y74 ⟨rfl, hB_⟩
                        have hA74 := hid (hA73.out.step (hB_))
                        have hG74 := (hB_.block _ (lt_of_block hG73)).trans hG73
                        have hP74 := (hB_.block _ (lt_of_block hP73)).trans hP73
                        clear hB_
                        try dsimp only
                        refine hK.out _ _ ?_ (fun hHeld => ?_)
                        · exact ⟨hA74.out, hG74⟩
                        clear hK K
                        try simp only [Act.put, List.setIfInBounds_toArray, List.set_cons_zero, List.set_cons_succ, List.getElem_toArray, List.getElem_cons_zero, List.getElem_cons_succ]
                        refine wpAnyH_take (i := 44) (oi := _) (v := ?_) rfl (by kernel_rfl) (by kernel_rfl) (by kernel_rfl) (fun _ _ _ h => h) (Or.inl ⟨by rfl, ?_⟩) (by assumption) ?_
                        rotate_left
                        · intro w hSw
                          try dsimp only at hSw
                          go_simp
                          try with_reducible rfl
                        try simp only [Act.put, List.setIfInBounds_toArray, List.set_cons_zero, List.set_cons_succ, List.getElem_toArray, List.getElem_cons_zero, List.getElem_cons_succ]
                        refine wpAnyH_take (i := 45) (oi := _) (v := ?_) rfl (by kernel_rfl) (by kernel_rfl) (by kernel_rfl) (fun _ _ _ h => h) (Or.inl ⟨by rfl, ?_⟩) (by assumption) ?_
                        rotate_left
                        · intro w hSw
                          try dsimp only at hSw
                          go_simp
                          try with_reducible rfl
                        try simp only [Act.put, List.setIfInBounds_toArray, List.set_cons_zero, List.set_cons_succ, List.getElem_toArray, List.getElem_cons_zero, List.getElem_cons_succ]
                        refine wpAnyH_take (i := 46) (oi := _) (v := .bool true) rfl (by kernel_rfl) (by kernel_rfl) (by kernel_rfl) (fun _ _ _ h => h) (Or.inl ⟨by rfl, ?_⟩) (by assumption) ?_
                        · intro w hSw
                          try dsimp only at hSw
                          go_simp
                          try with_reducible rfl
                        try simp only [Act.put, List.setIfInBounds_toArray, List.set_cons_zero, List.set_cons_succ, List.getElem_toArray, List.getElem_cons_zero, List.getElem_cons_succ]
                        refine wpAnyH_take (i := 47) (oi := _) (v := .bool true) rfl (by kernel_rfl) (by kernel_rfl) (by kernel_rfl) (fun _ _ _ h => h) (Or.inl ⟨by rfl, ?_⟩) (by assumption) ?_
                        · intro w hSw
                          try dsimp only at hSw
                          go_simp
                          try with_reducible rfl
                        try simp only [Act.put, List.setIfInBounds_toArray, List.set_cons_zero, List.set_cons_succ, List.getElem_toArray, List.getElem_cons_zero, List.getElem_cons_succ]
                        refine wpAnyH_ready (rs := [48]) (by kernel_rfl) (by simp) ?_
                        refine AllReadyH.cons (o := _) rfl (fun K hK => ?_) AllReadyH.nil
                        go_simp
                        try dsimp only
                        refine hK.out _ _ ?_ (fun hHeld => ?_)
                        · exact ⟨hA74.out, hG74⟩
                        clear hK K
                        try simp only [Act.put, List.setIfInBounds_toArray, List.set_cons_zero, List.set_cons_succ, List.getElem_toArray, List.getElem_cons_zero, List.getElem_cons_succ]
                        refine wpAnyH_done (by kernel_rfl) ?_ _
                        go_wp2_with fail
                        go_ret
                        exact ⟨rfl, HB7.out.trans (Below.mono hA74.out HB7.out.size)⟩
                    · go_simp
                      have hA69 := hid (hA68.out.step ((Below.refl _ y68).alloc (Nat.le_refl _) (.cells (zeros 32) 5)))
                      have hG69 := heap_new y68 (.cells (zeros 32) 5)
                      generalize hy69 : y68.alloc (.cells (zeros 32) 5) = y69 at hA69 hG69 ⊢
                      generalize hz69 : y68.heap.size = z69 at hG69 ⊢
                      clear hy69 hz69
                      try dsimp only
                      refine hK.out _ _ ?_ (fun hHeld => ?_)
                      · exact hA69.out
                      clear hK K
                      try simp only [Act.put, List.setIfInBounds_toArray, List.set_cons_zero, List.set_cons_succ, List.getElem_toArray, List.getElem_cons_zero, List.getElem_cons_succ]
                      refine wpAnyH_more (S' := fun w' => After w7 w' ∧ w'.heap[z69]? = some (.cells (zeros 32) 5 (0, 0))) (fun _ h => h.1) _ _ _ _ ?_
                      have hHeld2 : (fun w' => After w7 w' ∧ w'.heap[z69]? = some (.cells (zeros 32) 5 (0, 0))) y69 := ⟨hA69.out, hG69⟩
                      refine wpAnyH_take (i := 43) (oi := _) (v := .string (S zero32)) rfl (by kernel_rfl) (by kernel_rfl) (by kernel_rfl) (fun _ _ _ h => h) (Or.inl ⟨by rfl, ?_⟩) (by assumption) ?_
                      · intro w hSw
                        have hcv := conv_z hSw.2
                        go_simp
                      try simp only [Act.put, List.setIfInBounds_toArray, List.set_cons_zero, List.set_cons_succ, List.getElem_toArray, List.getElem_cons_zero, List.getElem_cons_succ]
                      refine wpAnyH_ready (rs := [40]) (by kernel_rfl) (by simp) ?_
                      refine AllReadyH.cons (o := _) rfl (fun K hK => ?_) AllReadyH.nil
                      go_simp
                      have hA70 := hid (hA69.out.step ((Below.refl _ y69).alloc (Nat.le_refl _) (.cells #[.string (S (kid l 0)), .string (S (kid l 1)), .string (S (kid l 2)), .string (S (kid l 3)), .string (S (kid l 4)), .string (S (kid l 5)), .string (S (kid l 6)), .string (S (kid l 7))] 9)))
                      have hP70 := heap_new y69 (.cells #[.string (S (kid l 0)), .string (S (kid l 1)), .string (S (kid l 2)), .string (S (kid l 3)), .string (S (kid l 4)), .string (S (kid l 5)), .string (S (kid l 6)), .string (S (kid l 7))] 9)
                      have hG70 := heap_old hG69 (.cells #[.string (S (kid l 0)), .string (S (kid l 1)), .string (S (kid l 2)), .string (S (kid l 3)), .string (S (kid l 4)), .string (S (kid l 5)), .string (S (kid l 6)), .string (S (kid l 7))] 9)
                      generalize hy70 : y69.alloc (.cells #[.string (S (kid l 0)), .string (S (kid l 1)), .string (S (kid l 2)), .string (S (kid l 3)), .string (S (kid l 4)), .string (S (kid l 5)), .string (S (kid l 6)), .string (S (kid l 7))] 9) = y70 at hA70 hP70 hG70 ⊢
                      generalize hz70 : y69.heap.size = z70 at hP70 ⊢
                      clear hy70 hz70
                      try dsimp only
                      refine hK.out _ _ ?_ (fun hHeld => ?_)
                      · exact ⟨hA70.out, hG70⟩
                      clear hK K
                      try simp only [Act.put, List.setIfInBounds_toArray, List.set_cons_zero, List.set_cons_succ, List.getElem_toArray, List.getElem_cons_zero, List.getElem_cons_succ]
                      refine wpAnyH_ready (rs := [41]) (by kernel_rfl) (by simp) ?_
                      refine AllReadyH.cons (o := _) rfl (fun K hK => ?_) AllReadyH.nil
                      go_simp
                      go_at_call 21
                      refine (KR.out _ _ hP70).mono ?_
                      rintro e y71 ⟨rfl, hB_⟩
                      have hA71 := hid (hA70.out.step (hB_))
                      have hG71 := (hB_.block _ (lt_of_block hG70)).trans hG70
                      have hP71 := (hB_.block _ (lt_of_block hP70)).trans hP70
                      clear hB_
                      try dsimp only
                      refine hK.out _ _ ?_ (fun hHeld => ?_)
                      · exact ⟨hA71.out, hG71⟩
                      clear hK K
                      try simp only [Act.put, List.setIfInBounds_toArray, List.set_cons_zero, List.set_cons_succ, List.getElem_toArray, List.getElem_cons_zero, List.getElem_cons_succ]
                      refine wpAnyH_take (i := 44) (oi := _) (v := ?_) rfl (by kernel_rfl) (by kernel_rfl) (by kernel_rfl) (fun _ _ _ h => h) (Or.inl ⟨by rfl, ?_⟩) (by assumption) ?_
                      rotate_left
                      · intro w hSw
                        try dsimp only at hSw
                        go_simp
                        try with_reducible rfl
                      try simp only [Act.put, List.setIfInBounds_toArray, List.set_cons_zero, List.set_cons_succ, List.getElem_toArray, List.getElem_cons_zero, List.getElem_cons_succ]
                      refine wpAnyH_take (i := 45) (oi := _) (v := ?_) rfl (by kernel_rfl) (by kernel_rfl) (by kernel_rfl) (fun _ _ _ h => h) (Or.inl ⟨by rfl, ?_⟩) (by assumption) ?_
                      rotate_left
                      · intro w hSw
                        try dsimp only at hSw
                        go_simp
                        try with_reducible rfl
                      try simp only [Act.put, List.setIfInBounds_toArray, List.set_cons_zero, List.set_cons_succ, List.getElem_toArray, List.getElem_cons_zero, List.getElem_cons_succ]
                      refine wpAnyH_take (i := 46) (oi := _) (v := .bool true) rfl (by kernel_rfl) (by kernel_rfl) (by kernel_rfl) (fun _ _ _ h => h) (Or.inl ⟨by rfl, ?_⟩) (by assumption) ?_
                      · intro w hSw
                        try dsimp only at hSw
                        go_simp
                        try with_reducible rfl
                      try simp only [Act.put, List.setIfInBounds_toArray, List.set_cons_zero, List.set_cons_succ, List.getElem_toArray, List.getElem_cons_zero, List.getElem_cons_succ]
                      refine wpAnyH_take (i := 47) (oi := _) (v := .bool true) rfl (by kernel_rfl) (by kernel_rfl) (by kernel_rfl) (fun _ _ _ h => h) (Or.inl ⟨by rfl, ?_⟩) (by assumption) ?_
                      · intro w hSw
                        try dsimp only at hSw
                        go_simp
                        try with_reducible rfl
                      try simp only [Act.put, List.setIfInBounds_toArray, List.set_cons_zero, List.set_cons_succ, List.getElem_toArray, List.getElem_cons_zero, List.getElem_cons_succ]
                      refine wpAnyH_ready (rs := [48]) (by kernel_rfl) (by simp) ?_
                      refine AllReadyH.cons (o := _) rfl (fun K hK => ?_) AllReadyH.nil
                      go_simp
                      try dsimp only
                      refine hK.out _ _ ?_ (fun hHeld => ?_)
                      · exact ⟨hA71.out, hG71⟩
                      clear hK K
                      try simp only [Act.put, List.setIfInBounds_toArray, List.set_cons_zero, List.set_cons_succ, List.getElem_toArray, List.getElem_cons_zero, List.getElem_cons_succ]
                      refine wpAnyH_done (by kernel_rfl) ?_ _
                      go_wp2_with fail
                      go_ret
                      exact ⟨rfl, HB7.out.trans (Below.mono hA71.out HB7.out.size)⟩
                  · go_simp
                    have hA64 := hid (hA63.out.step ((Below.refl _ y63).alloc (Nat.le_refl _) (.cells (zeros 32) 5)))
                    have hG64 := heap_new y63 (.cells (zeros 32) 5)
                    generalize hy64 : y63.alloc (.cells (zeros 32) 5) = y64 at hA64 hG64 ⊢
                    generalize hz64 : y63.heap.size = z64 at hG64 ⊢
                    clear hy64 hz64
                    try dsimp only
                    refine hK.out _ _ ?_ (fun hHeld => ?_)
                    · exact hA64.out
                    clear hK K
                    try simp only [Act.put, List.setIfInBounds_toArray, List.set_cons_zero, List.set_cons_succ, List.getElem_toArray, List.getElem_cons_zero, List.getElem_cons_succ]
                    refine wpAnyH_more (S' := fun w' => After w7 w' ∧ w'.heap[z64]? = some (.cells (zeros 32) 5 (0, 0))) (fun _ h => h.1) _ _ _ _ ?_
                    have hHeld2 : (fun w' => After w7 w' ∧ w'.heap[z64]? = some (.cells (zeros 32) 5 (0, 0))) y64 := ⟨hA64.out, hG64⟩
                    refine wpAnyH_take (i := 43) (oi := _) (v := .string (S zero32)) rfl (by kernel_rfl) (by kernel_rfl) (by kernel_rfl) (fun _ _ _ h => h) (Or.inl ⟨by rfl, ?_⟩) (by assumption) ?_
                    · intro w hSw
                      have hcv := conv_z hSw.2
                      go_simp
                    try simp only [Act.put, List.setIfInBounds_toArray, List.set_cons_zero, List.set_cons_succ, List.getElem_toArray, List.getElem_cons_zero, List.getElem_cons_succ]
                    refine wpAnyH_ready (rs := [39]) (by kernel_rfl) (by simp) ?_
                    refine AllReadyH.cons (o := _) rfl (fun K hK => ?_) AllReadyH.nil
                    go_simp
                    go_at_call 14
                    refine (KT 7 (by decide) _).mono ?_
                    rintro e y65 ⟨rfl, hB_⟩
                    have hA65 := hid (hA64.out.step (hB_))
                    have hG65 := (hB_.block _ (lt_of_block hG64)).trans hG64
                    clear hB_
                    try dsimp only
                    refine hK.out _ _ ?_ (fun hHeld => ?_)
                    · exact ⟨hA65.out, hG65⟩
                    clear hK K
                    try simp only [Act.put, List.setIfInBounds_toArray, List.set_cons_zero, List.set_cons_succ, List.getElem_toArray, List.getElem_cons_zero, List.getElem_cons_succ]
                    refine wpAnyH_ready (rs := [40]) (by kernel_rfl) (by simp) ?_
                    refine AllReadyH.cons (o := _) rfl (fun K hK => ?_) AllReadyH.nil
                    go_simp
                    have hA66 := hid (hA65.out.step ((Below.refl _ y65).alloc (Nat.le_refl _) (.cells #[.string (S (kid l 0)), .string (S (kid l 1)), .string (S (kid l 2)), .string (S (kid l 3)), .string (S (kid l 4)), .string (S (kid l 5)), .string (S (kid l 6)), .string (S (kid l 7))] 9)))
                    have hP66 := heap_new y65 (.cells #[.string (S (kid l 0)), .string (S (kid l 1)), .string (S (kid l 2)), .string (S (kid l 3)), .string (S (kid l 4)), .string (S (kid l 5)), .string (S (kid l 6)), .string (S (kid l 7))] 9)
                    have hG66 := heap_old hG65 (.cells #[.string (S (kid l 0)), .string (S (kid l 1)), .string (S (kid l 2)), .string (S (kid l 3)), .string (S (kid l 4)), .string (S (kid l 5)), .string (S (kid l 6)), .string (S (kid l 7))] 9)
                    generalize hy66 : y65.alloc (.cells #[.string (S (kid l 0)), .string (S (kid l 1)), .string (S (kid l 2)), .string (S (kid l 3)), .string (S (kid l 4)), .string (S (kid l 5)), .string (S (kid l 6)), .string (S (kid l 7))] 9) = y66 at hA66 hP66 hG66 ⊢
                    generalize hz66 : y65.heap.size = z66 at hP66 ⊢
                    clear hy66 hz66
                    try dsimp only
                    refine hK.out _ _ ?_ (fun hHeld => ?_)
                    · exact ⟨hA66.out, hG66⟩
                    clear hK K
                    try simp only [Act.put, List.setIfInBounds_toArray, List.set_cons_zero, List.set_cons_succ, List.getElem_toArray, List.getElem_cons_zero, List.getElem_cons_succ]
                    refine wpAnyH_ready (rs := [41]) (by kernel_rfl) (by simp) ?_
                    refine AllReadyH.cons (o := _) rfl (fun K hK => ?_) AllReadyH.nil
                    go_simp
                    go_at_call 21
                    refine (KR.out _ _ hP66).mono ?_
                    rintro e y67 ⟨rfl, hB_⟩
                    have hA67 := hid (hA66.out.step (hB_))
                    have hG67 := (hB_.block _ (lt_of_block hG66)).trans hG66
                    have hP67 := (hB_.block _ (lt_of_block hP66)).trans hP66
                    clear hB_
                    try dsimp only
                    refine hK.out _ _ ?_ (fun hHeld => ?_)
                    · exact ⟨hA67.out, hG67⟩
                    clear hK K
                    try simp only [Act.put, List.setIfInBounds_toArray, List.set_cons_zero, List.set_cons_succ, List.getElem_toArray, List.getElem_cons_zero, List.getElem_cons_succ]
                    refine wpAnyH_take (i := 44) (oi := _) (v := ?_) rfl (by kernel_rfl) (by kernel_rfl) (by kernel_rfl) (fun _ _ _ h => h) (Or.inl ⟨by rfl, ?_⟩) (by assumption) ?_
                    rotate_left
                    · intro w hSw
                      try dsimp only at hSw
                      go_simp
                      try with_reducible rfl
                    try simp only [Act.put, List.setIfInBounds_toArray, List.set_cons_zero, List.set_cons_succ, List.getElem_toArray, List.getElem_cons_zero, List.getElem_cons_succ]
                    refine wpAnyH_take (i := 45) (oi := _) (v := ?_) rfl (by kernel_rfl) (by kernel_rfl) (by kernel_rfl) (fun _ _ _ h => h) (Or.inl ⟨by rfl, ?_⟩) (by assumption) ?_
                    rotate_left
                    · intro w hSw
                      try dsimp only at hSw
                      go_simp
                      try with_reducible rfl
                    try simp only [Act.put, List.setIfInBounds_toArray, List.set_cons_zero, List.set_cons_succ, List.getElem_toArray, List.getElem_cons_zero, List.getElem_cons_succ]
                    refine wpAnyH_take (i := 46) (oi := _) (v := .bool true) rfl (by kernel_rfl) (by kernel_rfl) (by kernel_rfl) (fun _ _ _ h => h) (Or.inl ⟨by rfl, ?_⟩) (by assumption) ?_
                    · intro w hSw
                      try dsimp only at hSw
                      go_simp
                      try with_reducible rfl
                    try simp only [Act.put, List.setIfInBounds_toArray, List.set_cons_zero, List.set_cons_succ, List.getElem_toArray, List.getElem_cons_zero, List.getElem_cons_succ]
                    refine wpAnyH_take (i := 47) (oi := _) (v := .bool true) rfl (by kernel_rfl) (by kernel_rfl) (by kernel_rfl) (fun _ _ _ h => h) (Or.inl ⟨by rfl, ?_⟩) (by assumption) ?_
                    · intro w hSw
                      try dsimp only at hSw
                      go_simp
                      try with_reducible rfl
                    try simp only [Act.put, List.setIfInBounds_toArray, List.set_cons_zero, List.set_cons_succ, List.getElem_toArray, List.getElem_cons_zero, List.getElem_cons_succ]
                    refine wpAnyH_ready (rs := [48]) (by kernel_rfl) (by simp) ?_
                    refine AllReadyH.cons (o := _) rfl (fun K hK => ?_) AllReadyH.nil
                    go_simp
                    try dsimp only
                    refine hK.out _ _ ?_ (fun hHeld => ?_)
                    · exact ⟨hA67.out, hG67⟩
                    clear hK K
                    try simp only [Act.put, List.setIfInBounds_toArray, List.set_cons_zero, List.set_cons_succ, List.getElem_toArray, List.getElem_cons_zero, List.getElem_cons_succ]
                    refine wpAnyH_done (by kernel_rfl) ?_ _
                    go_wp2_with fail
                    go_ret
                    exact ⟨rfl, HB7.out.trans (Below.mono hA67.out HB7.out.size)⟩
                · go_simp
                  have hA58 := hid (hA57.out.step ((Below.refl _ y57).alloc (Nat.le_refl _) (.cells (zeros 32) 5)))
                  have hG58 := heap_new y57 (.cells (zeros 32) 5)
                  generalize hy58 : y57.alloc (.cells (zeros 32) 5) = y58 at hA58 hG58 ⊢
                  generalize hz58 : y57.heap.size = z58 at hG58 ⊢
                  clear hy58 hz58
                  try dsimp only
                  refine hK.out _ _ ?_ (fun hHeld => ?_)
                  · exact hA58.out
                  clear hK K
                  try simp only [Act.put, List.setIfInBounds_toArray, List.set_cons_zero, List.set_cons_succ, List.getElem_toArray, List.getElem_cons_zero, List.getElem_cons_succ]
                  refine wpAnyH_more (S' := fun w' => After w7 w' ∧ w'.heap[z58]? = some (.cells (zeros 32) 5 (0, 0))) (fun _ h => h.1) _ _ _ _ ?_
                  have hHeld2 : (fun w' => After w7 w' ∧ w'.heap[z58]? = some (.cells (zeros 32) 5 (0, 0))) y58 := ⟨hA58.out, hG58⟩
                  refine wpAnyH_take (i := 43) (oi := _) (v := .string (S zero32)) rfl (by kernel_rfl) (by kernel_rfl) (by kernel_rfl) (fun _ _ _ h => h) (Or.inl ⟨by rfl, ?_⟩) (by assumption) ?_
                  · intro w hSw
                    have hcv := conv_z hSw.2
                    go_simp
                  try simp only [Act.put, List.setIfInBounds_toArray, List.set_cons_zero, List.set_cons_succ, List.getElem_toArray, List.getElem_cons_zero, List.getElem_cons_succ]
                  refine wpAnyH_ready (rs := [36]) (by kernel_rfl) (by simp) ?_
                  refine AllReadyH.cons (o := _) rfl (fun K hK => ?_) AllReadyH.nil
                  go_simp
                  go_at_call 14
                  refine (KT 6 (by decide) _).mono ?_
                  rintro e y59 ⟨rfl, hB_⟩
                  have hA59 := hid (hA58.out.step (hB_))
                  have hG59 := (hB_.block _ (lt_of_block hG58)).trans hG58
                  clear hB_
                  try dsimp only
                  refine hK.out _ _ ?_ (fun hHeld => ?_)
                  · exact ⟨hA59.out, hG59⟩
                  clear hK K
                  try simp only [Act.put, List.setIfInBounds_toArray, List.set_cons_zero, List.set_cons_succ, List.getElem_toArray, List.getElem_cons_zero, List.getElem_cons_succ]
                  refine wpAnyH_ready (rs := [39]) (by kernel_rfl) (by simp) ?_
                  refine AllReadyH.cons (o := _) rfl (fun K hK => ?_) AllReadyH.nil
                  go_simp
                  go_at_call 14
                  refine (KT 7 (by decide) _).mono ?_
                  rintro e y60 ⟨rfl, hB_⟩
                  have hA60 := hid (hA59.out.step (hB_))
                  have hG60 := (hB_.block _ (lt_of_block hG59)).trans hG59
                  clear hB_
                  try dsimp only
                  refine hK.out _ _ ?_ (fun hHeld => ?_)
                  · exact ⟨hA60.out, hG60⟩
                  clear hK K
                  try simp only [Act.put, List.setIfInBounds_toArray, List.set_cons_zero, List.set_cons_succ, List.getElem_toArray, List.getElem_cons_zero, List.getElem_cons_succ]
                  refine wpAnyH_ready (rs := [40]) (by kernel_rfl) (by simp) ?_
                  refine AllReadyH.cons (o := _) rfl (fun K hK => ?_) AllReadyH.nil
                  go_simp
                  have hA61 := hid (hA60.out.step ((Below.refl _ y60).alloc (Nat.le_refl _) (.cells #[.string (S (kid l 0)), .string (S (kid l 1)), .string (S (kid l 2)), .string (S (kid l 3)), .string (S (kid l 4)), .string (S (kid l 5)), .string (S (kid l 6)), .string (S (kid l 7))] 9)))
                  have hP61 := heap_new y60 (.cells #[.string (S (kid l 0)), .string (S (kid l 1)), .string (S (kid l 2)), .string (S (kid l 3)), .string (S (kid l 4)), .string (S (kid l 5)), .string (S (kid l 6)), .string (S (kid l 7))] 9)
                  have hG61 := heap_old hG60 (.cells #[.string (S (kid l 0)), .string (S (kid l 1)), .string (S (kid l 2)), .string (S (kid l 3)), .string (S (kid l 4)), .string (S (kid l 5)), .string (S (kid l 6)), .string (S (kid l 7))] 9)
                  generalize hy61 : y60.alloc (.cells #[.string (S (kid l 0)), .string (S (kid l 1)), .string (S (kid l 2)), .string (S (kid l 3)), .string (S (kid l 4)), .string (S (kid l 5)), .string (S (kid l 6)), .string (S (kid l 7))] 9) = y61 at hA61 hP61 hG61 ⊢
                  generalize hz61 : y60.heap.size = z61 at hP61 ⊢
                  clear hy61 hz61
                  try dsimp only
                  refine hK.out _ _ ?_ (fun hHeld => ?_)
                  · exact ⟨hA61.out, hG61⟩
                  clear hK K
                  try simp only [Act.put, List.setIfInBounds_toArray, List.set_cons_zero, List.set_cons_succ, List.getElem_toArray, List.getElem_cons_zero, List.getElem_cons_succ]
                  refine wpAnyH_ready (rs := [41]) (by kernel_rfl) (by simp) ?_
                  refine AllReadyH.cons (o := _) rfl (fun K hK => ?_) AllReadyH.nil
                  go_simp
                  go_at_call 21
                  refine (KR.out _ _ hP61).mono ?_
                  rintro e y62 ⟨rfl, hB_⟩
                  have hA62 := hid (hA61.out.step (hB_))
                  have hG62 := (hB_.block _ (lt_of_block hG61)).trans hG61
                  have hP62 := (hB_.block _ (lt_of_block hP61)).trans hP61
                  clear hB_
                  try dsimp only
                  refine hK.out _ _ ?_ (fun hHeld => ?_)
                  · exact ⟨hA62.out, hG62⟩
                  clear hK K
                  try simp only [Act.put, List.setIfInBounds_toArray, List.set_cons_zero, List.set_cons_succ, List.getElem_toArray, List.getElem_cons_zero, List.getElem_cons_succ]
                  refine wpAnyH_take (i := 44) (oi := _) (v := ?_) rfl (by kernel_rfl) (by kernel_rfl) (by kernel_rfl) (fun _ _ _ h => h) (Or.inl ⟨by rfl, ?_⟩) (by assumption) ?_
                  rotate_left
                  · intro w hSw
                    try dsimp only at hSw
                    go_simp
                    try with_reducible rfl
                  try simp only [Act.put, List.setIfInBounds_toArray, List.set_cons_zero, List.set_cons_succ, List.getElem_toArray, List.getElem_cons_zero, List.getElem_cons_succ]
                  refine wpAnyH_take (i := 45) (oi := _) (v := ?_) rfl (by kernel_rfl) (by kernel_rfl) (by kernel_rfl) (fun _ _ _ h => h) (Or.inl ⟨by rfl, ?_⟩) (by assumption) ?_
                  rotate_left
                  · intro w hSw
                    try dsimp only at hSw
                    go_simp
                    try with_reducible rfl
                  try simp only [Act.put, List.setIfInBounds_toArray, List.set_cons_zero, List.set_cons_succ, List.getElem_toArray, List.getElem_cons_zero, List.getElem_cons_succ]
                  refine wpAnyH_take (i := 46) (oi := _) (v := .bool true) rfl (by kernel_rfl) (by kernel_rfl) (by kernel_rfl) (fun _ _ _ h => h) (Or.inl ⟨by rfl, ?_⟩) (by assumption) ?_
                  · intro w hSw
                    try dsimp only at hSw
                    go_simp
                    try with_reducible rfl
                  try simp only [Act.put, List.setIfInBounds_toArray, List.set_cons_zero, List.set_cons_succ, List.getElem_toArray, List.getElem_cons_zero, List.getElem_cons_succ]
                  refine wpAnyH_take (i := 47) (oi := _) (v := .bool true) rfl (by kernel_rfl) (by kernel_rfl) (by kernel_rfl) (fun _ _ _ h => h) (Or.inl ⟨by rfl, ?_⟩) (by assumption) ?_
                  · intro w hSw
                    try dsimp only at hSw
                    go_simp
                    try with_reducible rfl
                  try simp only [Act.put, List.setIfInBounds_toArray, List.set_cons_zero, List.set_cons_succ, List.getElem_toArray, List.getElem_cons_zero, List.getElem_cons_succ]
                  refine wpAnyH_ready (rs := [48]) (by kernel_rfl) (by simp) ?_
                  refine AllReadyH.cons (o := _) rfl (fun K hK => ?_) AllReadyH.nil
                  go_simp
                  try dsimp only
                  refine hK.out _ _ ?_ (fun hHeld => ?_)
                  · exact ⟨hA62.out, hG62⟩
                  clear hK K
                  try simp only [Act.put, List.setIfInBounds_toArray, List.set_cons_zero, List.set_cons_succ, List.getElem_toArray, List.getElem_cons_zero, List.getElem_cons_succ]
                  refine wpAnyH_done (by kernel_rfl) ?_ _
                  go_wp2_with fail
                  go_ret
                  exact ⟨rfl, HB7.out.trans (Below.mono hA62.out HB7.out.size)⟩
              · go_simp
                have hA51 := hid (hA50.out.step ((Below.refl _ y50).alloc (Nat.le_refl _) (.cells (zeros 32) 5)))
                have hG51 := heap_new y50 (.cells (zeros 32) 5)
                generalize hy51 : y50.alloc (.cells (zeros 32) 5) = y51 at hA51 hG51 ⊢
                generalize hz51 : y50.heap.size = z51 at hG51 ⊢
                clear hy51 hz51
                try dsimp only
                refine hK.out _ _ ?_ (fun hHeld => ?_)
                · exact hA51.out
                clear hK K
                try simp only [Act.put, List.setIfInBounds_toArray, List.set_cons_zero, List.set_cons_succ, List.getElem_toArray, List.getElem_cons_zero, List.getElem_cons_succ]
                refine wpAnyH_more (S' := fun w' => After w7 w' ∧ w'.heap[z51]? = some (.cells (zeros 32) 5 (0, 0))) (fun _ h => h.1) _ _ _ _ ?_
                have hHeld2 : (fun w' => After w7 w' ∧ w'.heap[z51]? = some (.cells (zeros 32) 5 (0, 0))) y51 := ⟨hA51.out, hG51⟩
                refine wpAnyH_take (i := 43) (oi := _) (v := .string (S zero32)) rfl (by kernel_rfl) (by kernel_rfl) (by kernel_rfl) (fun _ _ _ h => h) (Or.inl ⟨by rfl, ?_⟩) (by assumption) ?_
                · intro w hSw
                  have hcv := conv_z hSw.2
                  go_simp
                try simp only [Act.put, List.setIfInBounds_toArray, List.set_cons_zero, List.set_cons_succ, List.getElem_toArray, List.getElem_cons_zero, List.getElem_cons_succ]
                refine wpAnyH_ready (rs := [33]) (by kernel_rfl) (by simp) ?_
                refine AllReadyH.cons (o := _) rfl (fun K hK => ?_) AllReadyH.nil
                go_simp
                go_at_call 14
                refine (KT 5 (by decide) _).mono ?_
                rintro e y52 ⟨rfl, hB_⟩
                have hA52 := hid (hA51.out.step (hB_))
                have hG52 := (hB_.block _ (lt_of_block hG51)).trans hG51
                clear hB_
                try dsimp only
                refine hK.out _ _ ?_ (fun hHeld => ?_)
                · exact ⟨hA52.out, hG52⟩
                clear hK K
                try simp only [Act.put, List.setIfInBounds_toArray, List.set_cons_zero, List.set_cons_succ, List.getElem_toArray, List.getElem_cons_zero, List.getElem_cons_succ]
                refine wpAnyH_ready (rs := [36]) (by kernel_rfl) (by simp) ?_
                refine AllReadyH.cons (o := _) rfl (fun K hK => ?_) AllReadyH.nil
                go_simp
                go_at_call 14
                refine (KT 6 (by decide) _).mono ?_
                rintro e y53 ⟨rfl, hB_⟩
                have hA53 := hid (hA52.out.step (hB_))
                have hG53 := (hB_.block _ (lt_of_block hG52)).trans hG52
                clear hB_
                try dsimp only
                refine hK.out _ _ ?_ (fun hHeld => ?_)
                · exact ⟨hA53.out, hG53⟩
                clear hK K
                try simp only [Act.put, List.setIfInBounds_toArray, List.set_cons_zero, List.set_cons_succ, List.getElem_toArray, List.getElem_cons_zero, List.getElem_cons_succ]
                refine wpAnyH_ready (rs := [39]) (by kernel_rfl) (by simp) ?_
                refine AllReadyH.cons (o := _) rfl (fun K hK => ?_) AllReadyH.nil
                go_simp
                go_at_call 14
                refine (KT 7 (by decide) _).mono ?_
                rintro e y54 ⟨rfl, hB_⟩
                have hA54 := hid (hA53.out.step (hB_))
                have hG54 := (hB_.block _ (lt_of_block hG53)).trans hG53
                clear hB_
                try dsimp only
                refine hK.out _ _ ?_ (fun hHeld => ?_)
                · exact ⟨hA54.out, hG54⟩
                clear hK K
                try simp only [Act.put, List.setIfInBounds_toArray, List.set_cons_zero, List.set_cons_succ, List.getElem_toArray, List.getElem_cons_zero, List.getElem_cons_succ]
                refine wpAnyH_ready (rs := [40]) (by kernel_rfl) (by simp) ?_
                refine AllReadyH.cons (o := _) rfl (fun K hK => ?_) AllReadyH.nil
                go_simp
                have hA55 := hid (hA54.out.step ((Below.refl _ y54).alloc (Nat.le_refl _) (.cells #[.string (S (kid l 0)), .string (S (kid l 1)), .string (S (kid l 2)), .string (S (kid l 3)), .string (S (kid l 4)), .string (S (kid l 5)), .string (S (kid l 6)), .string (S (kid l 7))] 9)))
                have hP55 := heap_new y54 (.cells #[.string (S (kid l 0)), .string (S (kid l 1)), .string (S (kid l 2)), .string (S (kid l 3)), .string (S (kid l 4)), .string (S (kid l 5)), .string (S (kid l 6)), .string (S (kid l 7))] 9)
                have hG55 := heap_old hG54 (.cells #[.string (S (kid l 0)), .string (S (kid l 1)), .string (S (kid l 2)), .string (S (kid l 3)), .string (S (kid l 4)), .string (S (kid l 5)), .string (S (kid l 6)), .string (S (kid l 7))] 9)
                generalize hy55 : y54.alloc (.cells #[.string (S (kid l 0)), .string (S (kid l 1)), .string (S (kid l 2)), .string (S (kid l 3)), .string (S (kid l 4)), .string (S (kid l 5)), .string (S (kid l 6)), .string (S (kid l 7))] 9) = y55 at hA55 hP55 hG55 ⊢
                generalize hz55 : y54.heap.size = z55 at hP55 ⊢
                clear hy55 hz55
                try dsimp only
                refine hK.out _ _ ?_ (fun hHeld => ?_)
                · exact ⟨hA55.out, hG55⟩
                clear hK K
                try simp only [Act.put, List.setIfInBounds_toArray, List.set_cons_zero, List.set_cons_succ, List.getElem_toArray, List.getElem_cons_zero, List.getElem_cons_succ]
                refine wpAnyH_ready (rs := [41]) (by kernel_rfl) (by simp) ?_
                refine AllReadyH.cons (o := _) rfl (fun K hK => ?_) AllReadyH.nil
                go_simp
                go_at_call 21
                refine (KR.out _ _ hP55).mono ?_
                rintro e y56 ⟨rfl, hB_⟩
                have hA56 := hid (hA55.out.step (hB_))
                have hG56 := (hB_.block _ (lt_of_block hG55)).trans hG55
                have hP56 := (hB_.block _ (lt_of_block hP55)).trans hP55
                clear hB_
                try dsimp only
                refine hK.out _ _ ?_ (fun hHeld => ?_)
                · exact ⟨hA56.out, hG56⟩
                clear hK K
                try simp only [Act.put, List.setIfInBounds_toArray, List.set_cons_zero, List.set_cons_succ, List.getElem_toArray, List.getElem_cons_zero, List.getElem_cons_succ]
                refine wpAnyH_take (i := 44) (oi := _) (v := ?_) rfl (by kernel_rfl) (by kernel_rfl) (by kernel_rfl) (fun _ _ _ h => h) (Or.inl ⟨by rfl, ?_⟩) (by assumption) ?_
                rotate_left
                · intro w hSw
                  try dsimp only at hSw
                  go_simp
                  try with_reducible rfl
                try simp only [Act.put, List.setIfInBounds_toArray, List.set_cons_zero, List.set_cons_succ, List.getElem_toArray, List.getElem_cons_zero, List.getElem_cons_succ]
                refine wpAnyH_take (i := 45) (oi := _) (v := ?_) rfl (by kernel_rfl) (by kernel_rfl) (by kernel_rfl) (fun _ _ _ h => h) (Or.inl ⟨by rfl, ?_⟩) (by assumption) ?_
                rotate_left
                · intro w hSw
                  try dsimp only at hSw
                  go_simp
                  try with_reducible rfl
                try simp only [Act.put, List.setIfInBounds_toArray, List.set_cons_zero, List.set_cons_succ, List.getElem_toArray, List.getElem_cons_zero, List.getElem_cons_succ]
                refine wpAnyH_take (i := 46) (oi := _) (v := .bool true) rfl (by kernel_rfl) (by kernel_rfl) (by kernel_rfl) (fun _ _ _ h => h) (Or.inl ⟨by rfl, ?_⟩) (by assumption) ?_
                · intro w hSw
                  try dsimp only at hSw
                  go_simp
                  try with_reducible rfl
                try simp only [Act.put, List.setIfInBounds_toArray, List.set_cons_zero, List.set_cons_succ, List.getElem_toArray, List.getElem_cons_zero, List.getElem_cons_succ]
                refine wpAnyH_take (i := 47) (oi := _) (v := .bool true) rfl (by kernel_rfl) (by kernel_rfl) (by kernel_rfl) (fun _ _ _ h => h) (Or.inl ⟨by rfl, ?_⟩) (by assumption) ?_
                · intro w hSw
                  try dsimp only at hSw
                  go_simp
                  try with_reducible rfl
                try simp only [Act.put, List.setIfInBounds_toArray, List.set_cons_zero, List.set_cons_succ, List.getElem_toArray, List.getElem_cons_zero, List.getElem_cons_succ]
                refine wpAnyH_ready (rs := [48]) (by kernel_rfl) (by simp) ?_
                refine AllReadyH.cons (o := _) rfl (fun K hK => ?_) AllReadyH.nil
                go_simp
                try dsimp only
                refine hK.out _ _ ?_ (fun hHeld => ?_)
                · exact ⟨hA56.out, hG56⟩
                clear hK K
                try simp only [Act.put, List.setIfInBounds_toArray, List.set_cons_zero, List.set_cons_succ, List.getElem_toArray, List.getElem_cons_zero, List.getElem_cons_succ]
                refine wpAnyH_done (by kernel_rfl) ?_ _
                go_wp2_with fail
                go_ret
                exact ⟨rfl, HB7.out.trans (Below.mono hA56.out HB7.out.size)⟩
            · go_simp
              have hA43 := hid (hA42.out.step ((Below.refl _ y42).alloc (Nat.le_refl _) (.cells (zeros 32) 5)))
              have hG43 := heap_new y42 (.cells (zeros 32) 5)
              generalize hy43 : y42.alloc (.cells (zeros 32) 5) = y43 at hA43 hG43 ⊢
              generalize hz43 : y42.heap.size = z43 at hG43 ⊢
              clear hy43 hz43
              try dsimp only
              refine hK.out _ _ ?_ (fun hHeld => ?_)
              · exact hA43.out
              clear hK K
              try simp only [Act.put, List.setIfInBounds_toArray, List.set_cons_zero, List.set_cons_succ, List.getElem_toArray, List.getElem_cons_zero, List.getElem_cons_succ]
              refine wpAnyH_more (S' := fun w' => After w7 w' ∧ w'.heap[z43]? = some (.cells (zeros 32) 5 (0, 0))) (fun _ h => h.1) _ _ _ _ ?_
              have hHeld2 : (fun w' => After w7 w' ∧ w'.heap[z43]? = some (.cells (zeros 32) 5 (0, 0))) y43 := ⟨hA43.out, hG43⟩
              refine wpAnyH_take (i := 43) (oi := _) (v := .string (S zero32)) rfl (by kernel_rfl) (by kernel_rfl) (by kernel_rfl) (fun _ _ _ h => h) (Or.inl ⟨by rfl, ?_⟩) (by assumption) ?_
              · intro w hSw
                have hcv := conv_z hSw.2
                go_simp
              try simp only [Act.put, List.setIfInBounds_toArray, List.set_cons_zero, List.set_cons_succ, List.getElem_toArray, List.getElem_cons_zero, List.getElem_cons_succ]
              refine wpAnyH_ready (rs := [30]) (by kernel_rfl) (by simp) ?_
              refine AllReadyH.cons (o := _) rfl (fun K hK => ?_) AllReadyH.nil
              go_simp
              go_at_call 14
              refine (KT 4 (by decide) _).mono ?_
              rintro e y44 ⟨rfl, hB_⟩
              have hA44 := hid (hA43.out.step (hB_))
              have hG44 := (hB_.block _ (lt_of_block hG43)).trans hG43
              clear hB_
              try dsimp only
              refine hK.out _ _ ?_ (fun hHeld => ?_)
              · exact ⟨hA44.out, hG44⟩
              clear hK K
              try simp only [Act.put, List.setIfInBounds_toArray, List.set_cons_zero, List.set_cons_succ, List.getElem_toArray, List.getElem_cons_zero, List.getElem_cons_succ]
              refine wpAnyH_ready (rs := [33]) (by kernel_rfl) (by simp) ?_
              refine AllReadyH.cons (o := _) rfl (fun K hK => ?_) AllReadyH.nil
              go_simp
              go_at_call 14
              refine (KT 5 (by decide) _).mono ?_
              rintro e y45 ⟨rfl, hB_⟩
              have hA45 := hid (hA44.out.step (hB_))
              have hG45 := (hB_.block _ (lt_of_block hG44)).trans hG44
              clear hB_
              try dsimp only
              refine hK.out _ _ ?_ (fun hHeld => ?_)
              · exact ⟨hA45.out, hG45⟩
              clear hK K
              try simp only [Act.put, List.setIfInBounds_toArray, List.set_cons_zero, List.set_cons_succ, List.getElem_toArray, List.getElem_cons_zero, List.getElem_cons_succ]
              refine wpAnyH_ready (rs := [36]) (by kernel_rfl) (by simp) ?_
              refine AllReadyH.cons (o := _) rfl (fun K hK => ?_) AllReadyH.nil
              go_simp
              go_at_call 14
              refine (KT 6 (by decide) _).mono ?_
              rintro e y46 ⟨rfl, hB_⟩
              have hA46 := hid (hA45.out.step (hB_))
              have hG46 := (hB_.block _ (lt_of_block hG45)).trans hG45
              clear hB_
              try dsimp only
              refine hK.out _ _ ?_ (fun hHeld => ?_)
              · exact ⟨hA46.out, hG46⟩
              clear hK K
              try simp only [Act.put, List.setIfInBounds_toArray, List.set_cons_zero, List.set_cons_succ, List.getElem_toArray, List.getElem_cons_zero, List.getElem_cons_succ]
              refine wpAnyH_ready (rs := [39]) (by kernel_rfl) (by simp) ?_
              refine AllReadyH.cons (o := _) rfl (fun K hK => ?_) AllReadyH.nil
              go_simp
              go_at_call 14
              refine (KT 7 (by decide) _).mono ?_
              rintro e y47 ⟨rfl, hB_⟩
              have hA47 := hid (hA46.out.step (hB_))
              have hG47 := (hB_.block _ (lt_of_block hG46)).trans hG46
              clear hB_
              try dsimp only
              refine hK.out _ _ ?_ (fun hHeld => ?_)
              · exact ⟨hA47.out, hG47⟩
              clear hK K
              try simp only [Act.put, List.setIfInBounds_toArray, List.set_cons_zero, List.set_cons_succ, List.getElem_toArray, List.getElem_cons_zero, List.getElem_cons_succ]
              refine wpAnyH_ready (rs := [40]) (by kernel_rfl) (by simp) ?_
              refine AllReadyH.cons (o := _) rfl (fun K hK => ?_) AllReadyH.nil
              go_simp
              have hA48 := hid (hA47.out.step ((Below.refl _ y47).alloc (Nat.le_refl _) (.cells #[.string (S (kid l 0)), .string (S (kid l 1)), .string (S (kid l 2)), .string (S (kid l 3)), .string (S (kid l 4)), .string (S (kid l 5)), .string (S (kid l 6)), .string (S (kid l 7))] 9)))
              have hP48 := heap_new y47 (.cells #[.string (S (kid l 0)), .string (S (kid l 1)), .string (S (kid l 2)), .string (S (kid l 3)), .string (S (kid l 4)), .string (S (kid l 5)), .string (S (kid l 6)), .string (S (kid l 7))] 9)
              have hG48 := heap_old hG47 (.cells #[.string (S (kid l 0)), .string (S (kid l 1)), .string (S (kid l 2)), .string (S (kid l 3)), .string (S (kid l 4)), .string (S (kid l 5)), .string (S (kid l 6)), .string (S (kid l 7))] 9)
              generalize hy48 : y47.alloc (.cells #[.string (S (kid l 0)), .string (S (kid l 1)), .string (S (kid l 2)), .string (S (kid l 3)), .string (S (kid l 4)), .string (S (kid l 5)), .string (S (kid l 6)), .string (S (kid l 7))] 9) = y48 at hA48 hP48 hG48 ⊢
              generalize hz48 : y47.heap.size = z48 at hP48 ⊢
              clear hy48 hz48
              try dsimp only
              refine hK.out _ _ ?_ (fun hHeld => ?_)
              · exact ⟨hA48.out, hG48⟩
              clear hK K
              try simp only [Act.put, List.setIfInBounds_toArray, List.set_cons_zero, List.set_cons_succ, List.getElem_toArray, List.getElem_cons_zero, List.getElem_cons_succ]
              refine wpAnyH_ready (rs := [41]) (by kernel_rfl) (by simp) ?_
              refine AllReadyH.cons (o := _) rfl (fun K hK => ?_) AllReadyH.nil
              go_simp
              go_at_call 21
              refine (KR.out _ _ hP48).mono ?_
              rintro e y49 ⟨rfl, hB_⟩
              have hA49 := hid (hA48.out.step (hB_))
              have hG49 := (hB_.block _ (lt_of_block hG48)).trans hG48
              have hP49 := (hB_.block _ (lt_of_block hP48)).trans hP48
              clear hB_
              try dsimp only
              refine hK.out _ _ ?_ (fun hHeld => ?_)
              · exact ⟨hA49.out, hG49⟩
              clear hK K
              try simp only [Act.put, List.setIfInBounds_toArray, List.set_cons_zero, List.set_cons_succ, List.getElem_toArray, List.getElem_cons_zero, List.getElem_cons_succ]
              refine wpAnyH_take (i := 44) (oi := _) (v := ?_) rfl (by kernel_rfl) (by kernel_rfl) (by kernel_rfl) (fun _ _ _ h => h) (Or.inl ⟨by rfl, ?_⟩) (by assumption) ?_
              rotate_left
              · intro w hSw
                try dsimp only at hSw
                go_simp
                try with_reducible rfl
              try simp only [Act.put, List.setIfInBounds_toArray, List.set_cons_zero, List.set_cons_succ, List.getElem_toArray, List.getElem_cons_zero, List.getElem_cons_succ]
              refine wpAnyH_take (i := 45) (oi := _) (v := ?_) rfl (by kernel_rfl) (by kernel_rfl) (by kernel_rfl) (fun _ _ _ h => h) (Or.inl ⟨by rfl, ?_⟩) (by assumption) ?_
              rotate_left
              · intro w hSw
                try dsimp only at hSw
                go_simp
                try with_reducible rfl
              try simp only [Act.put, List.setIfInBounds_toArray, List.set_cons_zero, List.set_cons_succ, List.getElem_toArray, List.getElem_cons_zero, List.getElem_cons_succ]
              refine wpAnyH_take (i := 46) (oi := _) (v := .bool true) rfl (by kernel_rfl) (by kernel_rfl) (by kernel_rfl) (fun _ _ _ h => h) (Or.inl ⟨by rfl, ?_⟩) (by assumption) ?_
              · intro w hSw
                try dsimp only at hSw
                go_simp
                try with_reducible rfl
              try simp only [Act.put, List.setIfInBounds_toArray, List.set_cons_zero, List.set_cons_succ, List.getElem_toArray, List.getElem_cons_zero, List.getElem_cons_succ]
              refine wpAnyH_take (i := 47) (oi := _) (v := .bool true) rfl (by kernel_rfl) (by kernel_rfl) (by kernel_rfl) (fun _ _ _ h => h) (Or.inl ⟨by rfl, ?_⟩) (by assumption) ?_
              · intro w hSw
                try dsimp only at hSw
                go_simp
                try with_reducible rfl
              try simp only [Act.put, List.setIfInBounds_toArray, List.set_cons_zero, List.set_cons_succ, List.getElem_toArray, List.getElem_cons_zero, List.getElem_cons_succ]
              refine wpAnyH_ready (rs := [48]) (by kernel_rfl) (by simp) ?_
              refine AllReadyH.cons (o := _) rfl (fun K hK => ?_) AllReadyH.nil
              go_simp
              try dsimp only
              refine hK.out _ _ ?_ (fun hHeld => ?_)
              · exact ⟨hA49.out, hG49⟩
              clear hK K
              try simp only [Act.put, List.setIfInBounds_toArray, List.set_cons_zero, List.set_cons_succ, List.getElem_toArray, List.getElem_cons_zero, List.getElem_cons_succ]
              refine wpAnyH_done (by kernel_rfl) ?_ _
              go_wp2_with fail
              go_ret
              exact ⟨rfl, HB7.out.trans (Below.mono hA49.out HB7.out.size)⟩
          · go_simp
            have hA34 := hid (hA33.out.step ((Below.refl _ y33).alloc (Nat.le_refl _) (.cells (zeros 32) 5)))
            have hG34 := heap_new y33 (.cells (zeros 32) 5)
            generalize hy34 : y33.alloc (.cells (zeros 32) 5) = y34 at hA34 hG34 ⊢
            generalize hz34 : y33.heap.size = z34 at hG34 ⊢
            clear hy34 hz34
            try dsimp only
            refine hK.out _ _ ?_ (fun hHeld => ?_)
            · exact hA34.out
            clear hK K
            try simp only [Act.put, List.setIfInBounds_toArray, List.set_cons_zero, List.set_cons_succ, List.getElem_toArray, List.getElem_cons_zero, List.getElem_cons_succ]
            refine wpAnyH_more (S' := fun w' => After w7 w' ∧ w'.heap[z34]? = some (.cells (zeros 32) 5 (0, 0))) (fun _ h => h.1) _ _ _ _ ?_
            have hHeld2 : (fun w' => After w7 w' ∧ w'.heap[z34]? = some (.cells (zeros 32) 5 (0, 0))) y34 := ⟨hA34.out, hG34⟩
            refine wpAnyH_take (i := 43) (oi := _) (v := .string (S zero32)) rfl (by kernel_rfl) (by kernel_rfl) (by kernel_rfl) (fun _ _ _ h => h) (Or.inl ⟨by rfl, ?_⟩) (by assumption) ?_
            · intro w hSw
              have hcv := conv_z hSw.2
              go_simp
            try simp only [Act.put, List.setIfInBounds_toArray, List.set_cons_zero, List.set_cons_succ, List.getElem_toArray, List.getElem_cons_zero, List.getElem_cons_succ]
            refine wpAnyH_ready (rs := [27]) (by kernel_rfl) (by simp) ?_
            refine AllReadyH.cons (o := _) rfl (fun K hK => ?_) AllReadyH.nil
            go_simp
            go_at_call 14
            refine (KT 3 (by decide) _).mono ?_
            rintro e y35 ⟨rfl, hB_⟩
            have hA35 := hid (hA34.out.step (hB_))
            have hG35 := (hB_.block _ (lt_of_block hG34)).trans hG34
            clear hB_
            try dsimp only
            refine hK.out _ _ ?_ (fun hHeld => ?_)
            · exact ⟨hA35.out, hG35⟩
            clear hK K
            try simp only [Act.put, List.setIfInBounds_toArray, List.set_cons_zero, List.set_cons_succ, List.getElem_toArray, List.getElem_cons_zero, List.getElem_cons_succ]
            refine wpAnyH_ready (rs := [30]) (by kernel_rfl) (by simp) ?_
            refine AllReadyH.cons (o := _) rfl (fun K hK => ?_) AllReadyH.nil
            go_simp
            go_at_call 14
            refine (KT 4 (by decide) _).mono ?_
            rintro e y36 ⟨rfl, hB_⟩
            have hA36 := hid (hA35.out.step (hB_))
            have hG36 := (hB_.block _ (lt_of_block hG35)).trans hG35
            clear hB_
            try dsimp only
            refine hK.out _ _ ?_ (fun hHeld => ?_)
            · exact ⟨hA36.out, hG36⟩
            clear hK K
            try simp only [Act.put, List.setIfInBounds_toArray, List.set_cons_zero, List.set_cons_succ, List.getElem_toArray, List.getElem_cons_zero, List.getElem_cons_succ]
            refine wpAnyH_ready (rs := [33]) (by kernel_rfl) (by simp) ?_
            refine AllReadyH.cons (o := _) rfl (fun K hK => ?_) AllReadyH.nil
            go_simp
            go_at_call 14
            refine (KT 5 (by decide) _).mono ?_
            rintro e y37 ⟨rfl, hB_⟩
            have hA37 := hid (hA36.out.step (hB_))
            have hG37 := (hB_.block _ (lt_of_block hG36)).trans hG36
            clear hB_
            try dsimp only
            refine hK.out _ _ ?_ (fun hHeld => ?_)
            · exact ⟨hA37.out, hG37⟩
            clear hK K
            try simp only [Act.put, List.setIfInBounds_toArray, List.set_cons_zero, List.set_cons_succ, List.getElem_toArray, List.getElem_cons_zero, List.getElem_cons_succ]
            refine wpAnyH_ready (rs := [36]) (by kernel_rfl) (by simp) ?_
            refine AllReadyH.cons (o := _) rfl (fun K hK => ?_) AllReadyH.nil
            go_simp
            go_at_call 14
            refine (KT 6 (by decide) _).mono ?_
            rintro e y38 ⟨rfl, hB_⟩
            have hA38 := hid (hA37.out.step (hB_))
            have hG38 := (hB_.block _ (lt_of_block hG37)).trans hG37
            clear hB_
            try dsimp only
            refine hK.out _ _ ?_ (fun hHeld => ?_)
            · exact ⟨hA38.out, hG38⟩
            clear hK K
            try simp only [Act.put, List.setIfInBounds_toArray, List.set_cons_zero, List.set_cons_succ, List.getElem_toArray, List.getElem_cons_zero, List.getElem_cons_succ]
            refine wpAnyH_ready (rs := [39]) (by kernel_rfl) (by simp) ?_
            refine AllReadyH.cons (o := _) rfl (fun K hK => ?_) AllReadyH.nil
            go_simp
            go_at_call 14
            refine (KT 7 (by decide) _).mono ?_
            rintro e y39 ⟨rfl, hB_⟩
            have hA39 := hid (hA38.out.step (hB_))
            have hG39 := (hB_.block _ (lt_of_block hG38)).trans hG38
            clear hB_
            try dsimp only
            refine hK.out _ _ ?_ (fun hHeld => ?_)
            · exact ⟨hA39.out, hG39⟩
            clear hK K
            try simp only [Act.put, List.setIfInBounds_toArray, List.set_cons_zero, List.set_cons_succ, List.getElem_toArray, List.getElem_cons_zero, List.getElem_cons_succ]
            refine wpAnyH_ready (rs := [40]) (by kernel_rfl) (by simp) ?_
            refine AllReadyH.cons (o := _) rfl (fun K hK => ?_) AllReadyH.nil
            go_simp
            have hA40 := hid (hA39.out.step ((Below.refl _ y39).alloc (Nat.le_refl _) (.cells #[.string (S (kid l 0)), .string (S (kid l 1)), .string (S (kid l 2)), .string (S (kid l 3)), .string (S (kid l 4)), .string (S (kid l 5)), .string (S (kid l 6)), .string (S (kid l 7))] 9)))
            have hP40 := heap_new y39 (.cells #[.string (S (kid l 0)), .string (S (kid l 1)), .string (S (kid l 2)), .string (S (kid l 3)), .string (S (kid l 4)), .string (S (kid l 5)), .string (S (kid l 6)), .string (S (kid l 7))] 9)
            have hG40 := heap_old hG39 (.cells #[.string (S (kid l 0)), .string (S (kid l 1)), .string (S (kid l 2)), .string (S (kid l 3)), .string (S (kid l 4)), .string (S (kid l 5)), .string (S (kid l 6)), .string (S (kid l 7))] 9)
            generalize hy40 : y39.alloc (.cells #[.string (S (kid l 0)), .string (S (kid l 1)), .string (S (kid l 2)), .string (S (kid l 3)), .string (S (kid l 4)), .string (S (kid l 5)), .string (S (kid l 6)), .string (S (kid l 7))] 9) = y40 at hA40 hP40 hG40 ⊢
            generalize hz40 : y39.heap.size = z40 at hP40 ⊢
            clear hy40 hz40
            try dsimp only
            refine hK.out _ _ ?_ (fun hHeld => ?_)
            · exact ⟨hA40.out, hG40⟩
            clear hK K
            try simp only [Act.put, List.setIfInBounds_toArray, List.set_cons_zero, List.set_cons_succ, List.getElem_toArray, List.getElem_cons_zero, List.getElem_cons_succ]
            refine wpAnyH_ready (rs := [41]) (by kernel_rfl) (by simp) ?_
            refine AllReadyH.cons (o := _) rfl (fun K hK => ?_) AllReadyH.nil
            go_simp
            go_at_call 21
            refine (KR.out _ _ hP40).mono ?_
            rintro e y41 ⟨rfl, hB_⟩
            have hA41 := hid (hA40.out.step (hB_))
            have hG41 := (hB_.block _ (lt_of_block hG40)).trans hG40
            have hP41 := (hB_.block _ (lt_of_block hP40)).trans hP40
            clear hB_
            try dsimp only
            refine hK.out _ _ ?_ (fun hHeld => ?_)
            · exact ⟨hA41.out, hG41⟩
            clear hK K
            try simp only [Act.put, List.setIfInBounds_toArray, List.set_cons_zero, List.set_cons_succ, List.getElem_toArray, List.getElem_cons_zero, List.getElem_cons_succ]
            refine wpAnyH_take (i := 44) (oi := _) (v := ?_) rfl (by kernel_rfl) (by kernel_rfl) (by kernel_rfl) (fun _ _ _ h => h) (Or.inl ⟨by rfl, ?_⟩) (by assumption) ?_
            rotate_left
            · intro w hSw
              try dsimp only at hSw
              go_simp
              try with_reducible rfl
            try simp only [Act.put, List.setIfInBounds_toArray, List.set_cons_zero, List.set_cons_succ, List.getElem_toArray, List.getElem_cons_zero, List.getElem_cons_succ]
            refine wpAnyH_take (i := 45) (oi := _) (v := ?_) rfl (by kernel_rfl) (by kernel_rfl) (by kernel_rfl) (fun _ _ _ h => h) (Or.inl ⟨by rfl, ?_⟩) (by assumption) ?_
            rotate_left
            · intro w hSw
              try dsimp only at hSw
              go_simp
              try with_reducible rfl
            try simp only [Act.put, List.setIfInBounds_toArray, List.set_cons_zero, List.set_cons_succ, List.getElem_toArray, List.getElem_cons_zero, List.getElem_cons_succ]
            refine wpAnyH_take (i := 46) (oi := _) (v := .bool true) rfl (by kernel_rfl) (by kernel_rfl) (by kernel_rfl) (fun _ _ _ h => h) (Or.inl ⟨by rfl, ?_⟩) (by assumption) ?_
            · intro w hSw
              try dsimp only at hSw
              go_simp
              try with_reducible rfl
            try simp only [Act.put, List.setIfInBounds_toArray, List.set_cons_zero, List.set_cons_succ, List.getElem_toArray, List.getElem_cons_zero, List.getElem_cons_succ]
            refine wpAnyH_take (i := 47) (oi := _) (v := .bool true) rfl (by kernel_rfl) (by kernel_rfl) (by kernel_rfl) (fun _ _ _ h => h) (Or.inl ⟨by rfl, ?_⟩) (by assumption) ?_
            · intro w hSw
              try dsimp only at hSw
              go_simp
              try with_reducible rfl
            try simp only [Act.put, List.setIfInBounds_toArray, List.set_cons_zero, List.set_cons_succ, List.getElem_toArray, List.getElem_cons_zero, List.getElem_cons_succ]
            refine wpAnyH_ready (rs := [48]) (by kernel_rfl) (by simp) ?_
            refine AllReadyH.cons (o := _) rfl (fun K hK => ?_) AllReadyH.nil
            go_simp
            try dsimp only
            refine hK.out _ _ ?_ (fun hHeld => ?_)
            · exact ⟨hA41.out, hG41⟩
            clear hK K
            try simp only [Act.put, List.setIfInBounds_toArray, List.set_cons_zero, List.set_cons_succ, List.getElem_toArray, List.getElem_cons_zero, List.getElem_cons_succ]
            refine wpAnyH_done (by kernel_rfl) ?_ _
            go_wp2_with fail
            go_ret
            exact ⟨rfl, HB7.out.trans (Below.mono hA41.out HB7.out.size)⟩
        · go_simp
          have hA24 := hid (hA23.out.step ((Below.refl _ y23).alloc (Nat.le_refl _) (.cells (zeros 32) 5)))
          have hG24 := heap_new y23 (.cells (zeros 32) 5)
          generalize hy24 : y23.alloc (.cells (zeros 32) 5) = y24 at hA24 hG24 ⊢
          generalize hz24 : y23.heap.size = z24 at hG24 ⊢
          clear hy24 hz24
          try dsimp only
          refine hK.out _ _ ?_ (fun hHeld => ?_)
          · exact hA24.out
          clear hK K
          try simp only [Act.put, List.setIfInBounds_toArray, List.set_cons_zero, List.set_cons_succ, List.getElem_toArray, List.getElem_cons_zero, List.getElem_cons_succ]
          refine wpAnyH_more (S' := fun w' => After w7 w' ∧ w'.heap[z24]? = some (.cells (zeros 32) 5 (0, 0))) (fun _ h => h.1) _ _ _ _ ?_
          have hHeld2 : (fun w' => After w7 w' ∧ w'.heap[z24]? = some (.cells (zeros 32) 5 (0, 0))) y24 := ⟨hA24.out, hG24⟩
          refine wpAnyH_take (i := 43) (oi := _) (v := .string (S zero32)) rfl (by kernel_rfl) (by kernel_rfl) (by kernel_rfl) (fun _ _ _ h => h) (Or.inl ⟨by rfl, ?_⟩) (by assumption) ?_
          · intro w hSw
            have hcv := conv_z hSw.2
            go_simp
          try simp only [Act.put, List.setIfInBounds_toArray, List.set_cons_zero, List.set_cons_succ, List.getElem_toArray, List.getElem_cons_zero, List.getElem_cons_succ]
          refine wpAnyH_ready (rs := [24]) (by kernel_rfl) (by simp) ?_
          refine AllReadyH.cons (o := _) rfl (fun K hK => ?_) AllReadyH.nil
          go_simp
          go_at_call 14
          refine (KT 2 (by decide) _).mono ?_
          rintro e y25 ⟨rfl, hB_⟩
          have hA25 := hid (hA24.out.step (hB_))
          have hG25 := (hB_.block _ (lt_of_block hG24)).trans hG24
          clear hB_
          try dsimp only
          refine hK.out _ _ ?_ (fun hHeld => ?_)
          · exact ⟨hA25.out, hG25⟩
          clear hK K
          try simp only [Act.put, List.setIfInBounds_toArray, List.set_cons_zero, List.set_cons_succ, List.getElem_toArray, List.getElem_cons_zero, List.getElem_cons_succ]
          refine wpAnyH_ready (rs := [27]) (by kernel_rfl) (by simp) ?_
          refine AllReadyH.cons (o := _) rfl (fun K hK => ?_) AllReadyH.nil
          go_simp
          go_at_call 14
          refine (KT 3 (by decide) _).mono ?_
          rintro e y26 ⟨rfl, hB_⟩
          have hA26 := hid (hA25.out.step (hB_))
          have hG26 := (hB_.block _ (lt_of_block hG25)).trans hG25
          clear hB_
          try dsimp only
          refine hK.out _ _ ?_ (fun hHeld => ?_)
          · exact ⟨hA26.out, hG26⟩
          clear hK K
          try simp only [Act.put, List.setIfInBounds_toArray, List.set_cons_zero, List.set_cons_succ, List.getElem_toArray, List.getElem_cons_zero, List.getElem_cons_succ]
          refine wpAnyH_ready (rs := [30]) (by kernel_rfl) (by simp) ?_
          refine AllReadyH.cons (o := _) rfl (fun K hK => ?_) AllReadyH.nil
          go_simp
          go_at_call 14
          refine (KT 4 (by decide) _).mono ?_
          rintro e y27 ⟨rfl, hB_⟩
          have hA27 := hid (hA26.out.step (hB_))
          have hG27 := (hB_.block _ (lt_of_block hG26)).trans hG26
          clear hB_
          try dsimp only
          refine hK.out _ _ ?_ (fun hHeld => ?_)
          · exact ⟨hA27.out, hG27⟩
          clear hK K
          try simp only [Act.put, List.setIfInBounds_toArray, List.set_cons_zero, List.set_cons_succ, List.getElem_toArray, List.getElem_cons_zero, List.getElem_cons_succ]
          refine wpAnyH_ready (rs := [33]) (by kernel_rfl) (by simp) ?_
          refine AllReadyH.cons (o := _) rfl (fun K hK => ?_) AllReadyH.nil
          go_simp
          go_at_call 14
          refine (KT 5 (by decide) _).mono ?_
          rintro e y28 ⟨rfl, hB_⟩
          have hA28 := hid (hA27.out.step (hB_))
          have hG28 := (hB_.block _ (lt_of_block hG27)).trans hG27
          clear hB_
          try dsimp only
          refine hK.out _ _ ?_ (fun hHeld => ?_)
          · exact ⟨hA28.out, hG28⟩
          clear hK K
          try simp only [Act.put, List.setIfInBounds_toArray, List.set_cons_zero, List.set_cons_succ, List.getElem_toArray, List.getElem_cons_zero, List.getElem_cons_succ]
          refine wpAnyH_ready (rs := [36]) (by kernel_rfl) (by simp) ?_
          refine AllReadyH.cons (o := _) rfl (fun K hK => ?_) AllReadyH.nil
          go_simp
          go_at_call 14
          refine (KT 6 (by decide) _).mono ?_
          rintro e y29 ⟨rfl, hB_⟩
          have hA29 := hid (hA28.out.step (hB_))
          have hG29 := (hB_.block _ (lt_of_block hG28)).trans hG28
          clear hB_
          try dsimp only
          refine hK.out _ _ ?_ (fun hHeld => ?_)
          · exact ⟨hA29.out, hG29⟩
          clear hK K
          try simp only [Act.put, List.setIfInBounds_toArray, List.set_cons_zero, List.set_cons_succ, List.getElem_toArray, List.getElem_cons_zero, List.getElem_cons_succ]
          refine wpAnyH_ready (rs := [39]) (by kernel_rfl) (by simp) ?_
          refine AllReadyH.cons (o := _) rfl (fun K hK => ?_) AllReadyH.nil
          go_simp
          go_at_call 14
          refine (KT 7 (by decide) _).mono ?_
          rintro e y30 ⟨rfl, hB_⟩
          have hA30 := hid (hA29.out.step (hB_))
          have hG30 := (hB_.block _ (lt_of_block hG29)).trans hG29
          clear hB_
          try dsimp only
          refine hK.out _ _ ?_ (fun hHeld => ?_)
          · exact ⟨hA30.out, hG30⟩
          clear hK K
          try simp only [Act.put, List.setIfInBounds_toArray, List.set_cons_zero, List.set_cons_succ, List.getElem_toArray, List.getElem_cons_zero, List.getElem_cons_succ]
          refine wpAnyH_ready (rs := [40]) (by kernel_rfl) (by simp) ?_
          refine AllReadyH.cons (o := _) rfl (fun K hK => ?_) AllReadyH.nil
          go_simp
          have hA31 := hid (hA30.out.step ((Below.refl _ y30).alloc (Nat.le_refl _) (.cells #[.string (S (kid l 0)), .string (S (kid l 1)), .string (S (kid l 2)), .string (S (kid l 3)), .string (S (kid l 4)), .string (S (kid l 5)), .string (S (kid l 6)), .string (S (kid l 7))] 9)))
          have hP31 := heap_new y30 (.cells #[.string (S (kid l 0)), .string (S (kid l 1)), .string (S (kid l 2)), .string (S (kid l 3)), .string (S (kid l 4)), .string (S (kid l 5)), .string (S (kid l 6)), .string (S (kid l 7))] 9)
          have hG31 := heap_old hG30 (.cells #[.string (S (kid l 0)), .string (S (kid l 1)), .string (S (kid l 2)), .string (S (kid l 3)), .string (S (kid l 4)), .string (S (kid l 5)), .string (S (kid l 6)), .string (S (kid l 7))] 9)
          generalize hy31 : y30.alloc (.cells #[.string (S (kid l 0)), .string (S (kid l 1)), .string (S (kid l 2)), .string (S (kid l 3)), .string (S (kid l 4)), .string (S (kid l 5)), .string (S (kid l 6)), .string (S (kid l 7))] 9) = y31 at hA31 hP31 hG31 ⊢
          generalize hz31 : y30.heap.size = z31 at hP31 ⊢
          clear hy31 hz31
          try dsimp only
          refine hK.out _ _ ?_ (fun hHeld => ?_)
          · exact ⟨hA31.out, hG31⟩
          clear hK K
          try simp only [Act.put, List.setIfInBounds_toArray, List.set_cons_zero, List.set_cons_succ, List.getElem_toArray, List.getElem_cons_zero, List.getElem_cons_succ]
          refine wpAnyH_ready (rs := [41]) (by kernel_rfl) (by simp) ?_
          refine AllReadyH.cons (o := _) rfl (fun K hK => ?_) AllReadyH.nil
          go_simp
          go_at_call 21
          refine (KR.out _ _ hP31).mono ?_
          rintro e y32 ⟨rfl, hB_⟩
          have hA32 := hid (hA31.out.step (hB_))
          have hG32 := (hB_.block _ (lt_of_block hG31)).trans hG31
          have hP32 := (hB_.block _ (lt_of_block hP31)).trans hP31
          clear hB_
          try dsimp only
          refine hK.out _ _ ?_ (fun hHeld => ?_)
          · exact ⟨hA32.out, hG32⟩
          clear hK K
          try simp only [Act.put, List.setIfInBounds_toArray, List.set_cons_zero, List.set_cons_succ, List.getElem_toArray, List.getElem_cons_zero, List.getElem_cons_succ]
          refine wpAnyH_take (i := 44) (oi := _) (v := ?_) rfl (by kernel_rfl) (by kernel_rfl) (by kernel_rfl) (fun _ _ _ h => h) (Or.inl ⟨by rfl, ?_⟩) (by assumption) ?_
          rotate_left
          · intro w hSw
            try dsimp only at hSw
            go_simp
            try with_reducible rfl
          try simp only [Act.put, List.setIfInBounds_toArray, List.set_cons_zero, List.set_cons_succ, List.getElem_toArray, List.getElem_cons_zero, List.getElem_cons_succ]
          refine wpAnyH_take (i := 45) (oi := _) (v := ?_) rfl (by kernel_rfl) (by kernel_rfl) (by kernel_rfl) (fun _ _ _ h => h) (Or.inl ⟨by rfl, ?_⟩) (by assumption) ?_
          rotate_left
          · intro w hSw
            try dsimp only at hSw
            go_simp
            try with_reducible rfl
          try simp only [Act.put, List.setIfInBounds_toArray, List.set_cons_zero, List.set_cons_succ, List.getElem_toArray, List.getElem_cons_zero, List.getElem_cons_succ]
          refine wpAnyH_take (i := 46) (oi := _) (v := .bool true) rfl (by kernel_rfl) (by kernel_rfl) (by kernel_rfl) (fun _ _ _ h => h) (Or.inl ⟨by rfl, ?_⟩) (by assumption) ?_
          · intro w hSw
            try dsimp only at hSw
            go_simp
            try with_reducible rfl
          try simp only [Act.put, List.setIfInBounds_toArray, List.set_cons_zero, List.set_cons_succ, List.getElem_toArray, List.getElem_cons_zero, List.getElem_cons_succ]
          refine wpAnyH_take (i := 47) (oi := _) (v := .bool true) rfl (by kernel_rfl) (by kernel_rfl) (by kernel_rfl) (fun _ _ _ h => h) (Or.inl ⟨by rfl, ?_⟩) (by assumption) ?_
          · intro w hSw
            try dsimp only at hSw
            go_simp
            try with_reducible rfl
          try simp only [Act.put, List.setIfInBounds_toArray, List.set_cons_zero, List.set_cons_succ, List.getElem_toArray, List.getElem_cons_zero, List.getElem_cons_succ]
          refine wpAnyH_ready (rs := [48]) (by kernel_rfl) (by simp) ?_
          refine AllReadyH.cons (o := _) rfl (fun K hK => ?_) AllReadyH.nil
          go_simp
          try dsimp only
          refine hK.out _ _ ?_ (fun hHeld => ?_)
          · exact ⟨hA32.out, hG32⟩
          clear hK K
          try simp only [Act.put, List.setIfInBounds_toArray, List.set_cons_zero, List.set_cons_succ, List.getElem_toArray, List.getElem_cons_zero, List.getElem_cons_succ]
          refine wpAnyH_done (by kernel_rfl) ?_ _
          go_wp2_with fail
          go_ret
          exact ⟨rfl, HB7.out.trans (Below.mono hA32.out HB7.out.size)⟩
      · go_simp
        have hA13 := hid (hA12.out.step ((Below.refl _ y12).alloc (Nat.le_refl _) (.cells (zeros 32) 5)))
        have hG13 := heap_new y12 (.cells (zeros 32) 5)
        generalize hy13 : y12.alloc (.cells (zeros 32) 5) = y13 at hA13 hG13 ⊢
        generalize hz13 : y12.heap.size = z13 at hG13 ⊢
        clear hy13 hz13
        try dsimp only
        refine hK.out _ _ ?_ (fun hHeld => ?_)
        · exact hA13.out
        clear hK K
        try simp only [Act.put, List.setIfInBounds_toArray, List.set_cons_zero, List.set_cons_succ, List.getElem_toArray, List.getElem_cons_zero, List.getElem_cons_succ]
        refine wpAnyH_more (S' := fun w' => After w7 w' ∧ w'.heap[z13]? = some (.cells (zeros 32) 5 (0, 0))) (fun _ h => h.1) _ _ _ _ ?_
        have hHeld2 : (fun w' => After w7 w' ∧ w'.heap[z13]? = some (.cells (zeros 32) 5 (0, 0))) y13 := ⟨hA13.out, hG13⟩
        refine wpAnyH_take (i := 43) (oi := _) (v := .string (S zero32)) rfl (by kernel_rfl) (by kernel_rfl) (by kernel_rfl) (fun _ _ _ h => h) (Or.inl ⟨by rfl, ?_⟩) (by assumption) ?_
        · intro w hSw
          have hcv := conv_z hSw.2
          go_simp
        try simp only [Act.put, List.setIfInBounds_toArray, List.set_cons_zero, List.set_cons_succ, List.getElem_toArray, List.getElem_cons_zero, List.getElem_cons_succ]
        refine wpAnyH_ready (rs := [21]) (by kernel_rfl) (by simp) ?_
        refine AllReadyH.cons (o := _) rfl (fun K hK => ?_) AllReadyH.nil
        go_simp
        go_at_call 14
        refine (KT 1 (by decide) _).mono ?_
        rintro e y14 ⟨rfl, hB_⟩
        have hA14 := hid (hA13.out.step (hB_))
        have hG14 := (hB_.block _ (lt_of_block hG13)).trans hG13
        clear hB_
        try dsimp only
        refine hK.out _ _ ?_ (fun hHeld => ?_)
        · exact ⟨hA14.out, hG14⟩
        clear hK K
        try simp only [Act.put, List.setIfInBounds_toArray, List.set_cons_zero, List.set_cons_succ, List.getElem_toArray, List.getElem_cons_zero, List.getElem_cons_succ]
        refine wpAnyH_ready (rs := [24]) (by kernel_rfl) (by simp) ?_
        refine AllReadyH.cons (o := _) rfl (fun K hK => ?_) AllReadyH.nil
        go_simp
        go_at_call 14
        refine (KT 2 (by decide) _).mono ?_
        rintro e y15 ⟨rfl, hB_⟩
        have hA15 := hid (hA14.out.step (hB_))
        have hG15 := (hB_.block _ (lt_of_block hG14)).trans hG14
        clear hB_
        try dsimp only
        refine hK.out _ _ ?_ (fun hHeld => ?_)
        · exact ⟨hA15.out, hG15⟩
        clear hK K
        try simp only [Act.put, List.setIfInBounds_toArray, List.set_cons_zero, List.set_cons_succ, List.getElem_toArray, List.getElem_cons_zero, List.getElem_cons_succ]
        refine wpAnyH_ready (rs := [27]) (by kernel_rfl) (by simp) ?_
        refine AllReadyH.cons (o := _) rfl (fun K hK => ?_) AllReadyH.nil
        go_simp
        go_at_call 14
        refine (KT 3 (by decide) _).mono ?_
        rintro e y16 ⟨rfl, hB_⟩
        have hA16 := hid (hA15.out.step (hB_))
        have hG16 := (hB_.block _ (lt_of_block hG15)).trans hG15
        clear hB_
        try dsimp only
        refine hK.out _ _ ?_ (fun hHeld => ?_)
        · exact ⟨hA16.out, hG16⟩
        clear hK K
        try simp only [Act.put, List.setIfInBounds_toArray, List.set_cons_zero, List.set_cons_succ, List.getElem_toArray, List.getElem_cons_zero, List.getElem_cons_succ]
        refine wpAnyH_ready (rs := [30]) (by kernel_rfl) (by simp) ?_
        refine AllReadyH.cons (o := _) rfl (fun K hK => ?_) AllReadyH.nil
        go_simp
        go_at_call 14
        refine (KT 4 (by decide) _).mono ?_
        rintro e y17 ⟨rfl, hB_⟩
        have hA17 := hid (hA16.out.step (hB_))
        have hG17 := (hB_.block _ (lt_of_block hG16)).trans hG16
        clear hB_
        try dsimp only
        refine hK.out _ _ ?_ (fun hHeld => ?_)
        · exact ⟨hA17.out, hG17⟩
        clear hK K
        try simp only [Act.put, List.setIfInBounds_toArray, List.set_cons_zero, List.set_cons_succ, List.getElem_toArray, List.getElem_cons_zero, List.getElem_cons_succ]
        refine wpAnyH_ready (rs := [33]) (by kernel_rfl) (by simp) ?_
        refine AllReadyH.cons (o := _) rfl (fun K hK => ?_) AllReadyH.nil
        go_simp
        go_at_call 14
        refine (KT 5 (by decide) _).mono ?_
        rintro e y18 ⟨rfl, hB_⟩
        have hA18 := hid (hA17.out.step (hB_))
        have hG18 := (hB_.block _ (lt_of_block hG17)).trans hG17
        clear hB_
        try dsimp only
        refine hK.out _ _ ?_ (fun hHeld => ?_)
        · exact ⟨hA18.out, hG18⟩
        clear hK K
        try simp only [Act.put, List.setIfInBounds_toArray, List.set_cons_zero, List.set_cons_succ, List.getElem_toArray, List.getElem_cons_zero, List.getElem_cons_succ]
        refine wpAnyH_ready (rs := [36]) (by kernel_rfl) (by simp) ?_
        refine AllReadyH.cons (o := _) rfl (fun K hK => ?_) AllReadyH.nil
        go_simp
        go_at_call 14
        refine (KT 6 (by decide) _).mono ?_
        rintro e y19 ⟨rfl, hB_⟩
        have hA19 := hid (hA18.out.step (hB_))
        have hG19 := (hB_.block _ (lt_of_block hG18)).trans hG18
        clear hB_
        try dsimp only
        refine hK.out _ _ ?_ (fun hHeld => ?_)
        · exact ⟨hA19.out, hG19⟩
        clear hK K
        try simp only [Act.put, List.setIfInBounds_toArray, List.set_cons_zero, List.set_cons_succ, List.getElem_toArray, List.getElem_cons_zero, List.getElem_cons_succ]
        refine wpAnyH_ready (rs := [39]) (by kernel_rfl) (by simp) ?_
        refine AllReadyH.cons (o := _) rfl (fun K hK => ?_) AllReadyH.nil
        go_simp
        go_at_call 14
        refine (KT 7 (by decide) _).mono ?_
        rintro e y20 ⟨rfl, hB_⟩
        have hA20 := hid (hA19.out.step (hB_))
        have hG20 := (hB_.block _ (lt_of_block hG19)).trans hG19
        clear hB_
        try dsimp only
        refine hK.out _ _ ?_ (fun hHeld => ?_)
        · exact ⟨hA20.out, hG20⟩
        clear hK K
        try simp only [Act.put, List.setIfInBounds_toArray, List.set_cons_zero, List.set_cons_succ, List.getElem_toArray, List.getElem_cons_zero, List.getElem_cons_succ]
        refine wpAnyH_ready (rs := [40]) (by kernel_rfl) (by simp) ?_
        refine AllReadyH.cons (o := _) rfl (fun K hK => ?_) AllReadyH.nil
        go_simp
        have hA21 := hid (hA20.out.step ((Below.refl _ y20).alloc (Nat.le_refl _) (.cells #[.string (S (kid l 0)), .string (S (kid l 1)), .string (S (kid l 2)), .string (S (kid l 3)), .string (S (kid l 4)), .string (S (kid l 5)), .string (S (kid l 6)), .string (S (kid l 7))] 9)))
        have hP21 := heap_new y20 (.cells #[.string (S (kid l 0)), .string (S (kid l 1)), .string (S (kid l 2)), .string (S (kid l 3)), .string (S (kid l 4)), .string (S (kid l 5)), .string (S (kid l 6)), .string (S (kid l 7))] 9)
        have hG21 := heap_old hG20 (.cells #[.string (S (kid l 0)), .string (S (kid l 1)), .string (S (kid l 2)), .string (S (kid l 3)), .string (S (kid l 4)), .string (S (kid l 5)), .string (S (kid l 6)), .string (S (kid l 7))] 9)
        generalize hy21 : y20.alloc (.cells #[.string (S (kid l 0)), .string (S (kid l 1)), .string (S (kid l 2)), .string (S (kid l 3)), .string (S (kid l 4)), .string (S (kid l 5)), .string (S (kid l 6)), .string (S (kid l 7))] 9) = y21 at hA21 hP21 hG21 ⊢
        generalize hz21 : y20.heap.size = z21 at hP21 ⊢
        clear hy21 hz21
        try dsimp only
        refine hK.out _ _ ?_ (fun hHeld => ?_)
        · exact ⟨hA21.out, hG21⟩
        clear hK K
        try simp only [Act.put, List.setIfInBounds_toArray, List.set_cons_zero, List.set_cons_succ, List.getElem_toArray, List.getElem_cons_zero, List.getElem_cons_succ]
        refine wpAnyH_ready (rs := [41]) (by kernel_rfl) (by simp) ?_
        refine AllReadyH.cons (o := _) rfl (fun K hK => ?_) AllReadyH.nil
        go_simp
        go_at_call 21
        refine (KR.out _ _ hP21).mono ?_
        rintro e y22 ⟨rfl, hB_⟩
        have hA22 := hid (hA21.out.step (hB_))
        have hG22 := (hB_.block _ (lt_of_block hG21)).trans hG21
        have hP22 := (hB_.block _ (lt_of_block hP21)).trans hP21
        clear hB_
        try dsimp only
        refine hK.out _ _ ?_ (fun hHeld => ?_)
        · exact ⟨hA22.out, hG22⟩
        clear hK K
        try simp only [Act.put, List.setIfInBounds_toArray, List.set_cons_zero, List.set_cons_succ, List.getElem_toArray, List.getElem_cons_zero, List.getElem_cons_succ]
        refine wpAnyH_take (i := 44) (oi := _) (v := ?_) rfl (by kernel_rfl) (by kernel_rfl) (by kernel_rfl) (fun _ _ _ h => h) (Or.inl ⟨by rfl, ?_⟩) (by assumption) ?_
        rotate_left
        · intro w hSw
          try dsimp only at hSw
          go_simp
          try with_reducible rfl
        try simp only [Act.put, List.setIfInBounds_toArray, List.set_cons_zero, List.set_cons_succ, List.getElem_toArray, List.getElem_cons_zero, List.getElem_cons_succ]
        refine wpAnyH_take (i := 45) (oi := _) (v := ?_) rfl (by kernel_rfl) (by kernel_rfl) (by kernel_rfl) (fun _ _ _ h => h) (Or.inl ⟨by rfl, ?_⟩) (by assumption) ?_
        rotate_left
        · intro w hSw
          try dsimp only at hSw
          go_simp
          try with_reducible rfl
        try simp only [Act.put, List.setIfInBounds_toArray, List.set_cons_zero, List.set_cons_succ, List.getElem_toArray, List.getElem_cons_zero, List.getElem_cons_succ]
        refine wpAnyH_take (i := 46) (oi := _) (v := .bool true) rfl (by kernel_rfl) (by kernel_rfl) (by kernel_rfl) (fun _ _ _ h => h) (Or.inl ⟨by rfl, ?_⟩) (by assumption) ?_
        · intro w hSw
          try dsimp only at hSw
          go_simp
          try with_reducible rfl
        try simp only [Act.put, List.setIfInBounds_toArray, List.set_cons_zero, List.set_cons_succ, List.getElem_toArray, List.getElem_cons_zero, List.getElem_cons_succ]
        refine wpAnyH_take (i := 47) (oi := _) (v := .bool true) rfl (by kernel_rfl) (by kernel_rfl) (by kernel_rfl) (fun _ _ _ h => h) (Or.inl ⟨by rfl, ?_⟩) (by assumption) ?_
        · intro w hSw
          try dsimp only at hSw
          go_simp
          try with_reducible rfl
        try simp only [Act.put, List.setIfInBounds_toArray, List.set_cons_zero, List.set_cons_succ, List.getElem_toArray, List.getElem_cons_zero, List.getElem_cons_succ]
        refine wpAnyH_ready (rs := [48]) (by kernel_rfl) (by simp) ?_
        refine AllReadyH.cons (o := _) rfl (fun K hK => ?_) AllReadyH.nil
        go_simp
        try dsimp only
        refine hK.out _ _ ?_ (fun hHeld => ?_)
        · exact ⟨hA22.out, hG22⟩
        clear hK K
        try simp only [Act.put, List.setIfInBounds_toArray, List.set_cons_zero, List.set_cons_succ, List.getElem_toArray, List.getElem_cons_zero, List.getElem_cons_succ]
        refine wpAnyH_done (by kernel_rfl) ?_ _
        go_wp2_with fail
        go_ret
        exact ⟨rfl, HB7.out.trans (Below.mono hA22.out HB7.out.size)⟩
    · go_simp
      have hA1 := hid (hA902.out.step ((Below.refl _ q2).alloc (Nat.le_refl _) (.cells (zeros 32) 5)))
      have hG1 := heap_new q2 (.cells (zeros 32) 5)
      generalize hy1 : q2.alloc (.cells (zeros 32) 5) = y1 at hA1 hG1 ⊢
      generalize hz1 : q2.heap.size = z1 at hG1 ⊢
      clear hy1 hz1
      try dsimp only
      refine hK.out _ _ ?_ (fun hHeld => ?_)
      · exact hA1.out
      clear hK K
      try simp only [Act.put, List.setIfInBounds_toArray, List.set_cons_zero, List.set_cons_succ, List.getElem_toArray, List.getElem_cons_zero, List.getElem_cons_succ]
      refine wpAnyH_more (S' := fun w' => After w7 w' ∧ w'.heap[z1]? = some (.cells (zeros 32) 5 (0, 0))) (fun _ h => h.1) _ _ _ _ ?_
      have hHeld2 : (fun w' => After w7 w' ∧ w'.heap[z1]? = some (.cells (zeros 32) 5 (0, 0))) y1 := ⟨hA1.out, hG1⟩
      refine wpAnyH_take (i := 43) (oi := _) (v := .string (S zero32)) rfl (by kernel_rfl) (by kernel_rfl) (by kernel_rfl) (fun _ _ _ h => h) (Or.inl ⟨by rfl, ?_⟩) (by assumption) ?_
      · intro w hSw
        have hcv := conv_z hSw.2
        go_simp
      try simp only [Act.put, List.setIfInBounds_toArray, List.set_cons_zero, List.set_cons_succ, List.getElem_toArray, List.getElem_cons_zero, List.getElem_cons_succ]
      refine wpAnyH_ready (rs := [18]) (by kernel_rfl) (by simp) ?_
      refine AllReadyH.cons (o := _) rfl (fun K hK => ?_) AllReadyH.nil
      go_simp
      go_at_call 14
      refine (KT 0 (by decide) _).mono ?_
      rintro e y2 ⟨rfl, hB_⟩
      have hA2 := hid (hA1.out.step (hB_))
      have hG2 := (hB_.block _ (lt_of_block hG1)).trans hG1
      clear hB_
      try dsimp only
      refine hK.out _ _ ?_ (fun hHeld => ?_)
      · exact ⟨hA2.out, hG2⟩
      clear hK K
      try simp only [Act.put, List.setIfInBounds_toArray, List.set_cons_zero, List.set_cons_succ, List.getElem_toArray, List.getElem_cons_zero, List.getElem_cons_succ]
      refine wpAnyH_ready (rs := [21]) (by kernel_rfl) (by simp) ?_
      refine AllReadyH.cons (o := _) rfl (fun K hK => ?_) AllReadyH.nil
      go_simp
      go_at_call 14
      refine (KT 1 (by decide) _).mono ?_
      rintro e y3 ⟨rfl, hB_⟩
      have hA3 := hid (hA2.out.step (hB_))
      have hG3 := (hB_.block _ (lt_of_block hG2)).trans hG2
      clear hB_
      try dsimp only
      refine hK.out _ _ ?_ (fun hHeld => ?_)
      · exact ⟨hA3.out, hG3⟩
      clear hK K
      try simp only [Act.put, List.setIfInBounds_toArray, List.set_cons_zero, List.set_cons_succ, List.getElem_toArray, List.getElem_cons_zero, List.getElem_cons_succ]
      refine wpAnyH_ready (rs := [24]) (by kernel_rfl) (by simp) ?_
      refine AllReadyH.cons (o := _) rfl (fun K hK => ?_) AllReadyH.nil
      go_simp
      go_at_call 14
      refine (KT 2 (by decide) _).mono ?_
      rintro e y4 ⟨rfl, hB_⟩
      have hA4 := hid (hA3.out.step (hB_))
      have hG4 := (hB_.block _ (lt_of_block hG3)).trans hG3
      clear hB_
      try dsimp only
      refine hK.out _ _ ?_ (fun hHeld => ?_)
      · exact ⟨hA4.out, hG4⟩
      clear hK K
      try simp only [Act.put, List.setIfInBounds_toArray, List.set_cons_zero, List.set_cons_succ, List.getElem_toArray, List.getElem_cons_zero, List.getElem_cons_succ]
      refine wpAnyH_ready (rs := [27]) (by kernel_rfl) (by simp) ?_
      refine AllReadyH.cons (o := _) rfl (fun K hK => ?_) AllReadyH.nil
      go_simp
      go_at_call 14
      refine (KT 3 (by decide) _).mono ?_
      rintro e y5 ⟨rfl, hB_⟩
      have hA5 := hid (hA4.out.step (hB_))
      have hG5 := (hB_.block _ (lt_of_block hG4)).trans hG4
      clear hB_
      try dsimp only
      refine hK.out _ _ ?_ (fun hHeld => ?_)
      · exact ⟨hA5.out, hG5⟩
      clear hK K
      try simp only [Act.put, List.setIfInBounds_toArray, List.set_cons_zero, List.set_cons_succ, List.getElem_toArray, List.getElem_cons_zero, List.getElem_cons_succ]
      refine wpAnyH_ready (rs := [30]) (by kernel_rfl) (by simp) ?_
      refine AllReadyH.cons (o := _) rfl (fun K hK => ?_) AllReadyH.nil
      go_simp
      go_at_call 14
      refine (KT 4 (by decide) _).mono ?_
      rintro e y6 ⟨rfl, hB_⟩
      have hA6 := hid (hA5.out.step (hB_))
      have hG6 := (hB_.block _ (lt_of_block hG5)).trans hG5
      clear hB_
      try dsimp only
      refine hK.out _ _ ?_ (fun hHeld => ?_)
      · exact ⟨hA6.out, hG6⟩
      clear hK K
      try simp only [Act.put, List.setIfInBounds_toArray, List.set_cons_zero, List.set_cons_succ, List.getElem_toArray, List.getElem_cons_zero, List.getElem_cons_succ]
      refine wpAnyH_ready (rs := [33]) (by kernel_rfl) (by simp) ?_
      refine AllReadyH.cons (o := _) rfl (fun K hK => ?_) AllReadyH.nil
      go_simp
      go_at_call 14
      refine (KT 5 (by decide) _).mono ?_
      rintro e y7 ⟨rfl, hB_⟩
      have hA7 := hid (hA6.out.step (hB_))
      have hG7 := (hB_.block _ (lt_of_block hG6)).trans hG6
      clear hB_
      try dsimp only
      refine hK.out _ _ ?_ (fun hHeld => ?_)
      · exact ⟨hA7.out, hG7⟩
      clear hK K
      try simp only [Act.put, List.setIfInBounds_toArray, List.set_cons_zero, List.set_cons_succ, List.getElem_toArray, List.getElem_cons_zero, List.getElem_cons_succ]
      refine wpAnyH_ready (rs := [36]) (by kernel_rfl) (by simp) ?_
      refine AllReadyH.cons (o := _) rfl (fun K hK => ?_) AllReadyH.nil
      go_simp
      go_at_call 14
      refine (KT 6 (by decide) _).mono ?_
      rintro e y8 ⟨rfl, hB_⟩
      have hA8 := hid (hA7.out.step (hB_))
      have hG8 := (hB_.block _ (lt_of_block hG7)).trans hG7
      clear hB_
      try dsimp only
      refine hK.out _ _ ?_ (fun hHeld => ?_)
      · exact ⟨hA8.out, hG8⟩
      clear hK K
      try simp only [Act.put, List.setIfInBounds_toArray, List.set_cons_zero, List.set_cons_succ, List.getElem_toArray, List.getElem_cons_zero, List.getElem_cons_succ]
      refine wpAnyH_ready (rs := [39]) (by kernel_rfl) (by simp) ?_
      refine AllReadyH.cons (o := _) rfl (fun K hK => ?_) AllReadyH.nil
      go_simp
      go_at_call 14
      refine (KT 7 (by decide) _).mono ?_
      rintro e y9 ⟨rfl, hB_⟩
      have hA9 := hid (hA8.out.step (hB_))
      have hG9 := (hB_.block _ (lt_of_block hG8)).trans hG8
      clear hB_
      try dsimp only
      refine hK.out _ _ ?_ (fun hHeld => ?_)
      · exact ⟨hA9.out, hG9⟩
      clear hK K
      try simp only [Act.put, List.setIfInBounds_toArray, List.set_cons_zero, List.set_cons_succ, List.getElem_toArray, List.getElem_cons_zero, List.getElem_cons_succ]
      refine wpAnyH_ready (rs := [40]) (by kernel_rfl) (by simp) ?_
      refine AllReadyH.cons (o := _) rfl (fun K hK => ?_) AllReadyH.nil
      go_simp
      have hA10 := hid (hA9.out.step ((Below.refl _ y9).alloc (Nat.le_refl _) (.cells #[.string (S (kid l 0)), .string (S (kid l 1)), .string (S (kid l 2)), .string (S (kid l 3)), .string (S (kid l 4)), .string (S (kid l 5)), .string (S (kid l 6)), .string (S (kid l 7))] 9)))
      have hP10 := heap_new y9 (.cells #[.string (S (kid l 0)), .string (S (kid l 1)), .string (S (kid l 2)), .string (S (kid l 3)), .string (S (kid l 4)), .string (S (kid l 5)), .string (S (kid l 6)), .string (S (kid l 7))] 9)
      have hG10 := heap_old hG9 (.cells #[.string (S (kid l 0)), .string (S (kid l 1)), .string (S (kid l 2)), .string (S (kid l 3)), .string (S (kid l 4)), .string (S (kid l 5)), .string (S (kid l 6)), .string (S (kid l 7))] 9)
      generalize hy10 : y9.alloc (.cells #[.string (S (kid l 0)), .string (S (kid l 1)), .string (S (kid l 2)), .string (S (kid l 3)), .string (S (kid l 4)), .string (S (kid l 5)), .string (S (kid l 6)), .string (S (kid l 7))] 9) = y10 at hA10 hP10 hG10 ⊢
      generalize hz10 : y9.heap.size = z10 at hP10 ⊢
      clear hy10 hz10
      try dsimp only
      refine hK.out _ _ ?_ (fun hHeld => ?_)
      · exact ⟨hA10.out, hG10⟩
      clear hK K
      try simp only [Act.put, List.setIfInBounds_toArray, List.set_cons_zero, List.set_cons_succ, List.getElem_toArray, List.getElem_cons_zero, List.getElem_cons_succ]
      refine wpAnyH_ready (rs := [41]) (by kernel_rfl) (by simp) ?_
      refine AllReadyH.cons (o := _) rfl (fun K hK => ?_) AllReadyH.nil
      go_simp
      go_at_call 21
      refine (KR.out _ _ hP10).mono ?_
      rintro e y11 ⟨rfl, hB_⟩
      have hA11 := hid (hA10.out.step (hB_))
      have hG11 := (hB_.block _ (lt_of_block hG10)).trans hG10
      have hP11 := (hB_.block _ (lt_of_block hP10)).trans hP10
      clear hB_
      try dsimp only
      refine hK.out _ _ ?_ (fun hHeld => ?_)
      · exact ⟨hA11.out, hG11⟩
      clear hK K
      try simp only [Act.put, List.setIfInBounds_toArray, List.set_cons_zero, List.set_cons_succ, List.getElem_toArray, List.getElem_cons_zero, List.getElem_cons_succ]
      refine wpAnyH_take (i := 44) (oi := _) (v := ?_) rfl (by kernel_rfl) (by kernel_rfl) (by kernel_rfl) (fun _ _ _ h => h) (Or.inl ⟨by rfl, ?_⟩) (by assumption) ?_
      rotate_left
      · intro w hSw
        try dsimp only at hSw
        go_simp
        try with_reducible rfl
      try simp only [Act.put, List.setIfInBounds_toArray, List.set_cons_zero, List.set_cons_succ, List.getElem_toArray, List.getElem_cons_zero, List.getElem_cons_succ]
      refine wpAnyH_take (i := 45) (oi := _) (v := ?_) rfl (by kernel_rfl) (by kernel_rfl) (by kernel_rfl) (fun _ _ _ h => h) (Or.inl ⟨by rfl, ?_⟩) (by assumption) ?_
      rotate_left
      · intro w hSw
        try dsimp only at hSw
        go_simp
        try with_reducible rfl
      try simp only [Act.put, List.setIfInBounds_toArray, List.set_cons_zero, List.set_cons_succ, List.getElem_toArray, List.getElem_cons_zero, List.getElem_cons_succ]
      refine wpAnyH_take (i := 46) (oi := _) (v := .bool true) rfl (by kernel_rfl) (by kernel_rfl) (by kernel_rfl) (fun _ _ _ h => h) (Or.inl ⟨by rfl, ?_⟩) (by assumption) ?_
      · intro w hSw
        try dsimp only at hSw
        go_simp
        try with_reducible rfl
      try simp only [Act.put, List.setIfInBounds_toArray, List.set_cons_zero, List.set_cons_succ, List.getElem_toArray, List.getElem_cons_zero, List.getElem_cons_succ]
      refine wpAnyH_take (i := 47) (oi := _) (v := .bool true) rfl (by kernel_rfl) (by kernel_rfl) (by kernel_rfl) (fun _ _ _ h => h) (Or.inl ⟨by rfl, ?_⟩) (by assumption) ?_
      · intro w hSw
        try dsimp only at hSw
        go_simp
        try with_reducible rfl
      try simp only [Act.put, List.setIfInBounds_toArray, List.set_cons_zero, List.set_cons_succ, List.getElem_toArray, List.getElem_cons_zero, List.getElem_cons_succ]
      refine wpAnyH_ready (rs := [48]) (by kernel_rfl) (by simp) ?_
      refine AllReadyH.cons (o := _) rfl (fun K hK => ?_) AllReadyH.nil
      go_simp
      try dsimp only
      refine hK.out _ _ ?_ (fun hHeld => ?_)
      · exact ⟨hA11.out, hG11⟩
      clear hK K
      try simp only [Act.put, List.setIfInBounds_toArray, List.set_cons_zero, List.set_cons_succ, List.getElem_toArray, List.getElem_cons_zero, List.getElem_cons_succ]
      refine wpAnyH_done (by kernel_rfl) ?_ _
      go_wp2_with fail
      go_ret
      exact ⟨rfl, HB7.out.trans (Below.mono hA11.out HB7.out.size)⟩

theorem walkNodeEmpty (w : World) (level kd at_ : Int) (s : List UInt8) (_h1 : (Lit.int .i64 level).wf = true) (_h2 : (Lit.int .i64 kd).wf = true) (_h3 : (Lit.int .i64 at_).wf = true) (hs : s.length = 32) (hL : Laid w) :
    Calls Tryd.prog 9 #[.int .i64 level, .int .i64 kd, .int .i64 at_, .agg (byteCells s).toArray] w fun e w' => e = .returned (.bool true) ∧ Below w.heap.size w w' :=
  nodeempty_any level kd at_ s hs w hL
end Go.Proofs.YtmdcalkfapcafaaDoor
