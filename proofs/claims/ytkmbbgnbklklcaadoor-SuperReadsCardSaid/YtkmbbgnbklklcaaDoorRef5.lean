/-
  The document's frame.
-/
import Derived.Test.YtkmbbgnbklklcaaDoorRef3
import Derived.Test.YtkmbbgnbklklcaaDoorStampB
namespace Go.Proofs.YtkmbbgnbklklcaaDoor
open Go.RowKit

theorem ref5_bytes (a b : Nat) (w : World) (ha : a < 4294967296) (hb : b < 4294967296) :
    Calls Tryd.prog 87 #[.int .u32 a, .int .u32 b] w fun e w' => e = .returned (.string (S (st a b))) ∧ Below w.heap.size w w' := by
  have hwa : IntKind.u64.wrap (a : Int) = a := by rw [IntKind.wrap_u64]; omega
  have hwb : IntKind.u64.wrap (b : Int) = b := by rw [IntKind.wrap_u64]; omega
  have hadd := str_add (num a 4) (num b 4) (by rw [num_length]; decide) (by rw [num_length]; decide)
  rw [show num a 4 ++ num b 4 = st a b from rfl] at hadd
  go_enter Tryd.func87, Tryd.ntmps87
  go_wp2_with fail
  refine (refnum_any a 4 4 w (by decide) (by omega)).mono ?_
  rintro e w1 ⟨rfl, hB⟩
  have HB1 := hid hB
  clear hB
  go_wp2_with fail
  refine (refnum_any b 4 4 w1 (by decide) (by omega)).mono ?_
  rintro e w2 ⟨rfl, hB⟩
  have HB2 := hid (HB1.out.trans (hB.mono HB1.out.size))
  clear hB
  go_wp2_with fail
  go_ret
  exact ⟨rfl, HB2.out⟩

set_option maxRecDepth 100000 in
set_option maxHeartbeats 2000000 in
theorem ref5_frame (a b : Nat) (t : List UInt8) (w : World) (ha : a < 4294967296) (hb : b < 4294967296) (ht : t.length ≤ 47) :
    Calls Tryd.prog 39 #[.int .u32 a, .int .u32 b, .string (S t)] w fun e w' => e = .returned (.string (S (frame a b t))) ∧ Below w.heap.size w w' := by
  have hts := S_size t
  obtain ⟨c, hc0, hc⟩ : ∃ c : UInt8, UInt8.ofNat t.length = c ∧ IntKind.u8.wrap (t.length : Int) = (c.toNat : Int) := ⟨_, rfl, by rw [UInt8.toNat_ofNat', IntKind.wrap_u8]; omega⟩
  have hcv : ∀ (W : World) (p : Nat), W.cell? ⟨p, 0, none⟩ = some (.int .u8 (c.toNat : Int)) → (convert 41 9 (.slice (some ⟨p, 0, none⟩) 1 1)).run Tryd.prog W = .ok (.string (S [c])) W := fun W p h => by
    exact run_convert_bytes_back (P := Tryd.prog) _ _ _ 5 ⟨p, 0, none⟩ 1 [c] Tryd.underlying41 Tryd.underlying5 Tryd.underlying9 (by
      intro j hj
      obtain rfl : j = 0 := by simpa using hj
      exact h)
  have hadd1 := str_add (st a b) [c] (by rw [st_length]; decide) (by simp)
  have hadd2 := str_add (st a b ++ [c]) t (by rw [List.length_append, st_length]; simp) (by omega)
  have hl2 : (st a b ++ [c] ++ t).length = 9 + t.length := by rw [List.length_append, List.length_append, st_length]; rfl
  have hfr : frame a b t = st a b ++ [c] ++ t ++ List.replicate (56 - (9 + t.length)) 0 ++ st a b := by unfold frame; rw [num_one, hc0]
  have Hfr := hid hfr
  clear hfr hc0
  go_enter Tryd.func39, Tryd.ntmps39
  go_upto_region 1 with fail
  have hcvA := hcv (w.alloc (.cells #[.int .u8 (c.toNat : Int)] 5)).drew w.heap.size (cell_of_block (heap_new w _) 0)
  have hBA : Below w.heap.size w (w.alloc (.cells #[.int .u8 (c.toNat : Int)] 5)).drew := ((Below.refl _ _).alloc (Nat.le_refl _) _).drew
  have HBA := hid hBA
  have Hcv := hid hcv
  clear hBA hcv
  go_region_law (first
      | (go_simp; go_at_call 87; (with_reducible refine (ref5_bytes a b w.drew ha hb).mono ?_); rintro e w1 ⟨rfl, hB1⟩; have HB1 := hid hB1; have hcvB := Hcv.out (w1.alloc (.cells #[.int .u8 (c.toNat : Int)] 5)) w1.heap.size (cell_of_block (heap_new w1 _) 0); clear hB1)
      | (go_simp; go_at_call 87; (with_reducible refine (ref5_bytes a b (w.alloc (.cells #[.int .u8 (c.toNat : Int)] 5)).drew ha hb).mono ?_); rintro e w1 ⟨rfl, hB1⟩; have HB1 := hid hB1; have hcvC := Hcv.out w1 w.heap.size ((hB1.cell (p := ⟨w.heap.size, 0, none⟩) (by simp)).trans (cell_of_block (heap_new w _) 0)); clear hB1))
  all_goals
    first
      | (have HB2 : Hid (Below w.heap.size w w1) := hid (HBA.out.trans (HB1.out.mono (by simp))))
      | (have HB2 : Hid (Below w.heap.size w w1) := hid ((Below.refl w.heap.size w).drew.trans HB1.out))
    clear hcvA
    try clear hcvB
    try clear hcvC
    go_simp
    go_wp2_with fail
    go_loopw [7] (fun v wr => ∃ q : Nat, 9 + t.length + q ≤ 56 ∧ v = .string (S (st a b ++ c :: (t ++ List.replicate q 0))) ∧ Below w.heap.size w wr) (fun v _ => 64 - (match v with | .string s => s.size | _ => 0))
    case atStart =>
      refine ⟨0, by omega, by simp, ?_⟩
      first | exact HB2.out | exact HB2.out.alloc HB2.out.size _ | exact HB2.out.drew | exact (HB2.out.alloc HB2.out.size _).drew | exact HB2.out.drew.alloc HB2.out.size _
    case round =>
      obtain ⟨q, hq, rfl, hB⟩ := hrel
      have HB := hid hB
      clear hB
      have hs : (S (st a b ++ c :: (t ++ List.replicate q 0))).size = 9 + t.length + q := by rw [S_size]; simp [st_length]; omega
      by_cases hq56 : 9 + t.length + q < 56
      · have hap : S (st a b ++ c :: (t ++ List.replicate q 0)) ++ ⟨#[0]⟩ = S (st a b ++ c :: (t ++ List.replicate (q + 1) 0)) := by
          rw [show (⟨#[0]⟩ : ByteArray) = S [0] from rfl, S_append, List.replicate_succ']
          simp
        have hs2 : (S (st a b ++ c :: (t ++ List.replicate (q + 1) 0))).size = 9 + t.length + (q + 1) := by rw [S_size]; simp [st_length]; omega
        have Hap := hid hap
        have Hs2 := hid hs2
        clear hap hs2
        have d1 : decide ((9 : Int) + (t.length : Int) + (q : Int) < 56) = true := by simp; omega
        go_wp2_with fail
        rw [Hap.out]
        refine ⟨⟨q + 1, by omega, rfl, HB.out⟩, ?_⟩
        show 64 - (S (st a b ++ c :: (t ++ List.replicate (q + 1) 0))).size < 64 - (S (st a b ++ c :: (t ++ List.replicate q 0))).size
        rw [Hs2.out, hs]
        omega
      · have d1 : decide ((9 : Int) + (t.length : Int) + (q : Int) < 56) = false := by simp; omega
        have hadd3 := str_add (st a b ++ c :: (t ++ List.replicate q 0)) (st a b) (by rw [← S_size, hs]; omega) (by rw [st_length]; decide)
        have hfin : st a b ++ c :: (t ++ List.replicate q 0) ++ st a b = frame a b t := by
          rw [Hfr.out, show 56 - (9 + t.length) = q from by omega]
          simp
        rw [hfin] at hadd3
        go_upto_region 4 with fail
        clear hs hfin
        generalize st a b ++ c :: (t ++ List.replicate q 0) = X at *
        go_wp2_with fail
        refine (ref5_bytes a b wr ha hb).mono ?_
        rintro e w5 ⟨rfl, hB⟩
        have HB5 := hid (HB.out.trans (hB.mono HB.out.size))
        clear hB
        go_wp2_with fail
        go_ret
        exact ⟨rfl, HB5.out⟩
end Go.Proofs.YtkmbbgnbklklcaaDoor
