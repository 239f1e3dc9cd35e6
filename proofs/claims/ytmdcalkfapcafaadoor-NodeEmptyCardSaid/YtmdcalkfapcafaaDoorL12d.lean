/-
  Law 12: the document's Digest.
-/
import Derived.Test.YtmdcalkfapcafaaDoorL12c
import Derived.Test.YtmdcalkfapcafaaDoorRefD
namespace Go.Proofs.YtmdcalkfapcafaaDoor
open Go.RowKit

theorem sumCells_zero256 : sumCells zero256 = zeros 256 := by
  unfold sumCells zeros byteCells zero256
  rw [List.map_replicate]
  rfl
theorem sumCells_zero32 : sumCells zero32 = zeros 32 := by
  unfold sumCells zeros byteCells zero32
  rw [List.map_replicate]
  rfl
theorem kids_inj {l m : List UInt8} (hl : l.length = 256) (hm : m.length = 256) (h : ∀ j, j < 8 → kid l j = kid m j) : l = m := by
  have h8 : kids l 8 = kids m 8 := by
    unfold kids
    refine List.map_congr_left fun j hj => h j (by simpa using hj)
  have hf := congrArg List.flatten h8
  rw [kids_flatten, kids_flatten, List.take_of_length_le (by omega), List.take_of_length_le (by omega)] at hf
  exact hf
theorem all_kids {l : List UInt8} (hl : l.length = 256) : ((List.range 8).all fun j => kid l j == kid zero256 j) = decide (l = zero256) := by
  rw [Bool.eq_iff_iff]
  simp only [List.all_eq_true, List.mem_range, beq_iff_eq, decide_eq_true_eq]
  exact ⟨fun h => kids_inj hl zero256_length h, fun h => by rw [h]; intros; rfl⟩
theorem kid_zero256 {j : Nat} (hj : j < 8) : kid zero256 j = zero32 := by
  unfold kid zero256 zero32
  rw [List.drop_replicate, List.take_replicate]
  congr 1; omega
theorem kids_all {l : List UInt8} (hl : l.length = 256) : ((kids l 8).all fun x => x == zero32) = decide (l = zero256) := by
  rw [← all_kids hl]
  unfold kids
  rw [List.all_map, Bool.eq_iff_iff]
  simp only [List.all_eq_true, List.mem_range, Function.comp, beq_iff_eq]
  exact ⟨fun h j hj => by rw [h j hj, kid_zero256 hj], fun h j hj => by rw [h j hj, kid_zero256 hj]⟩

/-- A node's digest: of its level, of its kids' sums. -/
def digOf (b : UInt8) (l : List UInt8) : List UInt8 := if l = zero256 then zero32 else shaOf (78 :: b :: l)
theorem digOf_length (b : UInt8) (l : List UInt8) : (digOf b l).length = 32 := by
  unfold digOf; split
  · exact zero32_length
  · exact shaOf_length _
theorem digest_any (b : UInt8) (l : List UInt8) (hl : l.length = 256) (w : World) (hL : Laid w) :
    Calls Tryd.prog 20 #[.int .i64 (b.toNat : Int), .agg (sumCells l)] w fun e w' => e = .returned (.agg (sumCells (digOf b l))) ∧ Below w.heap.size w w' := by
  unfold digOf
  by_cases h : l = zero256
  · rw [if_pos h, h, sumCells_zero256, sumCells_zero32]
    exact digest_zero w _
  · rw [if_neg h]
    have hd := digest_pos (b.toNat : Int) l hl w hL (by rw [all_kids hl]; simpa using h)
    rwa [show UInt8.ofNat ((b.toNat : Int) % 256).toNat = b from by
      have := b.toNat_lt
      rw [show ((b.toNat : Int) % 256).toNat = b.toNat from by omega]; simp] at hd

set_option maxHeartbeats 1000000 in
theorem refdig_any (b : UInt8) (ps : List (List UInt8)) (g cap n : Nat) (w : World) (hP : PartsAt w g ps) (hn : n = ps.length) (hlen : ps.flatten.length ≤ 1000000) (hn2 : n ≤ 1000) :
    Calls Tryd.prog 21 #[.int .i64 (b.toNat : Int), .slice (some ⟨g, 0, none⟩) n cap] w fun e w' =>
      e = .returned (.string (S (if ps.all (fun x => x == zero32) then zero32 else shaOf (78 :: b :: ps.flatten)))) ∧ Below w.heap.size w w' := by
  have hb1 : (b.toNat : Int).tmod 256 = (b.toNat : Int) := by have := b.toNat_lt; rw [Int.tmod_eq_emod_of_nonneg (by omega)]; omega
  have hb2 : IntKind.u8.wrap (b.toNat : Int) = (b.toNat : Int) := by have := b.toNat_lt; rw [IntKind.wrap_u8]; omega
  have hcv : (convert 28 9 (.slice (some ⟨w.heap.size, 0, none⟩) 1 1)).run Tryd.prog (w.alloc (.cells #[.int .u8 (b.toNat : Int)] 5)) = .ok (.string (S [b])) (w.alloc (.cells #[.int .u8 (b.toNat : Int)] 5)) := by
    exact run_convert_bytes_back (P := Tryd.prog) _ _ _ 5 ⟨w.heap.size, 0, none⟩ 1 [b] Tryd.underlying28 Tryd.underlying5 Tryd.underlying9 (by
      intro j hj
      obtain rfl : j = 0 := by simpa using hj
      exact cell_of_block (heap_new _ _) 0)
  have hadd : ∀ w, (Op.stringOp .add ⟨#[78]⟩ (S [b])).run Tryd.prog w = .ok (.string (S [78, b])) w := fun w =>
    (run_string_add (P := Tryd.prog) (w := w) ⟨#[78]⟩ (S [b]) (by decide) (by rw [S_size]; simp)).trans (by rw [show (⟨#[78]⟩ : ByteArray) = S [78] from rfl, S_append]; rfl)
  have hB := hid ((Below.refl w.heap.size w).alloc (Nat.le_refl _) (.cells #[.int .u8 (b.toNat : Int)] 5))
  have hP1 := hid (hP.below hB.out)
  subst hn
  obtain ⟨Y, hY⟩ : ∃ Y, (if ps.all (fun x => x == zero32) then zero32 else shaOf (78 :: b :: ps.flatten)) = Y := ⟨_, rfl⟩
  rw [hY]
  have HY := hid hY
  clear hY
  have hpn : (0 : Int) ≤ (ps.length : Int) := by omega
  go_enter Tryd.func21, Tryd.ntmps21
  go_upto_region 4 with fail
  generalize w.alloc (.cells #[.int .u8 (b.toNat : Int)] 5) = w1 at *
  clear hcv hadd hb1 hb2
  go_wp2_with fail
  go_loopw [6, 7, 18] (fun s z i w' => ∃ q : Nat, q ≤ ps.length ∧ i = .int .i64 q ∧ s = .string (S (78 :: b :: (ps.take q).flatten)) ∧ z = .bool ((ps.take q).all fun x => x == zero32) ∧ w' = w1) (fun _ _ i _ => (ps.length - intOf i).toNat)
  case atStart => exact ⟨0, by omega, rfl, rfl, rfl, rfl⟩
  case round =>
    obtain ⟨q, hq, rfl, rfl, rfl, rfl⟩ := hrel
    by_cases hqn : q < ps.length
    · have hlt : (q : Int) < (ps.length : Int) := by omega
      have hcell := hP1.out.2 q hqn
      have htk : ps.take (q + 1) = ps.take q ++ [ps[q]] := List.take_succ_eq_append_getElem hqn
      have hl1 : (ps.take (q + 1)).flatten.length ≤ 1000000 := by
        refine Nat.le_trans ?_ hlen
        conv => rhs; rw [← List.take_append_drop (q + 1) ps, List.flatten_append, List.length_append]
        omega
      rw [htk, List.flatten_append, List.length_append] at hl1
      generalize ps[q] = x at *
      generalize hacc : (ps.take q).flatten = acc at *
      generalize hz : ((ps.take q).all fun x => x == zero32) = z at *
      have hadd : ∀ w, (Op.stringOp .add (S (78 :: b :: acc)) (S x)).run Tryd.prog w = .ok (.string (S (78 :: b :: acc ++ x))) w := fun w =>
        (run_string_add (P := Tryd.prog) (w := w) (S (78 :: b :: acc)) (S x) (by rw [S_size]; simp; omega) (by rw [S_size]; simp at hl1; omega)).trans (by rw [S_append])
      have hcmp : ((S x).toList == [0, 0, 0, 0, 0, 0, 0, 0, 0, 0, 0, 0, 0, 0, 0, 0, 0, 0, 0, 0, 0, 0, 0, 0, 0, 0, 0, 0, 0, 0, 0, 0]) = (x == zero32) := by rw [S_toList]; rfl
      have Htk := hid htk
      have Hacc := hid hacc
      have Hz := hid hz
      generalize hc : (x == zero32) = c at *
      have Hc := hid hc
      clear htk hl1 hacc hz hc
      have Hend : Hid (∀ u : Bool, (z && c) = u → Value.bool u = Value.bool ((ps.take (q + 1)).all fun x => x == zero32)) := hid (fun u hu => by
        rw [Htk.out, List.all_append, Hz.out]; simp [Hc.out]; exact hu.symm)
      have Hend2 : Hid (Value.string (S (78 :: b :: (acc ++ x))) = Value.string (S (78 :: b :: (ps.take (q + 1)).flatten))) := hid (by
        rw [Htk.out, List.flatten_append, Hacc.out]; simp)
      cases z
      · go_wp2
        exact ⟨⟨q + 1, by omega, by go_num, Hend2.out, Hend.out _ rfl, trivial⟩, by simp [intOf]; omega⟩
      · go_wp2
        exact ⟨⟨q + 1, by omega, by go_num, Hend2.out, Hend.out _ rfl, trivial⟩, by simp [intOf]; omega⟩
    · obtain rfl : q = ps.length := by omega
      have hlt : ¬ (ps.length : Int) < (ps.length : Int) := by omega
      rw [List.take_length]
      have hlen2 : (78 :: b :: ps.flatten).length ≤ 100000000 := by rw [List.length_cons, List.length_cons]; omega
      generalize hM : 78 :: b :: ps.flatten = M at *
      have HM := hid hM
      clear hM
      cases hz : ps.all fun x => x == zero32
      · have Hz := hid hz
        clear hz
        go_wp2_with (refine (refof_any M hlen2 _).mono ?_; rintro e w4 ⟨rfl, hB4⟩; have HB4 := hid (hB.out.trans (hB4.mono hB.out.size)); clear hB4)
        go_ret
        refine ⟨?_, HB4.out⟩
        rw [← HY.out, if_neg (by rw [Hz.out]; decide)]
        rfl
      · have Hz := hid hz
        clear hz
        go_wp2
        go_ret
        refine ⟨?_, hB.out⟩
        rw [← HY.out, if_pos Hz.out]
        rfl
end Go.Proofs.YtmdcalkfapcafaaDoor
