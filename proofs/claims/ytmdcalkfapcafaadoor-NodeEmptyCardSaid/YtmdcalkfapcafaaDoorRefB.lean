/-
  The document's sums: a number's bytes; the rounds' numbers.
-/
import Derived.Test.YtmdcalkfapcafaaDoorRefA
import Derived.Test.YtmdcalkfapcafaaDoorL01a
namespace Go.Proofs.YtmdcalkfapcafaaDoor
open Go.RowKit

/-- A number's bytes, c of them, the highest first. -/
def beB (n c : Nat) : List UInt8 := (List.range c).map fun j => UInt8.ofNat (n / 256 ^ (c - 1 - j))
theorem beB_length (n c : Nat) : (beB n c).length = c := by simp [beB]
theorem beB_get (n c j : Nat) (h : j < c) : (beB n c).take (j + 1) = (beB n c).take j ++ [UInt8.ofNat (n / 256 ^ (c - 1 - j))] := by
  rw [List.take_succ_eq_append_getElem (by rw [beB_length]; exact h)]
  congr 2
  simp [beB]

set_option maxHeartbeats 1000000 in
theorem refbytes_any (n c : Nat) (hc : c ≤ 8) (w : World) :
    Calls Tryd.prog 27 #[.int .i64 (n : Int), .int .i64 (c : Int)] w fun e w' => e = .returned (.string (S (beB n c))) ∧ Below w.heap.size w w' := by
  obtain ⟨i0, hi, hz0, hz1, hz2⟩ := info_parts Tryd.infoByte
  have m1 : IntKind.i64.wrap ((c : Int) - 1) = (c : Int) - 1 := IntWalk.i64_in _ (by omega)
  go_enter Tryd.func27, Tryd.ntmps27
  go_wp2_with fail
  have hown : (w.alloc (Obj.cells #[] 5)).ownsRow w.heap.size 5 1 (.slice (some ⟨w.heap.size, 0, none⟩) 0 0) 0 (byteCells ((beB n c).take 0)) :=
    ⟨by simp [byteCells], .inr ⟨w.heap.size, 0, #[], rfl, Nat.le_refl _, heap_new w _, Nat.le_refl _, by simp, rfl, by simp [byteCells]⟩⟩
  have hB0 : Below w.heap.size w (w.alloc (Obj.cells #[] 5)) := (Below.refl _ _).alloc (Nat.le_refl _) _
  generalize w.alloc (Obj.cells #[] 5) = w1 at *
  have Hown := hid hown
  have HB0 := hid hB0
  clear hown hB0
  go_loopw [5, 6] (fun v i w' => ∃ r : Nat, r ≤ c ∧ i = .int .i64 ((r : Int) - 1) ∧ w'.ownsRow w.heap.size 5 1 v (c - r) (byteCells ((beB n c).take (c - r))) ∧ Below w.heap.size w w') (fun _ i _ => (intOf i + 1).toNat)
  case atStart => exact ⟨c, Nat.le_refl _, rfl, by rw [Nat.sub_self]; exact Hown.out, HB0.out⟩
  case round =>
    obtain ⟨r, hr, rfl, hO, hB⟩ := hrel
    cases r with
    | succ q =>
      rw [show ((q + 1 : Nat) : Int) - 1 = (q : Int) from by omega]
      have e8 : IntKind.i64.wrap (8 * (q : Int)) = ((8 * q : Nat) : Int) := by rw [IntWalk.i64_in _ (by omega)]; omega
      have e9 : ((8 * q : Nat) : Int) ≤ 64 := by omega
      have e0 : (0 : Int) ≤ (q : Int) := by omega
      have hnx := beB_get n c (c - (q + 1)) (by omega)
      rw [show c - 1 - (c - (q + 1)) = q from by omega] at hnx
      have hbv := byte_shr n q
      have hn1 : (n : Int) / 2 ^ (8 * q) = ((n / 2 ^ (8 * q) : Nat) : Int) := by simp
      have hbv2 : IntKind.u8.wrap (((n : Int) / 2 ^ (8 * q)).tmod 256) = ((UInt8.ofNat (n / 256 ^ q)).toNat : Int) := by
        rw [← hbv, hn1, Int.tmod_eq_emod_of_nonneg (Int.natCast_nonneg _), IntKind.wrap_u8, IntKind.wrap_u8, Int.emod_emod_of_dvd _ (by decide)]
      generalize UInt8.ofNat (n / 256 ^ q) = x at *
      obtain ⟨k, hk⟩ : ∃ k : Nat, 8 * q = k := ⟨_, rfl⟩
      rw [hk] at e8 e9 hbv2
      have hq : c - (q + 1) + 1 = c - q := by omega
      rw [hq] at hnx
      have hlen1 : c - (q + 1) + 1 ≤ maxLen := by unfold maxLen; omega
      have hbs : w.heap.size ≤ (wr.alloc (.cells #[.int .u8 (x.toNat : Int)] 5)).heap.size := by have := hB.size; simp; omega
      have HO := hid hO
      have HB := hid hB
      have Hnx := hid hnx
      have Hq := hid hq
      clear hO hB hnx hbv hn1 hk hq
      go_wp2_with (refine wpList_append_lies _ rfl (.tmp 14) (.tmp 21) 28 rfl w.heap.size 5 i0 (.int .u8 0) 1 1 Tryd.underlying28 hi hz0 hz1 hz2 rfl (by decide) u5 _ _ (by simp [Act.eval]) (HO.out.alloc _) ⟨wr.heap.size, 0, none⟩ 1 1 [.int .u8 (x.toNat : Int)] (by simp [Act.eval]) rfl (news_one (by simp)) (one_one rfl) (by decide) hlen1 (by omega) hbs (wr.heap.size + 1) (by simp) ?_; intro g cap w2 hown2 hgrow hg hlt2; have Hown2 := hid hown2; have Hgrow := hid hgrow; have Hg := hid hg; clear hown2 hgrow hg)
      refine ⟨⟨q, by omega, by go_num, ?_, HB.out.trans (((Below.refl _ wr).alloc HB.out.size _).grown Hgrow.out hbs (fun k hk => (HO.out.lt k hk).1))⟩, ?_⟩
      · have h := Hown2.out
        rw [Hq.out] at h
        rw [Hnx.out, byteCells_append]
        rw [Hq.out]
        exact h
      · simp [intOf]
    | zero =>
      rw [Nat.sub_zero, List.take_of_length_le (by rw [beB_length]; omega)] at hO
      have hr := run_bytes_string (P := Tryd.prog) 28 9 5 wr w.heap.size _ u5 _ hO Tryd.underlying28 Tryd.underlying9 Tryd.underlying5
      have HB := hid hB
      clear hO hB
      go_wp2
      go_ret
      exact ⟨rfl, HB.out⟩

/-- The rounds' numbers, as the document's program lays them. -/
def numCells : Array Value := ((List.range 64).map fun i => WI (Kr i)).toArray
set_option maxRecDepth 100000 in
theorem numbers_any (w : World) : Calls Tryd.prog 28 #[] w fun e w' => e = .returned (.slice (some ⟨w.heap.size, 0, none⟩) 64 64) ∧ w' = w.alloc (.cells numCells 3) := by
  go_enter Tryd.func28, Tryd.ntmps28
  go_wp2
  go_ret
  exact ⟨rfl, rfl⟩
end Go.Proofs.YtmdcalkfapcafaaDoor
