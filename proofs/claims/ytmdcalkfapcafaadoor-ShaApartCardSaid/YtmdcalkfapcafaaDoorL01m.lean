/-
  Law 01: the document's digits.
-/
import Derived.Test.YtmdcalkfapcafaaDoorL01j
namespace Go.Proofs.YtmdcalkfapcafaaDoor
open Go.RowKit

theorem dig_extract (d : Nat) (hd : d < 16) : (⟨#[48, 49, 50, 51, 52, 53, 54, 55, 56, 57, 97, 98, 99, 100, 101, 102]⟩ : ByteArray).extract d (d + 1) = S [dig d] := by
  have h : ∀ k : Fin 16, (⟨#[48, 49, 50, 51, 52, 53, 54, 55, 56, 57, 97, 98, 99, 100, 101, 102]⟩ : ByteArray).extract k.val (k.val + 1) = S [dig k.val] := by decide +kernel
  exact h ⟨d, hd⟩
/-- A byte's two digits' numbers. -/
def two (c : UInt8) : List Nat := [c.toNat / 16, c.toNat % 16]
theorem two_lt (c : UInt8) (k : Nat) : (two c).getD k 0 < 16 := by
  have := c.toNat_lt
  rcases k with _ | _ | k
  · simp [two]; omega
  · simp [two]; omega
  · simp [two]
theorem hexOf_take (l : List UInt8) (q : Nat) (h : q < l.length) : hexOf (l.take (q + 1)) = hexOf (l.take q) ++ (two (l.getD q 0)).map dig := by
  have e : l.take (q + 1) = l.take q ++ [l.getD q 0] := by
    rw [List.take_succ_eq_append_getElem h]; congr 2; rw [List.getD_eq_getElem?_getD, List.getElem?_eq_getElem h]; rfl
  rw [e]
  unfold hexOf
  rw [List.flatMap_append]
  rfl

set_option maxHeartbeats 2000000 in
theorem refhex_any (l : List UInt8) (hl : l.length = 32) (w : World) :
    Calls Tryd.prog 16 #[.string (S l)] w fun e w' => e = .returned (.string (S (hexOf l))) ∧ Below w.heap.size w w' := by
  have hsl := S_size l
  rw [hl] at hsl
  go_enter Tryd.func16, Tryd.ntmps16
  go_wp2_with fail
  go_loopw [3, 4] (fun t i w' => ∃ q : Nat, q ≤ 32 ∧ i = .int .i64 q ∧ t = .string (S (hexOf (l.take q))) ∧ Below w.heap.size w w') (fun _ i _ => (32 - intOf i).toNat)
  case atStart => exact ⟨0, by omega, rfl, rfl, Below.refl _ _⟩
  case round =>
    obtain ⟨q, hq, rfl, rfl, hB⟩ := hrel
    have HB := hid hB
    clear hB
    by_cases hq32 : q < 32
    · have hlt : (q : Int) < 32 := by omega
      have hidx := fun w => index_text l q (by omega) w
      have hnx := hexOf_take l q (by omega)
      have hol : (hexOf (l.take q)).length ≤ 64 := by rw [hexOf_length, List.length_take]; omega
      generalize l.getD q 0 = c at *
      have hc := c.toNat_lt
      have m0 : IntKind.i64.wrap (c.toNat : Int) = (c.toNat : Int) := IntWalk.i64_in _ (by omega)
      have m1 : (c.toNat : Int).tdiv 16 = ((c.toNat / 16 : Nat) : Int) := by rw [Int.tdiv_eq_ediv_of_nonneg (Int.natCast_nonneg _)]; exact (Int.natCast_ediv _ 16).symm
      have m2 : (c.toNat : Int).tmod 16 = ((c.toNat % 16 : Nat) : Int) := by rw [Int.tmod_eq_emod_of_nonneg (Int.natCast_nonneg _)]; exact (Int.natCast_emod _ 16).symm
      have m3 : IntKind.i64.wrap ((c.toNat / 16 : Nat) : Int) = ((c.toNat / 16 : Nat) : Int) := IntWalk.i64_in _ (by omega)
      have t0 : (two c).getD 0 0 = c.toNat / 16 := rfl
      have t1 : (two c).getD 1 0 = c.toNat % 16 := rfl
      have tl := two_lt c
      have tlen : (two c).length = 2 := rfl
      generalize c.toNat / 16 = x at *
      generalize c.toNat % 16 = y at *
      generalize two c = tw at *
      have Hnx := hid hnx
      have Htl := hid tl
      have T0 := hid t0
      have T1 := hid t1
      have Tlen := hid tlen
      clear hnx tl t0 t1 tlen hc
      go_upto_region 5 with fail
      go_region_with (fail)
      all_goals
        simp only [Act.put, List.getElem_toArray, List.getElem_cons_succ, List.getElem_cons_zero, List.setIfInBounds_toArray, List.set_cons_zero, List.set_cons_succ]
        go_wp2_with fail
        have h1 := heap_new wr.drew (Obj.cells #[Value.int .i64 (x : Int), Value.int .i64 (y : Int)] 3)
        have h2 := HB.out.drew.alloc HB.out.size (Obj.cells #[Value.int .i64 (x : Int), Value.int .i64 (y : Int)] 3)
        change Code.wp _ _ _ _ (wr.drew.alloc (Obj.cells #[Value.int .i64 (x : Int), Value.int .i64 (y : Int)] 3))
        generalize wr.drew.alloc (Obj.cells #[Value.int .i64 (x : Int), Value.int .i64 (y : Int)] 3) = wa at *
        have h1 : wa.heap[wr.heap.size]? = _ := h1
        generalize wr.heap.size = g at *
        have H1 := hid h1
        have H2 := hid h2
        clear h1 h2
        go_loopw [3, 25] (fun t i w' => ∃ k : Nat, k ≤ 2 ∧ i = .int .i64 k ∧ t = .string (S (hexOf (l.take q) ++ (tw.take k).map dig)) ∧ w' = wa) (fun _ i _ => (2 - intOf i).toNat)
        case atStart => exact ⟨0, by omega, rfl, by simp, rfl⟩
        case round =>
          obtain ⟨k, hk, rfl, rfl, rfl⟩ := hrel
          by_cases hk2 : k < 2
          · have hltk : (k : Int) < 2 := by omega
            have hd := Htl.out k
            have c1 : wr.cell? ⟨g, k, none⟩ = some (.int .i64 ((tw.getD k 0 : Nat) : Int)) := by
              rw [cell_of_block H1.out]
              rcases (by omega : k = 0 ∨ k = 1) with rfl | rfl
              · rw [T0.out]; rfl
              · rw [T1.out]; rfl
            have e1 := dig_extract (tw.getD k 0) hd
            have hcat : S (hexOf (l.take q) ++ (tw.take k).map dig) ++ S [dig (tw.getD k 0)] = S (hexOf (l.take q) ++ (tw.take (k + 1)).map dig) := by
              rw [S_append, List.append_assoc, ← List.map_singleton, ← List.map_append]
              congr 3
              rw [List.take_succ_eq_append_getElem (by rw [Tlen.out]; exact hk2)]
              congr 2
              rw [List.getD_eq_getElem?_getD, List.getElem?_eq_getElem (by rw [Tlen.out]; exact hk2)]; rfl
            have hsz := S_size (hexOf (l.take q) ++ (tw.take k).map dig)
            have hsl1 : (hexOf (l.take q) ++ (tw.take k).map dig).length ≤ 70 := by rw [List.length_append, List.length_map, List.length_take]; omega
            generalize dig (tw.getD k 0) = xd at *
            generalize tw.getD k 0 = d at *
            have hs1 : (S [xd]).size = 1 := S_size [xd]
            have n1 : IntKind.i64.wrap ((d : Int) + 1) = ((d + 1 : Nat) : Int) := by rw [IntWalk.i64_in _ (by omega)]; omega
            have n2 : ((d + 1 : Nat) : Int) ≤ 16 := by omega
            have n3 : (d : Int) ≤ ((d + 1 : Nat) : Int) := by omega
            generalize ho2 : hexOf (l.take q) ++ (tw.take (k + 1)).map dig = o2 at *
            generalize hexOf (l.take q) ++ (tw.take k).map dig = o1 at *
            generalize o1.length = l1 at *
            have hlim : ¬ 9223372036854775807 < l1 + 1 := by omega
            have Ho2 := hid ho2
            clear hd ho2 hsl1
            generalize d + 1 = d1 at *
            go_wp2_with fail
            refine ⟨⟨k + 1, by omega, by go_num, by rw [Ho2.out], trivial⟩, ?_⟩
            simp [intOf]; omega
          · have hltk : ¬ (k : Int) < 2 := by omega
            have hk22 : k = 2 := by omega
            have ho : hexOf (l.take q) ++ (tw.take k).map dig = hexOf (l.take (q + 1)) := by rw [Hnx.out, show tw.take k = tw from List.take_of_length_le (by rw [Tlen.out]; omega)]
            rw [ho]
            clear ho hk22
            go_wp2_with fail
            refine ⟨⟨q + 1, by omega, by go_num, rfl, H2.out⟩, ?_⟩
            simp [intOf]; omega
    · have hlt : ¬ (q : Int) < 32 := by omega
      obtain rfl : q = 32 := by omega
      rw [List.take_of_length_le (by omega)]
      go_wp2
      go_ret
      exact ⟨rfl, HB.out⟩
end Go.Proofs.YtmdcalkfapcafaaDoor
