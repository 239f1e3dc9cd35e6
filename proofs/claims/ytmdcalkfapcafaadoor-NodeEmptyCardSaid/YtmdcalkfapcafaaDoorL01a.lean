/-
  Law 01: sums' texts, digits; what is awake.
-/
import Derived.Test.YtmdcalkfapcafaaDoorShaE
import Derived.Stop.BytesEq
namespace Go.Proofs.YtmdcalkfapcafaaDoor
open Go.RowKit

theorem sumCells_get (l : List UInt8) (i : Nat) (h : i < l.length) : (sumCells l)[i]? = some (.int .u8 ((l.getD i 0).toNat : Int)) := by
  simp [sumCells, byteCells, h, List.getD]
theorem sumCells_size (l : List UInt8) : (sumCells l).size = l.length := by simp [sumCells, byteCells_length]
theorem index_sum (l : List UInt8) (hl : l.length = 32) (n : Nat) (hn : n < 32) (w : World) :
    (Instr.index 25 (.agg (sumCells l)) (.int .i64 n)).run Tryd.prog w = .ok (.int .u8 ((l.getD n 0).toNat : Int)) w := by
  have h := sumCells_get l n (by omega)
  unfold Instr.index
  simp [asIntOf, Sem.run_bind, run_underlying Tryd.underlying25, hn, part, isAgg, run_underlying Tryd.underlying5, sizeOf, typeInfo]
  have hi : (Tryd.prog.info? 5).map (·.size) = some 1 := by kernel_rfl
  cases hq : Tryd.prog.info? 5 with
  | none => rw [hq] at hi; cases hi
  | some i =>
    have hs1 : i.size = 1 := by rw [hq] at hi; simpa using hi
    simp [hs1, h]

theorem text_any (l : List UInt8) (hl : l.length = 32) (w : World) :
    Calls Tryd.prog 14 #[.agg (sumCells l)] w fun e w' => e = .returned (.string (S l)) ∧ Below w.heap.size w w' := by
  have hcv : (convert 28 9 (.slice (some ⟨w.heap.size, 0, none⟩) 32 32)).run Tryd.prog (w.alloc (.cells (sumCells l) 25)) = .ok (.string (S l)) (w.alloc (.cells (sumCells l) 25)) := by
    have h := run_convert_bytes_back (P := Tryd.prog) (w.alloc (.cells (sumCells l) 25)) 28 9 5 ⟨w.heap.size, 0, none⟩ 32 l Tryd.underlying28 Tryd.underlying5 Tryd.underlying9 (by
      intro j hj
      rw [Addr.add_mid, Nat.zero_add, cell_of_block (heap_new _ _), sumCells_get l j hj]
      simp [List.getD, hj])
    rwa [hl] at h
  have hs := sumCells_size l
  rw [hl] at hs
  generalize sumCells l = C at *
  go_enter Tryd.func14, Tryd.ntmps14
  go_wp2
  go_ret
  exact ⟨rfl, (Below.refl _ _).alloc (Nat.le_refl _) _⟩

/-- A digit. -/
def dig (n : Nat) : UInt8 := [48, 49, 50, 51, 52, 53, 54, 55, 56, 57, 97, 98, 99, 100, 101, 102].getD n 0
def hexOf (l : List UInt8) : List UInt8 := l.flatMap fun c => [dig (c.toNat / 16), dig (c.toNat % 16)]
theorem hexOf_length (l : List UInt8) : (hexOf l).length = 2 * l.length := by
  induction l with
  | nil => rfl
  | cons c r ih => simp only [hexOf, List.flatMap_cons, List.length_append, List.length_cons, List.length_nil] at *; omega
theorem index_digit (n : Nat) (hn : n < 16) (w : World) :
    (Instr.index 9 (.string ⟨#[48, 49, 50, 51, 52, 53, 54, 55, 56, 57, 97, 98, 99, 100, 101, 102]⟩) (.int .u8 (n : Int))).run Tryd.prog w = .ok (.int .u8 ((dig n).toNat : Int)) w := by
  have h : ∀ k : Fin 16, (Instr.index 9 (.string ⟨#[48, 49, 50, 51, 52, 53, 54, 55, 56, 57, 97, 98, 99, 100, 101, 102]⟩) (.int .u8 (k.val : Int))).run Tryd.prog w = .ok (.int .u8 ((dig k.val).toNat : Int)) w := by
    intro k
    unfold Instr.index
    simp [asIntOf, Sem.run_bind, run_underlying Tryd.underlying9]
    obtain ⟨k, hk⟩ := k
    match k, hk with
    | 0, _ | 1, _ | 2, _ | 3, _ | 4, _ | 5, _ | 6, _ | 7, _ | 8, _ | 9, _ | 10, _ | 11, _ | 12, _ | 13, _ | 14, _ | 15, _ => rfl
    | k + 16, h => omega
  exact h ⟨n, hn⟩
theorem u8_shr4 (c : UInt8) : (c.toNat : Int) / 16 = ((c.toNat / 16 : Nat) : Int) := by omega
theorem u8_and15 (c : UInt8) : bits .and .u8 (c.toNat : Int) 15 = ((c.toNat % 16 : Nat) : Int) := by
  have h : ∀ k : Fin 256, bits .and .u8 (k.val : Int) 15 = ((k.val % 16 : Nat) : Int) := by decide +kernel
  exact h ⟨c.toNat, c.toNat_lt⟩

set_option maxHeartbeats 1000000 in
theorem hex_any (l : List UInt8) (hl : l.length = 32) (w : World) :
    Calls Tryd.prog 15 #[.agg (sumCells l)] w fun e w' => e = .returned (.string (S (hexOf l))) ∧ Below w.heap.size w w' := by
  obtain ⟨i0, hi, hz0, hz1, hz2⟩ := info_parts Tryd.infoByte
  go_enter Tryd.func15, Tryd.ntmps15
  go_wp2_with (refine wpList_load_row rfl 25 (.tmp 1) rfl w.heap.size rfl _ _ _ _ (heap_new _ _) Tryd.underlying25 rfl (by rw [sumCells_size, hl]; kernel_rfl) ?_)
  have hB0 : Below w.heap.size w (w.alloc (.cells (sumCells l) 25)) := (Below.refl _ _).alloc (Nat.le_refl _) _
  generalize w.alloc (.cells (sumCells l) 25) = w1 at *
  go_loopw [3, 7] (fun v i w' => ∃ q : Nat, q ≤ 32 ∧ i = .int .i64 q ∧ w'.ownsRow w.heap.size 5 1 v (2 * q) (byteCells (hexOf (l.take q))) ∧ Below w.heap.size w w') (fun _ i _ => (32 - intOf i).toNat)
  case atStart => exact ⟨0, by omega, rfl, World.ownsRow_nil _ _ _ _, hB0⟩
  case round =>
    obtain ⟨q, hq, rfl, hO, hB⟩ := hrel
    by_cases hq32 : q < 32
    · have hlt : (q : Int) < 32 := by omega
      have hidx := fun w => index_sum l hl q hq32 w
      have hnx : hexOf (l.take (q + 1)) = hexOf (l.take q) ++ [dig ((l.getD q 0).toNat / 16), dig ((l.getD q 0).toNat % 16)] := by
        have e : l.take (q + 1) = l.take q ++ [l.getD q 0] := by
          rw [List.take_succ_eq_append_getElem (by omega)]; congr 2; rw [List.getD_eq_getElem?_getD, List.getElem?_eq_getElem (by omega)]; rfl
        rw [e]
        unfold hexOf
        rw [List.flatMap_append]
        rfl
      generalize l.getD q 0 = c at *
      have h1 := fun w => index_digit (c.toNat / 16) (by have := c.toNat_lt; omega) w
      have h2 := fun w => index_digit (c.toNat % 16) (by omega) w
      rw [← u8_shr4] at h1
      rw [← u8_and15] at h2
      generalize dig (c.toNat / 16) = x at *
      generalize dig (c.toNat % 16) = y at *
      have hbs : w.heap.size ≤ (wr.alloc (.cells #[.int .u8 (x.toNat : Int), .int .u8 (y.toNat : Int)] 5)).drew.heap.size := by have := hB.size; simp; omega
      have hlen : 2 * q + 2 ≤ maxLen := by unfold maxLen; omega
      have HO := hid hO
      have HB := hid hB
      have Hnx := hid hnx
      clear hO hB hnx
      go_upto_region 5 with fail
      go_region_law (refine step_append_lies _ rfl (.tmp 10) (.tmp 17) 28 rfl w.heap.size 5 i0 (.int .u8 0) 1 1 Tryd.underlying28 hi hz0 hz1 hz2 rfl (by decide) u3 _ _ (by simp [Act.eval]) (HO.out.alloc _) ⟨wr.heap.size, 0, none⟩ 2 2 [.int .u8 (x.toNat : Int), .int .u8 (y.toNat : Int)] (by simp [Act.eval]) rfl (World.news_of_block (heap_new _ _)) (by simp [Value.oneCell']) (by decide) hlen (by omega) hbs (wr.heap.size + 1) (by simp) ?_; intro g cap w2 hown2 hgrow hg hlt2; have Hown2 := hid hown2; have Hgrow := hid hgrow; have Hg := hid hg; clear hown2 hgrow hg)
      all_goals
        go_wp2
        go_roundw
        case rel =>
          refine ⟨q + 1, by omega, by go_num, ?_, HB.out.trans (((((Below.refl _ wr).alloc HB.out.size _).drew).grown Hgrow.out hbs (fun k hk => (HO.out.lt k hk).1)))⟩
          have h := Hown2.out
          rw [show 2 * (q + 1) = 2 * q + 2 from by omega, Hnx.out, byteCells_append]
          exact h
        case measure => simp [intOf]; omega
    · have hlt : ¬ (q : Int) < 32 := by omega
      obtain rfl : q = 32 := by omega
      rw [List.take_of_length_le (by omega)] at hO
      have hr := run_bytes_string (P := Tryd.prog) 28 9 5 wr w.heap.size _ u3 _ hO Tryd.underlying28 Tryd.underlying9 Tryd.underlying5
      have HB := hid hB
      clear hO hB
      go_wp2
      go_ret
      exact ⟨rfl, HB.out⟩

theorem hex_abc : hexOf (shaOf [97, 98, 99]) = [98, 97, 55, 56, 49, 54, 98, 102, 56, 102, 48, 49, 99, 102, 101, 97, 52, 49, 52, 49, 52, 48, 100, 101, 53, 100, 97, 101, 50, 50, 50, 51, 98, 48, 48, 51, 54, 49, 97, 51, 57, 54, 49, 55, 55, 97, 57, 99, 98, 52, 49, 48, 102, 102, 54, 49, 102, 50, 48, 48, 49, 53, 97, 100] := by
  rw [sha_abc]; decide

/-- A row of one text, of two, of three. -/
theorem PartsAt.lit {w : World} {b : Nat} {T : TypeId} {fr : Nat × Nat} {parts : List (List UInt8)} (h : w.heap[b]? = some (.cells (parts.map fun l => Value.string (S l)).toArray T fr)) : PartsAt w b parts := by
  refine ⟨lt_of_block h, fun i hi => ?_⟩
  rw [cell_of_block h]
  simp [hi]

theorem of_row (w : World) (parts : List (List UInt8)) (hL : Laid w) (hn : parts.flatten.length ≤ 100000000) (hp : parts.length ≤ 1000000) :
    Calls Tryd.prog 12 #[.slice (some ⟨w.heap.size, 0, none⟩) parts.length parts.length] (w.alloc (.cells (parts.map fun l => Value.string (S l)).toArray 9)) fun e w' =>
      e = .returned (.agg (sumCells (shaOf parts.flatten))) ∧ Below w.heap.size w w' := by
  have hB : Below w.heap.size w (w.alloc (.cells (parts.map fun l => Value.string (S l)).toArray 9)) := (Below.refl _ _).alloc (Nat.le_refl _) _
  refine (of_any _ w.heap.size parts.length parts (PartsAt.lit (heap_new _ _)) (hL.below hB hL.lt) hn hp).mono ?_
  rintro e w' ⟨rfl, hB2⟩
  exact ⟨rfl, hB.trans (hB2.mono (by simp))⟩
theorem sizeByte (w : World) : (sizeOf 5).run Tryd.prog w = .ok 1 w := by
  have hi : (Tryd.prog.info? 5).map (·.size) = some 1 := by kernel_rfl
  cases hq : Tryd.prog.info? 5 with
  | none => rw [hq] at hi; cases hi
  | some i =>
    have hs1 : i.size = 1 := by rw [hq] at hi; simpa using hi
    simp [sizeOf, typeInfo, hq, hs1]
/-- Two sums are the same, or not. -/
theorem sum_eql (l m : List UInt8) (hl : l.length = 32) (hm : m.length = 32) (w : World) :
    (Op.equalIn 10000 25 (.agg (sumCells l)) (.agg (sumCells m))).run Tryd.prog w = .ok (l == m) w :=
  run_equalIn_bytes (P := Tryd.prog) w 9998 25 5 32 Tryd.underlying25 Tryd.underlying5 (fun w => sizeByte w) l m hl hm

set_option maxHeartbeats 1000000 in
theorem awake01 (w : World) (hL : Laid w) : Calls Tryd.prog 11 #[] w fun e w' => e = .returned (.bool true) ∧ Below w.heap.size w w' := by
  have HL := hid hL
  clear hL
  go_enter Tryd.func11, Tryd.ntmps11
  have hh : S (hexOf (shaOf [97, 98, 99])) = ⟨#[98, 97, 55, 56, 49, 54, 98, 102, 56, 102, 48, 49, 99, 102, 101, 97, 52, 49, 52, 49, 52, 48, 100, 101, 53, 100, 97, 101, 50, 50, 50, 51, 98, 48, 48, 51, 54, 49, 97, 51, 57, 54, 49, 55, 55, 97, 57, 99, 98, 52, 49, 48, 102, 102, 54, 49, 102, 50, 48, 48, 49, 53, 97, 100]⟩ := by rw [hex_abc]; rfl
  have Hh := hid hh
  clear hh
  have hx := shaOf_length [97, 98, 99]
  have heq := sum_eql (shaOf [97, 98, 99]) (shaOf [97, 98, 99]) hx hx
  generalize hX : shaOf [97, 98, 99] = X at *
  rw [beq_self_eq_true] at heq
  have HX := hid hX
  clear hX
  go_wp2_with fail
  refine (of_row w [[97, 98, 99]] HL.out (by decide) (by decide)).mono ?_
  rintro e w1 ⟨rfl, hB2⟩
  rw [show shaOf [[97, 98, 99]].flatten = X from HX.out]
  have HB2 := hid hB2
  clear hB2
  go_wp2_with fail
  refine (hex_any X hx w1).mono ?_
  rintro e w2 ⟨rfl, hB3⟩
  rw [Hh.out]
  have HB3 := hid (HB2.out.trans (hB3.mono HB2.out.size))
  clear hB3
  go_wp2_with fail
  refine (of_row w2 [[97], [98, 99]] (HL.out.below HB3.out HL.out.lt) (by decide) (by decide)).mono ?_
  rintro e w3 ⟨rfl, hB4⟩
  rw [show shaOf [[97], [98, 99]].flatten = X from HX.out]
  have HB4 := hid (HB3.out.trans (hB4.mono HB3.out.size))
  clear hB4
  go_wp2_with fail
  refine (of_row w3 [[97, 98, 99]] (HL.out.below HB4.out HL.out.lt) (by decide) (by decide)).mono ?_
  rintro e w4 ⟨rfl, hB5⟩
  rw [show shaOf [[97, 98, 99]].flatten = X from HX.out]
  have HB5 := hid (HB4.out.trans (hB5.mono HB4.out.size))
  clear hB5
  go_wp2_with fail
  go_ret
  exact ⟨rfl, HB5.out⟩

theorem cut_any (l : List UInt8) (n : Nat) (w : World) : Calls Tryd.prog 10 #[.string (S l), .int .i64 (n : Int)] w fun e w' => e = .returned (.string (S (l.take n))) ∧ w' = w := by
  have hs := S_size l
  by_cases h : n < l.length
  · have h1 : (n : Int) < (l.length : Int) := by omega
    have h2 : (n : Int) ≤ (l.length : Int) := by omega
    have h3 : (0 : Int) ≤ (n : Int) := by omega
    have e1 : (S l).extract 0 n = S (l.take n) := by rw [S_extract]; simp
    go_enter Tryd.func10, Tryd.ntmps10
    go_wp2
    go_ret
    exact ⟨rfl, rfl⟩
  · have h1 : ¬ (n : Int) < (l.length : Int) := by omega
    rw [List.take_of_length_le (by omega)]
    go_enter Tryd.func10, Tryd.ntmps10
    go_wp2
    go_ret
    exact ⟨rfl, rfl⟩
end Go.Proofs.YtmdcalkfapcafaaDoor
