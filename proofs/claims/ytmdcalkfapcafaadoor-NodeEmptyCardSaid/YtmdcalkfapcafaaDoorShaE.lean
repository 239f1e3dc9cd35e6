/-
  sha: Of.
-/
import Derived.Test.YtmdcalkfapcafaaDoorShaD
namespace Go.Proofs.YtmdcalkfapcafaaDoor
open Go.RowKit

/-- How many bytes came. -/
def totLen (sb : Nat) (w : World) : Nat :=
  match w.cell? ⟨sb, 9, none⟩ with
  | some (.int _ n) => n.toNat
  | _ => 0
theorem totLen_of {B : Nat} {w : World} {sb : Nat} {v : Value} {s : S8} {l : List UInt8} {n : Nat} (h : StAt B w sb v s l n) : totLen sb w = n := by
  unfold totLen
  rw [h.cells.2.1]
  simp
/-- The state after the bytes m. -/
def FedAt (B : Nat) (w : World) (sb : Nat) (m : List UInt8) : Prop := ∃ v, StAt B w sb v (feed .start m).1 (feed .start m).2 m.length
theorem FedAt.new (w : World) (B : Nat) (hB : B ≤ w.heap.size) : FedAt B (w.alloc (.cells (S8.start.cells ++ #[.slice none 0 0, .int .u64 0]) 56)) w.heap.size [] := by
  refine ⟨.slice none 0 0, ?_, ?_, hB⟩
  · rw [feed_short _ _ (by decide)]; exact heap_new _ _
  · rw [feed_short _ _ (by decide)]; exact .inl ⟨rfl, rfl⟩
theorem FedAt.lt {B : Nat} {w : World} {sb : Nat} {m : List UInt8} (h : FedAt B w sb m) : sb < w.heap.size := by obtain ⟨v, h⟩ := h; exact lt_of_block h.cell
theorem FedAt.ge {B : Nat} {w : World} {sb : Nat} {m : List UInt8} (h : FedAt B w sb m) : B ≤ sb := by obtain ⟨v, h⟩ := h; exact h.ge
theorem FedAt.tot {B : Nat} {w : World} {sb : Nat} {m : List UInt8} (h : FedAt B w sb m) : totLen sb w = m.length := by obtain ⟨v, h⟩ := h; exact totLen_of h
theorem FedAt.add {B : Nat} {w : World} {sb : Nat} {m t : List UInt8} (h : FedAt B w sb m) (ht : t.length ≤ 900000000) (hn : m.length ≤ 1000000000000) (hL : Laid w) (hB : 0 < B) :
    Calls Tryd.prog 26 #[.pointer (some ⟨sb, 0, none⟩), .string (S t)] w fun e w' => e = .returned (.tuple #[]) ∧ FedAt B w' sb (m ++ t) ∧ Below B w w' := by
  have hlt := h.lt
  obtain ⟨v, h⟩ := h
  refine (add_any B w sb v _ _ _ t h (feed_wait _ _) ht hn hL hB (by have := h.ge; omega)).mono ?_
  rintro e w' ⟨rfl, ⟨v', h2⟩, hB2⟩
  rw [← feed_append, ← List.length_append] at h2
  exact ⟨rfl, ⟨v', h2⟩, hB2⟩
theorem FedAt.cells {B : Nat} {w : World} {sb : Nat} {m : List UInt8} (h : FedAt B w sb m) : ∃ ao cap, w.cell? ⟨sb, 8, none⟩ = some (.slice ao (m.length % 64) cap) ∧ w.cell? ⟨sb, 9, none⟩ = some (.int .u64 (m.length : Int)) := by
  obtain ⟨v, h⟩ := h
  obtain ⟨ao, cap, rfl⟩ := h.wait.shape
  rw [feed_mod] at h
  exact ⟨ao, cap, h.cells.1, h.cells.2.1⟩

theorem FedAt.alloc {B : Nat} {w : World} {sb : Nat} {m : List UInt8} (h : FedAt B w sb m) (o : Obj) : FedAt B (w.alloc o) sb m := by
  obtain ⟨v, h⟩ := h
  exact ⟨v, ⟨heap_old h.cell o, h.wait.fr (S := fun _ => False) ((Fr.refl _ w).alloc o) (fun _ _ hf => hf), h.ge⟩⟩
/-- The first j bytes of a sum. -/
def sumTo (s : S8) (j : Nat) : Array Value := (byteCells (s.bytes.take j) ++ List.replicate (32 - j) (Value.int .u8 0)).toArray
theorem S8.bytes_length (s : S8) : s.bytes.length = 32 := by simp [S8.bytes, wordBytes]
theorem sumTo_all (s : S8) : sumTo s 32 = (byteCells s.bytes).toArray := by
  simp [sumTo, List.take_of_length_le (Nat.le_of_eq s.bytes_length)]
theorem sumTo_size (s : S8) (j : Nat) (h : j ≤ 32) : (sumTo s j).size = 32 := by
  simp [sumTo, byteCells_length, S8.bytes_length]; omega
theorem sumTo_set (s : S8) (j : Nat) (h : j < 32) : (sumTo s j).setIfInBounds j (.int .u8 ((s.bytes.getD j 0).toNat : Int)) = sumTo s (j + 1) := by
  have hl : (byteCells (s.bytes.take j)).length = j := by rw [byteCells_length, List.length_take, S8.bytes_length]; omega
  have hj : j < s.bytes.length := by rw [S8.bytes_length]; exact h
  apply Array.ext'
  simp only [sumTo, Array.toList_setIfInBounds]
  rw [List.set_append_right _ _ (by omega), hl, Nat.sub_self, show 32 - j = (32 - (j + 1)) + 1 from by omega, List.replicate_succ, List.set_cons_zero, List.take_succ_eq_append_getElem hj, byteCells_append, List.append_assoc]
  simp [byteCells, List.getD, hj]
theorem S8.bytes_get (s : S8) (i k : Nat) (hi : i < 8) (hk : k < 4) : s.bytes.getD (4 * i + k) 0 = UInt8.ofNat ((s.get i).toNat / 256 ^ (3 - k)) := by
  rcases (by omega : i = 0 ∨ i = 1 ∨ i = 2 ∨ i = 3 ∨ i = 4 ∨ i = 5 ∨ i = 6 ∨ i = 7) with rfl | rfl | rfl | rfl | rfl | rfl | rfl | rfl <;>
  rcases (by omega : k = 0 ∨ k = 1 ∨ k = 2 ∨ k = 3) with rfl | rfl | rfl | rfl <;> rfl

theorem index_eight (cs : Array Value) (hs : cs.size = 8) (n : Nat) (v : Value) (h : cs[n]? = some v) (w : World) :
    (Instr.index 54 (.agg cs) (.int .i64 n)).run Tryd.prog w = .ok v w := by
  have hn : n < 8 := by rw [← hs]; exact (Array.getElem?_eq_some_iff.1 h).1
  unfold Instr.index
  simp [asIntOf, Sem.run_bind, run_underlying Tryd.underlying54, hn, part, isAgg, run_underlying Tryd.underlying53, sizeOf, typeInfo]
  have hi : (Tryd.prog.info? 53).map (·.size) = some 1 := by kernel_rfl
  cases hq : Tryd.prog.info? 53 with
  | none => rw [hq] at hi; cases hi
  | some i =>
    have hs1 : i.size = 1 := by rw [hq] at hi; simpa using hi
    simp [hs1, h]

/-- The parts lie in a row. -/
def PartsAt (w : World) (pb : Nat) (parts : List (List UInt8)) : Prop := pb < w.heap.size ∧ ∀ i (h : i < parts.length), w.cell? ⟨pb, i, none⟩ = some (.string (S parts[i]))
/-- A sum's cells. -/
def sumCells (l : List UInt8) : Array Value := (byteCells l).toArray

def lenTo (n k : Nat) : List UInt8 := (List.range k).map fun i => UInt8.ofNat (8 * n / 256 ^ (7 - i))
theorem lenTo_succ (n k : Nat) : lenTo n (k + 1) = lenTo n k ++ [UInt8.ofNat (8 * n / 256 ^ (7 - k))] := by simp [lenTo, List.range_succ]
theorem lenTo_length (n k : Nat) : (lenTo n k).length = k := by simp [lenTo]
theorem byte_shr (n q : Nat) : IntKind.u8.wrap ((n : Int) / 2 ^ (8 * q)) = ((UInt8.ofNat (n / 256 ^ q)).toNat : Int) := by
  have h : (2 : Nat) ^ (8 * q) = 256 ^ q := by rw [Nat.pow_mul]
  have h2 : ((2 : Int) ^ (8 * q)) = ((256 ^ q : Nat) : Int) := by rw [← h]; simp
  rw [IntKind.wrap_u8, h2, ← Int.natCast_ediv]
  simp

set_option maxRecDepth 4000 in
set_option maxHeartbeats 4000000 in
theorem of_any (w : World) (pb cap : Nat) (parts : List (List UInt8)) (hP : PartsAt w pb parts) (hL : Laid w) (hn : parts.flatten.length ≤ 100000000) (hp : parts.length ≤ 1000000) :
    Calls Tryd.prog 12 #[.slice (some ⟨pb, 0, none⟩) parts.length cap] w fun e w' => e = .returned (.agg (sumCells (shaOf parts.flatten))) ∧ Below w.heap.size w w' := by
  have HP := hid hP
  have HL := hid hL
  have hpl := hP.1
  clear hP hL
  go_enter Tryd.func12, Tryd.ntmps12
  go_wp2_with (refine (begin_any _).mono ?_; rintro e w' ⟨rfl, rfl⟩)
  have h1 := heap_new w (.cells (List.replicate 32 (.int .u8 0)).toArray 25)
  have hFd := FedAt.new (w.alloc (.cells (List.replicate 32 (.int .u8 0)).toArray 25)) (w.heap.size + 1) (by simp)
  have h2 := heap_old h1 (.cells (S8.start.cells ++ #[.slice none 0 0, .int .u64 0]) 56)
  have hB0 : Below w.heap.size w ((w.alloc (.cells (List.replicate 32 (.int .u8 0)).toArray 25)).alloc (.cells (S8.start.cells ++ #[.slice none 0 0, .int .u64 0]) 56)) := ((Below.refl _ _).alloc (Nat.le_refl _) _).alloc (by simp) _
  rw [show (w.alloc (.cells (List.replicate 32 (.int .u8 0)).toArray 25)).heap.size = w.heap.size + 1 from by simp] at hFd
  change Code.wp _ _ _ _ ((w.alloc (.cells (List.replicate 32 (.int .u8 0)).toArray 25)).alloc (.cells (S8.start.cells ++ #[.slice none 0 0, .int .u64 0]) 56))
  generalize (w.alloc (.cells (List.replicate 32 (.int .u8 0)).toArray 25)).alloc (.cells (S8.start.cells ++ #[.slice none 0 0, .int .u64 0]) 56) = w1 at *
  have hL1 : Laid w1 := HL.out.below hB0 HL.out.lt
  have hO1 : w1.heap[w.heap.size]? = some (.cells (List.replicate 32 (.int .u8 0)).toArray 25 (0, 0)) := h2
  have hP1 : PartsAt w1 pb parts := ⟨Nat.lt_of_lt_of_le hpl hB0.size, fun i hi => (World.cell?_of_block (a := ⟨pb, i, none⟩) (hB0.block pb hpl)).trans (HP.out.2 i hi)⟩
  have HL1 := hid hL1
  have HO1 := hid hO1
  have HP1 := hid hP1
  have HFd := hid hFd
  have HB0 := hid hB0
  have hNpos : 0 < w.heap.size + 1 := by omega
  clear h1 h2 hL1 hO1 hP1 hFd hB0
  generalize hN : w.heap.size = N at *
  go_loopw [15] (fun i w' => ∃ q : Nat, q ≤ parts.length ∧ i = .int .i64 q ∧ FedAt (N + 1) w' (N + 1) (parts.take q).flatten ∧ Below (N + 1) w1 w') (fun i _ => ((parts.length : Int) - intOf i).toNat)
  case atStart => exact ⟨0, by omega, rfl, HFd.out, Below.refl _ _⟩
  case round =>
    obtain ⟨q, hq, rfl, hF, hB⟩ := hrel
    have HF := hid hF
    have HB := hid hB
    clear hF hB
    by_cases hql : q < parts.length
    · have hlt : (q : Int) < (parts.length : Int) := by omega
      have c1 : wr.cell? ⟨pb, q, none⟩ = some (.string (S parts[q])) := (World.cell?_of_block (a := ⟨pb, q, none⟩) (HB.out.block pb (by omega))).trans (HP1.out.2 q hql)
      have h3 : parts.take (q + 1) = parts.take q ++ [parts[q]] := by rw [List.take_succ_eq_append_getElem hql]
      have hlen : (parts.take q).flatten.length + parts[q].length ≤ 100000000 := by
        have h4 : (parts.take (q + 1)).flatten.length ≤ parts.flatten.length := by
          conv => rhs; rw [← List.take_append_drop (q + 1) parts]
          rw [List.flatten_append, List.length_append]; omega
        rw [h3, List.flatten_append, List.length_append] at h4
        simp at h4 ⊢
        simp at hn
        omega
      have hnext : (parts.take (q + 1)).flatten = (parts.take q).flatten ++ parts[q] := by rw [h3, List.flatten_append]; simp
      clear h3
      generalize parts[q] = t at *
      have Hlen := hid hlen
      have Hnext := hid hnext
      clear hlen hnext hpl
      go_upto_region 6 with fail
      refine (FedAt.add HF.out (by have := Hlen.out; omega) (by have := Hlen.out; omega) (HL1.out.below HB.out hNpos) hNpos).mono ?_
      rintro e w2 ⟨rfl, hF2, hB2⟩
      have HF2 := hid hF2
      have HB2 := hid hB2
      clear hF2 hB2
      go_wp2_with fail
      go_roundw
      case rel => exact ⟨q + 1, by omega, by go_num, by rw [Hnext.out]; exact HF2.out, HB.out.trans HB2.out⟩
      case measure => simp [intOf]; omega
    · have hlt : ¬ (q : Int) < (parts.length : Int) := by omega
      obtain rfl : q = parts.length := by omega
      have hF := HF.out
      rw [List.take_length] at hF
      generalize hMM : parts.flatten = M at *
      have HM := hid hMM
      clear hMM
      obtain ⟨ao, cp, c8, c9⟩ := hF.cells
      have HF := hid hF
      clear hF
      go_wp2_with (refine (FedAt.add (t := [128]) HF.out (by decide) (by omega) (HL1.out.below HB.out hNpos) hNpos).mono ?_; rintro e w2 ⟨rfl, hF2, hB2⟩; have HF2 := hid hF2; have HB2 := hid (HB.out.trans hB2); clear hF2 hB2 c8 c9)
      obtain ⟨z, hz⟩ : ∃ z, (119 - M.length % 64) % 64 = z := ⟨_, rfl⟩
      go_loopw [30] (fun _ w' => ∃ j : Nat, j ≤ z ∧ FedAt (N + 1) w' (N + 1) (M ++ 128 :: List.replicate j 0) ∧ Below (N + 1) w1 w') (fun _ w' => 1000000000 - totLen (N + 1) w')
      case atStart => exact ⟨0, by omega, HF2.out, HB2.out⟩
      case round =>
        obtain ⟨j, hj, hF, hB⟩ := hrel
        have hml : (M ++ 128 :: List.replicate j 0).length = M.length + 1 + j := by simp; omega
        have htot := hF.tot
        obtain ⟨ao, cp, c8, c9⟩ := hF.cells
        rw [hml] at htot c8 c9
        have HF := hid hF
        have HB := hid hB
        have Htot := hid htot
        have Hml := hid hml
        clear hF hB htot hml
        by_cases hjz : j < z
        · have hne : ¬ ((M.length + 1 + j) % 64 = 56) := by omega
          generalize (M.length + 1 + j) % 64 = y at *
          have hne2 : ¬ (y : Int) = 56 := by omega
          go_wp2_with (refine (FedAt.add (t := [0]) HF.out (by decide) (by rw [Hml.out]; omega) (HL1.out.below HB.out hNpos) hNpos).mono ?_; rintro e w3 ⟨rfl, hF3, hB3⟩; have HF3 := hid hF3; have HB3 := hid (HB.out.trans hB3); clear hF3 hB3 c8 c9)
          refine ⟨⟨j + 1, by omega, by have h := HF3.out; rwa [List.append_assoc, List.cons_append, ← List.replicate_succ'] at h, HB3.out⟩, ?_⟩
          rw [Htot.out, HF3.out.tot, List.length_append, Hml.out]
          simp only [List.length_singleton]
          omega
        · have hzz : j = z := by omega
          have heq : (M.length + 1 + j) % 64 = 56 := by omega
          rw [heq] at c8
          go_wp2_with fail
          subst hzz
          obtain ⟨X, hX⟩ : ∃ X, M ++ 128 :: List.replicate j 0 = X := ⟨_, rfl⟩
          rw [hX] at HF Hml
          have hXl : X.length ≤ 200000000 := by have := Hml.out; omega
          have HX := hid hX
          have Hz := hid hz
          clear hX c8 c9 hjz heq hz hj hq hql hlt
          go_loopw [38] (fun i w' => ∃ k : Nat, k ≤ 8 ∧ i = .int .i64 k ∧ FedAt (N + 1) w' (N + 1) (X ++ lenTo M.length k) ∧ Below (N + 1) w1 w') (fun i _ => (8 - intOf i).toNat)
          case atStart => exact ⟨0, by omega, rfl, by simpa [lenTo] using HF.out, HB.out⟩
          case round =>
            obtain ⟨k, hk, rfl, hF, hB⟩ := hrel
            have HF := hid hF
            have HB := hid hB
            clear hF hB
            by_cases hk8 : k < 8
            · have hlt : (k : Int) < 8 := by omega
              obtain ⟨q, hq⟩ : ∃ q : Nat, 56 - 8 * k = q := ⟨_, rfl⟩
              have m8 : IntKind.i64.wrap (8 * (k : Int)) = 8 * (k : Int) := IntWalk.i64_in _ (by omega)
              have m9 : IntKind.i64.wrap (56 - 8 * (k : Int)) = (q : Int) := by rw [IntWalk.i64_in _ (by omega)]; omega
              have hq64 : (q : Int) ≤ 64 := by omega
              have hbv : (M.length : Int) * 8 / 2 ^ q % 256 = ((UInt8.ofNat (8 * M.length / 256 ^ (7 - k))).toNat : Int) := by
                rw [← byte_shr, IntKind.wrap_u8, show 8 * (7 - k) = q from by omega, show ((8 * M.length : Nat) : Int) = (M.length : Int) * 8 from by omega]
              have hnx : lenTo M.length (k + 1) = lenTo M.length k ++ [UInt8.ofNat (8 * M.length / 256 ^ (7 - k))] := lenTo_succ _ _
              generalize UInt8.ofNat (8 * M.length / 256 ^ (7 - k)) = bt at *
              have hcv : (convert 28 9 (.slice (some ⟨wr.heap.size, 0, none⟩) 1 1)).run Tryd.prog (wr.alloc (.cells #[.int .u8 (bt.toNat : Int)] 5)) = .ok (.string (S [bt])) (wr.alloc (.cells #[.int .u8 (bt.toNat : Int)] 5)) := by
                exact run_convert_bytes_back (P := Tryd.prog) _ _ _ 5 ⟨wr.heap.size, 0, none⟩ 1 [bt] Tryd.underlying28 Tryd.underlying5 Tryd.underlying9 (by
                  intro j hj
                  obtain rfl : j = 0 := by simpa using hj
                  exact cell_of_block (heap_new _ _) 0)
              have Hnx := hid hnx
              clear hnx hq
              go_upto_region 15 with fail
              refine (FedAt.add (t := [bt]) (HF.out.alloc _) (by simp) (by rw [List.length_append, lenTo_length]; omega) ((HL1.out.below HB.out hNpos).below ((Below.refl (N + 1) wr).alloc (by have := HF.out.lt; omega) _) hNpos) hNpos).mono ?_
              rintro e w4 ⟨rfl, hF4, hB4⟩
              rw [List.append_assoc, ← Hnx.out] at hF4
              have HF4 := hid hF4
              have HB4 := hid ((HB.out.alloc (by have := HF.out.lt; omega) _).trans hB4)
              clear hF4 hB4
              go_wp2_with fail
              go_roundw
              case rel => exact ⟨k + 1, by omega, by go_num, HF4.out, HB4.out⟩
              case measure => simp [intOf]; omega
            · have hlt : ¬ (k : Int) < 8 := by omega
              obtain rfl : k = 8 := by omega
              have hF := HF.out
              have hall : X ++ lenTo M.length 8 = M ++ padOf M.length := by
                rw [← HX.out, ← Hz.out]; simp [padOf, lenTo]
              rw [hall] at hF
              have hsum : shaOf M = (feed .start (M ++ padOf M.length)).1.bytes := rfl
              obtain ⟨v, hS⟩ := hF
              generalize (feed .start (M ++ padOf M.length)).1 = st at *
              have hr := S8.range hS.cell
              have hO : wr.heap[N]? = some (.cells (sumTo st 0) 25 (0, 0)) := (HB.out.block N (by omega)).trans HO1.out
              have hBN : Below N w wr := HB0.out.trans (HB.out.mono (by omega))
              have Hr := hid hr
              have HO := hid hO
              have HBN := hid hBN
              have Hsum := hid hsum
              clear hS hr hO hBN hsum hall
              have hN5 : N < wr.heap.size := lt_of_block HO.out
              have h5 := heap_new wr (.cells (sumTo st 0) 25)
              have h6 := heap_old HO.out (.cells (sumTo st 0) 25)
              have h7 := World.rangeAt_alloc Hr.out (.cells (sumTo st 0) 25)
              have h8 := HBN.out.alloc (by have := HBN.out.size; omega) (.cells (sumTo st 0) 25)
              go_upto_region 17 with fail
              change Code.wp _ _ _ _ (wr.alloc (.cells (sumTo st 0) 25))
              generalize wr.alloc (.cells (sumTo st 0) 25) = w5 at *
              generalize wr.heap.size = ob at *
              have H5 := hid h5
              have H6 := hid h6
              have H7 := hid h7
              have H8 := hid h8
              clear h5 h6 h7 h8
              go_wp2_with (refine wpList_load_mid rfl 54 (.tmp 54) rfl (N + 1) 0 rfl st.cells.toList _ H7.out Tryd.underlying54 rfl (by kernel_rfl) ?_)
              clear hn hXl hpl hlt hk hk8 hp
              go_loopw [56] (fun i w' => ∃ m : Nat, m ≤ 8 ∧ i = .int .i64 m ∧ w'.heap[ob]? = some (.cells (sumTo st (4 * m)) 25 (0, 0)) ∧ w'.heap[N]? = some (.cells (sumTo st 0) 25 (0, 0)) ∧ Below N w w') (fun i _ => (8 - intOf i).toNat)
              case atStart => exact ⟨0, by omega, rfl, H5.out, H6.out, H8.out⟩
              case round =>
                obtain ⟨m, hm, rfl, ho, hz, hB⟩ := hrel
                have Ho := hid ho
                have Hz0 := hid hz
                have HB := hid hB
                clear ho hz hB
                by_cases hm8 : m < 8
                · have hlt : (m : Int) < 8 := by omega
                  have hidx := fun w => index_eight st.cells rfl m _ (S8.cells_get st m hm8) w
                  have hby : ∀ k, k < 4 → st.bytes.getD (4 * m + k) 0 = UInt8.ofNat ((st.get m).toNat / 256 ^ (3 - k)) := fun k hk => S8.bytes_get st m k hm8 hk
                  generalize st.get m = x at *
                  have Hby := hid hby
                  clear hby
                  go_upto_region 21 with fail
                  go_loopw [60] (fun i w' => ∃ k : Nat, k ≤ 4 ∧ i = .int .i64 k ∧ w'.heap[ob]? = some (.cells (sumTo st (4 * m + k)) 25 (0, 0)) ∧ w'.heap[N]? = some (.cells (sumTo st 0) 25 (0, 0)) ∧ Below N w w') (fun i _ => (4 - intOf i).toNat)
                  case atStart => exact ⟨0, by omega, rfl, Ho.out, Hz0.out, HB.out⟩
                  case round =>
                    obtain ⟨k, hk, rfl, ho, hz, hB⟩ := hrel
                    by_cases hk4 : k < 4
                    · have hltk : (k : Int) < 4 := by omega
                      obtain ⟨jj, hjj⟩ : ∃ j : Nat, 4 * m + k = j := ⟨_, rfl⟩
                      obtain ⟨q, hq⟩ : ∃ q : Nat, 24 - 8 * k = q := ⟨_, rfl⟩
                      have n1 : IntKind.i64.wrap (4 * (m : Int)) = 4 * (m : Int) := IntWalk.i64_in _ (by omega)
                      have n2 : IntKind.i64.wrap (4 * (m : Int) + (k : Int)) = (jj : Int) := by rw [IntWalk.i64_in _ (by omega)]; omega
                      have n3 : IntKind.i64.wrap (8 * (k : Int)) = 8 * (k : Int) := IntWalk.i64_in _ (by omega)
                      have n4 : IntKind.i64.wrap (24 - 8 * (k : Int)) = (q : Int) := by rw [IntWalk.i64_in _ (by omega)]; omega
                      have n5 : (jj : Int) < 32 := by omega
                      have n6 : (q : Int) ≤ 32 := by omega
                      have hj32 : jj < 32 := by omega
                      have hb : (x.toNat : Int) / 2 ^ q % 256 = ((st.bytes.getD jj 0).toNat : Int) := by
                        rw [← hjj, Hby.out k hk4, ← byte_shr, IntKind.wrap_u8, show 8 * (3 - k) = q from by omega]
                      have hset := sumTo_set st jj hj32
                      rw [hjj] at ho
                      generalize st.bytes.getD jj 0 = bt at *
                      have c1 : ∃ u, wr.cell? ⟨ob, jj, none⟩ = some u := ⟨_, (cell_of_block ho jj).trans (Array.getElem?_eq_getElem (by rw [sumTo_size st jj (by omega)]; exact hj32))⟩
                      obtain ⟨u1, c1⟩ := c1
                      have f1 : wr.frozen? ⟨ob, jj, none⟩ = false := free_of_block ho jj
                      have Ho := hid ho
                      have Hz0 := hid hz
                      have HB := hid hB
                      have Hset := hid hset
                      have Hjj := hid hjj
                      clear ho hz hB hset hjj hq
                      go_wp2_with fail
                      refine ⟨⟨k + 1, by omega, by go_num, ?_, ?_, ?_⟩, ?_⟩
                      · rw [show 4 * m + (k + 1) = jj + 1 from by have := Hjj.out; omega, ← Hset.out]; exact heap_set_same Ho.out _
                      · exact heap_set_other Hz0.out (by show N ≠ ob; omega) _
                      · exact HB.out.setCell (by show N ≤ ob; omega) _
                      · simp [intOf]; omega
                    · have hltk : ¬ (k : Int) < 4 := by omega
                      obtain rfl : k = 4 := by omega
                      have Ho := hid ho
                      have Hz0 := hid hz
                      have HB := hid hB
                      clear ho hz hB
                      go_wp2_with fail
                      refine ⟨⟨m + 1, by omega, by go_num, Ho.out, Hz0.out, HB.out⟩, ?_⟩
                      simp [intOf]; omega
                · have hlt : ¬ (m : Int) < 8 := by omega
                  obtain rfl : m = 8 := by omega
                  go_upto_region 26 with fail
                  rename_i hK26
                  have hs := sumTo_size st 32 (by omega)
                  have hz := sumTo_size st 0 (by omega)
                  have hone : (sumTo st 32).all (·.oneCell') = true := by
                    rw [sumTo_all]
                    refine all_oneCell_toArray fun v hv => ?_
                    obtain ⟨c, _, rfl⟩ := List.mem_map.1 hv
                    rfl
                  have hth := there_of_block Hz0.out
                  rw [hz, ← hs] at hth
                  have hO : wr.heap[ob]? = some (.cells (sumTo st 32) 25 (0, 0)) := Ho.out
                  have hA := sumTo_all st
                  generalize sumTo st 32 = C at *
                  generalize sumTo st 0 = Z at *
                  have hw := heap_setCells_all Hz0.out C.toList (by rw [Array.length_toList, hs, hz])
                  rw [Array.toArray_toList] at hw
                  have hres : Tryd.f12.results = #[.cell 2 25] := by kernel_rfl
                  refine wp_region_lit ?_
                  refine wpList_load_row rfl 25 (.tmp 8) rfl ob rfl _ _ _ _ hO Tryd.underlying25 rfl (by rw [hs]; kernel_rfl) ?_
                  refine wpList_store_mid rfl 25 (.tmp 2) (.tmp 76) rfl N 0 C rfl rfl hth (by rw [hs]; kernel_rfl) hone ?_
                  refine wpList_nil ?_
                  simp only [Exit.then]
                  refine hK26 _ _ ?_
                  refine wp_ret ?_
                  simp only [Act.put]
                  refine bodyPost_ret (P := Tryd.prog) (fn := Tryd.f12) (v := .agg C) ?_ rfl ⟨by rw [hA, HM.out, Hsum.out]; rfl, by rw [hN]; exact Below.setCells (Nat.le_refl _) _ _ _ HB.out⟩
                  refine results_cell_row hres _ _ N _ C _ _ ?_ hw Tryd.underlying25 rfl (by rw [hs]; kernel_rfl)
                  rw [Array.getD_eq_getD_getElem?, Array.getElem?_setIfInBounds_ne (by decide)]
                  rfl
end Go.Proofs.YtmdcalkfapcafaaDoor
