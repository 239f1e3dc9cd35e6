/-
  Law 01: the walk of the document's Head.
-/
import Derived.Test.YtmdcalkfapcafaaDoorL01i
namespace Go.Proofs.YtmdcalkfapcafaaDoor
open Go.RowKit

theorem index_text (l : List UInt8) (i : Nat) (h : i < l.length) (w : World) :
    (Instr.index 9 (.string (S l)) (.int .i64 i)).run Tryd.prog w = .ok (.int .u8 ((l.getD i 0).toNat : Int)) w := by
  have hb : (S l)[i]? = some (l.getD i 0) := by
    have e : (S l)[i]? = (S l).data[i]? := by
      by_cases hs : i < (S l).size
      · rw [getElem?_pos (S l) i hs, getElem?_pos (S l).data i hs]; rfl
      · rw [getElem?_neg (S l) i hs, getElem?_neg (S l).data i hs]
    rw [e]
    simp [S, h, List.getD]
  unfold Instr.index
  simp [asIntOf, Sem.run_bind, run_underlying Tryd.underlying9, hb]

set_option maxHeartbeats 2000000 in
theorem refhead_any (l : List UInt8) (hl : l.length = 32) (n : Int) (w : World) :
    Calls Tryd.prog 18 #[.string (S l), .int .i64 n] w fun e w' => e = .returned (.string (S (headOf l n))) ∧ Below w.heap.size w w' := by
  obtain ⟨i0, hi, hz0, hz1, hz2⟩ := info_parts Tryd.infoByte
  have hsl := S_size l
  rw [hl] at hsl
  go_enter Tryd.func18, Tryd.ntmps18
  go_wp2_with fail
  have hown : (w.alloc (Obj.cells #[] 5)).ownsRow w.heap.size 5 1 (.slice (some ⟨w.heap.size, 0, none⟩) 0 0) 0 (byteCells ((headOf l n).take 0)) :=
    ⟨by simp [byteCells], .inr ⟨w.heap.size, 0, #[], rfl, Nat.le_refl _, heap_new w _, Nat.le_refl _, by simp, rfl, by simp [byteCells]⟩⟩
  have hB0 : Below w.heap.size w (w.alloc (Obj.cells #[] 5)) := (Below.refl _ _).alloc (Nat.le_refl _) _
  generalize w.alloc (Obj.cells #[] 5) = w1 at *
  have Hown := hid hown
  have HB0 := hid hB0
  clear hown hB0
  go_loopw [5, 6] (fun v i w' => ∃ q : Nat, q ≤ 32 ∧ i = .int .i64 q ∧ w'.ownsRow w.heap.size 5 1 v q (byteCells ((headOf l n).take q)) ∧ Below w.heap.size w w') (fun _ i _ => (32 - intOf i).toNat)
  case atStart => exact ⟨0, by omega, rfl, Hown.out, HB0.out⟩
  case round =>
    obtain ⟨q, hq, rfl, hO, hB⟩ := hrel
    have HO := hid hO
    have HB := hid hB
    clear hO hB
    by_cases hq32 : q < 32
    · have hlt : (q : Int) < 32 := by omega
      have hidx := fun w => index_text l q (by omega) w
      have hc := (l.getD q 0).toNat_lt
      have hg := headOf_get l n q (by omega)
      have hnx : (headOf l n).take (q + 1) = (headOf l n).take q ++ [headByte l n q] := by
        rw [List.take_succ_eq_append_getElem (by rw [headOf_length]; omega), ← hg]
        congr 2
        rw [List.getD_eq_getElem?_getD, List.getElem?_eq_getElem (by rw [headOf_length]; omega)]; rfl
      have hk8 : keptAt n q ≤ 8 := by unfold keptAt; omega
      have hkn : ∀ b : Nat, b < 8 → ((b : Int) < keptAt n q ↔ 8 * (q : Int) + b < n) := fun b hb => by unfold keptAt; omega
      have hby : headByte l n q = UInt8.ofNat (keepB (l.getD q 0).toNat (keptAt n q)) := rfl
      generalize keptAt n q = k at *
      generalize headByte l n q = hb at *
      generalize (l.getD q 0).toNat = c at *
      have Hnx := hid hnx
      have Hby := hid hby
      have Hkn := hid hkn
      clear hnx hby hkn hg
      go_upto_region 7 with fail
      go_loopw [7, 8] (fun cv bv w' => ∃ b : Nat, b ≤ 8 ∧ bv = .int .i64 b ∧ cv = .int .i64 ((preB c k b : Nat) : Int) ∧ w' = wr) (fun _ bv _ => (8 - intOf bv).toNat)
      case atStart => exact ⟨0, by omega, rfl, by rw [preB_zero c k hc]; rfl, rfl⟩
      case round =>
        obtain ⟨b, hb8, rfl, rfl, rfl⟩ := hrel
        by_cases hbl : b < 8
        · have hltb : (b : Int) < 8 := by omega
          obtain ⟨sb, hsb⟩ : ∃ sb : Nat, 7 - b = sb := ⟨_, rfl⟩
          have m1 : IntKind.i64.wrap (7 - (b : Int)) = (sb : Int) := by rw [IntWalk.i64_in _ (by omega)]; omega
          have m0 : IntKind.i64.wrap (c : Int) = (c : Int) := IntWalk.i64_in _ (by omega)
          have m2 : (sb : Int) ≤ 64 := by omega
          have m3 : ((c : Int) / 2 ^ sb).tmod 2 = ((c / 2 ^ sb % 2 : Nat) : Int) := by
            have e : (c : Int) / 2 ^ sb = ((c / 2 ^ sb : Nat) : Int) := by simp
            rw [e, Int.tmod_eq_emod_of_nonneg (Int.natCast_nonneg _)]; exact (Int.natCast_emod _ 2).symm
          have m4 : IntKind.i64.wrap (8 * (q : Int)) = 8 * (q : Int) := IntWalk.i64_in _ (by omega)
          have m5 : IntKind.i64.wrap (8 * (q : Int) + (b : Int)) = 8 * (q : Int) + (b : Int) := IntWalk.i64_in _ (by omega)
          have hst := preB_step c k b hc hk8 hbl
          have hp := preB_lt c k b hc hk8 (by omega)
          have hp2 := preB_lt c k (b + 1) hc hk8 (by omega)
          have hkb := Hkn.out b hbl
          rw [hsb] at hst
          generalize preB c k b = p at *
          generalize hpn : preB c k (b + 1) = p2 at *
          have hbit : c / 2 ^ sb % 2 < 2 := Nat.mod_lt _ (by decide)
          generalize c / 2 ^ sb % 2 = bit at *
          have m6 : IntKind.i64.wrap (2 * (p : Int)) = 2 * (p : Int) := IntWalk.i64_in _ (by omega)
          have Hpn : Hid (Value.int .i64 (p2 : Int) = Value.int .i64 ((preB c k (b + 1) : Nat) : Int)) := hid (by rw [hpn])
          by_cases hbk : b < k
          · rw [if_pos hbk] at hst
            have hge : ¬ n ≤ 8 * (q : Int) + (b : Int) := by omega
            have m7 : IntKind.i64.wrap (2 * (p : Int) + (bit : Int)) = (p2 : Int) := by rw [IntWalk.i64_in _ (by omega)]; omega
            clear hst hp hp2 hkb hpn hbit hc
            go_wp2_with fail
            refine ⟨⟨b + 1, by omega, by go_num, Hpn.out, trivial⟩, ?_⟩
            simp [intOf]; omega
          · rw [if_neg hbk] at hst
            have hge : n ≤ 8 * (q : Int) + (b : Int) := by omega
            have m8 : Hid (Value.int .i64 (2 * (p : Int)) = Value.int .i64 (p2 : Int)) := hid (by congr 1; omega)
            clear hst hp hp2 hkb hpn hbit hc
            go_wp2_with fail
            refine ⟨⟨b + 1, by omega, by go_num, m8.out.trans Hpn.out, trivial⟩, ?_⟩
            simp [intOf]; omega
        · have hltb : ¬ (b : Int) < 8 := by omega
          obtain rfl : b = 8 := by omega
          rw [preB_all c k hk8]
          have hkl := keepB_lt c k hc
          have hcb : IntKind.u8.wrap ((keepB c k : Nat) : Int) = (hb.toNat : Int) := by rw [Hby.out, IntKind.wrap_u8]; simp
          generalize keepB c k = kb at *
          have hlen1 : q + 1 ≤ maxLen := by unfold maxLen; omega
          have hbs : w.heap.size ≤ (wr.alloc (.cells #[.int .u8 (hb.toNat : Int)] 5)).heap.size := by have := HB.out.size; simp; omega
          go_wp2_with (refine wpList_append_lies _ rfl (.tmp 39) (.tmp 42) 28 rfl w.heap.size 5 i0 (.int .u8 0) 1 1 Tryd.underlying28 hi hz0 hz1 hz2 rfl (by decide) u5 _ _ (by simp [Act.eval]) (HO.out.alloc _) ⟨wr.heap.size, 0, none⟩ 1 1 [.int .u8 (hb.toNat : Int)] (by simp [Act.eval]) rfl (news_one (by simp)) (one_one rfl) (by decide) hlen1 (by omega) hbs (wr.heap.size + 1) (by simp) ?_; intro g cap w2 hown2 hgrow hg hlt2; have Hown2 := hid hown2; have Hgrow := hid hgrow; have Hg := hid hg; clear hown2 hgrow hg)
          refine ⟨⟨q + 1, by omega, by go_num, ?_, HB.out.trans (((Below.refl _ wr).alloc HB.out.size _).grown Hgrow.out hbs (fun k hk => (HO.out.lt k hk).1))⟩, ?_⟩
          · have h := Hown2.out
            rw [Hnx.out, byteCells_append]
            exact h
          · simp [intOf]; omega
    · have hlt : ¬ (q : Int) < 32 := by omega
      obtain rfl : q = 32 := by omega
      have hO := HO.out
      rw [List.take_of_length_le (by rw [headOf_length]; omega)] at hO
      have hr := run_bytes_string (P := Tryd.prog) 28 9 5 wr w.heap.size _ u5 _ hO Tryd.underlying28 Tryd.underlying9 Tryd.underlying5
      clear hO
      go_wp2
      go_ret
      exact ⟨rfl, HB.out⟩
end Go.Proofs.YtmdcalkfapcafaaDoor
