/-
  The document's sums: a block's words.
-/
import Derived.Test.YtmdcalkfapcafaaDoorRefB
import Derived.Test.YtmdcalkfapcafaaDoorL01j
namespace Go.Proofs.YtmdcalkfapcafaaDoor
open Go.RowKit

theorem Tryd.infoInt : (Tryd.prog.info? 3).map (fun i => (i.zero, i.size, i.bytes)) = some (some (.int .i64 0), 1, 8) := by kernel_rfl

/-- What a word's first k bytes make. -/
def preW (l : List UInt8) (q : Nat) : Nat → Nat
  | 0 => 0
  | k + 1 => 256 * preW l q k + (l.getD (4 * q + k) 0).toNat
theorem preW_lt (l : List UInt8) (q : Nat) : ∀ k, preW l q k < 256 ^ k
  | 0 => by simp [preW]
  | k + 1 => by
    have h := preW_lt l q k
    have h2 := (l.getD (4 * q + k) 0).toNat_lt
    rw [preW, Nat.pow_succ]; omega
theorem preW_all (l : List UInt8) (q : Nat) : preW l q 4 = (word0 l q).toNat := by
  unfold word0
  rw [word0_nat]
  rfl
def wordVals (l : List UInt8) (q : Nat) : List Value := (wordsTo l q).map fun x => WI x
theorem wordVals_length (l : List UInt8) (q : Nat) : (wordVals l q).length = q := by simp [wordVals, wordsTo_length]
theorem wordVals_get (l : List UInt8) (q j : Nat) (h : j < q) : (wordVals l q)[j]? = some (WI ((wordsTo l q).getD j 0)) := by
  have h2 : j < (wordsTo l q).length := by rw [wordsTo_length]; exact h
  simp [wordVals, List.getD, h2]
theorem wordVals_first (l : List UInt8) (q : Nat) (h : q < 16) : wordVals l (q + 1) = wordVals l q ++ [WI (word0 l q)] := by
  simp [wordVals, wordsTo, h]
theorem wordVals_next (l : List UInt8) (q : Nat) (h : ¬ q < 16) : wordVals l (q + 1) = wordVals l q ++ [WI (nextWord (wordsTo l q) q)] := by
  simp [wordVals, wordsTo, h]

set_option maxHeartbeats 2000000 in
theorem refwords_any (l : List UInt8) (hl : l.length = 64) (w : World) :
    Calls Tryd.prog 29 #[.string (S l)] w fun e w' => ∃ v, e = .returned v ∧ w'.ownsRow w.heap.size 3 1 v 64 (wordVals l 64) ∧ Below w.heap.size w w' := by
  obtain ⟨i0, hi, hz0, hz1, hz2⟩ := info_parts Tryd.infoInt
  have hsl := S_size l
  rw [hl] at hsl
  go_enter Tryd.func29, Tryd.ntmps29
  go_wp2_with fail
  have hown : (w.alloc (Obj.cells #[] 3)).ownsRow w.heap.size 3 1 (.slice (some ⟨w.heap.size, 0, none⟩) 0 0) 0 (wordVals l 0) :=
    ⟨rfl, .inr ⟨w.heap.size, 0, #[], rfl, Nat.le_refl _, heap_new w _, Nat.le_refl _, by simp, rfl, rfl⟩⟩
  have hB0 : Below w.heap.size w (w.alloc (Obj.cells #[] 3)) := (Below.refl _ _).alloc (Nat.le_refl _) _
  generalize w.alloc (Obj.cells #[] 3) = w1 at *
  have Hown := hid hown
  have HB0 := hid hB0
  clear hown hB0
  go_loopw [3, 4] (fun v i w' => ∃ q : Nat, q ≤ 16 ∧ i = .int .i64 q ∧ w'.ownsRow w.heap.size 3 1 v q (wordVals l q) ∧ Below w.heap.size w w') (fun _ i _ => (16 - intOf i).toNat)
  case atStart => exact ⟨0, by omega, rfl, Hown.out, HB0.out⟩
  case round =>
    obtain ⟨q, hq, rfl, hO, hB⟩ := hrel
    have HO := hid hO
    have HB := hid hB
    clear hO hB
    by_cases hq16 : q < 16
    · have hlt : (q : Int) < 16 := by omega
      go_upto_region 7 with fail
      go_loopw [5, 6] (fun nv kv w' => ∃ k : Nat, k ≤ 4 ∧ kv = .int .i64 k ∧ nv = .int .i64 ((preW l q k : Nat) : Int) ∧ w' = wr) (fun _ kv _ => (4 - intOf kv).toNat)
      case atStart => exact ⟨0, by omega, rfl, rfl, rfl⟩
      case round =>
        obtain ⟨k, hk, rfl, rfl, rfl⟩ := hrel
        by_cases hk4 : k < 4
        · have hltk : (k : Int) < 4 := by omega
          have hidx := fun w => index_text l (4 * q + k) (by omega) w
          have hp : preW l q k < 256 ^ 3 := Nat.lt_of_lt_of_le (preW_lt l q k) (Nat.pow_le_pow_right (by decide) (by omega))
          have hst : preW l q (k + 1) = 256 * preW l q k + (l.getD (4 * q + k) 0).toNat := rfl
          have hc := (l.getD (4 * q + k) 0).toNat_lt
          obtain ⟨j, hj⟩ : ∃ j : Nat, 4 * q + k = j := ⟨_, rfl⟩
          have m1 : IntKind.i64.wrap (4 * (q : Int)) = 4 * (q : Int) := IntWalk.i64_in _ (by omega)
          have m2 : IntKind.i64.wrap (4 * (q : Int) + (k : Int)) = (j : Int) := by rw [IntWalk.i64_in _ (by omega)]; omega
          rw [hj] at hidx hst hc
          generalize preW l q k = p at *
          generalize hp2 : preW l q (k + 1) = p2 at *
          generalize (l.getD j 0) = c at *
          have m3 : IntKind.i64.wrap (256 * (p : Int)) = 256 * (p : Int) := IntWalk.i64_in _ (by omega)
          have m4 : IntKind.i64.wrap (c.toNat : Int) = (c.toNat : Int) := IntWalk.i64_in _ (by omega)
          have m5 : IntKind.i64.wrap (256 * (p : Int) + (c.toNat : Int)) = (p2 : Int) := by rw [IntWalk.i64_in _ (by omega)]; omega
          have Hp2 : Hid (Value.int .i64 (p2 : Int) = Value.int .i64 ((preW l q (k + 1) : Nat) : Int)) := hid (by rw [hp2])
          clear hst hp hc hp2 hj
          go_wp2_with fail
          refine ⟨⟨k + 1, by omega, by go_num, Hp2.out, trivial⟩, ?_⟩
          simp [intOf]; omega
        · have hltk : ¬ (k : Int) < 4 := by omega
          obtain rfl : k = 4 := by omega
          rw [preW_all]
          have hlen1 : q + 1 ≤ maxLen := by unfold maxLen; omega
          have hbs : w.heap.size ≤ (wr.alloc (.cells #[WI (word0 l q)] 3)).heap.size := by have := HB.out.size; simp; omega
          have hnx := wordVals_first l q hq16
          generalize word0 l q = x at *
          have Hnx := hid hnx
          clear hnx
          go_wp2_with (refine wpList_append_lies _ rfl (.tmp 31) (.tmp 33) 57 rfl w.heap.size 3 i0 (.int .i64 0) 1 8 Tryd.underlying57 hi hz0 hz1 hz2 rfl (by decide) u3 _ _ (by simp [Act.eval]) (HO.out.alloc _) ⟨wr.heap.size, 0, none⟩ 1 1 [WI x] (by simp [Act.eval]) rfl (news_one (by simp)) (one_one rfl) (by decide) hlen1 (by omega) hbs (wr.heap.size + 1) (by simp) ?_; intro g cap w2 hown2 hgrow hg hlt2; have Hown2 := hid hown2; have Hgrow := hid hgrow; have Hg := hid hg; clear hown2 hgrow hg)
          refine ⟨⟨q + 1, by omega, by go_num, by rw [Hnx.out]; exact Hown2.out, HB.out.trans (((Below.refl _ wr).alloc HB.out.size _).grown Hgrow.out hbs (fun k hk => (HO.out.lt k hk).1))⟩, ?_⟩
          simp [intOf]; omega
    · have hlt : ¬ (q : Int) < 16 := by omega
      have hO := HO.out
      rw [show q = 16 from by omega] at hO
      have HO := hid hO
      clear hO
      go_upto_region 12 with fail
      clear hq hq16
      go_loopw [3, 7] (fun v i w' => ∃ q : Nat, 16 ≤ q ∧ q ≤ 64 ∧ i = .int .i64 q ∧ w'.ownsRow w.heap.size 3 1 v q (wordVals l q) ∧ Below w.heap.size w w') (fun _ i _ => (64 - intOf i).toNat)
      case atStart => exact ⟨16, by omega, by omega, rfl, HO.out, HB.out⟩
      case round =>
        obtain ⟨q, hq16, hq, rfl, hO, hB⟩ := hrel
        have HB := hid hB
        clear hB
        by_cases hq64 : q < 64
        · have hlt3 : (q : Int) < 64 := by omega
          obtain ⟨g, cp, rfl, hgb, hgl⟩ := hO.form (by omega)
          obtain ⟨q0, h0⟩ : ∃ j : Nat, q - 15 = j := ⟨_, rfl⟩
          obtain ⟨q1, h1⟩ : ∃ j : Nat, q - 2 = j := ⟨_, rfl⟩
          obtain ⟨q2, h2⟩ : ∃ j : Nat, q - 16 = j := ⟨_, rfl⟩
          obtain ⟨q3, h3⟩ : ∃ j : Nat, q - 7 = j := ⟨_, rfl⟩
          have k0 : (q0 : Int) < (q : Int) := by omega
          have k1 : (q1 : Int) < (q : Int) := by omega
          have k2 : (q2 : Int) < (q : Int) := by omega
          have k3 : (q3 : Int) < (q : Int) := by omega
          have m0 : IntKind.i64.wrap ((q : Int) - 15) = (q0 : Int) := by rw [IntWalk.i64_in _ (by omega)]; omega
          have m1 : IntKind.i64.wrap ((q : Int) - 2) = (q1 : Int) := by rw [IntWalk.i64_in _ (by omega)]; omega
          have m2 : IntKind.i64.wrap ((q : Int) - 16) = (q2 : Int) := by rw [IntWalk.i64_in _ (by omega)]; omega
          have m3 : IntKind.i64.wrap ((q : Int) - 7) = (q3 : Int) := by rw [IntWalk.i64_in _ (by omega)]; omega
          have c0 := (hO.cellAt q0 (by omega)).trans (wordVals_get l q q0 (by omega))
          have c1 := (hO.cellAt q1 (by omega)).trans (wordVals_get l q q1 (by omega))
          have c2 := (hO.cellAt q2 (by omega)).trans (wordVals_get l q q2 (by omega))
          have c3 := (hO.cellAt q3 (by omega)).trans (wordVals_get l q q3 (by omega))
          have hnx := wordVals_next l q (by omega)
          have hN : nextWord (wordsTo l q) q = (wordsTo l q).getD q2 0 + (rotr ((wordsTo l q).getD q0 0) 7 ^^^ rotr ((wordsTo l q).getD q0 0) 18 ^^^ (wordsTo l q).getD q0 0 >>> 3) + (wordsTo l q).getD q3 0 + (rotr ((wordsTo l q).getD q1 0) 17 ^^^ rotr ((wordsTo l q).getD q1 0) 19 ^^^ (wordsTo l q).getD q1 0 >>> 10) := by
            rw [← h0, ← h1, ← h2, ← h3]; rfl
          generalize (wordsTo l q).getD q0 0 = x at *
          generalize (wordsTo l q).getD q1 0 = y at *
          generalize (wordsTo l q).getD q2 0 = z at *
          generalize (wordsTo l q).getD q3 0 = t at *
          generalize nextWord (wordsTo l q) q = nx at *
          have HO := hid hO
          have Hnx := hid hnx
          have HN := hid hN
          have Hq := hid hq16
          have Hq64 := hid hq64
          have K2 := hid k2
          have K3 := hid k3
          have M2 := hid m2
          have M3 := hid m3
          clear hO hnx hN hq16 hq64 h0 h1 h2 h3 hq hgb k2 k3 m2 m3
          go_upto_region 14 with fail
          go_still (by kernel_rfl)
          have C2 : wr.drew.cell? ⟨g, q2, none⟩ = some (WI z) := c2
          have C3 : wr.drew.cell? ⟨g, q3, none⟩ = some (WI t) := c3
          have HO : Hid (wr.drew.ownsRow w.heap.size 3 1 (.slice (some ⟨g, 0, none⟩) q cp) q (wordVals l q)) := HO
          have HB : Hid (Below w.heap.size w wr.drew) := hid HB.out.drew
          have hd : ({ heap := wr.heap, tape := wr.tape, drawn := wr.drawn + 1, os := wr.os, output := wr.output } : World) = wr.drew := rfl
          rw [hd]
          generalize wr.drew = wd at *
          clear hd c0 c1 c2 c3 k0 k1 m0 m1 hlt3 hgl
          go_upto_region 17 with fail
          refine (turn_any x 7 (by decide) (by decide) _ rfl _).mono ?_
          rintro e w5 ⟨rfl, rfl⟩
          go_upto_region 17 with fail
          refine (turn_any x 18 (by decide) (by decide) _ rfl _).mono ?_
          rintro e w5 ⟨rfl, rfl⟩
          go_upto_region 17 with fail
          refine (turn_any y 17 (by decide) (by decide) _ rfl _).mono ?_
          rintro e w5 ⟨rfl, rfl⟩
          go_upto_region 17 with fail
          refine (turn_any y 19 (by decide) (by decide) _ rfl _).mono ?_
          rintro e w5 ⟨rfl, rfl⟩
          go_upto_region 17 with fail
          have sx : (x.toNat : Int) / (8 : Int) = ((x >>> 3).toNat : Int) := shr_W x 3
          have sy : (y.toNat : Int) / (1024 : Int) = ((y >>> 10).toNat : Int) := shr_W y 10
          rw [sx, sy, xor_I (rotr x 7), xor_I (rotr y 17), xor_I, xor_I]
          clear sx sy
          have hn2 := HN.out
          clear HN
          generalize (rotr x 7 ^^^ rotr x 18 ^^^ x >>> 3) = p at *
          generalize (rotr y 17 ^^^ rotr y 19 ^^^ y >>> 10) = r at *
          have C2 : wd.drew.drew.drew.drew.cell? ⟨g, q2, none⟩ = some (WI z) := C2
          have C3 : wd.drew.drew.drew.drew.cell? ⟨g, q3, none⟩ = some (WI t) := C3
          have HO : Hid (wd.drew.drew.drew.drew.ownsRow w.heap.size 3 1 (.slice (some ⟨g, 0, none⟩) q cp) q (wordVals l q)) := HO
          have HB : Hid (Below w.heap.size w wd.drew.drew.drew.drew) := hid HB.out.drew.drew.drew.drew
          generalize wd.drew.drew.drew.drew = we at *
          have k2 := K2.out
          have k3 := K3.out
          have m2 := M2.out
          have m3 := M3.out
          have hz := z.isLt
          have hp := p.isLt
          have ht := t.isLt
          have hr := r.isLt
          have n1 : IntKind.i64.wrap ((z.toNat : Int) + (p.toNat : Int)) = ((z.toNat + p.toNat : Nat) : Int) := by rw [← Int.natCast_add]; exact wrap_small _ (by omega)
          have n2 : IntKind.i64.wrap (((z.toNat + p.toNat : Nat) : Int) + (t.toNat : Int)) = ((z.toNat + p.toNat + t.toNat : Nat) : Int) := by rw [← Int.natCast_add]; exact wrap_small _ (by omega)
          have n3 : IntKind.i64.wrap (((z.toNat + p.toNat + t.toNat : Nat) : Int) + (r.toNat : Int)) = ((z.toNat + p.toNat + t.toNat + r.toNat : Nat) : Int) := by rw [← Int.natCast_add]; exact wrap_small _ (by omega)
          have hwd := refword_any (z.toNat + p.toNat + t.toNat + r.toNat)
          have hsum : BitVec.ofNat 32 (z.toNat + p.toNat + t.toNat + r.toNat) = nx := by
            rw [hn2]; apply BitVec.eq_of_toNat_eq; simp only [BitVec.toNat_ofNat, BitVec.toNat_add]; omega
          rw [hsum] at hwd
          generalize z.toNat + p.toNat + t.toNat + r.toNat = s4 at *
          generalize z.toNat + p.toNat + t.toNat = s3 at *
          generalize z.toNat + p.toNat = s2 at *
          have Hwd := hid hwd
          clear hz hp ht hr hn2 hsum hwd
          have hlen1 : q + 1 ≤ maxLen := by have := Hq64.out; unfold maxLen; omega
          have hby1 : (q + 1) * 8 ≤ 140737488355328 := by have := Hq64.out; omega
          have C2 : we.drew.cell? ⟨g, q2, none⟩ = some (WI z) := C2
          have C3 : we.drew.cell? ⟨g, q3, none⟩ = some (WI t) := C3
          have HO : Hid (we.drew.ownsRow w.heap.size 3 1 (.slice (some ⟨g, 0, none⟩) q cp) q (wordVals l q)) := HO
          have HB : Hid (Below w.heap.size w we.drew) := hid HB.out.drew
          have hbs : w.heap.size ≤ (we.drew.alloc (.cells #[WI nx] 3)).heap.size := by have := HB.out.size; simp at this ⊢; omega
          go_region_law (first
            | (refine step_append_lies _ rfl (.tmp 65) (.tmp 82) 57 rfl w.heap.size 3 i0 (.int .i64 0) 1 8 Tryd.underlying57 hi hz0 hz1 hz2 rfl (by decide) (.slice (some ⟨g, 0, none⟩) q cp) _ _ (by simp [Act.eval]) (HO.out.alloc _) ⟨we.heap.size, 0, none⟩ 1 1 [WI nx] (by simp [Act.eval]) rfl (news_one (by simp)) (one_one rfl) (by decide) hlen1 hby1 hbs (we.heap.size + 1) (by simp) ?_; intro g2 cap2 w2 hown2 hgrow hg hlt2; have Hown2 := hid hown2; have Hgrow := hid hgrow; have Hg := hid hg; clear hown2 hgrow hg)
            | (go_simp; go_at_call 30; refine (Hwd.out _).mono ?_; rintro e w7 ⟨rfl, rfl⟩))
          all_goals
            have hq64 := Hq64.out
            clear k2 k3 m2 m3 n1 n2 n3 C2 C3 hby1
            go_wp2_with fail
            refine ⟨⟨q + 1, by have := Hq.out; omega, by omega, by go_num, by rw [Hnx.out]; exact Hown2.out, HB.out.trans (((Below.refl _ we.drew).alloc HB.out.size _).grown Hgrow.out hbs (fun k hk => (HO.out.lt k hk).1))⟩, ?_⟩
            simp [intOf]; omega
        · have hlt3 : ¬ (q : Int) < 64 := by omega
          obtain rfl : q = 64 := by omega
          have HO := hid hO
          clear hO
          go_wp2_with fail
          go_ret
          exact ⟨_, rfl, HO.out, HB.out⟩
end Go.Proofs.YtmdcalkfapcafaaDoor
