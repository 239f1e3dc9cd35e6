/-
  Law 08: RingAppends: its walk.
-/
import Derived.Test.YtkmbbgnbklklcaaDoorL08f
namespace Go.Proofs.YtkmbbgnbklklcaaDoor
open Go.RowKit

theorem new_20 (b f m ep : Nat) (n : Int) (w : World) (hm : max n 0 = (m : Int)) : Calls Tryd.prog 44 #[.pointer (some ⟨b, 0, none⟩), .int .i64 (f : Int), .int .i64 n, .int .u32 (ep : Int)] w fun e w' => e = .returned (.pointer (some ⟨w.heap.size, 0, none⟩)) ∧ RingAt w' w.heap.size b f m ep 0 ∧ Below w.heap.size w w' ∧ w.heap.size < w'.heap.size := ring_new b f n m ep w hm

theorem read_jour {B r b g : Nat} {D : Dsk} {fo n : Int} {ep sq : Nat} (f q : Nat) (s : List UInt8) (w : World) (h : Jour w B r b g D fo n ep sq) (ho : D.on) (hi : f + q < D.n) (hs : D.now (f + q) = s) :
    Calls Tryd.prog 49 #[.pointer (some ⟨b, 0, none⟩), .int .i64 ((f : Int) + (q : Int))] w fun e w' => e = .returned (.tuple #[.string (S s), .int .i64 0]) ∧ Below w.heap.size w w' := by
  have h1 := lread_any ((f : Int) + (q : Int)) w h.hD
  have hd : ¬ D.dead = true := by rw [ho.dead]; simp
  have hx : ¬ D.out ((f : Int) + (q : Int)) := by unfold Dsk.out; omega
  unfold Dsk.rText Dsk.rErr at h1
  rw [if_neg hd, if_neg hx, if_neg hd, if_neg hx, show ((f : Int) + (q : Int)).toNat = f + q from by omega, hs] at h1
  exact h1
theorem txts_one (R : List (List UInt8)) : ∀ u ∈ txts R, u.oneCell' = true := by
  intro u hu
  simp only [txts, List.mem_map] at hu
  obtain ⟨s, _, rfl⟩ := hu
  rfl
theorem frames_c (ep sq c : Nat) (l : List UInt8) (w : World) (hep : ep < 4294967296) (hsq : sq ≤ 1000000) (hl : l.length ≤ 1000) (hc : cost l.length = c) :
    Calls Tryd.prog 45 #[.int .u32 (ep : Int), .int .i64 ((sq : Int) + 1), .string (S l)] w fun e w' => ∃ ao cp, e = .returned (.slice ao c cp) ∧ w'.ownsRow w.heap.size 9 1 (.slice ao c cp) c (txts (frs ep sq (parts l))) ∧ Below w.heap.size w w' := by
  have h := frames_any ep sq l w hep hsq hl
  rw [frs_length, parts_length, hc] at h
  exact h

set_option maxRecDepth 100000 in
set_option maxHeartbeats 4000000 in
theorem ringappends_any (fo n0 : Int) (ep ot : Nat) (a : Option Addr) (len cap : Nat) (T : Nat → List UInt8) (w : World) (hS : SliceOf w a len cap (fun i => .string (S (T i)))) (hep : ep < 4294967296) (hot : ot < 4294967296) :
    Calls Tryd.prog 8 #[.int .i64 fo, .int .i64 n0, .int .u32 (ep : Int), .int .u32 (ot : Int), .slice a len cap] w fun e w' => e = .returned (.bool true) ∧ Below w.heap.size w w' := by
  obtain ⟨i0, hi, hz0, hz1, hz2⟩ := info_parts Tryd.infoStr
  obtain ⟨f, hf7, hf⟩ := and7n fo
  obtain ⟨n, hn⟩ : ∃ n : Int, min (max n0 (-2)) 20 = n := ⟨_, rfl⟩
  obtain ⟨m, hm⟩ : ∃ m : Nat, max n 0 = (m : Int) := ⟨(max n 0).toNat, by omega⟩
  have hm20 : m ≤ 20 := by omega
  have hn20 : n ≤ 20 ∧ -2 ≤ n := by omega
  have HS := hid hS
  obtain ⟨L, hL⟩ : ∃ L, fewL T len = L := ⟨_, rfl⟩
  have hLl : L.length ≤ 12 := by rw [← hL]; simp [fewL]; omega
  have hLs : ∀ s ∈ L, s.length ≤ 150 := by
    intro s hs
    rw [← hL] at hs
    simp only [fewL, List.mem_map] at hs
    obtain ⟨j, _, rfl⟩ := hs
    simp; omega
  have HL := hid hL
  have HLs := hid hLs
  clear hS hL hLs
  go_enter Tryd.func8, Tryd.ntmps8
  go_wp2_with fail
  refine (awake08 w).mono ?_
  rintro e w1 ⟨rfl, hB1⟩
  have HB1 := hid hB1
  clear hB1
  go_wp2_with fail
  have hfew := few_any a len cap T w1 (slice_below HS.out HB1.out)
  rw [HL.out] at hfew
  have Hfew := hid hfew
  clear hfew
  (with_reducible refine Hfew.out.mono ?_)
  rintro e w2 ⟨aL, cL, rfl, hO2, hB2⟩
  have HT2 := hid (TRow.own hO2)
  have HB2 := hid (HB1.out.trans (hB2.mono HB1.out.size))
  clear hO2 hB2 Hfew
  go_wp2_with fail
  (with_reducible refine (disk_new 32 32 w2 (by decide)).mono ?_)
  rintro e w3 ⟨rfl, g, hD3, hg3, hB3⟩
  have hwb := HB2.out.size
  have hbl := hD3.lt
  have HB3 := hid (HB2.out.trans (hB3.mono hwb))
  have HD3 := hid hD3
  have hB3' := hid hB3
  clear hD3 hB3
  go_wp2_with fail
  (with_reducible refine (new_20 _ f m ep n w3 hm).mono ?_)
  rintro e w4 ⟨rfl, hR4, hB4, hl4⟩
  have hJ4 : Jour w4 w2.heap.size w3.heap.size w2.heap.size g (Dsk.new 32) (f : Int) (m : Int) ep 0 := ⟨hR4, HD3.out.below hB4, by omega⟩
  have hwr := hB3'.out.size
  have HB4 := hid (hB3'.out.trans (hB4.mono hwr))
  have HJ4 := hid hJ4
  clear hR4 hB4 hJ4 HD3 HB3
  generalize w3.heap.size = r at *
  go_wp2_with fail
  have hA5 : AppsAt w2 ((w4.alloc (.cells #[] 9)).alloc (.cells #[] 9)) w2.heap.size r w2.heap.size g f (Dsk.new 32) m ep [] [] [] (.slice (some ⟨w4.heap.size, 0, none⟩) 0 0) (.slice (some ⟨w4.heap.size + 1, 0, none⟩) 0 0) := by
    have hw4 := HB4.out.size
    have hb1 : Below w4.heap.size w4 (w4.alloc (.cells #[] 9)) := (Below.refl _ _).alloc (Nat.le_refl _) _
    have hb2 : Below (w4.alloc (.cells #[] 9)).heap.size (w4.alloc (.cells #[] 9)) ((w4.alloc (.cells #[] 9)).alloc (.cells #[] 9)) := (Below.refl _ _).alloc (Nat.le_refl _) _
    have h1 := World.ownsRow_lit (base := w2.heap.size) (e := 9) (size := 1) w4 #[] 0 hw4 (by decide) rfl
    have h2 := World.ownsRow_lit (base := w2.heap.size) (e := 9) (size := 1) (w4.alloc (.cells #[] 9)) #[] 0 (by simp; omega) (by decide) rfl
    have hz : (w4.alloc (.cells #[] 9)).heap.size = w4.heap.size + 1 := by simp
    rw [hz] at h2
    refine ⟨(HJ4.out.below hb1).below hb2, Nat.zero_le _, own_below h1 hb2, h2, fun k hk e => ?_, (HB4.out.trans (hb1.mono hw4)).trans (hb2.mono (by omega)), hwr, Nat.le_refl _⟩
    injection hk with hk
    injection e with e
    simp only at hk e
    omega
  generalize (w4.alloc (.cells #[] 9)).alloc (.cells #[] 9) = w5 at *
  have HA5 := hid hA5
  clear hA5 HJ4
  go_loopw [13, 14, 48] (fun v1 v2 iv wr => ∃ (q : Nat) (K : List (List UInt8)), q ≤ L.length ∧ iv = .int .i64 q ∧ K.length ≤ q ∧ AppsAt w2 wr w2.heap.size r w2.heap.size g f (Dsk.new 32) m ep K K K v1 v2) (fun _ _ iv _ => L.length - lenOf0 iv)
  case atStart => exact ⟨0, [], Nat.zero_le _, rfl, Nat.le_refl _, HA5.out⟩
  case round =>
    clear HA5
    obtain ⟨q, K, hq, rfl, hKq, hA⟩ := hrel
    have HA := hid hA
    obtain ⟨x1, y1, hv1⟩ := shape_of hA.h1
    obtain ⟨x2, y2, hv2⟩ := shape_of hA.h2
    subst hv1 hv2
    have hqm := hA.hm
    clear hA
    by_cases hql : q < L.length
    · have d1 : decide ((q : Int) < (L.length : Int)) = true := by simp; omega
      obtain ⟨ad, had, k0⟩ := (HT2.out.below HA.out.hB).at hql
      subst had
      have hs150 := HLs.out L[q] (List.getElem_mem hql)
      generalize L[q] = s at *
      have hon := (Dsk.on.new 32).puts f (frs ep 0 (allParts K))
      have hnn : ((Dsk.new 32).puts f (frs ep 0 (allParts K))).n = 32 := by rw [Dsk.puts_n]; rfl
      have hss := S_size s
      obtain ⟨c, hc⟩ : ∃ c, cost s.length = c := ⟨_, rfl⟩
      have hc4 : 1 ≤ c ∧ c ≤ 4 := by rw [← hc]; unfold cost; omega
      have hcl := fun w => ring_cost s.length w (by omega)
      rw [hc] at hcl
      have Hcl := hid hcl
      clear hcl
      go_upto_region 11 with (go_at_call 45; (with_reducible refine (frames_c ep (allParts K).length c s wr hep (by omega) (by omega) hc).mono ?_); rintro e w6 ⟨aF, cF, rfl, hO6, hB6⟩; obtain ⟨gF, hgF, hg6, hl6, hc6⟩ := own_first hO6 (by omega); subst hgF; have HA6 := hid (HA.out.below hB6); have HO6 := hid hO6; clear hO6 hB6)
      by_cases hf1 : (allParts K).length + c ≤ m
      · have d2 : decide (((allParts K).length : Int) + (c : Int) ≤ (m : Int)) = true := by simp; omega
        have hfit : fits (m : Int) (allParts K).length s := by unfold fits; rw [hc]; omega
        have hap := lappend_yes r f m ep (allParts K).length (f + (allParts K).length) s w6 HA6.out.hJ hon (by omega) (by omega) (by omega) (by omega) (by omega) hep hfit
        have Hap := hid hap
        have e32 : (Dsk.new 32).n = 32 := rfl
        clear hap hfit
        go_upto_region 12 with fail
        go_upto_region 13 with (go_at_call 46; (with_reducible refine Hap.out.mono ?_); rintro e w7 ⟨rfl, hJ7, hF7⟩)
        have hr6 := HA6.out.hJ.lt
        have hr0 := (HA.out.hJ).lt
        have HO7 := hid (hF7.own HO6.out (fun k hk hx => by injection hk with hk; simp only at hk; unfold rfoot at hx; omega))
        have HA7 := hid (HA6.out.put (by decide) hJ7 hF7 (by rw [hc]; exact hf1))
        have hc7 := (own_first HO7.out (by omega))
        obtain ⟨g7, hg7, hg7a, hl7, hc7⟩ := hc7
        injection hg7 with hg7
        injection hg7 with hg7
        subst hg7
        have Hc7 := hid hc7
        clear hJ7 hF7 hc6 hg6 hl6 Hap hc7 hr6 hr0
        have Hlen1 := hid (show (allParts K).length + c ≤ maxLen from by unfold maxLen; omega)
        have Hlen2 := hid (show ((allParts K).length + c) * 16 ≤ 140737488355328 from by omega)
        have Hlen3 := hid (show K.length + 1 ≤ maxLen from by unfold maxLen; omega)
        have Hlen4 := hid (show (K.length + 1) * 16 ≤ 140737488355328 from by omega)
        go_upto_region 16 with (go_at_call 47; (with_reducible refine (Hcl.out _).mono ?_); rintro e w8 ⟨rfl, rfl⟩)
        go_upto_region 17 with (first
          | (at_builtin; refine wpList_append_lies _ rfl (.tmp 88) (.tmp 89) 64 rfl w2.heap.size 9 i0 (.string ByteArray.empty) 1 16 Tryd.underlying64 hi hz0 hz1 hz2 rfl (by decide) (.slice x1 (allParts K).length y1) _ _ (by simp [Act.eval]) HA7.out.h1 ⟨gF, 0, none⟩ c cF (txts (frs ep (allParts K).length (parts s))) (by simp [Act.eval]) (by rw [txts_length, frs_length, parts_length, hc, Nat.mul_one]) (fun j u hu => by rw [zero_add_at]; exact Hc7.out j u hu) (txts_one _) (by omega) Hlen1.out Hlen2.out HA7.out.hB.size w7.heap.size rfl ?_; intro g8 cap8 w8 hO8 hG8 hg8 hl8; have HA8 := hid (HA7.out.row1 (by decide) hc hO8 hG8 hg8); clear hO8 hG8 hg8 hl8)
          | (at_builtin; refine wpList_append_lies _ rfl (.tmp 91) (.tmp 93) 64 rfl w2.heap.size 9 i0 (.string ByteArray.empty) 1 16 Tryd.underlying64 hi hz0 hz1 hz2 rfl (by decide) (.slice x2 K.length y2) _ _ (by simp [Act.eval]) (HA8.out.below ((Below.refl _ w8).alloc (Nat.le_refl _) (.cells #[.string (S s)] 9))).h2 ⟨w8.heap.size, 0, none⟩ 1 1 [.string (S s)] (by simp [Act.eval]) rfl (news_one (by simp)) (one_one rfl) (by decide) Hlen3.out Hlen4.out (by have := HA8.out.hB.size; simp; omega) (w8.heap.size + 1) (by simp) ?_; intro g9 cap9 w9 hO9 hG9 hg9 hl9; have HA9 := hid ((HA8.out.below ((Below.refl _ w8).alloc (Nat.le_refl _) (.cells #[.string (S s)] 9))).row2 (by decide) hO9 hG9 (hg9.imp id (fun e => by rw [e]; simp))); clear hO9 hG9 hg9 hl9))
        have hal : (allParts (K ++ [s])).length = (allParts K).length + c := by rw [allParts_snoc, List.length_append, parts_length, hc]
        have hlf := ring_left r w2.heap.size f m ((m : Int) - (((allParts K).length : Int) + (c : Int))) ep ((allParts K).length + c) w9 (by have h := HA9.out.hJ.hR; rw [hal] at h; exact h) (by omega) (by omega) (by omega)
        have Hlf := hid hlf
        have Hal := hid hal
        clear hlf hal
        go_wp2_with (go_at_call 48; (with_reducible refine Hlf.out.mono ?_); rintro e w10 ⟨rfl, hB10⟩; have HA10 := hid (HA9.out.below hB10); clear hB10)
        refine ⟨⟨q + 1, K ++ [s], by omega, by go_num, by simp; omega, HA10.out⟩, by simp [lenOf0]; omega⟩
      · have d2 : decide (((allParts K).length : Int) + (c : Int) ≤ (m : Int)) = false := by simp; omega
        have hfit : ¬ fits (m : Int) (allParts K).length s := by unfold fits; rw [hc]; omega
        have hap := lappend_no r f m ep (allParts K).length (f + (allParts K).length) s w6 HA6.out.hJ hon (by omega) (by omega) (by omega) (by omega) (by omega) hep hfit
        have Hap := hid hap
        have e32 : (Dsk.new 32).n = 32 := rfl
        clear hap hfit
        go_upto_region 12 with fail
        go_upto_region 13 with (go_at_call 46; (with_reducible refine Hap.out.mono ?_); rintro e w7 ⟨rfl, hJ7, hF7⟩)
        have HA7 := hid (HA6.out.idle (by decide) hJ7 hF7)
        clear hJ7 hF7 hc6 hg6 hl6 Hap
        have hlf := ring_left r w2.heap.size f m ((m : Int) - ((allParts K).length : Int)) ep (allParts K).length w7 HA7.out.hJ.hR (by omega) (by omega) (by omega)
        have Hlf := hid hlf
        clear hlf
        go_wp2_with (first | (go_at_call 47; (with_reducible refine (Hcl.out _).mono ?_); rintro e w8 ⟨rfl, rfl⟩) | (go_at_call 48; (with_reducible refine Hlf.out.mono ?_); rintro e w10 ⟨rfl, hB10⟩; have HA10 := hid (HA7.out.below hB10); clear hB10))
        refine ⟨⟨q + 1, K, by omega, by go_num, by omega, HA10.out⟩, by simp [lenOf0]; omega⟩
    · have d1 : decide ((q : Int) < (L.length : Int)) = false := by simp; omega
      have HT1 := hid (TRow.own (R := frs ep 0 (allParts K)) (by have h := HA.out.h1; rw [frs_length]; exact h))
      go_upto_region 20 with fail
      go_wp2_with fail
      go_loopw [106] (fun iv wx => ∃ (q : Nat), q ≤ (allParts K).length ∧ iv = .int .i64 q ∧ TRow wx x1 (frs ep 0 (allParts K)) ∧ AppsAt w2 wx w2.heap.size r w2.heap.size g f (Dsk.new 32) m ep K K K (.slice x1 (allParts K).length y1) (.slice x2 K.length y2)) (fun iv _ => (allParts K).length - lenOf0 iv)
      case atStart => exact ⟨0, Nat.zero_le _, rfl, HT1.out, HA.out⟩
      case round =>
        clear HA HT1
        obtain ⟨q, hq, rfl, hTx, hAx⟩ := hrel
        have HA := hid hAx
        have HT := hid hTx
        clear hAx hTx
        by_cases hqk : q < (allParts K).length
        · have d1 : decide ((q : Int) < ((allParts K).length : Int)) = true := by simp; omega
          obtain ⟨xd, hxd, k0⟩ := HT.out.at (j := q) (by rw [frs_length]; exact hqk)
          subst hxd
          have hnow : ((Dsk.new 32).puts f (frs ep 0 (allParts K))).now (f + q) = (frs ep 0 (allParts K))[q]'(by rw [frs_length]; exact hqk) := by
            rw [Dsk.puts_now, dif_pos ⟨by omega, by rw [frs_length]; omega⟩]
            simp only [Nat.add_sub_cancel_left]
          generalize (frs ep 0 (allParts K))[q]'(by rw [frs_length]; exact hqk) = s at *
          have hon := (Dsk.on.new 32).puts f (frs ep 0 (allParts K))
          have hnn : ((Dsk.new 32).puts f (frs ep 0 (allParts K))).n = 32 := by rw [Dsk.puts_n]; rfl
          have hrd := read_jour f q s wr HA.out.hJ hon (by omega) hnow
          have Hrd := hid hrd
          have est : ((S s).toList == (S s).toList) = true := by simp
          clear hrd hnow hon
          go_wp2_with (go_at_call 49; (with_reducible refine Hrd.out.mono ?_); rintro e w6 ⟨rfl, hB6⟩; have HA6 := hid (HA.out.below hB6); have HT6 := hid (HT.out.below hB6); clear hB6)
          exact ⟨⟨q + 1, by omega, by go_num, HT6.out, HA6.out⟩, by simp [lenOf0]; omega⟩
        · have d1 : decide ((q : Int) < ((allParts K).length : Int)) = false := by simp; omega
          have hon := (Dsk.on.new 32).puts f (frs ep 0 (allParts K))
          have hnn : ((Dsk.new 32).puts f (frs ep 0 (allParts K))).n = 32 := by rw [Dsk.puts_n]; rfl
          clear HT
          go_wp2_with fail
          (with_reducible refine (new_20 _ f m ep n wr hm).mono ?_)
          rintro e w6 ⟨rfl, hR6, hB6, hl6⟩
          have HA6 := hid (HA.out.below hB6)
          have HR6 := hid hR6
          clear hR6 hB6 HA
          go_wp2_with fail
          have eK : scan ep 0 (secL ((Dsk.new 32).puts f (frs ep 0 (allParts K))) f m) [] = K := scan_new 32 f m ep K hqm (by omega) hep
          have hsc := lscan_any wr.heap.size K w6 (fun wy hBy => (ring_scan wr.heap.size f m ep 0 wy (HR6.out.below hBy) (HA6.out.hJ.hD.below hBy) hon (by omega) hep).mono fun e w' h => by rw [eK] at h; exact h)
          have Hsc := hid hsc
          clear hsc eK
          (with_reducible refine Hsc.out.mono ?_)
          rintro e w7 ⟨a7, c7, rfl, hO7, hB7⟩
          have HT7 := hid (TRow.own hO7)
          have HA7 := hid (HA6.out.below hB7)
          clear hO7 hB7 HA6 Hsc
          go_wp2_with fail
          (with_reducible refine (new_20 _ f m ot n w7 hm).mono ?_)
          rintro e w8 ⟨rfl, hR8, hB8, hl8⟩
          have HA8 := hid (HA7.out.below hB8)
          have HT8 := hid (HT7.out.below hB8)
          have HR8 := hid hR8
          clear hR8 hB8 HA7 HT7
          go_wp2_with fail
          obtain ⟨R2, hR2⟩ : ∃ R2, scan ot 0 (secL ((Dsk.new 32).puts f (frs ep 0 (allParts K))) f m) [] = R2 := ⟨_, rfl⟩
          have hsc := lscan_any w7.heap.size R2 w8 (fun wy hBy => (ring_scan w7.heap.size f m ot 0 wy (HR8.out.below hBy) (HA8.out.hJ.hD.below hBy) hon (by omega) hot).mono fun e w' h => by rw [hR2] at h; exact h)
          have hR2n : ep ≠ ot → R2.length = 0 := fun hne => by
            rw [← hR2, scan_other 32 f m ep ot (allParts K) hqm (allParts_le K) hep hot hne]
            rfl
          have Hsc := hid hsc
          clear hsc hR2
          (with_reducible refine Hsc.out.mono ?_)
          rintro e w9 ⟨a9, c9, rfl, hO9, hB9⟩
          have HA9 := hid (HA8.out.below hB9)
          have HT9 := hid (HT8.out.below hB9)
          have HTK := hid (TRow.own HA9.out.h2)
          clear hO9 hB9 HA8 HT8 Hsc
          have hsm := same_any K K a7 x2 c7 y2 w9 HT9.out HTK.out (by omega) (by omega)
          rw [decide_eq_true rfl] at hsm
          have Hsm := hid hsm
          clear hsm
          by_cases hne : ep = ot
          · subst hne
            have de : decide ((ep : Int) = (ep : Int)) = true := by simp
            clear hR2n
            go_wp2_with (go_at_call 51; (with_reducible refine Hsm.out.mono ?_); rintro e w10 ⟨rfl, hB10⟩; have HA10 := hid (HA9.out.below hB10); clear hB10)
            go_ret
            exact ⟨rfl, HB2.out.trans (HA10.out.hB.mono hwb)⟩
          · have de : decide ((ep : Int) = (ot : Int)) = false := by simp; omega
            have hR20 := hR2n hne
            rw [hR20]
            clear hR2n
            go_wp2_with (go_at_call 51; (with_reducible refine Hsm.out.mono ?_); rintro e w10 ⟨rfl, hB10⟩; have HA10 := hid (HA9.out.below hB10); clear hB10)
            go_ret
            exact ⟨rfl, HB2.out.trans (HA10.out.hB.mono hwb)⟩
theorem walkRingAppends (w : World) (fo n : Int) (ep ot : Int) (a : Option Addr) (len cap : Nat) (T : Nat → List UInt8) (_hf : (Lit.int .i64 fo).wf = true) (_hn : (Lit.int .i64 n).wf = true) (he : (Lit.int .u32 ep).wf = true) (ho : (Lit.int .u32 ot).wf = true) (h : SliceOf w a len cap (fun i => .string (S (T i))) ∧ ∀ i, i < len → (T i).length ≤ maxLen) :
    Calls Tryd.prog 8 #[.int .i64 fo, .int .i64 n, .int .u32 ep, .int .u32 ot, .slice a len cap] w fun e w' => e = .returned (.bool true) ∧ Below w.heap.size w w' := by
  have u32 : ∀ {x : Int}, (Lit.int .u32 x).wf = true → ∃ k : Nat, x = (k : Int) ∧ k < 4294967296 := fun {x} h => by
    have h : 0 ≤ x ∧ x ≤ 4294967295 := by simpa [Lit.wf, IntKind.min, IntKind.max, IntKind.signed, IntKind.bits] using h
    exact ⟨x.toNat, by omega, by omega⟩
  obtain ⟨ep', rfl, he'⟩ := u32 he
  obtain ⟨ot', rfl, ho'⟩ := u32 ho
  exact ringappends_any fo n ep' ot' a len cap T w h.1 he' ho'
end Go.Proofs.YtkmbbgnbklklcaaDoor
