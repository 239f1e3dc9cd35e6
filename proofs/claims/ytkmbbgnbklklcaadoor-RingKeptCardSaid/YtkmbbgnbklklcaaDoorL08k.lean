/-
  Law 08: RingKept: its walk.
-/
import Derived.Test.YtkmbbgnbklklcaaDoorL08j
namespace Go.Proofs.YtkmbbgnbklklcaaDoor
open Go.RowKit

theorem and15n (z : Int) : ∃ k : Nat, k ≤ 15 ∧ bits .and .i64 z 15 = (k : Int) := by
  have h : (BitVec.ofInt 64 z &&& BitVec.ofInt 64 ((15 : Nat) : Int)).toNat ≤ 15 := by
    rw [BitVec.toNat_and]
    refine Nat.le_trans Nat.and_le_right ?_
    simp
  refine ⟨_, h, ?_⟩
  show IntKind.i64.wrap (((BitVec.ofInt 64 z &&& BitVec.ofInt 64 ((15 : Nat) : Int)).toNat : Nat) : Int) = _
  rw [IntKind.wrap_i64]
  omega
theorem or1n (z : Int) : ∃ k : Nat, k < 4294967296 ∧ k % 2 = 1 ∧ bits .or .u32 z 1 = (k : Int) := by
  have hlt := (BitVec.ofInt 32 z ||| BitVec.ofInt 32 ((1 : Nat) : Int)).isLt
  refine ⟨(BitVec.ofInt 32 z ||| BitVec.ofInt 32 ((1 : Nat) : Int)).toNat, by omega, ?_, ?_⟩
  · rw [BitVec.toNat_or, Nat.mod_two_eq_one_iff_testBit_zero, Nat.testBit_or]
    simp
  · show IntKind.u32.wrap (((BitVec.ofInt 32 z ||| BitVec.ofInt 32 ((1 : Nat) : Int)).toNat : Nat) : Int) = _
    rw [IntKind.wrap_u32]
    omega
theorem new_2e (b k : Nat) (e9 : Int) (w : World) (h : e9 = (k : Int)) : Calls Tryd.prog 44 #[.pointer (some ⟨b, 0, none⟩), .int .i64 2, .int .i64 20, .int .u32 e9] w fun e w' => e = .returned (.pointer (some ⟨w.heap.size, 0, none⟩)) ∧ RingAt w' w.heap.size b 2 20 k 0 ∧ Below w.heap.size w w' ∧ w.heap.size < w'.heap.size := by
  subst h
  exact ring_new b 2 20 20 k w (by decide)
theorem cuts_of {w wr : World} {b g : Nat} {a : Option Addr} {n cap : Nat} {E : Nat → Int} (h : SliceOf w a n cap (fun i => .int .i64 (E i))) (hB : Below w.heap.size w wr) (hb : w.heap.size ≤ b) (hg : w.heap.size ≤ g) : CutsAt wr b g a n E := fun h0 => by
  rcases h.reads with ⟨_, h1⟩ | ⟨ad, h1, h2⟩
  · omega
  · have hlt := World.block_lt_of_cell? _ _ (h2 0 h0)
    rw [add_block] at hlt
    exact ⟨ad, h1, by omega, by omega, by have := hB.size; omega, fun k hk => (hB.cell (p := ad.add k) (by rw [add_block]; exact hlt)).trans (h2 k hk)⟩
theorem TRow.take {w : World} {a : Option Addr} {R : List (List UInt8)} (h : TRow w a R) (j : Nat) : TRow w a (R.take j) := by
  rcases h with h | ⟨ad, h1, h2⟩
  · exact .inl (by rw [h]; simp)
  · refine .inr ⟨ad, h1, fun i s hi => h2 i s ?_⟩
    rw [List.getElem?_take] at hi
    split at hi
    · exact hi
    · cases hi
theorem few_len (T : Nat → List UInt8) (len : Nat) : (fewL T len).length ≤ 12 ∧ ∀ s ∈ fewL T len, s.length ≤ 150 := by
  refine ⟨by simp [fewL]; omega, fun s hs => ?_⟩
  simp only [fewL, List.mem_map] at hs
  obtain ⟨j, _, rfl⟩ := hs
  simp; omega
theorem own_cap {w : World} {base e n cp : Nat} {ao : Option Addr} {xs : List Value} (h : w.ownsRow base e 1 (.slice ao n cp) n xs) : n ≤ cp ∧ cp ≤ maxLen := by
  rcases h.2 with ⟨hv, h0⟩ | ⟨g', cap, cur, hv, _, _, h1, h2, _⟩
  · injection hv with _ _ h3
    subst h3
    exact ⟨by omega, by decide⟩
  · injection hv with _ _ h3
    subst h3
    exact ⟨h1, h2⟩

set_option maxRecDepth 100000 in
set_option maxHeartbeats 4000000 in
theorem ringkept_any (a1 : Option Addr) (len1 cap1 : Nat) (T1 : Nat → List UInt8) (a2 : Option Addr) (len2 cap2 : Nat) (T2 : Nat → List UInt8) (sy : Int) (ep0 : Int) (a3 : Option Addr) (len3 cap3 : Nat) (cs : Nat → Int) (w : World) (hS1 : SliceOf w a1 len1 cap1 (fun i => .string (S (T1 i)))) (hS2 : SliceOf w a2 len2 cap2 (fun i => .string (S (T2 i)))) (hS3 : SliceOf w a3 len3 cap3 (fun i => .int .i64 (cs i))) :
    Calls Tryd.prog 11 #[.slice a1 len1 cap1, .slice a2 len2 cap2, .int .i64 sy, .int .u32 ep0, .slice a3 len3 cap3] w fun e w' => e = .returned (.bool true) ∧ Below w.heap.size w w' := by
  obtain ⟨i0, hi, hz0, hz1, hz2⟩ := info_parts Tryd.infoStr
  obtain ⟨ep, hep, hodd, hor⟩ := or1n ep0
  obtain ⟨k15, hk15, h15⟩ := and15n sy
  have HS1 := hid hS1
  have HS2 := hid hS2
  have HS3 := hid hS3
  obtain ⟨L1, hL1⟩ : ∃ L, fewL T1 len1 = L := ⟨_, rfl⟩
  obtain ⟨L2, hL2⟩ : ∃ L, fewL T2 len2 = L := ⟨_, rfl⟩
  have hf1 := few_len T1 len1
  have hf2 := few_len T2 len2
  rw [hL1] at hf1
  rw [hL2] at hf2
  obtain ⟨hL1l, hL1s⟩ := hf1
  obtain ⟨hL2l, hL2s⟩ := hf2
  have HL1 := hid hL1
  have HL2 := hid hL2
  have HL1s := hid hL1s
  have HL2s := hid hL2s
  have H15 := hid h15
  have eu : IntKind.u32.wrap ((ep : Int) - 1) = (ep : Int) - 1 := by rw [IntKind.wrap_u32]; omega
  clear hS1 hS2 hS3 hL1 hL2 hL1s hL2s h15
  go_enter Tryd.func11, Tryd.ntmps11
  go_wp2_with fail
  refine (awake08 w).mono ?_
  rintro e w1 ⟨rfl, hB1⟩
  have HB1 := hid hB1
  clear hB1
  go_wp2_with fail
  (with_reducible refine (disk_new 24 24 w1 (by decide)).mono ?_)
  rintro e w2 ⟨rfl, g, hD2, hg2, hB2⟩
  have HD2 := hid hD2
  have HB2 := hid hB2
  have hb2 := hD2.lt
  have hgl := hD2.hg
  clear hD2 hB2
  go_wp2_with fail
  (with_reducible refine (new_2e _ (ep - 1) ((ep : Int) - 1) w2 (by omega)).mono ?_)
  rintro e w3 ⟨rfl, hR3, hB3, hl3⟩
  have hw12 := HB2.out.size
  have HB3 := hid (HB2.out.trans (hB3.mono hw12))
  have HR3 := hid hR3
  have HD3 := hid (HD2.out.below hB3)
  clear hR3 hB3 HD2
  go_wp2_with fail
  have hfew := few_any a1 len1 cap1 T1 w3 (slice_below HS1.out (HB1.out.trans (HB3.out.mono HB1.out.size)))
  rw [HL1.out] at hfew
  have Hfew := hid hfew
  clear hfew
  (with_reducible refine Hfew.out.mono ?_)
  rintro e w4 ⟨aL, cL, rfl, hO4, hB4⟩
  have hT4 : Trio w1 w4 w1.heap.size w2.heap.size w1.heap.size g ((Dsk.new 24).puts 2 (frs (ep - 1) 0 (allParts []))) (ep - 1) (allParts []).length (.slice aL L1.length cL) (.slice none 0 0) L1 [] :=
    ⟨⟨HD3.out.below hB4, by have := hB4.size; omega, by rw [Dsk.puts_n]; decide, own_weak hO4 HB3.out.size, World.ownsRow_nil _ _ _ _, fun k hk e => (by cases e), HB3.out.trans (hB4.mono HB3.out.size), Nat.le_refl _⟩, HR3.out.below hB4, hw12⟩
  have HT4 := hid hT4
  clear hT4 hO4 hB4 Hfew HR3 HD3
  go_wp2_with fail
  go_loopw [38] (fun iv wr => ∃ (q : Nat) (K : List (List UInt8)), q ≤ L1.length ∧ iv = .int .i64 q ∧ (allParts K).length ≤ 20 ∧ Trio w1 wr w1.heap.size w2.heap.size w1.heap.size g ((Dsk.new 24).puts 2 (frs (ep - 1) 0 (allParts K))) (ep - 1) (allParts K).length (.slice aL L1.length cL) (.slice none 0 0) L1 []) (fun iv _ => L1.length - lenOf0 iv)
  case atStart => exact ⟨0, [], Nat.zero_le _, rfl, by simp [allParts], HT4.out⟩
  case round =>
    clear HT4
    obtain ⟨q, K, hq, rfl, hm, hT⟩ := hrel
    have HT := hid hT
    clear hT
    have hon := (Dsk.on.new 24).puts 2 (frs (ep - 1) 0 (allParts K))
    have hnn : ((Dsk.new 24).puts 2 (frs (ep - 1) 0 (allParts K))).n = 24 := by rw [Dsk.puts_n]; rfl
    have e24 : (Dsk.new 24).n = 24 := rfl
    have Hon := hid hon
    by_cases hql : q < L1.length
    · have d1 : decide ((q : Int) < (L1.length : Int)) = true := by simp; omega
      obtain ⟨ad, had, k0⟩ := (TRow.own HT.out.duo.h1).at hql
      subst had
      have hs150 := HL1s.out L1[q] (List.getElem_mem hql)
      generalize L1[q] = s at *
      by_cases hfit : fits 20 (allParts K).length s
      · have hap := lappend_yes w2.heap.size 2 20 (ep - 1) (allParts K).length (2 + (allParts K).length) s wr HT.out.jour hon (by decide) (by omega) (by omega) (by omega) (by omega) (by omega) hfit
        have Hap := hid hap
        have Hfit := hid hfit
        clear hap hfit hon
        go_wp2_with (go_at_call 46; (with_reducible refine Hap.out.mono ?_); rintro e w6 ⟨rfl, hJ6, hF6⟩; have HT6 := hid (HT.out.after hJ6 hF6 (by rw [Dsk.puts_n]; omega)); clear hJ6 hF6)
        have hcs : cost s.length ≤ 20 - (allParts K).length := by have h := Hfit.out; unfold fits at h; omega
        have hal : (allParts (K ++ [s])).length = (allParts K).length + cost s.length := by rw [allParts_snoc, List.length_append, parts_length]
        refine ⟨⟨q + 1, K ++ [s], by omega, by go_num, by omega, ?_⟩, by simp [lenOf0]; omega⟩
        rw [hal, allParts_snoc, frs_append, Dsk.puts_append, frs_length, Nat.zero_add]
        exact HT6.out
      · have hap := lappend_no w2.heap.size 2 20 (ep - 1) (allParts K).length (2 + (allParts K).length) s wr HT.out.jour hon (by decide) (by omega) (by omega) (by omega) (by omega) (by omega) hfit
        have Hap := hid hap
        clear hap hfit hon
        go_wp2_with (go_at_call 46; (with_reducible refine Hap.out.mono ?_); rintro e w6 ⟨rfl, hJ6, hF6⟩; have HT6 := hid (HT.out.after hJ6 hF6 (by omega)); clear hJ6 hF6)
        exact ⟨⟨q + 1, K, by omega, by go_num, hm, HT6.out⟩, by simp [lenOf0]; omega⟩
    · have d1 : decide ((q : Int) < (L1.length : Int)) = false := by simp; omega
      have hsy := sync_on wr HT.out.duo.hD HT.out.duo.hg hon
      have Hsy := hid hsy
      clear hsy hon
      go_upto_region 15 with (go_at_call 55; (with_reducible refine Hsy.out.mono ?_); rintro e w6 ⟨rfl, hE6⟩; have HT6 := hid (HT.out.disk hE6 (by show 0 < ((Dsk.new 24).puts 2 _).n; omega)); clear hE6)
      obtain ⟨O, hK0, hOld⟩ := KeptD.start ep K
      have HK0 := hid hK0
      have HOld := hid hOld
      clear hK0 hOld HT
      generalize ((Dsk.new 24).puts 2 (frs (ep - 1) 0 (allParts K))).sunk = D at *
      go_wp2_with fail
      (with_reducible refine (new_2e _ ep (ep : Int) w6 rfl).mono ?_)
      rintro e w7 ⟨rfl, hR7, hB7, hl7⟩
      have HT7 := hid (HT6.out.below hB7)
      have HR7 := hid hR7
      have hw16 := HT6.out.duo.hB.size
      clear hR7 hB7 HT6
      generalize w6.heap.size = r at *
      go_wp2_with fail
      have hN7 := HT7.out.duo.next
      have hb8 : Below w7.heap.size w7 (w7.alloc (.cells #[] 9)) := (Below.refl _ _).alloc (Nat.le_refl _) _
      have hR8 := HR7.out.below hb8
      have hsz8 : (w7.alloc (.cells #[] 9)).heap.size = w7.heap.size + 1 := by simp
      try change Calls _ _ _ (w7.alloc (.cells #[] 9)) _
      generalize w7.alloc (.cells #[] 9) = w8 at *
      have HN8 := hid hN7
      have HR8 := hid hR8
      clear hN7 hR8 hb8 HT7 HR7
      have hfew := few_any a2 len2 cap2 T2 w8 (slice_below HS2.out (HB1.out.trans (HN8.out.hB.mono HB1.out.size)))
      rw [HL2.out] at hfew
      have Hfew := hid hfew
      clear hfew
      (with_reducible refine Hfew.out.mono ?_)
      rintro e w9 ⟨aM, cM, rfl, hO9, hB9⟩
      have hT9 : Trio w1 w9 w1.heap.size r w1.heap.size g D ep (allParts []).length (.slice aM L2.length cM) (.slice (some ⟨w7.heap.size, 0, none⟩) ([] : List (List UInt8)).length 0) L2 [] :=
        ⟨⟨HN8.out.hD.below hB9, by have := hB9.size; have := HN8.out.hg; omega, HN8.out.hn, own_weak hO9 HN8.out.hB.size, own_below HN8.out.h2 hB9, (fun k hk e => by injection e with e; simp only at e; have := (hO9.lt k hk).1; omega), HN8.out.hB.trans (hB9.mono HN8.out.hB.size), Nat.le_refl _⟩, HR8.out.below hB9, hw16⟩
      have HT9 := hid hT9
      clear hT9 hO9 hB9 Hfew HN8 HR8
      go_wp2_with fail
      go_loopw [18, 19, 61] (fun v2 sv iv wr => ∃ (q : Nat) (K : List (List UInt8)) (k0 : Nat) (D : Dsk) (gk cp : Nat), q ≤ L2.length ∧ iv = .int .i64 q ∧ sv = .int .i64 k0 ∧ K.length ≤ q ∧ v2 = .slice (some ⟨gk, 0, none⟩) K.length cp ∧ KeptD D ep O K k0 ∧ Trio w1 wr w1.heap.size r w1.heap.size g D ep (allParts K).length (.slice aM L2.length cM) (.slice (some ⟨gk, 0, none⟩) K.length cp) L2 K) (fun _ _ iv _ => L2.length - lenOf0 iv)
      case atStart => exact ⟨0, [], 0, D, _, _, Nat.zero_le _, rfl, rfl, Nat.le_refl _, rfl, HK0.out, HT9.out⟩
      case round =>
        clear HT9 HK0
        obtain ⟨q, K, k0, D, gk, cp, hq, rfl, rfl, hKq, rfl, hK, hT⟩ := hrel
        have HT := hid hT
        have HK := hid hK
        have hKm := hK.hm
        have hKn := hK.n
        have hKk := hK.hk
        clear hT hK
        by_cases hql : q < L2.length
        · have d1 : decide ((q : Int) < (L2.length : Int)) = true := by simp; omega
          obtain ⟨ad, had, kz⟩ := (TRow.own HT.out.duo.h1).at hql
          subst had
          have hs150 := HL2s.out L2[q] (List.getElem_mem hql)
          generalize L2[q] = s at *
          have Hlen1 := hid (show K.length + 1 ≤ maxLen from by unfold maxLen; omega)
          have Hlen2 := hid (show (K.length + 1) * 16 ≤ 140737488355328 from by omega)
          by_cases hfit : fits 20 (allParts K).length s
          · have hap := lappend_yes r 2 20 ep (allParts K).length (2 + (allParts K).length) s wr HT.out.jour HK.out.on (by decide) (by omega) (by omega) (by omega) (by omega) (by omega) hfit
            have Hap := hid hap
            have hcs : (allParts K).length + cost s.length ≤ 20 := by unfold fits at hfit; omega
            have HK6 := hid (HK.out.put s hcs)
            clear hap hfit hcs
            go_upto_region 24 with (go_at_call 46; (with_reducible refine Hap.out.mono ?_); rintro e w6 ⟨rfl, hJ6, hF6⟩; have HT6 := hid (HT.out.after hJ6 hF6 (by rw [Dsk.puts_n]; omega)); clear hJ6 hF6)
            have hal : (allParts (K ++ [s])).length = (allParts K).length + cost s.length := by rw [allParts_snoc, List.length_append, parts_length]
            have HT6' := HT6
            rw [← hal] at HT6'
            clear HT6 HT HK Hap hal
            go_upto_region 26 with (at_builtin; refine wpList_append_lies _ rfl (.tmp 75) (.tmp 77) 64 rfl w1.heap.size 9 i0 (.string ByteArray.empty) 1 16 Tryd.underlying64 hi hz0 hz1 hz2 rfl (by decide) (.slice (some ⟨gk, 0, none⟩) K.length cp) _ _ (by simp [Act.eval]) (HT6'.out.below ((Below.refl _ w6).alloc (Nat.le_refl _) (.cells #[.string (S s)] 9))).duo.h2 ⟨w6.heap.size, 0, none⟩ 1 1 (txts [s]) (by simp [Act.eval]) rfl (news_one (by simp)) (txts_one _) (by decide) Hlen1.out Hlen2.out (by have := HT6'.out.duo.hB.size; simp; omega) (w6.heap.size + 1) (by simp) ?_; intro g8 cap8 w8 hO8 hG8 hg8 hl8; have HT8 := hid ((HT6'.out.below ((Below.refl _ w6).alloc (Nat.le_refl _) (.cells #[.string (S s)] 9))).grow (R3 := [s]) (c := 1) rfl hO8 hG8 (hg8.imp id (fun e => by rw [e]; simp))); clear hO8 hG8 hg8 hl8)
            have hkl : (K ++ [s]).length = K.length + 1 := by simp
            have HT8' := HT8
            rw [← hkl] at HT8'
            by_cases hq15 : q = k15
            · have d5 : decide ((q : Int) = (k15 : Int)) = true := by simp; omega
              have h15 := H15.out
              have hsy := sync_on w8 HT8'.out.duo.hD HT8'.out.duo.hg HK6.out.on
              have Hsy := hid hsy
              clear hsy
              go_wp2_with (go_at_call 55; (with_reducible refine Hsy.out.mono ?_); rintro e w9 ⟨rfl, hE9⟩; have HT9 := hid (HT8'.out.disk hE9 HT8'.out.duo.hn); clear hE9)
              refine ⟨⟨q + 1, K ++ [s], K.length + 1, _, g8, cap8, by omega, by go_num, rfl, by (first | omega | (simp; omega)), by rw [hkl], ?_, HT9.out⟩, by simp [lenOf0]; omega⟩
              have h := HK6.out.sunk
              try rw [List.length_append, List.length_singleton] at h
              exact h
            · have d5 : decide ((q : Int) = (k15 : Int)) = false := by simp; omega
              have h15 := H15.out
              go_wp2_with fail
              exact ⟨⟨q + 1, K ++ [s], k0, _, g8, cap8, by omega, by go_num, rfl, by (first | omega | (simp; omega)), by rw [hkl], HK6.out, HT8'.out⟩, by simp [lenOf0]; omega⟩
          · have hap := lappend_no r 2 20 ep (allParts K).length (2 + (allParts K).length) s wr HT.out.jour HK.out.on (by decide) (by omega) (by omega) (by omega) (by omega) (by omega) hfit
            have Hap := hid hap
            clear hap hfit
            go_upto_region 26 with (go_at_call 46; (with_reducible refine Hap.out.mono ?_); rintro e w6 ⟨rfl, hJ6, hF6⟩; have HT6 := hid (HT.out.after hJ6 hF6 (by omega)); clear hJ6 hF6)
            clear HT Hap
            by_cases hq15 : q = k15
            · have d5 : decide ((q : Int) = (k15 : Int)) = true := by simp; omega
              have h15 := H15.out
              have hsy := sync_on w6 HT6.out.duo.hD HT6.out.duo.hg HK.out.on
              have Hsy := hid hsy
              clear hsy
              go_wp2_with (go_at_call 55; (with_reducible refine Hsy.out.mono ?_); rintro e w9 ⟨rfl, hE9⟩; have HT9 := hid (HT6.out.disk hE9 HT6.out.duo.hn); clear hE9)
              refine ⟨⟨q + 1, K, K.length, _, gk, cp, by omega, by go_num, rfl, by (first | omega | (simp; omega)), rfl, ?_, HT9.out⟩, by simp [lenOf0]; omega⟩
              have h := HK.out.sunk
              try rw [List.length_append, List.length_singleton] at h
              exact h
            · have d5 : decide ((q : Int) = (k15 : Int)) = false := by simp; omega
              have h15 := H15.out
              go_wp2_with fail
              exact ⟨⟨q + 1, K, k0, _, gk, cp, by omega, by go_num, rfl, by (first | omega | (simp; omega)), rfl, HK.out, HT6.out⟩, by simp [lenOf0]; omega⟩
        · have d1 : decide ((q : Int) < (L2.length : Int)) = false := by simp; omega
          have hC := cuts_of (b := w1.heap.size) (g := g) HS3.out (HB1.out.trans (HT.out.duo.hB.mono HB1.out.size)) HB1.out.size (by have := HB1.out.size; omega)
          have hcr := disk_crash wr HT.out.duo.hD a3 len3 cap3 cs hC
          have Hcr := hid hcr
          clear hC hcr
          go_wp2_with fail
          (with_reducible refine Hcr.out.mono ?_)
          rintro e w6 ⟨rfl, hE6⟩
          have hcn : (D.crash len3 cs).n = 24 := (tearN_n D (cutAt len3 cs) (loose D) _).trans hKn
          have HT6 := hid (HT.out.disk hE6 (by omega))
          obtain ⟨j, hj0, hj1, hjs⟩ := HK.out.crash hodd hep HOld.out len3 cs
          have Hjs := hid hjs
          clear hE6 HT Hcr hjs
          go_wp2_with fail
          (with_reducible refine (new_2e _ ep (ep : Int) w6 rfl).mono ?_)
          rintro e w7 ⟨rfl, hR7, hB7, hl7⟩
          have HT7 := hid (HT6.out.below hB7)
          have HR7 := hid hR7
          clear hR7 hB7 HT6
          go_wp2_with fail
          have hsc := lscan_any w6.heap.size (K.take j) w7 (fun wy hBy => (ring_scan w6.heap.size 2 20 ep 0 wy (HR7.out.below hBy) (HT7.out.duo.hD.below hBy) ⟨rfl, rfl⟩ (by omega) hep).mono fun e w' h => by rw [Hjs.out] at h; exact h)
          have hGl : (K.take j).length = j := by rw [List.length_take]; omega
          have Hsc := hid hsc
          clear hsc
          (with_reducible refine Hsc.out.mono ?_)
          rintro e w8 ⟨a8, c8, rfl, hO8, hB8⟩
          have hTG := TRow.own hO8
          have HT8 := hid (HT7.out.below hB8)
          have hcap := own_cap HT8.out.duo.h2
          have hTK := TRow.take (TRow.own HT8.out.duo.h2) j
          have hsm := same_any (K.take j) (K.take j) a8 (some ⟨gk, 0, none⟩) c8 cp w8 hTG hTK (by omega) (by omega)
          rw [decide_eq_true rfl, hGl] at hsm
          have Hsm := hid hsm
          obtain ⟨hcp1, hcp2⟩ := hcap
          unfold maxLen at hcp2
          rw [hGl]
          clear hsm hO8 hB8 hTG hTK Hsc HT7 hGl HK
          have d6 : decide ((k0 : Int) ≤ (j : Int)) = true := by simp; omega
          have d7 : decide ((j : Int) ≤ (K.length : Int)) = true := by simp; omega
          have hmin : min (j : Int) (K.length : Int) = (j : Int) := by omega
          have hjc : j ≤ cp := by omega
          go_wp2_with (go_at_call 51; (with_reducible refine Hsm.out.mono ?_); rintro e w9 ⟨rfl, hB9⟩; have HT9 := hid (HT8.out.below hB9); clear hB9)
          go_ret
          exact ⟨rfl, HB1.out.trans (HT9.out.duo.hB.mono HB1.out.size)⟩
theorem walkRingKept (w : World) (a1 : Option Addr) (len1 cap1 : Nat) (T1 : Nat → List UInt8) (a2 : Option Addr) (len2 cap2 : Nat) (T2 : Nat → List UInt8) (sy ep : Int) (a3 : Option Addr) (len3 cap3 : Nat) (cs : Nat → Int) (h1 : SliceOf w a1 len1 cap1 (fun i => .string (S (T1 i))) ∧ ∀ i, i < len1 → (T1 i).length ≤ maxLen) (h2 : SliceOf w a2 len2 cap2 (fun i => .string (S (T2 i))) ∧ ∀ i, i < len2 → (T2 i).length ≤ maxLen) (_hs : (Lit.int .i64 sy).wf = true) (_he : (Lit.int .u32 ep).wf = true) (h3 : SliceOf w a3 len3 cap3 (fun i => .int .i64 (cs i)) ∧ ∀ i, i < len3 → (Lit.int .i64 (cs i)).wf = true) :
    Calls Tryd.prog 11 #[.slice a1 len1 cap1, .slice a2 len2 cap2, .int .i64 sy, .int .u32 ep, .slice a3 len3 cap3] w fun e w' => e = .returned (.bool true) ∧ Below w.heap.size w w' :=
  ringkept_any a1 len1 cap1 T1 a2 len2 cap2 T2 sy ep a3 len3 cap3 cs w h1.1 h2.1 h3.1
end Go.Proofs.YtkmbbgnbklklcaaDoor
