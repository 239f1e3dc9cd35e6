/-
  Law 08: RingScans.
-/
import Derived.Test.YtkmbbgnbklklcaaDoorL08h
namespace Go.Proofs.YtkmbbgnbklklcaaDoor
open Go.RowKit

theorem and63n (z : Int) : ∃ k : Nat, k ≤ 63 ∧ bits .and .i64 z 63 = (k : Int) := by
  have h : (BitVec.ofInt 64 z &&& BitVec.ofInt 64 ((63 : Nat) : Int)).toNat ≤ 63 := by
    rw [BitVec.toNat_and]
    refine Nat.le_trans Nat.and_le_right ?_
    simp
  refine ⟨_, h, ?_⟩
  show IntKind.i64.wrap (((BitVec.ofInt 64 z &&& BitVec.ofInt 64 ((63 : Nat) : Int)).toNat : Nat) : Int) = _
  rw [IntKind.wrap_i64]
  omega
theorem xor_byte8 (c d : UInt8) : bits .xor .u8 (c.toNat : Int) (d.toNat : Int) = (((c ^^^ d).toNat : Nat) : Int) := by
  have h : ∀ a b : BitVec 8, bits .xor .u8 (a.toNat : Int) (b.toNat : Int) = ((a ^^^ b).toNat : Int) := by
    intro a b
    show IntKind.u8.wrap ((BitVec.ofInt 8 (a.toNat : Int) ^^^ BitVec.ofInt 8 (b.toNat : Int)).toNat : Int) = _
    rw [show BitVec.ofInt 8 (a.toNat : Int) = a from by rw [BitVec.ofInt_natCast]; simp, show BitVec.ofInt 8 (b.toNat : Int) = b from by rw [BitVec.ofInt_natCast]; simp]
    have := (a ^^^ b).isLt
    generalize (a ^^^ b).toNat = n at *
    simp [IntKind.wrap, IntKind.bits, IntKind.signed]
    omega
  exact h c.toBitVec d.toBitVec
theorem frs_64 (ep sq : Nat) (ps : List (List UInt8)) (hp : ∀ p ∈ ps, p.length ≤ 47) : ∀ s ∈ frs ep sq ps, s.length = 64 := by
  induction ps generalizing sq with
  | nil => intro s hs; cases hs
  | cons p ps ih =>
    intro s hs
    rcases List.mem_cons.1 hs with rfl | hs
    · exact frame_length _ _ _ (hp p (by simp))
    · exact ih (sq + 1) (fun x hx => hp x (List.mem_cons_of_mem _ hx)) s hs
theorem own_free {w : World} {base e n cp g : Nat} {xs : List Value} (h : w.ownsRow base e 1 (.slice (some ⟨g, 0, none⟩) n cp) n xs) (j : Nat) : w.frozen? ⟨g, j, none⟩ = false := by
  rcases h.2 with ⟨hv, _⟩ | ⟨g', cap, cur, hv, _, hh, _⟩
  · injection hv with hv
    cases hv
  · injection hv with hv
    injection hv with hv
    injection hv with hv
    subst hv
    exact free_of_block hh j
theorem scan_len (ep : Nat) (l : List (List UInt8)) (k : Nat) (text : List UInt8) : (scan ep k l text).length ≤ l.length := by
  induction l generalizing k text with
  | nil => simp [scan]
  | cons s l ih =>
    rw [scan]
    split
    · split
      · have := ih (k + 1) []
        simp; omega
      · exact Nat.le_trans (ih (k + 1) (text ++ (opens ep (k + 1) s).drop 1)) (by simp)
    · simp
theorem cut64r (s : List UInt8) (w : World) : Calls Tryd.prog 16 #[.string (S s), .int .i64 64] w fun e w' => e = .returned (.string (S (s.take 64))) ∧ w' = w := cut_any s 64 w
theorem new_08 (b ep : Nat) (w : World) : Calls Tryd.prog 44 #[.pointer (some ⟨b, 0, none⟩), .int .i64 0, .int .i64 8, .int .u32 (ep : Int)] w fun e w' => e = .returned (.pointer (some ⟨w.heap.size, 0, none⟩)) ∧ RingAt w' w.heap.size b ((0 : Nat) : Int) ((8 : Nat) : Int) ep 0 ∧ Below w.heap.size w w' ∧ w.heap.size < w'.heap.size := ring_new b 0 8 8 ep w (by decide)

set_option maxRecDepth 100000 in
set_option maxHeartbeats 4000000 in
theorem ringscans_any (ep : Nat) (a : Option Addr) (len cap : Nat) (T : Nat → List UInt8) (a2 : Option Addr) (len2 cap2 : Nat) (T2 : Nat → List UInt8) (at_ by_ : Int) (c0 : UInt8) (w : World) (hS : SliceOf w a len cap (fun i => .string (S (T i)))) (hS2 : SliceOf w a2 len2 cap2 (fun i => .string (S (T2 i)))) (hep : ep < 4294967296) :
    Calls Tryd.prog 9 #[.int .u32 (ep : Int), .slice a len cap, .slice a2 len2 cap2, .int .i64 at_, .int .i64 by_, .int .u8 (c0.toNat : Int)] w fun e w' => e = .returned (.bool true) ∧ Below w.heap.size w w' := by
  obtain ⟨i0, hi, hz0, hz1, hz2⟩ := info_parts Tryd.infoStr
  obtain ⟨m7, hm7, hat⟩ := and7n at_
  obtain ⟨k, hk63, hby⟩ := and63n by_
  have hlm2 := hS2.max
  simp only [maxLen] at hlm2
  have HS := hid hS
  have HS2 := hid hS2
  obtain ⟨L, hL⟩ : ∃ L, fewL T len = L := ⟨_, rfl⟩
  have hLl : L.length ≤ 12 := by rw [← hL]; simp [fewL]; omega
  have hLs : ∀ s ∈ L, s.length ≤ 150 := by
    intro s hs
    rw [← hL] at hs
    simp only [fewL, List.mem_map] at hs
    obtain ⟨j, _, rfl⟩ := hs
    simp; omega
  have HL := hid hL
  have HLs := hid hLs
  have Hat := hid hat
  have Hby := hid hby
  clear hS hS2 hL hLs hat hby
  go_enter Tryd.func9, Tryd.ntmps9
  go_wp2_with fail
  refine (awake08 w).mono ?_
  rintro e w1 ⟨rfl, hB1⟩
  have HB1 := hid hB1
  clear hB1
  go_wp2_with fail
  (with_reducible refine (disk_new 8 8 w1 (by decide)).mono ?_)
  rintro e w2 ⟨rfl, g, hD2, hg2, hB2⟩
  have HD2 := hid hD2
  have HB2 := hid hB2
  have hb2 := hD2.lt
  clear hD2 hB2
  go_wp2_with fail
  have hbA : Below w2.heap.size w2 (w2.alloc (.cells #[] 9)) := (Below.refl _ _).alloc (Nat.le_refl _) _
  have hrowA := World.ownsRow_lit (base := w1.heap.size) (e := 9) (size := 1) w2 #[] 0 HB2.out.size (by decide) rfl
  have hszA : (w2.alloc (.cells #[] 9)).heap.size = w2.heap.size + 1 := by simp
  have HB2' := hid (HB2.out.trans (hbA.mono HB2.out.size))
  have HD2' := hid (HD2.out.below hbA)
  try change Calls _ _ _ (w2.alloc (.cells #[] 9)) _
  generalize w2.alloc (.cells #[] 9) = wA at *
  have hfew := few_any a len cap T wA (slice_below HS.out (HB1.out.trans (HB2'.out.mono HB1.out.size)))
  rw [HL.out] at hfew
  have Hfew := hid hfew
  have HrowA := hid hrowA
  clear hfew hbA hrowA
  (with_reducible refine Hfew.out.mono ?_)
  rintro e w3 ⟨aL, cL, rfl, hO3, hB3⟩
  have hA3 : Duo w1 w3 w1.heap.size w1.heap.size g (Dsk.new 8) (.slice aL L.length cL) (.slice (some ⟨w2.heap.size, 0, none⟩) 0 0) L [] := by
    refine ⟨HD2'.out.below hB3, by have := hB3.size; omega, by decide, own_weak hO3 HB2'.out.size, own_below HrowA.out hB3, fun k hk e => ?_, HB2'.out.trans (hB3.mono HB2'.out.size), Nat.le_refl _⟩
    injection e with e
    simp only at e
    have := (hO3.lt k hk).1
    omega
  have HA3 := hid hA3
  clear hA3 hO3 hB3 Hfew HrowA HD2' HD2 HB2'
  go_wp2_with fail
  go_loopw [14, 31] (fun v iv wr => ∃ (q : Nat) (R : List (List UInt8)), q ≤ L.length ∧ iv = .int .i64 q ∧ R.length ≤ 4 * q ∧ (∀ s ∈ R, s.length ≤ 64) ∧ Duo w1 wr w1.heap.size w1.heap.size g (Dsk.new 8) (.slice aL L.length cL) v L R) (fun _ iv _ => L.length - lenOf0 iv)
  case atStart => exact ⟨0, [], Nat.zero_le _, rfl, Nat.zero_le _, (fun s hs => by cases hs), HA3.out⟩
  case round =>
    clear HA3
    obtain ⟨q, R, hq, rfl, hRl, hR64, hA⟩ := hrel
    obtain ⟨x1, y1, hv1⟩ := shape_of hA.h2
    subst hv1
    have HA := hid hA
    have HR64 := hid hR64
    clear hA hR64
    by_cases hql : q < L.length
    · have d1 : decide ((q : Int) < (L.length : Int)) = true := by simp; omega
      obtain ⟨ad, had, k0⟩ := (TRow.own HA.out.h1).at hql
      subst had
      have hs150 := HLs.out L[q] (List.getElem_mem hql)
      generalize L[q] = s at *
      obtain ⟨c, hc⟩ : ∃ c, cost s.length = c := ⟨_, rfl⟩
      have hc4 : 1 ≤ c ∧ c ≤ 4 := by rw [← hc]; unfold cost; omega
      have Hlen1 := hid (show R.length + c ≤ maxLen from by unfold maxLen; omega)
      have Hlen2 := hid (show (R.length + c) * 16 ≤ 140737488355328 from by omega)
      have hcf : (frs ep R.length (parts s)).length = c := by rw [frs_length, parts_length, hc]
      have Hcf := hid hcf
      clear hcf
      go_wp2_with (first
        | (go_at_call 45; (with_reducible refine (frames_c ep R.length c s wr hep (by omega) (by omega) hc).mono ?_); rintro e w6 ⟨aF, cF, rfl, hO6, hB6⟩; obtain ⟨gF, hgF, hg6, hl6, hc6⟩ := own_first hO6 (by omega); subst hgF; have HA6 := hid (HA.out.below hB6); have Hc6 := hid hc6; clear hO6 hB6 hc6 hg6 hl6)
        | (at_builtin; refine wpList_append_lies _ rfl (.tmp 35) (.tmp 41) 64 rfl w1.heap.size 9 i0 (.string ByteArray.empty) 1 16 Tryd.underlying64 hi hz0 hz1 hz2 rfl (by decide) (.slice x1 R.length y1) _ _ (by simp [Act.eval]) HA6.out.h2 ⟨gF, 0, none⟩ c cF (txts (frs ep R.length (parts s))) (by simp [Act.eval]) (by rw [txts_length, Hcf.out, Nat.mul_one]) (fun j u hu => by rw [zero_add_at]; exact Hc6.out j u hu) (txts_one _) (by omega) Hlen1.out Hlen2.out HA6.out.hB.size w6.heap.size rfl ?_; intro g8 cap8 w8 hO8 hG8 hg8 hl8; have HA8 := hid (HA6.out.grow Hcf.out hO8 hG8 hg8); clear hO8 hG8 hg8 hl8))
      refine ⟨⟨q + 1, R ++ frs ep R.length (parts s), by omega, by go_num, by rw [List.length_append, Hcf.out]; omega, ?_, HA8.out⟩, by simp [lenOf0]; omega⟩
      intro x hx
      rcases List.mem_append.1 hx with hx | hx
      · exact HR64.out x hx
      · exact Nat.le_of_eq (frs_64 ep _ _ (parts_le s) x hx)
    · have d1 : decide ((q : Int) < (L.length : Int)) = false := by simp; omega
      go_wp2_with fail
      have hRl48 : R.length ≤ 48 := by omega
      go_loopw [17] (fun iv wr => ∃ (q : Nat) (R2 : List (List UInt8)), q ≤ 8 ∧ iv = .int .i64 q ∧ R2.length = R.length ∧ (∀ s ∈ R2, s.length ≤ 64) ∧ Duo w1 wr w1.heap.size w1.heap.size g (Dsk.new 8) (.slice aL L.length cL) (.slice x1 R.length y1) L R2) (fun iv _ => 8 - lenOf0 iv)
      case atStart => exact ⟨0, R, by omega, rfl, rfl, HR64.out, HA.out⟩
      case round =>
        clear HA HR64
        obtain ⟨q, R2, hq, rfl, hR2, hR64, hA⟩ := hrel
        have HA := hid hA
        have HR64 := hid hR64
        clear hA hR64
        by_cases hql : q < len2 ∧ q < 8
        · have d1 : decide ((q : Int) < (len2 : Int)) = true := by simp; omega
          have d2 : decide ((q : Int) < 8) = true := by simp; omega
          rcases (slice_below HS2.out (HB1.out.trans (HA.out.hB.mono HB1.out.size))).reads with ⟨_, h0⟩ | ⟨ad, had, hrd⟩
          · omega
          subst had
          have k0 := hrd q hql.1
          obtain ⟨s, hs⟩ : ∃ s, (T2 q).take 64 = s := ⟨_, rfl⟩
          have hs64 : s.length ≤ 64 := by rw [← hs, List.length_take]; omega
          have hcut := cut64r (T2 q) wr
          rw [hs] at hcut
          have Hcut := hid hcut
          clear hrd hcut hs
          by_cases hse : s = []
          · subst hse
            have e1 : (S ([] : List UInt8)).toList.isEmpty = true := by rw [S_toList]; rfl
            go_wp2_with (go_at_call 16; (with_reducible refine Hcut.out.mono ?_); rintro e w4 ⟨rfl, hw4⟩; replace hw4 := hw4.symm; subst hw4)
            exact ⟨⟨q + 1, R2, by omega, by go_num, hR2, HR64.out, HA.out⟩, by simp [lenOf0]; omega⟩
          · have e1 : (S s).toList.isEmpty = false := by rw [S_toList]; simpa using hse
            have Hse := hid hse
            clear hse
            by_cases hqr : q < R.length
            · have d3 : decide ((q : Int) < (R.length : Int)) = true := by simp; omega
              have hh2 := HA.out.h2
              rw [hR2] at hh2
              obtain ⟨g5, hg5, _, _, hc5⟩ := own_first hh2 (by omega)
              subst hg5
              have k5 := hc5 q (.string (S (R2[q]'(by omega)))) (by simp [txts, hR2, hqr])
              have f5 := own_free hh2 q
              have hA2 := HA.out
              rw [← hR2] at hA2
              have hA3 := hA2.set2 (i := q) s
              rw [hR2] at hA3
              have HA3 := hid hA3
              clear hh2 hc5 hA2 hA3
              go_wp2_with (go_at_call 16; (with_reducible refine Hcut.out.mono ?_); rintro e w4 ⟨rfl, hw4⟩; replace hw4 := hw4.symm; subst hw4)
              refine ⟨⟨q + 1, R2.set q s, by omega, by go_num, by simpa using hR2, ?_, HA3.out⟩, by simp [lenOf0]; omega⟩
              intro x hx
              rcases List.mem_or_eq_of_mem_set hx with hx | hx
              · exact HR64.out x hx
              · rw [hx]; exact hs64
            · have d3 : decide ((q : Int) < (R.length : Int)) = false := by simp; omega
              go_wp2_with (go_at_call 16; (with_reducible refine Hcut.out.mono ?_); rintro e w4 ⟨rfl, hw4⟩; replace hw4 := hw4.symm; subst hw4)
              exact ⟨⟨q + 1, R2, by omega, by go_num, hR2, HR64.out, HA.out⟩, by simp [lenOf0]; omega⟩
        · by_cases hq1 : q < len2
          case' pos =>
            have d1 : decide ((q : Int) < (len2 : Int)) = true := by simp; omega
            have d2 : decide ((q : Int) < 8) = false := by simp; omega
            go_wp2_with fail
          case' neg =>
            have d1 : decide ((q : Int) < (len2 : Int)) = false := by simp; omega
            go_wp2_with fail
          all_goals
            have hA5 := HA.out.next
            generalize wr.alloc (.cells #[] 9) = w5 at hA5 ⊢
            generalize wr.heap.size = N5 at hA5 ⊢
            have HA5 := hid hA5
            clear hA5 HA
            go_loopw [19, 72] (fun v iv wr => ∃ (Q : List (List UInt8)), Q.length ≤ 8 ∧ iv = .int .i64 (Q.length : Int) ∧ (∀ s ∈ Q, s.length = 64) ∧ Duo w1 wr w1.heap.size w1.heap.size g ((Dsk.new 8).puts 0 Q) (.slice x1 R.length y1) v R2 Q) (fun _ iv _ => 8 - lenOf0 iv)
            case atStart => exact ⟨[], Nat.zero_le _, rfl, (fun s hs => by cases hs), HA5.out⟩
            case round =>
              clear HA5
              obtain ⟨Q, hq, rfl, hQ64, hA⟩ := hrel
              obtain ⟨x3, y3, hv3⟩ := shape_of hA.h2
              subst hv3
              have HA := hid hA
              have HQ := hid hQ64
              have Hon := hid ((Dsk.on.new 8).puts 0 Q)
              clear hA hQ64
              by_cases hq8 : Q.length < 8
              · have d1 : decide ((Q.length : Int) < 8) = true := by simp; omega
                have hqn : Q.length < ((Dsk.new 8).puts 0 Q).n := by rw [Dsk.puts_n]; exact hq8
                have Hlen1 := hid (show Q.length + 1 ≤ maxLen from by unfold maxLen; omega)
                have Hlen2 := hid (show (Q.length + 1) * 16 ≤ 140737488355328 from by omega)
                by_cases hqr : Q.length < R.length
                case' pos =>
                  have d3 : decide ((Q.length : Int) < (R.length : Int)) = true := by simp; omega
                  have hh1 := HA.out.h1
                  rw [hR2] at hh1
                  obtain ⟨g5, hg5, _, _, hc5⟩ := own_first hh1 (by omega)
                  subst hg5
                  have k5 := hc5 Q.length (.string (S (R2[Q.length]'(by omega)))) (by simp [txts, hR2, hqr])
                  have hs64 := HR64.out (R2[Q.length]'(by omega)) (List.getElem_mem (by omega))
                  generalize R2[Q.length]'(by omega) = s at *
                  have Hs0 := hid hs64
                  clear hh1 hc5 hs64
                  go_wp2_with fail
                case' neg =>
                  have d3 : decide ((Q.length : Int) < (R.length : Int)) = false := by simp; omega
                  have Hs0 := hid (show ([] : List UInt8).length ≤ 64 by simp)
                  go_wp2_with fail
                all_goals
                  go_loopw [21] (fun tv wy => ∃ s : List UInt8, tv = .string (S s) ∧ s.length ≤ 64 ∧ Duo w1 wy w1.heap.size w1.heap.size g ((Dsk.new 8).puts 0 Q) (.slice _ R.length y1) (.slice x3 Q.length y3) R2 Q) (fun tv _ => 64 - sizeOfText tv)
                  case atStart => exact ⟨_, rfl, Hs0.out, HA.out⟩
                  case round =>
                    clear HA Hs0
                    obtain ⟨s, rfl, hs64, hA⟩ := hrel
                    have HA := hid hA
                    have hss := S_size s
                    clear hA
                    by_cases hs : s.length < 64
                    · have d5 : decide ((s.length : Int) < 64) = true := by simp; omega
                      have hadd : ∀ w, (Op.stringOp .add (S s) ⟨#[0]⟩).run Tryd.prog w = .ok (.string (S (s ++ [0]))) w := fun w => str_add s [0] (by omega) (by decide) w
                      go_wp2_with fail
                      exact ⟨⟨s ++ [0], rfl, by simp; omega, HA.out⟩, by simp [sizeOfText, S_size]; omega⟩
                    · have d5 : decide ((s.length : Int) < 64) = false := by simp; omega
                      have hs64 : s.length = 64 := by omega
                      have hm := Hat.out
                      by_cases hq7 : Q.length = m7
                      · subst hq7
                        have d6 : decide ((Q.length : Int) = (Q.length : Int)) = true := by simp
                        go_upto_region 26 with fail
                        have Hs64b := hid hs64
                        have hkl : k < s.length := by omega
                        have hd1 : decide ((k : Int) < (s.length : Int)) = true := by simp; omega
                        have hx1 : (S s).extract 0 k = S (s.take k) := S_take s k
                        have hx2 : (S s).extract (k + 1) s.length = S (s.drop (k + 1)) := S_drop s (k + 1)
                        have hkS : k < (S s).size := by rw [hss]; exact hkl
                        have hget : (S s)[k]'hkS = s[k]'hkl := S_get s k hkS
                        have hx := xor_byte8 (s[k]'hkl) c0
                        have hk2 : k ≤ s.length := by omega
                        have hk3 : (k : Int) + 1 ≤ (s.length : Int) := by omega
                        have hk4 : (0 : Int) ≤ (k : Int) + 1 := by omega
                        have e1 : IntKind.i64.wrap ((k : Int) + 1) = ((k + 1 : Nat) : Int) := by rw [IntKind.wrap_i64]; omega
                        obtain ⟨x, hx0⟩ : ∃ x, (s[k]'hkl) ^^^ c0 = x := ⟨_, rfl⟩
                        rw [hx0] at hx
                        have hsl9 : s.length ≤ 1000 := by omega
                        have hcv := conv1 wr.heap.size x (wr.alloc (.cells #[.int .u8 (x.toNat : Int)] 5)).drew (heap_new wr (.cells #[.int .u8 (x.toNat : Int)] 5))
                        have hadd1 := str_add (s.take k) [x] (by simp; omega) (by simp)
                        have hadd2 := str_add (s.take k ++ [x]) (s.drop (k + 1)) (by simp; omega) (by simp; omega)
                        have hbk := Hby.out
                        clear hs64 hx0
                        go_region_law fail
                        all_goals
                          try go_simp
                          have HA9 := hid (HA.out.below ((Below.refl _ wr).alloc (Nat.le_refl _) (.cells #[.int .u8 (x.toNat : Int)] 5))).drew
                          have hs64 : (s.take k ++ x :: s.drop (k + 1)).length = 64 := by have := Hs64b.out; simp; omega
                          clear hcv hadd1 hadd2 hx hx1 hx2 hget hd1 hk2 hk3 hk4 e1 HA
                          generalize s.take k ++ x :: s.drop (k + 1) = s9 at *
                          generalize hwb : (wr.alloc (.cells #[.int .u8 (x.toNat : Int)] 5)).drew = wb at *
                          have DUO := HA9
                          have hss9 := S_size s9
                          go_upto_region 27 with fail
                          have hsl := hs64
                          have hlw := lwrite_on Q.length s9 wb (DUO.out.hD) DUO.out.hg (Hon.out) hs64 hqn
                          have Hlw := hid hlw
                          have Hs64 := hid hs64
                          clear hlw hsl hs64
                          go_upto_region 29 with (go_at_call 52; (with_reducible refine Hlw.out.mono ?_); rintro e w7 ⟨rfl, hE7⟩; have HA7 := hid (DUO.out.disk hE7 (by show 0 < ((Dsk.new 8).puts 0 Q).n; omega)); clear hE7)
                          go_wp2_with (at_builtin; refine wpList_append_lies _ rfl (.tmp 116) (.tmp 118) 64 rfl w1.heap.size 9 i0 (.string ByteArray.empty) 1 16 Tryd.underlying64 hi hz0 hz1 hz2 rfl (by decide) (.slice x3 Q.length y3) _ _ (by simp [Act.eval]) (HA7.out.below ((Below.refl _ w7).alloc (Nat.le_refl _) (.cells #[.string (S s9)] 9))).h2 ⟨w7.heap.size, 0, none⟩ 1 1 (txts [s9]) (by simp [Act.eval]) rfl (news_one (by simp)) (txts_one _) (by decide) Hlen1.out Hlen2.out (by have := HA7.out.hB.size; simp; omega) (w7.heap.size + 1) (by simp) ?_; intro g8 cap8 w8 hO8 hG8 hg8 hl8; have HA8 := hid ((HA7.out.below ((Below.refl _ w7).alloc (Nat.le_refl _) (.cells #[.string (S s9)] 9))).grow (R3 := [s9]) (c := 1) rfl hO8 hG8 (hg8.imp id (fun e => by rw [e]; simp))); clear hO8 hG8 hg8 hl8)
                          refine ⟨⟨Q ++ [s9], by simp; omega, by rw [List.length_append, List.length_singleton]; go_num, ?_, ?_⟩, by simp [lenOf0]; omega⟩
                          · intro x hx
                            rcases List.mem_append.1 hx with hx | hx
                            · exact HQ.out x hx
                            · rw [List.mem_singleton.1 hx]; exact Hs64.out
                          · have h := HA8.out
                            have e9 : (Dsk.new 8).puts 0 (Q ++ [s9]) = ((Dsk.new 8).puts 0 Q).putAt Q.length s9 := by rw [Dsk.puts_append, Nat.zero_add]; rfl
                            rw [e9]
                            exact h
                      · have d6 : decide ((Q.length : Int) = (m7 : Int)) = false := by simp; omega
                        generalize hwb : wr = wb at *
                        have DUO := HA
                        go_upto_region 27 with fail
                        have hsl := hs64
                        have hlw := lwrite_on Q.length s wb (DUO.out.hD) DUO.out.hg (Hon.out) hs64 hqn
                        have Hlw := hid hlw
                        have Hs64 := hid hs64
                        clear hlw hsl hs64
                        go_upto_region 29 with (go_at_call 52; (with_reducible refine Hlw.out.mono ?_); rintro e w7 ⟨rfl, hE7⟩; have HA7 := hid (DUO.out.disk hE7 (by show 0 < ((Dsk.new 8).puts 0 Q).n; omega)); clear hE7)
                        go_wp2_with (at_builtin; refine wpList_append_lies _ rfl (.tmp 116) (.tmp 118) 64 rfl w1.heap.size 9 i0 (.string ByteArray.empty) 1 16 Tryd.underlying64 hi hz0 hz1 hz2 rfl (by decide) (.slice x3 Q.length y3) _ _ (by simp [Act.eval]) (HA7.out.below ((Below.refl _ w7).alloc (Nat.le_refl _) (.cells #[.string (S s)] 9))).h2 ⟨w7.heap.size, 0, none⟩ 1 1 (txts [s]) (by simp [Act.eval]) rfl (news_one (by simp)) (txts_one _) (by decide) Hlen1.out Hlen2.out (by have := HA7.out.hB.size; simp; omega) (w7.heap.size + 1) (by simp) ?_; intro g8 cap8 w8 hO8 hG8 hg8 hl8; have HA8 := hid ((HA7.out.below ((Below.refl _ w7).alloc (Nat.le_refl _) (.cells #[.string (S s)] 9))).grow (R3 := [s]) (c := 1) rfl hO8 hG8 (hg8.imp id (fun e => by rw [e]; simp))); clear hO8 hG8 hg8 hl8)
                        refine ⟨⟨Q ++ [s], by simp; omega, by rw [List.length_append, List.length_singleton]; go_num, ?_, ?_⟩, by simp [lenOf0]; omega⟩
                        · intro x hx
                          rcases List.mem_append.1 hx with hx | hx
                          · exact HQ.out x hx
                          · rw [List.mem_singleton.1 hx]; exact Hs64.out
                        · have h := HA8.out
                          have e9 : (Dsk.new 8).puts 0 (Q ++ [s]) = ((Dsk.new 8).puts 0 Q).putAt Q.length s := by rw [Dsk.puts_append, Nat.zero_add]; rfl
                          rw [e9]
                          exact h
              · have hQ8 : Q.length = 8 := by omega
                have d1 : decide ((Q.length : Int) < 8) = false := by simp; omega
                have hQ100 : Q.length ≤ 1000 := by omega
                have eQ : secL ((Dsk.new 8).puts 0 Q) 0 8 = Q := by
                  rw [secL_puts _ _ _ _ (by omega), List.drop_eq_nil_of_le (by simp [secL]; omega), List.append_nil]
                have EQ := hid eQ
                have h8 := scan_len ep Q 0 []
                have hlS : (scan ep 0 Q []).length ≤ 100000 := by omega
                clear eQ hQ8 h8
                go_wp2_with fail
                (with_reducible refine (new_08 _ ep wr).mono ?_)
                rintro e w6 ⟨rfl, hR6, hB6, hl6⟩
                have HA6 := hid (HA.out.below hB6)
                have HR6 := hid hR6
                clear hR6 hB6 HA
                go_wp2_with fail
                have hsc := lscan_any wr.heap.size (scan ep 0 Q []) w6 (fun wy hBy => (ring_scan wr.heap.size 0 8 ep 0 wy (HR6.out.below hBy) (HA6.out.hD.below hBy) Hon.out (by rw [Dsk.puts_n]; decide) hep).mono fun e w' h => by rw [EQ.out] at h; exact h)
                have hr8 := fun w => ref8_scan ep Q x3 y3 w
                generalize scan ep 0 Q [] = Z at *
                have Hsc := hid hsc
                have Hr8 := hid hr8
                clear hsc hr8
                (with_reducible refine Hsc.out.mono ?_)
                rintro e w7 ⟨a7, c7, rfl, hO7, hB7⟩
                have HT7 := hid (TRow.own hO7)
                have HA7 := hid (HA6.out.below hB7)
                clear hO7 hB7 HA6 Hsc
                have hr9 := Hr8.out w7 (TRow.own HA7.out.h2) hQ100 HQ.out hep
                have Hr9 := hid hr9
                clear hr9 Hr8
                go_upto_region 32 with fail
                go_wp2_with (first
                  | (go_at_call 53; (with_reducible refine Hr9.out.mono ?_); rintro e w8 ⟨a8, c8, rfl, hO8, hB8⟩; have HT8 := hid (TRow.own hO8); have HT7b := hid (HT7.out.below hB8); have HA8 := hid (HA7.out.below hB8); clear hO8 hB8; have hsm := same_any Z Z a7 a8 c7 c8 w8 HT7b.out HT8.out hlS hlS; rw [decide_eq_true rfl] at hsm; have Hsm := hid hsm; clear hsm)
                  | (go_at_call 51; (with_reducible refine Hsm.out.mono ?_); rintro e w9 ⟨rfl, hB9⟩; have HA9 := hid (HA8.out.below hB9); clear hB9))
                go_ret
                exact ⟨rfl, HB1.out.trans (HA9.out.hB.mono HB1.out.size)⟩
theorem walkRingScans (w : World) (ep : Int) (a : Option Addr) (len cap : Nat) (T : Nat → List UInt8) (a2 : Option Addr) (len2 cap2 : Nat) (T2 : Nat → List UInt8) (at_ by_ c : Int) (he : (Lit.int .u32 ep).wf = true) (h : SliceOf w a len cap (fun i => .string (S (T i))) ∧ ∀ i, i < len → (T i).length ≤ maxLen) (h2 : SliceOf w a2 len2 cap2 (fun i => .string (S (T2 i))) ∧ ∀ i, i < len2 → (T2 i).length ≤ maxLen) (_ha : (Lit.int .i64 at_).wf = true) (_hb : (Lit.int .i64 by_).wf = true) (hc : (Lit.int .u8 c).wf = true) :
    Calls Tryd.prog 9 #[.int .u32 ep, .slice a len cap, .slice a2 len2 cap2, .int .i64 at_, .int .i64 by_, .int .u8 c] w fun e w' => e = .returned (.bool true) ∧ Below w.heap.size w w' := by
  have he : 0 ≤ ep ∧ ep ≤ 4294967295 := by simpa [Lit.wf, IntKind.min, IntKind.max, IntKind.signed, IntKind.bits] using he
  have hc : 0 ≤ c ∧ c ≤ 255 := by simpa [Lit.wf, IntKind.min, IntKind.max, IntKind.signed, IntKind.bits] using hc
  obtain ⟨ep', rfl⟩ : ∃ k : Nat, ep = (k : Int) := ⟨ep.toNat, by omega⟩
  obtain ⟨c', hc'⟩ : ∃ x : UInt8, (x.toNat : Int) = c := ⟨UInt8.ofNat c.toNat, by rw [UInt8.toNat_ofNat']; omega⟩
  rw [← hc']
  exact ringscans_any ep' a len cap T a2 len2 cap2 T2 at_ by_ c' w h.1 h2.1 (by omega)
end Go.Proofs.YtkmbbgnbklklcaaDoor
