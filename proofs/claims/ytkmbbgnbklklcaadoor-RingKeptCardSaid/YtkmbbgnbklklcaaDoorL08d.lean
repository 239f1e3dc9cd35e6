/-
  Law 08: few, same.
-/
import Derived.Test.YtkmbbgnbklklcaaDoorL08c
namespace Go.Proofs.YtkmbbgnbklklcaaDoor
open Go.RowKit

/-- A row of texts that is read. -/
def TRow (w : World) (a : Option Addr) (R : List (List UInt8)) : Prop := R = [] ∨ ∃ ad, a = some ad ∧ ∀ (j : Nat) (s : List UInt8), R[j]? = some s → w.cell? (ad.add j) = some (.string (S s))
theorem TRow.below {w w' : World} {a : Option Addr} {R : List (List UInt8)} (h : TRow w a R) (hB : Below w.heap.size w w') : TRow w' a R := by
  rcases h with h | ⟨ad, h1, h2⟩
  · exact .inl h
  · exact .inr ⟨ad, h1, fun j s hj => (hB.cell (World.block_lt_of_cell? w _ (h2 j s hj))).trans (h2 j s hj)⟩
theorem TRow.at {w : World} {a : Option Addr} {R : List (List UInt8)} (h : TRow w a R) {j : Nat} (hj : j < R.length) : ∃ ad, a = some ad ∧ w.cell? (ad.add j) = some (.string (S R[j])) := by
  rcases h with h | ⟨ad, h1, h2⟩
  · rw [h] at hj; simp at hj
  · exact ⟨ad, h1, h2 j _ (List.getElem?_eq_getElem hj)⟩
theorem TRow.own {w : World} {base cp : Nat} {ao : Option Addr} {R : List (List UInt8)} (h : w.ownsRow base 9 1 (.slice ao R.length cp) R.length (txts R)) : TRow w ao R := by
  by_cases h0 : R = []
  · exact .inl h0
  · obtain ⟨g, rfl, _, _, hc⟩ := own_first h (List.length_pos_iff.2 h0)
    exact .inr ⟨_, rfl, fun j s hj => by rw [zero_add_at]; exact hc j _ (by simp [txts, hj])⟩
def fewL (T : Nat → List UInt8) (len : Nat) : List (List UInt8) := (List.range (min len 12)).map fun i => (T i).take 150
theorem fewL_get (T : Nat → List UInt8) (len i : Nat) (h : i < min len 12) : (fewL T len)[i]? = some ((T i).take 150) := by simp only [fewL, List.getElem?_map, List.getElem?_range h, Option.map_some]
theorem fewL_take (T : Nat → List UInt8) (len q : Nat) (h : q < min len 12) : (fewL T len).take (q + 1) = (fewL T len).take q ++ [(T q).take 150] := by
  rw [List.take_add_one, fewL_get T len q h]
  rfl

set_option maxRecDepth 100000 in
theorem few_any (a : Option Addr) (len cap : Nat) (T : Nat → List UInt8) (w : World) (hS : SliceOf w a len cap (fun i => .string (S (T i)))) :
    Calls Tryd.prog 42 #[.slice a len cap] w fun e w' => ∃ ao cp, e = .returned (.slice ao (fewL T len).length cp) ∧ w'.ownsRow w.heap.size 9 1 (.slice ao (fewL T len).length cp) (fewL T len).length (txts (fewL T len)) ∧ Below w.heap.size w w' := by
  obtain ⟨i0, hi, hz0, hz1, hz2⟩ := info_parts Tryd.infoStr
  have hlm := hS.max
  simp only [maxLen] at hlm
  have HS := hid hS.reads
  have hfl : (fewL T len).length = min len 12 := by simp [fewL]
  clear hS
  go_enter Tryd.func42, Tryd.ntmps42
  go_wp2_with fail
  have hown : (w.alloc (Obj.cells #[] 9)).ownsRow w.heap.size 9 1 (.slice (some ⟨w.heap.size, 0, none⟩) 0 0) 0 (txts ((fewL T len).take 0)) := by
    have h := World.ownsRow_lit (base := w.heap.size) (e := 9) (size := 1) w #[] 0 (Nat.le_refl _) (by decide) rfl
    simpa [txts] using h
  have hB0 : Below w.heap.size w (w.alloc (Obj.cells #[] 9)) := (Below.refl _ _).alloc (Nat.le_refl _) _
  generalize w.alloc (Obj.cells #[] 9) = w1 at *
  have Hown := hid hown
  have HB0 := hid hB0
  clear hown hB0
  go_loopw [3, 4] (fun v iv wr => ∃ q : Nat, q ≤ min len 12 ∧ iv = .int .i64 q ∧ wr.ownsRow w.heap.size 9 1 v q (txts ((fewL T len).take q)) ∧ Below w.heap.size w wr) (fun _ iv _ => 12 - lenOf0 iv)
  case atStart => exact ⟨0, by omega, rfl, Hown.out, HB0.out⟩
  case round =>
    clear Hown HB0
    obtain ⟨q, hq, rfl, hO, hB⟩ := hrel
    have HO := hid hO
    have HB := hid hB
    clear hO hB
    by_cases hql : q < len ∧ q < 12
    · have d1 : decide ((q : Int) < (len : Int)) = true := by simp; omega
      have d2 : decide ((q : Int) < 12) = true := by simp; omega
      rcases HS.out with ⟨_, h0⟩ | ⟨ad, had, hrd⟩
      · omega
      subst had
      have k0 := hrd q hql.1
      have k1 := (HB.out.cell (World.block_lt_of_cell? w _ k0)).trans k0
      have hx := fewL_take T len q (by omega)
      have Hx := hid hx
      have Hlen1 := hid (show q + 1 ≤ maxLen from by unfold maxLen; omega)
      have Hlen2 := hid (show (q + 1) * 16 ≤ 140737488355328 from by omega)
      clear k0 hrd hx
      go_wp2_with (first
        | (go_at_call 16; (with_reducible refine (cut150 (T q) _).mono ?_); rintro e w4 ⟨rfl, hw4⟩; replace hw4 := hw4.symm; subst hw4)
        | (at_builtin; refine wpList_append_lies _ rfl (.tmp 16) (.tmp 22) 64 rfl w.heap.size 9 i0 (.string ByteArray.empty) 1 16 Tryd.underlying64 hi hz0 hz1 hz2 rfl (by decide) u3 _ _ (by simp [Act.eval]) (HO.out.alloc _) ⟨wr.heap.size, 0, none⟩ 1 1 [.string (S ((T q).take 150))] (by simp [Act.eval]) rfl (news_one (by simp)) (one_one rfl) (by decide) Hlen1.out Hlen2.out (by have := HB.out.size; simp; omega) (wr.heap.size + 1) (by simp) ?_; intro g5 cap5 w5 hown5 hgrow5 hg5 hlt5; have HO5 := hid hown5; have HG5 := hid hgrow5; clear hown5 hgrow5 hg5))
      refine ⟨⟨q + 1, by omega, by go_num, ?_, ?_⟩, by simp [lenOf0]; omega⟩
      · rw [Hx.out]
        have h := HO5.out
        simpa [txts] using h
      · exact (HB.out.alloc HB.out.size _).grown HG5.out (by have := HB.out.size; simp; omega) (fun k hk => (HO.out.lt k hk).1)
    · have hq9 : q = min len 12 := by omega
      have hO := HO.out
      rw [List.take_of_length_le (by omega), show q = (fewL T len).length from by omega] at hO
      obtain ⟨ao, cp, hv⟩ := shape_of hO
      subst hv
      have HO := hid hO
      clear hO
      by_cases hq1 : q < len
      case' pos =>
        have d1 : decide ((q : Int) < (len : Int)) = true := by simp; omega
        have d2 : decide ((q : Int) < 12) = false := by simp; omega
        go_wp2_with fail
      case' neg =>
        have d1 : decide ((q : Int) < (len : Int)) = false := by simp; omega
        go_wp2_with fail
      all_goals
        go_ret
        exact ⟨ao, cp, by rw [hfl]; rfl, HO.out, HB.out⟩
set_option maxRecDepth 100000 in
theorem same_any (A C : List (List UInt8)) (a c : Option Addr) (ca cc : Nat) (w : World) (hA : TRow w a A) (hC : TRow w c C) (hAl : A.length ≤ 100000) (hCl : C.length ≤ 100000) :
    Calls Tryd.prog 51 #[.slice a A.length ca, .slice c C.length cc] w fun e w' => e = .returned (.bool (decide (A = C))) ∧ Below w.heap.size w w' := by
  have HA := hid hA
  have HC := hid hC
  clear hA hC
  go_enter Tryd.func51, Tryd.ntmps51
  by_cases hl : A.length = C.length
  · have d0 : decide ((A.length : Int) = (C.length : Int)) = true := by simp; omega
    go_wp2_with fail
    go_loopw [13] (fun iv wr => ∃ q : Nat, q ≤ C.length ∧ iv = .int .i64 q ∧ A.take q = C.take q ∧ Below w.heap.size w wr) (fun iv _ => C.length - lenOf0 iv)
    case atStart => exact ⟨0, by omega, rfl, by simp, Below.refl _ _⟩
    case round =>
      obtain ⟨q, hq, rfl, hE, hB⟩ := hrel
      have HB := hid hB
      have HE := hid hE
      clear hB hE
      by_cases hql : q < C.length
      · have d1 : decide ((q : Int) < (C.length : Int)) = true := by simp; omega
        obtain ⟨ad, had, k0⟩ := (HA.out.below HB.out).at (j := q) (by omega)
        obtain ⟨cd, hcd, k1⟩ := (HC.out.below HB.out).at (j := q) hql
        subst had
        subst hcd
        by_cases he : A[q] = C[q]
        · have d3 : ((S A[q]).toList == (S C[q]).toList) = true := by rw [he]; simp
          have hE2 : A.take (q + 1) = C.take (q + 1) := by
            rw [List.take_add_one, List.take_add_one, HE.out, List.getElem?_eq_getElem (by omega), List.getElem?_eq_getElem hql, he]
          have HE2 := hid hE2
          clear hE2 he
          go_upto_region 6 with fail
          go_region_held3 (fun w' => w'.cell? (ad.add q) = some (.string (S A[q])) ∧ w'.cell? (cd.add q) = some (.string (S C[q]))) (first | go_keep | exact ⟨k0, k1⟩) (fail)
          go_wp2_with fail
          exact ⟨⟨q + 1, by omega, by go_num, HE2.out, HB.out.drew⟩, by simp [lenOf0]; omega⟩
        · have d3 : ((S A[q]).toList == (S C[q]).toList) = false := by rw [S_toList, S_toList]; simpa using he
          have hne : decide (A = C) = false := by
            rw [decide_eq_false_iff_not]
            intro h
            subst h
            exact he rfl
          have Hne := hid hne
          clear hne he
          go_upto_region 6 with fail
          go_region_held3 (fun w' => w'.cell? (ad.add q) = some (.string (S A[q])) ∧ w'.cell? (cd.add q) = some (.string (S C[q]))) (first | go_keep | exact ⟨k0, k1⟩) (fail)
          go_wp2_with fail
          go_ret
          rw [Hne.out]
          exact ⟨rfl, HB.out.drew⟩
      · have d1 : decide ((q : Int) < (C.length : Int)) = false := by simp; omega
        have hne : decide (A = C) = true := by
          have h := HE.out
          rw [List.take_of_length_le (by omega), List.take_of_length_le (by omega)] at h
          simpa using h
        have Hne := hid hne
        clear hne
        go_wp2_with fail
        go_ret
        rw [Hne.out]
        exact ⟨rfl, HB.out⟩
  · have d0 : decide ((A.length : Int) = (C.length : Int)) = false := by simp; omega
    have hne : decide (A = C) = false := by
      rw [decide_eq_false_iff_not]
      intro h
      exact hl (by rw [h])
    have Hne := hid hne
    clear hne
    go_wp2_with fail
    go_ret
    rw [Hne.out]
    exact ⟨rfl, Below.refl _ _⟩
end Go.Proofs.YtkmbbgnbklklcaaDoor
