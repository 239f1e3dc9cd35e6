/-
  Law 09: UndoPlays: the steps in the making.
-/
import Derived.Test.YtmdcalkfapcafaaL09f
import Derived.Test.YtmdcalkfapcafaaArgs
namespace Go.Proofs.Ytmdcalkfapcafaa
open Go.RowKit

theorem i64_low (n : Int) (k m : Nat) (hm : m = 2 ^ k - 1) (hk : k ≤ 60) : bits .and .i64 n (m : Int) = n % ((2 ^ k : Nat) : Int) := by
  have hp : 2 ^ k ≤ 2 ^ 60 := Nat.pow_le_pow_right (by decide) hk
  have hpos : 0 < 2 ^ k := Nat.two_pow_pos k
  have h3 : (BitVec.ofInt 64 (m : Int)).toNat = 2 ^ k - 1 := by
    rw [BitVec.ofInt_natCast, BitVec.toNat_ofNat, hm]
    exact Nat.mod_eq_of_lt (by omega)
  have key : (BitVec.ofInt 64 n &&& BitVec.ofInt 64 (m : Int)).toNat = (n % ((2 ^ 64 : Nat) : Int)).toNat % 2 ^ k := by
    rw [BitVec.toNat_and, BitVec.toNat_ofInt, h3, Nat.and_two_pow_sub_one_eq_mod]
  show IntKind.i64.wrap ((BitVec.ofInt 64 n &&& BitVec.ofInt 64 (m : Int)).toNat : Nat) = n % ((2 ^ k : Nat) : Int)
  have hdvd : ((2 ^ k : Nat) : Int) ∣ ((2 ^ 64 : Nat) : Int) := Int.natCast_dvd_natCast.2 (Nat.pow_dvd_pow 2 (by omega))
  have e1 : (((n % ((2 ^ 64 : Nat) : Int)).toNat % 2 ^ k : Nat) : Int) = n % ((2 ^ k : Nat) : Int) := by
    rw [Int.natCast_emod, Int.toNat_of_nonneg (Int.emod_nonneg _ (by decide)), Int.emod_emod_of_dvd _ hdvd]
  rw [key, e1]
  have h4 := Int.emod_nonneg n (b := ((2 ^ k : Nat) : Int)) (by omega)
  have h5 := Int.emod_lt_of_pos n (b := ((2 ^ k : Nat) : Int)) (by omega)
  exact IntWalk.i64_in _ (by omega)

/-- A step, out of what was handed in. -/
def actOf (k a t : Int) : ActN := ⟨(k % 256 % 5).toNat, (a % 4).toNat, (1 + t % 256).toNat⟩
theorem actOf_ok (k a t : Int) : (actOf k a t).ok := by unfold actOf ActN.ok; simp only []; omega
def ActN.vals (a : ActN) : List Value := [.int .i64 (a.kind : Int), .int .i64 (a.at' : Int), .int .i64 (a.to' : Int)]
/-- The first q steps. -/
def actsTo (E : Nat → Int × Int × Int) (q : Nat) : List ActN := (List.range q).map fun i => actOf (E i).1 (E i).2.1 (E i).2.2
theorem actsTo_length (E : Nat → Int × Int × Int) (q : Nat) : (actsTo E q).length = q := by simp [actsTo]
theorem actsTo_succ (E : Nat → Int × Int × Int) (q : Nat) : actsTo E (q + 1) = actsTo E q ++ [actOf (E q).1 (E q).2.1 (E q).2.2] := by simp [actsTo, List.range_succ]
def actCells (l : List ActN) : List Value := l.flatMap ActN.vals
theorem actCells_length (l : List ActN) : (actCells l).length = l.length * 3 := by
  induction l with
  | nil => rfl
  | cons a l ih => simp [actCells, ActN.vals] at ih ⊢; omega
theorem actCells_get (l : List ActN) (i : Nat) (h : i < l.length) : (actCells l).getD (i * 3) .nilFunc = .int .i64 (l[i].kind : Int) ∧ (actCells l).getD (i * 3 + 1) .nilFunc = .int .i64 (l[i].at' : Int) ∧ (actCells l).getD (i * 3 + 2) .nilFunc = .int .i64 (l[i].to' : Int) := by
  induction l generalizing i with
  | nil => simp at h
  | cons a l ih =>
    cases i with
    | zero => simp [actCells, ActN.vals]
    | succ i =>
      have := ih i (by simpa using h)
      simp only [actCells, List.flatMap_cons, ActN.vals, List.cons_append, List.nil_append, List.getElem_cons_succ, Nat.add_mul, Nat.one_mul] at this ⊢
      simpa using this

/-- A slice of structs of three numbers. -/
structure Acts3 (w : World) (A : Option Addr) (len cap : Nat) (E : Nat → Int × Int × Int) : Prop where
  max : len ≤ maxLen
  le : len ≤ cap
  reads : 0 < len → ∃ x, A = some x ∧ ∀ i, i < len → w.cell? (x.add (i * 3)) = some (.int .i64 (E i).1) ∧ w.cell? (x.add (i * 3 + 1)) = some (.int .i64 (E i).2.1) ∧ w.cell? (x.add (i * 3 + 2)) = some (.int .i64 (E i).2.2)

theorem Acts3.below {w w' : World} {A : Option Addr} {len cap : Nat} {E : Nat → Int × Int × Int} (h : Acts3 w A len cap E) (hB : Below w.heap.size w w') : Acts3 w' A len cap E := by
  refine ⟨h.max, h.le, fun hl => ?_⟩
  obtain ⟨x, rfl, hc⟩ := h.reads hl
  have hb : x.block < w.heap.size := by have := World.block_lt_of_cell? _ _ (hc 0 hl).1; rwa [add_block] at this
  exact ⟨x, rfl, fun i hi => ⟨(hB.cell (p := x.add (i * 3)) (by rw [add_block]; exact hb)).trans (hc i hi).1, (hB.cell (p := x.add (i * 3 + 1)) (by rw [add_block]; exact hb)).trans (hc i hi).2.1, (hB.cell (p := x.add (i * 3 + 2)) (by rw [add_block]; exact hb)).trans (hc i hi).2.2⟩⟩
theorem Try.infoAct : (Try.prog.info? 79).map (fun i => (i.zero, i.size, i.bytes)) = some (some (.agg #[.int .i64 0, .int .i64 0, .int .i64 0]), 3, 24) := by kernel_rfl
theorem add_field (a : Addr) (i j : Nat) (hj : 0 < j) : a.add (i + j) = ⟨(a.add i).block, (a.add i).off + j, none⟩ := by
  unfold Addr.add
  rw [if_neg (by omega)]
  by_cases hi : i = 0 <;> simp [hi, Nat.add_assoc]
theorem add_add' (a : Addr) (i j : Nat) : (a.add i).add j = a.add (i + j) := by
  unfold Addr.add
  by_cases hi : i = 0 <;> by_cases hj : j = 0 <;> simp [hi, hj, Nat.add_assoc]

/-- What the loop has made: the steps. -/
def ActsPost (w : World) (len : Nat) (E : Nat → Int × Int × Int) (e : Ending) (w' : World) : Prop := ∃ A' bl cap', e = .returned (.slice A' (min len 40) cap') ∧ ActsAt w' A' bl cap' (actsTo E (min len 40)) ∧ w.heap.size ≤ bl ∧ bl < w'.heap.size ∧ Below w.heap.size w w'
theorem acts_end {w wr : World} {ao : Option Addr} {q cp len : Nat} {E : Nat → Int × Int × Int} {T : TypeId} (hO : wr.ownsRow w.heap.size T 3 (.slice ao q cp) q (actCells (actsTo E q))) (hm : q = min len 40) (hB : Below w.heap.size w wr) (hlt : w.heap.size < wr.heap.size) :
    ActsPost w len E (.returned (.slice ao q cp)) wr := by
  subst hm
  obtain ⟨ao', cp', hv, hcp, _, hc⟩ := own_shape hO
  cases hv
  have hok : ∀ a ∈ actsTo E (min len 40), a.ok := by
    intro a ha
    simp only [actsTo, List.mem_map] at ha
    obtain ⟨i, _, rfl⟩ := ha
    exact actOf_ok _ _ _
  have hlen : (actsTo E (min len 40)).length = min len 40 := actsTo_length _ _
  by_cases h0 : 0 < min len 40
  · obtain ⟨g, rfl, hg⟩ := hc h0
    have hgl := hO.lt g rfl
    refine ⟨_, g, cp, rfl, ⟨by omega, by omega, hok, .inr ⟨rfl, fun i hi => ?_⟩⟩, hgl.1, hgl.2, hB⟩
    obtain ⟨h1, h2, h3⟩ := actCells_get (actsTo E (min len 40)) i hi
    rw [hlen] at hi
    exact ⟨(hg _ (by omega)).trans (by rw [h1]), (hg _ (by omega)).trans (by rw [h2]), (hg _ (by omega)).trans (by rw [h3])⟩
  · have hnil : actsTo E (min len 40) = [] := List.eq_nil_of_length_eq_zero (by omega)
    rcases ao with _ | ad
    · exact ⟨none, w.heap.size, cp, rfl, ⟨by omega, by omega, hok, .inl ⟨rfl, hnil⟩⟩, Nat.le_refl _, hlt, hB⟩
    · rcases hO.2 with ⟨h, _⟩ | ⟨g, c, cur, hv, h1, h2, _⟩
      · cases h
      · cases hv
        exact ⟨_, g, _, rfl, ⟨by omega, by omega, hok, .inr ⟨rfl, fun i hi => by omega⟩⟩, h1, lt_of_block h2, hB⟩

set_option maxRecDepth 100000 in
set_option maxHeartbeats 4000000 in
theorem acts_any (w : World) (A : Option Addr) (len cap : Nat) (E : Nat → Int × Int × Int) (h : Acts3 w A len cap E) :
    Calls Try.prog 27 #[.slice A len cap] w (ActsPost w len E) := by
  obtain ⟨i0, hi, hz0, hz1, hz2⟩ := info_parts Try.infoAct
  have H := hid h
  have hmax := h.max
  unfold maxLen at hmax
  clear h
  go_enter Try.func27, Try.ntmps27
  go_wp2_with fail
  go_loopw [3, 4] (fun v x wr => ∃ q : Nat, q ≤ len ∧ q ≤ 40 ∧ x = .int .i64 q ∧ wr.ownsRow w.heap.size 79 3 v q (actCells (actsTo E q)) ∧ Below w.heap.size w wr ∧ w.heap.size < wr.heap.size) (fun _ x _ => 40 - (intOf x).toNat)
  case atStart => exact ⟨0, Nat.zero_le _, Nat.zero_le _, rfl, World.ownsRow_lit (base := w.heap.size) (e := 79) (size := 3) w #[] 0 (Nat.le_refl _) (by decide) rfl, (Below.refl _ _).alloc (Nat.le_refl _) _, by simp⟩
  case round =>
    obtain ⟨q, hq1, hq2, rfl, hO, hB, hlw⟩ := hrel
    have HO := hid hO
    have HB := hid hB
    have hbs := hB.size
    clear hO hB
    by_cases hin : q < len ∧ q < 40
    · obtain ⟨hql, hq40⟩ := hin
      have d1 : decide (q < len) = true := by simp; omega
      have d2 : decide ((q : Int) < 40) = true := by simp; omega
      have hqi : (q : Int) < (len : Int) := by omega
      have hqi0 : (0 : Int) ≤ (q : Int) := by omega
      obtain ⟨ad, rfl, hc⟩ := H.out.reads (by omega)
      obtain ⟨r0, r1, r2⟩ := hc q hql
      clear hc
      have hbl : ad.block < w.heap.size := by have := World.block_lt_of_cell? _ _ r0; rwa [add_block] at this
      have e1 : bits .and .i64 (E q).1 255 = (E q).1 % 256 := i64_low _ 8 255 rfl (by decide)
      have e2 : bits .and .i64 (E q).2.1 3 = (E q).2.1 % 4 := i64_low _ 2 3 rfl (by decide)
      have e3 : bits .and .i64 (E q).2.2 255 = (E q).2.2 % 256 := i64_low _ 8 255 rfl (by decide)
      have hsu := actsTo_succ E q
      obtain ⟨⟨k, hk⟩, ⟨a, ha⟩, ⟨t, ht⟩⟩ : (∃ k, (E q).1 = k) ∧ (∃ a, (E q).2.1 = a) ∧ (∃ t, (E q).2.2 = t) := ⟨⟨_, rfl⟩, ⟨_, rfl⟩, ⟨_, rfl⟩⟩
      rw [hk] at e1 r0 hsu
      rw [ha] at e2 r1 hsu
      rw [ht] at e3 r2 hsu
      have r0' := (HB.out.cell (p := ad.add (q * 3)) (by rw [add_block]; exact hbl)).trans r0
      have r1' := (HB.out.cell (p := ad.add (q * 3 + 1)) (by rw [add_block]; exact hbl)).trans r1
      have r2' := (HB.out.cell (p := ad.add (q * 3 + 2)) (by rw [add_block]; exact hbl)).trans r2
      obtain ⟨k5, hk5⟩ : ∃ k5 : Nat, (k % 256).tmod 5 = (k5 : Int) := ⟨(k % 256 % 5).toNat, by rw [Int.tmod_eq_emod_of_nonneg (by omega)]; omega⟩
      obtain ⟨a4, ha4⟩ : ∃ a4 : Nat, a % 4 = (a4 : Int) := ⟨(a % 4).toNat, by omega⟩
      obtain ⟨t1, ht1⟩ : ∃ t1 : Nat, IntKind.i64.wrap (1 + t % 256) = (t1 : Int) := ⟨(1 + t % 256).toNat, by rw [IntWalk.i64_in _ (by omega)]; omega⟩
      have hact : actOf k a t = ⟨k5, a4, t1⟩ := by
        rw [Int.tmod_eq_emod_of_nonneg (by omega)] at hk5
        rw [IntWalk.i64_in _ (by omega)] at ht1
        unfold actOf
        rw [hk5, ha4, ht1]
        simp
      rw [hact] at hsu
      clear hact
      have Hsu := hid hsu
      rw [add_field ad (q * 3) 1 (by decide)] at r1'
      rw [add_field ad (q * 3) 2 (by decide)] at r2'
      have hpb : (ad.add (q * 3)).block < w.heap.size := by rw [add_block]; exact hbl
      clear hk ha ht r0 r1 r2 hsu
      have hlen1 : q + 1 ≤ maxLen := by unfold maxLen; omega
      have hb1 : (q + 1) * 24 ≤ 140737488355328 := by omega
      have hrow : ∀ x : Nat, x < w.heap.size → some x ≠ u3.ownBlock := fun x hx e => by have := (HO.out.lt x e.symm).1; omega
      go_upto_region 5 with fail
      go_region_held3 (fun w' => w'.cell? (ad.add (q * 3)) = some (.int .i64 k) ∧ w'.cell? ⟨(ad.add (q * 3)).block, (ad.add (q * 3)).off + 1, none⟩ = some (.int .i64 a) ∧ w'.cell? ⟨(ad.add (q * 3)).block, (ad.add (q * 3)).off + 2, none⟩ = some (.int .i64 t))
        (first
          | go_keep
          | (go_split_ands
             refine ⟨?_, ?_, ?_⟩
             all_goals (rw [hgrow.cell_far _ (by simp; omega) (hrow _ (by first | omega | (simp only []; omega)))]; assumption)))
        ((refine step_append_lies _ (by rfl) _ _ _ (by rfl) w.heap.size 79 i0 _ 3 24 Try.underlying54 hi hz0 hz1 hz2 rfl (by omega) u3 q (actCells (actsTo E q)) (by rfl) ((HO.out.alloc _).drew)
            ⟨wr.heap.size, 0, none⟩ 1 1 [.int .i64 (k5 : Int), .int .i64 (a4 : Int), .int .i64 (t1 : Int)] (by rfl) (by rfl) (World.news_of_block (cs := #[.int .i64 (k5 : Int), .int .i64 (a4 : Int), .int .i64 (t1 : Int)]) (t := 79) (fr := (0, 0)) (heap_alloc_new wr _)) (by simp [Value.oneCell'])
            (by omega) hlen1 hb1 (by simp; omega) (wr.heap.size + 1) (by simp) ?_; intro gg cp w1 hown1 hgrow hat hlt))
      have hB1 : Below w.heap.size w w1 := ((HB.out.alloc hbs _).drew).grown hgrow (by simp; omega) (fun x hx => (HO.out.lt x hx).1)
      have HB1 := hid hB1
      have Hlw1 : Hid (w.heap.size < w1.heap.size) := hid (by have := hgrow.size; simp at this; omega)
      have HO1 := hid hown1
      clear hown1 hgrow hB1 hrow hk5 ha4 ht1 e1 e2 e3 hat
      go_wp2_with fail
      refine ⟨⟨q + 1, by omega, by omega, by go_num, ?_, HB1.out, Hlw1.out⟩, by simp [intOf]; omega⟩
      rw [Hsu.out]
      have h := HO1.out
      unfold actCells at h ⊢
      rw [List.flatMap_append]
      exact h
    · have hd : (decide ((q : Int) < (len : Int)) && decide ((q : Int) < 40)) = false := by simp; omega
      have hmin : q = min len 40 := by omega
      obtain ⟨ao, cp, rfl, _, _, _⟩ := own_shape HO.out
      have Hend := hid (acts_end HO.out hmin HB.out hlw)
      clear hmin
      by_cases hql : q < len
      · have d1 : decide (q < len) = true := by simp; omega
        have d2 : decide ((q : Int) < 40) = false := by simp; omega
        go_wp2_with fail
        go_ret
        exact Hend.out
      · have d1 : decide (q < len) = false := by simp; omega
        go_wp2_with fail
        go_ret
        exact Hend.out
end Go.Proofs.Ytmdcalkfapcafaa
