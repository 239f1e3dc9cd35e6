/-
  The document's disk: its value; spend, Read, bent, blank.
-/
import Derived.Test.YtkmbbgnbklklcaaRow
import Derived.Test.YtkmbbgnbklklcaaL04b
import Derived.Laws.ResultCell
namespace Go.Proofs.Ytkmbbgnbklklcaa
open Go.RowKit

/-- How many calls work yet; -1: it isn't armed. -/
def Dsk.rl (D : Dsk) : Int := if D.armed then D.left else -1
def rv (a1 : Option Addr) (c1 : Nat) (a2 : Option Addr) (c2 : Nat) (D : Dsk) : Value := .agg #[.slice a1 D.n c1, .slice a2 D.n c2, .int .i64 D.rl, .bool D.dead]
def RefAt (w : World) (v : Value) (D : Dsk) : Prop := ∃ a1 c1 a2 c2, v = rv a1 c1 a2 c2 D ∧ SRow w a1 D.n D.sure ∧ SRow w a2 D.n D.now
theorem RefAt.below {w w' : World} {v : Value} {D : Dsk} (h : RefAt w v D) (hB : Below w.heap.size w w') : RefAt w' v D := by
  obtain ⟨a1, c1, a2, c2, h1, h2, h3⟩ := h
  exact ⟨a1, c1, a2, c2, h1, h2.below hB, h3.below hB⟩
theorem RefAt.disk {w w' : World} {v : Value} {D D2 : Dsk} {B b g : Nat} (h : RefAt w v D) (hn : D2.n = D.n) (hD : DiskAt w B b g D2) (hF : Fr (dfoot b g) w w') : RefAt w' v D := by
  obtain ⟨a1, c1, a2, c2, h1, h2, h3⟩ := h
  rw [← hn] at h2 h3
  exact ⟨a1, c1, a2, c2, h1, by rw [← hn]; exact h2.disk hD hF, by rw [← hn]; exact h3.disk hD hF⟩
theorem less_rl {D : Dsk} (hf : D.fit) : D.less.rl = if 0 < D.rl then D.rl - 1 else D.rl := by
  unfold Dsk.less Dsk.rl
  have h := hf.2
  cases ha : D.armed
  · simp
  · have := h ha
    simp only [if_true]
    rw [if_pos (by omega)]
    omega
theorem fit_rl {D : Dsk} (hd : D.dead = false) : D.fit ↔ D.rl ≠ 0 := by
  unfold Dsk.fit Dsk.rl
  cases ha : D.armed
  · simp [hd]
  · simp [hd]; omega

theorem ref4_spend (a1 : Option Addr) (c1 : Nat) (a2 : Option Addr) (c2 : Nat) (D : Dsk) (w : World) (hf : D.fit) (hb : D.left ≤ 9223372036854775807) :
    Calls Try.prog 55 #[rv a1 c1 a2 c2 D] w fun e w' => e = .returned (.tuple #[rv a1 c1 a2 c2 D.less, .int .i64 0]) ∧ Below w.heap.size w w' := by
  have h1 := (fit_rl hf.1).1 hf
  have h2 := less_rl hf
  have hd := hf.1
  have hr : -1 ≤ D.rl ∧ D.rl ≤ 9223372036854775807 := by unfold Dsk.rl; split <;> omega
  unfold rv
  rw [show D.less.n = D.n from rfl, show D.less.dead = D.dead from rfl]
  rw [hd]
  have d1 : (D.rl == 0) = false := by simpa using h1
  by_cases hp : 0 < D.rl
  · have d2 : decide (0 < D.rl) = true := by simpa using hp
    rw [if_pos hp] at h2
    have e1 : IntKind.i64.wrap (D.rl - 1) = D.less.rl := by rw [IntKind.wrap_i64]; omega
    generalize D.less.rl = r at *
    clear h2 h1 hr
    go_enter Try.func55, Try.ntmps55
    go_wp2_with fail
    refine bodyPost_ret (v := .tuple #[.agg #[.slice a1 D.n c1, .slice a2 D.n c2, .int .i64 r, .bool false], .int .i64 0]) ?_ rfl ⟨?_, ((Below.refl _ _).alloc (Nat.le_refl _) _).alloc (by simp) _⟩
    · rw [results_cell_tmp rfl]
      have hb := heap_newk (w := w.alloc (.cells #[.slice a1 D.n c1, .slice a2 D.n c2, .int .i64 r, .bool false] 52)) (k := w.heap.size + 1) (.cells #[.slice a1 D.n c1, .slice a2 D.n c2, .int .i64 r, .bool false] 52) (by simp)
      have c0 := cell_of_block hb 0
      have c1 := cell_of_block hb 1
      have c2 := cell_of_block hb 2
      have c3 := cell_of_block hb 3
      simp only [List.getElem?_toArray, List.getElem?_cons_zero, List.getElem?_cons_succ] at c0 c1 c2 c3
      go_simp
    · rfl
  · have d2 : decide (0 < D.rl) = false := by simpa using hp
    rw [if_neg hp] at h2
    rw [h2]
    go_enter Try.func55, Try.ntmps55
    go_wp2_with fail
    refine bodyPost_ret (v := .tuple #[.agg #[.slice a1 D.n c1, .slice a2 D.n c2, .int .i64 D.rl, .bool false], .int .i64 0]) ?_ rfl ⟨?_, ((Below.refl _ _).alloc (Nat.le_refl _) _).alloc (by simp) _⟩
    · rw [results_cell_tmp rfl]
      have hb := heap_newk (w := w.alloc (.cells #[.slice a1 D.n c1, .slice a2 D.n c2, .int .i64 D.rl, .bool false] 52)) (k := w.heap.size + 1) (.cells #[.slice a1 D.n c1, .slice a2 D.n c2, .int .i64 D.rl, .bool false] 52) (by simp)
      have c0 := cell_of_block hb 0
      have c1 := cell_of_block hb 1
      have c2 := cell_of_block hb 2
      have c3 := cell_of_block hb 3
      simp only [List.getElem?_toArray, List.getElem?_cons_zero, List.getElem?_cons_succ] at c0 c1 c2 c3
      go_simp
    · rfl
theorem ref4_spend_bad (a1 : Option Addr) (c1 : Nat) (a2 : Option Addr) (c2 : Nat) (D : Dsk) (w : World) (hf : ¬ D.fit) :
    Calls Try.prog 55 #[rv a1 c1 a2 c2 D] w fun e w' => e = .returned (.tuple #[rv a1 c1 a2 c2 D.cut, .int .i64 12]) ∧ Below w.heap.size w w' := by
  unfold rv
  cases hd : D.dead
  · have h1 := fun h => hf ((fit_rl hd).2 h)
    have d1 : (D.rl == 0) = true := by simpa using h1
    go_enter Try.func55, Try.ntmps55
    go_wp2_with fail
    refine bodyPost_ret (v := .tuple #[.agg #[.slice a1 D.n c1, .slice a2 D.n c2, .int .i64 D.rl, .bool true], .int .i64 12]) ?_ rfl ⟨?_, ((Below.refl _ _).alloc (Nat.le_refl _) _).alloc (by simp) _⟩
    · rw [results_cell_tmp rfl]
      have hb := heap_newk (w := w.alloc (.cells #[.slice a1 D.n c1, .slice a2 D.n c2, .int .i64 D.rl, .bool true] 52)) (k := w.heap.size + 1) (.cells #[.slice a1 D.n c1, .slice a2 D.n c2, .int .i64 D.rl, .bool true] 52) (by simp)
      have c0 := cell_of_block hb 0
      have c1 := cell_of_block hb 1
      have c2 := cell_of_block hb 2
      have c3 := cell_of_block hb 3
      simp only [List.getElem?_toArray, List.getElem?_cons_zero, List.getElem?_cons_succ] at c0 c1 c2 c3
      go_simp
    · rfl
  · go_enter Try.func55, Try.ntmps55
    go_wp2_with fail
    refine bodyPost_ret (v := .tuple #[.agg #[.slice a1 D.n c1, .slice a2 D.n c2, .int .i64 D.rl, .bool true], .int .i64 12]) ?_ rfl ⟨?_, ((Below.refl _ _).alloc (Nat.le_refl _) _).alloc (by simp) _⟩
    · rw [results_cell_tmp rfl]
      have hb := heap_newk (w := w.alloc (.cells #[.slice a1 D.n c1, .slice a2 D.n c2, .int .i64 D.rl, .bool true] 52)) (k := w.heap.size + 1) (.cells #[.slice a1 D.n c1, .slice a2 D.n c2, .int .i64 D.rl, .bool true] 52) (by simp)
      have c0 := cell_of_block hb 0
      have c1 := cell_of_block hb 1
      have c2 := cell_of_block hb 2
      have c3 := cell_of_block hb 3
      simp only [List.getElem?_toArray, List.getElem?_cons_zero, List.getElem?_cons_succ] at c0 c1 c2 c3
      go_simp
    · rfl

theorem ref4_read {w : World} {v : Value} {D : Dsk} (h : RefAt w v D) (i : Int) :
    Calls Try.prog 39 #[v, .int .i64 i] w fun e w' => e = .returned (.tuple #[.string (S (D.rText i)), .int .i64 (D.rErr i)]) ∧ Below w.heap.size w w' := by
  obtain ⟨a1, c1, a2, c2, rfl, h1, h2⟩ := h
  unfold rv Dsk.rText Dsk.rErr
  cases hd : D.dead
  · have hff : ¬ (false = true) := by decide
    rw [if_neg hff, if_neg hff]
    by_cases ho : D.out i
    · rw [if_pos ho, if_pos ho]
      unfold Dsk.out at ho
      by_cases hi : i < 0
      · have d1 : decide (i < 0) = true := by simpa using hi
        go_enter Try.func39, Try.ntmps39
        go_wp2_with fail
        all_goals
          go_ret2
          exact ⟨rfl, by first | exact (Below.refl _ _).alloc (Nat.le_refl _) _ | exact ((Below.refl _ _).alloc (Nat.le_refl _) _).drew⟩
      · have d1 : decide (i < 0) = false := by simpa using hi
        have d2 : decide ((D.n : Int) ≤ i) = true := by simp; omega
        go_enter Try.func39, Try.ntmps39
        go_wp2_with fail
        all_goals
          go_ret2
          exact ⟨rfl, by first | exact (Below.refl _ _).alloc (Nat.le_refl _) _ | exact ((Below.refl _ _).alloc (Nat.le_refl _) _).drew⟩
    · rw [if_neg ho, if_neg ho]
      unfold Dsk.out at ho
      obtain ⟨k, rfl⟩ : ∃ k : Nat, i = k := ⟨i.toNat, by omega⟩
      obtain ⟨g, cur, ha, hg, hc⟩ := h2 (by omega)
      subst ha
      have k0 := cell_of_block (heap_old hg (.cells #[.slice a1 D.n c1, .slice (some ⟨g, 0, none⟩) D.n c2, .int .i64 D.rl, .bool false] 52)) k
      rw [hc k (by omega)] at k0
      have d1 : decide ((k : Int) < 0) = false := by simp
      have d2 : decide ((D.n : Int) ≤ (k : Int)) = false := by simp; omega
      have d3 : k < D.n := by omega
      rw [Int.toNat_natCast]
      clear hc h1 h2 ho hg
      go_enter Try.func39, Try.ntmps39
      go_wp2_with fail
      go_ret2
      exact ⟨rfl, by first | exact (Below.refl _ _).alloc (Nat.le_refl _) _ | exact ((Below.refl _ _).alloc (Nat.le_refl _) _).drew⟩
  · rw [if_pos rfl, if_pos rfl]
    go_enter Try.func39, Try.ntmps39
    go_wp2_with fail
    all_goals
      go_ret2
      exact ⟨rfl, by first | exact (Below.refl _ _).alloc (Nat.le_refl _) _ | exact ((Below.refl _ _).alloc (Nat.le_refl _) _).drew⟩

end Go.Proofs.Ytkmbbgnbklklcaa
