/-
  A step of law 03's PackTakes: the document's, and the program's In.
-/
import Derived.Test.YtkmbbgnbklklcaaDoorRef3f
import Derived.Test.YtkmbbgnbklklcaaDoorPackB
namespace Go.Proofs.YtkmbbgnbklklcaaDoor
open Go.RowKit

theorem in_left (b : Nat) (l : List UInt8) (w : World) (hI : InAt w b l) :
    Calls Tryd.prog 27 #[.pointer (some ⟨b, 0, none⟩)] w fun e w' => e = .returned (.int .i64 (l.length : Int)) ∧ w' = w := by
  have c0 := cell_of_one hI
  have hS := S_size l
  go_enter Tryd.func27, Tryd.ntmps27
  go_wp2_with fail
  go_ret
  exact ⟨rfl, rfl⟩

/-- How a call of the program's In ends, when the document's has the error ye, and what is left. -/
def Ends (ye : Int) (ret : Value) (b : Nat) (ys : List UInt8) (w : World) (e : Ending) (w' : World) : Prop := ((ye = 0 ∧ e = .returned ret) ∨ (ye ≠ 0 ∧ e = .panicked (fault ye))) ∧ InAt w' b ys ∧ Fr (fun k => k = b) w w'
/-- What the document's takes answers. -/
abbrev Takes (kind n : Int) (most : Nat) (s ys : List UInt8) (ye : Int) (N : Nat) (t : List UInt8) : Prop := ∀ w, Calls Tryd.prog 21 #[.agg #[.string (S s), .int .i64 0], .agg #[.int .i64 kind, .int .i64 n, .int .u64 (most : Int)]] w fun r w' => r = .returned (.tuple #[.agg #[.string (S ys), .int .i64 ye], .int .u64 (N : Int), .string (S t)]) ∧ Below w.heap.size w w'

theorem step_text (s : List UInt8) (kind n : Int) (most m : Nat) (hm : bits .and .i64 kind 255 = (m : Int)) (hk : m % 5 = 0) :
    ∃ ys ye t, Takes kind n most s ys ye 0 t ∧ ys.length ≤ s.length ∧ 0 ≤ ye ∧ ∀ b w, InAt w b s → Calls Tryd.prog 22 #[.pointer (some ⟨b, 0, none⟩), .int .i64 n] w (Ends ye (.string (S t)) b ys w) := by
  have hT := fun w => takes_text s 0 kind n most w m hm hk _ _ _ (ref3_text_v s 0 n)
  by_cases h0 : n < 0
  · have hr : rtext ⟨s, 0⟩ n = (⟨s, 4⟩, []) := by unfold rtext; simp [h0]
    rw [hr] at hT
    refine ⟨s, 4, [], hT, Nat.le_refl _, by decide, fun b w hI => (in_text_neg b n w h0).mono ?_⟩
    rintro e w' ⟨rfl, rfl⟩
    exact ⟨.inr ⟨by decide, rfl⟩, hI, Fr.refl _ _⟩
  · obtain ⟨k, rfl⟩ : ∃ k : Nat, n = k := ⟨n.toNat, by omega⟩
    by_cases h1 : s.length < k
    · have hr : rtext ⟨s, 0⟩ (k : Int) = (⟨s, 2⟩, []) := by unfold rtext; simp [h0]; omega
      rw [hr] at hT
      refine ⟨s, 2, [], hT, Nat.le_refl _, by decide, fun b w hI => (in_text_end b s k w hI h1).mono ?_⟩
      rintro e w' ⟨rfl, rfl⟩
      exact ⟨.inr ⟨by decide, rfl⟩, hI, Fr.refl _ _⟩
    · have hr : rtext ⟨s, 0⟩ (k : Int) = (⟨s.drop k, 0⟩, s.take k) := by unfold rtext; simp [h0, h1]
      rw [hr] at hT
      refine ⟨s.drop k, 0, s.take k, hT, by simp, by decide, fun b w hI => (in_text_some b s k w hI (by omega)).mono ?_⟩
      rintro e w' ⟨rfl, rfl⟩
      exact ⟨.inl ⟨rfl, rfl⟩, hI.set _, Fr.setCell (S := fun k => k = b) (Fr.refl _ w) (p := ⟨b, 0, none⟩) (fun _ => rfl) _⟩

theorem step_num (s : List UInt8) (kind n : Int) (most m : Nat) (hm : bits .and .i64 kind 255 = (m : Int)) (hk : m % 5 = 1) :
    ∃ ys ye N, Takes kind n most s ys ye N [] ∧ ys.length ≤ s.length ∧ 0 ≤ ye ∧ ∀ b w, InAt w b s → Calls Tryd.prog 23 #[.pointer (some ⟨b, 0, none⟩), .int .i64 n] w (Ends ye (.int .u64 (N : Int)) b ys w) := by
  obtain ⟨k, hn⟩ : ∃ k : Nat, min (max n 1) 8 = (k : Int) := ⟨(min (max n 1) 8).toNat, by omega⟩
  have hT := fun w => takes_num s 0 kind n most w m hm hk _ _ _ (fun w => ref3_number s 0 n k w hn)
  by_cases h1 : s.length < k
  · have hr : rtext ⟨s, 0⟩ (k : Int) = (⟨s, 2⟩, []) := by unfold rtext; rw [if_neg (by simp), if_neg (by omega), if_pos (show (s.length : Int) < k by omega)]
    rw [hr] at hT
    refine ⟨s, 2, 0, hT, Nat.le_refl _, by decide, fun b w hI => (in_num_end b s n k w hI hn h1).mono ?_⟩
    rintro e w' ⟨rfl, rfl⟩
    exact ⟨.inr ⟨by decide, rfl⟩, hI, Fr.refl _ _⟩
  · have hr : rtext ⟨s, 0⟩ (k : Int) = (⟨s.drop k, 0⟩, s.take k) := by unfold rtext; rw [if_neg (by simp), if_neg (by omega), if_neg (show ¬ (s.length : Int) < k by omega)]; rfl
    rw [hr] at hT
    refine ⟨s.drop k, 0, be (s.take k), hT, by simp, by decide, fun b w hI => (in_num_some b s n k w hI hn (by omega)).mono ?_⟩
    rintro e w' ⟨rfl, h2, h3⟩
    exact ⟨.inl ⟨rfl, rfl⟩, h2, h3⟩

theorem step_small (s : List UInt8) (kind n : Int) (most m : Nat) (hm : bits .and .i64 kind 255 = (m : Int)) (hk : m % 5 = 2) :
    ∃ ys ye N, N ≤ 4611686018427387904 ∧ Takes kind n most s ys ye N [] ∧ ys.length ≤ s.length ∧ 0 ≤ ye ∧ ∀ b w, InAt w b s → Calls Tryd.prog 24 #[.pointer (some ⟨b, 0, none⟩), .int .i64 n, .int .u64 (most : Int)] w (Ends ye (.int .i64 (N : Int)) b ys w) := by
  obtain ⟨k, hn⟩ : ∃ k : Nat, min (max n 1) 8 = (k : Int) := ⟨(min (max n 1) 8).toNat, by omega⟩
  have hw : ∀ N : Nat, N ≤ 4611686018427387904 → IntKind.u64.wrap (N : Int) = (N : Int) := fun N h => by rw [IntKind.wrap_u64]; omega
  by_cases h1 : s.length < k
  · have hr : rtext ⟨s, 0⟩ (k : Int) = (⟨s, 2⟩, []) := by unfold rtext; rw [if_neg (by simp), if_neg (by omega), if_pos (show (s.length : Int) < k by omega)]
    have hN : be (rtext ⟨s, 0⟩ (k : Int)).2 = 0 := by rw [hr]; rfl
    have hb : ¬ rbad ⟨s, 2⟩ 0 most := fun h => absurd (show (2 : Int) = 0 from h.1) (by decide)
    have hc := fun w => ref3_small s 0 n k most w hn ⟨s, 2⟩ 0 (by rw [hr]) hN
    rw [if_neg hb, if_neg hb] at hc
    refine ⟨s, 2, 0, by decide, fun w => takes_small s 0 kind n most w m hm hk _ _ 0 (by decide) hc, Nat.le_refl _, by decide, fun b w hI => (in_small_end b s n k (most : Int) w hI hn h1).mono ?_⟩
    rintro e w' ⟨rfl, rfl⟩
    exact ⟨.inr ⟨by decide, rfl⟩, hI, Fr.refl _ _⟩
  · have hr : rtext ⟨s, 0⟩ (k : Int) = (⟨s.drop k, 0⟩, s.take k) := by unfold rtext; rw [if_neg (by simp), if_neg (by omega), if_neg (show ¬ (s.length : Int) < k by omega)]; rfl
    have hN : be (rtext ⟨s, 0⟩ (k : Int)).2 = be (s.take k) := by rw [hr]
    have hc := fun w => ref3_small s 0 n k most w hn ⟨s.drop k, 0⟩ _ (by rw [hr]) hN
    by_cases hx : small (be (s.take k)) most
    · have hb : ¬ rbad ⟨s.drop k, 0⟩ (be (s.take k)) most := fun h => by have h1 := hx.1; have h2 := hx.2; rcases h.2 with h | h <;> omega
      rw [if_neg hb, if_neg hb] at hc
      refine ⟨s.drop k, 0, be (s.take k), hx.2, fun w => takes_small s 0 kind n most w m hm hk _ _ _ (hw _ hx.2) hc, by simp, by decide, fun b w hI => (in_small_some b s n k most w hI hn (by omega) hx).mono ?_⟩
      rintro e w' ⟨rfl, h2, h3⟩
      exact ⟨.inl ⟨rfl, rfl⟩, h2, h3⟩
    · have hb : rbad ⟨s.drop k, 0⟩ (be (s.take k)) most := ⟨rfl, by unfold small at hx; omega⟩
      rw [if_pos hb, if_pos hb] at hc
      refine ⟨s.drop k, 3, 0, by decide, fun w => takes_small s 0 kind n most w m hm hk _ _ 0 (by decide) hc, by simp, by decide, fun b w hI => (in_small_big b s n k most w hI hn (by omega) hx).mono ?_⟩
      rintro e w' ⟨rfl, h2, h3⟩
      exact ⟨.inr ⟨by decide, rfl⟩, h2, h3⟩

theorem step_zero (s : List UInt8) (kind n : Int) (most m : Nat) (hm : bits .and .i64 kind 255 = (m : Int)) (hk : m % 5 = 3) (hl : s.length ≤ 1000000) :
    ∃ ys ye, Takes kind n most s ys ye 0 [] ∧ ys.length ≤ s.length ∧ 0 ≤ ye ∧ ∀ b w, InAt w b s → Calls Tryd.prog 25 #[.pointer (some ⟨b, 0, none⟩)] w (Ends ye (.tuple #[]) b ys w) := by
  have hc : ∀ w, Calls Tryd.prog 77 #[.agg #[.string (S s), .int .i64 0]] w fun r w' => r = .returned (.agg #[.string (S (rzero ⟨s, 0⟩).s), .int .i64 (rzero ⟨s, 0⟩).e]) ∧ Below w.heap.size w w' := fun w => (ref3_zero s 0 w hl).mono fun r w' ⟨s', e', h1, h2, h3⟩ => ⟨by rw [h2]; exact h1, h3⟩
  have hT := fun w => takes_zero s 0 kind n most w m hm hk _ _ hc
  by_cases h0 : ∀ c ∈ s, c = 0
  · have hr : rzero ⟨s, 0⟩ = ⟨[], 0⟩ := by unfold rzero; rw [if_neg (by simp), if_pos h0]
    rw [hr] at hT
    refine ⟨[], 0, hT, by simp, by decide, fun b w hI => (in_zero_some b s w hI (by omega) h0).mono ?_⟩
    rintro e w' ⟨rfl, h2, h3⟩
    exact ⟨.inl ⟨rfl, rfl⟩, h2, h3⟩
  · have hr : rzero ⟨s, 0⟩ = ⟨s, 1⟩ := by unfold rzero; rw [if_neg (by simp), if_neg h0]
    rw [hr] at hT
    refine ⟨s, 1, hT, Nat.le_refl _, by decide, fun b w hI => (in_zero_bad b s w hI (by omega) h0).mono ?_⟩
    rintro e w' ⟨rfl, h2⟩
    exact ⟨.inr ⟨by decide, rfl⟩, (h2.block _ (lt_of_block hI)).trans hI, Fr.ofBelow h2 _⟩

theorem step_done (s : List UInt8) (kind n : Int) (most m : Nat) (hm : bits .and .i64 kind 255 = (m : Int)) (hk : m % 5 = 4) :
    ∃ ys ye, Takes kind n most s ys ye 0 [] ∧ ys.length ≤ s.length ∧ 0 ≤ ye ∧ ∀ b w, InAt w b s → Calls Tryd.prog 26 #[.pointer (some ⟨b, 0, none⟩)] w (Ends ye (.tuple #[]) b ys w) := by
  have hT := fun w => takes_done s 0 kind n most w m hm hk _ _ (fun w => ref3_done s 0 w)
  by_cases h0 : s = []
  · have hr : rdone ⟨s, 0⟩ = ⟨s, 0⟩ := by unfold rdone; rw [if_neg (by simp [h0])]
    rw [hr] at hT
    refine ⟨s, 0, hT, Nat.le_refl _, by decide, fun b w hI => ?_⟩
    rw [h0] at hI ⊢
    refine (in_done_some b w hI).mono ?_
    rintro e w' ⟨rfl, rfl⟩
    exact ⟨.inl ⟨rfl, rfl⟩, hI, Fr.refl _ _⟩
  · have hr : rdone ⟨s, 0⟩ = ⟨s, 1⟩ := by unfold rdone; rw [if_pos (by simp [h0])]
    rw [hr] at hT
    refine ⟨s, 1, hT, Nat.le_refl _, by decide, fun b w hI => (in_done_bad b s w hI h0).mono ?_⟩
    rintro e w' ⟨rfl, rfl⟩
    exact ⟨.inr ⟨by decide, rfl⟩, hI, Fr.refl _ _⟩
end Go.Proofs.YtkmbbgnbklklcaaDoor
