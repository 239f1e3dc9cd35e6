/-
  The document's super: Read.
-/
import Derived.Test.YtkmbbgnbklklcaaDoorL07d
import Derived.Test.YtkmbbgnbklklcaaDoorL07g
namespace Go.Proofs.YtkmbbgnbklklcaaDoor
open Go.RowKit

theorem docRead_a {a b : List UInt8} {n : Nat} (ha : bearsSup a n ∧ sEp a % 2 = 0) (h : ¬ (bearsSup b n ∧ sEp b % 2 = 1) ∨ sEp b < sEp a) : docRead a b n = some (refSup a) := if_pos ⟨ha, h⟩
theorem docRead_b {a b : List UInt8} {n : Nat} (hb : bearsSup b n ∧ sEp b % 2 = 1) (h : ¬ (bearsSup a n ∧ sEp a % 2 = 0) ∨ ¬ sEp b < sEp a) : docRead a b n = some (refSup b) := by
  unfold docRead
  rw [if_neg (fun hh => by rcases h with h | h; exact h hh.1; rcases hh.2 with h2 | h2; exact h2 hb; exact h h2), if_pos hb]
theorem docRead_n {a b : List UInt8} {n : Nat} (ha : ¬ (bearsSup a n ∧ sEp a % 2 = 0)) (hb : ¬ (bearsSup b n ∧ sEp b % 2 = 1)) : docRead a b n = none := by
  unfold docRead
  rw [if_neg (fun hh => ha hh.1), if_neg hb]

set_option maxRecDepth 100000 in
set_option linter.unusedSimpArgs false in
set_option maxHeartbeats 4000000 in
theorem ref7_read (a b : List UInt8) (n : Nat) (x : Sup) (ok : Bool) (w : World) (ha : a.length = 64) (hb : b.length = 64) (hn : n ≤ 1000000) (hx : (docRead a b n).getD sup0 = x) (hok : (docRead a b n).isSome = ok) :
    Calls Tryd.prog 66 #[.string (S a), .string (S b), .int .i64 (n : Int)] w fun e w' => e = .returned (.tuple #[.agg #[.int .i64 (x.ep : Int), .int .i64 (x.jo : Int), .int .i64 (x.bi : Int), .int .i64 (x.he : Int), .int .i64 (x.ne : Int)], .bool ok]) ∧ Below w.heap.size w w' := by
  have KA := fun w => ref7_parse a 0 (n : Int) n w ha rfl hn
  have KB := fun w => ref7_parse b 1 (n : Int) n w hb rfl hn
  have da := @docRead_a a b n
  have db := @docRead_b a b n
  have dn := @docRead_n a b n
  have ea : (refSup a).ep = sEp a := rfl
  have eb : (refSup b).ep = sEp b := rfl
  have hxe : ∃ v : Value, v = .agg #[.int .i64 (x.ep : Int), .int .i64 (x.jo : Int), .int .i64 (x.bi : Int), .int .i64 (x.he : Int), .int .i64 (x.ne : Int)] := ⟨_, rfl⟩
  have hdA : decide (bearsSup a n ∧ ((sEp a % 2 : Nat) : Int) = 0) = decide (bearsSup a n ∧ sEp a % 2 = 0) := by congr 1; rw [eq_iff_iff]; constructor <;> (rintro ⟨h1, h2⟩; exact ⟨h1, by omega⟩)
  have hdB : decide (bearsSup b n ∧ ((sEp b % 2 : Nat) : Int) = 1) = decide (bearsSup b n ∧ sEp b % 2 = 1) := by congr 1; rw [eq_iff_iff]; constructor <;> (rintro ⟨h1, h2⟩; exact ⟨h1, by omega⟩)
  simp only [hdA] at KA
  simp only [hdB] at KB
  clear hdA hdB hxe
  rw [← ea, ← eb] at da db
  rw [← ea] at dn
  rw [← eb] at dn
  rw [← ea] at KA
  rw [← eb] at KB
  by_cases hA : bearsSup a n ∧ (refSup a).ep % 2 = 0
  · by_cases hBb : bearsSup b n ∧ (refSup b).ep % 2 = 1
    · by_cases hlt : (refSup b).ep < (refSup a).ep
      · rw [da hA (.inr hlt)] at hx hok
        obtain rfl : refSup a = x := hx
        obtain rfl : true = ok := hok
        simp only [decide_eq_true hA] at KA
        simp only [decide_eq_true hBb] at KB
        clear da db dn ea eb ha hb hn hA hBb
        generalize refSup a = xa at *
        generalize refSup b = xb at *
        obtain ⟨pa, ja, ia, ta, na⟩ := xa
        obtain ⟨pb, jb, ib, tb, nb⟩ := xb
        dsimp only at *
        have HKA := hid KA
        have HKB := hid KB
        clear KA KB
        have d4 : decide ((pb : Int) < (pa : Int)) = true := by simp; omega
        go_enter Tryd.func66, Tryd.ntmps66
        go_upto_region 3 with (first | (go_at_call 69; (with_reducible refine (HKA.out _).mono ?_); rintro e2 w2 ⟨rfl, hB2⟩; have HB2 := hid hB2; clear hB2) | (go_at_call 69; (with_reducible refine (HKB.out _).mono ?_); rintro e4 w4 ⟨rfl, hB4⟩; have HB4 := hid hB4; clear hB4))
        have hA3 := heap_new w2 (.cells #[.int .i64 (pa : Int), .int .i64 (ja : Int), .int .i64 (ia : Int), .int .i64 (ta : Int), .int .i64 (na : Int)] 88)
        have hR3 := heap_old ((HB2.out.block w.heap.size (by simp)).trans (heap_new w r5z)) (.cells #[.int .i64 (pa : Int), .int .i64 (ja : Int), .int .i64 (ia : Int), .int .i64 (ta : Int), .int .i64 (na : Int)] 88)
        have hB3 : Below w.heap.size w (w2.alloc (.cells #[.int .i64 (pa : Int), .int .i64 (ja : Int), .int .i64 (ia : Int), .int .i64 (ta : Int), .int .i64 (na : Int)] 88)) := (((Below.refl _ w).alloc (Nat.le_refl _) r5z).trans (HB2.out.mono (by simp))).alloc (by have h := HB2.out.size; simp at h; omega) _
        have hB5 : Below w.heap.size w (w4.alloc (.cells #[.int .i64 (pb : Int), .int .i64 (jb : Int), .int .i64 (ib : Int), .int .i64 (tb : Int), .int .i64 (nb : Int)] 88)) := (hB3.trans (HB4.out.mono hB3.size)).alloc (Nat.le_trans hB3.size HB4.out.size) _
        have hA5 := heap_old ((HB4.out.block _ (lt_of_block hA3)).trans hA3) (.cells #[.int .i64 (pb : Int), .int .i64 (jb : Int), .int .i64 (ib : Int), .int .i64 (tb : Int), .int .i64 (nb : Int)] 88)
        have hR5 := heap_old ((HB4.out.block _ (lt_of_block hR3)).trans hR3) (.cells #[.int .i64 (pb : Int), .int .i64 (jb : Int), .int .i64 (ib : Int), .int .i64 (tb : Int), .int .i64 (nb : Int)] 88)
        have hN5 := heap_new w4 (.cells #[.int .i64 (pb : Int), .int .i64 (jb : Int), .int .i64 (ib : Int), .int .i64 (tb : Int), .int .i64 (nb : Int)] 88)
        clear hA3 hR3 hB3
        generalize w4.alloc (.cells #[.int .i64 (pb : Int), .int .i64 (jb : Int), .int .i64 (ib : Int), .int .i64 (tb : Int), .int .i64 (nb : Int)] 88) = w5 at *
        generalize w4.heap.size = NB at *
        generalize w2.heap.size = NA at *
        have HB5 := hid hB5
        have HR5 := hid hR5
        obtain ⟨k0, k1, k2, k3, k4⟩ := sup_cells hA5
        obtain ⟨l0, l1, l2, l3, l4⟩ := sup_cells hN5
        obtain ⟨s0, s1, s2, s3, s4⟩ := sup_cells hR5
        obtain ⟨g0, g1, g2, g3, g4⟩ := free_five hR5
        clear hA5 hN5 hR5 hB5 HB2 HB4
        go_wp2_with fail
        have hw := five_set HR5.out (.int .i64 (pa : Int)) (.int .i64 (ja : Int)) (.int .i64 (ia : Int)) (.int .i64 (ta : Int)) (.int .i64 (na : Int))
        have hB9 := HB5.out.trans ((five_fr (w := w5) w.heap.size (.int .i64 (pa : Int)) (.int .i64 (ja : Int)) (.int .i64 (ia : Int)) (.int .i64 (ta : Int)) (.int .i64 (na : Int))).below HB5.out.size (fun k hk e => by omega))
        generalize ((((w5.setCell ⟨w.heap.size, 0, none⟩ (.int .i64 (pa : Int))).setCell ⟨w.heap.size, 1, none⟩ (.int .i64 (ja : Int))).setCell ⟨w.heap.size, 2, none⟩ (.int .i64 (ia : Int))).setCell ⟨w.heap.size, 3, none⟩ (.int .i64 (ta : Int))).setCell ⟨w.heap.size, 4, none⟩ (.int .i64 (na : Int)) = w9 at *
        obtain ⟨z0, z1, z2, z3, z4⟩ := sup_cells hw
        refine bodyPost_ret (v := .tuple #[.agg #[.int .i64 (pa : Int), .int .i64 (ja : Int), .int .i64 (ia : Int), .int .i64 (ta : Int), .int .i64 (na : Int)], .bool true]) ?_ rfl ⟨rfl, hB9⟩
        rw [results_ct rfl]
        clear hB9 hw
        go_simp
      · rw [db hBb (.inr hlt)] at hx hok
        obtain rfl : refSup b = x := hx
        obtain rfl : true = ok := hok
        simp only [decide_eq_true hA] at KA
        simp only [decide_eq_true hBb] at KB
        clear da db dn ea eb ha hb hn hA hBb
        generalize refSup a = xa at *
        generalize refSup b = xb at *
        obtain ⟨pa, ja, ia, ta, na⟩ := xa
        obtain ⟨pb, jb, ib, tb, nb⟩ := xb
        dsimp only at *
        have HKA := hid KA
        have HKB := hid KB
        clear KA KB
        have d4 : decide ((pb : Int) < (pa : Int)) = false := by simp; omega
        go_enter Tryd.func66, Tryd.ntmps66
        go_upto_region 3 with (first | (go_at_call 69; (with_reducible refine (HKA.out _).mono ?_); rintro e2 w2 ⟨rfl, hB2⟩; have HB2 := hid hB2; clear hB2) | (go_at_call 69; (with_reducible refine (HKB.out _).mono ?_); rintro e4 w4 ⟨rfl, hB4⟩; have HB4 := hid hB4; clear hB4))
        have hA3 := heap_new w2 (.cells #[.int .i64 (pa : Int), .int .i64 (ja : Int), .int .i64 (ia : Int), .int .i64 (ta : Int), .int .i64 (na : Int)] 88)
        have hR3 := heap_old ((HB2.out.block w.heap.size (by simp)).trans (heap_new w r5z)) (.cells #[.int .i64 (pa : Int), .int .i64 (ja : Int), .int .i64 (ia : Int), .int .i64 (ta : Int), .int .i64 (na : Int)] 88)
        have hB3 : Below w.heap.size w (w2.alloc (.cells #[.int .i64 (pa : Int), .int .i64 (ja : Int), .int .i64 (ia : Int), .int .i64 (ta : Int), .int .i64 (na : Int)] 88)) := (((Below.refl _ w).alloc (Nat.le_refl _) r5z).trans (HB2.out.mono (by simp))).alloc (by have h := HB2.out.size; simp at h; omega) _
        have hB5 : Below w.heap.size w (w4.alloc (.cells #[.int .i64 (pb : Int), .int .i64 (jb : Int), .int .i64 (ib : Int), .int .i64 (tb : Int), .int .i64 (nb : Int)] 88)) := (hB3.trans (HB4.out.mono hB3.size)).alloc (Nat.le_trans hB3.size HB4.out.size) _
        have hA5 := heap_old ((HB4.out.block _ (lt_of_block hA3)).trans hA3) (.cells #[.int .i64 (pb : Int), .int .i64 (jb : Int), .int .i64 (ib : Int), .int .i64 (tb : Int), .int .i64 (nb : Int)] 88)
        have hR5 := heap_old ((HB4.out.block _ (lt_of_block hR3)).trans hR3) (.cells #[.int .i64 (pb : Int), .int .i64 (jb : Int), .int .i64 (ib : Int), .int .i64 (tb : Int), .int .i64 (nb : Int)] 88)
        have hN5 := heap_new w4 (.cells #[.int .i64 (pb : Int), .int .i64 (jb : Int), .int .i64 (ib : Int), .int .i64 (tb : Int), .int .i64 (nb : Int)] 88)
        clear hA3 hR3 hB3
        generalize w4.alloc (.cells #[.int .i64 (pb : Int), .int .i64 (jb : Int), .int .i64 (ib : Int), .int .i64 (tb : Int), .int .i64 (nb : Int)] 88) = w5 at *
        generalize w4.heap.size = NB at *
        generalize w2.heap.size = NA at *
        have HB5 := hid hB5
        have HR5 := hid hR5
        obtain ⟨k0, k1, k2, k3, k4⟩ := sup_cells hA5
        obtain ⟨l0, l1, l2, l3, l4⟩ := sup_cells hN5
        obtain ⟨s0, s1, s2, s3, s4⟩ := sup_cells hR5
        obtain ⟨g0, g1, g2, g3, g4⟩ := free_five hR5
        clear hA5 hN5 hR5 hB5 HB2 HB4
        go_wp2_with fail
        have hw := five_set HR5.out (.int .i64 (pb : Int)) (.int .i64 (jb : Int)) (.int .i64 (ib : Int)) (.int .i64 (tb : Int)) (.int .i64 (nb : Int))
        have hB9 := HB5.out.trans ((five_fr (w := w5) w.heap.size (.int .i64 (pb : Int)) (.int .i64 (jb : Int)) (.int .i64 (ib : Int)) (.int .i64 (tb : Int)) (.int .i64 (nb : Int))).below HB5.out.size (fun k hk e => by omega))
        generalize ((((w5.setCell ⟨w.heap.size, 0, none⟩ (.int .i64 (pb : Int))).setCell ⟨w.heap.size, 1, none⟩ (.int .i64 (jb : Int))).setCell ⟨w.heap.size, 2, none⟩ (.int .i64 (ib : Int))).setCell ⟨w.heap.size, 3, none⟩ (.int .i64 (tb : Int))).setCell ⟨w.heap.size, 4, none⟩ (.int .i64 (nb : Int)) = w9 at *
        obtain ⟨z0, z1, z2, z3, z4⟩ := sup_cells hw
        refine bodyPost_ret (v := .tuple #[.agg #[.int .i64 (pb : Int), .int .i64 (jb : Int), .int .i64 (ib : Int), .int .i64 (tb : Int), .int .i64 (nb : Int)], .bool true]) ?_ rfl ⟨rfl, hB9⟩
        rw [results_ct rfl]
        clear hB9 hw
        go_simp
    · rw [da hA (.inl hBb)] at hx hok
      obtain rfl : refSup a = x := hx
      obtain rfl : true = ok := hok
      simp only [decide_eq_true hA] at KA
      simp only [decide_eq_false hBb] at KB
      clear da db dn ea eb ha hb hn hA hBb
      generalize refSup a = xa at *
      generalize refSup b = xb at *
      obtain ⟨pa, ja, ia, ta, na⟩ := xa
      obtain ⟨pb, jb, ib, tb, nb⟩ := xb
      dsimp only at *
      have HKA := hid KA
      have HKB := hid KB
      clear KA KB
      go_enter Tryd.func66, Tryd.ntmps66
      go_upto_region 3 with (first | (go_at_call 69; (with_reducible refine (HKA.out _).mono ?_); rintro e2 w2 ⟨rfl, hB2⟩; have HB2 := hid hB2; clear hB2) | (go_at_call 69; (with_reducible refine (HKB.out _).mono ?_); rintro e4 w4 ⟨rfl, hB4⟩; have HB4 := hid hB4; clear hB4))
      have hA3 := heap_new w2 (.cells #[.int .i64 (pa : Int), .int .i64 (ja : Int), .int .i64 (ia : Int), .int .i64 (ta : Int), .int .i64 (na : Int)] 88)
      have hR3 := heap_old ((HB2.out.block w.heap.size (by simp)).trans (heap_new w r5z)) (.cells #[.int .i64 (pa : Int), .int .i64 (ja : Int), .int .i64 (ia : Int), .int .i64 (ta : Int), .int .i64 (na : Int)] 88)
      have hB3 : Below w.heap.size w (w2.alloc (.cells #[.int .i64 (pa : Int), .int .i64 (ja : Int), .int .i64 (ia : Int), .int .i64 (ta : Int), .int .i64 (na : Int)] 88)) := (((Below.refl _ w).alloc (Nat.le_refl _) r5z).trans (HB2.out.mono (by simp))).alloc (by have h := HB2.out.size; simp at h; omega) _
      have hB5 : Below w.heap.size w (w4.alloc (.cells #[.int .i64 (pb : Int), .int .i64 (jb : Int), .int .i64 (ib : Int), .int .i64 (tb : Int), .int .i64 (nb : Int)] 88)) := (hB3.trans (HB4.out.mono hB3.size)).alloc (Nat.le_trans hB3.size HB4.out.size) _
      have hA5 := heap_old ((HB4.out.block _ (lt_of_block hA3)).trans hA3) (.cells #[.int .i64 (pb : Int), .int .i64 (jb : Int), .int .i64 (ib : Int), .int .i64 (tb : Int), .int .i64 (nb : Int)] 88)
      have hR5 := heap_old ((HB4.out.block _ (lt_of_block hR3)).trans hR3) (.cells #[.int .i64 (pb : Int), .int .i64 (jb : Int), .int .i64 (ib : Int), .int .i64 (tb : Int), .int .i64 (nb : Int)] 88)
      have hN5 := heap_new w4 (.cells #[.int .i64 (pb : Int), .int .i64 (jb : Int), .int .i64 (ib : Int), .int .i64 (tb : Int), .int .i64 (nb : Int)] 88)
      clear hA3 hR3 hB3
      generalize w4.alloc (.cells #[.int .i64 (pb : Int), .int .i64 (jb : Int), .int .i64 (ib : Int), .int .i64 (tb : Int), .int .i64 (nb : Int)] 88) = w5 at *
      generalize w4.heap.size = NB at *
      generalize w2.heap.size = NA at *
      have HB5 := hid hB5
      have HR5 := hid hR5
      obtain ⟨k0, k1, k2, k3, k4⟩ := sup_cells hA5
      obtain ⟨l0, l1, l2, l3, l4⟩ := sup_cells hN5
      obtain ⟨s0, s1, s2, s3, s4⟩ := sup_cells hR5
      obtain ⟨g0, g1, g2, g3, g4⟩ := free_five hR5
      clear hA5 hN5 hR5 hB5 HB2 HB4
      go_wp2_with fail
      have hw := five_set HR5.out (.int .i64 (pa : Int)) (.int .i64 (ja : Int)) (.int .i64 (ia : Int)) (.int .i64 (ta : Int)) (.int .i64 (na : Int))
      have hB9 := HB5.out.trans ((five_fr (w := w5) w.heap.size (.int .i64 (pa : Int)) (.int .i64 (ja : Int)) (.int .i64 (ia : Int)) (.int .i64 (ta : Int)) (.int .i64 (na : Int))).below HB5.out.size (fun k hk e => by omega))
      generalize ((((w5.setCell ⟨w.heap.size, 0, none⟩ (.int .i64 (pa : Int))).setCell ⟨w.heap.size, 1, none⟩ (.int .i64 (ja : Int))).setCell ⟨w.heap.size, 2, none⟩ (.int .i64 (ia : Int))).setCell ⟨w.heap.size, 3, none⟩ (.int .i64 (ta : Int))).setCell ⟨w.heap.size, 4, none⟩ (.int .i64 (na : Int)) = w9 at *
      obtain ⟨z0, z1, z2, z3, z4⟩ := sup_cells hw
      refine bodyPost_ret (v := .tuple #[.agg #[.int .i64 (pa : Int), .int .i64 (ja : Int), .int .i64 (ia : Int), .int .i64 (ta : Int), .int .i64 (na : Int)], .bool true]) ?_ rfl ⟨rfl, hB9⟩
      rw [results_ct rfl]
      clear hB9 hw
      go_simp
  · by_cases hBb : bearsSup b n ∧ (refSup b).ep % 2 = 1
    · rw [db hBb (.inl hA)] at hx hok
      obtain rfl : refSup b = x := hx
      obtain rfl : true = ok := hok
      simp only [decide_eq_false hA] at KA
      simp only [decide_eq_true hBb] at KB
      clear da db dn ea eb ha hb hn hA hBb
      generalize refSup a = xa at *
      generalize refSup b = xb at *
      obtain ⟨pa, ja, ia, ta, na⟩ := xa
      obtain ⟨pb, jb, ib, tb, nb⟩ := xb
      dsimp only at *
      have HKA := hid KA
      have HKB := hid KB
      clear KA KB
      go_enter Tryd.func66, Tryd.ntmps66
      go_upto_region 3 with (first | (go_at_call 69; (with_reducible refine (HKA.out _).mono ?_); rintro e2 w2 ⟨rfl, hB2⟩; have HB2 := hid hB2; clear hB2) | (go_at_call 69; (with_reducible refine (HKB.out _).mono ?_); rintro e4 w4 ⟨rfl, hB4⟩; have HB4 := hid hB4; clear hB4))
      have hA3 := heap_new w2 (.cells #[.int .i64 (pa : Int), .int .i64 (ja : Int), .int .i64 (ia : Int), .int .i64 (ta : Int), .int .i64 (na : Int)] 88)
      have hR3 := heap_old ((HB2.out.block w.heap.size (by simp)).trans (heap_new w r5z)) (.cells #[.int .i64 (pa : Int), .int .i64 (ja : Int), .int .i64 (ia : Int), .int .i64 (ta : Int), .int .i64 (na : Int)] 88)
      have hB3 : Below w.heap.size w (w2.alloc (.cells #[.int .i64 (pa : Int), .int .i64 (ja : Int), .int .i64 (ia : Int), .int .i64 (ta : Int), .int .i64 (na : Int)] 88)) := (((Below.refl _ w).alloc (Nat.le_refl _) r5z).trans (HB2.out.mono (by simp))).alloc (by have h := HB2.out.size; simp at h; omega) _
      have hB5 : Below w.heap.size w (w4.alloc (.cells #[.int .i64 (pb : Int), .int .i64 (jb : Int), .int .i64 (ib : Int), .int .i64 (tb : Int), .int .i64 (nb : Int)] 88)) := (hB3.trans (HB4.out.mono hB3.size)).alloc (Nat.le_trans hB3.size HB4.out.size) _
      have hA5 := heap_old ((HB4.out.block _ (lt_of_block hA3)).trans hA3) (.cells #[.int .i64 (pb : Int), .int .i64 (jb : Int), .int .i64 (ib : Int), .int .i64 (tb : Int), .int .i64 (nb : Int)] 88)
      have hR5 := heap_old ((HB4.out.block _ (lt_of_block hR3)).trans hR3) (.cells #[.int .i64 (pb : Int), .int .i64 (jb : Int), .int .i64 (ib : Int), .int .i64 (tb : Int), .int .i64 (nb : Int)] 88)
      have hN5 := heap_new w4 (.cells #[.int .i64 (pb : Int), .int .i64 (jb : Int), .int .i64 (ib : Int), .int .i64 (tb : Int), .int .i64 (nb : Int)] 88)
      clear hA3 hR3 hB3
      generalize w4.alloc (.cells #[.int .i64 (pb : Int), .int .i64 (jb : Int), .int .i64 (ib : Int), .int .i64 (tb : Int), .int .i64 (nb : Int)] 88) = w5 at *
      generalize w4.heap.size = NB at *
      generalize w2.heap.size = NA at *
      have HB5 := hid hB5
      have HR5 := hid hR5
      obtain ⟨k0, k1, k2, k3, k4⟩ := sup_cells hA5
      obtain ⟨l0, l1, l2, l3, l4⟩ := sup_cells hN5
      obtain ⟨s0, s1, s2, s3, s4⟩ := sup_cells hR5
      obtain ⟨g0, g1, g2, g3, g4⟩ := free_five hR5
      clear hA5 hN5 hR5 hB5 HB2 HB4
      go_wp2_with fail
      have hw := five_set HR5.out (.int .i64 (pb : Int)) (.int .i64 (jb : Int)) (.int .i64 (ib : Int)) (.int .i64 (tb : Int)) (.int .i64 (nb : Int))
      have hB9 := HB5.out.trans ((five_fr (w := w5) w.heap.size (.int .i64 (pb : Int)) (.int .i64 (jb : Int)) (.int .i64 (ib : Int)) (.int .i64 (tb : Int)) (.int .i64 (nb : Int))).below HB5.out.size (fun k hk e => by omega))
      generalize ((((w5.setCell ⟨w.heap.size, 0, none⟩ (.int .i64 (pb : Int))).setCell ⟨w.heap.size, 1, none⟩ (.int .i64 (jb : Int))).setCell ⟨w.heap.size, 2, none⟩ (.int .i64 (ib : Int))).setCell ⟨w.heap.size, 3, none⟩ (.int .i64 (tb : Int))).setCell ⟨w.heap.size, 4, none⟩ (.int .i64 (nb : Int)) = w9 at *
      obtain ⟨z0, z1, z2, z3, z4⟩ := sup_cells hw
      refine bodyPost_ret (v := .tuple #[.agg #[.int .i64 (pb : Int), .int .i64 (jb : Int), .int .i64 (ib : Int), .int .i64 (tb : Int), .int .i64 (nb : Int)], .bool true]) ?_ rfl ⟨rfl, hB9⟩
      rw [results_ct rfl]
      clear hB9 hw
      go_simp
    · rw [dn hA hBb] at hx hok
      obtain rfl : sup0 = x := hx
      obtain rfl : false = ok := hok
      simp only [decide_eq_false hA] at KA
      simp only [decide_eq_false hBb] at KB
      clear da db dn ea eb ha hb hn hA hBb
      generalize refSup a = xa at *
      generalize refSup b = xb at *
      obtain ⟨pa, ja, ia, ta, na⟩ := xa
      obtain ⟨pb, jb, ib, tb, nb⟩ := xb
      dsimp only at *
      have HKA := hid KA
      have HKB := hid KB
      clear KA KB
      go_enter Tryd.func66, Tryd.ntmps66
      go_upto_region 3 with (first | (go_at_call 69; (with_reducible refine (HKA.out _).mono ?_); rintro e2 w2 ⟨rfl, hB2⟩; have HB2 := hid hB2; clear hB2) | (go_at_call 69; (with_reducible refine (HKB.out _).mono ?_); rintro e4 w4 ⟨rfl, hB4⟩; have HB4 := hid hB4; clear hB4))
      have hA3 := heap_new w2 (.cells #[.int .i64 (pa : Int), .int .i64 (ja : Int), .int .i64 (ia : Int), .int .i64 (ta : Int), .int .i64 (na : Int)] 88)
      have hR3 := heap_old ((HB2.out.block w.heap.size (by simp)).trans (heap_new w r5z)) (.cells #[.int .i64 (pa : Int), .int .i64 (ja : Int), .int .i64 (ia : Int), .int .i64 (ta : Int), .int .i64 (na : Int)] 88)
      have hB3 : Below w.heap.size w (w2.alloc (.cells #[.int .i64 (pa : Int), .int .i64 (ja : Int), .int .i64 (ia : Int), .int .i64 (ta : Int), .int .i64 (na : Int)] 88)) := (((Below.refl _ w).alloc (Nat.le_refl _) r5z).trans (HB2.out.mono (by simp))).alloc (by have h := HB2.out.size; simp at h; omega) _
      have hB5 : Below w.heap.size w (w4.alloc (.cells #[.int .i64 (pb : Int), .int .i64 (jb : Int), .int .i64 (ib : Int), .int .i64 (tb : Int), .int .i64 (nb : Int)] 88)) := (hB3.trans (HB4.out.mono hB3.size)).alloc (Nat.le_trans hB3.size HB4.out.size) _
      have hA5 := heap_old ((HB4.out.block _ (lt_of_block hA3)).trans hA3) (.cells #[.int .i64 (pb : Int), .int .i64 (jb : Int), .int .i64 (ib : Int), .int .i64 (tb : Int), .int .i64 (nb : Int)] 88)
      have hR5 := heap_old ((HB4.out.block _ (lt_of_block hR3)).trans hR3) (.cells #[.int .i64 (pb : Int), .int .i64 (jb : Int), .int .i64 (ib : Int), .int .i64 (tb : Int), .int .i64 (nb : Int)] 88)
      have hN5 := heap_new w4 (.cells #[.int .i64 (pb : Int), .int .i64 (jb : Int), .int .i64 (ib : Int), .int .i64 (tb : Int), .int .i64 (nb : Int)] 88)
      clear hA3 hR3 hB3
      generalize w4.alloc (.cells #[.int .i64 (pb : Int), .int .i64 (jb : Int), .int .i64 (ib : Int), .int .i64 (tb : Int), .int .i64 (nb : Int)] 88) = w5 at *
      generalize w4.heap.size = NB at *
      generalize w2.heap.size = NA at *
      have HB5 := hid hB5
      have HR5 := hid hR5
      obtain ⟨k0, k1, k2, k3, k4⟩ := sup_cells hA5
      obtain ⟨l0, l1, l2, l3, l4⟩ := sup_cells hN5
      obtain ⟨s0, s1, s2, s3, s4⟩ := sup_cells hR5
      obtain ⟨g0, g1, g2, g3, g4⟩ := free_five hR5
      clear hA5 hN5 hR5 hB5 HB2 HB4
      go_wp2_with fail
      have hw := five_set HR5.out (.int .i64 0) (.int .i64 0) (.int .i64 0) (.int .i64 0) (.int .i64 0)
      have hB9 := HB5.out.trans ((five_fr (w := w5) w.heap.size (.int .i64 0) (.int .i64 0) (.int .i64 0) (.int .i64 0) (.int .i64 0)).below HB5.out.size (fun k hk e => by omega))
      generalize ((((w5.setCell ⟨w.heap.size, 0, none⟩ (.int .i64 0)).setCell ⟨w.heap.size, 1, none⟩ (.int .i64 0)).setCell ⟨w.heap.size, 2, none⟩ (.int .i64 0)).setCell ⟨w.heap.size, 3, none⟩ (.int .i64 0)).setCell ⟨w.heap.size, 4, none⟩ (.int .i64 0) = w9 at *
      obtain ⟨z0, z1, z2, z3, z4⟩ := sup_cells hw
      refine bodyPost_ret (v := .tuple #[.agg #[.int .i64 0, .int .i64 0, .int .i64 0, .int .i64 0, .int .i64 0], .bool false]) ?_ rfl ⟨rfl, hB9⟩
      rw [results_ct rfl]
      clear hB9 hw
      go_simp
end Go.Proofs.YtkmbbgnbklklcaaDoor
