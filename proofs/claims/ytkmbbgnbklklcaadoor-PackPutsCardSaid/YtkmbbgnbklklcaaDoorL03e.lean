/-
  Law 03's PackPuts: its walk.
-/
import Derived.Test.YtkmbbgnbklklcaaDoorL03d
namespace Go.Proofs.YtkmbbgnbklklcaaDoor
open Go.RowKit

theorem Below.undrew {B : Nat} {w w' : World} (h : Below B w.drew w') : Below B w w' := ⟨h.os, h.tape, h.output, h.size, h.block⟩
def Four (w : World) (N : Nat) (m n f : Int) (s : List UInt8) : Prop := w.heap[N]? = some (.cells #[.int .i64 m] 3 (0, 0)) ∧ w.heap[N + 1]? = some (.cells #[.int .i64 n] 3 (0, 0)) ∧ w.heap[N + 1 + 1]? = some (.cells #[.string (S s)] 9 (0, 0)) ∧ w.heap[N + 1 + 1 + 1]? = some (.cells #[.int .i64 f] 3 (0, 0))
theorem Four.below {w w' : World} {N B : Nat} {m n f : Int} {s : List UInt8} (h : Four w N m n f s) (hB : Below B w w') (hN : N + 4 ≤ B) : Four w' N m n f s :=
  ⟨(hB.block _ (by omega)).trans h.1, (hB.block _ (by omega)).trans h.2.1, (hB.block _ (by omega)).trans h.2.2.1, (hB.block _ (by omega)).trans h.2.2.2⟩
theorem Four.lt {w : World} {N : Nat} {m n f : Int} {s : List UInt8} (h : Four w N m n f s) : N + 4 ≤ w.heap.size := lt_of_block h.2.2.2
theorem Four.f {w : World} {N : Nat} {m n f : Int} {s : List UInt8} (h : Four w N m n f s) : w.heap[N + 1 + 1 + 1]? = some (.cells #[.int .i64 f] 3 (0, 0)) := h.2.2.2
theorem four_new (w : World) (m n f : Int) (s : List UInt8) : Four ((((w.alloc (.cells #[.int .i64 m] 3)).alloc (.cells #[.int .i64 n] 3)).alloc (.cells #[.string (S s)] 9)).alloc (.cells #[.int .i64 f] 3)) w.heap.size m n f s ∧ Below w.heap.size w ((((w.alloc (.cells #[.int .i64 m] 3)).alloc (.cells #[.int .i64 n] 3)).alloc (.cells #[.string (S s)] 9)).alloc (.cells #[.int .i64 f] 3)) :=
  ⟨⟨heap_old (heap_old (heap_old (heap_new w _) _) _) _, heap_old (heap_old (heap_newk _ (by simp)) _) _, heap_old (heap_newk _ (by simp)) _, heap_newk _ (by simp)⟩, ((((Below.refl _ w).alloc (Nat.le_refl _) _).alloc (by simp) _).alloc (by simp; omega) _).alloc (by simp; omega) _⟩
theorem cut60 (s : List UInt8) (w : World) : Calls Tryd.prog 16 #[.string (S s), .int .i64 60] w fun e w' => e = .returned (.string (S (s.take 60))) ∧ w' = w := cut_any s 60 w
theorem num_be_num (a k : Nat) : num (be (num a k)) k = num a k := by
  have h := num_be (num a k)
  rwa [num_length] at h
theorem be_num_lt (a k : Nat) (hk : k ≤ 8) : be (num a k) < 18446744073709551616 := by
  have h1 := be_le (num a k)
  rw [num_length] at h1
  have h2 : 256 ^ k ≤ 256 ^ 8 := Nat.pow_le_pow_right (by decide) hk
  omega

/-- All that the last line reads. -/
def Eight (w : World) (P N : Nat) (G s : List UInt8) (m n : Int) (F X Y : Nat) : Prop := Four w N m n (F : Int) s ∧ w.heap[P]? = some (.cells #[.string (S G)] 9 (0, 0)) ∧ Box3 w (P + 1) (P + 1 + 1 + 1) (P + 1 + 1) X Y s
theorem Eight.below {w w' : World} {P N : Nat} {G s : List UInt8} {m n : Int} {F X Y : Nat} (h : Eight w P N G s m n F X Y) (hB : Below w.heap.size w w') : Eight w' P N G s m n F X Y :=
  ⟨h.1.below hB h.1.lt, (hB.block _ (lt_of_block h.2.1)).trans h.2.1, (hB.block _ (lt_of_block h.2.2.1)).trans h.2.2.1, (hB.block _ (lt_of_block h.2.2.2.1)).trans h.2.2.2.1, (hB.block _ (lt_of_block h.2.2.2.2)).trans h.2.2.2.2⟩
theorem eight_cells {w : World} {P N : Nat} {G s : List UInt8} {m n : Int} {F X Y : Nat} (h : Eight w P N G s m n F X Y) :
    w.cell? ⟨P, 0, none⟩ = some (.string (S G)) ∧ w.cell? ⟨N + 1 + 1 + 1, 0, none⟩ = some (.int .i64 (F : Int)) ∧ w.cell? ⟨P + 1, 0, none⟩ = some (.int .u64 (X : Int)) ∧ w.cell? ⟨P + 1 + 1, 0, none⟩ = some (.int .u64 (Y : Int)) ∧ w.cell? ⟨P + 1 + 1 + 1, 0, none⟩ = some (.string (S s)) ∧ w.cell? ⟨N, 0, none⟩ = some (.int .i64 m) ∧ w.cell? ⟨N + 1, 0, none⟩ = some (.int .i64 n) ∧ w.cell? ⟨N + 1 + 1, 0, none⟩ = some (.string (S s)) :=
  ⟨cell_of_one h.2.1, cell_of_one h.1.2.2.2, cell_of_one h.2.2.1, cell_of_one h.2.2.2.2, cell_of_one h.2.2.2.1, cell_of_one h.1.1, cell_of_one h.1.2.1, cell_of_one h.1.2.2.1⟩

set_option maxRecDepth 100000 in
set_option maxHeartbeats 4000000 in
theorem packputs_any (a b : Nat) (ha : a < 18446744073709551616) (hb : b < 18446744073709551616) (m n : Int) (s0 : List UInt8) (fill : Int) (w : World) :
    Calls Tryd.prog 4 #[.int .u64 (a : Int), .int .u64 (b : Int), .int .i64 m, .int .i64 n, .string (S s0), .int .i64 fill] w fun e w' => e = .returned (.bool true) ∧ Below w.heap.size w w' := by
  obtain ⟨k, hk⟩ : ∃ k : Nat, min (max m 1) 8 = (k : Int) := ⟨(min (max m 1) 8).toNat, by omega⟩
  obtain ⟨j, hj⟩ : ∃ j : Nat, min (max n 1) 8 = (j : Int) := ⟨(min (max n 1) 8).toNat, by omega⟩
  have hk8 : k ≤ 8 := by omega
  have hj8 : j ≤ 8 := by omega
  obtain ⟨s, hs⟩ : ∃ s, s0.take 60 = s := ⟨_, rfl⟩
  have hsl : s.length ≤ 60 := by rw [← hs, List.length_take]; omega
  have Hs := hid hs
  have Hk := hid hk
  have Hj := hid hj
  have Ha := hid ha
  have Hb := hid hb
  clear hs hk hj ha hb
  go_enter Tryd.func4, Tryd.ntmps4
  go_wp2_with (go_at_call 16; (with_reducible refine (cut60 s0 _).mono ?_); rintro e w4 ⟨rfl, hw4⟩; subst hw4; rw [Hs.out])
  generalize hf0 : min fill 200 = f at *
  have hf : f ≤ 200 := by omega
  clear hf0
  obtain ⟨hF, hB0⟩ := four_new w m n f s
  generalize (((w.alloc (.cells #[.int .i64 m] 3)).alloc (.cells #[.int .i64 n] 3)).alloc (.cells #[.string (S s)] 9)).alloc (.cells #[.int .i64 f] 3) = w0 at *
  generalize hN : w.heap.size = N at *
  have HN := hid hN
  clear hN
  refine (awake03 w0).mono ?_
  rintro e w1 ⟨rfl, hB1⟩
  have hF1 := hF.below hB1 hF.lt
  have HF1 := hid hF1
  have HB1 := hid (hB0.trans (hB1.mono (by have := hF.lt; omega)))
  clear hF hB0 hB1 hF1
  have hL : (num a k ++ (s ++ num b j)).length = k + s.length + j := by rw [List.length_append, List.length_append, num_length, num_length, Nat.add_assoc]
  go_wp2_with fail
  have hO2 := OutW.new w1
  have hF2 := HF1.out.below ((Below.refl w1.heap.size w1).alloc (Nat.le_refl _) (.cells #[.slice none 0 0] 43)) HF1.out.lt
  have hB2 := (Below.refl w1.heap.size w1).alloc (Nat.le_refl _) (.cells #[.slice none 0 0] 43)
  have hN4 := HF1.out.lt
  change Code.wp _ _ _ _ (w1.alloc (.cells #[.slice none 0 0] 43))
  generalize w1.alloc (.cells #[.slice none 0 0] 43) = w2 at *
  generalize hBB : w1.heap.size = B at *
  have HBB := hid hBB
  have HB2 := hid (show Below B w1 w2 from hB2)
  have kam := cell_of_one hF2.1
  have kan := cell_of_one hF2.2.1
  have kas := cell_of_one hF2.2.2.1
  have kaf := cell_of_one hF2.2.2.2
  have HO2 := hid hO2
  have HF2 := hid hF2
  clear hBB hO2 hF2 hB2
  go_region_held3 (fun w' => w'.cell? ⟨N, 0, none⟩ = some (.int .i64 m) ∧ w'.cell? ⟨N + 1, 0, none⟩ = some (.int .i64 n) ∧ w'.cell? ⟨N + 1 + 1, 0, none⟩ = some (.string (S s)))
    (first | go_keep | exact ⟨kam, kan, kas⟩ | exact ⟨kbm, kbn, kbs⟩ | exact ⟨kcm, kcn, kcs⟩ | exact ⟨kdm, kdn, kds⟩)
    (first
      | (go_at_call 28; (with_reducible refine (ow_num B [] a m k w2.drew HO2.out.drew Hk.out (by decide)).mono ?_); rintro e w3 ⟨rfl, hO3, hB3⟩; rw [List.nil_append] at hO3; have hF3 := HF2.out.below (w' := w3) (Below.undrew hB3) (by omega); have kbm := cell_of_one hF3.1; have kbn := cell_of_one hF3.2.1; have kbs := cell_of_one hF3.2.2.1; have kbf := cell_of_one hF3.2.2.2; have HO3 := hid hO3; have HB3 := hid (Below.undrew hB3); have HF3 := hid hF3; clear hO3 hB3 hF3)
      | (go_at_call 29; (with_reducible refine (ow_text B (num a k) s w3 HO3.out (by rw [num_length]; omega)).mono ?_); rintro e w4 ⟨rfl, hO4, hB4⟩; have hF4 := HF3.out.below hB4 (by omega); have kcm := cell_of_one hF4.1; have kcn := cell_of_one hF4.2.1; have kcs := cell_of_one hF4.2.2.1; have kcf := cell_of_one hF4.2.2.2; have HO4 := hid hO4; have HB4 := hid hB4; have HF4 := hid hF4; clear hO4 hB4 hF4)
      | (go_at_call 28; (with_reducible refine (ow_num B (num a k ++ s) b n j w4 HO4.out Hj.out (by rw [List.length_append, num_length]; omega)).mono ?_); rintro e w5 ⟨rfl, hO5, hB5⟩; have hF5 := HF4.out.below hB5 (by omega); have kdm := cell_of_one hF5.1; have kdn := cell_of_one hF5.2.1; have kds := cell_of_one hF5.2.2.1; have kdf := cell_of_one hF5.2.2.2; have HO5 := hid hO5; have HB5 := hid hB5; have HF5 := hid hF5; clear hO5 hB5 hF5))
  have HB15 := hid (((HB2.out.trans HB3.out).trans HB4.out).trans HB5.out)
  clear kam kan kas kaf kbm kbn kbs kbf kcm kcn kcs kcf HO2 HO3 HO4 HF2 HF3 HF4 HB2 HB3 HB4 HB5
  have hB5l := HO5.out.lt
  go_upto_region 7 with fail
  have hadd1 := str_add (num a k) s (by rw [num_length]; omega) (by omega)
  have hadd2 := str_add (num a k ++ s) (num b j) (by rw [List.length_append, num_length]; omega) (by rw [num_length]; omega)
  go_region_held3 (fun w' => w'.cell? ⟨N, 0, none⟩ = some (.int .i64 m) ∧ w'.cell? ⟨N + 1, 0, none⟩ = some (.int .i64 n) ∧ w'.cell? ⟨N + 1 + 1, 0, none⟩ = some (.string (S s)))
    (first | go_keep | exact ⟨kdm, kdn, kds⟩ | exact ⟨kem, ken, kes⟩ | exact ⟨kfm, kfn, kfs⟩)
    (first
      | (go_at_call 30; (with_reducible refine (refnum_any a m k w5.drew Hk.out Ha.out).mono ?_); rintro e w6 ⟨rfl, hB6⟩; have hF6 := HF5.out.below (w' := w6) (Below.undrew hB6) HF5.out.lt; have kem := cell_of_one hF6.1; have ken := cell_of_one hF6.2.1; have kes := cell_of_one hF6.2.2.1; have kef := cell_of_one hF6.2.2.2; have HB6 := hid (show Below w5.heap.size w5 w6 from Below.undrew hB6); have HF6 := hid hF6; clear hB6 hF6)
      | (go_at_call 30; (with_reducible refine (refnum_any b n j w6 Hj.out Hb.out).mono ?_); rintro e w7 ⟨rfl, hB7⟩; have hF7 := HF6.out.below hB7 HF6.out.lt; have kfm := cell_of_one hF7.1; have kfn := cell_of_one hF7.2.1; have kfs := cell_of_one hF7.2.2.1; have kff := cell_of_one hF7.2.2.2; have HB7 := hid hB7; have HF7 := hid hF7; clear hB7 hF7))
  have HO7 := hid (show OutW B (num a k ++ (s ++ num b j)) w7 by rw [← List.append_assoc]; exact (HO5.out.below HB6.out).below HB7.out)
  have HB17 := hid (HB15.out.trans ((HB6.out.trans (HB7.out.mono HB6.out.size)).mono (by omega)))
  clear kdm kdn kds kdf kem ken kes kef HO5 HF5 HF6 HB6 HB7 HB15 hadd1 hadd2
  generalize hl : num a k ++ (s ++ num b j) = l at *
  have Hl := hid hl
  have HL := hid hL
  clear hl hL
  go_wp2_with fail
  (with_reducible refine (ow_bytes B l w7 HO7.out).mono ?_)
  rintro e w8 ⟨rfl, hw8⟩
  subst hw8
  have el : ((S l).toList == (S l).toList) = true := by simp
  go_wp2_with fail
  have hO7l := HO7.out.lt
  have HX := HF7
  by_cases hfl : f < (l.length : Int)
  · have dfl : decide (f < (l.length : Int)) = true := by simpa using hfl
    (with_reducible refine (guard_pp1_big B (N + 1 + 1 + 1) f l w7 HO7.out (Four.f HX.out) hfl).mono ?_)
    rintro e w8 ⟨rfl, hO8, hB8⟩
    have hF8 := HX.out.below hB8 (by omega)
    have kg := cell_of_one hF8.2.2.2
    have hSl := S_size l
    have HO8 := hid hO8
    have HB8 := hid hB8
    clear hO8 hB8 hF8 HX HF7 HO7 kfm kfn kfs kff
    go_wp2_with fail
    (with_reducible refine (ow_bytes B l w8 HO8.out).mono ?_)
    rintro e w9 ⟨rfl, hw9⟩
    subst hw9
    go_wp2_with fail
    go_ret
    exact ⟨rfl, by rw [HN.out]; exact HB1.out.trans ((HB17.out.trans HB8.out).mono (by omega))⟩
  · have dfl : decide (f < (l.length : Int)) = false := by simpa using hfl
    obtain ⟨F, rfl⟩ : ∃ F : Nat, f = F := ⟨f.toNat, by omega⟩
    have hlF : l.length ≤ F := by omega
    (with_reducible refine (guard_pp1_ok B (N + 1 + 1 + 1) F l w7 HO7.out (Four.f HX.out) hlF (by omega)).mono ?_)
    rintro e w8 ⟨rfl, hO8, hB8⟩
    have hF8 := HX.out.below hB8 (by omega)
    have kgf := cell_of_one hF8.2.2.2
    have hSl := S_size l
    have hGl : (l ++ List.replicate (F - l.length) (0 : UInt8)).length = F := by simp; omega
    have hGt : (l ++ List.replicate (F - l.length) (0 : UInt8)).take l.length = l := by rw [List.take_left']; rfl
    have hGd : ∀ c ∈ (l ++ List.replicate (F - l.length) (0 : UInt8)).drop l.length, c = 0 := by
      rw [List.drop_left' rfl]
      intro c hc
      exact (List.mem_replicate.1 hc).2
    have hG1 : (l ++ List.replicate (F - l.length) (0 : UInt8)).take k = num a k := by
      rw [← Hl.out, List.append_assoc, List.take_left' (num_length a k)]
    have hG2 : ((l ++ List.replicate (F - l.length) (0 : UInt8)).drop k).take s.length = s := by
      rw [← Hl.out, List.append_assoc, List.append_assoc, List.drop_left' (num_length a k), List.take_left' rfl]
    have hG3 : ((l ++ List.replicate (F - l.length) (0 : UInt8)).drop (k + s.length)).take j = num b j := by
      rw [← List.drop_drop, ← Hl.out, List.append_assoc, List.append_assoc, List.drop_left' (num_length a k), List.drop_left' rfl, List.take_left' (num_length b j)]
    generalize l ++ List.replicate (F - l.length) 0 = G at *
    have HO8 := hid hO8
    have HB8 := hid hB8
    have HF8 := hid hF8
    clear hO8 hB8 hF8 HX HF7 HO7 kfm kfn kfs kff
    go_wp2_with fail
    (with_reducible refine (ow_bytes B G w8 HO8.out).mono ?_)
    rintro e w9 ⟨rfl, hw9⟩
    subst hw9
    go_wp2_with fail
    have hA1 := heap_old (heap_old (heap_old (heap_new w8 (.cells #[.string (S G)] 9)) (.cells #[.int .u64 0] 31)) (.cells #[.int .u64 0] 31)) (.cells #[.string ⟨#[]⟩] 9)
    have hA2 := heap_old (heap_old (heap_newk (w := w8.alloc (.cells #[.string (S G)] 9)) (k := w8.heap.size + 1) (.cells #[.int .u64 0] 31) (by simp)) (.cells #[.int .u64 0] 31)) (.cells #[.string ⟨#[]⟩] 9)
    have hA3 := heap_old (heap_newk (w := (w8.alloc (.cells #[.string (S G)] 9)).alloc (.cells #[.int .u64 0] 31)) (k := w8.heap.size + 1 + 1) (.cells #[.int .u64 0] 31) (by simp)) (.cells #[.string ⟨#[]⟩] 9)
    have hA4 := heap_newk (w := ((w8.alloc (.cells #[.string (S G)] 9)).alloc (.cells #[.int .u64 0] 31)).alloc (.cells #[.int .u64 0] 31)) (k := w8.heap.size + 1 + 1 + 1) (.cells #[.string ⟨#[]⟩] 9) (by simp)
    have hB9 : Below w8.heap.size w8 ((((w8.alloc (.cells #[.string (S G)] 9)).alloc (.cells #[.int .u64 0] 31)).alloc (.cells #[.int .u64 0] 31)).alloc (.cells #[.string ⟨#[]⟩] 9)) := ((((Below.refl _ w8).alloc (Nat.le_refl _) _).alloc (by simp) _).alloc (by simp; omega) _).alloc (by simp; omega) _
    have hF9 := HF8.out.below hB9 HF8.out.lt
    have hP4 := HF8.out.lt
    generalize (((w8.alloc (.cells #[.string (S G)] 9)).alloc (.cells #[.int .u64 0] 31)).alloc (.cells #[.int .u64 0] 31)).alloc (.cells #[.string ⟨#[]⟩] 9) = w9 at *
    have hB8s := HB8.out.size
    generalize hP : w8.heap.size = P at *
    have HP := hid hP
    have hg2 := guard_pp2 P N (N + 1 + 1) (N + 1) (P + 1) (P + 1 + 1 + 1) (P + 1 + 1) G s m n k j w9 hA1 hF9.1 hF9.2.2.1 hF9.2.1 ⟨hA2, hA4, hA3⟩ ⟨by omega, by omega, by omega⟩ (by omega) Hk.out Hj.out (by rw [hGl, ← HL.out]; exact hlF) (by omega) (by rw [← HL.out]; exact hGd)
    rw [hG1, hG2, hG3] at hg2
    obtain ⟨X, hX⟩ : ∃ X, be (num a k) = X := ⟨_, rfl⟩
    obtain ⟨Y, hY⟩ : ∃ Y, be (num b j) = Y := ⟨_, rfl⟩
    have hXlt : X < 18446744073709551616 := by rw [← hX]; exact be_num_lt a k hk8
    have hYlt : Y < 18446744073709551616 := by rw [← hY]; exact be_num_lt b j hj8
    have hc1 := fun w => refnum_any X m k w Hk.out hXlt
    have hc2 := fun w => refnum_any a m k w Hk.out Ha.out
    have hc3 := fun w => refnum_any Y n j w Hj.out hYlt
    have hc4 := fun w => refnum_any b n j w Hj.out Hb.out
    rw [show num X k = num a k by rw [← hX]; exact num_be_num a k] at hc1
    rw [show num Y j = num b j by rw [← hY]; exact num_be_num b j] at hc3
    rw [hX, hY] at hg2
    have Hg2 := hid hg2
    have Hc1 := hid hc1
    have Hc2 := hid hc2
    have Hc3 := hid hc3
    have Hc4 := hid hc4
    have HA1 := hid hA1
    have HF9 := hid hF9
    have HB9 := hid hB9
    have hSG : (S G).size = F := by rw [S_size]; exact hGl
    have hex : (S G).extract 0 l.length = S l := by rw [S_take, hGt]
    have hlF' : (l.length : Int) ≤ (F : Int) := by omega
    clear hg2 hc1 hc2 hc3 hc4 hA1 hA2 hA3 hA4 hF9 hB9 hP hX hY hG1 hG2 hG3 hGd hGl HO8 HF8 kgf
    (with_reducible refine Hg2.out.mono ?_)
    rintro e w10 ⟨rfl, hx10, hf10⟩
    have h8 : Eight w10 P N G s m n F X Y := ⟨⟨hf10.heap HF9.out.1 (by omega), hf10.heap HF9.out.2.1 (by omega), hf10.heap HF9.out.2.2.1 (by omega), hf10.heap HF9.out.2.2.2 (by omega)⟩, hf10.heap HA1.out (by omega), hx10⟩
    have hB10 : Below B w7 w10 := (HB8.out.trans (HB9.out.mono (by omega))).trans (hf10.below (by have := HB9.out.size; have := HP.out; omega) (fun k hk e => by omega))
    have HB10 := hid hB10
    obtain ⟨p1, p2, p3, p4, p5, p6, p7, p8⟩ := eight_cells h8
    have H8 := hid h8
    clear h8 hf10 hx10 hB10 HF9 HA1 HB8 HB9 Hg2
    go_upto_region 16 with fail
    go_region_held3 (fun w' => w'.cell? ⟨P, 0, none⟩ = some (.string (S G)) ∧ w'.cell? ⟨N + 1 + 1 + 1, 0, none⟩ = some (.int .i64 (F : Int)) ∧ w'.cell? ⟨P + 1, 0, none⟩ = some (.int .u64 (X : Int)) ∧ w'.cell? ⟨P + 1 + 1, 0, none⟩ = some (.int .u64 (Y : Int)) ∧ w'.cell? ⟨P + 1 + 1 + 1, 0, none⟩ = some (.string (S s)) ∧ w'.cell? ⟨N, 0, none⟩ = some (.int .i64 m) ∧ w'.cell? ⟨N + 1, 0, none⟩ = some (.int .i64 n) ∧ w'.cell? ⟨N + 1 + 1, 0, none⟩ = some (.string (S s)))
      (first | go_keep | exact ⟨p1, p2, p3, p4, p5, p6, p7, p8⟩ | exact ⟨q1, q2, q3, q4, q5, q6, q7, q8⟩ | exact ⟨r1, r2, r3, r4, r5, r6, r7, r8⟩ | exact ⟨s1, s2, s3, s4, s5, s6, s7, s8⟩ | exact ⟨t1, t2, t3, t4, t5, t6, t7, t8⟩)
      (first
        | (go_at_call 30; (with_reducible refine (Hc1.out w10.drew).mono ?_); rintro e w11 ⟨rfl, hB11⟩; have h8 := H8.out.below (w' := w11) (Below.undrew hB11); obtain ⟨q1, q2, q3, q4, q5, q6, q7, q8⟩ := eight_cells h8; have H81 := hid h8; have HB11 := hid (show Below w10.heap.size w10 w11 from Below.undrew hB11); clear h8 hB11)
        | (go_at_call 30; (with_reducible refine (Hc2.out w11).mono ?_); rintro e w12 ⟨rfl, hB12⟩; have h8 := H81.out.below hB12; obtain ⟨r1, r2, r3, r4, r5, r6, r7, r8⟩ := eight_cells h8; have H82 := hid h8; have HB12 := hid hB12; clear h8 hB12)
        | (go_at_call 30; (with_reducible refine (Hc3.out w12).mono ?_); rintro e w13 ⟨rfl, hB13⟩; have h8 := H82.out.below hB13; obtain ⟨s1, s2, s3, s4, s5, s6, s7, s8⟩ := eight_cells h8; have H83 := hid h8; have HB13 := hid hB13; clear h8 hB13)
        | (go_at_call 30; (with_reducible refine (Hc4.out w13).mono ?_); rintro e w14 ⟨rfl, hB14⟩; have h8 := H83.out.below hB14; obtain ⟨t1, t2, t3, t4, t5, t6, t7, t8⟩ := eight_cells h8; have HB14 := hid hB14; clear h8 hB14))
    go_wp2_with fail
    go_ret
    have hB1014 : Below w10.heap.size w10 w14 := ((HB11.out.trans (HB12.out.mono HB11.out.size)).trans (HB13.out.mono (by have := HB11.out.size; have := HB12.out.size; omega))).trans (HB14.out.mono (by have := HB11.out.size; have := HB12.out.size; have := HB13.out.size; omega))
    exact ⟨rfl, by rw [HN.out]; exact HB1.out.trans (((HB17.out.trans HB10.out).trans (hB1014.mono (by have := HB10.out.size; omega))).mono (by omega))⟩
theorem u64_nat {a : Int} (h : (Lit.int .u64 a).wf = true) : ∃ k : Nat, a = (k : Int) ∧ k < 18446744073709551616 := by
  have h : 0 ≤ a ∧ a ≤ 18446744073709551615 := by simpa [Lit.wf, IntKind.min, IntKind.max, IntKind.signed, IntKind.bits] using h
  exact ⟨a.toNat, by omega, by omega⟩
theorem walkPackPuts (w : World) (a b m n : Int) (s : ByteArray) (fill : Int) (ha : (Lit.int .u64 a).wf = true) (hb : (Lit.int .u64 b).wf = true) (_hm : (Lit.int .i64 m).wf = true) (_hn : (Lit.int .i64 n).wf = true) (_hs : s.size ≤ 140737488351232) (_hf : (Lit.int .i64 fill).wf = true) :
    Calls Tryd.prog 4 #[.int .u64 a, .int .u64 b, .int .i64 m, .int .i64 n, .string s, .int .i64 fill] w fun e w' => e = .returned (.bool true) ∧ Below w.heap.size w w' := by
  obtain ⟨a', rfl, ha'⟩ := u64_nat ha
  obtain ⟨b', rfl, hb'⟩ := u64_nat hb
  rw [← S_of s]
  exact packputs_any a' b' ha' hb' m n _ fill w
end Go.Proofs.YtkmbbgnbklklcaaDoor
