/-
  Law 01's ShaParts.
-/
import Derived.Test.YtmdcalkfapcafaaDoorL01a
import Derived.Deep.RegionWith
namespace Go.Proofs.YtmdcalkfapcafaaDoor
open Go.RowKit

/-- A world behind w0: w0's blocks as they were, the numbers laid. -/
structure Lw (w0 w : World) : Prop where
  laid : Laid w
  below : Below w0.heap.size w0 w
theorem Lw.refl {w : World} (h : Laid w) : Lw w w := ⟨h, Below.refl _ _⟩
theorem Lw.alloc {w0 w : World} (h : Lw w0 w) (o : Obj) : Lw w0 (w.alloc o) := ⟨h.laid.below ((Below.refl 1 w).alloc (by have := h.laid.lt; omega) o) (by omega), h.below.alloc h.below.size o⟩
theorem Lw.drew {w0 w : World} (h : Lw w0 w) : Lw w0 w.drew := ⟨h.laid.below ((Below.refl 1 w).drew) (by omega), h.below.drew⟩
theorem Lw.trans {w0 w w' : World} (h : Lw w0 w) (hB : Below w.heap.size w w') : Lw w0 w' := ⟨h.laid.below hB h.laid.lt, h.below.trans (hB.mono h.below.size)⟩
theorem PartsAt.below {w w' : World} {b : Nat} {parts : List (List UInt8)} (h : PartsAt w b parts) (hB : Below w.heap.size w w') : PartsAt w' b parts :=
  ⟨Nat.lt_of_lt_of_le h.1 hB.size, fun i hi => (World.cell?_of_block (a := ⟨b, i, none⟩) (hB.block b h.1)).trans (h.2 i hi)⟩
theorem PartsAt.drew {w : World} {b : Nat} {parts : List (List UInt8)} (h : PartsAt w b parts) : PartsAt w.drew b parts := ⟨h.1, fun i hi => h.2 i hi⟩
theorem PartsAt.alloc {w : World} {b : Nat} {parts : List (List UInt8)} (h : PartsAt w b parts) (o : Obj) : PartsAt (w.alloc o) b parts :=
  h.below ((Below.refl _ _).alloc (Nat.le_refl _) o)
theorem of_eq {w0 w : World} {pb cap n : Nat} (parts : List (List UInt8)) (m X : List UInt8) (hn : n = parts.length) (hP : PartsAt w pb parts) (hW : Lw w0 w) (hf : parts.flatten = m) (hX : shaOf m = X) (hm : m.length ≤ 100000000) (hn2 : parts.length ≤ 1000000) :
    Calls Tryd.prog 12 #[.slice (some ⟨pb, 0, none⟩) n cap] w fun e w' => e = .returned (.agg (sumCells X)) ∧ Lw w0 w' ∧ Below w.heap.size w w' := by
  subst hn hf hX
  refine (of_any w pb cap parts hP hW.laid hm hn2).mono ?_
  rintro e w' ⟨rfl, hB⟩
  exact ⟨rfl, hW.trans hB, hB⟩

set_option maxHeartbeats 4000000 in
theorem parts_any (l : List UInt8) (i j : Int) (w : World) (hL : Laid w) (hi : -9223372036854775808 ≤ i ∧ i ≤ 9223372036854775807) (hj : -9223372036854775808 ≤ j ∧ j ≤ 9223372036854775807) :
    Calls Tryd.prog 3 #[.string (S l), .int .i64 i, .int .i64 j] w fun e w' => e = .returned (.bool true) ∧ Below w.heap.size w w' := by
  have HW : Hid (Lw w w) := hid (Lw.refl hL)
  clear hL
  obtain ⟨m, hm⟩ : ∃ m, l.take 300 = m := ⟨_, rfl⟩
  have hlen : m.length ≤ 300 := by rw [← hm, List.length_take]; omega
  have hs := S_size m
  have Hm := hid hm
  clear hm
  go_enter Tryd.func3, Tryd.ntmps3
  go_upto_region 4 with (refine (cut_any l 300 _).mono ?_; rintro e w' ⟨rfl, rfl⟩; rw [Hm.out])
  obtain ⟨a, ha, ham⟩ : ∃ a : Nat, max 0 (min i (m.length : Int)) = (a : Int) ∧ a ≤ m.length := ⟨(max 0 (min i (m.length : Int))).toNat, by omega, by omega⟩
  obtain ⟨b, hb, hab, hbm⟩ : ∃ b : Nat, max 0 (max (min i (m.length : Int)) (min j (m.length : Int))) = (b : Int) ∧ a ≤ b ∧ b ≤ m.length := ⟨(max 0 (max (min i (m.length : Int)) (min j (m.length : Int)))).toNat, by omega, by omega, by omega⟩
  rw [ha, hb]
  clear ha hb
  generalize min i (m.length : Int) = u1
  generalize min j (m.length : Int) = u2
  have e1 : (S m).extract 0 a = S (m.take a) := by rw [S_extract]; simp
  have e2 : (S m).extract a b = S ((m.drop a).take (b - a)) := S_extract _ _ _
  have e3 : (S m).extract b m.length = S (m.drop b) := by rw [S_extract, List.take_of_length_le (by simp)]
  have e4 : (S m).extract a m.length = S (m.drop a) := by rw [S_extract, List.take_of_length_le (by simp)]
  have p1 : (a : Int) ≤ (m.length : Int) := by omega
  have p2 : (b : Int) ≤ (m.length : Int) := by omega
  have p3 : (a : Int) ≤ (b : Int) := by omega
  have f1 : [m.take a, (m.drop a).take (b - a), m.drop b].flatten = m := by
    have h : m.drop b = (m.drop a).drop (b - a) := by rw [List.drop_drop]; congr 1; omega
    simp only [List.flatten_cons, List.flatten_nil, List.append_nil]
    rw [h, List.take_append_drop, List.take_append_drop]
  have f2 : [m.take a, [], m.drop a].flatten = m := by simp
  have f3 : [m].flatten = m := by simp
  obtain ⟨X, hX⟩ : ∃ X, shaOf m = X := ⟨_, rfl⟩
  have hxl : X.length = 32 := by rw [← hX]; exact shaOf_length m
  have heq := sum_eql X X hxl hxl
  rw [beq_self_eq_true] at heq
  have hlen2 : m.length ≤ 100000000 := by omega
  have HF1 := hid f1
  have HF2 := hid f2
  have HF3 := hid f3
  have HX := hid hX
  have Hlen := hid hlen2
  clear f1 f2 f3 hX hxl hlen2 hlen hi hj
  have T1 := hid (fun (w : World) (pb cap n : Nat) hn hP hW => of_eq (w0 := w') (w := w) (pb := pb) (cap := cap) (n := n) [m.take a, (m.drop a).take (b - a), m.drop b] m X hn hP hW HF1.out HX.out Hlen.out (by simp))
  have T2 := hid (fun (w : World) (pb cap n : Nat) hn hP hW => of_eq (w0 := w') (w := w) (pb := pb) (cap := cap) (n := n) [m.take a, [], m.drop a] m X hn hP hW HF2.out HX.out Hlen.out (by simp))
  have T3 := hid (fun (w : World) (pb cap n : Nat) hn hP hW => of_eq (w0 := w') (w := w) (pb := pb) (cap := cap) (n := n) [m] m X hn hP hW HF3.out HX.out Hlen.out (by simp))
  go_region_held3 (fun _ => True) (trivial) (first
    | (go_at_call 11; refine (awake01 _ HW.out.drew.laid).mono ?_; rintro e w1 ⟨rfl, hB⟩; have HW := hid (HW.out.drew.trans hB); have HBl := hid hB; clear hB)
    | (go_at_call 12; first
      | (refine (T3.out _ _ _ _ ?_ ?_ ?_).mono ?_
         · rfl
         · first
             | exact PartsAt.lit (heap_newk _ (by simp))
             | exact PartsAt.lit (heap_old (heap_newk _ (by simp)) _)
             | exact (PartsAt.lit (heap_newk _ (by simp))).below HBl.out
             | exact (PartsAt.lit (heap_old (heap_newk _ (by simp)) _)).below HBl.out
             | exact ((PartsAt.lit (heap_newk _ (by simp))).below HBl.out).alloc _
             | exact ((PartsAt.lit (heap_old (heap_newk _ (by simp)) _)).below HBl.out).alloc _
         · repeat (first | exact HW.out | apply Lw.alloc)
         rintro e w2 ⟨rfl, hW, hB⟩
         have HW := hid hW
         have HBl := hid hB
         clear hW hB)
      | (refine (T1.out _ _ _ _ ?_ ?_ ?_).mono ?_
         · rfl
         · first
             | exact PartsAt.lit (heap_newk _ (by simp))
             | exact PartsAt.lit (heap_old (heap_newk _ (by simp)) _)
             | exact (PartsAt.lit (heap_newk _ (by simp))).below HBl.out
             | exact (PartsAt.lit (heap_old (heap_newk _ (by simp)) _)).below HBl.out
             | exact ((PartsAt.lit (heap_newk _ (by simp))).below HBl.out).alloc _
             | exact ((PartsAt.lit (heap_old (heap_newk _ (by simp)) _)).below HBl.out).alloc _
         · repeat (first | exact HW.out | apply Lw.alloc)
         rintro e w2 ⟨rfl, hW, hB⟩
         have HW := hid hW
         have HBl := hid hB
         clear hW hB)
      | (refine (T2.out _ _ _ _ ?_ ?_ ?_).mono ?_
         · rfl
         · first
             | exact PartsAt.lit (heap_newk _ (by simp))
             | exact PartsAt.lit (heap_old (heap_newk _ (by simp)) _)
             | exact (PartsAt.lit (heap_newk _ (by simp))).below HBl.out
             | exact (PartsAt.lit (heap_old (heap_newk _ (by simp)) _)).below HBl.out
             | exact ((PartsAt.lit (heap_newk _ (by simp))).below HBl.out).alloc _
             | exact ((PartsAt.lit (heap_old (heap_newk _ (by simp)) _)).below HBl.out).alloc _
         · repeat (first | exact HW.out | apply Lw.alloc)
         rintro e w2 ⟨rfl, hW, hB⟩
         have HW := hid hW
         have HBl := hid hB
         clear hW hB)))
  all_goals
    go_wp2
    go_ret
    exact ⟨rfl, HW.out.below⟩

end Go.Proofs.YtmdcalkfapcafaaDoor
