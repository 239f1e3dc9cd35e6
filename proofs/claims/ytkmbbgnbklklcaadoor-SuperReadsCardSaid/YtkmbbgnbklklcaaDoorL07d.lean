/-
  The document's super: Parse.
-/
import Derived.Test.YtkmbbgnbklklcaaDoorL07b
import Derived.Test.YtkmbbgnbklklcaaDoorL07c
namespace Go.Proofs.YtkmbbgnbklklcaaDoor
open Go.RowKit

abbrev r5z : Obj := .cells #[.int .i64 0, .int .i64 0, .int .i64 0, .int .i64 0, .int .i64 0] 88 (0, 0)
def RefAtS (w : World) (N ep jo bi he ne : Nat) : Prop := w.heap[N]? = some (.cells #[.int .i64 (ep : Int), .int .i64 (jo : Int), .int .i64 (bi : Int), .int .i64 (he : Int), .int .i64 (ne : Int)] 88 (0, 0))
theorem ref_set {w : World} {N : Nat} {a b c d e : Nat} (h : RefAtS w N a b c d e) (ep jo bi he ne : Nat) : RefAtS (((((w.setCell ⟨N, 0, none⟩ (.int .i64 (ep : Int))).setCell ⟨N, 1, none⟩ (.int .i64 (jo : Int))).setCell ⟨N, 2, none⟩ (.int .i64 (bi : Int))).setCell ⟨N, 3, none⟩ (.int .i64 (he : Int))).setCell ⟨N, 4, none⟩ (.int .i64 (ne : Int))) N ep jo bi he ne :=
  heap_set_same (i := 4) (heap_set_same (i := 3) (heap_set_same (i := 2) (heap_set_same (i := 1) (heap_set_same (i := 0) h _) _) _) _) _
theorem ref_fr {w : World} (N : Nat) (ep jo bi he ne : Nat) : Fr (fun k => k = N) w (((((w.setCell ⟨N, 0, none⟩ (.int .i64 (ep : Int))).setCell ⟨N, 1, none⟩ (.int .i64 (jo : Int))).setCell ⟨N, 2, none⟩ (.int .i64 (bi : Int))).setCell ⟨N, 3, none⟩ (.int .i64 (he : Int))).setCell ⟨N, 4, none⟩ (.int .i64 (ne : Int))) :=
  (((((Fr.refl (fun k => k = N) w).setCell (p := ⟨N, 0, none⟩) (fun _ => rfl) _).setCell (p := ⟨N, 1, none⟩) (fun _ => rfl) _).setCell (p := ⟨N, 2, none⟩) (fun _ => rfl) _).setCell (p := ⟨N, 3, none⟩) (fun _ => rfl) _).setCell (p := ⟨N, 4, none⟩) (fun _ => rfl) _
theorem str_eq_dec (a b : List UInt8) : ((S a).toList == (S b).toList) = decide (a = b) := by
  rw [S_toList, S_toList]
  by_cases h : a = b
  · rw [h]; simp
  · rw [decide_eq_false h]; simpa using h
theorem number_is (l : List UInt8) (n : Nat) (w : World) (hl : l.length ≤ 4) (hn : be l = n) :
    Calls Tryd.prog 104 #[.string (S l)] w fun e w' => e = .returned (.int .i64 (n : Int)) ∧ w' = w := by rw [← hn]; exact ref7_number l w hl

set_option maxRecDepth 100000 in
set_option linter.unusedSimpArgs false in
set_option maxHeartbeats 4000000 in
theorem ref7_parse (l : List UInt8) (z zn : Int) (n : Nat) (w : World) (hl : l.length = 64) (hzn : zn = (n : Int)) (hn : n ≤ 1000000) :
    Calls Tryd.prog 69 #[.string (S l), .int .i64 z, .int .i64 zn] w fun e w' => e = .returned (.tuple #[.agg #[.int .i64 ((refSup l).ep : Int), .int .i64 ((refSup l).jo : Int), .int .i64 ((refSup l).bi : Int), .int .i64 ((refSup l).he : Int), .int .i64 ((refSup l).ne : Int)], .bool (decide (bearsSup l n ∧ ((sEp l % 2 : Nat) : Int) = z))]) ∧ Below w.heap.size w w' := by
  subst hzn
  have hss : (S l).size = 64 := by rw [S_size, hl]
  have x0 : (S l).extract 0 4 = S (l.take 4) := S_take l 4
  have x1 : (S l).extract 13 15 = S ((l.drop 13).take 2) := by rw [S_extract]
  have x2 : (S l).extract 15 17 = S ((l.drop 15).take 2) := by rw [S_extract]
  have x3 : (S l).extract 17 19 = S ((l.drop 17).take 2) := by rw [S_extract]
  have x4 : (S l).extract 19 23 = S ((l.drop 19).take 4) := by rw [S_extract]
  have hsm := refSup_small l
  have hbi := bears_iff l n
  have hsE : sEp l = (refSup l).ep := rfl
  rw [hsE]
  generalize hr : refSup l = x at *
  obtain ⟨ep, jo, bi, he, ne⟩ := x
  dsimp only
  obtain ⟨p, hp⟩ : ∃ p : Nat, p = ep % 2 := ⟨_, rfl⟩
  rw [← hp]
  have n0 : be (l.take 4) = ep := congrArg Sup.ep hr
  have n1 : be ((l.drop 13).take 2) = jo := congrArg Sup.jo hr
  have n2 : be ((l.drop 15).take 2) = bi := congrArg Sup.bi hr
  have n3 : be ((l.drop 17).take 2) = he := congrArg Sup.he hr
  have n4 : be ((l.drop 19).take 4) = ne := congrArg Sup.ne hr
  have y0 : (l.take 4).length ≤ 4 := by rw [List.length_take]; omega
  have y1 : ((l.drop 13).take 2).length ≤ 4 := by rw [List.length_take]; omega
  have y2 : ((l.drop 15).take 2).length ≤ 4 := by rw [List.length_take]; omega
  have y3 : ((l.drop 17).take 2).length ≤ 4 := by rw [List.length_take]; omega
  have y4 : ((l.drop 19).take 4).length ≤ 4 := by rw [List.length_take]; omega
  generalize l.take 4 = l0 at *
  generalize (l.drop 13).take 2 = l1 at *
  generalize (l.drop 15).take 2 = l2 at *
  generalize (l.drop 17).take 2 = l3 at *
  generalize (l.drop 19).take 4 = l4 at *
  have K0 := hid (fun w => number_is l0 ep w y0 n0)
  have K1 := hid (fun w => number_is l1 jo w y1 n1)
  have K2 := hid (fun w => number_is l2 bi w y2 n2)
  have K3 := hid (fun w => number_is l3 he w y3 n3)
  have K4 := hid (fun w => number_is l4 ne w y4 n4)
  have Hbi := hid hbi
  have Hsm := hid hsm
  have Hl := hid hl
  clear n0 n1 n2 n3 n4 y0 y1 y2 y3 y4 hbi hsE hr hsm hl
  go_enter Tryd.func69, Tryd.ntmps69
  go_upto_region 1 with fail
  generalize hw1 : w.alloc r5z = w1
  apply shared7
  · intro key
    go_region_law (first
        | (go_simp; go_at_call 104; (with_reducible refine (K0.out _).mono ?_); rintro e w2 ⟨rfl, rfl⟩)
        | (go_simp; go_at_call 104; (with_reducible refine (K1.out _).mono ?_); rintro e w2 ⟨rfl, rfl⟩)
        | (go_simp; go_at_call 104; (with_reducible refine (K2.out _).mono ?_); rintro e w2 ⟨rfl, rfl⟩)
        | (go_simp; go_at_call 104; (with_reducible refine (K3.out _).mono ?_); rintro e w2 ⟨rfl, rfl⟩)
        | (go_simp; go_at_call 104; (with_reducible refine (K4.out _).mono ?_); rintro e w2 ⟨rfl, rfl⟩))
    all_goals first | exact key.out | (go_simp; exact key.out)
  · have hX3 : RefAtS ((w1.alloc (.cells #[.int .i64 (ep : Int), .int .i64 (jo : Int), .int .i64 (bi : Int), .int .i64 (he : Int), .int .i64 (ne : Int)] 88)).drew) w1.heap.size ep jo bi he ne := heap_new w1 _
    have hR3 : RefAtS ((w1.alloc (.cells #[.int .i64 (ep : Int), .int .i64 (jo : Int), .int .i64 (bi : Int), .int .i64 (he : Int), .int .i64 (ne : Int)] 88)).drew) w.heap.size 0 0 0 0 0 := by subst hw1; exact heap_old (heap_new w _) _
    have hB3 : Below w.heap.size w ((w1.alloc (.cells #[.int .i64 (ep : Int), .int .i64 (jo : Int), .int .i64 (bi : Int), .int .i64 (he : Int), .int .i64 (ne : Int)] 88)).drew) := by subst hw1; exact (((Below.refl _ w).alloc (Nat.le_refl _) _).alloc (by simp) _).drew
    have hMN : w.heap.size ≠ w1.heap.size := by subst hw1; simp
    generalize (w1.alloc (.cells #[.int .i64 (ep : Int), .int .i64 (jo : Int), .int .i64 (bi : Int), .int .i64 (he : Int), .int .i64 (ne : Int)] 88)).drew = w3 at *
    generalize w1.heap.size = N at *
    generalize hM : w.heap.size = M at *
    have HM := hid hM
    have HB3 := hid hB3
    clear hw1 hB3 hM K0 K1 K2 K3 K4 x0 x1 x2 x3 x4
    have et : Int.tmod (ep : Int) 2 = (p : Int) := by rw [Int.tmod_eq_emod_of_nonneg (by omega)]; omega
    have hd0 : ((bearsSup l n ∧ (p : Int) = z) ↔ ((p : Int) = z ∧ frame ep 0 (supBytes jo bi he ne) = l ∧ supErr ep jo bi he ne n = 0)) := by rw [Hbi.out]; constructor; exact fun h => ⟨h.2, h.1.1, h.1.2⟩; exact fun h => ⟨⟨h.2.1, h.2.2⟩, h.1⟩
    have hKB := fun w => ref7_bytes ep jo bi he ne w Hsm.out.ep Hsm.out.jo Hsm.out.bi Hsm.out.he Hsm.out.ne
    have hKC := fun w => ref7_check ep jo bi he ne n w Hsm.out.jo Hsm.out.he hn
    have hse := str_eq_dec (frame ep 0 (supBytes jo bi he ne)) l
    generalize frame ep 0 (supBytes jo bi he ne) = f at *
    generalize supErr ep jo bi he ne n = c at *
    have HKB := hid hKB
    have HKC := hid hKC
    clear hKB hKC hp
    obtain ⟨k0, k1, k2, k3, k4⟩ := sup_cells hX3
    obtain ⟨s0, s1, s2, s3, s4⟩ := sup_cells hR3
    have g0 := free_of_block hR3 0
    have g1 := free_of_block hR3 1
    have g2 := free_of_block hR3 2
    have g3 := free_of_block hR3 3
    have g4 := free_of_block hR3 4
    have HX3 := hid hX3
    have HR3 := hid hR3
    clear hX3 hR3
    go_upto_region 2 with fail
    by_cases hA : (p : Int) = z
    · have e1 : decide ((p : Int) = z) = true := by simpa using hA
      have e1b : ((p : Int) == z) = true := by simpa using hA
      by_cases hF : f = l
      · rw [decide_eq_true hF] at hse
        by_cases hC : c = 0
        · have e3 : decide ((c : Int) = 0) = true := by simp; omega
          have e3b : ((c : Int) == 0) = true := by simp; omega
          have Hd : Hid (decide (bearsSup l n ∧ (p : Int) = z) = true) := hid (by rw [decide_eq_true (hd0.2 ⟨hA, hF, hC⟩)])
          clear hd0 hA hC
          refine wp_region_held_drew (S := fun w' => w'.cell? ⟨N, 0, none⟩ = some (.int .i64 (ep : Int)) ∧ w'.cell? ⟨N, 1, none⟩ = some (.int .i64 (jo : Int)) ∧ w'.cell? ⟨N, 2, none⟩ = some (.int .i64 (bi : Int)) ∧ w'.cell? ⟨N, 3, none⟩ = some (.int .i64 (he : Int)) ∧ w'.cell? ⟨N, 4, none⟩ = some (.int .i64 (ne : Int))) (by kernel_rfl) ⟨k0, k1, k2, k3, k4⟩ (fun hHeld => ?_)
          refine wpAnyH_take (i := 0) (oi := _) (v := ?_) rfl (by kernel_rfl) (by kernel_rfl) (by kernel_rfl) (fun _ _ _ h => h) (Or.inl ⟨by rfl, ?_⟩) (by assumption) ?_
          rotate_left
          · intro w hSw
            try dsimp only at hSw
            go_simp
            try with_reducible rfl
          try simp only [Act.put, List.setIfInBounds_toArray, List.set_cons_zero, List.set_cons_succ, List.getElem_toArray, List.getElem_cons_zero, List.getElem_cons_succ]
          refine wpAnyH_take (i := 1) (oi := _) (v := ?_) rfl (by kernel_rfl) (by kernel_rfl) (by kernel_rfl) (fun _ _ _ h => h) (Or.inl ⟨by rfl, ?_⟩) (by assumption) ?_
          rotate_left
          · intro w hSw
            try dsimp only at hSw
            go_simp
            try with_reducible rfl
          try simp only [Act.put, List.setIfInBounds_toArray, List.set_cons_zero, List.set_cons_succ, List.getElem_toArray, List.getElem_cons_zero, List.getElem_cons_succ]
          refine wpAnyH_take (i := 2) (oi := _) (v := ?_) rfl (by kernel_rfl) (by kernel_rfl) (by kernel_rfl) (fun _ _ _ h => h) (Or.inl ⟨by rfl, ?_⟩) (by assumption) ?_
          rotate_left
          · intro w hSw
            try dsimp only at hSw
            go_simp
            try with_reducible rfl
          try simp only [Act.put, List.setIfInBounds_toArray, List.set_cons_zero, List.set_cons_succ, List.getElem_toArray, List.getElem_cons_zero, List.getElem_cons_succ]
          refine wpAnyH_take (i := 3) (oi := _) (v := ?_) rfl (by kernel_rfl) (by kernel_rfl) (by kernel_rfl) (fun _ _ _ h => h) (Or.inl ⟨by rfl, ?_⟩) (by assumption) ?_
          rotate_left
          · intro w hSw
            try dsimp only at hSw
            go_simp
            try with_reducible rfl
          try simp only [Act.put, List.setIfInBounds_toArray, List.set_cons_zero, List.set_cons_succ, List.getElem_toArray, List.getElem_cons_zero, List.getElem_cons_succ]
          refine wpAnyH_take (i := 4) (oi := _) (v := ?_) rfl (by kernel_rfl) (by kernel_rfl) (by kernel_rfl) (fun _ _ _ h => h) (Or.inl ⟨by rfl, ?_⟩) (by assumption) ?_
          rotate_left
          · intro w hSw
            try dsimp only at hSw
            go_simp
            try with_reducible rfl
          try simp only [Act.put, List.setIfInBounds_toArray, List.set_cons_zero, List.set_cons_succ, List.getElem_toArray, List.getElem_cons_zero, List.getElem_cons_succ]
          refine wpAnyH_take (i := 5) (oi := _) (v := .bool true) rfl (by kernel_rfl) (by kernel_rfl) (by kernel_rfl) (fun _ _ _ h => h) (Or.inl ⟨by rfl, ?_⟩) (by assumption) ?_
          · intro w hSw
            try dsimp only at hSw
            go_simp
            try with_reducible rfl
          try simp only [Act.put, List.setIfInBounds_toArray, List.set_cons_zero, List.set_cons_succ, List.getElem_toArray, List.getElem_cons_zero, List.getElem_cons_succ]
          refine wpAnyH_take (i := 6) (oi := _) (v := .bool true) rfl (by kernel_rfl) (by kernel_rfl) (by kernel_rfl) (fun _ _ _ h => h) (Or.inl ⟨by rfl, ?_⟩) (by assumption) ?_
          · intro w hSw
            try dsimp only at hSw
            go_simp
            try with_reducible rfl
          try simp only [Act.put, List.setIfInBounds_toArray, List.set_cons_zero, List.set_cons_succ, List.getElem_toArray, List.getElem_cons_zero, List.getElem_cons_succ]
          refine wpAnyH_take (i := 7) (oi := _) (v := ?_) rfl (by kernel_rfl) (by kernel_rfl) (by kernel_rfl) (fun _ _ _ h => h) (Or.inl ⟨by rfl, ?_⟩) (by assumption) ?_
          rotate_left
          · intro w hSw
            try dsimp only at hSw
            go_simp
            try with_reducible rfl
          try simp only [Act.put, List.setIfInBounds_toArray, List.set_cons_zero, List.set_cons_succ, List.getElem_toArray, List.getElem_cons_zero, List.getElem_cons_succ]
          refine wpAnyH_take (i := 9) (oi := _) (v := ?_) rfl (by kernel_rfl) (by kernel_rfl) (by kernel_rfl) (fun _ _ _ h => h) (Or.inl ⟨by rfl, ?_⟩) (by assumption) ?_
          rotate_left
          · intro w hSw
            try dsimp only at hSw
            go_simp
            try with_reducible rfl
          try simp only [Act.put, List.setIfInBounds_toArray, List.set_cons_zero, List.set_cons_succ, List.getElem_toArray, List.getElem_cons_zero, List.getElem_cons_succ]
          refine wpAnyH_ready (rs := [8]) (by kernel_rfl) (by simp) ?_
          refine AllReadyH.cons (o := _) rfl (fun K hK => ?_) AllReadyH.nil
          go_simp
          go_at_call 65
          (with_reducible refine (HKB.out w3.drew).mono ?_)
          rintro e w4 ⟨rfl, hB4⟩
          have hX4 : RefAtS w4 N ep jo bi he ne := ((Below.undrew hB4).block N (lt_of_block HX3.out)).trans HX3.out
          have hR4 : RefAtS w4 M 0 0 0 0 0 := ((Below.undrew hB4).block M (lt_of_block HR3.out)).trans HR3.out
          have HB4 := hid (HB3.out.trans ((Below.undrew hB4).mono (by have h9 := HB3.out.size; have := HM.out; exact (by omega : M ≤ w3.heap.size))))
          clear hB4 s0 s1 s2 s3 s4 g0 g1 g2 g3 g4
          obtain ⟨l0, l1, l2, l3, l4⟩ := sup_cells hX4
          obtain ⟨s0, s1, s2, s3, s4⟩ := sup_cells hR4
          have g0 := free_of_block hR4 0
          have g1 := free_of_block hR4 1
          have g2 := free_of_block hR4 2
          have g3 := free_of_block hR4 3
          have g4 := free_of_block hR4 4
          have HX4 := hid hX4
          have HR4 := hid hR4
          clear hX4 hR4
          try dsimp only
          refine hK.out _ _ ?_ (fun hHeld => ?_)
          · exact ⟨l0, l1, l2, l3, l4⟩
          clear hK K
          try simp only [Act.put, List.setIfInBounds_toArray, List.set_cons_zero, List.set_cons_succ, List.getElem_toArray, List.getElem_cons_zero, List.getElem_cons_succ]
          refine wpAnyH_take (i := 10) (oi := _) (v := .bool true) rfl (by kernel_rfl) (by kernel_rfl) (by kernel_rfl) (fun _ _ _ h => h) (Or.inl ⟨by rfl, ?_⟩) (by assumption) ?_
          · intro w hSw
            try dsimp only at hSw
            go_simp
            try with_reducible rfl
          try simp only [Act.put, List.setIfInBounds_toArray, List.set_cons_zero, List.set_cons_succ, List.getElem_toArray, List.getElem_cons_zero, List.getElem_cons_succ]
          refine wpAnyH_take (i := 11) (oi := _) (v := .bool true) rfl (by kernel_rfl) (by kernel_rfl) (by kernel_rfl) (fun _ _ _ h => h) (Or.inl ⟨by rfl, ?_⟩) (by assumption) ?_
          · intro w hSw
            try dsimp only at hSw
            go_simp
            try with_reducible rfl
          try simp only [Act.put, List.setIfInBounds_toArray, List.set_cons_zero, List.set_cons_succ, List.getElem_toArray, List.getElem_cons_zero, List.getElem_cons_succ]
          refine wpAnyH_take (i := 12) (oi := _) (v := .bool true) rfl (by kernel_rfl) (by kernel_rfl) (by kernel_rfl) (fun _ _ _ h => h) (Or.inl ⟨by rfl, ?_⟩) (by assumption) ?_
          · intro w hSw
            try dsimp only at hSw
            go_simp
            try with_reducible rfl
          try simp only [Act.put, List.setIfInBounds_toArray, List.set_cons_zero, List.set_cons_succ, List.getElem_toArray, List.getElem_cons_zero, List.getElem_cons_succ]
          refine wpAnyH_take (i := 13) (oi := _) (v := ?_) rfl (by kernel_rfl) (by kernel_rfl) (by kernel_rfl) (fun _ _ _ h => h) (Or.inl ⟨by rfl, ?_⟩) (by assumption) ?_
          rotate_left
          · intro w hSw
            try dsimp only at hSw
            go_simp
            try with_reducible rfl
          try simp only [Act.put, List.setIfInBounds_toArray, List.set_cons_zero, List.set_cons_succ, List.getElem_toArray, List.getElem_cons_zero, List.getElem_cons_succ]
          refine wpAnyH_take (i := 14) (oi := _) (v := ?_) rfl (by kernel_rfl) (by kernel_rfl) (by kernel_rfl) (fun _ _ _ h => h) (Or.inl ⟨by rfl, ?_⟩) (by assumption) ?_
          rotate_left
          · intro w hSw
            try dsimp only at hSw
            go_simp
            try with_reducible rfl
          try simp only [Act.put, List.setIfInBounds_toArray, List.set_cons_zero, List.set_cons_succ, List.getElem_toArray, List.getElem_cons_zero, List.getElem_cons_succ]
          refine wpAnyH_ready (rs := [15]) (by kernel_rfl) (by simp) ?_
          refine AllReadyH.cons (o := _) rfl (fun K hK => ?_) AllReadyH.nil
          go_simp
          go_at_call 60
          (with_reducible refine (HKC.out w4).mono ?_)
          rintro e w5 ⟨rfl, hB5⟩
          have hX5 : RefAtS w5 N ep jo bi he ne := (hB5.block N (lt_of_block HX4.out)).trans HX4.out
          have hR5 : RefAtS w5 M 0 0 0 0 0 := (hB5.block M (lt_of_block HR4.out)).trans HR4.out
          have HB5 := hid (HB4.out.trans (hB5.mono (by have h9 := HB4.out.size; have := HM.out; exact (by omega : M ≤ w4.heap.size))))
          clear hB5 s0 s1 s2 s3 s4 g0 g1 g2 g3 g4
          obtain ⟨m0, m1, m2, m3, m4⟩ := sup_cells hX5
          obtain ⟨s0, s1, s2, s3, s4⟩ := sup_cells hR5
          have g0 := free_of_block hR5 0
          have g1 := free_of_block hR5 1
          have g2 := free_of_block hR5 2
          have g3 := free_of_block hR5 3
          have g4 := free_of_block hR5 4
          have HX5 := hid hX5
          have HR5 := hid hR5
          clear hX5 hR5
          try dsimp only
          refine hK.out _ _ ?_ (fun hHeld => ?_)
          · exact ⟨m0, m1, m2, m3, m4⟩
          clear hK K
          try simp only [Act.put, List.setIfInBounds_toArray, List.set_cons_zero, List.set_cons_succ, List.getElem_toArray, List.getElem_cons_zero, List.getElem_cons_succ]
          refine wpAnyH_take (i := 16) (oi := _) (v := .bool true) rfl (by kernel_rfl) (by kernel_rfl) (by kernel_rfl) (fun _ _ _ h => h) (Or.inl ⟨by rfl, ?_⟩) (by assumption) ?_
          · intro w hSw
            try dsimp only at hSw
            go_simp
            try with_reducible rfl
          try simp only [Act.put, List.setIfInBounds_toArray, List.set_cons_zero, List.set_cons_succ, List.getElem_toArray, List.getElem_cons_zero, List.getElem_cons_succ]
          refine wpAnyH_take (i := 17) (oi := _) (v := .bool true) rfl (by kernel_rfl) (by kernel_rfl) (by kernel_rfl) (fun _ _ _ h => h) (Or.inl ⟨by rfl, ?_⟩) (by assumption) ?_
          · intro w hSw
            try dsimp only at hSw
            go_simp
            try with_reducible rfl
          try simp only [Act.put, List.setIfInBounds_toArray, List.set_cons_zero, List.set_cons_succ, List.getElem_toArray, List.getElem_cons_zero, List.getElem_cons_succ]
          refine wpAnyH_ready (rs := [18]) (by kernel_rfl) (by simp) ?_
          refine AllReadyH.cons (o := _) rfl (fun K hK => ?_) AllReadyH.nil
          go_simp
          try dsimp only
          refine hK.out _ _ ?_ (fun hHeld => ?_)
          · exact ⟨cellS (cellS (cellS (cellS (cellS m0 (p := ⟨M, 0, none⟩) hMN _) (p := ⟨M, 1, none⟩) hMN _) (p := ⟨M, 2, none⟩) hMN _) (p := ⟨M, 3, none⟩) hMN _) (p := ⟨M, 4, none⟩) hMN _, cellS (cellS (cellS (cellS (cellS m1 (p := ⟨M, 0, none⟩) hMN _) (p := ⟨M, 1, none⟩) hMN _) (p := ⟨M, 2, none⟩) hMN _) (p := ⟨M, 3, none⟩) hMN _) (p := ⟨M, 4, none⟩) hMN _, cellS (cellS (cellS (cellS (cellS m2 (p := ⟨M, 0, none⟩) hMN _) (p := ⟨M, 1, none⟩) hMN _) (p := ⟨M, 2, none⟩) hMN _) (p := ⟨M, 3, none⟩) hMN _) (p := ⟨M, 4, none⟩) hMN _, cellS (cellS (cellS (cellS (cellS m3 (p := ⟨M, 0, none⟩) hMN _) (p := ⟨M, 1, none⟩) hMN _) (p := ⟨M, 2, none⟩) hMN _) (p := ⟨M, 3, none⟩) hMN _) (p := ⟨M, 4, none⟩) hMN _, cellS (cellS (cellS (cellS (cellS m4 (p := ⟨M, 0, none⟩) hMN _) (p := ⟨M, 1, none⟩) hMN _) (p := ⟨M, 2, none⟩) hMN _) (p := ⟨M, 3, none⟩) hMN _) (p := ⟨M, 4, none⟩) hMN _⟩
          clear hK K
          try simp only [Act.put, List.setIfInBounds_toArray, List.set_cons_zero, List.set_cons_succ, List.getElem_toArray, List.getElem_cons_zero, List.getElem_cons_succ]
          refine wpAnyH_ready (rs := [19]) (by kernel_rfl) (by simp) ?_
          refine AllReadyH.cons (o := _) rfl (fun K hK => ?_) AllReadyH.nil
          go_simp
          try dsimp only
          refine hK.out _ _ ?_ (fun hHeld => ?_)
          · exact ⟨cellS (cellS (cellS (cellS (cellS m0 (p := ⟨M, 0, none⟩) hMN _) (p := ⟨M, 1, none⟩) hMN _) (p := ⟨M, 2, none⟩) hMN _) (p := ⟨M, 3, none⟩) hMN _) (p := ⟨M, 4, none⟩) hMN _, cellS (cellS (cellS (cellS (cellS m1 (p := ⟨M, 0, none⟩) hMN _) (p := ⟨M, 1, none⟩) hMN _) (p := ⟨M, 2, none⟩) hMN _) (p := ⟨M, 3, none⟩) hMN _) (p := ⟨M, 4, none⟩) hMN _, cellS (cellS (cellS (cellS (cellS m2 (p := ⟨M, 0, none⟩) hMN _) (p := ⟨M, 1, none⟩) hMN _) (p := ⟨M, 2, none⟩) hMN _) (p := ⟨M, 3, none⟩) hMN _) (p := ⟨M, 4, none⟩) hMN _, cellS (cellS (cellS (cellS (cellS m3 (p := ⟨M, 0, none⟩) hMN _) (p := ⟨M, 1, none⟩) hMN _) (p := ⟨M, 2, none⟩) hMN _) (p := ⟨M, 3, none⟩) hMN _) (p := ⟨M, 4, none⟩) hMN _, cellS (cellS (cellS (cellS (cellS m4 (p := ⟨M, 0, none⟩) hMN _) (p := ⟨M, 1, none⟩) hMN _) (p := ⟨M, 2, none⟩) hMN _) (p := ⟨M, 3, none⟩) hMN _) (p := ⟨M, 4, none⟩) hMN _⟩
          clear hK K
          try simp only [Act.put, List.setIfInBounds_toArray, List.set_cons_zero, List.set_cons_succ, List.getElem_toArray, List.getElem_cons_zero, List.getElem_cons_succ]
          refine wpAnyH_done (by kernel_rfl) ?_ _
          go_wp2_with fail
          have hw : RefAtS (((((w5.setCell ⟨M, 0, none⟩ (.int .i64 (ep : Int))).setCell ⟨M, 1, none⟩ (.int .i64 (jo : Int))).setCell ⟨M, 2, none⟩ (.int .i64 (bi : Int))).setCell ⟨M, 3, none⟩ (.int .i64 (he : Int))).setCell ⟨M, 4, none⟩ (.int .i64 (ne : Int))) M ep jo bi he ne := ref_set HR5.out ep jo bi he ne
          have hB9 : Below M w (((((w5.setCell ⟨M, 0, none⟩ (.int .i64 (ep : Int))).setCell ⟨M, 1, none⟩ (.int .i64 (jo : Int))).setCell ⟨M, 2, none⟩ (.int .i64 (bi : Int))).setCell ⟨M, 3, none⟩ (.int .i64 (he : Int))).setCell ⟨M, 4, none⟩ (.int .i64 (ne : Int))) := HB5.out.trans ((ref_fr (w := w5) M ep jo bi he ne).below (by have := HB5.out.size; have := HM.out; omega) (fun k hk e => by omega))
          generalize ((((w5.setCell ⟨M, 0, none⟩ (.int .i64 (ep : Int))).setCell ⟨M, 1, none⟩ (.int .i64 (jo : Int))).setCell ⟨M, 2, none⟩ (.int .i64 (bi : Int))).setCell ⟨M, 3, none⟩ (.int .i64 (he : Int))).setCell ⟨M, 4, none⟩ (.int .i64 (ne : Int)) = w9 at *
          obtain ⟨z0, z1, z2, z3, z4⟩ := sup_cells hw
          refine bodyPost_ret (v := .tuple #[.agg #[.int .i64 (ep : Int), .int .i64 (jo : Int), .int .i64 (bi : Int), .int .i64 (he : Int), .int .i64 (ne : Int)], .bool true]) ?_ rfl ⟨by rw [Hd.out], by rw [HM.out]; first | exact hB9 | exact hB9.drew⟩
          rw [results_ct rfl]
          clear hB9 hw
          go_simp
        · have e3 : decide ((c : Int) = 0) = false := by simp; omega
          have e3b : ((c : Int) == 0) = false := by simp; omega
          have Hd : Hid (decide (bearsSup l n ∧ (p : Int) = z) = false) := hid (by rw [decide_eq_false (fun h => hC (hd0.1 h).2.2)])
          clear hd0 hA hC
          refine wp_region_held_drew (S := fun w' => w'.cell? ⟨N, 0, none⟩ = some (.int .i64 (ep : Int)) ∧ w'.cell? ⟨N, 1, none⟩ = some (.int .i64 (jo : Int)) ∧ w'.cell? ⟨N, 2, none⟩ = some (.int .i64 (bi : Int)) ∧ w'.cell? ⟨N, 3, none⟩ = some (.int .i64 (he : Int)) ∧ w'.cell? ⟨N, 4, none⟩ = some (.int .i64 (ne : Int))) (by kernel_rfl) ⟨k0, k1, k2, k3, k4⟩ (fun hHeld => ?_)
          refine wpAnyH_take (i := 0) (oi := _) (v := ?_) rfl (by kernel_rfl) (by kernel_rfl) (by kernel_rfl) (fun _ _ _ h => h) (Or.inl ⟨by rfl, ?_⟩) (by assumption) ?_
          rotate_left
          · intro w hSw
            try dsimp only at hSw
            go_simp
            try with_reducible rfl
          try simp only [Act.put, List.setIfInBounds_toArray, List.set_cons_zero, List.set_cons_succ, List.getElem_toArray, List.getElem_cons_zero, List.getElem_cons_succ]
          refine wpAnyH_take (i := 1) (oi := _) (v := ?_) rfl (by kernel_rfl) (by kernel_rfl) (by kernel_rfl) (fun _ _ _ h => h) (Or.inl ⟨by rfl, ?_⟩) (by assumption) ?_
          rotate_left
          · intro w hSw
            try dsimp only at hSw
            go_simp
            try with_reducible rfl
          try simp only [Act.put, List.setIfInBounds_toArray, List.set_cons_zero, List.set_cons_succ, List.getElem_toArray, List.getElem_cons_zero, List.getElem_cons_succ]
          refine wpAnyH_take (i := 2) (oi := _) (v := ?_) rfl (by kernel_rfl) (by kernel_rfl) (by kernel_rfl) (fun _ _ _ h => h) (Or.inl ⟨by rfl, ?_⟩) (by assumption) ?_
          rotate_left
          · intro w hSw
            try dsimp only at hSw
            go_simp
            try with_reducible rfl
          try simp only [Act.put, List.setIfInBounds_toArray, List.set_cons_zero, List.set_cons_succ, List.getElem_toArray, List.getElem_cons_zero, List.getElem_cons_succ]
          refine wpAnyH_take (i := 3) (oi := _) (v := ?_) rfl (by kernel_rfl) (by kernel_rfl) (by kernel_rfl) (fun _ _ _ h => h) (Or.inl ⟨by rfl, ?_⟩) (by assumption) ?_
          rotate_left
          · intro w hSw
            try dsimp only at hSw
            go_simp
            try with_reducible rfl
          try simp only [Act.put, List.setIfInBounds_toArray, List.set_cons_zero, List.set_cons_succ, List.getElem_toArray, List.getElem_cons_zero, List.getElem_cons_succ]
          refine wpAnyH_take (i := 4) (oi := _) (v := ?_) rfl (by kernel_rfl) (by kernel_rfl) (by kernel_rfl) (fun _ _ _ h => h) (Or.inl ⟨by rfl, ?_⟩) (by assumption) ?_
          rotate_left
          · intro w hSw
            try dsimp only at hSw
            go_simp
            try with_reducible rfl
          try simp only [Act.put, List.setIfInBounds_toArray, List.set_cons_zero, List.set_cons_succ, List.getElem_toArray, List.getElem_cons_zero, List.getElem_cons_succ]
          refine wpAnyH_take (i := 5) (oi := _) (v := .bool true) rfl (by kernel_rfl) (by kernel_rfl) (by kernel_rfl) (fun _ _ _ h => h) (Or.inl ⟨by rfl, ?_⟩) (by assumption) ?_
          · intro w hSw
            try dsimp only at hSw
            go_simp
            try with_reducible rfl
          try simp only [Act.put, List.setIfInBounds_toArray, List.set_cons_zero, List.set_cons_succ, List.getElem_toArray, List.getElem_cons_zero, List.getElem_cons_succ]
          refine wpAnyH_take (i := 6) (oi := _) (v := .bool true) rfl (by kernel_rfl) (by kernel_rfl) (by kernel_rfl) (fun _ _ _ h => h) (Or.inl ⟨by rfl, ?_⟩) (by assumption) ?_
          · intro w hSw
            try dsimp only at hSw
            go_simp
            try with_reducible rfl
          try simp only [Act.put, List.setIfInBounds_toArray, List.set_cons_zero, List.set_cons_succ, List.getElem_toArray, List.getElem_cons_zero, List.getElem_cons_succ]
          refine wpAnyH_take (i := 7) (oi := _) (v := ?_) rfl (by kernel_rfl) (by kernel_rfl) (by kernel_rfl) (fun _ _ _ h => h) (Or.inl ⟨by rfl, ?_⟩) (by assumption) ?_
          rotate_left
          · intro w hSw
            try dsimp only at hSw
            go_simp
            try with_reducible rfl
          try simp only [Act.put, List.setIfInBounds_toArray, List.set_cons_zero, List.set_cons_succ, List.getElem_toArray, List.getElem_cons_zero, List.getElem_cons_succ]
          refine wpAnyH_take (i := 9) (oi := _) (v := ?_) rfl (by kernel_rfl) (by kernel_rfl) (by kernel_rfl) (fun _ _ _ h => h) (Or.inl ⟨by rfl, ?_⟩) (by assumption) ?_
          rotate_left
          · intro w hSw
            try dsimp only at hSw
            go_simp
            try with_reducible rfl
          try simp only [Act.put, List.setIfInBounds_toArray, List.set_cons_zero, List.set_cons_succ, List.getElem_toArray, List.getElem_cons_zero, List.getElem_cons_succ]
          refine wpAnyH_ready (rs := [8]) (by kernel_rfl) (by simp) ?_
          refine AllReadyH.cons (o := _) rfl (fun K hK => ?_) AllReadyH.nil
          go_simp
          go_at_call 65
          (with_reducible refine (HKB.out w3.drew).mono ?_)
          rintro e w4 ⟨rfl, hB4⟩
          have hX4 : RefAtS w4 N ep jo bi he ne := ((Below.undrew hB4).block N (lt_of_block HX3.out)).trans HX3.out
          have hR4 : RefAtS w4 M 0 0 0 0 0 := ((Below.undrew hB4).block M (lt_of_block HR3.out)).trans HR3.out
          have HB4 := hid (HB3.out.trans ((Below.undrew hB4).mono (by have h9 := HB3.out.size; have := HM.out; exact (by omega : M ≤ w3.heap.size))))
          clear hB4 s0 s1 s2 s3 s4 g0 g1 g2 g3 g4
          obtain ⟨l0, l1, l2, l3, l4⟩ := sup_cells hX4
          obtain ⟨s0, s1, s2, s3, s4⟩ := sup_cells hR4
          have g0 := free_of_block hR4 0
          have g1 := free_of_block hR4 1
          have g2 := free_of_block hR4 2
          have g3 := free_of_block hR4 3
          have g4 := free_of_block hR4 4
          have HX4 := hid hX4
          have HR4 := hid hR4
          clear hX4 hR4
          try dsimp only
          refine hK.out _ _ ?_ (fun hHeld => ?_)
          · exact ⟨l0, l1, l2, l3, l4⟩
          clear hK K
          try simp only [Act.put, List.setIfInBounds_toArray, List.set_cons_zero, List.set_cons_succ, List.getElem_toArray, List.getElem_cons_zero, List.getElem_cons_succ]
          refine wpAnyH_take (i := 10) (oi := _) (v := .bool true) rfl (by kernel_rfl) (by kernel_rfl) (by kernel_rfl) (fun _ _ _ h => h) (Or.inl ⟨by rfl, ?_⟩) (by assumption) ?_
          · intro w hSw
            try dsimp only at hSw
            go_simp
            try with_reducible rfl
          try simp only [Act.put, List.setIfInBounds_toArray, List.set_cons_zero, List.set_cons_succ, List.getElem_toArray, List.getElem_cons_zero, List.getElem_cons_succ]
          refine wpAnyH_take (i := 11) (oi := _) (v := .bool true) rfl (by kernel_rfl) (by kernel_rfl) (by kernel_rfl) (fun _ _ _ h => h) (Or.inl ⟨by rfl, ?_⟩) (by assumption) ?_
          · intro w hSw
            try dsimp only at hSw
            go_simp
            try with_reducible rfl
          try simp only [Act.put, List.setIfInBounds_toArray, List.set_cons_zero, List.set_cons_succ, List.getElem_toArray, List.getElem_cons_zero, List.getElem_cons_succ]
          refine wpAnyH_take (i := 12) (oi := _) (v := .bool true) rfl (by kernel_rfl) (by kernel_rfl) (by kernel_rfl) (fun _ _ _ h => h) (Or.inl ⟨by rfl, ?_⟩) (by assumption) ?_
          · intro w hSw
            try dsimp only at hSw
            go_simp
            try with_reducible rfl
          try simp only [Act.put, List.setIfInBounds_toArray, List.set_cons_zero, List.set_cons_succ, List.getElem_toArray, List.getElem_cons_zero, List.getElem_cons_succ]
          refine wpAnyH_take (i := 13) (oi := _) (v := ?_) rfl (by kernel_rfl) (by kernel_rfl) (by kernel_rfl) (fun _ _ _ h => h) (Or.inl ⟨by rfl, ?_⟩) (by assumption) ?_
          rotate_left
          · intro w hSw
            try dsimp only at hSw
            go_simp
            try with_reducible rfl
          try simp only [Act.put, List.setIfInBounds_toArray, List.set_cons_zero, List.set_cons_succ, List.getElem_toArray, List.getElem_cons_zero, List.getElem_cons_succ]
          refine wpAnyH_take (i := 14) (oi := _) (v := ?_) rfl (by kernel_rfl) (by kernel_rfl) (by kernel_rfl) (fun _ _ _ h => h) (Or.inl ⟨by rfl, ?_⟩) (by assumption) ?_
          rotate_left
          · intro w hSw
            try dsimp only at hSw
            go_simp
            try with_reducible rfl
          try simp only [Act.put, List.setIfInBounds_toArray, List.set_cons_zero, List.set_cons_succ, List.getElem_toArray, List.getElem_cons_zero, List.getElem_cons_succ]
          refine wpAnyH_ready (rs := [15]) (by kernel_rfl) (by simp) ?_
          refine AllReadyH.cons (o := _) rfl (fun K hK => ?_) AllReadyH.nil
          go_simp
          go_at_call 60
          (with_reducible refine (HKC.out w4).mono ?_)
          rintro e w5 ⟨rfl, hB5⟩
          have hX5 : RefAtS w5 N ep jo bi he ne := (hB5.block N (lt_of_block HX4.out)).trans HX4.out
          have hR5 : RefAtS w5 M 0 0 0 0 0 := (hB5.block M (lt_of_block HR4.out)).trans HR4.out
          have HB5 := hid (HB4.out.trans (hB5.mono (by have h9 := HB4.out.size; have := HM.out; exact (by omega : M ≤ w4.heap.size))))
          clear hB5 s0 s1 s2 s3 s4 g0 g1 g2 g3 g4
          obtain ⟨m0, m1, m2, m3, m4⟩ := sup_cells hX5
          obtain ⟨s0, s1, s2, s3, s4⟩ := sup_cells hR5
          have g0 := free_of_block hR5 0
          have g1 := free_of_block hR5 1
          have g2 := free_of_block hR5 2
          have g3 := free_of_block hR5 3
          have g4 := free_of_block hR5 4
          have HX5 := hid hX5
          have HR5 := hid hR5
          clear hX5 hR5
          try dsimp only
          refine hK.out _ _ ?_ (fun hHeld => ?_)
          · exact ⟨m0, m1, m2, m3, m4⟩
          clear hK K
          try simp only [Act.put, List.setIfInBounds_toArray, List.set_cons_zero, List.set_cons_succ, List.getElem_toArray, List.getElem_cons_zero, List.getElem_cons_succ]
          refine wpAnyH_take (i := 16) (oi := _) (v := .bool false) rfl (by kernel_rfl) (by kernel_rfl) (by kernel_rfl) (fun _ _ _ h => h) (Or.inl ⟨by rfl, ?_⟩) (by assumption) ?_
          · intro w hSw
            try dsimp only at hSw
            go_simp
            try with_reducible rfl
          try simp only [Act.put, List.setIfInBounds_toArray, List.set_cons_zero, List.set_cons_succ, List.getElem_toArray, List.getElem_cons_zero, List.getElem_cons_succ]
          refine wpAnyH_take (i := 17) (oi := _) (v := .bool false) rfl (by kernel_rfl) (by kernel_rfl) (by kernel_rfl) (fun _ _ _ h => h) (Or.inl ⟨by rfl, ?_⟩) (by assumption) ?_
          · intro w hSw
            try dsimp only at hSw
            go_simp
            try with_reducible rfl
          try simp only [Act.put, List.setIfInBounds_toArray, List.set_cons_zero, List.set_cons_succ, List.getElem_toArray, List.getElem_cons_zero, List.getElem_cons_succ]
          refine wpAnyH_ready (rs := [18]) (by kernel_rfl) (by simp) ?_
          refine AllReadyH.cons (o := _) rfl (fun K hK => ?_) AllReadyH.nil
          go_simp
          try dsimp only
          refine hK.out _ _ ?_ (fun hHeld => ?_)
          · exact ⟨cellS (cellS (cellS (cellS (cellS m0 (p := ⟨M, 0, none⟩) hMN _) (p := ⟨M, 1, none⟩) hMN _) (p := ⟨M, 2, none⟩) hMN _) (p := ⟨M, 3, none⟩) hMN _) (p := ⟨M, 4, none⟩) hMN _, cellS (cellS (cellS (cellS (cellS m1 (p := ⟨M, 0, none⟩) hMN _) (p := ⟨M, 1, none⟩) hMN _) (p := ⟨M, 2, none⟩) hMN _) (p := ⟨M, 3, none⟩) hMN _) (p := ⟨M, 4, none⟩) hMN _, cellS (cellS (cellS (cellS (cellS m2 (p := ⟨M, 0, none⟩) hMN _) (p := ⟨M, 1, none⟩) hMN _) (p := ⟨M, 2, none⟩) hMN _) (p := ⟨M, 3, none⟩) hMN _) (p := ⟨M, 4, none⟩) hMN _, cellS (cellS (cellS (cellS (cellS m3 (p := ⟨M, 0, none⟩) hMN _) (p := ⟨M, 1, none⟩) hMN _) (p := ⟨M, 2, none⟩) hMN _) (p := ⟨M, 3, none⟩) hMN _) (p := ⟨M, 4, none⟩) hMN _, cellS (cellS (cellS (cellS (cellS m4 (p := ⟨M, 0, none⟩) hMN _) (p := ⟨M, 1, none⟩) hMN _) (p := ⟨M, 2, none⟩) hMN _) (p := ⟨M, 3, none⟩) hMN _) (p := ⟨M, 4, none⟩) hMN _⟩
          clear hK K
          try simp only [Act.put, List.setIfInBounds_toArray, List.set_cons_zero, List.set_cons_succ, List.getElem_toArray, List.getElem_cons_zero, List.getElem_cons_succ]
          refine wpAnyH_ready (rs := [19]) (by kernel_rfl) (by simp) ?_
          refine AllReadyH.cons (o := _) rfl (fun K hK => ?_) AllReadyH.nil
          go_simp
          try dsimp only
          refine hK.out _ _ ?_ (fun hHeld => ?_)
          · exact ⟨cellS (cellS (cellS (cellS (cellS m0 (p := ⟨M, 0, none⟩) hMN _) (p := ⟨M, 1, none⟩) hMN _) (p := ⟨M, 2, none⟩) hMN _) (p := ⟨M, 3, none⟩) hMN _) (p := ⟨M, 4, none⟩) hMN _, cellS (cellS (cellS (cellS (cellS m1 (p := ⟨M, 0, none⟩) hMN _) (p := ⟨M, 1, none⟩) hMN _) (p := ⟨M, 2, none⟩) hMN _) (p := ⟨M, 3, none⟩) hMN _) (p := ⟨M, 4, none⟩) hMN _, cellS (cellS (cellS (cellS (cellS m2 (p := ⟨M, 0, none⟩) hMN _) (p := ⟨M, 1, none⟩) hMN _) (p := ⟨M, 2, none⟩) hMN _) (p := ⟨M, 3, none⟩) hMN _) (p := ⟨M, 4, none⟩) hMN _, cellS (cellS (cellS (cellS (cellS m3 (p := ⟨M, 0, none⟩) hMN _) (p := ⟨M, 1, none⟩) hMN _) (p := ⟨M, 2, none⟩) hMN _) (p := ⟨M, 3, none⟩) hMN _) (p := ⟨M, 4, none⟩) hMN _, cellS (cellS (cellS (cellS (cellS m4 (p := ⟨M, 0, none⟩) hMN _) (p := ⟨M, 1, none⟩) hMN _) (p := ⟨M, 2, none⟩) hMN _) (p := ⟨M, 3, none⟩) hMN _) (p := ⟨M, 4, none⟩) hMN _⟩
          clear hK K
          try simp only [Act.put, List.setIfInBounds_toArray, List.set_cons_zero, List.set_cons_succ, List.getElem_toArray, List.getElem_cons_zero, List.getElem_cons_succ]
          refine wpAnyH_done (by kernel_rfl) ?_ _
          go_wp2_with fail
          have hw : RefAtS (((((w5.setCell ⟨M, 0, none⟩ (.int .i64 (ep : Int))).setCell ⟨M, 1, none⟩ (.int .i64 (jo : Int))).setCell ⟨M, 2, none⟩ (.int .i64 (bi : Int))).setCell ⟨M, 3, none⟩ (.int .i64 (he : Int))).setCell ⟨M, 4, none⟩ (.int .i64 (ne : Int))) M ep jo bi he ne := ref_set HR5.out ep jo bi he ne
          have hB9 : Below M w (((((w5.setCell ⟨M, 0, none⟩ (.int .i64 (ep : Int))).setCell ⟨M, 1, none⟩ (.int .i64 (jo : Int))).setCell ⟨M, 2, none⟩ (.int .i64 (bi : Int))).setCell ⟨M, 3, none⟩ (.int .i64 (he : Int))).setCell ⟨M, 4, none⟩ (.int .i64 (ne : Int))) := HB5.out.trans ((ref_fr (w := w5) M ep jo bi he ne).below (by have := HB5.out.size; have := HM.out; omega) (fun k hk e => by omega))
          generalize ((((w5.setCell ⟨M, 0, none⟩ (.int .i64 (ep : Int))).setCell ⟨M, 1, none⟩ (.int .i64 (jo : Int))).setCell ⟨M, 2, none⟩ (.int .i64 (bi : Int))).setCell ⟨M, 3, none⟩ (.int .i64 (he : Int))).setCell ⟨M, 4, none⟩ (.int .i64 (ne : Int)) = w9 at *
          obtain ⟨z0, z1, z2, z3, z4⟩ := sup_cells hw
          refine bodyPost_ret (v := .tuple #[.agg #[.int .i64 (ep : Int), .int .i64 (jo : Int), .int .i64 (bi : Int), .int .i64 (he : Int), .int .i64 (ne : Int)], .bool false]) ?_ rfl ⟨by rw [Hd.out], by rw [HM.out]; first | exact hB9 | exact hB9.drew⟩
          rw [results_ct rfl]
          clear hB9 hw
          go_simp
      · rw [decide_eq_false hF] at hse
        have Hd : Hid (decide (bearsSup l n ∧ (p : Int) = z) = false) := hid (by rw [decide_eq_false (fun h => hF (hd0.1 h).2.1)])
        clear hd0 hA hF
        refine wp_region_held_drew (S := fun w' => w'.cell? ⟨N, 0, none⟩ = some (.int .i64 (ep : Int)) ∧ w'.cell? ⟨N, 1, none⟩ = some (.int .i64 (jo : Int)) ∧ w'.cell? ⟨N, 2, none⟩ = some (.int .i64 (bi : Int)) ∧ w'.cell? ⟨N, 3, none⟩ = some (.int .i64 (he : Int)) ∧ w'.cell? ⟨N, 4, none⟩ = some (.int .i64 (ne : Int))) (by kernel_rfl) ⟨k0, k1, k2, k3, k4⟩ (fun hHeld => ?_)
        refine wpAnyH_take (i := 0) (oi := _) (v := ?_) rfl (by kernel_rfl) (by kernel_rfl) (by kernel_rfl) (fun _ _ _ h => h) (Or.inl ⟨by rfl, ?_⟩) (by assumption) ?_
        rotate_left
        · intro w hSw
          try dsimp only at hSw
          go_simp
          try with_reducible rfl
        try simp only [Act.put, List.setIfInBounds_toArray, List.set_cons_zero, List.set_cons_succ, List.getElem_toArray, List.getElem_cons_zero, List.getElem_cons_succ]
        refine wpAnyH_take (i := 1) (oi := _) (v := ?_) rfl (by kernel_rfl) (by kernel_rfl) (by kernel_rfl) (fun _ _ _ h => h) (Or.inl ⟨by rfl, ?_⟩) (by assumption) ?_
        rotate_left
        · intro w hSw
          try dsimp only at hSw
          go_simp
          try with_reducible rfl
        try simp only [Act.put, List.setIfInBounds_toArray, List.set_cons_zero, List.set_cons_succ, List.getElem_toArray, List.getElem_cons_zero, List.getElem_cons_succ]
        refine wpAnyH_take (i := 2) (oi := _) (v := ?_) rfl (by kernel_rfl) (by kernel_rfl) (by kernel_rfl) (fun _ _ _ h => h) (Or.inl ⟨by rfl, ?_⟩) (by assumption) ?_
        rotate_left
        · intro w hSw
          try dsimp only at hSw
          go_simp
          try with_reducible rfl
        try simp only [Act.put, List.setIfInBounds_toArray, List.set_cons_zero, List.set_cons_succ, List.getElem_toArray, List.getElem_cons_zero, List.getElem_cons_succ]
        refine wpAnyH_take (i := 3) (oi := _) (v := ?_) rfl (by kernel_rfl) (by kernel_rfl) (by kernel_rfl) (fun _ _ _ h => h) (Or.inl ⟨by rfl, ?_⟩) (by assumption) ?_
        rotate_left
        · intro w hSw
          try dsimp only at hSw
          go_simp
          try with_reducible rfl
        try simp only [Act.put, List.setIfInBounds_toArray, List.set_cons_zero, List.set_cons_succ, List.getElem_toArray, List.getElem_cons_zero, List.getElem_cons_succ]
        refine wpAnyH_take (i := 4) (oi := _) (v := ?_) rfl (by kernel_rfl) (by kernel_rfl) (by kernel_rfl) (fun _ _ _ h => h) (Or.inl ⟨by rfl, ?_⟩) (by assumption) ?_
        rotate_left
        · intro w hSw
          try dsimp only at hSw
          go_simp
          try with_reducible rfl
        try simp only [Act.put, List.setIfInBounds_toArray, List.set_cons_zero, List.set_cons_succ, List.getElem_toArray, List.getElem_cons_zero, List.getElem_cons_succ]
        refine wpAnyH_take (i := 5) (oi := _) (v := .bool true) rfl (by kernel_rfl) (by kernel_rfl) (by kernel_rfl) (fun _ _ _ h => h) (Or.inl ⟨by rfl, ?_⟩) (by assumption) ?_
        · intro w hSw
          try dsimp only at hSw
          go_simp
          try with_reducible rfl
        try simp only [Act.put, List.setIfInBounds_toArray, List.set_cons_zero, List.set_cons_succ, List.getElem_toArray, List.getElem_cons_zero, List.getElem_cons_succ]
        refine wpAnyH_take (i := 6) (oi := _) (v := .bool true) rfl (by kernel_rfl) (by kernel_rfl) (by kernel_rfl) (fun _ _ _ h => h) (Or.inl ⟨by rfl, ?_⟩) (by assumption) ?_
        · intro w hSw
          try dsimp only at hSw
          go_simp
          try with_reducible rfl
        try simp only [Act.put, List.setIfInBounds_toArray, List.set_cons_zero, List.set_cons_succ, List.getElem_toArray, List.getElem_cons_zero, List.getElem_cons_succ]
        refine wpAnyH_take (i := 7) (oi := _) (v := ?_) rfl (by kernel_rfl) (by kernel_rfl) (by kernel_rfl) (fun _ _ _ h => h) (Or.inl ⟨by rfl, ?_⟩) (by assumption) ?_
        rotate_left
        · intro w hSw
          try dsimp only at hSw
          go_simp
          try with_reducible rfl
        try simp only [Act.put, List.setIfInBounds_toArray, List.set_cons_zero, List.set_cons_succ, List.getElem_toArray, List.getElem_cons_zero, List.getElem_cons_succ]
        refine wpAnyH_take (i := 9) (oi := _) (v := ?_) rfl (by kernel_rfl) (by kernel_rfl) (by kernel_rfl) (fun _ _ _ h => h) (Or.inl ⟨by rfl, ?_⟩) (by assumption) ?_
        rotate_left
        · intro w hSw
          try dsimp only at hSw
          go_simp
          try with_reducible rfl
        try simp only [Act.put, List.setIfInBounds_toArray, List.set_cons_zero, List.set_cons_succ, List.getElem_toArray, List.getElem_cons_zero, List.getElem_cons_succ]
        refine wpAnyH_ready (rs := [8]) (by kernel_rfl) (by simp) ?_
        refine AllReadyH.cons (o := _) rfl (fun K hK => ?_) AllReadyH.nil
        go_simp
        go_at_call 65
        (with_reducible refine (HKB.out w3.drew).mono ?_)
        rintro e w4 ⟨rfl, hB4⟩
        have hX4 : RefAtS w4 N ep jo bi he ne := ((Below.undrew hB4).block N (lt_of_block HX3.out)).trans HX3.out
        have hR4 : RefAtS w4 M 0 0 0 0 0 := ((Below.undrew hB4).block M (lt_of_block HR3.out)).trans HR3.out
        have HB4 := hid (HB3.out.trans ((Below.undrew hB4).mono (by have h9 := HB3.out.size; have := HM.out; exact (by omega : M ≤ w3.heap.size))))
        clear hB4 s0 s1 s2 s3 s4 g0 g1 g2 g3 g4
        obtain ⟨l0, l1, l2, l3, l4⟩ := sup_cells hX4
        obtain ⟨s0, s1, s2, s3, s4⟩ := sup_cells hR4
        have g0 := free_of_block hR4 0
        have g1 := free_of_block hR4 1
        have g2 := free_of_block hR4 2
        have g3 := free_of_block hR4 3
        have g4 := free_of_block hR4 4
        have HX4 := hid hX4
        have HR4 := hid hR4
        clear hX4 hR4
        try dsimp only
        refine hK.out _ _ ?_ (fun hHeld => ?_)
        · exact ⟨l0, l1, l2, l3, l4⟩
        clear hK K
        try simp only [Act.put, List.setIfInBounds_toArray, List.set_cons_zero, List.set_cons_succ, List.getElem_toArray, List.getElem_cons_zero, List.getElem_cons_succ]
        refine wpAnyH_take (i := 10) (oi := _) (v := .bool false) rfl (by kernel_rfl) (by kernel_rfl) (by kernel_rfl) (fun _ _ _ h => h) (Or.inl ⟨by rfl, ?_⟩) (by assumption) ?_
        · intro w hSw
          try dsimp only at hSw
          go_simp
          try with_reducible rfl
        try simp only [Act.put, List.setIfInBounds_toArray, List.set_cons_zero, List.set_cons_succ, List.getElem_toArray, List.getElem_cons_zero, List.getElem_cons_succ]
        refine wpAnyH_take (i := 11) (oi := _) (v := .bool false) rfl (by kernel_rfl) (by kernel_rfl) (by kernel_rfl) (fun _ _ _ h => h) (Or.inl ⟨by rfl, ?_⟩) (by assumption) ?_
        · intro w hSw
          try dsimp only at hSw
          go_simp
          try with_reducible rfl
        try simp only [Act.put, List.setIfInBounds_toArray, List.set_cons_zero, List.set_cons_succ, List.getElem_toArray, List.getElem_cons_zero, List.getElem_cons_succ]
        refine wpAnyH_take (i := 12) (oi := _) (v := .bool false) rfl (by kernel_rfl) (by kernel_rfl) (by kernel_rfl) (fun _ _ _ h => h) (Or.inl ⟨by rfl, ?_⟩) (by assumption) ?_
        · intro w hSw
          try dsimp only at hSw
          go_simp
          try with_reducible rfl
        try simp only [Act.put, List.setIfInBounds_toArray, List.set_cons_zero, List.set_cons_succ, List.getElem_toArray, List.getElem_cons_zero, List.getElem_cons_succ]
        refine wpAnyH_take (i := 13) (oi := _) (v := undef) rfl (by kernel_rfl) (by kernel_rfl) (by kernel_rfl) (fun _ _ _ h => h) (Or.inr ⟨by rfl, rfl⟩) (by assumption) ?_
        try simp only [Act.put, List.setIfInBounds_toArray, List.set_cons_zero, List.set_cons_succ, List.getElem_toArray, List.getElem_cons_zero, List.getElem_cons_succ]
        refine wpAnyH_take (i := 14) (oi := _) (v := undef) rfl (by kernel_rfl) (by kernel_rfl) (by kernel_rfl) (fun _ _ _ h => h) (Or.inr ⟨by rfl, rfl⟩) (by assumption) ?_
        try simp only [Act.put, List.setIfInBounds_toArray, List.set_cons_zero, List.set_cons_succ, List.getElem_toArray, List.getElem_cons_zero, List.getElem_cons_succ]
        refine wpAnyH_take (i := 15) (oi := _) (v := undef) rfl (by kernel_rfl) (by kernel_rfl) (by kernel_rfl) (fun _ _ _ h => h) (Or.inr ⟨by rfl, rfl⟩) (by assumption) ?_
        try simp only [Act.put, List.setIfInBounds_toArray, List.set_cons_zero, List.set_cons_succ, List.getElem_toArray, List.getElem_cons_zero, List.getElem_cons_succ]
        refine wpAnyH_take (i := 16) (oi := _) (v := undef) rfl (by kernel_rfl) (by kernel_rfl) (by kernel_rfl) (fun _ _ _ h => h) (Or.inr ⟨by rfl, rfl⟩) (by assumption) ?_
        try simp only [Act.put, List.setIfInBounds_toArray, List.set_cons_zero, List.set_cons_succ, List.getElem_toArray, List.getElem_cons_zero, List.getElem_cons_succ]
        refine wpAnyH_take (i := 17) (oi := _) (v := .bool false) rfl (by kernel_rfl) (by kernel_rfl) (by kernel_rfl) (fun _ _ _ h => h) (Or.inl ⟨by rfl, ?_⟩) (by assumption) ?_
        · intro w hSw
          try dsimp only at hSw
          go_simp
          try with_reducible rfl
        try simp only [Act.put, List.setIfInBounds_toArray, List.set_cons_zero, List.set_cons_succ, List.getElem_toArray, List.getElem_cons_zero, List.getElem_cons_succ]
        refine wpAnyH_ready (rs := [18]) (by kernel_rfl) (by simp) ?_
        refine AllReadyH.cons (o := _) rfl (fun K hK => ?_) AllReadyH.nil
        go_simp
        try dsimp only
        refine hK.out _ _ ?_ (fun hHeld => ?_)
        · exact ⟨cellS (cellS (cellS (cellS (cellS l0 (p := ⟨M, 0, none⟩) hMN _) (p := ⟨M, 1, none⟩) hMN _) (p := ⟨M, 2, none⟩) hMN _) (p := ⟨M, 3, none⟩) hMN _) (p := ⟨M, 4, none⟩) hMN _, cellS (cellS (cellS (cellS (cellS l1 (p := ⟨M, 0, none⟩) hMN _) (p := ⟨M, 1, none⟩) hMN _) (p := ⟨M, 2, none⟩) hMN _) (p := ⟨M, 3, none⟩) hMN _) (p := ⟨M, 4, none⟩) hMN _, cellS (cellS (cellS (cellS (cellS l2 (p := ⟨M, 0, none⟩) hMN _) (p := ⟨M, 1, none⟩) hMN _) (p := ⟨M, 2, none⟩) hMN _) (p := ⟨M, 3, none⟩) hMN _) (p := ⟨M, 4, none⟩) hMN _, cellS (cellS (cellS (cellS (cellS l3 (p := ⟨M, 0, none⟩) hMN _) (p := ⟨M, 1, none⟩) hMN _) (p := ⟨M, 2, none⟩) hMN _) (p := ⟨M, 3, none⟩) hMN _) (p := ⟨M, 4, none⟩) hMN _, cellS (cellS (cellS (cellS (cellS l4 (p := ⟨M, 0, none⟩) hMN _) (p := ⟨M, 1, none⟩) hMN _) (p := ⟨M, 2, none⟩) hMN _) (p := ⟨M, 3, none⟩) hMN _) (p := ⟨M, 4, none⟩) hMN _⟩
        clear hK K
        try simp only [Act.put, List.setIfInBounds_toArray, List.set_cons_zero, List.set_cons_succ, List.getElem_toArray, List.getElem_cons_zero, List.getElem_cons_succ]
        refine wpAnyH_ready (rs := [19]) (by kernel_rfl) (by simp) ?_
        refine AllReadyH.cons (o := _) rfl (fun K hK => ?_) AllReadyH.nil
        go_simp
        try dsimp only
        refine hK.out _ _ ?_ (fun hHeld => ?_)
        · exact ⟨cellS (cellS (cellS (cellS (cellS l0 (p := ⟨M, 0, none⟩) hMN _) (p := ⟨M, 1, none⟩) hMN _) (p := ⟨M, 2, none⟩) hMN _) (p := ⟨M, 3, none⟩) hMN _) (p := ⟨M, 4, none⟩) hMN _, cellS (cellS (cellS (cellS (cellS l1 (p := ⟨M, 0, none⟩) hMN _) (p := ⟨M, 1, none⟩) hMN _) (p := ⟨M, 2, none⟩) hMN _) (p := ⟨M, 3, none⟩) hMN _) (p := ⟨M, 4, none⟩) hMN _, cellS (cellS (cellS (cellS (cellS l2 (p := ⟨M, 0, none⟩) hMN _) (p := ⟨M, 1, none⟩) hMN _) (p := ⟨M, 2, none⟩) hMN _) (p := ⟨M, 3, none⟩) hMN _) (p := ⟨M, 4, none⟩) hMN _, cellS (cellS (cellS (cellS (cellS l3 (p := ⟨M, 0, none⟩) hMN _) (p := ⟨M, 1, none⟩) hMN _) (p := ⟨M, 2, none⟩) hMN _) (p := ⟨M, 3, none⟩) hMN _) (p := ⟨M, 4, none⟩) hMN _, cellS (cellS (cellS (cellS (cellS l4 (p := ⟨M, 0, none⟩) hMN _) (p := ⟨M, 1, none⟩) hMN _) (p := ⟨M, 2, none⟩) hMN _) (p := ⟨M, 3, none⟩) hMN _) (p := ⟨M, 4, none⟩) hMN _⟩
        clear hK K
        try simp only [Act.put, List.setIfInBounds_toArray, List.set_cons_zero, List.set_cons_succ, List.getElem_toArray, List.getElem_cons_zero, List.getElem_cons_succ]
        refine wpAnyH_done (by kernel_rfl) ?_ _
        go_wp2_with fail
        have hw : RefAtS (((((w4.setCell ⟨M, 0, none⟩ (.int .i64 (ep : Int))).setCell ⟨M, 1, none⟩ (.int .i64 (jo : Int))).setCell ⟨M, 2, none⟩ (.int .i64 (bi : Int))).setCell ⟨M, 3, none⟩ (.int .i64 (he : Int))).setCell ⟨M, 4, none⟩ (.int .i64 (ne : Int))) M ep jo bi he ne := ref_set HR4.out ep jo bi he ne
        have hB9 : Below M w (((((w4.setCell ⟨M, 0, none⟩ (.int .i64 (ep : Int))).setCell ⟨M, 1, none⟩ (.int .i64 (jo : Int))).setCell ⟨M, 2, none⟩ (.int .i64 (bi : Int))).setCell ⟨M, 3, none⟩ (.int .i64 (he : Int))).setCell ⟨M, 4, none⟩ (.int .i64 (ne : Int))) := HB4.out.trans ((ref_fr (w := w4) M ep jo bi he ne).below (by have := HB4.out.size; have := HM.out; omega) (fun k hk e => by omega))
        generalize ((((w4.setCell ⟨M, 0, none⟩ (.int .i64 (ep : Int))).setCell ⟨M, 1, none⟩ (.int .i64 (jo : Int))).setCell ⟨M, 2, none⟩ (.int .i64 (bi : Int))).setCell ⟨M, 3, none⟩ (.int .i64 (he : Int))).setCell ⟨M, 4, none⟩ (.int .i64 (ne : Int)) = w9 at *
        obtain ⟨z0, z1, z2, z3, z4⟩ := sup_cells hw
        refine bodyPost_ret (v := .tuple #[.agg #[.int .i64 (ep : Int), .int .i64 (jo : Int), .int .i64 (bi : Int), .int .i64 (he : Int), .int .i64 (ne : Int)], .bool false]) ?_ rfl ⟨by rw [Hd.out], by rw [HM.out]; first | exact hB9 | exact hB9.drew⟩
        rw [results_ct rfl]
        clear hB9 hw
        go_simp
    · have e1 : decide ((p : Int) = z) = false := by simpa using hA
      have e1b : ((p : Int) == z) = false := by simpa using hA
      have Hd : Hid (decide (bearsSup l n ∧ (p : Int) = z) = false) := hid (by rw [decide_eq_false (fun h => hA (hd0.1 h).1)])
      clear hd0 hA
      refine wp_region_held_drew (S := fun w' => w'.cell? ⟨N, 0, none⟩ = some (.int .i64 (ep : Int)) ∧ w'.cell? ⟨N, 1, none⟩ = some (.int .i64 (jo : Int)) ∧ w'.cell? ⟨N, 2, none⟩ = some (.int .i64 (bi : Int)) ∧ w'.cell? ⟨N, 3, none⟩ = some (.int .i64 (he : Int)) ∧ w'.cell? ⟨N, 4, none⟩ = some (.int .i64 (ne : Int))) (by kernel_rfl) ⟨k0, k1, k2, k3, k4⟩ (fun hHeld => ?_)
      refine wpAnyH_take (i := 0) (oi := _) (v := ?_) rfl (by kernel_rfl) (by kernel_rfl) (by kernel_rfl) (fun _ _ _ h => h) (Or.inl ⟨by rfl, ?_⟩) (by assumption) ?_
      rotate_left
      · intro w hSw
        try dsimp only at hSw
        go_simp
        try with_reducible rfl
      try simp only [Act.put, List.setIfInBounds_toArray, List.set_cons_zero, List.set_cons_succ, List.getElem_toArray, List.getElem_cons_zero, List.getElem_cons_succ]
      refine wpAnyH_take (i := 1) (oi := _) (v := ?_) rfl (by kernel_rfl) (by kernel_rfl) (by kernel_rfl) (fun _ _ _ h => h) (Or.inl ⟨by rfl, ?_⟩) (by assumption) ?_
      rotate_left
      · intro w hSw
        try dsimp only at hSw
        go_simp
        try with_reducible rfl
      try simp only [Act.put, List.setIfInBounds_toArray, List.set_cons_zero, List.set_cons_succ, List.getElem_toArray, List.getElem_cons_zero, List.getElem_cons_succ]
      refine wpAnyH_take (i := 2) (oi := _) (v := ?_) rfl (by kernel_rfl) (by kernel_rfl) (by kernel_rfl) (fun _ _ _ h => h) (Or.inl ⟨by rfl, ?_⟩) (by assumption) ?_
      rotate_left
      · intro w hSw
        try dsimp only at hSw
        go_simp
        try with_reducible rfl
      try simp only [Act.put, List.setIfInBounds_toArray, List.set_cons_zero, List.set_cons_succ, List.getElem_toArray, List.getElem_cons_zero, List.getElem_cons_succ]
      refine wpAnyH_take (i := 3) (oi := _) (v := ?_) rfl (by kernel_rfl) (by kernel_rfl) (by kernel_rfl) (fun _ _ _ h => h) (Or.inl ⟨by rfl, ?_⟩) (by assumption) ?_
      rotate_left
      · intro w hSw
        try dsimp only at hSw
        go_simp
        try with_reducible rfl
      try simp only [Act.put, List.setIfInBounds_toArray, List.set_cons_zero, List.set_cons_succ, List.getElem_toArray, List.getElem_cons_zero, List.getElem_cons_succ]
      refine wpAnyH_take (i := 4) (oi := _) (v := ?_) rfl (by kernel_rfl) (by kernel_rfl) (by kernel_rfl) (fun _ _ _ h => h) (Or.inl ⟨by rfl, ?_⟩) (by assumption) ?_
      rotate_left
      · intro w hSw
        try dsimp only at hSw
        go_simp
        try with_reducible rfl
      try simp only [Act.put, List.setIfInBounds_toArray, List.set_cons_zero, List.set_cons_succ, List.getElem_toArray, List.getElem_cons_zero, List.getElem_cons_succ]
      refine wpAnyH_take (i := 5) (oi := _) (v := .bool false) rfl (by kernel_rfl) (by kernel_rfl) (by kernel_rfl) (fun _ _ _ h => h) (Or.inl ⟨by rfl, ?_⟩) (by assumption) ?_
      · intro w hSw
        try dsimp only at hSw
        go_simp
        try with_reducible rfl
      try simp only [Act.put, List.setIfInBounds_toArray, List.set_cons_zero, List.set_cons_succ, List.getElem_toArray, List.getElem_cons_zero, List.getElem_cons_succ]
      refine wpAnyH_take (i := 6) (oi := _) (v := .bool false) rfl (by kernel_rfl) (by kernel_rfl) (by kernel_rfl) (fun _ _ _ h => h) (Or.inl ⟨by rfl, ?_⟩) (by assumption) ?_
      · intro w hSw
        try dsimp only at hSw
        go_simp
        try with_reducible rfl
      try simp only [Act.put, List.setIfInBounds_toArray, List.set_cons_zero, List.set_cons_succ, List.getElem_toArray, List.getElem_cons_zero, List.getElem_cons_succ]
      refine wpAnyH_take (i := 7) (oi := _) (v := undef) rfl (by kernel_rfl) (by kernel_rfl) (by kernel_rfl) (fun _ _ _ h => h) (Or.inr ⟨by rfl, rfl⟩) (by assumption) ?_
      try simp only [Act.put, List.setIfInBounds_toArray, List.set_cons_zero, List.set_cons_succ, List.getElem_toArray, List.getElem_cons_zero, List.getElem_cons_succ]
      refine wpAnyH_take (i := 8) (oi := _) (v := undef) rfl (by kernel_rfl) (by kernel_rfl) (by kernel_rfl) (fun _ _ _ h => h) (Or.inr ⟨by rfl, rfl⟩) (by assumption) ?_
      try simp only [Act.put, List.setIfInBounds_toArray, List.set_cons_zero, List.set_cons_succ, List.getElem_toArray, List.getElem_cons_zero, List.getElem_cons_succ]
      refine wpAnyH_take (i := 9) (oi := _) (v := undef) rfl (by kernel_rfl) (by kernel_rfl) (by kernel_rfl) (fun _ _ _ h => h) (Or.inr ⟨by rfl, rfl⟩) (by assumption) ?_
      try simp only [Act.put, List.setIfInBounds_toArray, List.set_cons_zero, List.set_cons_succ, List.getElem_toArray, List.getElem_cons_zero, List.getElem_cons_succ]
      refine wpAnyH_take (i := 10) (oi := _) (v := undef) rfl (by kernel_rfl) (by kernel_rfl) (by kernel_rfl) (fun _ _ _ h => h) (Or.inr ⟨by rfl, rfl⟩) (by assumption) ?_
      try simp only [Act.put, List.setIfInBounds_toArray, List.set_cons_zero, List.set_cons_succ, List.getElem_toArray, List.getElem_cons_zero, List.getElem_cons_succ]
      refine wpAnyH_take (i := 11) (oi := _) (v := .bool false) rfl (by kernel_rfl) (by kernel_rfl) (by kernel_rfl) (fun _ _ _ h => h) (Or.inl ⟨by rfl, ?_⟩) (by assumption) ?_
      · intro w hSw
        try dsimp only at hSw
        go_simp
        try with_reducible rfl
      try simp only [Act.put, List.setIfInBounds_toArray, List.set_cons_zero, List.set_cons_succ, List.getElem_toArray, List.getElem_cons_zero, List.getElem_cons_succ]
      refine wpAnyH_take (i := 12) (oi := _) (v := .bool false) rfl (by kernel_rfl) (by kernel_rfl) (by kernel_rfl) (fun _ _ _ h => h) (Or.inl ⟨by rfl, ?_⟩) (by assumption) ?_
      · intro w hSw
        try dsimp only at hSw
        go_simp
        try with_reducible rfl
      try simp only [Act.put, List.setIfInBounds_toArray, List.set_cons_zero, List.set_cons_succ, List.getElem_toArray, List.getElem_cons_zero, List.getElem_cons_succ]
      refine wpAnyH_take (i := 13) (oi := _) (v := undef) rfl (by kernel_rfl) (by kernel_rfl) (by kernel_rfl) (fun _ _ _ h => h) (Or.inr ⟨by rfl, rfl⟩) (by assumption) ?_
      try simp only [Act.put, List.setIfInBounds_toArray, List.set_cons_zero, List.set_cons_succ, List.getElem_toArray, List.getElem_cons_zero, List.getElem_cons_succ]
      refine wpAnyH_take (i := 14) (oi := _) (v := undef) rfl (by kernel_rfl) (by kernel_rfl) (by kernel_rfl) (fun _ _ _ h => h) (Or.inr ⟨by rfl, rfl⟩) (by assumption) ?_
      try simp only [Act.put, List.setIfInBounds_toArray, List.set_cons_zero, List.set_cons_succ, List.getElem_toArray, List.getElem_cons_zero, List.getElem_cons_succ]
      refine wpAnyH_take (i := 15) (oi := _) (v := undef) rfl (by kernel_rfl) (by kernel_rfl) (by kernel_rfl) (fun _ _ _ h => h) (Or.inr ⟨by rfl, rfl⟩) (by assumption) ?_
      try simp only [Act.put, List.setIfInBounds_toArray, List.set_cons_zero, List.set_cons_succ, List.getElem_toArray, List.getElem_cons_zero, List.getElem_cons_succ]
      refine wpAnyH_take (i := 16) (oi := _) (v := undef) rfl (by kernel_rfl) (by kernel_rfl) (by kernel_rfl) (fun _ _ _ h => h) (Or.inr ⟨by rfl, rfl⟩) (by assumption) ?_
      try simp only [Act.put, List.setIfInBounds_toArray, List.set_cons_zero, List.set_cons_succ, List.getElem_toArray, List.getElem_cons_zero, List.getElem_cons_succ]
      refine wpAnyH_take (i := 17) (oi := _) (v := .bool false) rfl (by kernel_rfl) (by kernel_rfl) (by kernel_rfl) (fun _ _ _ h => h) (Or.inl ⟨by rfl, ?_⟩) (by assumption) ?_
      · intro w hSw
        try dsimp only at hSw
        go_simp
        try with_reducible rfl
      try simp only [Act.put, List.setIfInBounds_toArray, List.set_cons_zero, List.set_cons_succ, List.getElem_toArray, List.getElem_cons_zero, List.getElem_cons_succ]
      refine wpAnyH_ready (rs := [18]) (by kernel_rfl) (by simp) ?_
      refine AllReadyH.cons (o := _) rfl (fun K hK => ?_) AllReadyH.nil
      go_simp
      try dsimp only
      refine hK.out _ _ ?_ (fun hHeld => ?_)
      · exact (by go_keep)
      clear hK K
      try simp only [Act.put, List.setIfInBounds_toArray, List.set_cons_zero, List.set_cons_succ, List.getElem_toArray, List.getElem_cons_zero, List.getElem_cons_succ]
      refine wpAnyH_ready (rs := [19]) (by kernel_rfl) (by simp) ?_
      refine AllReadyH.cons (o := _) rfl (fun K hK => ?_) AllReadyH.nil
      go_simp
      try dsimp only
      refine hK.out _ _ ?_ (fun hHeld => ?_)
      · exact (by go_keep)
      clear hK K
      try simp only [Act.put, List.setIfInBounds_toArray, List.set_cons_zero, List.set_cons_succ, List.getElem_toArray, List.getElem_cons_zero, List.getElem_cons_succ]
      refine wpAnyH_done (by kernel_rfl) ?_ _
      go_wp2_with fail
      have hw : RefAtS (((((w3.setCell ⟨M, 0, none⟩ (.int .i64 (ep : Int))).setCell ⟨M, 1, none⟩ (.int .i64 (jo : Int))).setCell ⟨M, 2, none⟩ (.int .i64 (bi : Int))).setCell ⟨M, 3, none⟩ (.int .i64 (he : Int))).setCell ⟨M, 4, none⟩ (.int .i64 (ne : Int))) M ep jo bi he ne := ref_set HR3.out ep jo bi he ne
      have hB9 : Below M w (((((w3.setCell ⟨M, 0, none⟩ (.int .i64 (ep : Int))).setCell ⟨M, 1, none⟩ (.int .i64 (jo : Int))).setCell ⟨M, 2, none⟩ (.int .i64 (bi : Int))).setCell ⟨M, 3, none⟩ (.int .i64 (he : Int))).setCell ⟨M, 4, none⟩ (.int .i64 (ne : Int))) := HB3.out.trans ((ref_fr (w := w3) M ep jo bi he ne).below (by have := HB3.out.size; have := HM.out; omega) (fun k hk e => by omega))
      generalize ((((w3.setCell ⟨M, 0, none⟩ (.int .i64 (ep : Int))).setCell ⟨M, 1, none⟩ (.int .i64 (jo : Int))).setCell ⟨M, 2, none⟩ (.int .i64 (bi : Int))).setCell ⟨M, 3, none⟩ (.int .i64 (he : Int))).setCell ⟨M, 4, none⟩ (.int .i64 (ne : Int)) = w9 at *
      obtain ⟨z0, z1, z2, z3, z4⟩ := sup_cells hw
      refine bodyPost_ret (v := .tuple #[.agg #[.int .i64 (ep : Int), .int .i64 (jo : Int), .int .i64 (bi : Int), .int .i64 (he : Int), .int .i64 (ne : Int)], .bool false]) ?_ rfl ⟨by rw [Hd.out], by rw [HM.out]; first | exact hB9 | exact hB9.drew⟩
      rw [results_ct rfl]
      clear hB9 hw
      go_simp
end Go.Proofs.YtkmbbgnbklklcaaDoor
