/-
  The document's disk: New.
-/
import Derived.Test.YtkmbbgnbklklcaaRef4d
namespace Go.Proofs.Ytkmbbgnbklklcaa
open Go.RowKit

/-- Two rows of q texts of noughts, in a disk's value at block b. -/
structure NewAt (w : World) (B b q : Nat) (v1 v2 : Value) : Prop where
  at_ : w.heap[b]? = some (.cells #[v1, v2, .int .i64 (-1), .bool false] 52 (0, 0))
  o1 : w.ownsRow B 9 1 v1 q (strs (fun _ => nul) q)
  o2 : w.ownsRow B 9 1 v2 q (strs (fun _ => nul) q)
  ne : ∀ k, v1.ownBlock = some k → v2.ownBlock ≠ some k
  hb : b < B

theorem own_lt {w : World} {base e size n : Nat} {v : Value} {xs : List Value} (h : w.ownsRow base e size v n xs) {k : Nat} (hk : v.ownBlock = some k) : base ≤ k ∧ k < w.heap.size := h.lt k hk

theorem NewAt.step1 {w w5 : World} {B b q g5 cap5 : Nat} {v1 v2 : Value} {o : Obj} (h : NewAt w B b q v1 v2)
    (hown : w5.ownsRow B 9 1 (.slice (some ⟨g5, 0, none⟩) (q + 1) cap5) (q + 1) (strs (fun _ => nul) q ++ [.string (S nul)])) (hg : (w.alloc o).grownBy w5 v1.ownBlock) (hgb : v1.ownBlock = some g5 ∨ g5 = w.heap.size + 1) :
    (w5.setCell ⟨b, 0, none⟩ (.slice (some ⟨g5, 0, none⟩) (q + 1) cap5)).heap[b]? = some (.cells #[.slice (some ⟨g5, 0, none⟩) (q + 1) cap5, v2, .int .i64 (-1), .bool false] 52 (0, 0)) ∧
    (w5.setCell ⟨b, 0, none⟩ (.slice (some ⟨g5, 0, none⟩) (q + 1) cap5)).ownsRow B 9 1 (.slice (some ⟨g5, 0, none⟩) (q + 1) cap5) (q + 1) (strs (fun _ => nul) (q + 1)) ∧
    (w5.setCell ⟨b, 0, none⟩ (.slice (some ⟨g5, 0, none⟩) (q + 1) cap5)).ownsRow B 9 1 v2 q (strs (fun _ => nul) q) ∧ v2.ownBlock ≠ some g5 ∧ Fr (fun k => k = b ∨ B ≤ k) w (w5.setCell ⟨b, 0, none⟩ (.slice (some ⟨g5, 0, none⟩) (q + 1) cap5)) := by
  have hbw := lt_of_block h.at_
  have hb := h.hb
  have hv1 : some b ≠ v1.ownBlock := fun e => by have := (own_lt h.o1 e.symm).1; omega
  have hat := (hg.block b (by simp; omega) hv1).trans (heap_old h.at_ o)
  have hF1 : Fr (fun _ => False) w (w.alloc o) := (Fr.refl _ w).alloc o
  have hF2 : Fr (fun k => some k = v1.ownBlock) (w.alloc o) w5 := Fr.ofGrown hg
  have hF3 : Fr (fun k => k = b) w5 (w5.setCell ⟨b, 0, none⟩ (.slice (some ⟨g5, 0, none⟩) (q + 1) cap5)) := (Fr.refl (fun k => k = b) w5).setCell (p := ⟨b, 0, none⟩) (fun _ => rfl) _
  have hne5 : v2.ownBlock ≠ some g5 := fun e => by
    rcases hgb with h1 | h1
    · exact h.ne _ h1 e
    · have := (own_lt h.o2 e).2; omega
  refine ⟨by simpa using heap_set_same (i := 0) hat (.slice (some ⟨g5, 0, none⟩) (q + 1) cap5), ?_, ?_, hne5, ?_⟩
  · rw [strs_succ]
    refine hF3.own hown fun k hk e => ?_
    have := (own_lt hown hk.symm).1
    omega
  · refine hF3.own (hF2.own (hF1.own h.o2 fun _ _ => id) fun k hk e => h.ne k e.symm hk.symm) fun k hk e => ?_
    have := (own_lt h.o2 hk.symm).1
    omega
  · refine Fr.trans (T := fun k => k = b ∨ B ≤ k) (hF1.mono (fun _ _ h => h.elim)) ((hF2.mono fun k _ hk => ?_).trans hF3 fun k _ hk => .inl hk) fun k _ hk => hk
    exact .inr (own_lt h.o1 hk.symm).1

theorem NewAt.step2 {w w5 : World} {B b q g5 cap5 : Nat} {v1 v2 : Value} {o : Obj} (hat0 : w.heap[b]? = some (.cells #[v1, v2, .int .i64 (-1), .bool false] 52 (0, 0))) (ho1 : w.ownsRow B 9 1 v1 (q + 1) (strs (fun _ => nul) (q + 1))) (ho2 : w.ownsRow B 9 1 v2 q (strs (fun _ => nul) q)) (hne : ∀ k, v1.ownBlock = some k → v2.ownBlock ≠ some k) (hb : b < B)
    (hown : w5.ownsRow B 9 1 (.slice (some ⟨g5, 0, none⟩) (q + 1) cap5) (q + 1) (strs (fun _ => nul) q ++ [.string (S nul)])) (hg : (w.alloc o).grownBy w5 v2.ownBlock) (hgb : v2.ownBlock = some g5 ∨ g5 = w.heap.size + 1) :
    NewAt (w5.setCell ⟨b, 1, none⟩ (.slice (some ⟨g5, 0, none⟩) (q + 1) cap5)) B b (q + 1) v1 (.slice (some ⟨g5, 0, none⟩) (q + 1) cap5) ∧ Fr (fun k => k = b ∨ B ≤ k) w (w5.setCell ⟨b, 1, none⟩ (.slice (some ⟨g5, 0, none⟩) (q + 1) cap5)) := by
  have hbw := lt_of_block hat0
  have hv1 : some b ≠ v2.ownBlock := fun e => by have := (own_lt ho2 e.symm).1; omega
  have hat := (hg.block b (by simp; omega) hv1).trans (heap_old hat0 o)
  have hF1 : Fr (fun _ => False) w (w.alloc o) := (Fr.refl _ w).alloc o
  have hF2 : Fr (fun k => some k = v2.ownBlock) (w.alloc o) w5 := Fr.ofGrown hg
  have hF3 : Fr (fun k => k = b) w5 (w5.setCell ⟨b, 1, none⟩ (.slice (some ⟨g5, 0, none⟩) (q + 1) cap5)) := (Fr.refl (fun k => k = b) w5).setCell (p := ⟨b, 1, none⟩) (fun _ => rfl) _
  refine ⟨⟨by simpa using heap_set_same (i := 1) hat (.slice (some ⟨g5, 0, none⟩) (q + 1) cap5), ?_, ?_, ?_, hb⟩, ?_⟩
  · refine hF3.own (hF2.own (hF1.own ho1 fun _ _ => id) fun k hk e => hne k hk.symm e.symm) fun k hk e => ?_
    have := (own_lt ho1 hk.symm).1
    omega
  · rw [strs_succ]
    refine hF3.own hown fun k hk e => ?_
    have := (own_lt hown hk.symm).1
    omega
  · intro k hk e
    have e5 : g5 = k := by simpa [Value.ownBlock] using e
    subst e5
    rcases hgb with h1 | h1
    · exact hne _ hk h1
    · have := (own_lt ho1 hk).2; omega
  · refine Fr.trans (T := fun k => k = b ∨ B ≤ k) (hF1.mono (fun _ _ h => h.elim)) ((hF2.mono fun k _ hk => ?_).trans hF3 fun k _ hk => .inl hk) fun k _ hk => hk
    exact .inr (own_lt ho2 hk.symm).1

set_option maxRecDepth 100000 in
theorem ref4_new (n : Int) (N : Nat) (w : World) (hn : max n 0 = (N : Int)) (hN : N ≤ 4096) :
    Calls Try.prog 22 #[.int .i64 n] w fun e w' => ∃ v', e = .returned v' ∧ RefAt w' v' (Dsk.new N) ∧ Below w.heap.size w w' := by
  obtain ⟨i0, hi, hz0, hz1, hz2⟩ := info_parts Try.infoString
  go_enter Try.func22, Try.ntmps22
  go_wp2_with fail
  refine (ref4_blank _).mono ?_
  rintro e w1 ⟨rfl, hw⟩
  subst hw
  go_wp2_with fail
  have hr0 := heap_old (heap_new w (.cells #[.slice none 0 0, .slice none 0 0, .int .i64 0, .bool false] 52)) (.cells #[.slice none 0 0, .slice none 0 0, .int .i64 (-1), .bool false] 52)
  have hd0 := heap_newk (w := w.alloc (.cells #[.slice none 0 0, .slice none 0 0, .int .i64 0, .bool false] 52)) (k := w.heap.size + 1) (.cells #[.slice none 0 0, .slice none 0 0, .int .i64 (-1), .bool false] 52) (by simp)
  have hB0 : Below w.heap.size w ((w.alloc (.cells #[.slice none 0 0, .slice none 0 0, .int .i64 0, .bool false] 52)).alloc (.cells #[.slice none 0 0, .slice none 0 0, .int .i64 (-1), .bool false] 52)) := ((Below.refl _ _).alloc (Nat.le_refl _) _).alloc (by simp) _
  have hz0' : ((w.alloc (.cells #[.slice none 0 0, .slice none 0 0, .int .i64 0, .bool false] 52)).alloc (.cells #[.slice none 0 0, .slice none 0 0, .int .i64 (-1), .bool false] 52)).heap.size = w.heap.size + 2 := by simp
  change Code.wp _ _ _ _ ((w.alloc (.cells #[.slice none 0 0, .slice none 0 0, .int .i64 0, .bool false] 52)).alloc (.cells #[.slice none 0 0, .slice none 0 0, .int .i64 (-1), .bool false] 52))
  generalize (w.alloc (.cells #[.slice none 0 0, .slice none 0 0, .int .i64 0, .bool false] 52)).alloc (.cells #[.slice none 0 0, .slice none 0 0, .int .i64 (-1), .bool false] 52) = w0 at *
  go_loopw [5] (fun x wr => ∃ (q : Nat) (v1 v2 : Value), q ≤ N ∧ x = .int .i64 q ∧ NewAt wr (w.heap.size + 2) (w.heap.size + 1) q v1 v2 ∧ wr.heap[w.heap.size]? = some (.cells #[.slice none 0 0, .slice none 0 0, .int .i64 0, .bool false] 52 (0, 0)) ∧ Below w.heap.size w wr ∧ w.heap.size + 2 ≤ wr.heap.size) (fun x _ => (N - intOf x).toNat)
  case atStart => exact ⟨0, .slice none 0 0, .slice none 0 0, Nat.zero_le _, rfl, ⟨hd0, World.ownsRow_nil _ _ _ _, World.ownsRow_nil _ _ _ _, fun k hk => by simp [Value.ownBlock] at hk, by omega⟩, hr0, hB0, by omega⟩
  case round =>
    obtain ⟨q, v1, v2, hq, rfl, hA, hr, hB, hs⟩ := hrel
    by_cases hqN : q < N
    · have d1 : decide ((q : Int) < n) = true := by simp; omega
      have d2 : decide ((q : Int) < 4096) = true := by simp; omega
      have k0 := cell_of_block hA.at_ 0
      have f0 := free_of_block hA.at_ 0
      simp only [List.getElem?_toArray, List.getElem?_cons_zero] at k0
      have hlen1 : q + 1 ≤ maxLen := by unfold maxLen; omega
      have hlen2 : (q + 1) * 16 ≤ 140737488355328 := by omega
      have hbw := lt_of_block hA.at_
      have HA := hid hA
      have HR := hid hr
      have HB := hid hB
      have Hs := hid hs
      clear hA hr hB hd0 hr0 hB0 hz0' hs
      go_upto_region 7 with (at_builtin; refine wpList_append_lies _ rfl (.tmp 18) (.tmp 20) 50 rfl (w.heap.size + 2) 9 i0 _ 1 16 Try.underlying50 hi hz0 hz1 hz2 rfl (by decide) v1 q (strs (fun _ => nul) q) (by simp [Act.eval]) ((Fr.refl (fun _ => False) wr).alloc _ |>.own HA.out.o1 (fun _ _ => id)) ⟨wr.heap.size, 0, none⟩ 1 1 [.string (S nul)] (by simp [Act.eval]) rfl (news_one (cell_of_block (heap_new wr _) 0)) (one_one rfl) (by decide) hlen1 hlen2 (by have := Hs.out; simp; omega) (wr.heap.size + 1) (by simp) ?_; intro g5 cap5 w5 hown5 hgrow5 hg5 hlt5; have hat5 := (hgrow5.block (w.heap.size + 1) (by simp; omega) (fun e => by have := (own_lt HA.out.o1 e.symm).1; omega)).trans (heap_old HA.out.at_ _); have k5 := cell_of_block hat5 0; have f5 := free_of_block hat5 0; simp only [List.getElem?_toArray, List.getElem?_cons_zero] at k5; have HO5 := hid hown5; have HG5 := hid hgrow5; have Hg5 := hid hg5; clear hown5 hgrow5 hg5 hat5)
      have hS := HA.out.step1 HO5.out HG5.out Hg5.out
      have hr6 := hS.2.2.2.2.heap HR.out (fun h => by rcases h with h | h <;> omega)
      have hB6 : Below w.heap.size w (w5.setCell ⟨w.heap.size + 1, 0, none⟩ (.slice (some ⟨g5, 0, none⟩) (q + 1) cap5)) := HB.out.trans (hS.2.2.2.2.below (by have := Hs.out; omega) (fun k hk h => by rcases h with h | h <;> omega))
      have hs6 := hS.2.2.2.2.size
      clear k5 f5
      change Code.wp _ _ _ _ (w5.setCell ⟨w.heap.size + 1, 0, none⟩ (.slice (some ⟨g5, 0, none⟩) (q + 1) cap5))
      generalize w5.setCell ⟨w.heap.size + 1, 0, none⟩ (.slice (some ⟨g5, 0, none⟩) (q + 1) cap5) = w6 at *
      obtain ⟨hat6, ho1, ho2, hne6, hF6⟩ := hS
      have m1 := cell_of_block hat6 1
      have f6 := free_of_block hat6 1
      simp only [List.getElem?_toArray, List.getElem?_cons_zero, List.getElem?_cons_succ] at m1
      have hb6 := lt_of_block hat6
      have Hat6 := hid hat6
      have Ho1 := hid ho1
      have Ho2 := hid ho2
      have HR6 := hid hr6
      have HB6 := hid hB6
      have Hs6 := hid hs6
      clear hat6 ho1 ho2 hr6 hB6 hs6 hF6 k0 f0
      go_wp2_with (at_builtin; refine wpList_append_lies _ rfl (.tmp 24) (.tmp 26) 50 rfl (w.heap.size + 2) 9 i0 _ 1 16 Try.underlying50 hi hz0 hz1 hz2 rfl (by decide) v2 q (strs (fun _ => nul) q) (by simp [Act.eval]) ((Fr.refl (fun _ => False) w6).alloc _ |>.own Ho2.out (fun _ _ => id)) ⟨w6.heap.size, 0, none⟩ 1 1 [.string (S nul)] (by simp [Act.eval]) rfl (news_one (cell_of_block (heap_new w6 _) 0)) (one_one rfl) (by decide) hlen1 hlen2 (by have := Hs.out; have := Hs6.out; simp; omega) (w6.heap.size + 1) (by simp) ?_; intro g7 cap7 w7 hown7 hgrow7 hg7 hlt7; have hat7 := (hgrow7.block (w.heap.size + 1) (by simp; omega) (fun e => by have := (own_lt Ho2.out e.symm).1; omega)).trans (heap_old Hat6.out _); have k7 := cell_of_block hat7 1; have f7 := free_of_block hat7 1; simp only [List.getElem?_toArray, List.getElem?_cons_zero, List.getElem?_cons_succ] at k7; have HO7 := hid hown7; have HG7 := hid hgrow7; have Hg7 := hid hg7; clear hown7 hgrow7 hg7 hat7)
      have hne7 : ∀ k, (Value.slice (some ⟨g5, 0, none⟩) (q + 1) cap5).ownBlock = some k → v2.ownBlock ≠ some k := by
        intro k hk e
        have e5 : g5 = k := by simpa [Value.ownBlock] using hk
        subst e5
        exact hne6 e
      have hT := NewAt.step2 Hat6.out Ho1.out Ho2.out hne7 (by omega) HO7.out HG7.out Hg7.out
      refine ⟨⟨q + 1, _, _, by omega, by go_num, hT.1, hT.2.heap HR6.out (fun h => by rcases h with h | h <;> omega), HB6.out.trans (hT.2.below (by have := Hs.out; have := Hs6.out; omega) (fun k hk h => by rcases h with h | h <;> omega)), by have := Hs.out; have := Hs6.out; have := hT.2.size; omega⟩, by simp [intOf]; omega⟩
    · obtain rfl : q = N := by omega
      obtain ⟨a1, c1, rfl⟩ := shape_of hA.o1
      obtain ⟨a2, c2, rfl⟩ := shape_of hA.o2
      have d1 : decide ((q : Int) < n) = false := by simp; omega
      have k0 := cell_of_block hA.at_ 0
      have k1 := cell_of_block hA.at_ 1
      have k2 := cell_of_block hA.at_ 2
      have k3 := cell_of_block hA.at_ 3
      have n0 := cell_of_block hr 0
      have n1 := cell_of_block hr 1
      have n2 := cell_of_block hr 2
      have n3 := cell_of_block hr 3
      have j0 := free_of_block hr 0
      have j1 := free_of_block hr 1
      have j2 := free_of_block hr 2
      have j3 := free_of_block hr 3
      simp only [List.getElem?_toArray, List.getElem?_cons_zero, List.getElem?_cons_succ] at k0 k1 k2 k3 n0 n1 n2 n3
      have HA := hid hA
      have HR := hid hr
      have HB := hid hB
      have Hs := hid hs
      clear hA hr hB hd0 hr0 hB0 hz0' hs
      go_wp2_with fail
      have hw := set4 HR.out (.slice a1 q c1) (.slice a2 q c2) (.int .i64 (-1)) (.bool false)
      have hF := fr4 (Fr.refl (fun k => k = w.heap.size) wr) (b := w.heap.size) rfl (.slice a1 q c1) (.slice a2 q c2) (.int .i64 (-1)) (.bool false)
      have hB2 := below4 HB.out (b := w.heap.size) (Nat.le_refl _) (.slice a1 q c1) (.slice a2 q c2) (.int .i64 (-1)) (.bool false)
      have ho1 := hF.own HA.out.o1 (fun k hk e => by have := (own_lt HA.out.o1 hk.symm).1; omega)
      have ho2 := hF.own HA.out.o2 (fun k hk e => by have := (own_lt HA.out.o2 hk.symm).1; omega)
      generalize ((((wr.setCell ⟨w.heap.size, 0, none⟩ (.slice a1 q c1)).setCell ⟨w.heap.size, 1, none⟩ (.slice a2 q c2)).setCell ⟨w.heap.size, 2, none⟩ (.int .i64 (-1))).setCell ⟨w.heap.size, 3, none⟩ (.bool false)) = w9 at *
      refine bodyPost_ret (v := .agg #[.slice a1 q c1, .slice a2 q c2, .int .i64 (-1), .bool false]) ?_ rfl ⟨_, rfl, ⟨a1, c1, a2, c2, rfl, SRow.ofOwn ho1, SRow.ofOwn ho2⟩, hB2⟩
      rw [res_cell rfl]
      clear ho1 ho2 hB2 hF n0 n1 n2 n3 k0 k1 k2 k3 j0 j1 j2 j3 HA HR HB
      have n0 := cell_of_block hw 0
      have n1 := cell_of_block hw 1
      have n2 := cell_of_block hw 2
      have n3 := cell_of_block hw 3
      simp only [List.getElem?_toArray, List.getElem?_cons_zero, List.getElem?_cons_succ] at n0 n1 n2 n3
      go_simp
end Go.Proofs.Ytkmbbgnbklklcaa
