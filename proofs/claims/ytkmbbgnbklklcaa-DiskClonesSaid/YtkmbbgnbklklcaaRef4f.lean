/-
  The document's disk: Loose.
-/
import Derived.Test.YtkmbbgnbklklcaaRef4e
namespace Go.Proofs.Ytkmbbgnbklklcaa
open Go.RowKit

set_option maxRecDepth 100000 in
theorem ref4_loose {w : World} {v : Value} {D : Dsk} (h : RefAt w v D) (hn : D.n ≤ 4096) :
    Calls Try.prog 24 #[v] w fun e w' => ∃ v', e = .returned v' ∧ w'.ownsRow w.heap.size 3 1 v' (loose D).length (natCells (loose D)) ∧ Below w.heap.size w w' := by
  obtain ⟨i0, hi, hz0, hz1, hz2⟩ := info_parts Try.infoInt
  obtain ⟨a1, c1, a2, c2, rfl, h1, h2⟩ := h
  unfold rv
  go_enter Try.func24, Try.ntmps24
  go_wp2_with fail
  have hown : ((w.alloc (.cells #[.slice a1 D.n c1, .slice a2 D.n c2, .int .i64 D.rl, .bool D.dead] 52)).alloc (.cells #[] 3)).ownsRow w.heap.size 3 1 (.slice (some ⟨w.heap.size + 1, 0, none⟩) 0 0) 0 [] := by
    have := World.ownsRow_lit (base := w.heap.size) (e := 3) (size := 1) (w.alloc (.cells #[.slice a1 D.n c1, .slice a2 D.n c2, .int .i64 D.rl, .bool D.dead] 52)) #[] 0 (by simp) (by decide) rfl
    simpa using this
  have hd := heap_old (heap_new w (.cells #[.slice a1 D.n c1, .slice a2 D.n c2, .int .i64 D.rl, .bool D.dead] 52)) (.cells #[] 3)
  have hB0 : Below w.heap.size w ((w.alloc (.cells #[.slice a1 D.n c1, .slice a2 D.n c2, .int .i64 D.rl, .bool D.dead] 52)).alloc (.cells #[] 3)) := ((Below.refl _ _).alloc (Nat.le_refl _) _).alloc (by simp) _
  change Code.wp _ _ _ _ ((w.alloc (.cells #[.slice a1 D.n c1, .slice a2 D.n c2, .int .i64 D.rl, .bool D.dead] 52)).alloc (.cells #[] 3))
  generalize (w.alloc (.cells #[.slice a1 D.n c1, .slice a2 D.n c2, .int .i64 D.rl, .bool D.dead] 52)).alloc (.cells #[] 3) = w0 at *
  go_loopw [3, 9] (fun v i wr => ∃ q : Nat, q ≤ D.n ∧ i = .int .i64 q ∧ wr.ownsRow w.heap.size 3 1 v (looseTo D q).length (natCells (looseTo D q)) ∧ Below w.heap.size w wr ∧ wr.heap[w.heap.size]? = some (.cells #[.slice a1 D.n c1, .slice a2 D.n c2, .int .i64 D.rl, .bool D.dead] 52 (0, 0))) (fun _ i _ => (D.n - intOf i).toNat)
  case atStart => exact ⟨0, Nat.zero_le _, rfl, hown, hB0, hd⟩
  case round =>
    obtain ⟨q, hq, rfl, hO, hB, hd⟩ := hrel
    by_cases hqN : q < D.n
    · have d1 : decide (q < D.n) = true := by simp; omega
      obtain ⟨g1, cur1, e1, hg1, hc1⟩ := h1.below hB (by omega)
      obtain ⟨g2, cur2, e2, hg2, hc2⟩ := h2.below hB (by omega)
      subst e1 e2
      have m1 := cell_of_block hg1 q
      have m2 := cell_of_block hg2 q
      rw [hc1 q hqN] at m1
      rw [hc2 q hqN] at m2
      have k0 := cell_of_block hd 0
      have k1 := cell_of_block hd 1
      simp only [List.getElem?_toArray, List.getElem?_cons_zero, List.getElem?_cons_succ] at k0 k1
      have hdl := lt_of_block hd
      have hne := own_ne hO hd (by decide)
      have HB := hid hB
      have HO := hid hO
      have Hd := hid hd
      have Hne := hid hne
      clear hg1 hg2 hc1 hc2 hB hO hd hne
      by_cases hsq : D.sure q = D.now q
      · have e1 : ((S (D.now q)).toList == (S (D.sure q)).toList) = true := by rw [hsq]; simp
        have hx := looseTo_succ D q
        rw [if_pos hsq] at hx
        have Hx := hid hx
        clear hx hsq
        go_upto_region 5 with fail
        go_region_law fail
        all_goals
          go_wp2_with fail
          refine ⟨⟨q + 1, by omega, by go_num, by rw [Hx.out]; exact HO.out.drew, HB.out.drew, Hd.out⟩, by simp [intOf]; omega⟩
      · have e1 : ((S (D.now q)).toList == (S (D.sure q)).toList) = false := by rw [S_toList, S_toList]; simpa using fun e => hsq e.symm
        have hx := looseTo_succ D q
        rw [if_neg hsq] at hx
        have Hx := hid hx
        have hl := looseTo_length D q
        have Hlen1 := hid (show (looseTo D q).length + 1 ≤ maxLen from by unfold maxLen; omega)
        have Hlen2 := hid (show ((looseTo D q).length + 1) * 8 ≤ 140737488355328 from by omega)
        clear hx hsq
        go_upto_region 5 with fail
        go_region_law fail
        all_goals
          go_wp2_with (at_builtin; refine wpList_append_lies _ rfl (.tmp 23) (.tmp 25) 43 rfl w.heap.size 3 i0 (.int .i64 0) 1 8 Try.underlying43 hi hz0 hz1 hz2 rfl (by decide) u3 _ _ (by simp [Act.eval]) (HO.out.drew.alloc _) ⟨wr.heap.size, 0, none⟩ 1 1 [.int .i64 (q : Int)] (by simp [Act.eval]) rfl (news_one (cell_of_block (heap_new wr.drew _) 0)) (one_one rfl) (by decide) Hlen1.out Hlen2.out (by have := HB.out.size; simp; omega) (wr.heap.size + 1) (by simp) ?_; intro g5 cap5 w5 hown5 hgrow5 hg5 hlt5; have HO5 := hid hown5; have HG5 := hid hgrow5; clear hown5 hgrow5 hg5)
          refine ⟨⟨q + 1, by omega, by go_num, ?_, ?_, ?_⟩, by simp [intOf]; omega⟩
          · rw [Hx.out, List.length_append]
            have h := HO5.out
            simpa [natCells] using h
          · exact (HB.out.drew.alloc HB.out.size _).grown HG5.out (by have := HB.out.size; simp; omega) (fun k hk => (HO.out.lt k hk).1)
          · exact (HG5.out.block _ (by simp; omega) (fun e => Hne.out e.symm)).trans (heap_old (w := wr.drew) Hd.out _)
    · obtain rfl : q = D.n := by omega
      have d1 : decide (D.n < D.n) = false := by simp
      have HO := hid hO
      have HB := hid hB
      clear hd
      go_wp2_with fail
      go_ret
      exact ⟨_, rfl, HO.out, HB.out⟩
end Go.Proofs.Ytkmbbgnbklklcaa
