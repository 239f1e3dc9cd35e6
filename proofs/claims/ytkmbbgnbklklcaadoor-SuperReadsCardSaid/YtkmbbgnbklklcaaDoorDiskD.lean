/-
  Package disk: Loose.
-/
import Derived.Test.YtkmbbgnbklklcaaDoorDiskC
namespace Go.Proofs.YtkmbbgnbklklcaaDoor
open Go.RowKit

/-- The sectors that aren't sure, of the first q. -/
def looseTo (D : Dsk) (q : Nat) : List Nat := (List.range q).filter fun i => decide (D.sure i ≠ D.now i)
def loose (D : Dsk) : List Nat := looseTo D D.n
theorem looseTo_succ (D : Dsk) (q : Nat) : looseTo D (q + 1) = if D.sure q = D.now q then looseTo D q else looseTo D q ++ [q] := by
  simp only [looseTo, List.range_succ, List.filter_append, List.filter_cons, List.filter_nil]
  by_cases h : D.sure q = D.now q <;> simp [h]
theorem looseTo_length (D : Dsk) (q : Nat) : (looseTo D q).length ≤ q := by
  have := List.length_filter_le (fun i => decide (D.sure i ≠ D.now i)) (List.range q)
  rw [List.length_range] at this
  exact this
def natCells (l : List Nat) : List Value := l.map fun (i : Nat) => .int .i64 (i : Int)
theorem Tryd.infoInt : (Tryd.prog.info? 3).map (fun i => (i.zero, i.size, i.bytes)) = some (some (.int .i64 0), 1, 8) := by kernel_rfl

set_option maxRecDepth 100000 in
theorem disk_loose {B b g : Nat} {D : Dsk} (w : World) (h : DiskAt w B b g D) :
    Calls Tryd.prog 64 #[.pointer (some ⟨b, 0, none⟩)] w fun e w' => ∃ v, e = .returned v ∧ w'.ownsRow w.heap.size 3 1 v (loose D).length (natCells (loose D)) ∧ Below w.heap.size w w' := by
  obtain ⟨i0, hi, hz0, hz1, hz2⟩ := info_parts Tryd.infoInt
  have hsm := h.small
  obtain ⟨ao, cap, h1, h2, h3, h4⟩ := h.head
  have c0 := cell_of_block h1 0
  simp only [List.getElem?_toArray, List.getElem?_cons_zero] at c0
  have H := hid h
  clear h1 h
  go_enter Tryd.func64, Tryd.ntmps64
  go_wp2_with fail
  go_loopw [3, 11] (fun v i wr => ∃ q : Nat, q ≤ D.n ∧ i = .int .i64 q ∧ wr.ownsRow w.heap.size 3 1 v (looseTo D q).length (natCells (looseTo D q)) ∧ Below w.heap.size w wr) (fun _ i _ => (D.n - intOf i).toNat)
  case atStart => exact ⟨0, Nat.zero_le _, rfl, World.ownsRow_nil _ _ _ _, Below.refl _ _⟩
  case round =>
    obtain ⟨q, hq, rfl, hO, hB⟩ := hrel
    by_cases hqN : q < D.n
    · have d1 : decide (q < D.n) = true := by simp; omega
      have hao := h4 (by omega)
      subst hao
      obtain ⟨cur, h5, h6⟩ := (H.out.below hB).row (by omega)
      have k1 := cell_of_block h5 (q * 2 + 1)
      have k2 := cell_of_block h5 (q * 2)
      simp only [(h6 q (by omega)).2, (h6 q (by omega)).1] at k1 k2
      have HB := hid hB
      have HO := hid hO
      clear h5 h6 hB hO
      by_cases hsq : D.sure q = D.now q
      · have e1 : ((S (D.sure q)).toList == (S (D.now q)).toList) = true := by rw [hsq]; simp
        have hx := looseTo_succ D q
        rw [if_pos hsq] at hx
        have Hx := hid hx
        clear hx hsq
        go_wp2_with fail
        refine ⟨⟨q + 1, by omega, by go_num, by rw [Hx.out]; exact HO.out.alloc _, HB.out.alloc HB.out.size _⟩, by simp [intOf]; omega⟩
      · have e1 : ((S (D.sure q)).toList == (S (D.now q)).toList) = false := by rw [S_toList, S_toList]; simpa using hsq
        have hx := looseTo_succ D q
        rw [if_neg hsq] at hx
        have Hx := hid hx
        have hl := looseTo_length D q
        have Hlen1 := hid (show (looseTo D q).length + 1 ≤ maxLen from by unfold maxLen; omega)
        have Hlen2 := hid (show ((looseTo D q).length + 1) * 8 ≤ 140737488355328 from by omega)
        clear hx hsq
        go_wp2_with (at_builtin; refine wpList_append_lies _ rfl (.tmp 21) (.tmp 23) 83 rfl w.heap.size 3 i0 (.int .i64 0) 1 8 Tryd.underlying83 hi hz0 hz1 hz2 rfl (by decide) u3 _ _ (by simp [Act.eval]) ((HO.out.alloc _).alloc _) ⟨wr.heap.size + 1, 0, none⟩ 1 1 [.int .i64 (q : Int)] (by simp [Act.eval]) rfl (news_one (by simp)) (one_one rfl) (by decide) Hlen1.out Hlen2.out (by have := HB.out.size; simp; omega) (wr.heap.size + 1 + 1) (by simp) ?_; intro g5 cap5 w5 hown5 hgrow5 hg5 hlt5; have HO5 := hid hown5; have HG5 := hid hgrow5; clear hown5 hgrow5 hg5)
        refine ⟨⟨q + 1, by omega, by go_num, ?_, ?_⟩, by simp [intOf]; omega⟩
        · rw [Hx.out, List.length_append]
          have h := HO5.out
          simpa [natCells] using h
        · exact ((HB.out.alloc HB.out.size _).alloc (by have := HB.out.size; simp; omega) _).grown HG5.out (by have := HB.out.size; simp; omega) (fun k hk => (HO.out.lt k hk).1)
    · obtain rfl : q = D.n := by omega
      have d1 : decide (D.n < D.n) = false := by simp
      have HO := hid hO
      have HB := hid hB
      go_wp2_with fail
      go_ret
      exact ⟨_, rfl, HO.out, HB.out⟩
end Go.Proofs.YtkmbbgnbklklcaaDoor
