/-
  Package disk: Clone.
-/
import Derived.Test.YtkmbbgnbklklcaaDoorDiskE
namespace Go.Proofs.YtkmbbgnbklklcaaDoor
open Go.RowKit

/-- The cells of a disk's sectors. -/
def secsOf (D : Dsk) (q : Nat) : List Value := (List.range q).flatMap fun i => [.string (S (D.sure i)), .string (S (D.now i))]
theorem secsOf_succ (D : Dsk) (q : Nat) : secsOf D (q + 1) = secsOf D q ++ [.string (S (D.sure q)), .string (S (D.now q))] := by simp [secsOf, List.range_succ]
theorem secsOf_length (D : Dsk) (q : Nat) : (secsOf D q).length = q * 2 := by
  induction q with
  | zero => rfl
  | succ q ih => rw [secsOf_succ, List.length_append, ih]; simp; omega
theorem secsOf_get (D : Dsk) (q i : Nat) (h : i < q) : (secsOf D q)[i * 2]? = some (.string (S (D.sure i))) ∧ (secsOf D q)[i * 2 + 1]? = some (.string (S (D.now i))) := by
  induction q with
  | zero => omega
  | succ q ih =>
    rw [secsOf_succ]
    by_cases hi : i < q
    · rw [List.getElem?_append_left (by rw [secsOf_length]; omega), List.getElem?_append_left (by rw [secsOf_length]; omega)]
      exact ih hi
    · obtain rfl : i = q := by omega
      rw [List.getElem?_append_right (by rw [secsOf_length]; omega), List.getElem?_append_right (by rw [secsOf_length]; omega), secsOf_length, show i * 2 - i * 2 = 0 from by omega, show i * 2 + 1 - i * 2 = 1 from by omega]
      exact ⟨rfl, rfl⟩
theorem secsOf_one (D : Dsk) (q : Nat) : ∀ u ∈ secsOf D q, u.oneCell' = true := by
  intro u hu
  simp only [secsOf, List.mem_flatMap, List.mem_range, List.mem_cons, List.not_mem_nil, or_false] at hu
  obtain ⟨i, _, rfl | rfl⟩ := hu <;> rfl
theorem secsOf_cell {w : World} {B b g : Nat} {D : Dsk} (h : DiskAt w B b g D) : ∀ j u, (secsOf D D.n)[j]? = some u → w.cell? ((⟨g, 0, none⟩ : Addr).add j) = some u := by
  intro j u hu
  have hj : j < D.n * 2 := by
    have := (List.getElem?_eq_some_iff.1 hu).1
    rwa [secsOf_length] at this
  obtain ⟨cur, h1, h2⟩ := h.row (by omega)
  have h3 : (⟨g, 0, none⟩ : Addr).add j = ⟨g, j, none⟩ := by
    unfold Addr.add
    cases j <;> simp
  rw [h3, cell_of_block h1 j]
  have h4 := h2 (j / 2) (by omega)
  have h5 := secsOf_get D D.n (j / 2) (by omega)
  rcases (by omega : j = j / 2 * 2 ∨ j = j / 2 * 2 + 1) with h6 | h6
  · rw [h6] at hu ⊢
    rw [h4.1, ← h5.1, hu]
  · rw [h6] at hu ⊢
    rw [h4.2, ← h5.2, hu]

theorem clone_end {w5 : World} {N g5 cap5 : Nat} {D : Dsk} {v : Value} (hsm : D.n ≤ 4096) (hbig : D.left ≤ 9223372036854775807) (hlen : ∀ i, i < D.n → (D.sure i).length = 64 ∧ (D.now i).length = 64) (h0 : 0 < D.n)
    (hO : w5.ownsRow (N + 1) 129 2 (.slice (some ⟨g5, 0, none⟩) (0 + D.n) cap5) (0 + D.n) ([] ++ secsOf D D.n)) (hx : w5.heap[N]? = some (.cells #[v, .bool D.armed, .int .i64 (D.left : Int), .bool D.dead] 127 (0, 0))) :
    DiskAt (w5.setCell ⟨N, 0, none⟩ (.slice (some ⟨g5, 0, none⟩) D.n cap5)) N N g5 D ∧ N + 1 ≤ g5 := by
  rw [Nat.zero_add, List.nil_append] at hO
  rcases hO.2 with ⟨hv, hs⟩ | ⟨g, cap, cur, hv, h1, h2, h3, h4, h5, h6⟩
  · omega
  · cases hv
    refine ⟨⟨⟨_, _, by simpa using heap_set_same (i := 0) hx (.slice (some ⟨g5, 0, none⟩) D.n cap5), h3, h4, fun _ => rfl⟩, fun h => ⟨cur, heap_set_other h2 (p := ⟨N, 0, none⟩) (show g5 ≠ N from by omega) _, fun i hi => ?_⟩, Nat.le_refl _, by omega, hsm, hbig, hlen⟩, h1⟩
    have hg : ∀ j, j < D.n * 2 → cur[j]? = (secsOf D D.n)[j]? := fun j hj => by
      rw [← h6, List.getElem?_take, if_pos hj]
      simp
    rw [hg _ (by omega), hg _ (by omega)]
    exact secsOf_get D D.n i hi

set_option maxRecDepth 100000 in
theorem disk_clone {B b g : Nat} {D : Dsk} (w : World) (h : DiskAt w B b g D) (h0 : 0 < D.n) :
    Calls Tryd.prog 70 #[.pointer (some ⟨b, 0, none⟩)] w fun e w' => e = .returned (.pointer (some ⟨w.heap.size, 0, none⟩)) ∧ ∃ g2, DiskAt w' w.heap.size w.heap.size g2 D ∧ g2 < w'.heap.size ∧ Below w.heap.size w w' := by
  obtain ⟨i0, hi, hz0, hz1, hz2⟩ := info_parts Tryd.infoSector
  have hsm := h.small
  obtain ⟨ao, cap, h1, h2, h3, h4⟩ := h.head
  have hao := h4 h0
  subst hao
  have c0 := cell_of_block h1 0
  have c1 := cell_of_block h1 1
  have c2 := cell_of_block h1 2
  have c3 := cell_of_block h1 3
  simp only [List.getElem?_toArray, List.getElem?_cons_zero, List.getElem?_cons_succ] at c0 c1 c2 c3
  have H := hid h
  have H1 := hid h1
  clear h1 h
  go_enter Tryd.func70, Tryd.ntmps70
  go_upto_region 2 with fail
  have hn0 := heap_new w (.cells #[.slice (some ⟨g, 0, none⟩) D.n cap, .bool D.armed, .int .i64 (D.left : Int), .bool D.dead] 127)
  have hD0 := H.out.alloc (.cells #[.slice (some ⟨g, 0, none⟩) D.n cap, .bool D.armed, .int .i64 (D.left : Int), .bool D.dead] 127)
  have hB0 : Below w.heap.size w (w.alloc (.cells #[.slice (some ⟨g, 0, none⟩) D.n cap, .bool D.armed, .int .i64 (D.left : Int), .bool D.dead] 127)) := (Below.refl _ _).alloc (Nat.le_refl _) _
  have hz0' : (w.alloc (.cells #[.slice (some ⟨g, 0, none⟩) D.n cap, .bool D.armed, .int .i64 (D.left : Int), .bool D.dead] 127)).heap.size = w.heap.size + 1 := by simp
  have k0 := cellA (lt_of_block H1.out) c0 (.cells #[.slice (some ⟨g, 0, none⟩) D.n cap, .bool D.armed, .int .i64 (D.left : Int), .bool D.dead] 127)
  change Code.wp _ _ _ _ (w.alloc (.cells #[.slice (some ⟨g, 0, none⟩) D.n cap, .bool D.armed, .int .i64 (D.left : Int), .bool D.dead] 127))
  generalize w.alloc (.cells #[.slice (some ⟨g, 0, none⟩) D.n cap, .bool D.armed, .int .i64 (D.left : Int), .bool D.dead] 127) = w0 at *
  generalize hb : w.heap.size = N at *
  have f0 := free_of_block hn0 0
  have hlen1 : 0 + D.n ≤ maxLen := by unfold maxLen; omega
  have hlen2 : (0 + D.n) * 32 ≤ 140737488355328 := by omega
  have hcells := secsOf_cell hD0
  have Hn0 := hid hn0
  have HD0 := hid hD0
  have HB0 := hid hB0
  have Hz0 := hid hz0'
  have Hc := hid hcells
  have Hb := hid hb
  clear hn0 hD0 hB0 hz0' hcells c0 c1 c2 c3 hb
  go_wp2_with (at_builtin; refine wpList_append_lies _ rfl _ _ 125 rfl (N + 1) 129 i0 _ 2 32 Tryd.underlying125 hi hz0 hz1 hz2 rfl (by decide) (.slice none 0 0) 0 [] (by simp [Act.eval]) (World.ownsRow_nil _ _ _ _) ⟨g, 0, none⟩ D.n cap (secsOf D D.n) (by simp [Act.eval]) (secsOf_length _ _) Hc.out (secsOf_one _ _) h0 hlen1 hlen2 (by rw [Hz0.out]; exact Nat.le_refl _) (N + 1) Hz0.out ?_; intro g5 cap5 w5 hown5 hgrow5 hg5 hlt5; have f5 := (hgrow5.frozen_far ⟨N, 0, none⟩ (by rw [Hz0.out]; simp) (fun e => by cases e)).trans f0; have hx5 := (hgrow5.block N (by rw [Hz0.out]; omega) (fun e => by cases e)).trans Hn0.out; have k5 := cell_of_block hx5 0; have HO5 := hid hown5; have HG5 := hid hgrow5; have Hx5 := hid hx5; clear hown5 hgrow5 hg5 hx5)
  go_ret
  refine ⟨by rw [Hb.out]; rfl, ?_⟩
  rw [Hb.out]
  have hE := clone_end H.out.small H.out.big H.out.len h0 HO5.out Hx5.out
  refine ⟨g5, hE.1, by simp; exact hlt5, ?_⟩
  exact (HB0.out.grown HG5.out (by rw [Hz0.out]; omega) (fun k hk => by cases hk)).setCell (Nat.le_refl _) _
end Go.Proofs.YtkmbbgnbklklcaaDoor
