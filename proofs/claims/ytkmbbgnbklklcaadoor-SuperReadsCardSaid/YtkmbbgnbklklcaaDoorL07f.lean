/-
  Law 07: awake.
-/
import Derived.Test.YtkmbbgnbklklcaaDoorL07a
import Derived.Test.YtkmbbgnbklklcaaDoorDiskD
namespace Go.Proofs.YtkmbbgnbklklcaaDoor
open Go.RowKit

theorem sup_cells' {w : World} {N : Nat} {a b c d e : Value} {t : TypeId} (h : w.heap[N]? = some (.cells #[a, b, c, d, e] t (0, 0))) : w.cell? ⟨N, 0, none⟩ = some a ∧ w.cell? ⟨N, 1, none⟩ = some b ∧ w.cell? ⟨N, 2, none⟩ = some c ∧ w.cell? ⟨N, 3, none⟩ = some d ∧ w.cell? ⟨N, 4, none⟩ = some e :=
  ⟨cell_of_block h 0, cell_of_block h 1, cell_of_block h 2, cell_of_block h 3, cell_of_block h 4⟩
theorem own_first' {w : World} {base e n cp : Nat} {ao : Option Addr} {xs : List Value} (h : w.ownsRow base e 1 (.slice ao n cp) n xs) (hn : 0 < n) : ∃ g, ao = some ⟨g, 0, none⟩ ∧ base ≤ g ∧ g < w.heap.size ∧ ∀ (j : Nat) (u : Value), xs[j]? = some u → w.cell? ⟨g, j, none⟩ = some u := by
  have h0 := h
  rcases h.2 with ⟨hv, h1⟩ | ⟨g, cap, cur, hv, hg, _⟩
  · omega
  · injection hv with hv
    subst hv
    have hlt := h0.lt g rfl
    exact ⟨g, rfl, hg, hlt.2, fun j u hu => by have := h0.cells (g := g) rfl j u hu; rwa [zero_add_at] at this⟩
def x3 : Sup := ⟨3, 4, 256, 0, 1⟩
def d50 : Dsk := (Dsk.new 50).took x3
theorem fit_new (n : Nat) : (Dsk.new n).fit := ⟨rfl, fun h => by cases h⟩
theorem less_new (n : Nat) : (Dsk.new n).less = Dsk.new n := rfl
theorem x3_small : x3.small := ⟨by decide, by decide, by decide, by decide, by decide⟩
theorem x3_err : x3.err 50 = 0 := by decide
theorem d50_eq : d50 = { Dsk.new 50 with now := upd (Dsk.new 50).now 1 x3.sec } := by unfold d50 Dsk.took; exact (if_pos x3_err).trans rfl
theorem d50_best : d50.best = x3 := by
  rw [d50_eq]
  refine best_one (x := x3) (by decide) x3_small x3_err ?_ ?_
  · show upd (Dsk.new 50).now 1 x3.sec 1 = _
    exact if_pos rfl
  · intro i hi hne
    have h0 : i = 0 := by
      have h1 : x3.ep % 2 = 1 := rfl
      omega
    subst h0
    show ¬ bearsSup nul _
    exact bears_nul _
theorem d50_loose : loose d50 = [1] := by rw [d50_eq]; decide +kernel
theorem write_50 {B b g : Nat} (w : World) (h : DiskAt w B b g (Dsk.new 50)) (hg : g < w.heap.size) :
    Calls Tryd.prog 61 #[.pointer (some ⟨b, 0, none⟩), .agg #[.int .u32 3, .int .i64 4, .int .i64 256, .int .i64 0, .int .u32 1]] w fun e w' => e = .returned (.int .i64 0) ∧ DiskEnd w B b g d50 w' := lwrite7 x3 w h hg x3_small (fit_new 50)
theorem read_50 {B b g : Nat} (w : World) (h : DiskAt w B b g d50) :
    Calls Tryd.prog 63 #[.pointer (some ⟨b, 0, none⟩)] w fun e w' => e = .returned (.tuple #[.agg #[.int .u32 3, .int .i64 4, .int .i64 256, .int .i64 0, .int .u32 1], .int .i64 0]) ∧ Below w.heap.size w w' := by
  have h1 := lread7 w h (by rw [d50_eq]; rfl) x3 d50_best
  have h2 : d50.bErr = 0 := by unfold Dsk.bErr; rw [d50_best]; rfl
  rw [h2] at h1
  exact h1
theorem heap_50 (w : World) : Calls Tryd.prog 98 #[.agg #[.int .u32 3, .int .i64 4, .int .i64 256, .int .i64 0, .int .u32 1]] w fun e w' => e = .returned (.int .i64 6) ∧ Below w.heap.size w w' := super_heap 3 4 256 0 1 w (by decide)

set_option maxRecDepth 100000 in
set_option maxHeartbeats 2000000 in
theorem awake07 (w : World) : Calls Tryd.prog 57 #[] w fun e w' => e = .returned (.bool true) ∧ Below w.heap.size w w' := by
  go_enter Tryd.func57, Tryd.ntmps57
  go_wp2_with fail
  refine (disk_new 50 50 w (by decide)).mono ?_
  rintro e w1 ⟨rfl, g, hD1, hg1, hB1⟩
  generalize hb : w.heap.size = b at *
  have H1 : Hid (DW w b b g (Dsk.new 50) w1) := hid ⟨hD1, hB1, hg1⟩
  clear hD1 hg1 hB1
  go_upto_region 3 with fail
  have H2 := hid (H1.out.alloc (.cells #[.int .u32 3, .int .i64 4, .int .i64 256, .int .i64 0, .int .u32 1] 91))
  have hX2 : (w1.alloc (.cells #[.int .u32 3, .int .i64 4, .int .i64 256, .int .i64 0, .int .u32 1] 91)).heap[w1.heap.size]? = some (.cells #[.int .u32 3, .int .i64 4, .int .i64 256, .int .i64 0, .int .u32 1] 91 (0, 0)) := heap_new w1 _
  generalize w1.alloc (.cells #[.int .u32 3, .int .i64 4, .int .i64 256, .int .i64 0, .int .u32 1] 91) = w2 at *
  have hfar : ¬ dfoot b g w1.heap.size := by have h1 := H1.out.b; have h2 := H1.out.g; rintro (h | h) <;> omega
  have hNb : b ≤ w1.heap.size := by have h1 := H1.out.b; omega
  generalize w1.heap.size = N at *
  obtain ⟨k0, k1, k2, k3, k4⟩ := sup_cells' hX2
  have HX2 := hid hX2
  have Hb := hid hb
  have K2 := hid (write_50 w2 H2.out.at H2.out.g)
  clear hX2 hb H1
  go_upto_region 5 with (go_at_call 61; (with_reducible refine K2.out.mono ?_); rintro e w3 ⟨rfl, hE⟩; have H3 : Hid (DW w b b g d50 w3) := hid (H2.out.ends hE); have hX3 := hE.2.heap HX2.out hfar; have HX3 := hid hX3; clear hE hX3)
  have K3 := hid (read_50 w3 H3.out.at)
  clear K2 k0 k1 k2 k3 k4
  go_upto_region 6 with (go_at_call 63; (with_reducible refine K3.out.mono ?_); rintro e w4 ⟨rfl, hB4⟩; have H4 := hid (H3.out.below hB4); have hX4 := (hB4.block N (lt_of_block HX3.out)).trans HX3.out; have HX4 := hid hX4; clear hB4 hX4)
  have H5 := hid (H4.out.alloc (.cells #[.int .u32 3, .int .i64 4, .int .i64 256, .int .i64 0, .int .u32 1] 91))
  have hY5 : (w4.alloc (.cells #[.int .u32 3, .int .i64 4, .int .i64 256, .int .i64 0, .int .u32 1] 91)).heap[w4.heap.size]? = some (.cells #[.int .u32 3, .int .i64 4, .int .i64 256, .int .i64 0, .int .u32 1] 91 (0, 0)) := heap_new w4 _
  have hX5 := heap_old HX4.out (.cells #[.int .u32 3, .int .i64 4, .int .i64 256, .int .i64 0, .int .u32 1] 91)
  generalize w4.alloc (.cells #[.int .u32 3, .int .i64 4, .int .i64 256, .int .i64 0, .int .u32 1] 91) = w5 at *
  generalize w4.heap.size = M at *
  have HX5 := hid hX5
  have HY5 := hid hY5
  clear hX5 hY5 K3
  have hl := disk_loose w5 H5.out.at
  rw [d50_loose] at hl
  have Hl := hid hl
  clear hl
  go_upto_region 7 with (go_at_call 64; (with_reducible refine Hl.out.mono ?_); rintro e w6 ⟨v, rfl, hO, hB6⟩; have H6 := hid (H5.out.below hB6); have hX6 := (hB6.block N (lt_of_block HX5.out)).trans HX5.out; have hY6 := (hB6.block M (lt_of_block HY5.out)).trans HY5.out; have HX6 := hid hX6; have HY6 := hid hY6; clear hB6 hX6 hY6)
  obtain ⟨ao, cp, rfl⟩ := shape_of hO
  obtain ⟨gg, rfl, hgg, hgl, hgc⟩ := own_first' hO (by decide)
  have q0 := hgc 0 _ rfl
  obtain ⟨k0, k1, k2, k3, k4⟩ := sup_cells' HX6.out
  obtain ⟨m0, m1, m2, m3, m4⟩ := sup_cells' HY6.out
  clear hO hgc hgg hgl
  dsimp only [List.length_singleton]
  go_wp2_with (go_at_call 98; (with_reducible refine (heap_50 _).mono ?_); rintro e w7 ⟨rfl, hB7⟩; have H7 := hid (H6.out.below hB7); clear hB7)
  go_ret
  exact ⟨rfl, by rw [Hb.out]; exact H7.out.2.1⟩
end Go.Proofs.YtkmbbgnbklklcaaDoor
