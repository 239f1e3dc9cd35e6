/-
  sha: begin, add.
-/
import Derived.Test.YtmdcalkfapcafaaDoorShaC
namespace Go.Proofs.YtmdcalkfapcafaaDoor
open Go.RowKit

theorem feed_mod (s : S8) (l : List UInt8) : (feed s l).2.length = l.length % 64 := by
  induction s, l using feed.induct with
  | case1 s l h ih => rw [feed_long _ _ h, ih, List.length_drop]; omega
  | case2 s l h => rw [feed_short _ _ (by omega)]; simp only; omega

theorem WaitAt.block {B : Nat} {w : World} {v : Value} {l : List UInt8} (h : WaitAt B w v l) {k : Nat} (hk : v.ownBlock = some k) : B ≤ k ∧ k < w.heap.size := by
  rcases h with ⟨rfl, _⟩ | ⟨g, off, cap, cur, rfl, hb, hg, _⟩
  · simp [Value.ownBlock] at hk
  · simp [Value.ownBlock] at hk
    subst hk
    exact ⟨hb, lt_of_block hg⟩
theorem WaitAt.fr {B : Nat} {w w' : World} {v : Value} {l : List UInt8} (h : WaitAt B w v l) {S : Nat → Prop} (hF : Fr S w w') (hS : ∀ k, v.ownBlock = some k → ¬ S k) : WaitAt B w' v l := by
  rcases h with h | ⟨g, off, cap, cur, rfl, hb, hg, hr⟩
  · exact .inl h
  · exact .inr ⟨g, off, cap, cur, rfl, hb, hF.heap hg (hS g rfl), hr⟩
theorem WaitAt.ne {B : Nat} {w : World} {v : Value} {l : List UInt8} (h : WaitAt B w v l) {k : Nat} {c : Array Value} {t : TypeId} (hk : w.heap[k]? = some (.cells c t (0, 0))) (ht : t ≠ 5) : v.ownBlock ≠ some k := by
  intro e
  rcases h with ⟨rfl, _⟩ | ⟨g, off, cap, cur, rfl, hb, hg, _⟩
  · simp [Value.ownBlock] at e
  · simp [Value.ownBlock] at e
    subst e
    rw [hg] at hk
    injection hk with hk
    injection hk with _ hk
    exact ht hk.symm
theorem WaitAt.shape {B : Nat} {w : World} {v : Value} {l : List UInt8} (h : WaitAt B w v l) : ∃ ao cap, v = .slice ao l.length cap := by
  rcases h with ⟨rfl, rfl⟩ | ⟨g, off, cap, cur, rfl, _⟩
  · exact ⟨_, _, rfl⟩
  · exact ⟨_, _, rfl⟩
/-- Where a whole block waits. -/
theorem WaitAt.whole {B : Nat} {w : World} {v : Value} {l : List UInt8} (h : WaitAt B w v l) (hl : 64 ≤ l.length) :
    ∃ g off cap, v = .slice (some ⟨g, off, none⟩) l.length cap ∧ g < w.heap.size ∧ B ≤ g ∧ 64 ≤ cap ∧ l.length ≤ cap ∧ cap ≤ maxLen ∧ Bytes64 w g off (l.take 64) ∧ WaitAt B w (.slice (if cap = 64 then some ⟨g, off, none⟩ else some ⟨g, off + 64, none⟩) (l.length - 64) (cap - 64)) (l.drop 64) := by
  rcases h with ⟨_, rfl⟩ | ⟨g, off, cap, cur, rfl, hb, hg, hn, hm, hc, ht⟩
  · simp at hl
  · refine ⟨g, off, cap, rfl, lt_of_block hg, hb, by omega, hn, hm, ⟨by rw [List.length_take]; omega, fun i hi => ?_⟩, ?_⟩
    · have h1 : (byteCells l)[i]? = some (.int .u8 (((l.take 64).getD i 0).toNat : Int)) := by
        have h2 : i < l.length := by omega
        simp [byteCells, List.getD, List.getElem?_take_of_lt hi, h2]
      rw [cell_of_block hg, ← h1, ← ht, List.getElem?_take_of_lt (by omega), List.getElem?_drop, Array.getElem?_toList]
    · by_cases h64 : cap = 64
      · have hd : l.drop 64 = [] := List.eq_nil_of_length_eq_zero (by rw [List.length_drop]; omega)
        rw [if_pos h64, hd]
        refine .inr ⟨g, off, cap - 64, cur, ?_, hb, hg, by simp, by omega, by omega, by simp [byteCells]⟩
        rw [show l.length - 64 = 0 from by omega]; rfl
      rw [if_neg h64]
      refine .inr ⟨g, off + 64, cap - 64, cur, by rw [List.length_drop], hb, hg, by rw [List.length_drop]; omega, by omega, by omega, ?_⟩
      rw [List.length_drop, ← List.drop_drop]
      have h1 : byteCells (l.drop 64) = (byteCells l).drop 64 := by simp [byteCells]
      rw [h1, ← ht, List.drop_take]

/-- The state at sb after the bytes m. -/
structure StAt (B : Nat) (w : World) (sb : Nat) (v : Value) (s : S8) (l : List UInt8) (n : Nat) : Prop where
  cell : w.heap[sb]? = some (.cells (s.cells ++ #[v, .int .u64 (n : Int)]) 56 (0, 0))
  wait : WaitAt B w v l
  ge : B ≤ sb
theorem StAt.cells {B : Nat} {w : World} {sb : Nat} {v : Value} {s : S8} {l : List UInt8} {n : Nat} (h : StAt B w sb v s l n) :
    w.cell? ⟨sb, 8, none⟩ = some v ∧ w.cell? ⟨sb, 9, none⟩ = some (.int .u64 (n : Int)) ∧ w.frozen? ⟨sb, 8, none⟩ = false ∧ w.frozen? ⟨sb, 9, none⟩ = false :=
  ⟨cell_of_block h.cell 8, cell_of_block h.cell 9, free_of_block h.cell 8, free_of_block h.cell 9⟩

theorem StAt.setN {B : Nat} {w : World} {sb : Nat} {v : Value} {s : S8} {l : List UInt8} {n : Nat} (h : StAt B w sb v s l n) (m : Nat) : StAt B (w.setCell ⟨sb, 9, none⟩ (.int .u64 (m : Int))) sb v s l m :=
  ⟨heap_set_same h.cell _, h.wait.fr ((Fr.refl (fun k => k = sb) w).setCell (fun _ => rfl) _) (fun k hk e => by subst e; exact h.wait.ne h.cell (by decide) hk), h.ge⟩
theorem StAt.setV {B : Nat} {w : World} {sb : Nat} {v v' : Value} {s : S8} {l' : List UInt8} {n : Nat} (h : w.heap[sb]? = some (.cells (s.cells ++ #[v, .int .u64 (n : Int)]) 56 (0, 0))) (hW : WaitAt B w v' l') (hB : B ≤ sb) :
    StAt B (w.setCell ⟨sb, 8, none⟩ v') sb v' s l' n :=
  ⟨heap_set_same h _, hW.fr ((Fr.refl (fun k => k = sb) w).setCell (fun _ => rfl) _) (fun k hk e => by subst e; exact hW.ne h (by decide) hk), hB⟩

theorem begin_any (w : World) : Calls Tryd.prog 25 #[] w fun e w' => e = .returned (.pointer (some ⟨w.heap.size, 0, none⟩)) ∧ w' = w.alloc (.cells (S8.start.cells ++ #[.slice none 0 0, .int .u64 0]) 56) := by
  go_enter Tryd.func25, Tryd.ntmps25
  go_wp2
  go_ret
  exact ⟨rfl, rfl⟩

/-- How many bytes wait. -/
def waitLen (sb : Nat) (w : World) : Nat :=
  match w.cell? ⟨sb, 8, none⟩ with
  | some (.slice _ n _) => n
  | _ => 0
theorem waitLen_of {B : Nat} {w : World} {sb : Nat} {v : Value} {s : S8} {l : List UInt8} {n : Nat} (h : StAt B w sb v s l n) : waitLen sb w = l.length := by
  unfold waitLen
  rw [h.cells.1]
  rcases h.wait with ⟨rfl, rfl⟩ | ⟨g, off, cap, cur, rfl, _⟩ <;> rfl

theorem Tryd.infoByte : (Tryd.prog.info? 5).map (fun i => (i.zero, i.size, i.bytes)) = some (some (.int .u8 0), 1, 1) := by kernel_rfl

set_option maxHeartbeats 4000000 in
theorem add_any (B : Nat) (w : World) (sb : Nat) (v : Value) (s : S8) (l : List UInt8) (n : Nat) (t : List UInt8) (h : StAt B w sb v s l n) (hl : l.length < 64) (ht : t.length ≤ 900000000) (hn : n ≤ 1000000000000) (hL : Laid w) (hB : 0 < B) (hBw : B ≤ w.heap.size) :
    Calls Tryd.prog 26 #[.pointer (some ⟨sb, 0, none⟩), .string (S t)] w fun e w' =>
      e = .returned (.tuple #[]) ∧ (∃ v', StAt B w' sb v' (feed s (l ++ t)).1 (feed s (l ++ t)).2 (n + t.length)) ∧ Below B w w' := by
  obtain ⟨i0, hi, hz0, hz1, hz2⟩ := info_parts Tryd.infoByte
  have H := hid h
  have HL := hid hL
  obtain ⟨c8, c9, f8, f9⟩ := h.cells
  have hslt := lt_of_block h.cell
  clear h hL
  have hts : (S t).size = t.length := S_size t
  go_enter Tryd.func26, Tryd.ntmps26
  go_upto_region 1 with fail
  have H1 := H.out.setN (n + t.length)
  rw [show ((n + t.length : Nat) : Int) = (n : Int) + (t.length : Int) from by omega] at H1
  have hB1 : Below B w (w.setCell ⟨sb, 9, none⟩ (.int .u64 ((n : Int) + (t.length : Int)))) := (Below.refl B w).setCell H.out.ge _
  have hz : (w.setCell ⟨sb, 9, none⟩ (.int .u64 ((n : Int) + (t.length : Int)))).heap.size = w.heap.size := by simp [World.setCell]
  generalize w.setCell ⟨sb, 9, none⟩ (.int .u64 ((n : Int) + (t.length : Int))) = w1 at *
  clear c8 c9 f8 f9
  obtain ⟨c8, _, f8, _⟩ := H1.cells
  have HB1 := hid hB1
  have hg1 := H1.ge
  have hne1 := H1.wait.ne H1.cell (by decide)
  have H1 := hid H1
  have hlen : l.length + t.length ≤ 1000000000 := by omega
  have hBw1 : B ≤ w1.heap.size := by omega
  have hs1 : sb < w1.heap.size := by omega
  clear hB1
  go_upto_region 2 with (refine wpList_append_win _ rfl (.tmp 18) (.tmp 19) 28 9 rfl i0 Tryd.underlying28 Tryd.underlying9 hi hz0 hz1 hz2 rfl H1.out.wait t rfl hlen hBw1 ?_; intro v2 w2 hW2 hG2; have f82 := (hG2.frozen_far ⟨sb, 8, none⟩ hs1 (fun e => hne1 e.symm)).trans f8; have c82 := (hG2.cell_far ⟨sb, 8, none⟩ hs1 (fun e => hne1 e.symm)).trans c8; have HG2 : Hid (w1.grownBy w2 v.ownBlock) := hid hG2; obtain ⟨ao2, cp2, rfl⟩ := hW2.shape; have HW2 := hid hW2; clear hW2 hG2)
  have hc2 : w2.heap[sb]? = _ := (HG2.out.block sb hs1 (fun e => hne1 e.symm)).trans H1.out.cell
  have H3 := StAt.setV hc2 HW2.out hg1
  rw [List.length_append] at H3
  have hB3 : Below B w (w2.setCell ⟨sb, 8, none⟩ (.slice ao2 (l.length + t.length) cp2)) := (HB1.out.grown HG2.out hBw1 (fun k hk => (H1.out.wait.block hk).1)).setCell hg1 _
  generalize w2.setCell ⟨sb, 8, none⟩ (.slice ao2 (l.length + t.length) cp2) = w3 at *
  have H3 := hid H3
  have HB3 := hid hB3
  clear hB3 hc2 f82 c82 c8 f8 hne1 HG2 HW2 hs1 hlen hts hl ht
  go_loopw [23] (fun _ w' => ∃ s' l' v', StAt B w' sb v' s' l' (n + t.length) ∧ feed s' l' = feed s (l ++ t) ∧ Below B w w') (fun _ w' => waitLen sb w')
  case atStart => exact ⟨s, l ++ t, _, H3.out, rfl, HB3.out⟩
  case round =>
    obtain ⟨s', l', v', hS, hf, hB4⟩ := hrel
    obtain ⟨ao, cp, rfl⟩ := hS.wait.shape
    obtain ⟨c8, _, f8, _⟩ := hS.cells
    have hwl := waitLen_of hS
    have HS := hid hS
    have Hf := hid hf
    have HB4 := hid hB4
    have Hwl := hid hwl
    clear hS hf hB4 hwl
    by_cases h64 : 64 ≤ l'.length
    · have hge : (64 : Int) ≤ (l'.length : Int) := by omega
      obtain ⟨g, off, cap, hv, hglt, hBg, hc64, hlc, hcm, hby, hW2⟩ := HS.out.wait.whole h64
      cases hv
      have hcp : (64 : Int) ≤ (cp : Int) := by omega
      have hsw := lt_of_block HS.out.cell
      have hne := HS.out.wait.ne HS.out.cell (by decide)
      have HW2 := hid hW2
      have Hby := hid hby
      have Hne := hid hne
      have H64 := hid h64
      have hLr := HL.out.below HB4.out hB
      have hsb0 : 0 < sb := by omega
      have HLr := hid hLr
      clear hW2 hby hne hlc hcm hc64 h64 hLr hg1 hz hn hBw1 hslt hBw
      go_upto_region 4 with fail
      refine (mix_any (l'.take 64) g off cp sb s' _ _ wr Hby.out hglt HLr.out hsb0 HS.out.cell).mono ?_
      rintro e w4 ⟨rfl, hc4, hF4⟩
      have c84 : w4.cell? ⟨sb, 8, none⟩ = some (.slice (some ⟨g, off, none⟩) l'.length cp) := cell_of_block hc4 8
      have f84 : w4.frozen? ⟨sb, 8, none⟩ = false := free_of_block hc4 8
      have Hc4 := hid hc4
      have HF4 := hid hF4
      clear hc4 hF4 c8 f8
      go_wp2_with fail
      have hW4 : WaitAt B w4 _ _ := HW2.out.fr HF4.out (fun k hk e => by
        subst e
        have h1 : g = k := by
          by_cases h64 : cp = 64
          · rw [if_pos h64] at hk; simpa [Value.ownBlock] using hk
          · rw [if_neg h64] at hk; simpa [Value.ownBlock] using hk
        exact Hne.out (by rw [← h1]; rfl))
      have hS5 := StAt.setV Hc4.out hW4 HS.out.ge
      refine ⟨⟨_, _, _, hS5, by rw [← feed_long s' l' H64.out]; exact Hf.out, ?_⟩, ?_⟩
      · exact (HB4.out.trans (HF4.out.below (by have := HS.out.ge; omega) (fun k hk e => by have := HS.out.ge; omega))).setCell HS.out.ge _
      · rw [waitLen_of hS5, Hwl.out, List.length_drop]; have := H64.out; omega
    · have hge : ¬ (64 : Int) ≤ (l'.length : Int) := by omega
      go_wp2_with fail
      go_end0
      rw [feed_short s' l' (by omega)] at Hf
      exact ⟨rfl, ⟨_, by rw [← Hf.out]; exact HS.out⟩, HB4.out⟩
end Go.Proofs.YtmdcalkfapcafaaDoor
