/-
  Package disk: a disk in memory; blank, New.
-/
import Derived.Test.YtkmbbgnbklklcaaDoorStamp
import Derived.Test.YtkmbbgnbklklcaaDoorGuardB
namespace Go.Proofs.YtkmbbgnbklklcaaDoor
open Go.RowKit

/-- Noughts. -/
def nul : List UInt8 := List.replicate 64 0
theorem nul_length : nul.length = 64 := List.length_replicate

theorem blank_any (w : World) : Calls Tryd.prog 88 #[] w fun e w' => e = .returned (.string (S nul)) ∧ Below w.heap.size w w' := by
  have h := repeat_zero 64 w (by decide)
  have H := hid h
  clear h
  go_enter Tryd.func88, Tryd.ntmps88
  go_wp2_with fail
  refine H.out.mono ?_
  rintro e w1 ⟨rfl, hB⟩
  have HB := hid hB
  clear hB
  go_wp2_with fail
  go_ret
  exact ⟨rfl, HB.out⟩

/-- A disk: its sectors, what is sure and what is there; how many calls work yet. -/
structure Dsk where
  n : Nat
  sure : Nat → List UInt8
  now : Nat → List UInt8
  armed : Bool
  left : Nat
  dead : Bool
def Dsk.new (n : Nat) : Dsk := ⟨n, fun _ => nul, fun _ => nul, false, 0, false⟩

/-- At block b lies a disk, its sectors in block g. -/
structure DiskAt (w : World) (B b g : Nat) (D : Dsk) : Prop where
  head : ∃ ao cap, w.heap[b]? = some (.cells #[.slice ao D.n cap, .bool D.armed, .int .i64 (D.left : Int), .bool D.dead] 127 (0, 0)) ∧ D.n ≤ cap ∧ cap ≤ maxLen ∧ (0 < D.n → ao = some ⟨g, 0, none⟩)
  row : 0 < D.n → ∃ cur, w.heap[g]? = some (.cells cur 129 (0, 0)) ∧ ∀ i, i < D.n → cur[i * 2]? = some (.string (S (D.sure i))) ∧ cur[i * 2 + 1]? = some (.string (S (D.now i)))
  hb : B ≤ b
  hg : B ≤ g
  small : D.n ≤ 4096
  big : D.left ≤ 9223372036854775807
  len : ∀ i, i < D.n → (D.sure i).length = 64 ∧ (D.now i).length = 64
/-- The disk's blocks. -/
def dfoot (b g k : Nat) : Prop := k = b ∨ k = g

theorem DiskAt.fr {w w' : World} {B b g : Nat} {D : Dsk} (h : DiskAt w B b g D) {T : Nat → Prop} (hF : Fr T w w') (hb : ¬ T b) (hg : ¬ T g) : DiskAt w' B b g D := by
  obtain ⟨ao, cap, h1, h2⟩ := h.head
  refine ⟨⟨ao, cap, hF.heap h1 hb, h2⟩, fun h0 => ?_, h.hb, h.hg, h.small, h.big, h.len⟩
  obtain ⟨cur, h3, h4⟩ := h.row h0
  exact ⟨cur, hF.heap h3 hg, h4⟩
theorem DiskAt.below {w w' : World} {B b g : Nat} {D : Dsk} (h : DiskAt w B b g D) (hB : Below w.heap.size w w') : DiskAt w' B b g D := h.fr (Fr.ofBelow hB (fun _ => False)) id id
theorem DiskAt.drew {w : World} {B b g : Nat} {D : Dsk} (h : DiskAt w B b g D) : DiskAt w.drew B b g D := h.fr (Fr.refl (fun _ => False) w).drew id id
theorem DiskAt.alloc {w : World} {B b g : Nat} {D : Dsk} (h : DiskAt w B b g D) (o : Obj) : DiskAt (w.alloc o) B b g D := h.fr ((Fr.refl (fun _ => False) w).alloc o) id id
theorem DiskAt.lt {w : World} {B b g : Nat} {D : Dsk} (h : DiskAt w B b g D) : b < w.heap.size := by
  obtain ⟨ao, cap, h1, _⟩ := h.head
  exact lt_of_block h1
theorem DiskAt.ne {w : World} {B b g : Nat} {D : Dsk} (h : DiskAt w B b g D) (h0 : 0 < D.n) : g ≠ b := by
  rintro rfl
  obtain ⟨ao, cap, h1, _⟩ := h.head
  obtain ⟨cur, h3, _⟩ := h.row h0
  rw [h3] at h1
  injection h1 with h1
  injection h1 with _ h1
  exact absurd h1 (by decide)
/-- A block of another kind is none of the disk's. -/
theorem DiskAt.other {w : World} {B b g : Nat} {D : Dsk} (h : DiskAt w B b g D) {k : Nat} {c : Array Value} {t : TypeId} {fr : Nat × Nat} (hk : w.heap[k]? = some (.cells c t fr)) (h1 : t ≠ 127) (h2 : t ≠ 129) : k ≠ b ∧ (0 < D.n → k ≠ g) := by
  refine ⟨?_, fun h0 => ?_⟩
  · rintro rfl
    obtain ⟨ao, cap, h3, _⟩ := h.head
    rw [hk] at h3
    injection h3 with h3
    injection h3 with _ h3
    exact h1 h3
  · rintro rfl
    obtain ⟨cur, h3, _⟩ := h.row h0
    rw [hk] at h3
    injection h3 with h3
    injection h3 with _ h3
    exact h2 h3
/-- What the disk's calls leave: the disk has turned; of the blocks that were there only its own have. -/
def DiskEnd (w : World) (B b g : Nat) (D : Dsk) (w' : World) : Prop := DiskAt w' B b g D ∧ Fr (dfoot b g) w w'
theorem DiskEnd.below {w w' : World} {B b g : Nat} {D : Dsk} (h : DiskEnd w B b g D w') (hB : B ≤ w.heap.size) : Below B w w' :=
  h.2.below hB fun k hk hx => by
    have h1 := h.1.hb
    have h2 := h.1.hg
    rcases hx with hx | hx <;> omega
theorem DiskEnd.trans {w w1 w2 : World} {B b g : Nat} {D1 D2 : Dsk} (h : DiskEnd w B b g D1 w1) (k : DiskEnd w1 B b g D2 w2) : DiskEnd w B b g D2 w2 := ⟨k.1, h.2.trans k.2 (fun _ _ h => h)⟩

theorem own_below {w w' : World} {base e size n : Nat} {v : Value} {xs : List Value} (h : w.ownsRow base e size v n xs) (hB : Below w.heap.size w w') : w'.ownsRow base e size v n xs := (Fr.ofBelow hB (fun _ => False)).own h (fun _ _ => id)
theorem Below.undrew {B : Nat} {w w' : World} (h : Below B w.drew w') : Below B w w' := ⟨h.os, h.tape, h.output, h.size, h.block⟩
theorem own_ne {w : World} {base e size n : Nat} {v : Value} {xs : List Value} (h : w.ownsRow base e size v n xs) {b : Nat} {c : Array Value} {t : TypeId} {fr : Nat × Nat} (hk : w.heap[b]? = some (.cells c t fr)) (hne : t ≠ e) : v.ownBlock ≠ some b := by
  rcases h.2 with ⟨rfl, _⟩ | ⟨g, cap, cur, rfl, _, hg, _⟩
  · simp [Value.ownBlock]
  · intro he
    have : g = b := by simpa [Value.ownBlock] using he
    subst this
    rw [hg] at hk
    injection hk with hk
    injection hk with _ hk
    exact hne hk.symm
theorem Tryd.infoSector : (Tryd.prog.info? 129).map (fun i => (i.zero, i.size, i.bytes)) = some (some (.agg #[.string ByteArray.empty, .string ByteArray.empty]), 2, 32) := by kernel_rfl
def secs (q : Nat) : List Value := (List.range q).flatMap fun _ => [.string (S nul), .string (S nul)]
theorem secs_succ (q : Nat) : secs (q + 1) = secs q ++ [.string (S nul), .string (S nul)] := by simp [secs, List.range_succ]
theorem secs_length (q : Nat) : (secs q).length = q * 2 := by
  induction q with
  | zero => rfl
  | succ q ih => rw [secs_succ, List.length_append, ih]; simp; omega
theorem secs_get (q i : Nat) (h : i < q * 2) : (secs q)[i]? = some (.string (S nul)) := by
  induction q with
  | zero => omega
  | succ q ih =>
    rw [secs_succ]
    by_cases hi : i < q * 2
    · rw [List.getElem?_append_left (by rw [secs_length]; exact hi)]; exact ih hi
    · rw [List.getElem?_append_right (by rw [secs_length]; omega), secs_length]
      rcases (by omega : i - q * 2 = 0 ∨ i - q * 2 = 1) with h | h <;> rw [h] <;> rfl

theorem new_step {w w2 w3 : World} {o : Obj} {b q cp gg cc : Nat} {ao : Option Addr} (hd : w2.heap[b]? = some (.cells #[.slice ao q cp, .bool false, .int .i64 0, .bool false] 127 (0, 0))) (hO : w2.ownsRow b 129 2 (.slice ao q cp) q (secs q)) (hap : (Value.slice ao q cp).ownBlock ≠ some b)
    (hgrow : (w2.alloc o).grownBy w3 (Value.slice ao q cp).ownBlock) (hown : w3.ownsRow b 129 2 (.slice (some ⟨gg, 0, none⟩) (q + 1) cc) (q + 1) (secs q ++ [.string (S nul), .string (S nul)])) (hat : (Value.slice ao q cp).ownBlock = some gg ∨ gg = w2.heap.size + 1) (hB : Below b w w2) :
    (w3.setCell ⟨b, 0, none⟩ (.slice (some ⟨gg, 0, none⟩) (q + 1) cc)).heap[b]? = some (.cells #[.slice (some ⟨gg, 0, none⟩) (q + 1) cc, .bool false, .int .i64 0, .bool false] 127 (0, 0)) ∧
      (w3.setCell ⟨b, 0, none⟩ (.slice (some ⟨gg, 0, none⟩) (q + 1) cc)).ownsRow b 129 2 (.slice (some ⟨gg, 0, none⟩) (q + 1) cc) (q + 1) (secs (q + 1)) ∧ Below b w (w3.setCell ⟨b, 0, none⟩ (.slice (some ⟨gg, 0, none⟩) (q + 1) cc)) := by
  have hlt := lt_of_block hd
  have hne : gg ≠ b := by
    rcases hat with h | h
    · intro e; rw [e] at h; exact hap h
    · omega
  refine ⟨?_, ?_, ?_⟩
  · have h := heap_set_same (i := 0) ((hgrow.block b (by simp; omega) (fun e => hap e.symm)).trans (heap_old hd o)) (.slice (some ⟨gg, 0, none⟩) (q + 1) cc)
    simpa using h
  · rw [secs_succ]
    exact ownsRow_setCell_other hown (by simpa [Value.ownBlock] using hne) _
  · exact ((hB.alloc (by omega) o).grown hgrow (by simp; omega) (fun k hk => (hO.lt k hk).1)).setCell (Nat.le_refl _) _
theorem new_end {w wr : World} {b N : Nat} {ao : Option Addr} {cp : Nat} (hN : N ≤ 4096) (hd : wr.heap[b]? = some (.cells #[.slice ao N cp, .bool false, .int .i64 0, .bool false] 127 (0, 0))) (hO : wr.ownsRow b 129 2 (.slice ao N cp) N (secs N)) (hB : Below b w wr) :
    ∃ g, DiskAt wr b b g (Dsk.new N) ∧ g < wr.heap.size ∧ Below b w wr := by
  have hlt := lt_of_block hd
  rcases hO.2 with ⟨hv, hs⟩ | ⟨g, cap, cur, hv, h1, h2, h3, h4, h5, h6⟩
  · have e1 : N = 0 := by
      cases hv
      rfl
    subst e1
    cases hv
    exact ⟨b, ⟨⟨none, 0, hd, by simp [Dsk.new], by simp [maxLen] at *, fun h => absurd h (by simp [Dsk.new])⟩, fun h => absurd h (by simp [Dsk.new]), Nat.le_refl _, Nat.le_refl _, by simp [Dsk.new], by simp [Dsk.new], fun i hi => absurd hi (by simp [Dsk.new])⟩, hlt, hB⟩
  · cases hv
    refine ⟨g, ⟨⟨_, cp, hd, h3, h4, fun _ => rfl⟩, fun h => ⟨cur, h2, fun i hi => ?_⟩, Nat.le_refl _, h1, hN, by simp [Dsk.new], fun i hi => ⟨nul_length, nul_length⟩⟩, lt_of_block h2, hB⟩
    have hi' : i < N := hi
    have hg : ∀ j, j < N * 2 → cur[j]? = some (.string (S nul)) := fun j hj => by
      have h7 := secs_get N j hj
      rw [← h6, List.getElem?_take, if_pos hj] at h7
      simpa using h7
    exact ⟨hg _ (by omega), hg _ (by omega)⟩

set_option maxRecDepth 100000 in
set_option maxHeartbeats 4000000 in
theorem disk_new (n : Int) (N : Nat) (w : World) (hN : min (max n 0) 4096 = (N : Int)) :
    Calls Tryd.prog 43 #[.int .i64 n] w fun e w' => e = .returned (.pointer (some ⟨w.heap.size, 0, none⟩)) ∧ ∃ g, DiskAt w' w.heap.size w.heap.size g (Dsk.new N) ∧ g < w'.heap.size ∧ Below w.heap.size w w' := by
  obtain ⟨i0, hi, hz0, hz1, hz2⟩ := info_parts Tryd.infoSector
  have hN2 : N ≤ 4096 := by omega
  go_enter Tryd.func43, Tryd.ntmps43
  go_wp2_with fail
  generalize hb : w.heap.size = b at *
  have hb0 := heap_newk (w := w) (k := b) (.cells #[.slice none 0 0, .bool false, .int .i64 0, .bool false] 127) hb.symm
  have hB0 : Below b w (w.alloc (.cells #[.slice none 0 0, .bool false, .int .i64 0, .bool false] 127)) := by rw [← hb]; exact (Below.refl _ _).alloc (Nat.le_refl _) _
  have hz0' : b + 1 ≤ (w.alloc (.cells #[.slice none 0 0, .bool false, .int .i64 0, .bool false] 127)).heap.size := by simp; omega
  generalize w.alloc (.cells #[.slice none 0 0, .bool false, .int .i64 0, .bool false] 127) = w0 at *
  have Hb0 := hid hb0
  have HB0 := hid hB0
  have Hb := hid hb
  clear hb0 hB0 hb hN
  go_loopw [9] (fun i wr => ∃ (q : Nat) (ao : Option Addr) (cp : Nat), q ≤ N ∧ i = .int .i64 q ∧ wr.heap[b]? = some (.cells #[.slice ao q cp, .bool false, .int .i64 0, .bool false] 127 (0, 0)) ∧ wr.ownsRow b 129 2 (.slice ao q cp) q (secs q) ∧ Below b w wr) (fun i _ => (N - intOf i).toNat)
  case atStart => exact ⟨0, none, 0, Nat.zero_le _, rfl, Hb0.out, World.ownsRow_nil _ _ _ _, HB0.out⟩
  case round =>
    obtain ⟨q, ao, cp, hq, rfl, hd, hO, hB⟩ := hrel
    have hlt := lt_of_block hd
    have hcd := cell_of_block hd 0
    have hap := own_ne hO hd (by decide)
    simp only [List.getElem?_toArray, List.getElem?_cons_zero] at hcd
    have Hd := hid hd
    have HO := hid hO
    have HB := hid hB
    have Hap := hid hap
    clear hd hO hB hap
    by_cases hqN : q < N
    · have d1 : decide (q < N) = true := by simp; omega
      have hlen1 : q + 1 ≤ maxLen := by unfold maxLen; omega
      have hb1 : (q + 1) * 32 ≤ 140737488355328 := by omega
      go_upto_region 4 with fail
      go_region_law (first
          | (go_simp; go_at_call 88; (with_reducible refine (blank_any wr.drew).mono ?_); rintro e w1 ⟨rfl, hB1⟩; have hd1 := (hB1.block b hlt).trans Hd.out; have k1 := cell_of_block hd1 0; simp only [List.getElem?_toArray, List.getElem?_cons_zero] at k1; have HB1 : Hid (Below wr.heap.size wr w1) := hid (Below.undrew hB1); have Hd1 := hid hd1; clear hB1 hd1)
          | (go_simp; go_at_call 88; (with_reducible refine (blank_any w1).mono ?_); rintro e w2 ⟨rfl, hB2⟩; have hB2' : Below wr.heap.size wr w2 := HB1.out.trans (hB2.mono HB1.out.size); have hd2 := (hB2'.block b hlt).trans Hd.out; have k2 := cell_of_block hd2 0; have f2 := free_of_block hd2 0; simp only [List.getElem?_toArray, List.getElem?_cons_zero] at k2; have hlt2 := lt_of_block hd2; have hbw2 : b ≤ w2.heap.size := (by omega); have HO2 := hid (own_below HO.out hB2'); have HB2 := hid hB2'; have Hd2 := hid hd2; clear hB2 hB2' hd2)
          | (refine step_append_lies _ (by rfl) _ _ _ (by rfl) b 129 i0 _ 2 32 Tryd.underlying125 hi hz0 hz1 hz2 rfl (by omega) (.slice ao q cp) q (secs q) (by rfl) (HO2.out.alloc _) ⟨w2.heap.size, 0, none⟩ 1 1 [.string (S nul), .string (S nul)] (by rfl) (by rfl) (World.news_of_block (cs := #[.string (S nul), .string (S nul)]) (t := 129) (fr := (0, 0)) (heap_alloc_new w2 _)) (by simp [Value.oneCell']) (by omega) hlen1 hb1 (by simp; omega) (w2.heap.size + 1) (by simp) ?_; intro gg cc w3 hown3 hgrow hat hlt3; have c3 := (hgrow.cell_far ⟨b, 0, none⟩ (by simp; omega) (fun e => Hap.out e.symm)).trans (cellA hlt2 k2 _); have f3 := (hgrow.frozen_far ⟨b, 0, none⟩ (by simp; omega) (fun e => Hap.out e.symm)).trans (frzA hlt2 f2 _); have Hown3 := hid hown3; have Hgrow := hid hgrow; have Hat := hid hat; clear hown3 hgrow hat))
      all_goals
        have Hst := hid (new_step (w := w) Hd2.out HO2.out Hap.out Hgrow.out Hown3.out Hat.out (HB.out.trans (HB2.out.mono (by omega))))
        go_wp2_with fail
        refine ⟨⟨q + 1, some ⟨gg, 0, none⟩, cc, by omega, by go_num, Hst.out.1, Hst.out.2.1, Hst.out.2.2⟩, by simp [intOf]; omega⟩
    · obtain rfl : q = N := by omega
      have d1 : decide (q < q) = false := by simp
      have Hend := hid (new_end hN2 Hd.out HO.out HB.out)
      go_wp2_with fail
      go_ret
      exact ⟨by rw [Hb.out]; rfl, by rw [Hb.out]; exact Hend.out⟩
end Go.Proofs.YtkmbbgnbklklcaaDoor
