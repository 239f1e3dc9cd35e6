/-
  Contracts of undo.Set at one type.
-/
import Derived.Test.YtmdcalkfapcafaaLog
namespace Go.Proofs.Ytmdcalkfapcafaa
open Go.RowKit

theorem setInt_enters (a c : Value) : ∀ w : World, (callFunc 47 #[a, c]).run Try.prog w = .ok (.enter 47 #[a, c]) w := fun w => by kernel_rfl

/-- The step back: the variable has its old value again. -/
theorem setInt_undo (bw ba : Nat) (p : Addr) (x : Int) (y : Int) (w : World) (hw : w.heap[bw]? = some (.cells #[(.int .i64 x)] 3 (0, 0))) (ha : w.heap[ba]? = some (.cells #[.pointer (some p)] 72 (0, 0))) (hp : w.cell? p = some (.int .i64 y)) (hf : w.frozen? p = false) :
    Calls Try.prog 47 #[.pointer (some ⟨bw, 0, none⟩), .pointer (some ⟨ba, 0, none⟩)] w fun e w' => e = .returned (.tuple #[]) ∧ w.setCell p (.int .i64 x) = w' := by
  have c1 := cell_of_one hw
  have c2 := cell_of_one ha
  clear hw ha
  go_enter Try.func47, Try.ntmps47
  go_wp2
  go_end0
  exact ⟨rfl, rfl⟩

set_option maxHeartbeats 400000 in
theorem setInt_some (b base : Nat) (v : Value) (fs : List Value) (d : Nat) (p : Addr) (x : Int) (y : Int) (w : World) (h : LogAt w b base v fs d) (hd : 0 < d) (hl : fs.length ≤ 1000000) (hbase : base ≤ w.heap.size)
    (hp : w.cell? p = some (.int .i64 x)) (hf : w.frozen? p = false) (hpb : p.block ≠ b ∨ 1 < p.off) (hsp : p.spot = none) (hpr : v.ownBlock ≠ some p.block) :
    Calls Try.prog 35 #[.pointer (some ⟨b, 0, none⟩), .pointer (some p), (.int .i64 y)] w fun e w' => e = .returned (.tuple #[]) ∧
      ∃ v' bw ba w1, LogAt w1 b base v' (fs ++ [closure 47 #[.pointer (some ⟨bw, 0, none⟩), .pointer (some ⟨ba, 0, none⟩)]]) d ∧ LMoved w v v' ∧ Fr (logs b v) w w1 ∧
        w.heap.size ≤ bw ∧ w.heap.size ≤ ba ∧ w1.heap[bw]? = some (.cells #[(.int .i64 x)] 3 (0, 0)) ∧ w1.heap[ba]? = some (.cells #[.pointer (some p)] 72 (0, 0)) ∧ Rest b w w1 ∧ some bw ≠ v'.ownBlock ∧ some ba ≠ v'.ownBlock ∧ w1.setCell p (.int .i64 y) = w' := by
  obtain ⟨pb, po, ps⟩ := p
  simp only [] at hsp hpb hpr
  subst hsp
  have hb := h.lt
  have hpl := World.block_lt_of_cell? _ _ hp
  simp only [] at hpl
  have H := hid h
  have Hp := hid hp
  clear h
  go_enter Try.func35, Try.ntmps35
  go_wp2_with fail
  have hLa : LogAt ((w.alloc (.cells #[.pointer (some ⟨pb, po, none⟩)] 72)).alloc (.cells #[(.int .i64 x)] 3)) b base v fs d := H.out.fr (((Fr.refl (fun _ => False) w).alloc _).alloc _) id (fun _ _ => id)
  refine (back_some b base v fs d _ _ _ hLa hd hl (by simp; omega)).mono ?_
  rintro e w2 ⟨rfl, v', hL, hM, hF, hR⟩
  have hrow : ∀ k, k < w.heap.size + 1 + 1 → w.heap.size ≤ k → some k ≠ v.ownBlock := by
    intro k _ h2 e
    have := H.out.own.lt k e.symm
    omega
  have hba := hF.heap (heap_old (heap_new w (.cells #[.pointer (some ⟨pb, po, none⟩)] 72)) _) (fun hs => hs.elim (fun e => by omega) (fun e => hrow _ (by omega) (Nat.le_refl _) e))
  have hbw := hF.heap (heap_newk (w := w.alloc (.cells #[.pointer (some ⟨pb, po, none⟩)] 72)) (k := w.heap.size + 1) (.cells #[(.int .i64 x)] 3) (by simp)) (fun hs => hs.elim (fun e => by omega) (fun e => hrow _ (by omega) (by omega) e))
  have hpc : w2.cell? ⟨pb, po, none⟩ = some (.int .i64 x) ∧ w2.frozen? ⟨pb, po, none⟩ = false := by
    rcases hpb with hne | hpo
    · have hB := hF.block pb (by simp; omega) (fun hs => hs.elim (fun e => hne e) (fun e => hpr e.symm))
      exact ⟨(World.cell?_of_block (a := ⟨pb, po, none⟩) hB).trans (cellA (by simp; omega) (cellA hpl hp _) _), (World.frozen?_of_block (a := ⟨pb, po, none⟩) hB).trans (frzA (by simp; omega) (frzA hpl hf _) _)⟩
    · by_cases hne : pb = b
      · subst hne
        have := hR po (by omega)
        exact ⟨this.1.trans (cellA (by simp; omega) (cellA hpl hp _) _), this.2.trans (frzA (by simp; omega) (frzA hpl hf _) _)⟩
      · have hB := hF.block pb (by simp; omega) (fun hs => hs.elim (fun e => hne e) (fun e => hpr e.symm))
        exact ⟨(World.cell?_of_block (a := ⟨pb, po, none⟩) hB).trans (cellA (by simp; omega) (cellA hpl hp _) _), (World.frozen?_of_block (a := ⟨pb, po, none⟩) hB).trans (frzA (by simp; omega) (frzA hpl hf _) _)⟩
  obtain ⟨hpc, hpf⟩ := hpc
  have c2 := cell_of_one hba
  have HL := hid hL
  have HM := hid hM
  have HF := hid hF
  have HR := hid hR
  have Hba := hid hba
  have Hbw := hid hbw
  clear hL hM hF hR hba hbw hp hf hpb hrow hLa
  go_wp2
  go_end0
  have hvl : ∀ k, some k = v.ownBlock → k < w.heap.size := fun k hk => (H.out.own.lt k hk.symm).2
  have hnot : ∀ k, w.heap.size ≤ k → k < w.heap.size + 2 → some k ≠ v'.ownBlock := fun k h1 h2 e => by
    rcases HM.out k e.symm with h | h
    · have := hvl k h.symm; omega
    · simp at h; omega
  refine ⟨rfl, v', w.heap.size + 1, w.heap.size, w2, HL.out, ?_, ?_, by omega, Nat.le_refl _, Hbw.out, Hba.out, ?_, hnot _ (by omega) (by omega), hnot _ (by omega) (by omega), rfl⟩
  · intro k hk
    rcases HM.out k hk with h | h
    · exact .inl h
    · exact .inr (by simp at h; omega)
  · exact (((Fr.refl (logs b v) w).alloc _).alloc _).trans HF.out (fun _ _ h => h)
  · intro o ho
    exact ⟨(HR.out o ho).1.trans (by rw [World.cell?_alloc_past _ _ _ (by simp; omega), World.cell?_alloc_past _ _ _ hb]), (HR.out o ho).2.trans (by rw [World.frozen?_alloc_past _ _ _ (by simp; omega), World.frozen?_alloc_past _ _ _ hb])⟩

end Go.Proofs.Ytmdcalkfapcafaa
