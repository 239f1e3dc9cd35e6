/-
  Law 09: UndoPlays: the world's memory; its cells and its table as a state.
-/
import Derived.Test.YtmdcalkfapcafaaL09f
import Derived.Test.YtmdcalkfapcafaaSetRan
import Derived.Test.YtmdcalkfapcafaaMapInt
namespace Go.Proofs.Ytmdcalkfapcafaa
open Go.RowKit

theorem deep_any (b base : Nat) (v : Value) (fs : List Value) (d : Nat) (w : World) (h : LogAt w b base v fs d) :
    Calls Try.prog 30 #[.pointer (some ⟨b, 0, none⟩)] w fun e w' => e = .returned (.int .i64 d) ∧ w = w' := by
  have h1 := h.c1
  clear h
  go_enter Try.func30, Try.ntmps30
  go_wp2
  go_ret
  exact ⟨rfl, rfl⟩

/-- The world struct at block b: 0, 1 the Log; 2 .. 5 the cells; 6 the table; 7 at; 8 fine; 9 trys. -/
structure PInv (b bm : Nat) (K : Nat × Nat) (s : C4 × DataW Unit) (w : World) : Prop where
  cells : ∀ i, i < 4 → w.cell? ⟨b, 2 + i, none⟩ = some (.int .i64 (s.1 i))
  tab : w.cell? ⟨b, 6, none⟩ = some (.map (some bm))
  at' : w.cell? ⟨b, 7, none⟩ = some (.int .i64 (K.1 : Int))
  fine : w.cell? ⟨b, 8, none⟩ = some (.bool true)
  trys : w.cell? ⟨b, 9, none⟩ = some (.int .i64 (K.2 : Int))
  free : ∀ o, 2 ≤ o → w.frozen? ⟨b, o, none⟩ = false
  own : OwnM Try.prog 3 3 w bm s.2
  size : Maps.size s.2 ≤ 1000
def PD (b bm k : Nat) : Prop := k = bm ∨ k = b
theorem pInv_stable (b bm : Nat) (hb : bm ≠ b) : Stable b (PD b bm) (PInv b bm) := fun K s w w' h hk ho => by
  refine ⟨fun i hi => (ho (2 + i) (by omega)).1.trans (h.cells i hi), (ho 6 (by omega)).1.trans h.tab, (ho 7 (by omega)).1.trans h.at', (ho 8 (by omega)).1.trans h.fine, (ho 9 (by omega)).1.trans h.trys, fun o h2 => (ho o h2).2.trans (h.free o h2), h.own.same (hk bm (.inl rfl) hb), h.size⟩

theorem pInv_cell (b bm : Nat) (hb : bm ≠ b) (i : Nat) (hi : i < 4) : Var b (PD b bm) (PInv b bm) ⟨b, 2 + i, none⟩ (fun s => s.1 i) (fun s y => (s.1.set i y, s.2)) := by
  refine ⟨rfl, .inr rfl, fun _ => by simp only []; omega, fun K s w h => ⟨h.cells i hi, h.free _ (by omega)⟩, fun K s w y h => ?_, fun s y => ?_⟩
  · have hne : ∀ o, o ≠ 2 + i → (w.setCell ⟨b, 2 + i, none⟩ (.int .i64 y)).cell? ⟨b, o, none⟩ = w.cell? ⟨b, o, none⟩ := fun o ho => World.cell?_setCell_other _ _ _ _ (by simp <;> omega)
    refine ⟨fun j hj => ?_, (hne 6 (by omega)).trans h.tab, (hne 7 (by omega)).trans h.at', (hne 8 (by omega)).trans h.fine, (hne 9 (by omega)).trans h.trys, fun o h2 => frzS (h.free o h2) _, h.own.same (Below.heap_setCell _ _ _ _ hb), h.size⟩
    by_cases hj2 : j = i
    · subst hj2
      refine (World.cell?_setCell_same _ _ _ (h.cells j hj)).trans ?_
      simp [C4.set]
    · refine (hne (2 + j) (by omega)).trans ((h.cells j hj).trans ?_)
      simp [C4.set, hj2]
  · have : (s.1.set i y).set i (s.1 i) = s.1 := by
      funext j
      by_cases hj : j = i <;> simp [C4.set, hj]
    show ((s.1.set i y).set i (s.1 i), s.2) = s
    rw [this]
theorem pInv_tab (b bm : Nat) (hb : bm ≠ b) : MVar b (PD b bm) (PInv b bm) Try.prog 3 3 bm (fun s => s.2) (fun s M => (s.1, M)) := by
  refine ⟨.inl rfl, hb, fun K s w h => World.block_lt_of_cell? _ _ h.tab, fun K s w h => ⟨h.own, h.size⟩, fun K s w w' M h hG hO hM => ?_, fun _ _ => rfl, fun _ _ => rfl⟩
  have hlt : b < w.heap.size := World.block_lt_of_cell? _ _ h.tab
  have hB := hG.block b hlt (fun e => hb (by simpa using e.symm))
  have hc : ∀ o, w'.cell? ⟨b, o, none⟩ = w.cell? ⟨b, o, none⟩ := fun o => World.cell?_of_block (a := ⟨b, o, none⟩) hB
  exact ⟨fun i hi => (hc _).trans (h.cells i hi), (hc _).trans h.tab, (hc _).trans h.at', (hc _).trans h.fine, (hc _).trans h.trys, fun o h2 => (World.frozen?_of_block (a := ⟨b, o, none⟩) hB).trans (h.free o h2), hO, hM⟩

end Go.Proofs.Ytmdcalkfapcafaa
