/-
  Law 04's awake.
-/
import Derived.Test.YtkmbbgnbklklcaaDoorL04b
namespace Go.Proofs.YtkmbbgnbklklcaaDoor
open Go.RowKit

def dw1 : Dsk := (Dsk.new 3).wrote 0 [97, 98]
def dw2 : Dsk := dw1.synced
def dw3 : Dsk := dw2.wrote 0 [120, 121, 122]
def dw4 : Dsk := dw3.wrote 3 []
def dw5 : Dsk := dw4.crash 1 (fun _ => 1)
theorem zero_add_at (b j : Nat) : (⟨b, 0, none⟩ : Addr).add j = ⟨b, j, none⟩ := by
  unfold Addr.add
  cases j <;> simp
/-- Since world w all but new blocks are as they were, and a disk lies there. -/
def DW (w : World) (B b g : Nat) (D : Dsk) (w' : World) : Prop := DiskAt w' B b g D ∧ Below B w w' ∧ g < w'.heap.size
theorem DW.at {w w' : World} {B b g : Nat} {D : Dsk} (h : DW w B b g D w') : DiskAt w' B b g D := h.1
theorem DW.g {w w' : World} {B b g : Nat} {D : Dsk} (h : DW w B b g D w') : g < w'.heap.size := h.2.2
theorem DW.b {w w' : World} {B b g : Nat} {D : Dsk} (h : DW w B b g D w') : b < w'.heap.size := h.1.lt
theorem DW.B {w w' : World} {B b g : Nat} {D : Dsk} (h : DW w B b g D w') : B ≤ w'.heap.size := by have := h.1.lt; have := h.1.hb; omega
theorem DW.below {w w' w2 : World} {B b g : Nat} {D : Dsk} (h : DW w B b g D w') (hB : Below w'.heap.size w' w2) : DW w B b g D w2 :=
  ⟨h.1.below hB, h.2.1.trans (hB.mono h.B), by have := h.2.2; have := hB.size; omega⟩
theorem DW.alloc {w w' : World} {B b g : Nat} {D : Dsk} (h : DW w B b g D w') (o : Obj) : DW w B b g D (w'.alloc o) := h.below ((Below.refl _ _).alloc (Nat.le_refl _) o)
theorem DW.ends {w w' w2 : World} {B b g : Nat} {D D2 : Dsk} (h : DW w B b g D w') (hE : DiskEnd w' B b g D2 w2) : DW w B b g D2 w2 :=
  ⟨hE.1, h.2.1.trans (hE.below h.B), by have := h.2.2; have := hE.2.size; omega⟩
theorem DiskAt.weak {w : World} {B B' b g : Nat} {D : Dsk} (h : DiskAt w B b g D) (hB : B' ≤ B) : DiskAt w B' b g D := ⟨h.head, h.row, Nat.le_trans hB h.hb, Nat.le_trans hB h.hg, h.small, h.big, h.len⟩
theorem DW.new {w w1 w2 : World} {g n : Nat} (hB1 : Below w.heap.size w w1) (hD : DiskAt w2 w1.heap.size w1.heap.size g (Dsk.new n)) (hg : g < w2.heap.size) (hB : Below w1.heap.size w1 w2) : DW w w.heap.size w1.heap.size g (Dsk.new n) w2 :=
  ⟨hD.weak hB1.size, hB1.trans (hB.mono hB1.size), hg⟩
theorem cutsNew {w : World} {b g : Nat} (n : Nat) (c : Array Value) (t : TypeId) (cs : Nat → Int) (hb : b < w.heap.size) (hg : g < w.heap.size) (hc : ∀ k, k < n → c[k]? = some (.int .i64 (cs k))) :
    CutsAt (w.alloc (.cells c t)) b g (some ⟨w.heap.size, 0, none⟩) n cs := fun _ => ⟨_, rfl, by simp; omega, by simp; omega, by simp, fun k hk => by
      rw [← hc k hk, zero_add_at]
      exact cell_of_block (heap_new w (.cells c t)) k⟩

end Go.Proofs.YtkmbbgnbklklcaaDoor
