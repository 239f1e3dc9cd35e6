/-
  Law 04's awake.
-/
import Derived.Test.YtkmbbgnbklklcaaL04b
namespace Go.Proofs.Ytkmbbgnbklklcaa
open Go.RowKit

def dw1 : Dsk := (Dsk.new 3).wrote 0 [97, 98]
def dw2 : Dsk := dw1.synced
def dw3 : Dsk := dw2.wrote 0 [120, 121, 122]
def dw4 : Dsk := dw3.wrote 3 []
def dw5 : Dsk := dw4.crash 1 (fun _ => 1)
theorem zero_add_at (b j : Nat) : (⟨b, 0, none⟩ : Addr).add j = ⟨b, j, none⟩ := by
  unfold Addr.add
  cases j <;> simp
/-- Since world w all but new blocks are as they were, and a disk lies there. -/
def DW (w : World) (B b g : Nat) (D : Dsk) (w' : World) : Prop := DiskAt w' B b g D ∧ Below B w w' ∧ g < w'.heap.size
theorem DW.at {w w' : World} {B b g : Nat} {D : Dsk} (h : DW w B b g D w') : DiskAt w' B b g D := h.1
theorem DW.g {w w' : World} {B b g : Nat} {D : Dsk} (h : DW w B b g D w') : g < w'.heap.size := h.2.2
theorem DW.b {w w' : World} {B b g : Nat} {D : Dsk} (h : DW w B b g D w') : b < w'.heap.size := h.1.lt
theorem DW.B {w w' : World} {B b g : Nat} {D : Dsk} (h : DW w B b g D w') : B ≤ w'.heap.size := by have := h.1.lt; have := h.1.hb; omega
theorem DW.below {w w' w2 : World} {B b g : Nat} {D : Dsk} (h : DW w B b g D w') (hB : Below w'.heap.size w' w2) : DW w B b g D w2 :=
  ⟨h.1.below hB, h.2.1.trans (hB.mono h.B), by have := h.2.2; have := hB.size; omega⟩
theorem DW.alloc {w w' : World} {B b g : Nat} {D : Dsk} (h : DW w B b g D w') (o : Obj) : DW w B b g D (w'.alloc o) := h.below ((Below.refl _ _).alloc (Nat.le_refl _) o)
theorem DW.ends {w w' w2 : World} {B b g : Nat} {D D2 : Dsk} (h : DW w B b g D w') (hE : DiskEnd w' B b g D2 w2) : DW w B b g D2 w2 :=
  ⟨hE.1, h.2.1.trans (hE.below h.B), by have := h.2.2; have := hE.2.size; omega⟩
theorem cutsNew {w : World} {b g : Nat} (n : Nat) (c : Array Value) (t : TypeId) (cs : Nat → Int) (hb : b < w.heap.size) (hg : g < w.heap.size) (hc : ∀ k, k < n → c[k]? = some (.int .i64 (cs k))) :
    CutsAt (w.alloc (.cells c t)) b g (some ⟨w.heap.size, 0, none⟩) n cs := fun _ => ⟨_, rfl, by simp; omega, by simp; omega, by simp, fun k hk => by
      rw [← hc k hk, zero_add_at]
      exact cell_of_block (heap_new w (.cells c t)) k⟩

set_option maxRecDepth 100000 in
theorem awake04 (w : World) : Calls Try.prog 12 #[] w fun e w' => e = .returned (.bool true) ∧ Below w.heap.size w w' := by
  have e1 : (Dsk.new 3).wErr 0 [97, 98] = 0 := by decide +kernel
  have e2 : dw1.syncErr = 0 := by decide +kernel
  have e3 : dw2.wErr 0 [120, 121, 122] = 0 := by decide +kernel
  have e4 : dw3.wErr 3 [] = 6 := by decide +kernel
  have e5 : dw5.rErr 0 = 0 := by decide +kernel
  have e6 : (dw5.rText 0).length = 64 := by decide +kernel
  have e7 : (dw5.rText 0).take 3 = [120, 98, 0] := by decide +kernel
  have hs : (S (dw5.rText 0)).size = 64 := by rw [S_size, e6]
  have hx : (S (dw5.rText 0)).extract 0 3 = ⟨#[120, 98, 0]⟩ := by rw [S_take, e7]; rfl
  go_enter Try.func12, Try.ntmps12
  go_wp2_with fail
  refine (disk_new 3 3 w (by decide)).mono ?_
  rintro e w1 ⟨rfl, g, hD, hg, hB⟩
  generalize hb : w.heap.size = b at *
  have H1 : Hid (DW w b b g (Dsk.new 3) w1) := hid ⟨hD, hB, hg⟩
  clear hD hg hB
  go_wp2_with fail
  refine (disk_len w1 H1.out.at).mono ?_
  rintro e w2 ⟨rfl, hB⟩
  have H2 := hid (H1.out.below hB)
  have hn : (Dsk.new 3).n = 3 := rfl
  clear hB
  go_wp2_with fail
  have h := write_any 0 [97, 98] w2 H2.out.at H2.out.g (by decide)
  rw [e1] at h
  refine h.mono ?_
  rintro e w3 ⟨rfl, hE⟩
  have H3 : Hid (DW w b b g dw1 w3) := hid (H2.out.ends hE)
  clear hE h
  go_wp2_with fail
  have h := sync_any w3 H3.out.at H3.out.g
  rw [e2] at h
  refine h.mono ?_
  rintro e w4 ⟨rfl, hE⟩
  have H4 : Hid (DW w b b g dw2 w4) := hid (H3.out.ends hE)
  clear hE h
  go_wp2_with fail
  have h := write_any 0 [120, 121, 122] w4 H4.out.at H4.out.g (by decide)
  rw [e3] at h
  refine h.mono ?_
  rintro e w5 ⟨rfl, hE⟩
  have H5 : Hid (DW w b b g dw3 w5) := hid (H4.out.ends hE)
  clear hE h
  go_wp2_with fail
  have h := write_any 3 [] w5 H5.out.at H5.out.g (by decide)
  rw [e4] at h
  refine h.mono ?_
  rintro e w6 ⟨rfl, hE⟩
  have H6 : Hid (DW w b b g dw4 w6) := hid (H5.out.ends hE)
  clear hE h
  have Hb := hid hb
  clear hb e1 e2 e3 e4
  go_wp2_with fail
  have hcu := cutsNew (w := w6) 1 #[.int .i64 1] 3 (fun _ => 1) H6.out.b H6.out.g (by intro k hk; obtain rfl : k = 0 := (by omega); rfl)
  refine (disk_crash _ (H6.out.alloc (.cells #[.int .i64 1] 3)).at _ 1 1 _ hcu).mono ?_
  rintro e w7 ⟨rfl, hE⟩
  have H7 : Hid (DW w b b g dw5 w7) := hid ((H6.out.alloc _).ends hE)
  clear hE hcu
  go_wp2_with fail
  have h := lread_any 0 w7 H7.out.at
  rw [e5] at h
  refine h.mono ?_
  rintro e w8 ⟨rfl, hB⟩
  have H8 := hid (H7.out.below hB)
  clear hB h e5
  generalize dw5.rText 0 = T at *
  go_wp2_with fail
  go_ret
  exact ⟨rfl, by rw [Hb.out]; exact H8.out.2.1⟩
end Go.Proofs.Ytkmbbgnbklklcaa
