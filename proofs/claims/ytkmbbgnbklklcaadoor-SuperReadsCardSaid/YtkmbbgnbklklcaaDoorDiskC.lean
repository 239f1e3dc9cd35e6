/-
  Package disk: Write, Sync.
-/
import Derived.Test.YtkmbbgnbklklcaaDoorDiskB
namespace Go.Proofs.YtkmbbgnbklklcaaDoor
open Go.RowKit

def upd (f : Nat → List UInt8) (i : Nat) (s : List UInt8) : Nat → List UInt8 := fun j => if j = i then s else f j
theorem DiskAt.setNow {w : World} {B b g : Nat} {D : Dsk} (h : DiskAt w B b g D) {i : Nat} (hi : i < D.n) {s : List UInt8} (hs : s.length = 64) :
    DiskEnd w B b g { D with now := upd D.now i s } (w.setCell ⟨g, i * 2 + 1, none⟩ (.string (S s))) := by
  have hne := h.ne (by omega)
  obtain ⟨ao, cap, h1, h2⟩ := h.head
  refine ⟨⟨⟨ao, cap, heap_set_other h1 (p := ⟨g, i * 2 + 1, none⟩) (fun e => hne e.symm) _, h2⟩, fun h0 => ?_, h.hb, h.hg, h.small, h.big, fun j hj => ⟨(h.len j hj).1, ?_⟩⟩, (Fr.refl (dfoot b g) w).setCell (p := ⟨g, i * 2 + 1, none⟩) (fun _ => .inr rfl) _⟩
  · obtain ⟨cur, h3, h4⟩ := h.row h0
    refine ⟨_, heap_set_same (i := i * 2 + 1) h3 _, fun j hj => ?_⟩
    have hb : i * 2 + 1 < cur.size := by have := (h4 i hi).2; exact (Array.getElem?_eq_some_iff.mp this).1
    simp only [Array.getElem?_setIfInBounds, upd]
    have h5 := h4 j hj
    by_cases hji : j = i
    · subst hji
      rw [if_neg (by omega), if_pos rfl, if_pos hb, if_pos rfl]
      exact ⟨h5.1, rfl⟩
    · rw [if_neg (by omega), if_neg (by omega), if_neg hji]
      exact h5
  · show (upd D.now i s j).length = 64
    unfold upd
    split
    · exact hs
    · exact (h.len j hj).2
theorem DiskAt.setSure {w : World} {B b g : Nat} {D : Dsk} (h : DiskAt w B b g D) {i : Nat} (hi : i < D.n) {s : List UInt8} (hs : s.length = 64) :
    DiskEnd w B b g { D with sure := upd D.sure i s } (w.setCell ⟨g, i * 2, none⟩ (.string (S s))) := by
  have hne := h.ne (by omega)
  obtain ⟨ao, cap, h1, h2⟩ := h.head
  refine ⟨⟨⟨ao, cap, heap_set_other h1 (p := ⟨g, i * 2, none⟩) (fun e => hne e.symm) _, h2⟩, fun h0 => ?_, h.hb, h.hg, h.small, h.big, fun j hj => ⟨?_, (h.len j hj).2⟩⟩, (Fr.refl (dfoot b g) w).setCell (p := ⟨g, i * 2, none⟩) (fun _ => .inr rfl) _⟩
  · obtain ⟨cur, h3, h4⟩ := h.row h0
    refine ⟨_, heap_set_same (i := i * 2) h3 _, fun j hj => ?_⟩
    have hb : i * 2 < cur.size := by have := (h4 i hi).1; exact (Array.getElem?_eq_some_iff.mp this).1
    simp only [Array.getElem?_setIfInBounds, upd]
    have h5 := h4 j hj
    by_cases hji : j = i
    · subst hji
      refine ⟨by rw [if_pos rfl, if_pos hb, if_pos rfl], ?_⟩
      rw [if_neg (show ¬ j * 2 = j * 2 + 1 from by omega)]
      exact h5.2
    · refine ⟨?_, ?_⟩
      · rw [if_neg (show ¬ i * 2 = j * 2 from by omega), if_neg hji]
        exact h5.1
      · rw [if_neg (show ¬ i * 2 = j * 2 + 1 from by omega)]
        exact h5.2
  · show (upd D.sure i s j).length = 64
    unfold upd
    split
    · exact hs
    · exact (h.len j hj).1

/-- Filled up with noughts. -/
def pad (s : List UInt8) : List UInt8 := s ++ List.replicate (64 - s.length) 0
theorem pad_length {s : List UInt8} (h : s.length ≤ 64) : (pad s).length = 64 := by simp [pad]; omega
theorem Below.fr {w w' : World} (h : Below w.heap.size w w') (T : Nat → Prop) : Fr T w w' := Fr.ofBelow h T

theorem write_ok {B b g : Nat} {D : Dsk} (i : Nat) (s : List UInt8) (w : World) (h : DiskAt w B b g D) (hf : D.fit) (hi : i < D.n) (hs : s.length ≤ 64) :
    Calls Tryd.prog 96 #[.pointer (some ⟨b, 0, none⟩), .int .i64 i, .string (S s)] w fun e w' => e = .returned (.tuple #[]) ∧ DiskEnd w B b g { D.less with now := upd D.now i (pad s) } w' := by
  have H := hid h
  clear h
  go_enter Tryd.func96, Tryd.ntmps96
  go_wp2_with fail
  refine (alive_ok w H.out hf.1).mono ?_
  rintro e w1 ⟨rfl, hw⟩
  subst hw
  go_wp2_with fail
  refine (check_ok (i : Int) _ H.out (by omega) (by omega)).mono ?_
  rintro e w1 ⟨rfl, hB1⟩
  have HB1 := hid hB1
  clear hB1
  go_wp2_with fail
  have HO2 := hid (OutW.new w1)
  have HB2 := hid ((Below.refl w1.heap.size w1).alloc (Nat.le_refl _) (.cells #[.slice none 0 0] 43))
  generalize w1.alloc (.cells #[.slice none 0 0] 43) = w2 at *
  generalize hN : w1.heap.size = N at *
  have HN := hid hN
  clear hN
  go_wp2_with fail
  refine (ow_text N _ s w2 HO2.out (by simp; omega)).mono ?_
  rintro e w3 ⟨rfl, hO3, hB3⟩
  have HO3 := hid hO3
  have HB3 := hid (HB2.out.trans hB3)
  clear hO3 hB3
  go_wp2_with fail
  refine (ow_fill N _ 64 64 rfl w3 HO3.out (by simp; omega) (by decide)).mono ?_
  rintro e w4 ⟨rfl, hO4, hB4⟩
  have HO4 := hid hO4
  have HB4 := hid (HB3.out.trans hB4)
  clear hO4 hB4
  rw [List.nil_append, show s ++ List.replicate (64 - s.length) 0 = pad s from rfl] at HO4
  go_wp2_with fail
  refine (ow_bytes N _ w4 HO4.out).mono ?_
  rintro e w' ⟨rfl, rfl⟩
  go_wp2_with fail
  have hB4' : Below w.heap.size w w4 := HB1.out.trans ((by rw [HN.out]; exact HB4.out : Below w1.heap.size w1 w4).mono HB1.out.size)
  have hD4 := H.out.below hB4'
  have HB4' := hid hB4'
  refine (spend_ok w4 hD4 hf).mono ?_
  rintro e w5 ⟨rfl, hE5⟩
  obtain ⟨ao, cap, h1, h2, h3, h4⟩ := hE5.1.head
  have hn : D.less.n = D.n := rfl
  have hao := h4 (by omega)
  subst hao
  obtain ⟨cur, h5, h6⟩ := hE5.1.row (by omega)
  have c0 := cell_of_block h1 0
  have c1 := cell_of_block h5 (i * 2 + 1)
  have f1 := free_of_block h5 (i * 2 + 1)
  simp only [List.getElem?_toArray, List.getElem?_cons_zero, (h6 i (by omega)).2] at c0 c1
  have HE5 := hid hE5
  rw [hn] at c0
  clear h1 h2 h3 h4 h5 h6 hE5 hB4' hD4
  go_wp2_with fail
  go_end0
  have hi' : i < D.less.n := hi
  have hE := HE5.out.1.setNow hi' (pad_length hs)
  exact ⟨rfl, hE.1, ((Fr.ofBelow HB4'.out _).trans HE5.out.2 (fun _ _ h => h)).trans hE.2 (fun _ _ h => h)⟩

theorem write_dead {B b g : Nat} {D : Dsk} (i : Int) (s : ByteArray) (w : World) (h : DiskAt w B b g D) (hd : D.dead = true) :
    Calls Tryd.prog 96 #[.pointer (some ⟨b, 0, none⟩), .int .i64 i, .string s] w fun e w' => e = .panicked (fault 12) ∧ Below w.heap.size w w' := by
  go_enter Tryd.func96, Tryd.ntmps96
  go_wp2_with fail
  refine (alive_dead w h hd).mono ?_
  rintro e w1 ⟨rfl, hw⟩
  subst hw
  exact ⟨rfl, rfl, Below.refl _ _⟩
theorem write_out {B b g : Nat} {D : Dsk} (i : Int) (s : ByteArray) (w : World) (h : DiskAt w B b g D) (hd : D.dead = false) (hi : i < 0 ∨ D.n ≤ i) :
    Calls Tryd.prog 96 #[.pointer (some ⟨b, 0, none⟩), .int .i64 i, .string s] w fun e w' => e = .panicked (fault 6) ∧ Below w.heap.size w w' := by
  go_enter Tryd.func96, Tryd.ntmps96
  go_wp2_with fail
  refine (alive_ok w h hd).mono ?_
  rintro e w1 ⟨rfl, hw⟩
  subst hw
  go_wp2_with fail
  refine (check_bad i _ h hi).mono ?_
  rintro e w1 ⟨rfl, hB⟩
  exact ⟨rfl, rfl, hB⟩

theorem write_big {B b g : Nat} {D : Dsk} (i : Nat) (s : List UInt8) (w : World) (h : DiskAt w B b g D) (hd : D.dead = false) (hi : i < D.n) (hs : 64 < s.length) (hl : s.length ≤ 100000000) :
    Calls Tryd.prog 96 #[.pointer (some ⟨b, 0, none⟩), .int .i64 i, .string (S s)] w fun e w' => e = .panicked (fault 3) ∧ Below w.heap.size w w' := by
  have H := hid h
  clear h
  go_enter Tryd.func96, Tryd.ntmps96
  go_wp2_with fail
  refine (alive_ok w H.out hd).mono ?_
  rintro e w1 ⟨rfl, hw⟩
  subst hw
  go_wp2_with fail
  refine (check_ok (i : Int) _ H.out (by omega) (by omega)).mono ?_
  rintro e w1 ⟨rfl, hB1⟩
  have HB1 := hid hB1
  clear hB1
  go_wp2_with fail
  have HO2 := hid (OutW.new w1)
  have HB2 := hid ((Below.refl w1.heap.size w1).alloc (Nat.le_refl _) (.cells #[.slice none 0 0] 43))
  generalize w1.alloc (.cells #[.slice none 0 0] 43) = w2 at *
  generalize hN : w1.heap.size = N at *
  have HN := hid hN
  clear hN
  go_wp2_with fail
  refine (ow_text N _ s w2 HO2.out (by simp; omega)).mono ?_
  rintro e w3 ⟨rfl, hO3, hB3⟩
  have HO3 := hid hO3
  have HB3 := hid (HB2.out.trans hB3)
  clear hO3 hB3
  go_wp2_with fail
  refine (ow_fill_big N _ 64 w3 HO3.out (by simp; omega)).mono ?_
  rintro e w' ⟨rfl, rfl⟩
  exact ⟨rfl, rfl, HB1.out.trans ((by rw [HN.out]; exact HB3.out : Below w1.heap.size w1 w3).mono HB1.out.size)⟩

theorem write_cut {B b g : Nat} {D : Dsk} (i : Nat) (s : List UInt8) (w : World) (h : DiskAt w B b g D) (hd : D.dead = false) (hf : ¬ D.fit) (hi : i < D.n) (hs : s.length ≤ 64) :
    Calls Tryd.prog 96 #[.pointer (some ⟨b, 0, none⟩), .int .i64 i, .string (S s)] w fun e w' => e = .panicked (fault 12) ∧ DiskEnd w B b g D.cut w' := by
  have H := hid h
  clear h
  go_enter Tryd.func96, Tryd.ntmps96
  go_wp2_with fail
  refine (alive_ok w H.out hd).mono ?_
  rintro e w1 ⟨rfl, hw⟩
  subst hw
  go_wp2_with fail
  refine (check_ok (i : Int) _ H.out (by omega) (by omega)).mono ?_
  rintro e w1 ⟨rfl, hB1⟩
  have HB1 := hid hB1
  clear hB1
  go_wp2_with fail
  have HO2 := hid (OutW.new w1)
  have HB2 := hid ((Below.refl w1.heap.size w1).alloc (Nat.le_refl _) (.cells #[.slice none 0 0] 43))
  generalize w1.alloc (.cells #[.slice none 0 0] 43) = w2 at *
  generalize hN : w1.heap.size = N at *
  have HN := hid hN
  clear hN
  go_wp2_with fail
  refine (ow_text N _ s w2 HO2.out (by simp; omega)).mono ?_
  rintro e w3 ⟨rfl, hO3, hB3⟩
  have HO3 := hid hO3
  have HB3 := hid (HB2.out.trans hB3)
  clear hO3 hB3
  go_wp2_with fail
  refine (ow_fill N _ 64 64 rfl w3 HO3.out (by simp; omega) (by decide)).mono ?_
  rintro e w4 ⟨rfl, hO4, hB4⟩
  have HO4 := hid hO4
  have HB4 := hid (HB3.out.trans hB4)
  clear hO4 hB4
  go_wp2_with fail
  refine (ow_bytes N _ w4 HO4.out).mono ?_
  rintro e w' ⟨rfl, rfl⟩
  go_wp2_with fail
  have hB4' : Below w.heap.size w w4 := HB1.out.trans ((by rw [HN.out]; exact HB4.out : Below w1.heap.size w1 w4).mono HB1.out.size)
  have hD4 := H.out.below hB4'
  refine (spend_bad w4 hD4 hf).mono ?_
  rintro e w5 ⟨rfl, hE5⟩
  exact ⟨rfl, rfl, hE5.1, (Fr.ofBelow hB4' _).trans hE5.2 (fun _ _ h => h)⟩

/-- The first q sectors are sure. -/
def Dsk.upTo (D : Dsk) (q : Nat) : Dsk := { D with sure := fun i => if i < q then D.now i else D.sure i }
theorem upTo_succ (D : Dsk) (q : Nat) : { D.upTo q with sure := upd (D.upTo q).sure q (D.now q) } = D.upTo (q + 1) := by
  have : upd (D.upTo q).sure q (D.now q) = (D.upTo (q + 1)).sure := by
    funext j
    simp only [upd, Dsk.upTo]
    by_cases h : j = q
    · subst h; simp
    · rw [if_neg h]
      by_cases h2 : j < q
      · rw [if_pos h2, if_pos (by omega)]
      · rw [if_neg h2, if_neg (by omega)]
  rw [this]
  rfl
theorem upTo_zero (D : Dsk) : D.upTo 0 = D := by simp [Dsk.upTo]
theorem sync_bad {B b g : Nat} {D : Dsk} (w : World) (h : DiskAt w B b g D) (hf : ¬ D.fit) :
    Calls Tryd.prog 97 #[.pointer (some ⟨b, 0, none⟩)] w fun e w' => e = .panicked (fault 12) ∧ DiskEnd w B b g D.cut w' := by
  go_enter Tryd.func97, Tryd.ntmps97
  go_wp2_with fail
  refine (spend_bad w h hf).mono ?_
  rintro e w5 ⟨rfl, hE5⟩
  exact ⟨rfl, rfl, hE5⟩
set_option maxRecDepth 100000 in
theorem sync_ok {B b g : Nat} {D : Dsk} (w : World) (h : DiskAt w B b g D) (hf : D.fit) :
    Calls Tryd.prog 97 #[.pointer (some ⟨b, 0, none⟩)] w fun e w' => e = .returned (.tuple #[]) ∧ DiskEnd w B b g { D.less with sure := fun i => if i < D.n then D.now i else D.sure i } w' := by
  go_enter Tryd.func97, Tryd.ntmps97
  go_wp2_with fail
  refine (spend_ok w h hf).mono ?_
  rintro e w1 ⟨rfl, hE1⟩
  have hsm := hE1.1.small
  have hn : D.less.n = D.n := rfl
  obtain ⟨ao, cap, h1, h2⟩ := hE1.1.head
  have c0 := cell_of_block h1 0
  simp only [List.getElem?_toArray, List.getElem?_cons_zero] at c0
  have HE1 := hid hE1
  rw [hn] at c0
  clear h1 h hE1 h2
  go_wp2_with fail
  go_loopw [10] (fun i wr => ∃ q : Nat, q ≤ D.n ∧ i = .int .i64 q ∧ DiskEnd w B b g (D.less.upTo q) wr) (fun i _ => (D.n - intOf i).toNat)
  case atStart => exact ⟨0, Nat.zero_le _, rfl, by rw [upTo_zero]; exact HE1.out⟩
  case round =>
    obtain ⟨q, hq, rfl, hE⟩ := hrel
    by_cases hqN : q < D.n
    · have d1 : decide (q < D.n) = true := by simp; omega
      obtain ⟨ao, cap, h1, h2, h3, h4⟩ := hE.1.head
      have hn' : (D.less.upTo q).n = D.n := rfl
      have hao := h4 (by omega)
      subst hao
      obtain ⟨cur, h5, h6⟩ := hE.1.row (by omega)
      have k0 := cell_of_block h1 0
      have k1 := cell_of_block h5 (q * 2 + 1)
      have k2 := cell_of_block h5 (q * 2)
      have f2 := free_of_block h5 (q * 2)
      simp only [List.getElem?_toArray, List.getElem?_cons_zero, (h6 q (by omega)).2, (h6 q (by omega)).1] at k0 k1 k2
      rw [hn'] at k0
      have HE := hid hE
      clear h1 h2 h3 h4 h5 h6 hE HE1
      go_wp2_with fail
      have hlen : (D.now q).length = 64 := (HE.out.1.len q hqN).2
      have HS : Hid (DiskEnd wr B b g (D.less.upTo (q + 1)) (wr.setCell ⟨g, q * 2, none⟩ (.string (S (D.now q))))) :=
        hid (cast (congrArg (fun X => DiskEnd wr B b g X (wr.setCell ⟨g, q * 2, none⟩ (.string (S (D.now q))))) (upTo_succ D.less q)) (HE.out.1.setSure (i := q) hqN hlen))
      have HE' := hid (HE.out.trans HS.out)
      go_region_law fail
      all_goals
        go_wp2_with fail
        exact ⟨⟨q + 1, by omega, by go_num, HE'.out.1.drew, HE'.out.2.drew⟩, by simp [intOf]; omega⟩
    · obtain rfl : q = D.n := by omega
      have d1 : decide (D.n < D.n) = false := by simp
      have HE := hid hE
      go_wp2_with fail
      go_end0
      exact ⟨rfl, HE.out⟩
end Go.Proofs.YtkmbbgnbklklcaaDoor
