/-
  Package disk: Len, Arm, Dead, alive, spend, check, Read.
-/
import Derived.Test.YtkmbbgnbklklcaaDoorDiskA
namespace Go.Proofs.YtkmbbgnbklklcaaDoor
open Go.RowKit

/-- The head is another one. -/
theorem DiskAt.turn {w w' : World} {B b g : Nat} {D : Dsk} (h : DiskAt w B b g D) (hF : Fr (fun k => k = b) w w') (ar de : Bool) (lf : Nat) (hl : lf ≤ 9223372036854775807)
    (h1 : ∀ ao cap, w.heap[b]? = some (.cells #[.slice ao D.n cap, .bool D.armed, .int .i64 (D.left : Int), .bool D.dead] 127 (0, 0)) → w'.heap[b]? = some (.cells #[.slice ao D.n cap, .bool ar, .int .i64 (lf : Int), .bool de] 127 (0, 0))) :
    DiskAt w' B b g { D with armed := ar, left := lf, dead := de } ∧ Fr (dfoot b g) w w' := by
  obtain ⟨ao, cap, h2, h3⟩ := h.head
  refine ⟨⟨⟨ao, cap, h1 _ _ h2, h3⟩, fun h0 => ?_, h.hb, h.hg, h.small, hl, h.len⟩, hF.mono fun k _ e => .inl e⟩
  obtain ⟨cur, h4, h5⟩ := h.row h0
  exact ⟨cur, hF.heap h4 (h.ne h0), h5⟩

theorem disk_len {B b g : Nat} {D : Dsk} (w : World) (h : DiskAt w B b g D) :
    Calls Tryd.prog 124 #[.pointer (some ⟨b, 0, none⟩)] w fun e w' => e = .returned (.int .i64 (D.n : Int)) ∧ Below w.heap.size w w' := by
  obtain ⟨ao, cap, h1, h2⟩ := h.head
  have c0 := cell_of_block h1 0
  simp only [List.getElem?_toArray, List.getElem?_cons_zero] at c0
  clear h1 h
  go_enter Tryd.func124, Tryd.ntmps124
  go_wp2_with fail
  go_ret
  exact ⟨rfl, Below.refl _ _⟩



theorem alive_ok {B b g : Nat} {D : Dsk} (w : World) (h : DiskAt w B b g D) (hd : D.dead = false) :
    Calls Tryd.prog 121 #[.pointer (some ⟨b, 0, none⟩)] w fun e w' => e = .returned (.tuple #[]) ∧ w = w' := by
  obtain ⟨ao, cap, h1, h2⟩ := h.head
  have c0 := cell_of_block h1 3
  simp only [List.getElem?_toArray, List.getElem?_cons_zero, List.getElem?_cons_succ, hd] at c0
  clear h1 h
  go_enter Tryd.func121, Tryd.ntmps121
  go_wp2_with fail
  go_end0
  exact ⟨rfl, rfl⟩
theorem alive_dead {B b g : Nat} {D : Dsk} (w : World) (h : DiskAt w B b g D) (hd : D.dead = true) :
    Calls Tryd.prog 121 #[.pointer (some ⟨b, 0, none⟩)] w fun e w' => e = .panicked (fault 12) ∧ w = w' := by
  obtain ⟨ao, cap, h1, h2⟩ := h.head
  have c0 := cell_of_block h1 3
  simp only [List.getElem?_toArray, List.getElem?_cons_zero, List.getElem?_cons_succ, hd] at c0
  clear h1 h
  go_enter Tryd.func121, Tryd.ntmps121
  go_wp2_with (go_at_call 79; refine (fail_any _ _).mono ?_; rintro e w' ⟨rfl, rfl⟩)
  exact ⟨rfl, rfl, rfl⟩

theorem check_ok {B b g : Nat} {D : Dsk} (i : Int) (w : World) (h : DiskAt w B b g D) (h0 : 0 ≤ i) (h9 : i < D.n) :
    Calls Tryd.prog 103 #[.pointer (some ⟨b, 0, none⟩), .int .i64 i] w fun e w' => e = .returned (.tuple #[]) ∧ Below w.heap.size w w' := by
  obtain ⟨ao, cap, h1, h2⟩ := h.head
  have c0 := cell_of_block h1 0
  simp only [List.getElem?_toArray, List.getElem?_cons_zero] at c0
  have d1 : decide (i < 0) = false := by simp; omega
  have d2 : decide ((D.n : Int) ≤ i) = false := by simp; omega
  clear h1 h
  go_enter Tryd.func103, Tryd.ntmps103
  go_wp2_with fail
  go_end0
  first | exact ⟨rfl, (Below.refl _ _).drew⟩ | exact ⟨rfl, Below.refl _ _⟩
theorem check_bad {B b g : Nat} {D : Dsk} (i : Int) (w : World) (h : DiskAt w B b g D) (h0 : i < 0 ∨ D.n ≤ i) :
    Calls Tryd.prog 103 #[.pointer (some ⟨b, 0, none⟩), .int .i64 i] w fun e w' => e = .panicked (fault 6) ∧ Below w.heap.size w w' := by
  obtain ⟨ao, cap, h1, h2⟩ := h.head
  have c0 := cell_of_block h1 0
  simp only [List.getElem?_toArray, List.getElem?_cons_zero] at c0
  clear h1 h
  go_enter Tryd.func103, Tryd.ntmps103
  by_cases h3 : i < 0
  · have d1 : decide (i < 0) = true := by simp; omega
    go_wp2_with (go_at_call 79; refine (fail_any _ _).mono ?_; rintro e w' ⟨rfl, rfl⟩)
    first | exact ⟨rfl, rfl, (Below.refl _ _).drew⟩ | exact ⟨rfl, rfl, Below.refl _ _⟩
  · have d1 : decide (i < 0) = false := by simp; omega
    have d2 : decide ((D.n : Int) ≤ i) = true := by simp; omega
    go_wp2_with (go_at_call 79; refine (fail_any _ _).mono ?_; rintro e w' ⟨rfl, rfl⟩)
    first | exact ⟨rfl, rfl, (Below.refl _ _).drew⟩ | exact ⟨rfl, rfl, Below.refl _ _⟩

/-- One call less. -/
def Dsk.fit (D : Dsk) : Prop := D.dead = false ∧ (D.armed = true → 0 < D.left)
def Dsk.less (D : Dsk) : Dsk := { D with left := if D.armed then D.left - 1 else D.left }
def Dsk.cut (D : Dsk) : Dsk := { D with dead := true }
theorem spend_ok {B b g : Nat} {D : Dsk} (w : World) (h : DiskAt w B b g D) (hf : D.fit) :
    Calls Tryd.prog 123 #[.pointer (some ⟨b, 0, none⟩)] w fun e w' => e = .returned (.tuple #[]) ∧ DiskEnd w B b g D.less w' := by
  obtain ⟨ao, cap, h1, h2⟩ := h.head
  have c1 := cell_of_block h1 1
  have c2 := cell_of_block h1 2
  have f2 := free_of_block h1 2
  have Hal := hid (alive_ok w h hf.1)
  simp only [List.getElem?_toArray, List.getElem?_cons_zero, List.getElem?_cons_succ] at c1 c2
  have Hf := hid hf
  have hbig := h.big
  have H := hid h
  clear h1 h hf
  go_enter Tryd.func123, Tryd.ntmps123
  go_wp2_with fail
  refine Hal.out.mono ?_
  rintro e w1 ⟨rfl, hw⟩
  subst hw
  cases ha : D.armed
  · rw [ha] at c1
    go_wp2_with fail
    refine bodyPost_ret (results_none rfl _ _ _) rfl ?_
    refine ⟨rfl, ⟨?_, ?_⟩⟩
    · have : D.less = D := by unfold Dsk.less; rw [if_neg (by simp [ha])]
      rw [this]
      first | exact H.out | exact H.out.drew
    · first | exact (Fr.refl _ _) | exact (Fr.refl _ _).drew
  · rw [ha] at c1
    have h0 := Hf.out.2 ha
    obtain ⟨m, hm⟩ : ∃ m, D.left = m + 1 := ⟨D.left - 1, by omega⟩
    have d1 : decide ((D.left : Int) = 0) = false := by simp; omega
    have e1 : IntKind.i64.wrap ((D.left : Int) - 1) = (m : Int) := by rw [IntKind.wrap_i64]; omega
    have Hm := hid hm
    clear hm
    go_wp2_with fail
    go_end0
    have hl : D.less = { D with armed := D.armed, left := m, dead := D.dead } := by unfold Dsk.less; rw [Hm.out, ha]; simp
    rw [hl]
    refine ⟨rfl, H.out.turn ((Fr.refl (fun k => k = b) w).setCell (p := ⟨b, 2, none⟩) (fun _ => rfl) _) D.armed D.dead m (by have := Hm.out; omega) fun ao cap h => ?_⟩
    have := heap_set_same (i := 2) h (.int .i64 (m : Int))
    simpa using this
theorem spend_bad {B b g : Nat} {D : Dsk} (w : World) (h : DiskAt w B b g D) (hf : ¬ D.fit) :
    Calls Tryd.prog 123 #[.pointer (some ⟨b, 0, none⟩)] w fun e w' => e = .panicked (fault 12) ∧ DiskEnd w B b g D.cut w' := by
  obtain ⟨ao, cap, h1, h2⟩ := h.head
  have c1 := cell_of_block h1 1
  have c2 := cell_of_block h1 2
  have c3 := cell_of_block h1 3
  have f3 := free_of_block h1 3
  simp only [List.getElem?_toArray, List.getElem?_cons_zero, List.getElem?_cons_succ] at c1 c2 c3
  have Hf := hid hf
  have hbig := h.big
  have H := hid h
  clear h1 h hf
  go_enter Tryd.func123, Tryd.ntmps123
  go_wp2_with fail
  by_cases hd : D.dead = true
  · refine (alive_dead w H.out hd).mono ?_
    rintro e w1 ⟨rfl, hw⟩
    subst hw
    refine ⟨rfl, rfl, ?_, Fr.refl _ _⟩
    have : D.cut = D := by unfold Dsk.cut; rw [← hd]
    rw [this]
    exact H.out
  · have hd' : D.dead = false := by simpa using hd
    have h3 : D.armed = true ∧ D.left = 0 := by
      have := Hf.out
      unfold Dsk.fit at this
      cases ha : D.armed <;> simp_all
    refine (alive_ok w H.out hd').mono ?_
    rintro e w1 ⟨rfl, hw⟩
    subst hw
    rw [h3.1] at c1
    rw [h3.2] at c2
    go_wp2_with (go_at_call 79; refine (fail_any _ _).mono ?_; rintro e w' ⟨rfl, rfl⟩)
    refine ⟨rfl, rfl, H.out.turn ((Fr.refl (fun k => k = b) w).setCell (p := ⟨b, 3, none⟩) (fun _ => rfl) _) D.armed true D.left H.out.big fun ao cap h => ?_⟩
    have := heap_set_same (i := 3) h (.bool true)
    simpa using this

theorem read_ok {B b g : Nat} {D : Dsk} (i : Nat) (w : World) (h : DiskAt w B b g D) (hd : D.dead = false) (hi : i < D.n) :
    Calls Tryd.prog 92 #[.pointer (some ⟨b, 0, none⟩), .int .i64 i] w fun e w' => e = .returned (.string (S (D.now i))) ∧ Below w.heap.size w w' := by
  go_enter Tryd.func92, Tryd.ntmps92
  go_wp2_with fail
  refine (alive_ok w h hd).mono ?_
  rintro e w1 ⟨rfl, hw⟩
  subst hw
  go_wp2_with fail
  refine (check_ok (i : Int) _ h (by omega) (by omega)).mono ?_
  rintro e w1 ⟨rfl, hB⟩
  have h' := h.below hB
  obtain ⟨ao, cap, h1, h2, h3, h4⟩ := h'.head
  obtain ⟨cur, h5, h6⟩ := h'.row (by omega)
  have hao := h4 (by omega)
  subst hao
  have c0 := cell_of_block h1 0
  have c1 := cell_of_block h5 (i * 2 + 1)
  simp only [List.getElem?_toArray, List.getElem?_cons_zero, (h6 i hi).2] at c0 c1
  have HB := hid hB
  clear h1 h2 h3 h4 h5 h6 h h' hB
  go_wp2_with fail
  go_ret
  first | exact ⟨rfl, HB.out⟩ | exact ⟨rfl, HB.out.drew⟩
theorem read_dead {B b g : Nat} {D : Dsk} (i : Int) (w : World) (h : DiskAt w B b g D) (hd : D.dead = true) :
    Calls Tryd.prog 92 #[.pointer (some ⟨b, 0, none⟩), .int .i64 i] w fun e w' => e = .panicked (fault 12) ∧ Below w.heap.size w w' := by
  go_enter Tryd.func92, Tryd.ntmps92
  go_wp2_with fail
  refine (alive_dead w h hd).mono ?_
  rintro e w1 ⟨rfl, hw⟩
  subst hw
  exact ⟨rfl, rfl, Below.refl _ _⟩
theorem read_out {B b g : Nat} {D : Dsk} (i : Int) (w : World) (h : DiskAt w B b g D) (hd : D.dead = false) (hi : i < 0 ∨ D.n ≤ i) :
    Calls Tryd.prog 92 #[.pointer (some ⟨b, 0, none⟩), .int .i64 i] w fun e w' => e = .panicked (fault 6) ∧ Below w.heap.size w w' := by
  go_enter Tryd.func92, Tryd.ntmps92
  go_wp2_with fail
  refine (alive_ok w h hd).mono ?_
  rintro e w1 ⟨rfl, hw⟩
  subst hw
  go_wp2_with fail
  refine (check_bad i _ h hi).mono ?_
  rintro e w1 ⟨rfl, hB⟩
  exact ⟨rfl, rfl, hB⟩
end Go.Proofs.YtkmbbgnbklklcaaDoor
