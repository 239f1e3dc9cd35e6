/-
  Law 04's Write, Read.
-/
import Derived.Test.YtkmbbgnbklklcaaDoorL04a
namespace Go.Proofs.YtkmbbgnbklklcaaDoor
open Go.RowKit

instance (D : Dsk) : Decidable D.fit := inferInstanceAs (Decidable (D.dead = false ∧ (D.armed = true → 0 < D.left)))
def Dsk.out (D : Dsk) (i : Int) : Prop := i < 0 ∨ D.n ≤ i
instance (D : Dsk) (i : Int) : Decidable (D.out i) := inferInstanceAs (Decidable (i < 0 ∨ (D.n : Int) ≤ i))
/-- The error's number of a Write; what it leaves. -/
def Dsk.wErr (D : Dsk) (i : Int) (s : List UInt8) : Int := if D.dead = true then 12 else if D.out i then 6 else if 64 < s.length then 3 else if D.fit then 0 else 12
def Dsk.wrote (D : Dsk) (i : Int) (s : List UInt8) : Dsk := if D.dead = true then D else if D.out i then D else if 64 < s.length then D else if D.fit then { D.less with now := upd D.now i.toNat (pad s) } else D.cut
def Dsk.rErr (D : Dsk) (i : Int) : Int := if D.dead = true then 12 else if D.out i then 6 else 0
def Dsk.rText (D : Dsk) (i : Int) : List UInt8 := if D.dead = true then [] else if D.out i then [] else D.now i.toNat
def ends (c : Int) : Ending := if c = 0 then .returned (.tuple #[]) else .panicked (fault c)

theorem DiskEnd.ofBelow {w w' : World} {B b g : Nat} {D : Dsk} (h : DiskAt w B b g D) (hB : Below w.heap.size w w') : DiskEnd w B b g D w' := ⟨h.below hB, Fr.ofBelow hB _⟩

theorem disk_write {B b g : Nat} {D : Dsk} (i : Int) (s : List UInt8) (w : World) (h : DiskAt w B b g D) (hs : s.length ≤ 100000000) :
    Calls Tryd.prog 96 #[.pointer (some ⟨b, 0, none⟩), .int .i64 i, .string (S s)] w fun e w' => e = ends (D.wErr i s) ∧ DiskEnd w B b g (D.wrote i s) w' := by
  by_cases hd : D.dead = true
  · rw [Dsk.wErr, Dsk.wrote, if_pos hd, if_pos hd]
    exact (write_dead i _ w h hd).mono fun e w' ⟨he, hB⟩ => ⟨he, .ofBelow h hB⟩
  rw [Dsk.wErr, Dsk.wrote, if_neg hd, if_neg hd]
  have hd' : D.dead = false := by simpa using hd
  by_cases ho : D.out i
  · rw [if_pos ho, if_pos ho]
    exact (write_out i _ w h hd' ho).mono fun e w' ⟨he, hB⟩ => ⟨he, .ofBelow h hB⟩
  rw [if_neg ho, if_neg ho]
  have ho' : 0 ≤ i ∧ i < D.n := by unfold Dsk.out at ho; omega
  obtain ⟨k, rfl⟩ : ∃ k : Nat, i = k := ⟨i.toNat, by omega⟩
  by_cases hb : 64 < s.length
  · rw [if_pos hb, if_pos hb]
    exact (write_big k s w h hd' (by omega) hb hs).mono fun e w' ⟨he, hB⟩ => ⟨he, .ofBelow h hB⟩
  rw [if_neg hb, if_neg hb]
  by_cases hf : D.fit
  · rw [if_pos hf, if_pos hf]
    exact write_ok k s w h hf (by omega) (by omega)
  · rw [if_neg hf, if_neg hf]
    exact write_cut k s w h hd' hf (by omega) (by omega)

theorem write1_any {B b g : Nat} {D : Dsk} (bd bi bs : Nat) (i : Int) (s : List UInt8) (w : World) (h : DiskAt w B b g D) (hs : s.length ≤ 100000000) (h1 : w.heap[bd]? = some (.cells #[.pointer (some ⟨b, 0, none⟩)] 66 (0, 0)))
    (h2 : w.heap[bi]? = some (.cells #[.int .i64 i] 3 (0, 0))) (h3 : w.heap[bs]? = some (.cells #[.string (S s)] 9 (0, 0))) :
    Calls Tryd.prog 95 #[.pointer (some ⟨bd, 0, none⟩), .pointer (some ⟨bi, 0, none⟩), .pointer (some ⟨bs, 0, none⟩)] w fun e w' => e = ends (D.wErr i s) ∧ DiskEnd w B b g (D.wrote i s) w' := by
  have c1 := cell_of_one h1
  have c2 := cell_of_one h2
  have c3 := cell_of_one h3
  have K := hid (disk_write i s w h hs)
  generalize D.wErr i s = c at *
  generalize D.wrote i s = D2 at *
  clear h1 h2 h3 h
  go_enter Tryd.func95, Tryd.ntmps95
  go_wp2_with fail
  refine K.out.mono ?_
  rintro e w1 ⟨rfl, hE⟩
  unfold ends
  by_cases hc : c = 0
  · rw [if_pos hc]
    have HE := hid hE
    clear hE
    go_wp2_with fail
    go_end0
    exact ⟨by rw [ends, if_pos hc], HE.out⟩
  · rw [if_neg hc]
    exact ⟨rfl, by rw [ends, if_neg hc], hE⟩

theorem ends_or (c : Int) : (∃ v, ends c = .returned v ∧ c = 0) ∨ ends c = .panicked (fault c) := by
  unfold ends
  by_cases h : c = 0
  · rw [if_pos h]; exact .inl ⟨_, rfl, h⟩
  · rw [if_neg h]; exact .inr rfl

theorem write_any {B b g : Nat} {D : Dsk} (i : Int) (s : List UInt8) (w : World) (h : DiskAt w B b g D) (hg : g < w.heap.size) (hs : s.length ≤ 100000000) :
    Calls Tryd.prog 52 #[.pointer (some ⟨b, 0, none⟩), .int .i64 i, .string (S s)] w fun e w' => e = .returned (.int .i64 (D.wErr i s)) ∧ DiskEnd w B b g (D.wrote i s) w' := by
  have hb := h.lt
  have hh1 := heap_old (heap_old (heap_new w (.cells #[.pointer (some ⟨b, 0, none⟩)] 66)) (.cells #[.int .i64 i] 3)) (.cells #[.string (S s)] 9)
  have hh2 := heap_old (heap_newk (w := w.alloc (.cells #[.pointer (some ⟨b, 0, none⟩)] 66)) (k := w.heap.size + 1) (.cells #[.int .i64 i] 3) (by simp)) (.cells #[.string (S s)] 9)
  have hh3 := heap_newk (w := (w.alloc (.cells #[.pointer (some ⟨b, 0, none⟩)] 66)).alloc (.cells #[.int .i64 i] 3)) (k := w.heap.size + 1 + 1) (.cells #[.string (S s)] 9) (by simp)
  have hB0 : Below w.heap.size w (((w.alloc (.cells #[.pointer (some ⟨b, 0, none⟩)] 66)).alloc (.cells #[.int .i64 i] 3)).alloc (.cells #[.string (S s)] 9)) := (((Below.refl _ _).alloc (Nat.le_refl _) _).alloc (by simp) _).alloc (by simp; omega) _
  have hD0 := h.below hB0
  have hs0 := hB0.size
  go_enter Tryd.func52, Tryd.ntmps52
  go_wp2_with fail
  generalize ((w.alloc (.cells #[.pointer (some ⟨b, 0, none⟩)] 66)).alloc (.cells #[.int .i64 i] 3)).alloc (.cells #[.string (S s)] 9) = w0 at *
  have key : Calls Tryd.prog 19 #[.func (.func 95) #[] #[.pointer (some ⟨w.heap.size, 0, none⟩), .pointer (some ⟨w.heap.size + 1, 0, none⟩), .pointer (some ⟨w.heap.size + 1 + 1, 0, none⟩)]] w0 fun e w3 => e = .returned (.int .i64 (D.wErr i s)) ∧ Fr (dfoot b g) w0 w3 ∧ DiskAt w3 B b g (D.wrote i s) := by
    refine guard_fr _ _ w0 (D.wErr i s) (dfoot b g) (fun w' => DiskAt w' B b g (D.wrote i s)) (enters_write _ _ _) (by rintro (e | e) <;> omega) (fun w1 w2 hs hp hF => hp.fr hF (by omega) (by omega)) ?_
    refine (write1_any _ _ _ i s _ (hD0.alloc _) hs (heap_old hh1 _) (heap_old hh2 _) (heap_old hh3 _)).mono ?_
    rintro e w' ⟨rfl, hE⟩
    exact ⟨hE.2, hE.1, ends_or _⟩
  have HB0 := hid hB0
  clear hh1 hh2 hh3 hD0 h hs0 hB0
  refine key.mono ?_
  rintro e w1 ⟨rfl, hF, hD⟩
  have HE := hid (show DiskEnd w B b g (D.wrote i s) w1 from ⟨hD, (Fr.ofBelow HB0.out _).trans hF (fun _ _ h => h)⟩)
  clear hF hD key
  go_wp2_with fail
  go_ret
  exact ⟨rfl, HE.out⟩

theorem disk_read {B b g : Nat} {D : Dsk} (i : Int) (w : World) (h : DiskAt w B b g D) :
    Calls Tryd.prog 92 #[.pointer (some ⟨b, 0, none⟩), .int .i64 i] w fun e w' => e = (if D.rErr i = 0 then .returned (.string (S (D.rText i))) else .panicked (fault (D.rErr i))) ∧ Below w.heap.size w w' := by
  by_cases hd : D.dead = true
  · rw [Dsk.rErr, Dsk.rText, if_pos hd, if_pos hd]
    exact read_dead i w h hd
  rw [Dsk.rErr, Dsk.rText, if_neg hd, if_neg hd]
  have hd' : D.dead = false := by simpa using hd
  by_cases ho : D.out i
  · rw [if_pos ho, if_pos ho]
    exact read_out i w h hd' ho
  rw [if_neg ho, if_neg ho]
  have ho' : 0 ≤ i ∧ i < D.n := by unfold Dsk.out at ho; omega
  obtain ⟨k, rfl⟩ : ∃ k : Nat, i = k := ⟨i.toNat, by omega⟩
  exact read_ok k w h hd' (by omega)

theorem read1_any {B b g : Nat} {D : Dsk} (bo bd bi : Nat) (i : Int) (w : World) (h : DiskAt w B b g D) (ho : w.heap[bo]? = some (.cells #[.string ByteArray.empty] 9 (0, 0))) (h1 : w.heap[bd]? = some (.cells #[.pointer (some ⟨b, 0, none⟩)] 66 (0, 0)))
    (h2 : w.heap[bi]? = some (.cells #[.int .i64 i] 3 (0, 0))) :
    Calls Tryd.prog 91 #[.pointer (some ⟨bd, 0, none⟩), .pointer (some ⟨bi, 0, none⟩), .pointer (some ⟨bo, 0, none⟩)] w fun e w' => Fr (fun k => k = bo) w w' ∧ w'.heap[bo]? = some (.cells #[.string (S (D.rText i))] 9 (0, 0)) ∧ ((∃ v, e = .returned v ∧ D.rErr i = 0) ∨ e = .panicked (fault (D.rErr i))) := by
  have c1 := cell_of_one h1
  have c2 := cell_of_one h2
  have K := hid (disk_read i w h)
  have Ho := hid ho
  have ht : D.rErr i ≠ 0 → D.rText i = [] := by
    intro hne
    unfold Dsk.rErr at hne
    unfold Dsk.rText
    by_cases hd : D.dead = true
    · rw [if_pos hd]
    · rw [if_neg hd]
      by_cases ho : D.out i
      · rw [if_pos ho]
      · rw [if_neg hd, if_neg ho] at hne
        exact absurd rfl hne
  generalize D.rErr i = c at *
  generalize D.rText i = t at *
  clear h1 h2 h ho
  go_enter Tryd.func91, Tryd.ntmps91
  go_wp2_with fail
  refine K.out.mono ?_
  rintro e w1 ⟨rfl, hB⟩
  have ho1 := (hB.block bo (lt_of_block Ho.out)).trans Ho.out
  have HB := hid hB
  by_cases hc : c = 0
  · rw [if_pos hc]
    have c3 := cell_of_one ho1
    have f3 := free_of_one ho1
    have Ho1 := hid ho1
    clear ho1 hB c1 c2
    go_wp2_with fail
    go_end0
    exact ⟨((Fr.ofBelow HB.out (fun k => k = bo)).setCell (p := ⟨bo, 0, none⟩) (fun _ => rfl) _), one_setCell Ho1.out, .inl ⟨_, rfl, hc⟩⟩
  · rw [if_neg hc]
    have := ht hc
    subst this
    exact ⟨rfl, Fr.ofBelow hB _, ho1, .inr rfl⟩
theorem lread_any {B b g : Nat} {D : Dsk} (i : Int) (w : World) (h : DiskAt w B b g D) :
    Calls Tryd.prog 49 #[.pointer (some ⟨b, 0, none⟩), .int .i64 i] w fun e w' => e = .returned (.tuple #[.string (S (D.rText i)), .int .i64 (D.rErr i)]) ∧ Below w.heap.size w w' := by
  go_enter Tryd.func49, Tryd.ntmps49
  go_wp2_with fail
  change Calls _ _ _ (((w.alloc (.cells #[.pointer (some ⟨b, 0, none⟩)] 66)).alloc (.cells #[.int .i64 i] 3)).alloc (.cells #[.string ByteArray.empty] 9)) _
  have hh1 := heap_old (heap_old (heap_new w (.cells #[.pointer (some ⟨b, 0, none⟩)] 66)) (.cells #[.int .i64 i] 3)) (.cells #[.string ByteArray.empty] 9)
  have hh2 := heap_old (heap_newk (w := w.alloc (.cells #[.pointer (some ⟨b, 0, none⟩)] 66)) (k := w.heap.size + 1) (.cells #[.int .i64 i] 3) (by simp)) (.cells #[.string ByteArray.empty] 9)
  have hh3 := heap_newk (w := (w.alloc (.cells #[.pointer (some ⟨b, 0, none⟩)] 66)).alloc (.cells #[.int .i64 i] 3)) (k := w.heap.size + 1 + 1) (.cells #[.string ByteArray.empty] 9) (by simp)
  have hB0 : Below w.heap.size w (((w.alloc (.cells #[.pointer (some ⟨b, 0, none⟩)] 66)).alloc (.cells #[.int .i64 i] 3)).alloc (.cells #[.string ByteArray.empty] 9)) := (((Below.refl _ _).alloc (Nat.le_refl _) _).alloc (by simp) _).alloc (by simp; omega) _
  have hD0 := h.below hB0
  have hs0 := hB0.size
  generalize ((w.alloc (.cells #[.pointer (some ⟨b, 0, none⟩)] 66)).alloc (.cells #[.int .i64 i] 3)).alloc (.cells #[.string ByteArray.empty] 9) = w0 at *
  have HB0 := hid hB0
  clear h hB0
  refine (guard_box _ _ w0 (D.rErr i) (w.heap.size + 1 + 1) (.string (S (D.rText i))) 9 (enters_read _ _ _) (lt_of_block hh3) (read1_any (w.heap.size + 1 + 1) w.heap.size (w.heap.size + 1) i _ (hD0.alloc _) (heap_old hh3 _) (heap_old hh1 _) (heap_old hh2 _))).mono ?_
  rintro e w1 ⟨rfl, hF, ho1⟩
  have c1 := cell_of_one ho1
  have HB1 := hid (HB0.out.trans (hF.below hs0 (fun k hk e => by omega)))
  clear hF ho1 hh1 hh2 hh3 hD0
  go_wp2_with fail
  go_ret2
  exact ⟨rfl, HB1.out⟩
end Go.Proofs.YtkmbbgnbklklcaaDoor
