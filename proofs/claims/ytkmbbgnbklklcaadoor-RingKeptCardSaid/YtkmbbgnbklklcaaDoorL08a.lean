/-
  Law 08: Append and Scan under a Guard.
-/
import Derived.Test.YtkmbbgnbklklcaaDoorRingC
import Derived.Test.YtkmbbgnbklklcaaDoorL04c
namespace Go.Proofs.YtkmbbgnbklklcaaDoor
open Go.RowKit

theorem enters_app (a c d : Value) : Enters 89 #[a, c, d] := fun w => by kernel_rfl
theorem enters_scan (a c : Value) : Enters 93 #[a, c] := fun w => by kernel_rfl

/-- A journal on its disk. -/
structure Jour (w : World) (B r b g : Nat) (D : Dsk) (fo n : Int) (ep sq : Nat) : Prop where
  hR : RingAt w r b fo n ep sq
  hD : DiskAt w B b g D
  hg : g < w.heap.size
section
variable {w w' : World} {B r b g : Nat} {D : Dsk} {fo n : Int} {ep sq : Nat}
theorem Jour.fr (h : Jour w B r b g D fo n ep sq) {T : Nat → Prop} (hF : Fr T w w') (hr : ¬ T r) (hb : ¬ T b) (hg : ¬ T g) : Jour w' B r b g D fo n ep sq := ⟨h.hR.fr hF hr, h.hD.fr hF hb hg, by have := hF.size; have := h.hg; omega⟩
theorem Jour.below (h : Jour w B r b g D fo n ep sq) (hB : Below w.heap.size w w') : Jour w' B r b g D fo n ep sq := h.fr (Fr.ofBelow hB (fun _ => False)) id id id
theorem Jour.lt (h : Jour w B r b g D fo n ep sq) : r < w.heap.size ∧ b < w.heap.size ∧ g < w.heap.size := ⟨lt_of_block h.hR, h.hD.lt, h.hg⟩
end
/-- An Append: does it fit; what it leaves. -/
def fits (n : Int) (sq : Nat) (l : List UInt8) : Prop := (cost l.length : Int) ≤ n - sq
instance (n : Int) (sq : Nat) (l : List UInt8) : Decidable (fits n sq l) := inferInstanceAs (Decidable (_ ≤ _))
def sqBy (n : Int) (sq : Nat) (l : List UInt8) : Nat := if fits n sq l then sq + cost l.length else sq
def Dsk.by (D : Dsk) (i : Nat) (n : Int) (ep sq : Nat) (l : List UInt8) : Dsk := if fits n sq l then D.puts i (frs ep sq (parts l)) else D
theorem ring_append {B b g : Nat} {D : Dsk} (r : Nat) (fo n : Int) (ep sq i : Nat) (l : List UInt8) (w : World) (h : Jour w B r b g D fo n ep sq) (ho : D.on) (hn : n ≤ 1000000 ∧ 0 ≤ n) (hq : sq ≤ 900000) (hl : l.length ≤ 100000)
    (hfo : fo + sq = (i : Int)) (hi : fo + n ≤ D.n) (hep : ep < 4294967296) :
    Calls Tryd.prog 90 #[.pointer (some ⟨r, 0, none⟩), .string (S l)] w fun e w' => e = .returned (.bool (decide (fits n sq l))) ∧ Jour w' B r b g (D.by i n ep sq l) fo n ep (sqBy n sq l) ∧ Fr (rfoot r b g) w w' := by
  by_cases hf : fits n sq l
  · have hd : decide (fits n sq l) = true := by simpa using hf
    rw [hd]
    unfold Dsk.by sqBy
    rw [if_pos hf, if_pos hf]
    unfold fits at hf
    refine (ring_append_ok r fo n (n - sq) ep sq i l w h.hR h.hD ho rfl hn hq hl (by omega) hfo (by omega) hep).mono ?_
    rintro e w' ⟨rfl, h1, h2, h3⟩
    exact ⟨rfl, ⟨h1, h2, by have := h3.size; have := h.hg; omega⟩, h3⟩
  · have hd : decide (fits n sq l) = false := by simpa using hf
    rw [hd]
    unfold Dsk.by sqBy
    rw [if_neg hf, if_neg hf]
    unfold fits at hf
    refine (ring_append_no r fo n (n - sq) ep sq l w h.hR rfl hn (by omega) hl (by omega)).mono ?_
    rintro e w' ⟨rfl, h1⟩
    exact ⟨rfl, h.below h1, Fr.ofBelow h1 _⟩

theorem append1_any (ok : Bool) (bo br bs : Nat) (x : Value) (l : List UInt8) (w : World) (T : Nat → Prop) (P : World → Prop) (h0 : w.heap[bo]? = some (.cells #[.bool false] 4 (0, 0))) (h1 : w.heap[br]? = some (.cells #[x] 68 (0, 0))) (h2 : w.heap[bs]? = some (.cells #[.string (S l)] 9 (0, 0))) (hT : ¬ T bo)
    (hP : ∀ w1, P w1 → P (w1.setCell ⟨bo, 0, none⟩ (.bool ok)))
    (hc : Calls Tryd.prog 90 #[x, .string (S l)] w fun e w' => e = .returned (.bool ok) ∧ P w' ∧ Fr T w w') :
    Calls Tryd.prog 89 #[.pointer (some ⟨br, 0, none⟩), .pointer (some ⟨bs, 0, none⟩), .pointer (some ⟨bo, 0, none⟩)] w fun e w' => e = .returned (.tuple #[]) ∧ P w' ∧ w'.heap[bo]? = some (.cells #[.bool ok] 4 (0, 0)) ∧ Fr (fun k => T k ∨ k = bo) w w' := by
  have c1 := cell_of_one h1
  have c2 := cell_of_one h2
  have K := hid hc
  have H0 := hid h0
  have HP := hid hP
  clear h0 h1 h2 hc hP
  go_enter Tryd.func89, Tryd.ntmps89
  go_wp2_with fail
  refine K.out.mono ?_
  rintro e w1 ⟨rfl, hp, hF⟩
  have ho1 := hF.heap H0.out hT
  have c3 := cell_of_one ho1
  have f3 := free_of_one ho1
  have Ho1 := hid ho1
  have Hp := hid hp
  have HF := hid hF
  clear ho1 hp hF c1 c2
  go_wp2_with fail
  go_end0
  exact ⟨rfl, HP.out _ Hp.out, one_setCell Ho1.out, (HF.out.mono (fun _ _ h => Or.inl h)).trans (Fr.setCell (S := fun k => k = bo) (Fr.refl _ w1) (p := ⟨bo, 0, none⟩) (fun _ => rfl) _) (fun _ _ e => Or.inr e)⟩
theorem lappend_any {B b g : Nat} {D : Dsk} (r : Nat) (fo n : Int) (ep sq i : Nat) (l : List UInt8) (w : World) (h : Jour w B r b g D fo n ep sq) (ho : D.on) (hn : n ≤ 1000000 ∧ 0 ≤ n) (hq : sq ≤ 900000) (hl : l.length ≤ 100000)
    (hfo : fo + sq = (i : Int)) (hi : fo + n ≤ D.n) (hep : ep < 4294967296) :
    Calls Tryd.prog 46 #[.pointer (some ⟨r, 0, none⟩), .string (S l)] w fun e w' => e = .returned (.tuple #[.bool (decide (fits n sq l)), .int .i64 0]) ∧ Jour w' B r b g (D.by i n ep sq l) fo n ep (sqBy n sq l) ∧ Fr (rfoot r b g) w w' := by
  obtain ⟨hr, hb, hg⟩ := h.lt
  go_enter Tryd.func46, Tryd.ntmps46
  go_wp2_with fail
  try change Calls _ _ _ (((w.alloc (.cells #[.pointer (some ⟨r, 0, none⟩)] 68)).alloc (.cells #[.string (S l)] 9)).alloc (.cells #[.bool false] 4)) _
  have hh1 := heap_old (heap_old (heap_new w (.cells #[.pointer (some ⟨r, 0, none⟩)] 68)) (.cells #[.string (S l)] 9)) (.cells #[.bool false] 4)
  have hh2 := heap_old (heap_newk (w := w.alloc (.cells #[.pointer (some ⟨r, 0, none⟩)] 68)) (k := w.heap.size + 1) (.cells #[.string (S l)] 9) (by simp)) (.cells #[.bool false] 4)
  have hh3 := heap_newk (w := (w.alloc (.cells #[.pointer (some ⟨r, 0, none⟩)] 68)).alloc (.cells #[.string (S l)] 9)) (k := w.heap.size + 1 + 1) (.cells #[.bool false] 4) (by simp)
  have hB0 : Below w.heap.size w (((w.alloc (.cells #[.pointer (some ⟨r, 0, none⟩)] 68)).alloc (.cells #[.string (S l)] 9)).alloc (.cells #[.bool false] 4)) := (((Below.refl _ _).alloc (Nat.le_refl _) _).alloc (by simp) _).alloc (by simp; omega) _
  have hJ0 := h.below hB0
  have hs0 := hB0.size
  generalize ((w.alloc (.cells #[.pointer (some ⟨r, 0, none⟩)] 68)).alloc (.cells #[.string (S l)] 9)).alloc (.cells #[.bool false] 4) = w0 at *
  have HB0 := hid hB0
  clear h hB0
  have hlt0 := lt_of_block hh3
  refine (guard_fr _ _ w0 0 (fun k => rfoot r b g k ∨ k = w.heap.size + 1 + 1) (fun w' => Jour w' B r b g (D.by i n ep sq l) fo n ep (sqBy n sq l) ∧ w'.heap[w.heap.size + 1 + 1]? = some (.cells #[.bool (decide (fits n sq l))] 4 (0, 0))) (enters_app _ _ _) (by unfold rfoot; omega) (fun w1 w2 hs hp hF => ⟨hp.1.fr hF (by omega) (by omega) (by omega), hF.heap hp.2 (by omega)⟩)
    ((append1_any (decide (fits n sq l)) (w.heap.size + 1 + 1) w.heap.size (w.heap.size + 1) _ l _ (rfoot r b g) (fun w' => Jour w' B r b g (D.by i n ep sq l) fo n ep (sqBy n sq l)) (heap_old hh3 _) (heap_old hh1 _) (heap_old hh2 _) (by unfold rfoot; omega)
      (fun w1 hp => hp.fr (Fr.setCell (S := fun k => k = w.heap.size + 1 + 1) (Fr.refl _ w1) (p := ⟨w.heap.size + 1 + 1, 0, none⟩) (fun _ => rfl) _) (by omega) (by omega) (by omega)) (ring_append r fo n ep sq i l _ (hJ0.below ((Below.refl _ w0).alloc (Nat.le_refl _) _)) ho hn hq hl hfo hi hep)).mono ?_)).mono ?_
  · rintro e w' ⟨rfl, h1, h2, h3⟩
    exact ⟨h3, ⟨h1, h2⟩, .inl ⟨_, rfl, rfl⟩⟩
  · rintro e w1 ⟨rfl, hF, hJ, ho1⟩
    have c1 := cell_of_one ho1
    have HJ := hid hJ
    have HF := hid (show Fr (rfoot r b g) w w1 from (Fr.ofBelow HB0.out _).trans hF (fun k hk h => h.elim id (fun e => by omega)))
    clear hF ho1 hh1 hh2 hh3 hJ hJ0
    go_wp2_with fail
    go_ret2
    exact ⟨rfl, HJ.out, HF.out⟩

theorem own_weak {w : World} {base base' e size n : Nat} {v : Value} {xs : List Value} (h : w.ownsRow base e size v n xs) (hb : base' ≤ base) : w.ownsRow base' e size v n xs := by
  refine ⟨h.1, ?_⟩
  rcases h.2 with h2 | ⟨g, cap, cur, hv, hg, r⟩
  · exact .inl h2
  · exact .inr ⟨g, cap, cur, hv, by omega, r⟩
theorem scan1_any (bo br : Nat) (x : Value) (R : List (List UInt8)) (w : World) (h0 : w.heap[bo]? = some (.cells #[.slice none 0 0] 64 (0, 0))) (h1 : w.heap[br]? = some (.cells #[x] 68 (0, 0)))
    (hc : Calls Tryd.prog 94 #[x] w fun e w' => ∃ v, e = .returned v ∧ w'.ownsRow w.heap.size 9 1 v R.length (txts R) ∧ Below w.heap.size w w') :
    Calls Tryd.prog 93 #[.pointer (some ⟨br, 0, none⟩), .pointer (some ⟨bo, 0, none⟩)] w fun e w' => e = .returned (.tuple #[]) ∧ (∃ v, w'.ownsRow w.heap.size 9 1 v R.length (txts R) ∧ w'.heap[bo]? = some (.cells #[v] 64 (0, 0))) ∧ Fr (fun k => k = bo) w w' := by
  have c1 := cell_of_one h1
  have K := hid hc
  have H0 := hid h0
  have hbo := lt_of_block h0
  clear h0 h1 hc
  go_enter Tryd.func93, Tryd.ntmps93
  go_wp2_with fail
  refine K.out.mono ?_
  rintro e w1 ⟨v, rfl, hO, hB⟩
  obtain ⟨ao, cp, rfl⟩ := shape_of hO
  have ho1 := (hB.block bo hbo).trans H0.out
  have c3 := cell_of_one ho1
  have f3 := free_of_one ho1
  have Ho1 := hid ho1
  have HO := hid hO
  have HB := hid hB
  clear ho1 hO hB c1
  go_wp2_with fail
  go_end0
  have hF : Fr (fun k => k = bo) w1 (w1.setCell ⟨bo, 0, none⟩ (.slice ao R.length cp)) := Fr.setCell (S := fun k => k = bo) (Fr.refl _ w1) (p := ⟨bo, 0, none⟩) (fun _ => rfl) _
  exact ⟨rfl, ⟨_, hF.own HO.out (fun k hk e => by have := (HO.out.lt k hk.symm).1; omega), one_setCell Ho1.out⟩, (Fr.ofBelow HB.out _).trans hF (fun _ _ h => h)⟩
theorem lscan_any (r : Nat) (R : List (List UInt8)) (w : World)
    (hc : ∀ w1, Below w.heap.size w w1 → Calls Tryd.prog 94 #[.pointer (some ⟨r, 0, none⟩)] w1 fun e w' => ∃ v, e = .returned v ∧ w'.ownsRow w1.heap.size 9 1 v R.length (txts R) ∧ Below w1.heap.size w1 w') :
    Calls Tryd.prog 50 #[.pointer (some ⟨r, 0, none⟩)] w fun e w' => ∃ ao cp, e = .returned (.tuple #[.slice ao R.length cp, .int .i64 0]) ∧ w'.ownsRow w.heap.size 9 1 (.slice ao R.length cp) R.length (txts R) ∧ Below w.heap.size w w' := by
  go_enter Tryd.func50, Tryd.ntmps50
  go_wp2_with fail
  try change Calls _ _ _ ((w.alloc (.cells #[.pointer (some ⟨r, 0, none⟩)] 68)).alloc (.cells #[.slice none 0 0] 64)) _
  have hh1 := heap_old (heap_new w (.cells #[.pointer (some ⟨r, 0, none⟩)] 68)) (.cells #[.slice none 0 0] 64)
  have hh3 := heap_newk (w := w.alloc (.cells #[.pointer (some ⟨r, 0, none⟩)] 68)) (k := w.heap.size + 1) (.cells #[.slice none 0 0] 64) (by simp)
  have hB0 : Below w.heap.size w ((w.alloc (.cells #[.pointer (some ⟨r, 0, none⟩)] 68)).alloc (.cells #[.slice none 0 0] 64)) := ((Below.refl _ _).alloc (Nat.le_refl _) _).alloc (by simp) _
  have hs0 := hB0.size
  generalize (w.alloc (.cells #[.pointer (some ⟨r, 0, none⟩)] 68)).alloc (.cells #[.slice none 0 0] 64) = w0 at *
  have hlt0 := lt_of_block hh3
  have hk := hc (w0.alloc (.cells #[.int .i64 0] 29)) (hB0.alloc hs0 _)
  have HB0 := hid hB0
  clear hc hB0
  refine (guard_fr _ _ w0 0 (fun k => k = w.heap.size + 1) (fun w' => ∃ v, w'.ownsRow (w0.heap.size + 1) 9 1 v R.length (txts R) ∧ w'.heap[w.heap.size + 1]? = some (.cells #[v] 64 (0, 0))) (enters_scan _ _) (by omega) (fun w1 w2 hs hp hF => ?_) ((scan1_any (w.heap.size + 1) w.heap.size _ R _ (heap_old hh3 _) (heap_old hh1 _) hk).mono ?_)).mono ?_
  · obtain ⟨v, h1, h2⟩ := hp
    exact ⟨v, hF.own h1 (fun k hk e => by have := (h1.lt k hk.symm).1; omega), hF.heap h2 (by omega)⟩
  · rintro e w' ⟨rfl, ⟨v, h1, h2⟩, h3⟩
    refine ⟨h3, ⟨v, ?_, h2⟩, .inl ⟨_, rfl, rfl⟩⟩
    exact own_weak h1 (by simp)
  · rintro e w1 ⟨rfl, hF, v, hO, ho1⟩
    obtain ⟨ao, cp, rfl⟩ := shape_of hO
    have c1 := cell_of_one ho1
    have HO := hid (own_weak hO (show w.heap.size ≤ w0.heap.size + 1 by omega))
    have HB1 := hid (HB0.out.trans (hF.below hs0 (fun k hk e => by omega)))
    clear hF ho1 hh1 hh3 hO hk
    go_wp2_with fail
    go_ret2
    exact ⟨ao, cp, rfl, HO.out, HB1.out⟩
end Go.Proofs.YtkmbbgnbklklcaaDoor
