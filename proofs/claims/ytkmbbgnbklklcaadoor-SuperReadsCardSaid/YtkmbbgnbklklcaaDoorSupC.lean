/-
  Contracts of package super: parse's closure.
-/
import Derived.Test.YtkmbbgnbklklcaaDoorSupB
import Derived.Test.YtkmbbgnbklklcaaDoorPackB
namespace Go.Proofs.YtkmbbgnbklklcaaDoor
open Go.RowKit

theorem enters_parse (a c : Value) : Enters 135 #[a, c] := fun w => by kernel_rfl
theorem text4_some (b : Nat) (l : List UInt8) (w : World) (hI : InAt w b l) (hn : 4 ≤ l.length) :
    Calls Tryd.prog 22 #[.pointer (some ⟨b, 0, none⟩), .int .i64 4] w fun e w' => e = .returned (.string (S (l.take 4))) ∧ InAt w' b (l.drop 4) ∧ Fr (fun i => i = b) w w' := (in_text_some b l 4 w hI hn).mono fun e w' h => by
  obtain ⟨h1, h2⟩ := h
  refine ⟨h1, ?_, ?_⟩
  · rw [← h2]; exact hI.set _
  · rw [← h2]; exact Fr.setCell (S := fun i => i = b) (Fr.refl _ w) (p := ⟨b, 0, none⟩) (fun _ => rfl) _
theorem text4_end (b : Nat) (l : List UInt8) (w : World) (hI : InAt w b l) (hn : l.length < 4) :
    Calls Tryd.prog 22 #[.pointer (some ⟨b, 0, none⟩), .int .i64 4] w fun e w' => e = .panicked (fault 2) ∧ w = w' := in_text_end b l 4 w hI hn
theorem num2_some (b : Nat) (l : List UInt8) (w : World) (hI : InAt w b l) (hn : 2 ≤ l.length) :
    Calls Tryd.prog 23 #[.pointer (some ⟨b, 0, none⟩), .int .i64 2] w fun e w' => e = .returned (.int .u64 ((be (l.take 2) : Nat) : Int)) ∧ InAt w' b (l.drop 2) ∧ Fr (fun i => i = b) w w' := in_num_some b l 2 2 w hI (by decide) hn
theorem num2_end (b : Nat) (l : List UInt8) (w : World) (hI : InAt w b l) (hn : l.length < 2) :
    Calls Tryd.prog 23 #[.pointer (some ⟨b, 0, none⟩), .int .i64 2] w fun e w' => e = .panicked (fault 2) ∧ w = w' := in_num_end b l 2 2 w hI (by decide) hn
theorem num4_some (b : Nat) (l : List UInt8) (w : World) (hI : InAt w b l) (hn : 4 ≤ l.length) :
    Calls Tryd.prog 23 #[.pointer (some ⟨b, 0, none⟩), .int .i64 4] w fun e w' => e = .returned (.int .u64 ((be (l.take 4) : Nat) : Int)) ∧ InAt w' b (l.drop 4) ∧ Fr (fun i => i = b) w w' := in_num_some b l 4 4 w hI (by decide) hn
theorem num4_end (b : Nat) (l : List UInt8) (w : World) (hI : InAt w b l) (hn : l.length < 4) :
    Calls Tryd.prog 23 #[.pointer (some ⟨b, 0, none⟩), .int .i64 4] w fun e w' => e = .panicked (fault 2) ∧ w = w' := in_num_end b l 4 4 w hI (by decide) hn
theorem be2 (l : List UInt8) : be (l.take 2) < 65536 := by
  have h1 := be_le (l.take 2)
  have h2 : 256 ^ (l.take 2).length ≤ 256 ^ 2 := Nat.pow_le_pow_right (by decide) (by rw [List.length_take]; omega)
  omega
theorem be4 (l : List UInt8) : be (l.take 4) < 4294967296 := be_small _ (by rw [List.length_take]; omega)
/-- Do these bytes tell of a super? -/
def tells (l : List UInt8) : Prop := l.length = 14 ∧ l.take 4 = sbat
instance (l : List UInt8) : Decidable (tells l) := inferInstanceAs (Decidable (_ ∧ _))
def tJo (l : List UInt8) : Nat := be ((l.drop 4).take 2)
def tBi (l : List UInt8) : Nat := be ((l.drop 6).take 2)
def tHe (l : List UInt8) : Nat := be ((l.drop 8).take 2)
def tNe (l : List UInt8) : Nat := be ((l.drop 10).take 4)
/-- How the closure ends. -/
def ParseEnd (w : World) (bs ep : Nat) (l : List UInt8) (e : Ending) (w' : World) : Prop :=
  (tells l → e = .returned (.tuple #[]) ∧ SupAt w' bs ep (tJo l) (tBi l) (tHe l) (tNe l)) ∧ (¬ tells l → ∃ c jo bi he ne, 0 < c ∧ e = .panicked (fault c) ∧ jo < 65536 ∧ bi < 65536 ∧ he < 65536 ∧ ne < 4294967296 ∧ SupAt w' bs ep jo bi he ne) ∧ Fr (fun k => k = bs) w w'
theorem parse_bad {w w' : World} {bs ep c : Nat} {l : List UInt8} (hn : ¬ tells l) (hc : 0 < c) (hX : SupAt w' bs ep 0 0 0 0) (hF : Fr (fun k => k = bs) w w') : ParseEnd w bs ep l (.panicked (fault (c : Int))) w' :=
  ⟨fun h => absurd h hn, fun _ => ⟨c, 0, 0, 0, 0, by omega, rfl, by decide, by decide, by decide, by decide, hX⟩, hF⟩

set_option maxRecDepth 100000 in
set_option maxHeartbeats 4000000 in
theorem parse1_any (bt bs ep : Nat) (l : List UInt8) (w : World) (ht : w.heap[bt]? = some (.cells #[.string (S l)] 9 (0, 0))) (hX : SupAt w bs ep 0 0 0 0) (hl : l.length ≤ 100000) :
    Calls Tryd.prog 135 #[.pointer (some ⟨bt, 0, none⟩), .pointer (some ⟨bs, 0, none⟩)] w (ParseEnd w bs ep l) := by
  have c0 := cell_of_one ht
  have HX := hid hX
  have hbs := lt_of_block hX
  clear ht hX
  go_enter Tryd.func135, Tryd.ntmps135
  go_upto_region 1 with (go_at_call 18; (with_reducible refine (read_any _ _).mono ?_); rintro e w5 ⟨rfl, rfl⟩)
  have hI := heap_new w (.cells #[.string (S l)] 111)
  have hX1 := heap_old HX.out (.cells #[.string (S l)] 111)
  have hF1 : Fr (fun k => k = bs) w (w.alloc (.cells #[.string (S l)] 111)) := (Fr.refl _ w).alloc _
  try change Code.wp _ _ _ _ (w.alloc (.cells #[.string (S l)] 111))
  generalize w.alloc (.cells #[.string (S l)] 111) = w1 at *
  generalize hN : w.heap.size = N at *
  have HN := hid hN
  have HI : Hid (InAt w1 N l) := hid hI
  have HX1 : Hid (SupAt w1 bs ep 0 0 0 0) := hid hX1
  have HF1 := hid hF1
  clear hN hI hX1 hF1 c0 HX
  by_cases h4 : l.length < 4
  · go_wp2_with (go_at_call 22; (with_reducible refine (text4_end N l w1 HI.out h4).mono ?_); rintro e w2 ⟨rfl, rfl⟩)
    exact ⟨rfl, parse_bad (c := 2) (fun h => by have := h.1; omega) (by decide) HX1.out HF1.out⟩
  have step : ∀ {wa wb : World}, SupAt wa bs ep 0 0 0 0 → Fr (fun k => k = bs) w wa → Fr (fun i => i = N) wa wb → SupAt wb bs ep 0 0 0 0 ∧ Fr (fun k => k = bs) w wb := fun {wa wb} h1 h2 h3 => ⟨h3.heap h1 (by omega), h2.trans h3 (fun i hi e => by have := HN.out; omega)⟩
  by_cases hs : l.take 4 = sbat
  case neg =>
    have d0 : ((S (l.take 4)).toList == [83, 66, 65, 84]) = false := by rw [S_toList]; simpa [sbat] using hs
    go_wp2_with (first | (go_at_call 22; (with_reducible refine (text4_some N l w1 HI.out (by omega)).mono ?_); rintro e w2 ⟨rfl, hI2, hF2⟩; obtain ⟨hX2, hF2⟩ := step HX1.out HF1.out hF2; have HI2 := hid hI2; have HX2 := hid hX2; have HF2 := hid hF2; clear hI2 hX2 hF2) | (go_at_call 79; (with_reducible refine (fail_any _ _).mono ?_); rintro e w4 ⟨rfl, rfl⟩))
    exact ⟨rfl, parse_bad (c := 1) (fun h => hs h.2) (by decide) HX2.out HF2.out⟩
  have d0 : ((S (l.take 4)).toList == [83, 66, 65, 84]) = true := by rw [S_toList, hs]; rfl
  have Hs := hid hs
  clear hs
  by_cases g6 : l.length < 6
  · go_wp2_with (first | (go_at_call 23; (with_reducible refine (num2_end N (l.drop 4) w2 HI2.out (by rw [List.length_drop]; omega)).mono ?_); rintro e w9 ⟨rfl, rfl⟩) | (go_at_call 22; (with_reducible refine (text4_some N l w1 HI.out (by omega)).mono ?_); rintro e w2 ⟨rfl, hI2, hF2⟩; obtain ⟨hX2, hF2⟩ := step HX1.out HF1.out hF2; have HI2 := hid hI2; have HX2 := hid hX2; have HF2 := hid hF2; clear hI2 hX2 hF2))
    exact ⟨rfl, parse_bad (c := 2) (fun h => by have := h.1; omega) (by decide) HX2.out HF2.out⟩
  by_cases g8 : l.length < 8
  · go_wp2_with (first | (go_at_call 23; (with_reducible refine (num2_end N (l.drop 6) w3 HI3.out (by rw [List.length_drop]; omega)).mono ?_); rintro e w9 ⟨rfl, rfl⟩) | (go_at_call 22; (with_reducible refine (text4_some N l w1 HI.out (by omega)).mono ?_); rintro e w2 ⟨rfl, hI2, hF2⟩; obtain ⟨hX2, hF2⟩ := step HX1.out HF1.out hF2; have HI2 := hid hI2; have HX2 := hid hX2; have HF2 := hid hF2; clear hI2 hX2 hF2) | (go_at_call 23; (with_reducible refine (num2_some N (l.drop 4) w2 HI2.out (by rw [List.length_drop]; omega)).mono ?_); rintro e w3 ⟨rfl, hI, hF⟩; obtain ⟨hX, hF⟩ := step HX2.out HF2.out hF; have hI9 : InAt w3 N (l.drop 6) := (by have h := hI; rwa [List.drop_drop] at h); have HI3 := hid hI9; have HX3 := hid hX; have HF3 := hid hF; clear hI hX hF hI9))
    exact ⟨rfl, parse_bad (c := 2) (fun h => by have := h.1; omega) (by decide) HX3.out HF3.out⟩
  by_cases g10 : l.length < 10
  · go_wp2_with (first | (go_at_call 23; (with_reducible refine (num2_end N (l.drop 8) w4 HI4.out (by rw [List.length_drop]; omega)).mono ?_); rintro e w9 ⟨rfl, rfl⟩) | (go_at_call 22; (with_reducible refine (text4_some N l w1 HI.out (by omega)).mono ?_); rintro e w2 ⟨rfl, hI2, hF2⟩; obtain ⟨hX2, hF2⟩ := step HX1.out HF1.out hF2; have HI2 := hid hI2; have HX2 := hid hX2; have HF2 := hid hF2; clear hI2 hX2 hF2) | (go_at_call 23; (with_reducible refine (num2_some N (l.drop 4) w2 HI2.out (by rw [List.length_drop]; omega)).mono ?_); rintro e w3 ⟨rfl, hI, hF⟩; obtain ⟨hX, hF⟩ := step HX2.out HF2.out hF; have hI9 : InAt w3 N (l.drop 6) := (by have h := hI; rwa [List.drop_drop] at h); have HI3 := hid hI9; have HX3 := hid hX; have HF3 := hid hF; clear hI hX hF hI9) | (go_at_call 23; (with_reducible refine (num2_some N (l.drop 6) w3 HI3.out (by rw [List.length_drop]; omega)).mono ?_); rintro e w4 ⟨rfl, hI, hF⟩; obtain ⟨hX, hF⟩ := step HX3.out HF3.out hF; have hI9 : InAt w4 N (l.drop 8) := (by have h := hI; rwa [List.drop_drop] at h); have HI4 := hid hI9; have HX4 := hid hX; have HF4 := hid hF; clear hI hX hF hI9))
    exact ⟨rfl, parse_bad (c := 2) (fun h => by have := h.1; omega) (by decide) HX4.out HF4.out⟩
  by_cases g14 : l.length < 14
  · go_wp2_with (first | (go_at_call 23; (with_reducible refine (num4_end N (l.drop 10) w5 HI5.out (by rw [List.length_drop]; omega)).mono ?_); rintro e w9 ⟨rfl, rfl⟩) | (go_at_call 22; (with_reducible refine (text4_some N l w1 HI.out (by omega)).mono ?_); rintro e w2 ⟨rfl, hI2, hF2⟩; obtain ⟨hX2, hF2⟩ := step HX1.out HF1.out hF2; have HI2 := hid hI2; have HX2 := hid hX2; have HF2 := hid hF2; clear hI2 hX2 hF2) | (go_at_call 23; (with_reducible refine (num2_some N (l.drop 4) w2 HI2.out (by rw [List.length_drop]; omega)).mono ?_); rintro e w3 ⟨rfl, hI, hF⟩; obtain ⟨hX, hF⟩ := step HX2.out HF2.out hF; have hI9 : InAt w3 N (l.drop 6) := (by have h := hI; rwa [List.drop_drop] at h); have HI3 := hid hI9; have HX3 := hid hX; have HF3 := hid hF; clear hI hX hF hI9) | (go_at_call 23; (with_reducible refine (num2_some N (l.drop 6) w3 HI3.out (by rw [List.length_drop]; omega)).mono ?_); rintro e w4 ⟨rfl, hI, hF⟩; obtain ⟨hX, hF⟩ := step HX3.out HF3.out hF; have hI9 : InAt w4 N (l.drop 8) := (by have h := hI; rwa [List.drop_drop] at h); have HI4 := hid hI9; have HX4 := hid hX; have HF4 := hid hF; clear hI hX hF hI9) | (go_at_call 23; (with_reducible refine (num2_some N (l.drop 8) w4 HI4.out (by rw [List.length_drop]; omega)).mono ?_); rintro e w5 ⟨rfl, hI, hF⟩; obtain ⟨hX, hF⟩ := step HX4.out HF4.out hF; have hI9 : InAt w5 N (l.drop 10) := (by have h := hI; rwa [List.drop_drop] at h); have HI5 := hid hI9; have HX5 := hid hX; have HF5 := hid hF; clear hI hX hF hI9))
    exact ⟨rfl, parse_bad (c := 2) (fun h => by have := h.1; omega) (by decide) HX5.out HF5.out⟩
  have uj : IntKind.i64.wrap ((be ((l.drop 4).take 2) : Nat) : Int) = ((be ((l.drop 4).take 2) : Nat) : Int) := by have := be2 (l.drop 4); rw [IntKind.wrap_i64]; omega
  have ub : IntKind.i64.wrap ((be ((l.drop 6).take 2) : Nat) : Int) = ((be ((l.drop 6).take 2) : Nat) : Int) := by have := be2 (l.drop 6); rw [IntKind.wrap_i64]; omega
  have uh : IntKind.i64.wrap ((be ((l.drop 8).take 2) : Nat) : Int) = ((be ((l.drop 8).take 2) : Nat) : Int) := by have := be2 (l.drop 8); rw [IntKind.wrap_i64]; omega
  have un : IntKind.u32.wrap ((be ((l.drop 10).take 4) : Nat) : Int) = ((be ((l.drop 10).take 4) : Nat) : Int) := by have := be4 (l.drop 10); rw [IntKind.wrap_u32]; omega
  go_upto_region 4 with (first | (go_at_call 22; (with_reducible refine (text4_some N l w1 HI.out (by omega)).mono ?_); rintro e w2 ⟨rfl, hI2, hF2⟩; obtain ⟨hX2, hF2⟩ := step HX1.out HF1.out hF2; have HI2 := hid hI2; have HX2 := hid hX2; have HF2 := hid hF2; clear hI2 hX2 hF2) | (go_at_call 23; (with_reducible refine (num2_some N (l.drop 4) w2 HI2.out (by rw [List.length_drop]; omega)).mono ?_); rintro e w3 ⟨rfl, hI, hF⟩; obtain ⟨hX, hF⟩ := step HX2.out HF2.out hF; have hI9 : InAt w3 N (l.drop 6) := (by have h := hI; rwa [List.drop_drop] at h); have HI3 := hid hI9; have HX3 := hid hX; have HF3 := hid hF; clear hI hX hF hI9) | (go_at_call 23; (with_reducible refine (num2_some N (l.drop 6) w3 HI3.out (by rw [List.length_drop]; omega)).mono ?_); rintro e w4 ⟨rfl, hI, hF⟩; obtain ⟨hX, hF⟩ := step HX3.out HF3.out hF; have hI9 : InAt w4 N (l.drop 8) := (by have h := hI; rwa [List.drop_drop] at h); have HI4 := hid hI9; have HX4 := hid hX; have HF4 := hid hF; clear hI hX hF hI9) | (go_at_call 23; (with_reducible refine (num2_some N (l.drop 8) w4 HI4.out (by rw [List.length_drop]; omega)).mono ?_); rintro e w5 ⟨rfl, hI, hF⟩; obtain ⟨hX, hF⟩ := step HX4.out HF4.out hF; have hI9 : InAt w5 N (l.drop 10) := (by have h := hI; rwa [List.drop_drop] at h); have HI5 := hid hI9; have HX5 := hid hX; have HF5 := hid hF; clear hI hX hF hI9) | (go_at_call 23; (with_reducible refine (num4_some N (l.drop 10) w5 HI5.out (by rw [List.length_drop]; omega)).mono ?_); rintro e w6 ⟨rfl, hI, hF⟩; obtain ⟨hX, hF⟩ := step HX5.out HF5.out hF; have hI9 : InAt w6 N (l.drop 14) := (by have h := hI; rwa [List.drop_drop] at h); have HI6 := hid hI9; have HX6 := hid hX; have HF6 := hid hF; clear hI hX hF hI9; obtain ⟨x0, x1, x2, x3, x4⟩ := SupAt.cells HX6.out; have xf1 := free_of_block HX6.out 1; have xf2 := free_of_block HX6.out 2; have xf3 := free_of_block HX6.out 3; have xf4 := free_of_block HX6.out 4))
  have hXe : SupAt ((((w6.setCell ⟨bs, 1, none⟩ (.int .i64 ((be ((l.drop 4).take 2) : Nat) : Int))).setCell ⟨bs, 2, none⟩ (.int .i64 ((be ((l.drop 6).take 2) : Nat) : Int))).setCell ⟨bs, 3, none⟩ (.int .i64 ((be ((l.drop 8).take 2) : Nat) : Int))).setCell ⟨bs, 4, none⟩ (.int .u32 ((be ((l.drop 10).take 4) : Nat) : Int))) bs ep (tJo l) (tBi l) (tHe l) (tNe l) := heap_set_same (i := 4) (heap_set_same (i := 3) (heap_set_same (i := 2) (heap_set_same (i := 1) HX6.out _) _) _) _
  have hFe : Fr (fun k => k = bs) w6 ((((w6.setCell ⟨bs, 1, none⟩ (.int .i64 ((be ((l.drop 4).take 2) : Nat) : Int))).setCell ⟨bs, 2, none⟩ (.int .i64 ((be ((l.drop 6).take 2) : Nat) : Int))).setCell ⟨bs, 3, none⟩ (.int .i64 ((be ((l.drop 8).take 2) : Nat) : Int))).setCell ⟨bs, 4, none⟩ (.int .u32 ((be ((l.drop 10).take 4) : Nat) : Int))) := Fr.setCell (S := fun k => k = bs) (Fr.setCell (S := fun k => k = bs) (Fr.setCell (S := fun k => k = bs) (Fr.setCell (S := fun k => k = bs) (Fr.refl _ w6) (p := ⟨bs, 1, none⟩) (fun _ => rfl) _) (p := ⟨bs, 2, none⟩) (fun _ => rfl) _) (p := ⟨bs, 3, none⟩) (fun _ => rfl) _) (p := ⟨bs, 4, none⟩) (fun _ => rfl) _
  have hIe := HI6.out.fr hFe (by omega)
  have hF7 := HF6.out.trans hFe (fun _ _ h => h)
  generalize (((w6.setCell ⟨bs, 1, none⟩ (.int .i64 ((be ((l.drop 4).take 2) : Nat) : Int))).setCell ⟨bs, 2, none⟩ (.int .i64 ((be ((l.drop 6).take 2) : Nat) : Int))).setCell ⟨bs, 3, none⟩ (.int .i64 ((be ((l.drop 8).take 2) : Nat) : Int))).setCell ⟨bs, 4, none⟩ (.int .u32 ((be ((l.drop 10).take 4) : Nat) : Int)) = w7 at *
  have HXe := hid hXe
  have HF7 := hid hF7
  clear hXe hFe hF7 x0 x1 x2 x3 x4 xf1 xf2 xf3 xf4
  have b1 := be2 (l.drop 4)
  have b2 := be2 (l.drop 6)
  have b3 := be2 (l.drop 8)
  have b4 := be4 (l.drop 10)
  by_cases h14 : l.length = 14
  · have hnil : l.drop 14 = [] := List.drop_eq_nil_of_le (by omega)
    rw [hnil] at hIe
    have HIe := hid hIe
    clear hIe hnil
    go_wp2_with (go_at_call 26; (with_reducible refine (in_done_some N w7 HIe.out).mono ?_); rintro e w8 ⟨rfl, rfl⟩)
    go_end0
    exact ⟨fun _ => ⟨rfl, HXe.out⟩, fun h => absurd ⟨h14, Hs.out⟩ h, HF7.out⟩
  · have hne : l.drop 14 ≠ [] := fun h => by have := congrArg List.length h; rw [List.length_drop] at this; simp at this; omega
    have HIe := hid hIe
    have Hne := hid hne
    clear hIe hne
    go_wp2_with (go_at_call 26; (with_reducible refine (in_done_bad N _ w7 HIe.out Hne.out).mono ?_); rintro e w8 ⟨rfl, rfl⟩)
    exact ⟨rfl, fun h => absurd h.1 h14, fun _ => ⟨1, _, _, _, _, by decide, rfl, b1, b2, b3, b4, HXe.out⟩, HF7.out⟩
end Go.Proofs.YtkmbbgnbklklcaaDoor
