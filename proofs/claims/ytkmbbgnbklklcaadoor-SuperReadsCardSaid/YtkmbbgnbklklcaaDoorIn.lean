/-
  Contracts of package pack's In: Read, Left, Text, Num, Small, Done.
-/
import Derived.Test.YtkmbbgnbklklcaaDoorGuard
namespace Go.Proofs.YtkmbbgnbklklcaaDoor
open Go.RowKit

/-- Block b is an In of which l is left. -/
def InAt (w : World) (b : Nat) (l : List UInt8) : Prop := w.heap[b]? = some (.cells #[.string (S l)] 111 (0, 0))
theorem InAt.set {w : World} {b : Nat} {l : List UInt8} (h : InAt w b l) (m : List UInt8) : InAt (w.setCell ⟨b, 0, none⟩ (.string (S m))) b m := one_setCell h
theorem InAt.fr {w w' : World} {b : Nat} {l : List UInt8} (h : InAt w b l) {T : Nat → Prop} (hF : Fr T w w') (hb : ¬ T b) : InAt w' b l := hF.heap h hb

theorem read_any (s : ByteArray) (w : World) :
    Calls Tryd.prog 18 #[.string s] w fun e w' => e = .returned (.pointer (some ⟨w.heap.size, 0, none⟩)) ∧ w.alloc (.cells #[.string s] 111) = w' := by
  go_enter Tryd.func18, Tryd.ntmps18
  go_wp2
  go_ret
  exact ⟨rfl, rfl⟩

theorem in_text_neg (b : Nat) (n : Int) (w : World) (hn : n < 0) :
    Calls Tryd.prog 22 #[.pointer (some ⟨b, 0, none⟩), .int .i64 n] w fun e w' => e = .panicked (fault 4) ∧ w = w' := by
  go_enter Tryd.func22, Tryd.ntmps22
  go_wp2_with (go_at_call 79; refine (fail_any _ _).mono ?_; rintro e w' ⟨rfl, rfl⟩)

  exact ⟨rfl, rfl, rfl⟩

theorem in_text_end (b : Nat) (l : List UInt8) (n : Nat) (w : World) (hI : InAt w b l) (hn : l.length < n) :
    Calls Tryd.prog 22 #[.pointer (some ⟨b, 0, none⟩), .int .i64 n] w fun e w' => e = .panicked (fault 2) ∧ w = w' := by
  have hb := lt_of_block hI
  have hc := cell_of_one hI
  have hs := S_size l
  clear hI
  go_enter Tryd.func22, Tryd.ntmps22
  go_wp2_with (go_at_call 79; refine (fail_any _ _).mono ?_; rintro e w' ⟨rfl, rfl⟩)

  exact ⟨rfl, rfl, rfl⟩

theorem in_text_some (b : Nat) (l : List UInt8) (n : Nat) (w : World) (hI : InAt w b l) (hn : n ≤ l.length) :
    Calls Tryd.prog 22 #[.pointer (some ⟨b, 0, none⟩), .int .i64 n] w fun e w' => e = .returned (.string (S (l.take n))) ∧ w.setCell ⟨b, 0, none⟩ (.string (S (l.drop n))) = w' := by
  have hb := lt_of_block hI
  have hc := cell_of_one hI
  have hf := free_of_one hI
  have hs := S_size l
  clear hI
  go_enter Tryd.func22, Tryd.ntmps22
  go_wp2_with fail
  go_ret
  exact ⟨ret_str (S_take _ _), by rw [S_drop]⟩

/-- A number's bytes, the highest first. -/
def be (l : List UInt8) : Nat := l.foldl (fun n c => 256 * n + c.toNat) 0
theorem be_le (l : List UInt8) : be l < 256 ^ l.length := by
  unfold be
  rw [← List.reverse_reverse l]
  induction l.reverse with
  | nil => simp
  | cons c t ih =>
    have := c.toNat_lt
    simp only [List.reverse_cons, List.foldl_append, List.foldl_cons, List.foldl_nil, List.length_append, List.length_cons, List.length_nil, Nat.zero_add, Nat.pow_add, Nat.pow_one] at ih ⊢
    omega
theorem be_snoc (l : List UInt8) (c : UInt8) : be (l ++ [c]) = 256 * be l + c.toNat := by simp [be]

theorem or_byte (x c : Nat) (hx : x < 72057594037927936) (hc : c < 256) :
    bits .or .u64 (IntKind.u64.wrap ((x : Int) * 256)) (IntKind.u64.wrap (c : Int)) = ((256 * x + c : Nat) : Int) := by
  have e1 : IntKind.u64.wrap ((x : Int) * 256) = ((256 * x : Nat) : Int) := by rw [IntKind.wrap_u64]; omega
  have e2 : IntKind.u64.wrap (c : Int) = (c : Int) := by rw [IntKind.wrap_u64]; omega
  rw [e1, e2, u64_or_nat _ _ (by omega) (by omega), nat_join 8 _ _ (by omega) (by omega)]
theorem be_take (m : List UInt8) (j : Nat) (h : j < m.length) : be (m.take (j + 1)) = 256 * be (m.take j) + (m[j]).toNat := by
  rw [List.take_succ_eq_append_getElem h, be_snoc]
theorem be_take_lt (m : List UInt8) (j : Nat) (h : j < 8) : be (m.take j) < 72057594037927936 := by
  have h1 := be_le (m.take j)
  have h2 : (m.take j).length ≤ 7 := by rw [List.length_take]; omega
  have h3 : 256 ^ (m.take j).length ≤ 256 ^ 7 := Nat.pow_le_pow_right (by omega) h2
  have h4 : 256 ^ 7 = 72057594037927936 := by decide
  omega

theorem in_num_end (b : Nat) (l : List UInt8) (n : Int) (k : Nat) (w : World) (hI : InAt w b l) (hk : min (max n 1) 8 = (k : Int)) (hn : l.length < k) :
    Calls Tryd.prog 23 #[.pointer (some ⟨b, 0, none⟩), .int .i64 n] w fun e w' => e = .panicked (fault 2) ∧ w = w' := by
  have H := hid (in_text_end b l k w hI hn)
  clear hI hn
  go_enter Tryd.func23, Tryd.ntmps23
  go_wp2_with fail
  refine H.out.mono ?_
  rintro e w' ⟨rfl, rfl⟩
  exact ⟨rfl, rfl, rfl⟩

set_option maxHeartbeats 400000 in
theorem in_num_some (b : Nat) (l : List UInt8) (n : Int) (k : Nat) (w : World) (hI : InAt w b l) (hk : min (max n 1) 8 = (k : Int)) (hn : k ≤ l.length) :
    Calls Tryd.prog 23 #[.pointer (some ⟨b, 0, none⟩), .int .i64 n] w fun e w' =>
      e = .returned (.int .u64 (be (l.take k))) ∧ InAt w' b (l.drop k) ∧ Fr (fun i => i = b) w w' := by
  have hk8 : k ≤ 8 := by omega
  have H := hid (in_text_some b l k w hI hn)
  have H1 := hid (hI.set (l.drop k))
  clear hI hn
  go_enter Tryd.func23, Tryd.ntmps23
  go_wp2_with fail
  refine H.out.mono ?_
  rintro e w' ⟨rfl, hw⟩
  have Hw := hid hw
  clear hw
  have hm : (l.take k).length ≤ 8 := by rw [List.length_take]; omega
  generalize hlm : l.take k = m at *
  have HLM := hid hlm
  clear hlm
  obtain ⟨cap, w2, hconv, hB, hsz, hcap, cur, fr, hrow, hcur, hcs, hfr⟩ := conv_bytes (P := Tryd.prog) 9 41 5 m w' Tryd.underlying9 Tryd.underlying41 Tryd.underlying5
  have hread : ∀ j, j < m.length → w2.cell? ⟨w'.heap.size, j, none⟩ = some (.int .u8 (m.getD j 0).toNat) := fun j hj => by rw [cell_of_block hrow]; exact hcur j hj
  generalize hN : w'.heap.size = N at *
  clear hrow hcur hcs hfr hcap
  have HB := hid hB
  have HN := hid hN
  have HR := hid hread
  clear hB hN hread hsz hk
  go_wp2_with fail
  clear hconv
  go_loop [5, 7, 15] (fun a _ i => ∃ j : Nat, j ≤ m.length ∧ i = .int .i64 j ∧ a = .int .u64 (be (m.take j))) (fun _ _ i => m.length - (intOf i).toNat)
  case atStart => exact ⟨0, Nat.zero_le _, rfl, rfl⟩
  case round =>
    obtain ⟨j, hj, rfl, rfl⟩ := hrel
    by_cases hlt : j < m.length
    · have hr := HR.out j hlt
      go_wp2
      refine ⟨⟨j + 1, by omega, by go_num, ?_⟩, by simp [intOf]; omega⟩
      rw [be_take m j hlt, or_byte _ _ (be_take_lt m j (by omega)) (UInt8.toNat_lt _)]
    · go_wp2
      go_ret
      have hjm : j = m.length := by omega
      subst hjm
      rw [HLM.out]
      refine ⟨ret_int (by rw [List.take_length]), ?_, ?_⟩
      · exact HB.out.block b (by have := lt_of_block H1.out; rw [← HN.out, ← Hw.out]; exact this) |>.trans (by rw [← Hw.out]; exact H1.out)
      · refine Fr.trans (T := fun _ => False) (b := w') ?_ ?_ (fun _ _ h => h.elim)
        · rw [← Hw.out]
          exact (Fr.refl (fun i => i = b) w).setCell (p := ⟨b, 0, none⟩) (fun _ => rfl) _
        · exact Fr.ofBelow (by rw [HN.out]; exact HB.out) _

/-- Small answers a number that isn't above. -/
def small (x most : Nat) : Prop := x ≤ most ∧ x ≤ 4611686018427387904

theorem in_small_end (b : Nat) (l : List UInt8) (n : Int) (k : Nat) (most : Int) (w : World) (hI : InAt w b l) (hk : min (max n 1) 8 = (k : Int)) (hn : l.length < k) :
    Calls Tryd.prog 24 #[.pointer (some ⟨b, 0, none⟩), .int .i64 n, .int .u64 most] w fun e w' => e = .panicked (fault 2) ∧ w = w' := by
  have H := hid (in_num_end b l n k w hI hk hn)
  clear hI hn hk
  go_enter Tryd.func24, Tryd.ntmps24
  go_wp2_with fail
  refine H.out.mono ?_
  rintro e w' ⟨rfl, rfl⟩
  exact ⟨rfl, rfl, rfl⟩

theorem in_small_some (b : Nat) (l : List UInt8) (n : Int) (k most : Nat) (w : World) (hI : InAt w b l) (hk : min (max n 1) 8 = (k : Int)) (hn : k ≤ l.length) (hx : small (be (l.take k)) most) :
    Calls Tryd.prog 24 #[.pointer (some ⟨b, 0, none⟩), .int .i64 n, .int .u64 most] w fun e w' =>
      e = .returned (.int .i64 (be (l.take k))) ∧ InAt w' b (l.drop k) ∧ Fr (fun i => i = b) w w' := by
  have H := hid (in_num_some b l n k w hI hk hn)
  clear hI hn hk
  obtain ⟨h1, h2⟩ := hx
  have d1 : decide (most < be (l.take k)) = false := by simp; omega
  have d2 : decide (4611686018427387904 < be (l.take k)) = false := by simp; omega
  generalize be (l.take k) = x at *
  go_enter Tryd.func24, Tryd.ntmps24
  go_wp2_with fail
  refine H.out.mono ?_
  rintro e w' ⟨rfl, hI, hF⟩
  have hI := hid hI
  have hF := hid hF
  go_wp2
  go_ret
  exact ⟨rfl, hI.out, hF.out⟩

theorem in_small_big (b : Nat) (l : List UInt8) (n : Int) (k most : Nat) (w : World) (hI : InAt w b l) (hk : min (max n 1) 8 = (k : Int)) (hn : k ≤ l.length) (hx : ¬ small (be (l.take k)) most) :
    Calls Tryd.prog 24 #[.pointer (some ⟨b, 0, none⟩), .int .i64 n, .int .u64 most] w fun e w' =>
      e = .panicked (fault 3) ∧ InAt w' b (l.drop k) ∧ Fr (fun i => i = b) w w' := by
  have H := hid (in_num_some b l n k w hI hk hn)
  clear hI hn hk
  generalize be (l.take k) = x at *
  unfold small at hx
  by_cases h1 : most < x
  · have d1 : decide (most < x) = true := by simp; omega
    clear hx
    go_enter Tryd.func24, Tryd.ntmps24
    go_wp2_with fail
    refine H.out.mono ?_
    rintro e w' ⟨rfl, hI, hF⟩
    have hI := hid hI
    have hF := hid hF
    go_wp2_with (go_at_call 79; refine (fail_any _ _).mono ?_; rintro e w' ⟨rfl, rfl⟩)
    exact ⟨rfl, rfl, hI.out, hF.out⟩
  · have h2 : 4611686018427387904 < x := by omega
    have d1 : decide (most < x) = false := by simp; omega
    clear hx
    go_enter Tryd.func24, Tryd.ntmps24
    go_wp2_with fail
    refine H.out.mono ?_
    rintro e w' ⟨rfl, hI, hF⟩
    have hI := hid hI
    have hF := hid hF
    go_wp2_with (go_at_call 79; refine (fail_any _ _).mono ?_; rintro e w' ⟨rfl, rfl⟩)
    exact ⟨rfl, rfl, hI.out, hF.out⟩


end Go.Proofs.YtkmbbgnbklklcaaDoor
