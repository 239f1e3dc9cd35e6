/-
  Law 09's awake.
-/
import Derived.Test.YtmdcalkfapcafaaSetRan
namespace Go.Proofs.Ytmdcalkfapcafaa
open Go.RowKit

/-- One variable, in a block of its own. -/
def InvX (bx : Nat) : Unit → Int → World → Prop := fun _ s w => w.heap[bx]? = some (.cells #[.int .i64 s] 3 (0, 0))
theorem invX_stable (b bx : Nat) (hb : bx ≠ b) : Stable b (fun k => k = bx) (InvX bx) := fun _ _ _ _ h hk _ => (hk bx rfl hb).trans h
theorem invX_var (b bx : Nat) (hb : bx ≠ b) : Var b (fun k => k = bx) (InvX bx) ⟨bx, 0, none⟩ id (fun _ y => y) :=
  ⟨rfl, rfl, fun h => absurd h hb, fun _ _ _ h => ⟨cell_of_one h, free_of_one h⟩, fun _ _ _ _ h => heap_set_same h _, fun _ _ => rfl⟩

theorem enters_a1 (a c : Value) : Enters 34 #[a, c] := fun w => by kernel_rfl
theorem enters_a2 (a c : Value) : Enters 36 #[a, c] := fun w => by kernel_rfl

section
variable (b base bx : Nat) (v : Value) (fs : List Value) (d : Nat) (w : World) (s1 : Int) (h : LogAt w b base v fs d) (hl : fs.length ≤ 1000000) (hbase : base ≤ w.heap.size) (hbx : bx < w.heap.size) (hne : bx ≠ b) (hDv : ∀ k, some k = v.ownBlock → ¬ k = bx) (hs : InvX bx () s1 w)
include h hl hbase hbx hne hDv hs

theorem set_x (y : Int) : Calls Try.prog 35 #[.pointer (some ⟨b, 0, none⟩), .pointer (some ⟨bx, 0, none⟩), (.int .i64 y)] w fun e w' => e = .returned (.tuple #[]) ∧
      ∃ rs v', rs.length ≤ 1 ∧ Ran b base (fun k => k = bx) (InvX bx) v fs d s1 w w' () y rs v' :=
  setInt_ran b base (fun k => k = bx) (InvX bx) (invX_stable b bx hne) ⟨bx, 0, none⟩ id (fun _ y => y) (invX_var b bx hne) v fs d w () s1 y h (by omega) hbase (fun k hk => by omega) hDv hs

theorem awake9_1 (hl3 : fs.length ≤ 1000) : Calls Try.prog 34 #[.pointer (some ⟨b, 0, none⟩), .pointer (some ⟨bx, 0, none⟩)] w fun e w' => e = .panicked (fault 7) ∧
      ∃ rs v', Ran b base (fun k => k = bx) (InvX bx) v fs d s1 w w' () 3 rs v' := by
  have H := hid h
  have Hs := hid hs
  clear h hs
  go_enter Try.func34, Try.ntmps34
  go_wp2_with fail
  refine (set_x b base bx v fs d w s1 H.out hl hbase hbx hne hDv Hs.out 2).mono ?_
  rintro e w1 ⟨rfl, rs, v1, hr1, hR1⟩
  have hDv1 : ∀ k, some k = v1.ownBlock → ¬ k = bx := fun k hk hb => by
    rcases hR1.moved k hk.symm with e | e
    · exact hDv k e.symm hb
    · omega
  have hsz := hR1.fr.size
  have HR1 := hid hR1
  clear hR1
  go_wp2_with fail
  refine (set_x b base bx v1 (fs ++ rs.map Rec.fn) d w1 2 HR1.out.log (by simp; omega) (by omega) (by omega) hne hDv1 HR1.out.inv 3).mono ?_
  rintro e w2 ⟨rfl, qs, v2, hr2, hR2⟩
  have HR2 := hid (HR1.out.trans hR2)
  clear hR2
  go_wp2_with fail
  refine (fail_any _ _).mono ?_
  rintro e w' ⟨rfl, rfl⟩
  exact ⟨rfl, rfl, _, _, HR2.out⟩

theorem awake9_2 (hx : s1 = 1) : Calls Try.prog 36 #[.pointer (some ⟨b, 0, none⟩), .pointer (some ⟨bx, 0, none⟩)] w fun e w' => e = .returned (.tuple #[]) ∧
      ∃ rs v', Ran b base (fun k => k = bx) (InvX bx) v fs d s1 w w' () 5 rs v' := by
  have H := hid h
  have Hs := hid hs
  have hc := cell_of_one hs
  subst hx
  clear h hs
  go_enter Try.func36, Try.ntmps36
  go_wp2_with fail
  refine (set_x b base bx v fs d w 1 H.out hl hbase hbx hne hDv Hs.out 5).mono ?_
  rintro e w1 ⟨rfl, rs, v1, hr1, hR1⟩
  have HR1 := hid hR1
  clear hR1
  go_wp2
  go_end0
  exact ⟨rfl, _, _, HR1.out⟩
end

theorem LogAt.new {w : World} {b : Nat} {T : TypeId} (h : w.heap[b]? = some (.cells #[.slice none 0 0, .int .i64 0] T (0, 0))) (base : Nat) : LogAt w b base (.slice none 0 0) [] 0 :=
  ⟨cell_of_block h 0, cell_of_block h 1, free_of_block h 0, free_of_block h 1, ⟨rfl, .inl ⟨rfl, rfl⟩⟩, by simp [Value.ownBlock], by simp⟩
theorem LogAt.nil {w : World} {b base : Nat} {v : Value} (h : LogAt w b base v [] 0) : v = .slice none 0 0 ∨ ∃ g c, v = .slice (some ⟨g, 0, none⟩) 0 c := by
  rcases h.own.2 with ⟨rfl, hn⟩ | ⟨g, c, cur, rfl, _⟩
  · exact .inl rfl
  · exact .inr ⟨g, c, rfl⟩

set_option maxHeartbeats 400000 in
theorem awake09 (w : World) : Calls Try.prog 13 #[] w fun e w' => e = .returned (.bool true) ∧ Below w.heap.size w w' := by
  go_enter Try.func13, Try.ntmps13
  go_wp2_with fail
  have hL := LogAt.new (heap_old (heap_new w (.cells #[.slice none 0 0, .int .i64 0] 32)) (.cells #[.int .i64 1] 3)) w.heap.size
  have hs : InvX (w.heap.size + 1) () 1 ((w.alloc (.cells #[.slice none 0 0, .int .i64 0] 32)).alloc (.cells #[.int .i64 1] 3)) := heap_newk _ (by simp)
  have hB0 : Below w.heap.size w ((w.alloc (.cells #[.slice none 0 0, .int .i64 0] 32)).alloc (.cells #[.int .i64 1] 3)) := ((Below.refl _ _).alloc (Nat.le_refl _) _).alloc (by simp) _
  have hsz : w.heap.size + 2 ≤ ((w.alloc (.cells #[.slice none 0 0, .int .i64 0] 32)).alloc (.cells #[.int .i64 1] 3)).heap.size := by simp
  generalize (w.alloc (.cells #[.slice none 0 0, .int .i64 0] 32)).alloc (.cells #[.int .i64 1] 3) = w0 at hL hs hB0 hsz ⊢
  have HB0 := hid hB0
  refine (try_ran w.heap.size w.heap.size (fun k => k = w.heap.size + 1) (InvX (w.heap.size + 1)) (invX_stable _ _ (by omega)) _ [] 0 34 _ w0 1 hL (by omega) (fun _ => rfl) (fun k hk => by omega) (fun k hk => by simp [Value.ownBlock] at hk) (enters_a1 _ _) (fun _ _ => False) (fun c _ => c = 7) (fun w1 hL1 hF1 _ => (awake9_1 _ _ _ _ [] _ w1 1 hL1 (by simp) (Nat.le_trans (by omega) hF1.size) (Nat.lt_of_lt_of_le (by omega) hF1.size) (by omega) (fun k hk => by simp [Value.ownBlock] at hk) (hF1.heap hs (by omega)) (by simp)).mono ?_)).mono ?_
  · rintro e w3 ⟨rfl, rs, v', hR⟩
    exact ⟨(), 3, rs, v', hR, .inr ⟨7, by omega, rfl, rfl⟩⟩
  rintro e w1 ⟨c, rfl, K, s3, rs, v', hc, -, hL1, hrs, hM, hi, hF1⟩
  obtain ⟨_, rfl, rfl⟩ : c ≠ 0 ∧ s3 = 1 ∧ c = 7 := by
    rcases hc with ⟨_, h⟩ | h
    · exact h.elim
    · exact h
  rw [(hrs rfl).1] at hL1
  simp only [List.map_nil, List.append_nil] at hL1
  have hDv1 : ∀ k, some k = v'.ownBlock → ¬ k = w.heap.size + 1 := fun k hk e => by
    rcases hM k hk.symm with h | h
    · simp [Value.ownBlock] at h
    · omega
  have hvn : ∀ k, some k = v'.ownBlock → w.heap.size ≤ k := fun k hk => by
    rcases hM k hk.symm with h | h
    · simp [Value.ownBlock] at h
    · omega
  have HB1 : Hid (Below w.heap.size w w1) := hid (hB0.trans (hF1.below (by omega) (fun k hk h => by
    rcases h with h | h | h
    · omega
    · omega
    · simp [Value.ownBlock] at h)))
  have hsz1 := hF1.size
  have HL1 := hid hL1
  have Hi := hid hi
  have Hvn := hid hvn
  have HDv1 := hid hDv1
  clear hL hs hB0 hc hrs hM hF1 hL1 hi hvn hDv1 HB0
  go_wp2_with fail
  refine (try_ran w.heap.size w.heap.size (fun k => k = w.heap.size + 1) (InvX (w.heap.size + 1)) (invX_stable _ _ (by omega)) _ [] 0 36 _ w1 1 HL1.out (by omega) (fun _ => rfl) (fun k hk => by omega) HDv1.out (enters_a2 _ _) (fun _ s => s = 5) (fun c _ => False) (fun w2 hL2 hF2 _ => (awake9_2 _ _ _ _ [] _ w2 1 hL2 (by simp) (Nat.le_trans (by omega) hF2.size) (Nat.lt_of_lt_of_le (by omega) hF2.size) (by omega) HDv1.out (hF2.heap Hi.out (by omega)) rfl).mono ?_)).mono ?_
  · rintro e w3 ⟨rfl, rs, v', hR⟩
    exact ⟨(), 5, rs, v', hR, .inl ⟨_, rfl, rfl⟩⟩
  rintro e w2 ⟨c, rfl, K, s3, rs2, v2, hc, -, hL2, hrs2, hM2, hi2, hF2⟩
  obtain ⟨rfl, rfl⟩ : c = 0 ∧ s3 = 5 := by
    rcases hc with h | ⟨_, _, h⟩
    · exact h
    · exact h.elim
  have HB2 : Hid (Below w.heap.size w w2) := hid (HB1.out.trans (hF2.below (by omega) (fun k hk h => by
    rcases h with h | h | h
    · omega
    · omega
    · have := Hvn.out k h; omega)))
  have hx := cell_of_one hi2
  clear hc hL2 hrs2 hM2 hi2 hF2
  go_wp2
  go_ret
  exact ⟨rfl, HB2.out⟩

end Go.Proofs.Ytmdcalkfapcafaa
