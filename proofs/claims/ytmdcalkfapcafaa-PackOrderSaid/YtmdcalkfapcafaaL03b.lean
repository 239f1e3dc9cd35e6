/-
  Law 03's PackOrder.
-/
import Derived.Test.YtmdcalkfapcafaaL03a
import Derived.Deep.RegionHeld3
import Derived.Deep.RegionWith
import Derived.Deep.DeepCutAuto
namespace Go.Proofs.Ytmdcalkfapcafaa
open Go.RowKit

theorem be_num8 (a : Nat) (ha : a < 18446744073709551616) : be (num a 8) = a := by
  simp [be, num, numTo, List.range_succ]
  omega

theorem enters_po1 (a b c : Value) : Enters 21 #[a, b, c] := fun w => by kernel_rfl

set_option maxHeartbeats 400000 in
theorem po1_small (a b bs bb bn : Nat) (w : World) (ha : a < 18446744073709551616) (hs : w.heap[bs]? = some (.cells #[.string (S (num a 8))] 9 (0, 0))) (hb : w.heap[bb]? = some (.cells #[.int .u64 b] 35 (0, 0)))
    (hn : w.heap[bn]? = some (.cells #[.int .i64 0] 3 (0, 0))) (hsm : small a b) :
    Calls Try.prog 21 #[.pointer (some ⟨bs, 0, none⟩), .pointer (some ⟨bb, 0, none⟩), .pointer (some ⟨bn, 0, none⟩)] w fun e w' =>
      e = .returned (.tuple #[]) ∧ w'.heap[bn]? = some (.cells #[.int .i64 a] 3 (0, 0)) ∧ Fr (fun k => k = bn) w w' := by
  have l1 := lt_of_block hs
  have l2 := lt_of_block hb
  have l3 := lt_of_block hn
  have c1 := cell_of_one hs
  have c2 := cell_of_one hb
  have c3 := cell_of_one hn
  have f3 := free_of_one hn
  have Hn := hid hn
  clear hs hb hn
  have e1 : (num a 8).take 8 = num a 8 := by rw [List.take_of_length_le (by rw [num_length]; omega)]
  have e2 : be ((num a 8).take 8) = a := by rw [e1, be_num8 a ha]
  have hsm2 : small (be ((num a 8).take 8)) b := by rw [e2]; exact hsm
  have E2 := hid e2
  clear e1 e2
  go_enter Try.func21, Try.ntmps21
  go_region_with (first
    | (go_at_call 22; refine (read_any _ _).mono ?_; rintro e w' ⟨rfl, rfl⟩)
    | (go_at_call 23; refine (in_small_some _ _ 8 8 b _ (by exact heap_new w _) (by decide) (by rw [num_length]; omega) hsm2).mono ?_; rintro e w1 ⟨rfl, hI, hF⟩; have d0 := hF.heap (k := bn) (by exact heap_old Hn.out _) (by omega); have d3 := cell_of_one d0; have g3 := free_of_one d0; have D0 := hid d0; clear d0; have HF := hid hF; clear hF hI; rw [E2.out]))
  all_goals
    go_end0
    exact ⟨rfl, one_setCell D0.out, (Fr.trans (T := fun i => i = w.heap.size) (((Fr.refl (fun k => k = bn) w).alloc _).drew) HF.out (fun i hi h => by omega)).setCell (fun _ => rfl) _⟩

set_option maxHeartbeats 400000 in
theorem po1_big (a b bs bb bn : Nat) (w : World) (ha : a < 18446744073709551616) (hs : w.heap[bs]? = some (.cells #[.string (S (num a 8))] 9 (0, 0))) (hb : w.heap[bb]? = some (.cells #[.int .u64 b] 35 (0, 0)))
    (hsm : ¬ small a b) :
    Calls Try.prog 21 #[.pointer (some ⟨bs, 0, none⟩), .pointer (some ⟨bb, 0, none⟩), .pointer (some ⟨bn, 0, none⟩)] w fun e w' =>
      e = .panicked (fault 3) ∧ Below w.heap.size w w' := by
  have l1 := lt_of_block hs
  have l2 := lt_of_block hb
  have c1 := cell_of_one hs
  have c2 := cell_of_one hb
  clear hs hb
  have e1 : (num a 8).take 8 = num a 8 := by rw [List.take_of_length_le (by rw [num_length]; omega)]
  have hsm2 : ¬ small (be ((num a 8).take 8)) b := by rw [e1, be_num8 a ha]; exact hsm
  clear e1
  go_enter Try.func21, Try.ntmps21
  refine wp_region_any (by kernel_rfl) ?_
  refine wpAny_ready (rs := [0, 2]) (by kernel_rfl) (by simp) (AllReady.cons rfl (fun K hK => ?_) (AllReady.cons rfl (fun K hK => ?_) AllReady.nil))
  · go_simp
    refine hK _ _ ?_
    clear hK K
    refine wpAny_ready (rs := [1, 2]) (by kernel_rfl) (by simp) (AllReady.cons rfl (fun K hK => ?_) (AllReady.cons rfl (fun K hK => ?_) AllReady.nil))
    · go_simp
      (refine (read_any _ _).mono ?_; rintro e w' ⟨rfl, rfl⟩)
      refine hK _ _ ?_
      clear hK K
      refine wpAny_ready (rs := [2]) (by kernel_rfl) (by simp) (AllReady.cons rfl (fun K hK => ?_) AllReady.nil)
      go_simp
      refine hK _ _ ?_
      clear hK K
      refine wpAny_ready (rs := [3]) (by kernel_rfl) (by simp) (AllReady.cons rfl (fun K hK => ?_) AllReady.nil)
      go_simp
      (refine (in_small_big _ _ 8 8 b _ (by exact heap_new w _) (by decide) (by rw [num_length]; omega) hsm2).mono ?_; rintro e w1 ⟨rfl, hI, hF⟩; exact ⟨rfl, rfl, (Fr.trans (T := fun i => i = w.heap.size) (((Fr.refl (fun k => w.heap.size ≤ k) w).alloc _).drew) hF (fun i hi h => by omega)).below (Nat.le_refl _) (fun k hk h => by omega)⟩)
    · go_simp
      refine hK _ _ ?_
      clear hK K
      refine wpAny_ready (rs := [1]) (by kernel_rfl) (by simp) (AllReady.cons rfl (fun K hK => ?_) AllReady.nil)
      go_simp
      (refine (read_any _ _).mono ?_; rintro e w' ⟨rfl, rfl⟩)
      refine hK _ _ ?_
      clear hK K
      refine wpAny_ready (rs := [3]) (by kernel_rfl) (by simp) (AllReady.cons rfl (fun K hK => ?_) AllReady.nil)
      go_simp
      (refine (in_small_big _ _ 8 8 b _ (by exact heap_new w _) (by decide) (by rw [num_length]; omega) hsm2).mono ?_; rintro e w1 ⟨rfl, hI, hF⟩; exact ⟨rfl, rfl, (Fr.trans (T := fun i => i = w.heap.size) (((Fr.refl (fun k => w.heap.size ≤ k) w).alloc _).drew) hF (fun i hi h => by omega)).below (Nat.le_refl _) (fun k hk h => by omega)⟩)
  · go_simp
    refine hK _ _ ?_
    clear hK K
    refine wpAny_ready (rs := [0]) (by kernel_rfl) (by simp) (AllReady.cons rfl (fun K hK => ?_) AllReady.nil)
    go_simp
    refine hK _ _ ?_
    clear hK K
    refine wpAny_ready (rs := [1]) (by kernel_rfl) (by simp) (AllReady.cons rfl (fun K hK => ?_) AllReady.nil)
    go_simp
    (refine (read_any _ _).mono ?_; rintro e w' ⟨rfl, rfl⟩)
    refine hK _ _ ?_
    clear hK K
    refine wpAny_ready (rs := [3]) (by kernel_rfl) (by simp) (AllReady.cons rfl (fun K hK => ?_) AllReady.nil)
    go_simp
    (refine (in_small_big _ _ 8 8 b _ (by exact heap_new w _) (by decide) (by rw [num_length]; omega) hsm2).mono ?_; rintro e w1 ⟨rfl, hI, hF⟩; exact ⟨rfl, rfl, (Fr.trans (T := fun i => i = w.heap.size) (((Fr.refl (fun k => w.heap.size ≤ k) w).alloc _).drew) hF (fun i hi h => by omega)).below (Nat.le_refl _) (fun k hk h => by omega)⟩)

theorem be_cons (c : UInt8) (l : List UInt8) : be (c :: l) = c.toNat * 256 ^ l.length + be l := by
  have h : ∀ (l : List UInt8) (n : Nat), l.foldl (fun n c => 256 * n + c.toNat) n = n * 256 ^ l.length + l.foldl (fun n c => 256 * n + c.toNat) 0 := by
    intro l
    induction l with
    | nil => intro n; simp
    | cons d t ih =>
      intro n
      simp only [List.foldl_cons, List.length_cons, Nat.mul_zero, Nat.zero_add]
      rw [ih (256 * n + d.toNat), ih d.toNat, Nat.pow_succ, Nat.add_mul]
      rw [show 256 * n * 256 ^ t.length = n * (256 ^ t.length * 256) from by rw [Nat.mul_comm 256 n, Nat.mul_assoc, Nat.mul_comm 256]]
      omega
  unfold be
  simp only [List.foldl_cons, Nat.mul_zero, Nat.zero_add]
  exact h l _
theorem bytesLess_be : ∀ (l m : List UInt8), l.length = m.length → Op.bytesLess l m = decide (be l < be m)
  | [], [], _ => by simp [Op.bytesLess, be]
  | [], _ :: _, h => by simp at h
  | _ :: _, [], h => by simp at h
  | c :: l, d :: m, h => by
    have hl : l.length = m.length := by simpa using h
    have ih := bytesLess_be l m hl
    have h1 := be_le l
    have h2 := be_le m
    rw [be_cons, be_cons, hl]
    rw [hl] at h1
    generalize 256 ^ m.length = k at *
    unfold Op.bytesLess
    rw [ih]
    by_cases hc : c.toNat < d.toNat
    · have h3 : (c.toNat + 1) * k ≤ d.toNat * k := Nat.mul_le_mul_right _ hc
      rw [Nat.add_mul, Nat.one_mul] at h3
      have h4 : c < d := UInt8.lt_iff_toNat_lt.2 hc
      simp [h4]
      omega
    · have h4 : ¬ c < d := fun h => hc (UInt8.lt_iff_toNat_lt.1 h)
      by_cases he : c = d
      · subst he
        simp
      · have h5 : d.toNat < c.toNat := by
          have : c.toNat ≠ d.toNat := fun e => he (UInt8.toNat_inj.1 e)
          omega
        have h3 : (d.toNat + 1) * k ≤ c.toNat * k := Nat.mul_le_mul_right _ h5
        rw [Nat.add_mul, Nat.one_mul] at h3
        have h6 : (c == d) = false := beq_eq_false_iff_ne.2 he
        rw [h6]
        simp [h4]
        omega
theorem num8_lt (a b : Nat) (ha : a < 18446744073709551616) (hb : b < 18446744073709551616) : Op.bytesLess (num a 8) (num b 8) = decide (a < b) := by
  rw [bytesLess_be _ _ (by simp [num_length]), be_num8 a ha, be_num8 b hb]
theorem num8_eq (a b : Nat) (ha : a < 18446744073709551616) (hb : b < 18446744073709551616) : (num a 8 == num b 8) = decide (a = b) := by
  by_cases h : a = b
  · simp [h]
  · simp only [h, decide_false]
    rw [beq_eq_false_iff_ne]
    intro e
    exact h (by rw [← be_num8 a ha, ← be_num8 b hb, e])

/-- Two Outs side by side, and b's own cell. -/
structure Two (w W : World) (b b1 b2 : Nat) (v1 : Value) (l1 : List UInt8) (v2 : Value) (l2 : List UInt8) : Prop where
  below : Below w.heap.size w W
  bb : W.heap[w.heap.size]? = some (.cells #[.int .u64 b] 35 (0, 0))
  o1 : OutAt W b1 (w.heap.size + 1) v1 l1
  o2 : OutAt W b2 (w.heap.size + 1) v2 l2
  lt1 : w.heap.size < b1
  lt2 : w.heap.size < b2
  ne : b1 ≠ b2
  rows : v1.ownBlock = none ∨ v1.ownBlock ≠ v2.ownBlock
theorem Two.swap {w W : World} {b b1 b2 : Nat} {v1 v2 : Value} {l1 l2 : List UInt8} (h : Two w W b b1 b2 v1 l1 v2 l2) : Two w W b b2 b1 v2 l2 v1 l1 :=
  ⟨h.below, h.bb, h.o2, h.o1, h.lt2, h.lt1, h.ne.symm, by
    rcases h.rows with h1 | h1
    · cases h2 : v2.ownBlock with
      | none => exact .inl rfl
      | some k => exact .inr (by rw [h1]; simp)
    · exact .inr h1.symm⟩
theorem Two.fr {w W W' : World} {b b1 b2 : Nat} {v1 v2 : Value} {l1 l2 : List UInt8} (h : Two w W b b1 b2 v1 l1 v2 l2) (hF : Fr (fun _ => False) W W') : Two w W' b b1 b2 v1 l1 v2 l2 :=
  ⟨h.below.trans (hF.below h.below.size fun _ _ h => h), hF.heap h.bb id, h.o1.fr hF id (fun _ _ => id), h.o2.fr hF id (fun _ _ => id), h.lt1, h.lt2, h.ne, h.rows⟩
theorem Two.alloc {w W : World} {b b1 b2 : Nat} {v1 v2 : Value} {l1 l2 : List UInt8} (h : Two w W b b1 b2 v1 l1 v2 l2) (o : Obj) : Two w (W.alloc o) b b1 b2 v1 l1 v2 l2 := h.fr ((Fr.refl _ _).alloc o)
theorem Two.drew {w W : World} {b b1 b2 : Nat} {v1 v2 : Value} {l1 l2 : List UInt8} (h : Two w W b b1 b2 v1 l1 v2 l2) : Two w W.drew b b1 b2 v1 l1 v2 l2 := h.fr ((Fr.refl _ _).drew)
theorem Two.step {w W W' : World} {b b1 b2 : Nat} {v1 v2 : Value} {l1 l2 m : List UInt8} (h : Two w W b b1 b2 v1 l1 v2 l2) (hE : OutEnd W b1 (w.heap.size + 1) v1 m W') : ∃ v, Two w W' b b1 b2 v m v2 l2 := by
  obtain ⟨v, h1, h2, h3⟩ := hE
  have hr2 := h.o1.row_ne (k := b2) h.o2.cell (by decide)
  have hs : ∀ k, some k = v2.ownBlock → ¬ outs b1 v1 k := by
    rintro k hk (rfl | hk1)
    · exact h.o2.row_ne h.o1.cell (by decide) hk
    · rcases h.rows with hn | hn
      · rw [hn] at hk1; cases hk1
      · exact hn (hk1.symm.trans hk)
  refine ⟨v, h.below.trans (h3.below h.below.size ?_), h3.heap h.bb ?_, h1, h.o2.fr h3 ?_ hs, h.lt1, h.lt2, h.ne, ?_⟩
  · rintro k hk (rfl | hk1)
    · have := h.lt1; omega
    · have := (h.o1.lt hk1).1; omega
  · rintro (e | hk1)
    · have := h.lt1; omega
    · have := (h.o1.lt hk1).1; omega
  · rintro (e | hk1)
    · exact h.ne e.symm
    · exact hr2 hk1
  · rcases h2 with h2 | ⟨g, h2, hg⟩
    · rcases h.rows with hn | hn
      · exact .inl (h2.trans hn)
      · exact .inr (by rw [h2]; exact hn)
    · right
      rw [h2]
      intro e
      have := (h.o2.lt e).2
      omega

/-- What PackOrder does up to its first test. -/
structure Mid (w wx : World) (a b g : Nat) : Prop where
  str : wx.heap[g]? = some (.cells #[.string (S (num a 8))] 9 (0, 0))
  bb : wx.heap[w.heap.size]? = some (.cells #[.int .u64 b] 35 (0, 0))
  lt : w.heap.size < g
  below : Below w.heap.size w wx

theorem mid_alloc {w W : World} {a b b1 b2 : Nat} {v1 v2 : Value} {l1 l2 : List UInt8} (h : Two w W b b1 b2 v1 l1 v2 l2) : Mid w (W.alloc (.cells #[.string (S (num a 8))] 9)) a b W.heap.size :=
  ⟨heap_new _ _, heap_old h.bb _, lt_of_block h.bb, h.below.alloc h.below.size _⟩
theorem mid_set {w W : World} {a b b1 b2 g : Nat} {v1 v2 x : Value} {l1 l2 : List UInt8} (h : Two w W b b1 b2 v1 l1 v2 l2) (hg : W.heap[g]? = some (.cells #[x] 9 (0, 0))) (hlt : w.heap.size < g) : Mid w (W.setCell ⟨g, 0, none⟩ (.string (S (num a 8)))) a b g :=
  ⟨one_setCell hg, heap_set_other h.bb (by simp only []; omega) _, hlt, h.below.setCell (by simp only []; omega) _⟩

/-- What the Guard leaves. -/
structure Post (w W W' : World) (a b g n : Nat) (x : Int) : Prop where
  str : W'.heap[g]? = some (.cells #[.string (S (num a 8))] 9 (0, 0))
  bb : W'.heap[w.heap.size]? = some (.cells #[.int .u64 b] 35 (0, 0))
  nn : W'.heap[n]? = some (.cells #[.int .i64 x] 3 (0, 0))
  below : Below w.heap.size w W'

theorem po_guard {w W : World} {a b g n : Nat} (ha : a < 18446744073709551616) (hM : Mid w W a b g) (hn : W.heap[n]? = some (.cells #[.int .i64 0] 3 (0, 0))) (hgn : g ≠ n) (hNn : w.heap.size < n) :
    Calls Try.prog 10 #[.func (.func 21) #[] #[.pointer (some ⟨g, 0, none⟩), .pointer (some ⟨w.heap.size, 0, none⟩), .pointer (some ⟨n, 0, none⟩)]] W fun e W' =>
      ((small a b ∧ e = .returned (.int .i64 0) ∧ Post w W W' a b g n a) ∨ (¬ small a b ∧ e = .returned (.int .i64 3) ∧ Post w W W' a b g n 0)) := by
  have lg := lt_of_block hM.str
  have lb := lt_of_block hM.bb
  have ln := lt_of_block hn
  by_cases hsm : small a b
  · refine (guard_any _ _ W (fun c W' => c = 0 ∧ Post w W W' a b g n a) (enters_po1 _ _ _) ((po1_small a b g w.heap.size n _ ha (heap_old hM.str _) (heap_old hM.bb _) (heap_old hn _) hsm).mono ?_)).mono ?_
    · rintro e W' ⟨rfl, h1, h2⟩
      refine ⟨h2.heap (heap_new _ _) (by omega), .inl ⟨_, rfl, rfl, h2.heap (heap_old hM.str _) hgn, h2.heap (heap_old hM.bb _) (by omega), h1, ?_⟩⟩
      exact (hM.below.alloc hM.below.size _).trans (h2.below (by have := hM.below.size; simp; omega) (fun k hk e => by omega))
    · rintro e W' ⟨c, W2, rfl, ⟨rfl, h⟩, hF⟩
      exact .inl ⟨hsm, rfl, hF.heap h.str (by omega), hF.heap h.bb (by omega), hF.heap h.nn (by omega), h.below.trans (hF.below h.below.size (fun k hk e => by omega))⟩
  · refine (guard_any _ _ W (fun c W' => c = 3 ∧ Post w W W' a b g n 0) (enters_po1 _ _ _) ((po1_big a b g w.heap.size n _ ha (heap_old hM.str _) (heap_old hM.bb _) hsm).mono ?_)).mono ?_
    · rintro e W' ⟨rfl, h2⟩
      have hb := fun (k : Nat) (hk : k < W.heap.size) => (h2.block k (by simp; omega)).trans (Below.heap_alloc W _ k hk)
      refine ⟨(h2.block _ (by simp)).trans (heap_new _ _), .inr ⟨_, rfl, rfl, (hb _ lg).trans hM.str, (hb _ lb).trans hM.bb, (hb _ ln).trans hn, ?_⟩⟩
      exact (hM.below.alloc hM.below.size _).trans (h2.mono (by have := hM.below.size; simp; omega))
    · rintro e W' ⟨c, W2, rfl, ⟨rfl, h⟩, hF⟩
      exact .inr ⟨hsm, rfl, hF.heap h.str (by omega), hF.heap h.bb (by omega), hF.heap h.nn (by omega), h.below.trans (hF.below h.below.size (fun k hk e => by omega))⟩

set_option maxHeartbeats 1000000 in
theorem pack_order (a b : Nat) (ha : a < 18446744073709551616) (hb : b < 18446744073709551616) (w : World) :
    Calls Try.prog 5 #[.int .u64 a, .int .u64 b] w fun e w' => e = .returned (.bool true) ∧ Below w.heap.size w w' := by
  go_enter Try.func5, Try.ntmps5
  go_wp2_with fail
  refine (awake03 _).mono ?_
  rintro e w1 ⟨rfl, hB1⟩
  have h0 : w1.heap[w.heap.size]? = some (.cells #[.int .u64 b] 35 (0, 0)) := (hB1.block _ (by simp)).trans (heap_new _ _)
  have hB : Below w.heap.size w w1 := ((Below.refl w.heap.size w).alloc (Nat.le_refl _) _).trans (hB1.mono (by simp))
  have hlt : w.heap.size < w1.heap.size := lt_of_block h0
  have hc0 := cell_of_one h0
  have H0 := hid h0
  have HB := hid hB
  clear hB1 h0 hB
  have hT0 : Two w ((w1.alloc (.cells #[.slice none 0 0] 38)).alloc (.cells #[.slice none 0 0] 38)) b w1.heap.size (w1.heap.size + 1) (.slice none 0 0) [] (.slice none 0 0) [] := by
    have e1 : OutAt ((w1.alloc (.cells #[.slice none 0 0] 38)).alloc (.cells #[.slice none 0 0] 38)) (w1.heap.size + 1) (w.heap.size + 1) (.slice none 0 0) [] := by
      simpa using OutAt.new (w1.alloc (.cells #[.slice none 0 0] 38)) (w.heap.size + 1)
    exact ⟨(HB.out.alloc (by omega) _).alloc (by simp; omega) _, heap_old (heap_old H0.out _) _, (OutAt.new w1 _).fr ((Fr.refl (fun _ => False) _).alloc _) id (fun _ _ => id), e1, hlt, by omega, by omega, .inl rfl⟩
  have HT0 := hid hT0
  clear hT0
  have hX := cellA (by simp; omega) (cellA hlt hc0 (.cells #[.slice none 0 0] 38)) (.cells #[.slice none 0 0] 38)
  have hY := cellA (by simp; omega) hX (.cells #[.string ⟨#[]⟩] 9)
  go_upto_region 4 with fail
  go_cut [7, 8] (fun v7 v8 wx => ∃ g : Nat, v7 = .pointer (some ⟨g, 0, none⟩) ∧ v8 = .string (S (num b 8)) ∧ Mid w wx a b g)
  case first =>
    go_region_held3 (fun w' => w'.cell? ⟨w.heap.size, 0, none⟩ = some (.int .u64 b)) (first | exact c4 | exact c2 | exact cellA l4 c4 _ | exact cellA l2 c2 _ | exact hX | exact hY | exact cellS c4 (by simp only []; omega) _ | exact cellS (cellA l4 c4 _) (by simp only []; omega) _) (first
      | (go_at_call_of 19 (Value.pointer (some { block := w1.heap.size, off := 0 })); have hW := HT0.out.drew; refine (out_num _ (w.heap.size + 1) (.slice none 0 0) [] a 8 8 _ (by exact hW.o1) (by decide) (by first | omega | (simp; omega)) (by simp)).mono ?_; rintro e w2 ⟨rfl, hE⟩; obtain ⟨v1, hT1⟩ := hW.step hE; have c2 := cell_of_one hT1.bb; have l2 := lt_of_block hT1.bb; have HT1 := hid hT1; clear hT1 hE hW)
      | (go_at_call_of 19 (Value.pointer (some { block := w1.heap.size, off := 0 })); have hW := (HT0.out.alloc (.cells #[.string ⟨#[]⟩] 9)).drew; refine (out_num _ (w.heap.size + 1) (.slice none 0 0) [] a 8 8 _ (by exact hW.o1) (by decide) (by first | omega | (simp; omega)) (by simp)).mono ?_; rintro e w2 ⟨rfl, hE⟩; obtain ⟨v1, hT1⟩ := hW.step hE; have c2 := cell_of_one hT1.bb; have l2 := lt_of_block hT1.bb; have hg := OutEnd.other hW.o1 hE (heap_new _ (.cells #[.string ⟨#[]⟩] 9)) (by decide) (by simp only [World.size_alloc]; omega); simp only [World.size_alloc] at hg; have cg := cell_of_one hg; have fg := free_of_one hg; have lg := lt_of_block hg; have HG := hid hg; clear hg; have HT1 := hid hT1; clear hT1 hE hW)
      | (go_at_call_of 20 (Value.pointer (some { block := w1.heap.size, off := 0 })); refine (out_bytes _ (w.heap.size + 1) v1 ([] ++ num a 8) _ (by first | exact HT1.out.o1 | exact (HT1.out.alloc _).o1)).mono ?_; rintro e w3 ⟨rfl, rfl⟩)
      | (go_at_call_of 19 (Value.pointer (some { block := w1.heap.size + 1, off := 0 })); have hW := HT1.out.swap; have hgg := HG.out; refine (out_num _ (w.heap.size + 1) (.slice none 0 0) [] b 8 8 _ (by exact hW.o1) (by decide) (by first | omega | (simp; omega)) (by simp)).mono ?_; rintro e w4 ⟨rfl, hE⟩; obtain ⟨v2, hT2⟩ := hW.step hE; have c4 := cell_of_one hT2.bb; have l4 := lt_of_block hT2.bb; have hg := OutEnd.other hW.o1 hE hgg (by decide) (by omega); have cg4 := cell_of_one hg; have fg4 := free_of_one hg; have HG4 := hid hg; clear hg; have HT2 := hid hT2; clear hT2 hE hW)
      | (go_at_call_of 19 (Value.pointer (some { block := w1.heap.size + 1, off := 0 })); have hW := HT1.out.swap; refine (out_num _ (w.heap.size + 1) (.slice none 0 0) [] b 8 8 _ (by exact hW.o1) (by decide) (by first | omega | (simp; omega)) (by simp)).mono ?_; rintro e w4 ⟨rfl, hE⟩; obtain ⟨v2, hT2⟩ := hW.step hE; have c4 := cell_of_one hT2.bb; have l4 := lt_of_block hT2.bb; have HT2 := hid hT2; clear hT2 hE hW)
      | (go_at_call_of 19 (Value.pointer (some { block := w1.heap.size + 1, off := 0 })); have hW := (HT1.out.alloc (.cells #[.string ⟨#[]⟩] 9)).swap; refine (out_num _ (w.heap.size + 1) (.slice none 0 0) [] b 8 8 _ (by exact hW.o1) (by decide) (by first | omega | (simp; omega)) (by simp)).mono ?_; rintro e w4 ⟨rfl, hE⟩; obtain ⟨v2, hT2⟩ := hW.step hE; have c4 := cell_of_one hT2.bb; have l4 := lt_of_block hT2.bb; have hg := OutEnd.other hW.o1 hE (heap_new _ (.cells #[.string ⟨#[]⟩] 9)) (by decide) (by have := lt_of_block HT1.out.o2.cell; omega); have cg4 := cell_of_one hg; have fg4 := free_of_one hg; have HG4 := hid hg; clear hg; have HT2 := hid hT2; clear hT2 hE hW)
      | (go_at_call_of 20 (Value.pointer (some { block := w1.heap.size + 1, off := 0 })); refine (out_bytes _ (w.heap.size + 1) v2 ([] ++ num b 8) _ (by first | exact HT2.out.o1 | exact (HT2.out.alloc _).o1)).mono ?_; rintro e w5 ⟨rfl, rfl⟩))
    all_goals
      go_wp2_with fail
      go_meet
      first
        | exact ⟨_, rfl, rfl, mid_alloc HT2.out⟩
        | exact ⟨_, rfl, rfl, mid_set HT2.out HG4.out (by omega)⟩
  case rest =>
    obtain ⟨g, rfl, rfl, hM⟩ := hcut
    clear hX hY
    have hMa : Mid w (wc.alloc (.cells #[.int .i64 0] 3)) a b g := ⟨heap_old hM.str _, heap_old hM.bb _, hM.lt, hM.below.alloc hM.below.size _⟩
    have HG := hid (po_guard ha hMa (heap_new _ _) (by have := lt_of_block hM.str; omega) (lt_of_block hM.bb))
    clear hM hMa
    have x1 := num8_lt a b ha hb
    have x2 := num8_eq a b ha hb
    rw [← S_toList (num a 8), ← S_toList (num b 8)] at x1 x2
    rcases Nat.lt_trichotomy a b with hab | hab | hab
    · have x3 : Op.bytesLess (S (num a 8)).toList (S (num b 8)).toList = true := by rw [x1]; simp; try omega
      have x4 : ((S (num a 8)).toList == (S (num b 8)).toList) = false := by rw [x2]; simp; try omega
      have x5 : decide (a < b) = true := by simp; try omega
      have x6 : ((a : Int) == (b : Int)) = false := by simp; try omega
      clear x1 x2
      go_wp2_with fail
      refine HG.out.mono ?_
      rintro e W3 (⟨hsm, rfl, hP⟩ | ⟨hsm, rfl, hP⟩)
      · have q1 := cell_of_one hP.str
        have q2 := cell_of_one hP.bb
        have q3 := cell_of_one hP.nn
        have HP := hid hP
        clear hP
        obtain ⟨hle, h62⟩ := hsm
        have d1 : decide (b < a) = false := by simp; omega
        have d2 : decide ((4611686018427387904 : Int) < (a : Int)) = false := by simp; omega
        have d3 : IntKind.u64.wrap (a : Int) = (a : Int) := by rw [IntKind.wrap_u64]; omega
        go_wp2
        go_ret
        exact ⟨rfl, HP.out.below⟩
      · have q1 := cell_of_one hP.str
        have q2 := cell_of_one hP.bb
        have q3 := cell_of_one hP.nn
        have HP := hid hP
        clear hP
        unfold small at hsm
        have d1 : decide (b < a) = false := by simp; omega
        have d2 : decide ((4611686018427387904 : Int) < (a : Int)) = true := by simp; omega
        clear hsm
        go_wp2
        go_ret
        exact ⟨rfl, HP.out.below⟩
    · obtain rfl : b = a := hab.symm
      have x3 : Op.bytesLess (S (num b 8)).toList (S (num b 8)).toList = false := by rw [x1]; simp
      clear x1 x2
      go_wp2_with fail
      refine HG.out.mono ?_
      rintro e W3 (⟨hsm, rfl, hP⟩ | ⟨hsm, rfl, hP⟩)
      · have q1 := cell_of_one hP.str
        have q2 := cell_of_one hP.bb
        have q3 := cell_of_one hP.nn
        have HP := hid hP
        clear hP
        obtain ⟨hle, h62⟩ := hsm
        have d1 : decide (b < b) = false := by simp
        have d2 : decide ((4611686018427387904 : Int) < (b : Int)) = false := by simp; omega
        have d3 : IntKind.u64.wrap (b : Int) = (b : Int) := by rw [IntKind.wrap_u64]; omega
        go_wp2
        go_ret
        exact ⟨rfl, HP.out.below⟩
      · have q1 := cell_of_one hP.str
        have q2 := cell_of_one hP.bb
        have q3 := cell_of_one hP.nn
        have HP := hid hP
        clear hP
        unfold small at hsm
        have d1 : decide (b < b) = false := by simp
        have d2 : decide ((4611686018427387904 : Int) < (b : Int)) = true := by simp; omega
        clear hsm
        go_wp2
        go_ret
        exact ⟨rfl, HP.out.below⟩
    · have x3 : Op.bytesLess (S (num a 8)).toList (S (num b 8)).toList = false := by rw [x1]; simp; try omega
      have x4 : ((S (num a 8)).toList == (S (num b 8)).toList) = false := by rw [x2]; simp; try omega
      have x5 : decide (a < b) = false := by simp; try omega
      have x6 : ((a : Int) == (b : Int)) = false := by simp; try omega
      clear x1 x2
      go_wp2_with fail
      refine HG.out.mono ?_
      rintro e W3 (⟨hsm, rfl, hP⟩ | ⟨hsm, rfl, hP⟩)
      · exact absurd hsm.1 (by omega)
      · have q1 := cell_of_one hP.str
        have q2 := cell_of_one hP.bb
        have q3 := cell_of_one hP.nn
        have HP := hid hP
        clear hP
        unfold small at hsm
        have d1 : decide (b < a) = true := by simp; omega
        clear hsm
        go_wp2
        go_ret
        exact ⟨rfl, HP.out.below⟩

theorem word_of_wf {x : Int} (h : (Lit.int .u64 x).wf = true) : ∃ n : Nat, x = n ∧ n < 18446744073709551616 := by
  simp [Lit.wf, IntKind.min, IntKind.max, IntKind.signed, IntKind.bits] at h
  exact ⟨x.toNat, by omega, by omega⟩

theorem walkPackOrder (w : World) (a b : Int) (ha : (Lit.int .u64 a).wf = true) (hb : (Lit.int .u64 b).wf = true) :
    Calls Try.prog 5 #[.int .u64 a, .int .u64 b] w fun e w' => e = .returned (.bool true) ∧ Below w.heap.size w w' := by
  obtain ⟨a, rfl, ha'⟩ := word_of_wf ha
  obtain ⟨b, rfl, hb'⟩ := word_of_wf hb
  exact pack_order a b ha' hb' w

end Go.Proofs.Ytmdcalkfapcafaa
