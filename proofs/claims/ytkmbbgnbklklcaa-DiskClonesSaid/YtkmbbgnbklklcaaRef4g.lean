/-
  The document's disk: Crash.
-/
import Derived.Test.YtkmbbgnbklklcaaRef4f
import Derived.Test.YtkmbbgnbklklcaaL04e
namespace Go.Proofs.Ytkmbbgnbklklcaa
open Go.RowKit

theorem loose_nodup (D : Dsk) : (loose D).Nodup := List.Pairwise.filter _ List.nodup_range
theorem nodup_take {l : List Nat} (h : l.Nodup) {q : Nat} (hq : q < l.length) : l.getD q 0 ∉ l.take q := by
  have h1 : l.getD q 0 = l[q] := by simp [List.getD, hq]
  rw [h1]
  intro hm
  obtain ⟨j, hj, e⟩ := List.mem_iff_getElem.1 hm
  rw [List.length_take] at hj
  rw [List.getElem_take] at e
  exact List.pairwise_iff_getElem.1 h j q (by omega) hq (by omega) e
theorem row_upd {cur : Array Value} {n i : Nat} {T : Nat → List UInt8} {s : List UInt8} (hc : ∀ j, j < n → cur[j]? = some (.string (S (T j)))) (hi : i < n) : ∀ j, j < n → (cur.setIfInBounds i (.string (S s)))[j]? = some (.string (S (upd T i s j))) := fun j hj => by
  have hci := (Array.getElem?_eq_some_iff.1 (hc i hi)).1
  rw [Array.getElem?_setIfInBounds]
  unfold upd
  by_cases hji : j = i
  · subst hji
    rw [if_pos rfl, if_pos hci, if_pos rfl]
  · rw [if_neg (fun e => hji e.symm), if_neg hji]
    exact hc j hj
/-- What a step of a crash leaves, by what was there at first. -/
theorem tear_step (D : Dsk) (cs : Nat → Nat) {q : Nat} (hq : q < (loose D).length) : (D.tearN cs (loose D) (q + 1)).sure = upd (D.tearN cs (loose D) q).sure ((loose D).getD q 0) (tornAt D ((loose D).getD q 0) (cs q)) := by
  have h := tear_keep D cs (loose D) q (by omega) _ (nodup_take (loose_nodup D) hq)
  show upd (D.tearN cs (loose D) q).sure ((loose D).getD q 0) (tornAt (D.tearN cs (loose D) q) ((loose D).getD q 0) (cs q)) = _
  unfold tornAt
  rw [h.1, h.2]
/-- Where numbers lie. -/
def IntsAt (w : World) (ao : Option Addr) (n : Nat) (cs : Nat → Int) : Prop := 0 < n → ∃ a, ao = some a ∧ a.block < w.heap.size ∧ ∀ k, k < n → w.cell? (a.add k) = some (.int .i64 (cs k))
theorem IntsAt.below {w w' : World} {ao : Option Addr} {n : Nat} {cs : Nat → Int} (h : IntsAt w ao n cs) (hB : Below w.heap.size w w') : IntsAt w' ao n cs := fun h0 => by
  obtain ⟨a, h1, h2, h3⟩ := h h0
  exact ⟨a, h1, Nat.lt_of_lt_of_le h2 hB.size, fun k hk => (hB.cell (p := a.add k) (by rw [add_block]; exact h2)).trans (h3 k hk)⟩
theorem CutsAt.ints {w : World} {b g : Nat} {ao : Option Addr} {n : Nat} {cs : Nat → Int} (h : CutsAt w b g ao n cs) : IntsAt w ao n cs := fun h0 => by
  obtain ⟨a, h1, _, _, h4, h5⟩ := h h0
  exact ⟨a, h1, h4, h5⟩
/-- A row of texts that begins behind B. -/
def SRowB (B : Nat) (w : World) (ao : Option Addr) (n : Nat) (T : Nat → List UInt8) : Prop :=
  0 < n → ∃ g cur, ao = some ⟨g, 0, none⟩ ∧ w.heap[g]? = some (.cells cur 9 (0, 0)) ∧ B ≤ g ∧ ∀ i, i < n → cur[i]? = some (.string (S (T i)))
theorem SRowB.row {B : Nat} {w : World} {ao : Option Addr} {n : Nat} {T : Nat → List UInt8} (h : SRowB B w ao n T) : SRow w ao n T := fun h0 => by
  obtain ⟨g, cur, h1, h2, _, h3⟩ := h h0
  exact ⟨g, cur, h1, h2, h3⟩
theorem SRowB.fr {B : Nat} {w w' : World} {ao : Option Addr} {n : Nat} {T : Nat → List UInt8} (h : SRowB B w ao n T) {R : Nat → Prop} (hF : Fr R w w') (hR : ∀ g c, 0 < n → w.heap[g]? = some (.cells c 9 (0, 0)) → ¬ R g) : SRowB B w' ao n T := fun h0 => by
  obtain ⟨g, cur, h1, h2, hb, h3⟩ := h h0
  exact ⟨g, cur, h1, hF.heap h2 (hR g cur h0 h2), hb, h3⟩
theorem SRowB.below {B : Nat} {w w' : World} {ao : Option Addr} {n : Nat} {T : Nat → List UInt8} (h : SRowB B w ao n T) (hB : Below w.heap.size w w') : SRowB B w' ao n T := h.fr (Fr.ofBelow hB (fun _ => False)) fun _ _ _ _ => id
theorem SRowB.ofOwn {w : World} {base n cap : Nat} {ao : Option Addr} {T : Nat → List UInt8} (h : w.ownsRow base 9 1 (.slice ao n cap) n (strs T n)) : SRowB base w ao n T := fun h0 => SRow.ofOwnAt h h0 |>.elim fun g h => h.elim fun c h => ⟨g, c, h.1, h.2.1, h.2.2.1, h.2.2.2⟩
theorem ref4_loose_v {w : World} {a1 : Option Addr} {c1 : Nat} {a2 : Option Addr} {c2 : Nat} {D : Dsk} (h1 : SRow w a1 D.n D.sure) (h2 : SRow w a2 D.n D.now) (hn : D.n ≤ 4096) :
    Calls Try.prog 24 #[.agg #[.slice a1 D.n c1, .slice a2 D.n c2, .int .i64 D.rl, .bool D.dead]] w fun e w' => ∃ v', e = .returned v' ∧ w'.ownsRow w.heap.size 3 1 v' (loose D).length (natCells (loose D)) ∧ Below w.heap.size w w' := ref4_loose ⟨a1, c1, a2, c2, rfl, h1, h2⟩ hn

set_option maxRecDepth 100000 in
set_option maxHeartbeats 2000000 in
theorem ref4_crash {w : World} {v : Value} {D : Dsk} (h : RefAt w v D) (hn : D.n ≤ 4096) (hlen : ∀ i, i < D.n → (D.sure i).length = 64 ∧ (D.now i).length = 64) (ao : Option Addr) (n cap : Nat) (cs : Nat → Int) (hC : IntsAt w ao n cs) :
    Calls Try.prog 26 #[v, .slice ao n cap] w fun e w' => ∃ v', e = .returned v' ∧ RefAt w' v' (D.crash n cs) ∧ Below w.heap.size w w' := by
  obtain ⟨i0, hi, hz0, hz1, hz2⟩ := info_parts Try.infoString
  obtain ⟨a1, c1, a2, c2, rfl, h1, h2⟩ := h
  unfold rv
  have hlen1 : 0 + D.n ≤ maxLen := by unfold maxLen; omega
  have hlen2 : (0 + D.n) * 16 ≤ 140737488355328 := by omega
  have Hlen := hid hlen
  have HC := hid hC
  clear hC hlen
  go_enter Try.func26, Try.ntmps26
  go_upto_region 1 with fail
  have hd := heap_old (heap_new w (.cells #[.slice a1 D.n c1, .slice a2 D.n c2, .int .i64 D.rl, .bool D.dead] 52)) (.cells #[.slice none 0 0, .slice none 0 0, .int .i64 0, .bool false] 52)
  have hr := heap_newk (w := w.alloc (.cells #[.slice a1 D.n c1, .slice a2 D.n c2, .int .i64 D.rl, .bool D.dead] 52)) (k := w.heap.size + 1) (.cells #[.slice none 0 0, .slice none 0 0, .int .i64 0, .bool false] 52) (by simp)
  have hB0 : Below w.heap.size w ((w.alloc (.cells #[.slice a1 D.n c1, .slice a2 D.n c2, .int .i64 D.rl, .bool D.dead] 52)).alloc (.cells #[.slice none 0 0, .slice none 0 0, .int .i64 0, .bool false] 52)) := ((Below.refl _ _).alloc (Nat.le_refl _) _).alloc (by simp) _
  have hz : ((w.alloc (.cells #[.slice a1 D.n c1, .slice a2 D.n c2, .int .i64 D.rl, .bool D.dead] 52)).alloc (.cells #[.slice none 0 0, .slice none 0 0, .int .i64 0, .bool false] 52)).heap.size = w.heap.size + 2 := by simp
  change Code.wp _ _ _ _ ((w.alloc (.cells #[.slice a1 D.n c1, .slice a2 D.n c2, .int .i64 D.rl, .bool D.dead] 52)).alloc (.cells #[.slice none 0 0, .slice none 0 0, .int .i64 0, .bool false] 52))
  generalize (w.alloc (.cells #[.slice a1 D.n c1, .slice a2 D.n c2, .int .i64 D.rl, .bool D.dead] 52)).alloc (.cells #[.slice none 0 0, .slice none 0 0, .int .i64 0, .bool false] 52) = w0 at *
  have hown : (w0.alloc (.cells #[] 9)).ownsRow (w.heap.size + 2) 9 1 (.slice (some ⟨w0.heap.size, 0, none⟩) 0 0) 0 [] := World.ownsRow_lit (base := w.heap.size + 2) (e := 9) (size := 1) w0 #[] 0 (by omega) (by decide) rfl
  have hd1 := heap_old hd (.cells #[] 9)
  have hr1 := heap_old hr (.cells #[] 9)
  have hB1 := hB0.alloc (by omega) (.cells #[] 9)
  have hz1' : (w0.alloc (.cells #[] 9)).heap.size = w.heap.size + 3 := by simp [hz]
  have hsrc := (h1.below hB1).cells
  have k0 := cell_of_block hd 0
  simp only [List.getElem?_toArray, List.getElem?_cons_zero] at k0
  have ky0 := cellA (lt_of_block hd) k0 (.cells #[] 9)
  have Hown := hid hown
  have Hd1 := hid hd1
  have Hr1 := hid hr1
  have HB1 := hid hB1
  have Hz1 := hid hz1'
  have Hsrc := hid hsrc
  have Hz := hid hz
  clear hown hd hd1 hr hr1 hB0 hB1 hz1' hsrc k0 hz
  go_wp2_with (at_builtin; refine wpList_append_row rfl (.tmp 9) (.tmp 11) 50 rfl (w.heap.size + 2) 9 i0 _ 1 16 Try.underlying50 hi hz0 hz1 hz2 rfl (by decide) (.slice (some ⟨w0.heap.size, 0, none⟩) 0 0) 0 [] (by simp [Act.eval]) Hown.out a1 D.n c1 (strs D.sure D.n) (by simp [Act.eval]) (by rw [strs_length, Nat.mul_one]) Hsrc.out (strs_one _ _) hlen1 hlen2 (by rw [Hz1.out]; omega) ?_; intro ao5 cap5 w5 hown5 hgrow5; have hd5 := (hgrow5.block w.heap.size (by rw [Hz1.out]; omega) (by have := Hz.out; simp [Value.ownBlock]; omega)).trans Hd1.out; have hr5 := (hgrow5.block (w.heap.size + 1) (by rw [Hz1.out]; omega) (by have := Hz.out; simp [Value.ownBlock]; omega)).trans Hr1.out; rw [Nat.zero_add, List.nil_append] at hown5; have k0 := cell_of_block hd5 0; have k1 := cell_of_block hd5 1; have k2 := cell_of_block hd5 2; have k3 := cell_of_block hd5 3; simp only [List.getElem?_toArray, List.getElem?_cons_zero, List.getElem?_cons_succ] at k0 k1 k2 k3; have hs5 := hgrow5.size; have HB5 := hid (HB1.out.grown hgrow5 (by rw [Hz1.out]; omega) (fun k hk => by have := Hz.out; simp [Value.ownBlock] at hk; omega)); have HT5 := hid (SRowB.ofOwn hown5); have Hd5 := hid hd5; have Hr5 := hid hr5; clear hown5 hgrow5 hd5 hr5)
  (with_reducible refine (ref4_loose_v (h1.below HB5.out) (h2.below HB5.out) hn).mono ?_)
  rintro e w6 ⟨lv, rfl, hO6, hB6⟩
  obtain ⟨lo, lcap, rfl⟩ := shape_of hO6
  have hll : (loose D).length ≤ 4096 := by have := looseTo_length D D.n; unfold loose; omega
  have hs5' : w.heap.size + 3 ≤ w5.heap.size := by rw [Hz1.out] at hs5; exact hs5
  have hd6 := (hB6.block _ (by omega)).trans Hd5.out
  have hr6 := (hB6.block _ (by omega)).trans Hr5.out
  have hT6 := HT5.out.below hB6
  have hB6' : Below w.heap.size w w6 := HB5.out.trans (hB6.mono (by omega))
  have hs6 := hB6.size
  clear k0 k1 k2 k3 ky0 hs5
  go_wp2_with fail
  go_loopw [16] (fun x wr => ∃ q : Nat, q ≤ (loose D).length ∧ x = .int .i64 q ∧ SRowB (w.heap.size + 2) wr ao5 D.n (D.tearN (cutAt n cs) (loose D) q).sure ∧ wr.ownsRow w5.heap.size 3 1 (.slice lo (loose D).length lcap) (loose D).length (natCells (loose D)) ∧ wr.heap[w.heap.size]? = some (.cells #[.slice a1 D.n c1, .slice a2 D.n c2, .int .i64 D.rl, .bool D.dead] 52 (0, 0)) ∧ wr.heap[w.heap.size + 1]? = some (.cells #[.slice none 0 0, .slice none 0 0, .int .i64 0, .bool false] 52 (0, 0)) ∧ Below w.heap.size w wr ∧ w.heap.size + 2 ≤ wr.heap.size) (fun x _ => ((loose D).length - intOf x).toNat)
  case atStart => exact ⟨0, Nat.zero_le _, rfl, hT6, hO6, hd6, hr6, hB6', by omega⟩
  case round =>
    obtain ⟨q, hq, rfl, hT, hO, hd, hr, hB, hs⟩ := hrel
    by_cases hqN : q < (loose D).length
    · have d1 : decide (q < (loose D).length) = true := by simp; omega
      obtain ⟨rg, rc, hv, hr1', hr2'⟩ := hO.form (by omega)
      have hxc := hO
      rw [hv] at hxc
      have hx0 := hxc.cellAt q (by omega)
      obtain ⟨hi1, hi2⟩ := loose_get D hqN
      rw [hi2] at hx0
      cases hv
      have hstep := tear_step D (cutAt n cs) hqN
      generalize (loose D).getD q 0 = i at *
      obtain ⟨g1, cur1, e1, hg1, hc1⟩ := h1.below hB (by omega)
      obtain ⟨g2, cur2, e2, hg2, hc2⟩ := h2.below hB (by omega)
      obtain ⟨g5, cur5, e5, hg5, hb5, hc5⟩ := hT (by omega)
      subst e1 e2 e5
      have m1 := cell_of_block hg1 i
      have m2 := cell_of_block hg2 i
      have m5 := cell_of_block hg5 i
      have f5 := free_of_block hg5 i
      rw [hc1 i hi1] at m1
      rw [hc2 i hi1] at m2
      rw [hc5 i hi1] at m5
      have k0 := cell_of_block hd 0
      have k1 := cell_of_block hd 1
      simp only [List.getElem?_toArray, List.getElem?_cons_zero, List.getElem?_cons_succ] at k0 k1
      have hlen := Hlen.out i hi1
      have hne := own_ne hO hg5 (by decide)
      have hned := tne hd hg5 (by decide)
      have hner := tne hr hg5 (by decide)
      have hci := (Array.getElem?_eq_some_iff.1 (hc5 i hi1)).1
      have HC1 := hid (HC.out.below hB)
      have HB := hid hB
      have HO := hid hO
      have Hd := hid hd
      have Hr := hid hr
      have Hg5 := hid hg5
      have Hb5 := hid hb5
      have Hc5 := hid hc5
      have Hne := hid hne
      have Hned := hid hned
      have Hner := hid hner
      have Hci := hid hci
      have Hs := hid hs
      have Hstep := hid hstep
      clear hg1 hg2 hg5 hc1 hc2 hc5 hb5 hB hO hd hr hne hned hner hci hxc hr1' hr2' hT hT6 hO6 hd6 hr6 hB6' hB6 hs6 hs hstep
      have hcl := cutAt_le n cs q
      have hcut : cutAt n cs q = if q < n then (min (max (cs q) 0) 64).toNat else 0 := rfl
      generalize cutAt n cs q = N at *
      by_cases hqn : q < n
      case' pos =>
        have d2 : decide (q < n) = true := by simp; omega
        obtain ⟨a, hao, _, ha5⟩ := HC1.out (by omega)
        subst hao
        have k3 := ha5 q hqn
        rw [if_pos hqn] at hcut
        have hz : max 0 (min (cs q) 64) = (N : Int) := by omega
        clear ha5 hcut HC HC1
        go_upto_region 8 with fail
      case' neg =>
        have d2 : decide (q < n) = false := by simp; omega
        rw [if_neg hqn] at hcut
        have hz : (0 : Int) = (N : Int) := by omega
        clear hcut HC HC1 hqn
        go_upto_region 8 with fail
        generalize (0 : Int) = z at hz ⊢
        subst hz
      all_goals
        have hs0 : (S (D.now i)).size = 64 := by rw [S_size, hlen.2]
        have hs1 : (S (D.sure i)).size = 64 := by rw [S_size, hlen.1]
        have hs2 : (S (D.now i)).extract 0 N = S ((D.now i).take N) := S_take _ _
        have hs3 : (S (D.sure i)).extract N 64 = S ((D.sure i).drop N) := by
          have h := S_drop (D.sure i) N
          rw [hlen.1] at h
          exact h
        have hadd := str_add ((D.now i).take N) ((D.sure i).drop N) (by rw [List.length_take]; omega) (by rw [List.length_drop]; omega)
        rw [show (D.now i).take N ++ (D.sure i).drop N = tornAt D i N from rfl] at hadd
        have hN64 : (N : Int) ≤ 64 := by omega
        clear Hsrc Hown HB1 Hd1 Hr1 Hz1
        go_region_law fail
        all_goals
          go_wp2_with fail
          refine ⟨⟨q + 1, by omega, by go_num, ?_, (ownsRow_setCell_other HO.out Hne.out _).drew, heap_set_other Hd.out (p := ⟨g5, i, none⟩) Hned.out _, heap_set_other Hr.out (p := ⟨g5, i, none⟩) Hner.out _, (HB.out.setCell (p := ⟨g5, i, none⟩) (by show w.heap.size ≤ g5; have := Hb5.out; omega) _).drew, by simp; exact Hs.out⟩, by simp [intOf]; omega⟩
          rw [Hstep.out]
          exact fun _ => ⟨g5, _, rfl, heap_set_same (i := i) Hg5.out _, Hb5.out, row_upd Hc5.out hi1⟩
    · obtain rfl : q = (loose D).length := by omega
      have d1 : decide ((loose D).length < (loose D).length) = false := by simp
      have hown7 : (wr.alloc (.cells #[] 9)).ownsRow (w.heap.size + 2) 9 1 (.slice (some ⟨wr.heap.size, 0, none⟩) 0 0) 0 [] := World.ownsRow_lit (base := w.heap.size + 2) (e := 9) (size := 1) wr #[] 0 hs (by decide) rfl
      have hB7 := hB.alloc (by omega) (.cells #[] 9)
      have hr7 := heap_old hr (.cells #[] 9)
      have hT7 := hT.below ((Below.refl _ wr).alloc (Nat.le_refl _) (.cells #[] 9))
      have hsrc7 := hT7.row.cells
      have hz7 : (wr.alloc (.cells #[] 9)).heap.size = wr.heap.size + 1 := by simp
      have Hown7 := hid hown7
      have HB7 := hid hB7
      have Hr7 := hid hr7
      have HT7 := hid hT7
      have HTr := hid hT
      have Hsrc7 := hid hsrc7
      have Hz7 := hid hz7
      have Hs := hid hs
      clear hown7 hB7 hr7 hT7 hsrc7 hz7 hs hT hO hd hr hB hT6 hO6 hd6 hr6 hB6' hB6 hs6 Hsrc Hown HB1 Hd1 Hr1 Hz1
      go_wp2_with (at_builtin; refine wpList_append_row rfl (.tmp 51) (.tmp 52) 50 rfl (w.heap.size + 2) 9 i0 _ 1 16 Try.underlying50 hi hz0 hz1 hz2 rfl (by decide) (.slice (some ⟨wr.heap.size, 0, none⟩) 0 0) 0 [] (by simp [Act.eval]) Hown7.out ao5 D.n cap5 (strs (D.tearN (cutAt n cs) (loose D) (loose D).length).sure D.n) (by simp [Act.eval]) (by rw [strs_length, Nat.mul_one]) Hsrc7.out (strs_one _ _) hlen1 hlen2 (by have := Hs.out; rw [Hz7.out]; omega) ?_; intro ao8 cap8 w8 hown8 hgrow8; have hr8 := (hgrow8.block (w.heap.size + 1) (by have := Hs.out; rw [Hz7.out]; omega) (by have := Hs.out; simp [Value.ownBlock]; omega)).trans Hr7.out; rw [Nat.zero_add, List.nil_append] at hown8; have n0 := cell_of_block hr8 0; have n1 := cell_of_block hr8 1; have n2 := cell_of_block hr8 2; have n3 := cell_of_block hr8 3; have j0 := free_of_block hr8 0; have j1 := free_of_block hr8 1; have j2 := free_of_block hr8 2; have j3 := free_of_block hr8 3; simp only [List.getElem?_toArray, List.getElem?_cons_zero, List.getElem?_cons_succ] at n0 n1 n2 n3; have HO8 := hid hown8; have HG8 := hid hgrow8; have Hr8 := hid hr8; clear hown8 hgrow8 hr8)
      have hB8 : Below w.heap.size w w8 := HB7.out.grown HG8.out (by have := Hs.out; rw [Hz7.out]; omega) (fun k hk => by have := Hs.out; simp [Value.ownBlock] at hk; omega)
      have hT8 : SRow w8 ao5 D.n (D.tearN (cutAt n cs) (loose D) (loose D).length).sure := (HTr.out.fr (R := fun k => k = wr.heap.size) (((Fr.refl _ wr).alloc (.cells #[] 9)).trans (Fr.ofGrown HG8.out) (fun k _ hk => by simpa [Value.ownBlock] using hk)) (fun g c _ hg e => by have := lt_of_block hg; omega)).row
      have hw := set4 Hr8.out (.slice ao5 D.n cap5) (.slice ao8 D.n cap8) (.int .i64 (-1)) (.bool false)
      have hF9 := fr4 (Fr.refl (fun k => k = w.heap.size + 1) w8) (b := w.heap.size + 1) rfl (.slice ao5 D.n cap5) (.slice ao8 D.n cap8) (.int .i64 (-1)) (.bool false)
      have hB9 := below4 hB8 (b := w.heap.size + 1) (by omega) (.slice ao5 D.n cap5) (.slice ao8 D.n cap8) (.int .i64 (-1)) (.bool false)
      have hT9 := hT8.fr hF9 (fun g c _ hg _ e => by subst e; exact absurd (ty_eq hg Hr8.out) (by decide))
      have hN9 := (SRow.ofOwn HO8.out).fr hF9 (fun g c _ hg _ e => by subst e; exact absurd (ty_eq hg Hr8.out) (by decide))
      generalize ((((w8.setCell ⟨w.heap.size + 1, 0, none⟩ (.slice ao5 D.n cap5)).setCell ⟨w.heap.size + 1, 1, none⟩ (.slice ao8 D.n cap8)).setCell ⟨w.heap.size + 1, 2, none⟩ (.int .i64 (-1))).setCell ⟨w.heap.size + 1, 3, none⟩ (.bool false)) = w9 at *
      have hcn : (D.crash n cs).n = D.n := tearN_n D (cutAt n cs) (loose D) _
      have hfin : RefAt w9 (.agg #[.slice ao5 D.n cap5, .slice ao8 D.n cap8, .int .i64 (-1), .bool false]) (D.crash n cs) := by
        refine ⟨ao5, cap5, ao8, cap8, ?_, ?_, ?_⟩
        · unfold rv
          rw [hcn]
          rfl
        · rw [hcn]
          exact hT9
        · rw [hcn]
          exact hN9.congr fun i hi => (crash_facts D n cs).1 i hi
      refine bodyPost_ret (v := .agg #[.slice ao5 D.n cap5, .slice ao8 D.n cap8, .int .i64 (-1), .bool false]) ?_ rfl ⟨_, rfl, hfin, hB9⟩
      rw [res_cell rfl]
      clear hfin hT8 hT9 hN9 hB8 hB9 hF9 n0 n1 n2 n3 j0 j1 j2 j3 HO8 HG8 Hr8
      have n0 := cell_of_block hw 0
      have n1 := cell_of_block hw 1
      have n2 := cell_of_block hw 2
      have n3 := cell_of_block hw 3
      simp only [List.getElem?_toArray, List.getElem?_cons_zero, List.getElem?_cons_succ] at n0 n1 n2 n3
      go_simp
end Go.Proofs.Ytkmbbgnbklklcaa
