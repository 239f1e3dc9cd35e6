/-
  Package disk: Crash.
-/
import Derived.Test.YtkmbbgnbklklcaaDoorDiskD
import Derived.Test.YtkmbbgnbklklcaaDoorCut
namespace Go.Proofs.YtkmbbgnbklklcaaDoor
open Go.RowKit

/-- Of a sector the first n bytes stay. -/
def tornAt (D : Dsk) (i n : Nat) : List UInt8 := (D.now i).take n ++ (D.sure i).drop n
def Dsk.tear (D : Dsk) (i n : Nat) : Dsk := { D with sure := upd D.sure i (tornAt D i n), now := upd D.now i (tornAt D i n) }
def Dsk.tearN (D : Dsk) (cs : Nat → Nat) (L : List Nat) : Nat → Dsk
  | 0 => D
  | q + 1 => (D.tearN cs L q).tear (L.getD q 0) (cs q)
def cutAt (n : Nat) (cs : Nat → Int) (k : Nat) : Nat := if k < n then (min (max (cs k) 0) 64).toNat else 0
theorem cutAt_le (n : Nat) (cs : Nat → Int) (k : Nat) : cutAt n cs k ≤ 64 := by unfold cutAt; split <;> omega
def Dsk.crash (D : Dsk) (n : Nat) (cs : Nat → Int) : Dsk := { D.tearN (cutAt n cs) (loose D) (loose D).length with armed := false, dead := false }
theorem tearN_n (D : Dsk) (cs : Nat → Nat) (L : List Nat) (q : Nat) : (D.tearN cs L q).n = D.n := by
  induction q with
  | zero => rfl
  | succ q ih => exact ih
theorem tornAt_length {D : Dsk} {i n : Nat} (h : (D.sure i).length = 64 ∧ (D.now i).length = 64) (hn : n ≤ 64) : (tornAt D i n).length = 64 := by
  simp [tornAt, h.1, h.2]; omega

/-- Where the numbers that say how much stays lie. -/
def CutsAt (w : World) (b g : Nat) (ao : Option Addr) (n : Nat) (cs : Nat → Int) : Prop := 0 < n → ∃ a, ao = some a ∧ a.block ≠ b ∧ a.block ≠ g ∧ a.block < w.heap.size ∧ ∀ k, k < n → w.cell? (a.add k) = some (.int .i64 (cs k))
theorem CutsAt.none (w : World) (b g : Nat) (ao : Option Addr) (cs : Nat → Int) : CutsAt w b g ao 0 cs := fun h => absurd h (Nat.lt_irrefl _)
theorem CutsAt.fr {w w' : World} {b g : Nat} {ao : Option Addr} {n : Nat} {cs : Nat → Int} (h : CutsAt w b g ao n cs) (hF : Fr (dfoot b g) w w') : CutsAt w' b g ao n cs := fun h0 => by
  obtain ⟨a, h1, h2, h3, h4, h5⟩ := h h0
  refine ⟨a, h1, h2, h3, by have := hF.size; omega, fun k hk => ?_⟩
  rw [← h5 k hk]
  exact World.cell?_of_block (w := w) (hF.block _ (by rw [add_block]; exact h4) (by rw [add_block]; rintro (e | e); exact h2 e; exact h3 e))
theorem loose_get (D : Dsk) {q : Nat} (hq : q < (loose D).length) : (loose D).getD q 0 < D.n ∧ (natCells (loose D))[q]? = some (.int .i64 (((loose D).getD q 0 : Nat) : Int)) := by
  have h1 : (loose D).getD q 0 = (loose D)[q] := by simp [List.getD, hq]
  have h2 : (loose D)[q] ∈ loose D := List.getElem_mem hq
  refine ⟨?_, ?_⟩
  · rw [h1]
    simp only [loose, looseTo, List.mem_filter, List.mem_range] at h2
    exact h2.1
  · rw [h1]
    simp [natCells, hq]

set_option maxRecDepth 100000 in
set_option maxHeartbeats 4000000 in
theorem disk_crash {B b g : Nat} {D : Dsk} (w : World) (h : DiskAt w B b g D) (ao : Option Addr) (n cap : Nat) (cs : Nat → Int) (hC : CutsAt w b g ao n cs) :
    Calls Tryd.prog 56 #[.pointer (some ⟨b, 0, none⟩), .slice ao n cap] w fun e w' => e = .returned (.tuple #[]) ∧ DiskEnd w B b g (D.crash n cs) w' := by
  have hsm := h.small
  have H := hid h
  have HC := hid hC
  clear hC h
  go_enter Tryd.func56, Tryd.ntmps56
  go_wp2_with fail
  refine (disk_loose w H.out).mono ?_
  rintro e w1 ⟨v, rfl, hO, hB⟩
  obtain ⟨lo, lcap, rfl⟩ := shape_of hO
  have HO := hid hO
  have HB := hid hB
  clear hO hB
  have hll : (loose D).length ≤ 4096 := by have := looseTo_length D D.n; unfold loose; omega
  go_wp2_with fail
  go_loopw [11] (fun i wr => ∃ q : Nat, q ≤ (loose D).length ∧ i = .int .i64 q ∧ DiskEnd w B b g (D.tearN (cutAt n cs) (loose D) q) wr ∧ wr.ownsRow w.heap.size 3 1 (.slice lo (loose D).length lcap) (loose D).length (natCells (loose D))) (fun i _ => ((loose D).length - intOf i).toNat)
  case atStart => exact ⟨0, Nat.zero_le _, rfl, ⟨H.out.below HB.out, Fr.ofBelow HB.out _⟩, HO.out⟩
  case round =>
    obtain ⟨q, hq, rfl, hE, hO⟩ := hrel
    have hn' := tearN_n D (cutAt n cs) (loose D) q
    by_cases hqN : q < (loose D).length
    · have d1 : decide (q < (loose D).length) = true := by simp; omega
      obtain ⟨rg, rc, hv, hr1, hr2⟩ := hO.form (by omega)
      have hxc := hO
      rw [hv] at hxc
      have hx0 := hxc.cellAt q (by omega)
      obtain ⟨hi1, hi2⟩ := loose_get D hqN
      rw [hi2] at hx0
      cases hv
      have hx1 : (D.tearN (cutAt n cs) (loose D) (q + 1)) = (D.tearN (cutAt n cs) (loose D) q).tear ((loose D).getD q 0) (cutAt n cs q) := rfl
      generalize (loose D).getD q 0 = i at *
      generalize (loose D).length = m at *
      generalize D.tearN (cutAt n cs) (loose D) q = D1 at *
      have Hx1 := hid hx1
      clear hx1
      obtain ⟨ao1, cap1, h1, h2, h3, h4⟩ := hE.1.head
      have hao := h4 (by omega)
      subst hao
      obtain ⟨cur, h5, h6⟩ := hE.1.row (by omega)
      have k0 := cell_of_block h1 0
      have k1 := cell_of_block h5 (i * 2 + 1)
      have k2 := cell_of_block h5 (i * 2)
      have f1 := free_of_block h5 (i * 2 + 1)
      have f2 := free_of_block h5 (i * 2)
      simp only [List.getElem?_toArray, List.getElem?_cons_zero, (h6 i (by omega)).2, (h6 i (by omega)).1] at k0 k1 k2
      have hlen := hE.1.len i (by omega)
      rw [hn'] at k0
      have Hrg := hid (own_ne hO h5 (by decide))
      have HE := hid hE
      have HO1 := hid hO
      clear h1 h2 h3 h4 h5 h6 hE hO hxc
      have HC1 := hid (HC.out.fr HE.out.2)
      have hcl := cutAt_le n cs q
      have hcut : cutAt n cs q = if q < n then (min (max (cs q) 0) 64).toNat else 0 := rfl
      generalize cutAt n cs q = N at *
      by_cases hqn : q < n
      case' pos =>
        have d2 : decide (q < n) = true := by simp; omega
        obtain ⟨a, hao, _, _, ha4, ha5⟩ := HC1.out (by omega)
        subst hao
        have k3 := ha5 q hqn
        rw [if_pos hqn] at hcut
        have hz : min (max (cs q) 0) 64 = (N : Int) := by omega
        clear ha4 ha5 hcut HC HC1
        go_upto_region 7 with fail
      case' neg =>
        have d2 : decide (q < n) = false := by simp; omega
        rw [if_neg hqn] at hcut
        have hz : (0 : Int) = (N : Int) := by omega
        clear hcut HC HC1 hqn
        go_upto_region 7 with fail
        generalize (0 : Int) = z at hz ⊢
        subst hz
      all_goals
        have hs0 : (S (D1.now i)).size = 64 := by rw [S_size, hlen.2]
        have hs1 : (S (D1.sure i)).size = 64 := by rw [S_size, hlen.1]
        have hs2 : (S (D1.now i)).extract 0 N = S ((D1.now i).take N) := S_take _ _
        have hs3 : (S (D1.sure i)).extract N 64 = S ((D1.sure i).drop N) := by
          have h := S_drop (D1.sure i) N
          rw [hlen.1] at h
          exact h
        have hadd := str_add ((D1.now i).take N) ((D1.sure i).drop N) (by rw [List.length_take]; omega) (by rw [List.length_drop]; omega)
        rw [show (D1.now i).take N ++ (D1.sure i).drop N = tornAt D1 i N from rfl] at hadd
        have ht := tornAt_length hlen hcl
        have hE2 := HE.out.1.setSure (i := i) (by omega) ht
        have hN64 : (N : Int) ≤ 64 := by omega
        have HE2 := hid hE2
        have Ht := hid ht
        clear hE2 ht
        go_region_law fail
        all_goals
          go_wp2_with fail
          refine ⟨⟨q + 1, by omega, by go_num, ?_, (ownsRow_setCell_other (ownsRow_setCell_other HO1.out Hrg.out _) Hrg.out _).drew⟩, by simp [intOf]; omega⟩
          rw [Hx1.out]
          have hE3 := HE2.out.1.setNow (i := i) (by show i < D1.n; omega) Ht.out
          have hE4 := (HE.out.trans HE2.out).trans hE3
          exact ⟨hE4.1.drew, hE4.2.drew⟩
    · obtain rfl : q = (loose D).length := by omega
      have d1 : decide ((loose D).length < (loose D).length) = false := by simp
      have hbig := hE.1.big
      have HE := hid hE
      have Hn' := hid hn'
      obtain ⟨ao1, cap1, h1, h2⟩ := hE.1.head
      have k1 := cell_of_block h1 1
      have k3 := cell_of_block h1 3
      have f1 := free_of_block h1 1
      have f3 := free_of_block h1 3
      simp only [List.getElem?_toArray, List.getElem?_cons_zero, List.getElem?_cons_succ] at k1 k3
      clear hE hO hn' h1 h2
      go_wp2_with fail
      go_end0
      have hT := HE.out.1.turn (((Fr.refl (fun k => k = b) wr).setCell (p := ⟨b, 1, none⟩) (fun _ => rfl) (.bool false)).setCell (p := ⟨b, 3, none⟩) (fun _ => rfl) (.bool false)) false false _ hbig fun ao cap h => by
        have := heap_set_same (i := 3) (heap_set_same (i := 1) h (.bool false)) (.bool false)
        simpa using this
      exact ⟨rfl, hT.1, HE.out.2.trans hT.2 (fun _ _ h => h)⟩
end Go.Proofs.YtkmbbgnbklklcaaDoor
