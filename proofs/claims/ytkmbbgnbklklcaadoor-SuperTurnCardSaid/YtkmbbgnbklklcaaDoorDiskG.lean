/-
  Package disk: Spoil; Clone of no sectors.
-/
import Derived.Test.YtkmbbgnbklklcaaDoorBend
import Derived.Test.YtkmbbgnbklklcaaDoorDiskF
import Derived.Test.YtkmbbgnbklklcaaDoorL04c
namespace Go.Proofs.YtkmbbgnbklklcaaDoor
open Go.RowKit

theorem bend_set (s : List UInt8) (k : Nat) (c : UInt8) (h : k < s.length) : bend s k c = s.set k (s.getD k 0 ^^^ c) := by
  rw [List.set_eq_take_append_cons_drop, if_pos h]
  rfl
def Dsk.bent1 (D : Dsk) (i k : Nat) (c : UInt8) : Dsk := { D with sure := upd D.sure i (bend (D.sure i) k c) }
def Dsk.bent2 (D : Dsk) (i k : Nat) (c : UInt8) : Dsk := { D.bent1 i k c with now := upd D.now i (bend (D.now i) k c) }
def Dsk.bentTo (D : Dsk) (i k : Nat) (c : UInt8) : Nat → Dsk
  | 0 => D
  | 1 => D.bent1 i k c
  | _ => D.bent2 i k c

set_option maxRecDepth 100000 in
set_option maxHeartbeats 1000000 in
theorem disk_spoil {B b g : Nat} {D : Dsk} (i k : Nat) (c : UInt8) (w : World) (h : DiskAt w B b g D) (hi : i < D.n) (hk : k < 64) :
    Calls Tryd.prog 68 #[.pointer (some ⟨b, 0, none⟩), .int .i64 i, .int .i64 k, .int .u8 (c.toNat : Int)] w fun e w' => e = .returned (.tuple #[]) ∧ DiskEnd w B b g (D.bent2 i k c) w' := by
  have H := hid h
  clear h
  go_enter Tryd.func68, Tryd.ntmps68
  go_wp2_with fail
  refine (check_ok (i : Int) _ H.out (by omega) (by omega)).mono ?_
  rintro e w1 ⟨rfl, hB⟩
  have hE1 : DiskEnd w B b g D w1 := ⟨H.out.below hB, Fr.ofBelow hB _⟩
  have d1 : decide ((k : Int) < 0) = false := by simp
  have d2 : decide ((64 : Int) ≤ (k : Int)) = false := by simp; omega
  obtain ⟨ao, cap, h1, h2, h3, h4⟩ := hE1.1.head
  have hao := h4 (by omega)
  subst hao
  have k0 := cell_of_block h1 0
  simp only [List.getElem?_toArray, List.getElem?_cons_zero] at k0
  have HE1 := hid hE1
  clear h1 h2 h3 h4 hE1 hB
  go_upto_region 4 with fail
  go_region_law fail
  all_goals
    go_simp
    have hP0 := heap_new w1 (.cells #[.pointer (some ⟨g, i * 2, none⟩), .pointer (some ⟨g, i * 2 + 1, none⟩)] 139)
    have hP1 : (w1.alloc (.cells #[.pointer (some ⟨g, i * 2, none⟩), .pointer (some ⟨g, i * 2 + 1, none⟩)] 139)).drew.heap[w1.heap.size]? = some (.cells #[.pointer (some ⟨g, i * 2, none⟩), .pointer (some ⟨g, i * 2 + 1, none⟩)] 139 (0, 0)) := hP0
    have hE2 : DiskEnd w B b g D (w1.alloc (.cells #[.pointer (some ⟨g, i * 2, none⟩), .pointer (some ⟨g, i * 2 + 1, none⟩)] 139)).drew := ⟨(HE1.out.1.alloc _).drew, (HE1.out.2.alloc _).drew⟩
    generalize (w1.alloc (.cells #[.pointer (some ⟨g, i * 2, none⟩), .pointer (some ⟨g, i * 2 + 1, none⟩)] 139)).drew = w4 at *
    generalize w1.heap.size = p at *
    have HP1 := hid hP1
    have HE2 := hid hE2
    clear hP0 hP1 hE2 HE1
    go_wp2_with fail
    go_loopw [36] (fun x wr => ∃ q : Nat, q ≤ 2 ∧ x = .int .i64 q ∧ DiskEnd w B b g (D.bentTo i k c q) wr ∧ wr.heap[p]? = some (.cells #[.pointer (some ⟨g, i * 2, none⟩), .pointer (some ⟨g, i * 2 + 1, none⟩)] 139 (0, 0))) (fun x _ => (2 - intOf x).toNat)
    case atStart => exact ⟨0, by omega, rfl, HE2.out, HP1.out⟩
    case round =>
      obtain ⟨q, hq, rfl, hE, hP⟩ := hrel
      rcases (by omega : q = 0 ∨ q = 1 ∨ q = 2) with rfl | rfl | rfl
      · have dq : decide (((0 : Nat) : Int) < 2) = true := by simp
        replace hE : DiskEnd w B b g D wr := hE
        obtain ⟨ao1, cap1, h1, h2, h3, h4⟩ := hE.1.head
        obtain ⟨cur, h5, h6⟩ := hE.1.row (show 0 < D.n by omega)
        have kT := cell_of_block h5 (i * 2)
        have fT := free_of_block h5 (i * 2)
        rw [(h6 i hi).1] at kT
        have hgp := tne h5 hP (by decide)
        have p0 := cell_of_block hP 0
        simp only [List.getElem?_toArray, List.getElem?_cons_zero] at p0
        have hlt : (D.sure i).length = 64 := (hE.1.len i (show i < D.n from hi)).1
        have hgl := lt_of_block h5
        have hpl := lt_of_block hP
        obtain ⟨ccap, w2, hconv, hB2, hsz2, hccap, ccur, cfr, hrow, hcur, hcs, hcfr⟩ := conv_bytes (P := Tryd.prog) 9 41 5 (D.sure i) wr Tryd.underlying9 Tryd.underlying41 Tryd.underlying5
        have kT2 := (hB2.cell (p := ⟨g, i * 2, none⟩) hgl).trans kT
        have fT2 := (hB2.frozen (p := ⟨g, i * 2, none⟩) hgl).trans fT
        have hE2 : DiskEnd w B b g D w2 := ⟨hE.1.below hB2, hE.2.trans (Fr.ofBelow hB2 (fun _ => False)) (fun _ _ h => h.elim)⟩
        have hP2 := (hB2.block _ hpl).trans hP
        have hread : ∀ j, j < (D.sure i).length → w2.cell? ⟨wr.heap.size, j, none⟩ = some (.int .u8 ((D.sure i).getD j 0).toNat) := fun j hj => by rw [cell_of_block hrow]; exact hcur j hj
        have hrd := hread k (by omega)
        have hfree : w2.frozen? ⟨wr.heap.size, k, none⟩ = false := by
          unfold World.frozen?
          rw [hrow]
          subst hcfr
          have hkc : k < ccap := by omega
          simp
          omega
        obtain ⟨z, hz⟩ : ∃ z, (D.sure i).getD k 0 = z := ⟨_, rfl⟩
        rw [hz] at hrd
        have hx := xor_byte z c
        have hkT : (k : Int) < ((D.sure i).length : Int) := by omega
        generalize hy : z ^^^ c = y at *
        have Hz := hid hz
        have HT := hid hlt
        have HR := hid hread
        have HE2 := hid hE2
        have HP2 := hid hP2
        have Hy := hid hy
        have Hsz2 := hid hsz2
        have hbN := hE.1.lt
        have hwN := hE.2.size
        generalize hN : wr.heap.size = N at *
        have HN := hid hN
        have HwN := hid hwN
        clear hz hwN h1 h2 h3 h4 h5 h6 hE hP hread hrow hcur hcs hcfr hE2 hP2 hy hN hB2 hsz2 hccap fT
        go_upto_region 9 with fail
        obtain ⟨t, ht⟩ : ∃ t, (D.sure i).set k y = t := ⟨_, rfl⟩
        have htl : t.length = (D.sure i).length := by rw [← ht, List.length_set]
        have hbend : t = bend (D.sure i) k c := by rw [← ht, ← Hy.out, ← Hz.out]; exact (bend_set _ _ _ (by omega)).symm
        have hr3 : ∀ j (hj : j < t.length), (w2.setCell ⟨N, k, none⟩ (.int .u8 (y.toNat : Int))).cell? ⟨N, j, none⟩ = some (.int .u8 (t[j].toNat : Int)) := by
          intro j hj
          subst ht
          rw [List.getElem_set]
          split
          · rename_i e
            subst e
            exact World.cell?_setCell_same _ _ _ hrd
          · rename_i e
            rw [World.cell?_setCell_other _ _ _ _ (by simp), HR.out j (by simpa using hj)]
            congr 4
            rw [List.getD_eq_getElem?_getD, List.getElem?_eq_getElem (by simpa using hj)]
            rfl
        have kT3 := cellS kT2 (p := ⟨N, k, none⟩) (by show N ≠ g; omega) (.int .u8 (y.toNat : Int))
        have fT3 := frzS fT2 (p := ⟨N, k, none⟩) (.int .u8 (y.toNat : Int))
        have hE3 : DiskEnd w B b g D (w2.setCell ⟨N, k, none⟩ (.int .u8 (y.toNat : Int))) := by
          have hF : Fr (fun k => k = N) w2 (w2.setCell ⟨N, k, none⟩ (.int .u8 (y.toNat : Int))) := (Fr.refl (fun k => k = N) w2).setCell (p := ⟨N, k, none⟩) (fun _ => rfl) _
          have hbl := hbN
          refine ⟨HE2.out.1.fr hF (by omega) (by omega), ?_⟩
          have hwr := HwN.out
          exact HE2.out.2.setCell (p := ⟨N, k, none⟩) (fun e => absurd e (by show ¬ N < w.heap.size; omega)) _
        have hP3 := heap_set_other HP2.out (p := ⟨N, k, none⟩) (by show p ≠ N; omega) (.int .u8 (y.toNat : Int))
        generalize w2.setCell ⟨N, k, none⟩ (.int .u8 (y.toNat : Int)) = w3 at *
        have hr := run_convert_bytes_back (P := Tryd.prog) w3 41 9 5 ⟨N, 0, none⟩ ccap t Tryd.underlying41 Tryd.underlying5 Tryd.underlying9 (fun j hj => by rw [zero_add_at]; exact hr3 j hj)
        have hS : (⟨t.toArray⟩ : ByteArray) = S (bend (D.sure i) k c) := by rw [hbend]; rfl
        rw [hS, htl, HT.out] at hr
        have HE3 := hid hE3
        have HP3 := hid hP3
        clear hconv hrd hfree hx kT2 fT2 hr3 hE3 hP3 HR hS hbend htl ht
        go_wp2_with fail
        refine ⟨⟨1, by omega, by go_num, ?_, ?_⟩, by simp [intOf]⟩
        · have hE4 := HE3.out.1.setSure (i := i) hi (s := bend (D.sure i) k c) (by rw [bend_length _ _ _ (by have := HT.out; omega)]; exact HT.out)
          exact HE3.out.trans hE4
        · exact heap_set_other HP3.out (p := ⟨g, i * 2, none⟩) (fun e => hgp e.symm) _
      · have dq : decide (((1 : Nat) : Int) < 2) = true := by simp
        replace hE : DiskEnd w B b g (D.bent1 i k c) wr := hE
        obtain ⟨ao1, cap1, h1, h2, h3, h4⟩ := hE.1.head
        obtain ⟨cur, h5, h6⟩ := hE.1.row (show 0 < D.n by omega)
        have kT := cell_of_block h5 (i * 2 + 1)
        have fT := free_of_block h5 (i * 2 + 1)
        rw [show cur[i * 2 + 1]? = some (.string (S (D.now i))) from (h6 i hi).2] at kT
        have hgp := tne h5 hP (by decide)
        have p0 := cell_of_block hP 1
        simp only [List.getElem?_toArray, List.getElem?_cons_zero, List.getElem?_cons_succ] at p0
        have hlt : (D.now i).length = 64 := (hE.1.len i (show i < D.n from hi)).2
        have hgl := lt_of_block h5
        have hpl := lt_of_block hP
        obtain ⟨ccap, w2, hconv, hB2, hsz2, hccap, ccur, cfr, hrow, hcur, hcs, hcfr⟩ := conv_bytes (P := Tryd.prog) 9 41 5 (D.now i) wr Tryd.underlying9 Tryd.underlying41 Tryd.underlying5
        have kT2 := (hB2.cell (p := ⟨g, i * 2 + 1, none⟩) hgl).trans kT
        have fT2 := (hB2.frozen (p := ⟨g, i * 2 + 1, none⟩) hgl).trans fT
        have hE2 : DiskEnd w B b g (D.bent1 i k c) w2 := ⟨hE.1.below hB2, hE.2.trans (Fr.ofBelow hB2 (fun _ => False)) (fun _ _ h => h.elim)⟩
        have hP2 := (hB2.block _ hpl).trans hP
        have hread : ∀ j, j < (D.now i).length → w2.cell? ⟨wr.heap.size, j, none⟩ = some (.int .u8 ((D.now i).getD j 0).toNat) := fun j hj => by rw [cell_of_block hrow]; exact hcur j hj
        have hrd := hread k (by omega)
        have hfree : w2.frozen? ⟨wr.heap.size, k, none⟩ = false := by
          unfold World.frozen?
          rw [hrow]
          subst hcfr
          have hkc : k < ccap := by omega
          simp
          omega
        obtain ⟨z, hz⟩ : ∃ z, (D.now i).getD k 0 = z := ⟨_, rfl⟩
        rw [hz] at hrd
        have hx := xor_byte z c
        have hkT : (k : Int) < ((D.now i).length : Int) := by omega
        generalize hy : z ^^^ c = y at *
        have Hz := hid hz
        have HT := hid hlt
        have HR := hid hread
        have HE2 := hid hE2
        have HP2 := hid hP2
        have Hy := hid hy
        have Hsz2 := hid hsz2
        have hbN := hE.1.lt
        have hwN := hE.2.size
        generalize hN : wr.heap.size = N at *
        have HN := hid hN
        have HwN := hid hwN
        clear hz hwN h1 h2 h3 h4 h5 h6 hE hP hread hrow hcur hcs hcfr hE2 hP2 hy hN hB2 hsz2 hccap fT
        go_upto_region 9 with fail
        obtain ⟨t, ht⟩ : ∃ t, (D.now i).set k y = t := ⟨_, rfl⟩
        have htl : t.length = (D.now i).length := by rw [← ht, List.length_set]
        have hbend : t = bend (D.now i) k c := by rw [← ht, ← Hy.out, ← Hz.out]; exact (bend_set _ _ _ (by omega)).symm
        have hr3 : ∀ j (hj : j < t.length), (w2.setCell ⟨N, k, none⟩ (.int .u8 (y.toNat : Int))).cell? ⟨N, j, none⟩ = some (.int .u8 (t[j].toNat : Int)) := by
          intro j hj
          subst ht
          rw [List.getElem_set]
          split
          · rename_i e
            subst e
            exact World.cell?_setCell_same _ _ _ hrd
          · rename_i e
            rw [World.cell?_setCell_other _ _ _ _ (by simp), HR.out j (by simpa using hj)]
            congr 4
            rw [List.getD_eq_getElem?_getD, List.getElem?_eq_getElem (by simpa using hj)]
            rfl
        have kT3 := cellS kT2 (p := ⟨N, k, none⟩) (by show N ≠ g; omega) (.int .u8 (y.toNat : Int))
        have fT3 := frzS fT2 (p := ⟨N, k, none⟩) (.int .u8 (y.toNat : Int))
        have hE3 : DiskEnd w B b g (D.bent1 i k c) (w2.setCell ⟨N, k, none⟩ (.int .u8 (y.toNat : Int))) := by
          have hF : Fr (fun k => k = N) w2 (w2.setCell ⟨N, k, none⟩ (.int .u8 (y.toNat : Int))) := (Fr.refl (fun k => k = N) w2).setCell (p := ⟨N, k, none⟩) (fun _ => rfl) _
          have hbl := hbN
          refine ⟨HE2.out.1.fr hF (by omega) (by omega), ?_⟩
          have hwr := HwN.out
          exact HE2.out.2.setCell (p := ⟨N, k, none⟩) (fun e => absurd e (by show ¬ N < w.heap.size; omega)) _
        have hP3 := heap_set_other HP2.out (p := ⟨N, k, none⟩) (by show p ≠ N; omega) (.int .u8 (y.toNat : Int))
        generalize w2.setCell ⟨N, k, none⟩ (.int .u8 (y.toNat : Int)) = w3 at *
        have hr := run_convert_bytes_back (P := Tryd.prog) w3 41 9 5 ⟨N, 0, none⟩ ccap t Tryd.underlying41 Tryd.underlying5 Tryd.underlying9 (fun j hj => by rw [zero_add_at]; exact hr3 j hj)
        have hS : (⟨t.toArray⟩ : ByteArray) = S (bend (D.now i) k c) := by rw [hbend]; rfl
        rw [hS, htl, HT.out] at hr
        have HE3 := hid hE3
        have HP3 := hid hP3
        clear hconv hrd hfree hx kT2 fT2 hr3 hE3 hP3 HR hS hbend htl ht
        go_wp2_with fail
        refine ⟨⟨2, by omega, by go_num, ?_, ?_⟩, by simp [intOf]⟩
        · have hE4 := HE3.out.1.setNow (i := i) hi (s := bend (D.now i) k c) (by rw [bend_length _ _ _ (by have := HT.out; omega)]; exact HT.out)
          exact HE3.out.trans hE4
        · exact heap_set_other HP3.out (p := ⟨g, i * 2 + 1, none⟩) (fun e => hgp e.symm) _
      · have dq : decide (((2 : Nat) : Int) < 2) = false := by simp
        have HE := hid hE
        clear hE
        go_wp2_with fail
        go_end0
        exact ⟨rfl, HE.out⟩

/-- The error's number of a Spoil; what it leaves. -/
def Dsk.sErr (D : Dsk) (i k : Int) : Int := if D.out i then 6 else if k < 0 ∨ 64 ≤ k then 4 else 0
def Dsk.spoilt (D : Dsk) (i k : Int) (c : UInt8) : Dsk := if D.out i then D else if k < 0 ∨ 64 ≤ k then D else D.bent2 i.toNat k.toNat c
theorem spoil_arg {B b g : Nat} {D : Dsk} (i k : Int) (c : Value) (w : World) (h : DiskAt w B b g D) (hi : 0 ≤ i ∧ i < D.n) (hk : k < 0 ∨ 64 ≤ k) :
    Calls Tryd.prog 68 #[.pointer (some ⟨b, 0, none⟩), .int .i64 i, .int .i64 k, c] w fun e w' => e = .panicked (fault 4) ∧ Below w.heap.size w w' := by
  go_enter Tryd.func68, Tryd.ntmps68
  go_wp2_with fail
  refine (check_ok i _ h hi.1 hi.2).mono ?_
  rintro e w1 ⟨rfl, hB⟩
  by_cases h0 : k < 0
  · have d1 : decide (k < 0) = true := by simpa using h0
    go_wp2_with (go_at_call 79; refine (fail_any _ _).mono ?_; rintro e w' ⟨rfl, rfl⟩)
    exact ⟨rfl, rfl, hB⟩
  · have d1 : decide (k < 0) = false := by simpa using h0
    have d2 : decide (64 ≤ k) = true := by simp; omega
    go_wp2_with (go_at_call 79; refine (fail_any _ _).mono ?_; rintro e w' ⟨rfl, rfl⟩)
    exact ⟨rfl, rfl, hB⟩
theorem spoil_out {B b g : Nat} {D : Dsk} (i : Int) (k c : Value) (w : World) (h : DiskAt w B b g D) (hi : D.out i) :
    Calls Tryd.prog 68 #[.pointer (some ⟨b, 0, none⟩), .int .i64 i, k, c] w fun e w' => e = .panicked (fault 6) ∧ Below w.heap.size w w' := by
  go_enter Tryd.func68, Tryd.ntmps68
  go_wp2_with fail
  refine (check_bad i _ h hi).mono ?_
  rintro e w1 ⟨rfl, hB⟩
  exact ⟨rfl, rfl, hB⟩
theorem spoil_any {B b g : Nat} {D : Dsk} (i k : Int) (c : UInt8) (w : World) (h : DiskAt w B b g D) :
    Calls Tryd.prog 68 #[.pointer (some ⟨b, 0, none⟩), .int .i64 i, .int .i64 k, .int .u8 (c.toNat : Int)] w fun e w' => e = ends (D.sErr i k) ∧ DiskEnd w B b g (D.spoilt i k c) w' := by
  unfold Dsk.sErr Dsk.spoilt
  by_cases ho : D.out i
  · rw [if_pos ho, if_pos ho]
    exact (spoil_out i _ _ w h ho).mono fun e w' ⟨he, hB⟩ => ⟨he, .ofBelow h hB⟩
  rw [if_neg ho, if_neg ho]
  have ho' : 0 ≤ i ∧ i < D.n := by unfold Dsk.out at ho; omega
  by_cases hk : k < 0 ∨ 64 ≤ k
  · rw [if_pos hk, if_pos hk]
    exact (spoil_arg i k _ w h ho' hk).mono fun e w' ⟨he, hB⟩ => ⟨he, .ofBelow h hB⟩
  rw [if_neg hk, if_neg hk]
  obtain ⟨i', rfl⟩ : ∃ k : Nat, i = k := ⟨i.toNat, by omega⟩
  obtain ⟨k', rfl⟩ : ∃ m : Nat, k = m := ⟨k.toNat, by omega⟩
  rw [Int.toNat_natCast, Int.toNat_natCast]
  exact disk_spoil i' k' c w h (by omega) (by omega)

end Go.Proofs.YtkmbbgnbklklcaaDoor
