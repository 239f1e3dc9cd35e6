/-
  Law 01's ShaApart: its walk.
-/
import Derived.Test.YtmdcalkfapcafaaDoorL01n
namespace Go.Proofs.YtmdcalkfapcafaaDoor
open Go.RowKit

theorem u8_xor (c d : UInt8) : bits .xor .u8 (c.toNat : Int) (d.toNat : Int) = (((c ^^^ d).toNat : Nat) : Int) := by
  have h : ∀ a b : BitVec 8, bits .xor .u8 (a.toNat : Int) (b.toNat : Int) = ((a ^^^ b).toNat : Int) := by
    intro a b
    show IntKind.u8.wrap ((BitVec.ofInt 8 (a.toNat : Int) ^^^ BitVec.ofInt 8 (b.toNat : Int)).toNat : Int) = _
    rw [show BitVec.ofInt 8 (a.toNat : Int) = a from by rw [BitVec.ofInt_natCast]; simp, show BitVec.ofInt 8 (b.toNat : Int) = b from by rw [BitVec.ofInt_natCast]; simp]
    have := (a ^^^ b).isLt
    generalize (a ^^^ b).toNat = n at *
    simp [IntKind.wrap, IntKind.bits, IntKind.signed]
    omega
  exact h c.toBitVec d.toBitVec

theorem add_zero_at (b j : Nat) : (⟨b, 0, none⟩ : Addr).add j = ⟨b, j, none⟩ := by
  unfold Addr.add
  split
  · next h => rw [h]
  · simp
theorem refof_lw {w0 w : World} (m y : List UInt8) (hm : m.length ≤ 100000000) (hy : shaOf m = y) (hW : Lw w0 w) :
    Calls Tryd.prog 13 #[.string (S m)] w fun e w' => e = .returned (.string (S y)) ∧ Lw w0 w' ∧ Below w.heap.size w w' := by
  subst hy
  exact (refof_any m hm w).mono fun _ _ h => ⟨h.1, hW.trans h.2, h.2⟩

theorem refof_lw2 {w0 w : World} (u : ByteArray) (m y : List UInt8) (hu : u = S m) (hm : m.length ≤ 100000000) (hy : shaOf m = y) (hW : Lw w0 w) :
    Calls Tryd.prog 13 #[.string u] w fun e w' => e = .returned (.string (S y)) ∧ Lw w0 w' ∧ Below w.heap.size w w' := by
  subst hu
  exact refof_lw m y hm hy hW

set_option maxRecDepth 4000 in
set_option maxHeartbeats 4000000 in
theorem apart_any (s : List UInt8) (at' : Int) (x : UInt8) (w : World) (hL : Laid w) :
    Calls Tryd.prog 4 #[.string (S s), .int .i64 at', .int .u8 x.toNat] w fun e w' => e = .returned (.bool true) ∧ Below w.heap.size w w' := by
  have HW : Hid (Lw w w) := hid (Lw.refl hL)
  clear hL
  obtain ⟨m, hm⟩ : ∃ m, s.take 200 = m := ⟨_, rfl⟩
  have hlen : m.length ≤ 200 := by rw [← hm, List.length_take]; omega
  have Hm := hid hm
  clear hm
  go_enter Tryd.func4, Tryd.ntmps4
  go_upto_region 2 with (refine (cut_any s 200 _).mono ?_; rintro e w' ⟨rfl, rfl⟩; rw [Hm.out])
  by_cases hm0 : m = []
  · have hE : (S m).toList.isEmpty = true := by rw [S_toList, hm0]; rfl
    clear hm0
    go_wp2_with (go_at_call 11; refine (awake01 _ HW.out.laid).mono ?_; rintro e w1 ⟨rfl, hB⟩; have HW := hid (HW.out.trans hB); clear hB)
    go_ret
    exact ⟨rfl, HW.out.below⟩
  · have hE : (S m).toList.isEmpty = false := by rw [S_toList]; simp [hm0]
    go_upto_region 4 with (go_at_call 11; refine (awake01 _ HW.out.laid).mono ?_; rintro e w1 ⟨rfl, hB⟩; have HW := hid (HW.out.trans hB); clear hB)
    clear hE
    obtain ⟨cap, w2, hconv, hB, hsz, hcap, cur, fr, hrow, hcur, hcs, hfr⟩ := conv_bytes (P := Tryd.prog) 9 28 5 m w1 Tryd.underlying9 Tryd.underlying28 Tryd.underlying5
    have hpos : 0 < m.length := List.length_pos_iff.2 hm0
    obtain ⟨k, hk, hkl⟩ : ∃ k : Nat, (wrap64 ((at'.tmod (m.length : Int)) + (m.length : Int))).tmod (m.length : Int) = (k : Int) ∧ k < m.length := by
      have h1 := Int.tmod_lt_of_pos at' (b := (m.length : Int)) (by omega)
      have h2 : -(m.length : Int) < at'.tmod (m.length : Int) := by
        have h3 := Int.tmod_lt_of_pos (-at') (b := (m.length : Int)) (by omega)
        rw [Int.neg_tmod] at h3
        omega
      have h4 : wrap64 ((at'.tmod (m.length : Int)) + (m.length : Int)) = (at'.tmod (m.length : Int)) + (m.length : Int) := IntWalk.wrap64_in _ (by omega)
      rw [h4]
      have h5 := Int.tmod_lt_of_pos ((at'.tmod (m.length : Int)) + (m.length : Int)) (b := (m.length : Int)) (by omega)
      have h6 := Int.tmod_nonneg (m.length : Int) (a := (at'.tmod (m.length : Int)) + (m.length : Int)) (by omega)
      exact ⟨_, (Int.toNat_of_nonneg h6).symm, by omega⟩
    have hread : ∀ j, j < m.length → w2.cell? ⟨w1.heap.size, j, none⟩ = some (.int .u8 (m.getD j 0).toNat) := fun j hj => by rw [cell_of_block hrow]; exact hcur j hj
    have hfree : w2.frozen? ⟨w1.heap.size, k, none⟩ = false := by
      unfold World.frozen?
      rw [hrow]
      subst hfr
      have hkc : k < cap := by omega
      simp
      omega
    have hrd : w2.cell? ⟨w1.heap.size, k, none⟩ = some (.int .u8 (m.getD k 0).toNat) := hread k hkl
    generalize hN : w1.heap.size = N at *
    have HR := hid hread
    have HB := hid hB
    have HN := hid hN
    have Hsz := hid hsz
    have Hkl := hid hkl
    generalize hc : m.getD k 0 = c at *
    have Hc := hid hc
    have hx := u8_xor c x
    generalize hy : c ^^^ x = y at *
    clear hrow hcur hcs hfr hcap cur fr hread hB hN hsz hc
    go_upto_region 6 with fail
    clear hconv hk hfree hx
    obtain ⟨t, ht⟩ : ∃ t, m.set k y = t := ⟨_, rfl⟩
    have htl : t.length = m.length := by rw [← ht, List.length_set]
    have hr3 : ∀ j (hj : j < t.length), (w2.setCell ⟨N, k, none⟩ (.int .u8 (y.toNat : Int))).cell? ⟨N, j, none⟩ = some (.int .u8 (t[j].toNat : Int)) := by
      intro j hj
      subst ht
      rw [List.getElem_set]
      split
      · rename_i e
        subst e
        exact World.cell?_setCell_same _ _ _ hrd
      · rename_i e
        rw [World.cell?_setCell_other _ _ _ _ (by simp), HR.out j (by simpa using hj)]
        congr 4
        rw [List.getD_eq_getElem?_getD, List.getElem?_eq_getElem (by simpa using hj)]
        rfl
    have hlt : t.length ≤ 200 := by omega
    have hW3 : Lw w' (w2.setCell ⟨N, k, none⟩ (.int .u8 (y.toNat : Int))) := by
      refine HW.out.trans (Below.setCell ?_ ?_ _)
      · rw [HN.out]; exact HB.out
      · rw [HN.out]; simp
    generalize w2.setCell ⟨N, k, none⟩ (.int .u8 (y.toNat : Int)) = w3 at *
    have hr := run_convert_bytes_back (P := Tryd.prog) w3 28 9 5 ⟨N, 0, none⟩ cap t Tryd.underlying28 Tryd.underlying5 Tryd.underlying9 (fun j hj => by rw [add_zero_at]; exact hr3 j hj)
    rw [htl] at hr
    have hS : (⟨t.toArray⟩ : ByteArray) = S t := rfl
    rw [hS] at hr
    have HW := hid hW3
    have Htl := hid hlt
    clear hr3 hS hW3 ht htl hlt HR Hc hy
    go_upto_region 7 with fail
    clear hr
    obtain ⟨X, hX⟩ : ∃ X, shaOf m = X := ⟨_, rfl⟩
    obtain ⟨T, hT⟩ : ∃ T, shaOf t = T := ⟨_, rfl⟩
    obtain ⟨Y, hY⟩ : ∃ Y, shaOf (m ++ [120]) = Y := ⟨_, rfl⟩
    have hXl : X.length = 32 := by rw [← hX]; exact shaOf_length m
    have hTl : T.length = 32 := by rw [← hT]; exact shaOf_length t
    have hYl : Y.length = 32 := by rw [← hY]; exact shaOf_length _
    have hq1 := sum_eql X T hXl hTl
    have hq2 := sum_eql X Y hXl hYl
    have hs1 : ((S X).toList == (S T).toList) = (X == T) := by rw [S_toList, S_toList]
    have hs2 : ((S X).toList == (S Y).toList) = (X == Y) := by rw [S_toList, S_toList]
    have hadd : ∀ w, (Op.stringOp .add (S m) ⟨#[120]⟩).run Tryd.prog w = .ok (.string (S (m ++ [120]))) w := fun w => by
      have h1 : ((S m).size : Int) ≤ 8388608 := by rw [S_size]; omega
      refine (run_string_add (P := Tryd.prog) (w := w) (S m) ⟨#[120]⟩ h1 (by decide)).trans ?_
      rw [← S_append]; rfl
    generalize (X == T) = b1 at *
    generalize (X == Y) = b2 at *
    have HX := hid hX
    have HT := hid hT
    have HY := hid hY
    have Hlen := hid hlen
    clear hX hT hY hXl hTl hYl hlen hpos hkl hm0 Hm Hkl Hsz HN HB
    have T1 := hid (fun (w : World) (pb cap n : Nat) hn hP hW => of_eq (w0 := w') (w := w) (pb := pb) (cap := cap) (n := n) [m] m X hn hP hW (by simp) HX.out (by have := Hlen.out; omega) (by simp))
    have T2 := hid (fun (w : World) (pb cap n : Nat) hn hP hW => of_eq (w0 := w') (w := w) (pb := pb) (cap := cap) (n := n) [t] t T hn hP hW (by simp) HT.out (by have := Htl.out; omega) (by simp))
    have T3 := hid (fun (w : World) (pb cap n : Nat) hn hP hW => of_eq (w0 := w') (w := w) (pb := pb) (cap := cap) (n := n) [m, [120]] (m ++ [120]) Y hn hP hW (by simp) HY.out (by have := Hlen.out; simp; omega) (by simp))
    have R1 := hid (fun (w : World) (u : ByteArray) (hu : u = S m) hW => refof_lw2 (w0 := w') (w := w) u m X hu (by have := Hlen.out; omega) HX.out hW)
    have R2 := hid (fun (w : World) (u : ByteArray) (hu : u = S t) hW => refof_lw2 (w0 := w') (w := w) u t T hu (by have := Htl.out; omega) HT.out hW)
    have R3 := hid (fun (w : World) (u : ByteArray) (hu : u = S (m ++ [120])) hW => refof_lw2 (w0 := w') (w := w) u (m ++ [120]) Y hu (by have := Hlen.out; simp; omega) HY.out hW)
    go_region_held3 (fun _ => True) (trivial) (first
      | (go_at_call 12; refine (T1.out _ _ _ _ ?_ ?_ ?_).mono ?_
         · rfl
         · first
             | (refine PartsAt.lit (heap_newk _ ?_); simp; done)
             | (refine PartsAt.lit (heap_old (heap_newk _ ?_) _); simp; done)
             | (refine PartsAt.drew (PartsAt.lit (heap_newk _ ?_)); simp; done)
             | (refine PartsAt.drew (PartsAt.lit (heap_old (heap_newk _ ?_) _)); simp; done)
             | (refine PartsAt.below (PartsAt.lit (heap_newk _ ?_)) HBl.out; simp; done)
             | (refine PartsAt.below (PartsAt.lit (heap_old (heap_newk _ ?_) _)) HBl.out; simp; done)
             | (refine PartsAt.below (PartsAt.drew (PartsAt.lit (heap_newk _ ?_))) HBl.out; simp; done)
             | (refine PartsAt.below (PartsAt.drew (PartsAt.lit (heap_old (heap_newk _ ?_) _))) HBl.out; simp; done)
             | (refine PartsAt.alloc (PartsAt.below (PartsAt.lit (heap_newk _ ?_)) HBl.out) _; simp; done)
             | (refine PartsAt.alloc (PartsAt.below (PartsAt.lit (heap_old (heap_newk _ ?_) _)) HBl.out) _; simp; done)
             | (refine PartsAt.alloc (PartsAt.below (PartsAt.drew (PartsAt.lit (heap_newk _ ?_))) HBl.out) _; simp; done)
             | (refine PartsAt.alloc (PartsAt.below (PartsAt.drew (PartsAt.lit (heap_old (heap_newk _ ?_) _))) HBl.out) _; simp; done)
         · repeat (first | exact HW.out | apply Lw.alloc | apply Lw.drew)
         rintro e w2 ⟨rfl, hW, hB⟩
         have HW := hid hW
         have HBl := hid hB
         clear hW hB)
      | (go_at_call 12; refine (T2.out _ _ _ _ ?_ ?_ ?_).mono ?_
         · rfl
         · first
             | (refine PartsAt.lit (heap_newk _ ?_); simp; done)
             | (refine PartsAt.lit (heap_old (heap_newk _ ?_) _); simp; done)
             | (refine PartsAt.drew (PartsAt.lit (heap_newk _ ?_)); simp; done)
             | (refine PartsAt.drew (PartsAt.lit (heap_old (heap_newk _ ?_) _)); simp; done)
             | (refine PartsAt.below (PartsAt.lit (heap_newk _ ?_)) HBl.out; simp; done)
             | (refine PartsAt.below (PartsAt.lit (heap_old (heap_newk _ ?_) _)) HBl.out; simp; done)
             | (refine PartsAt.below (PartsAt.drew (PartsAt.lit (heap_newk _ ?_))) HBl.out; simp; done)
             | (refine PartsAt.below (PartsAt.drew (PartsAt.lit (heap_old (heap_newk _ ?_) _))) HBl.out; simp; done)
             | (refine PartsAt.alloc (PartsAt.below (PartsAt.lit (heap_newk _ ?_)) HBl.out) _; simp; done)
             | (refine PartsAt.alloc (PartsAt.below (PartsAt.lit (heap_old (heap_newk _ ?_) _)) HBl.out) _; simp; done)
             | (refine PartsAt.alloc (PartsAt.below (PartsAt.drew (PartsAt.lit (heap_newk _ ?_))) HBl.out) _; simp; done)
             | (refine PartsAt.alloc (PartsAt.below (PartsAt.drew (PartsAt.lit (heap_old (heap_newk _ ?_) _))) HBl.out) _; simp; done)
         · repeat (first | exact HW.out | apply Lw.alloc | apply Lw.drew)
         rintro e w2 ⟨rfl, hW, hB⟩
         have HW := hid hW
         have HBl := hid hB
         clear hW hB)
      | (go_at_call 12; refine (T3.out _ _ _ _ ?_ ?_ ?_).mono ?_
         · rfl
         · first
             | (refine PartsAt.lit (heap_newk _ ?_); simp; done)
             | (refine PartsAt.lit (heap_old (heap_newk _ ?_) _); simp; done)
             | (refine PartsAt.drew (PartsAt.lit (heap_newk _ ?_)); simp; done)
             | (refine PartsAt.drew (PartsAt.lit (heap_old (heap_newk _ ?_) _)); simp; done)
             | (refine PartsAt.below (PartsAt.lit (heap_newk _ ?_)) HBl.out; simp; done)
             | (refine PartsAt.below (PartsAt.lit (heap_old (heap_newk _ ?_) _)) HBl.out; simp; done)
             | (refine PartsAt.below (PartsAt.drew (PartsAt.lit (heap_newk _ ?_))) HBl.out; simp; done)
             | (refine PartsAt.below (PartsAt.drew (PartsAt.lit (heap_old (heap_newk _ ?_) _))) HBl.out; simp; done)
             | (refine PartsAt.alloc (PartsAt.below (PartsAt.lit (heap_newk _ ?_)) HBl.out) _; simp; done)
             | (refine PartsAt.alloc (PartsAt.below (PartsAt.lit (heap_old (heap_newk _ ?_) _)) HBl.out) _; simp; done)
             | (refine PartsAt.alloc (PartsAt.below (PartsAt.drew (PartsAt.lit (heap_newk _ ?_))) HBl.out) _; simp; done)
             | (refine PartsAt.alloc (PartsAt.below (PartsAt.drew (PartsAt.lit (heap_old (heap_newk _ ?_) _))) HBl.out) _; simp; done)
         · repeat (first | exact HW.out | apply Lw.alloc | apply Lw.drew)
         rintro e w2 ⟨rfl, hW, hB⟩
         have HW := hid hW
         have HBl := hid hB
         clear hW hB)
      | (go_at_call 13
         refine (R1.out _ _ ?_ ?_).mono ?_
         · with_reducible rfl
         · repeat (first | exact HW.out | apply Lw.alloc | apply Lw.drew)
         rintro e w4 ⟨rfl, hW, hB⟩
         have HW := hid hW
         have HBl := hid hB
         clear hW hB)
      | (go_at_call 13
         refine (R2.out _ _ ?_ ?_).mono ?_
         · with_reducible rfl
         · repeat (first | exact HW.out | apply Lw.alloc | apply Lw.drew)
         rintro e w4 ⟨rfl, hW, hB⟩
         have HW := hid hW
         have HBl := hid hB
         clear hW hB)
      | (go_at_call 13
         refine (R3.out _ _ ?_ ?_).mono ?_
         · with_reducible rfl
         · repeat (first | exact HW.out | apply Lw.alloc | apply Lw.drew)
         rintro e w4 ⟨rfl, hW, hB⟩
         have HW := hid hW
         have HBl := hid hB
         clear hW hB))
    all_goals
      go_wp2
      go_ret
      exact ⟨rfl, HW.out.below⟩

theorem walkShaApart (w : World) (s : ByteArray) (n : Int) (x : Int) (_hs : s.size ≤ 140737488351232) (_hn : (Lit.int .i64 n).wf = true) (hx : (Lit.int .u8 x).wf = true) (hL : Laid w) :
    Calls Tryd.prog 4 #[.string s, .int .i64 n, .int .u8 x] w fun e w' => e = .returned (.bool true) ∧ Below w.heap.size w w' := by
  rw [← S_of s]
  obtain ⟨c, rfl⟩ : ∃ c : UInt8, x = (c.toNat : Int) := by
    have h : 0 ≤ x ∧ x ≤ 255 := by simpa [Lit.wf, IntKind.min, IntKind.max, IntKind.signed, IntKind.bits] using hx
    refine ⟨UInt8.ofNat x.toNat, ?_⟩
    rw [UInt8.toNat_ofNat']
    omega
  exact apart_any _ n c w hL
end Go.Proofs.YtmdcalkfapcafaaDoor
