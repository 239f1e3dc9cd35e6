/-
  Law 05's StampOf.
-/
import Derived.Test.YtkmbbgnbklklcaaL05a
import Derived.Test.YtkmbbgnbklklcaaCut
import Derived.Test.YtkmbbgnbklklcaaRef3
namespace Go.Proofs.Ytkmbbgnbklklcaa
open Go.RowKit

set_option maxRecDepth 100000 in
set_option maxHeartbeats 1000000 in
theorem stampof_any (l : List UInt8) (w : World) :
    Calls Try.prog 3 #[.string (S l)] w fun e w' => e = .returned (.bool true) ∧ Below w.heap.size w w' := by
  go_enter Try.func3, Try.ntmps3
  go_wp2_with fail
  refine (cut_any l 70 w).mono ?_
  rintro e w' ⟨rfl, hw⟩
  subst hw
  generalize l.take 70 = m
  go_wp2_with fail
  refine (awake05 _).mono ?_
  rintro e w1 ⟨rfl, hB1⟩
  have HB1 := hid hB1
  clear hB1
  have hs := S_size m
  by_cases hm : m.length < 8
  · have hd : decide (m.length < 8) = true := by simp; omega
    go_wp2_with fail
    refine (stamp_of_short m w1 hm).mono ?_
    rintro e w2 ⟨rfl, hB2⟩
    have HB2 := hid (HB1.out.trans (hB2.mono HB1.out.size))
    clear hB2
    go_wp2_with fail
    go_ret
    exact ⟨rfl, HB2.out.alloc HB2.out.size _⟩
  · have hd : decide (m.length < 8) = false := by simp; omega
    go_wp2_with fail
    refine (stamp_of m w1 (by omega)).mono ?_
    rintro e w2 ⟨rfl, hB2⟩
    have HB2 := hid (HB1.out.trans (hB2.mono HB1.out.size))
    clear hB2
    have hx : be (m.take 4) < 4294967296 := be_small _ (by rw [List.length_take]; omega)
    have hy : be ((m.drop 4).take 4) < 4294967296 := be_small _ (by rw [List.length_take]; omega)
    have hcat : num (be (m.take 4)) 4 ++ num (be ((m.drop 4).take 4)) 4 = m.take 8 := by
      rw [num_be_take (by omega), num_be_take (by rw [List.length_drop]; omega), show (8 : Nat) = 4 + 4 from rfl, List.take_add]
    go_upto_region 7 with fail
    generalize be (m.take 4) = x at *
    generalize be ((m.drop 4).take 4) = y at *
    have hx8 : IntKind.u64.wrap (x : Int) = x := by rw [IntKind.wrap_u64]; omega
    have hy8 : IntKind.u64.wrap (y : Int) = y := by rw [IntKind.wrap_u64]; omega
    have hadd := str_add (num x 4) (num y 4) (by rw [num_length]; decide) (by rw [num_length]; decide)
    rw [hcat] at hadd
    have hex : (S m).extract 0 8 = S (m.take 8) := S_take m 8
    have hB3 := HB2.out.alloc HB2.out.size (.cells #[.int .u32 x, .int .u32 y] 26)
    have hb3 := heap_new w2 (.cells #[.int .u32 x, .int .u32 y] 26)
    generalize w2.alloc (.cells #[.int .u32 x, .int .u32 y] 26) = w3 at *
    generalize w2.heap.size = bx at *
    have c0 := cell_of_block hb3 0
    have c1 := cell_of_block hb3 1
    simp only [List.getElem?_toArray, List.getElem?_cons_zero, List.getElem?_cons_succ] at c0 c1
    have HB3 := hid hB3
    have Hb3 := hid hb3
    have hxb : x < 18446744073709551616 := by omega
    have hyb : y < 18446744073709551616 := by omega
    have Hx := hid hxb
    have Hy := hid hyb
    clear hB3 hb3 hcat hx hy hxb hyb hm
    go_region_held3 (fun w' => w'.cell? ⟨bx, 0, none⟩ = some (.int .u32 x) ∧ w'.cell? ⟨bx, 1, none⟩ = some (.int .u32 y))
      (first | go_keep | (constructor <;> assumption))
      (first
        | (go_at_call 11; (with_reducible refine (refnum_any x 4 4 w3.drew (by decide) Hx.out).mono ?_); rintro e w4 ⟨rfl, hB4⟩; have hb4 := (hB4.block bx (lt_of_block Hb3.out)).trans Hb3.out; have k0 := cell_of_block hb4 0; have k1 := cell_of_block hb4 1; simp only [List.getElem?_toArray, List.getElem?_cons_zero, List.getElem?_cons_succ] at k0 k1; have HB4 := hid (HB3.out.drew.trans (hB4.mono HB3.out.size)); have Hb4 := hid hb4; clear hB4 hb4)
        | (go_at_call 11; (with_reducible refine (refnum_any y 4 4 w4 (by decide) Hy.out).mono ?_); rintro e w5 ⟨rfl, hB5⟩; have hb5 := (hB5.block bx (lt_of_block Hb4.out)).trans Hb4.out; have k2 := cell_of_block hb5 0; have k3 := cell_of_block hb5 1; simp only [List.getElem?_toArray, List.getElem?_cons_zero, List.getElem?_cons_succ] at k2 k3; have HB5 := hid (HB4.out.trans (hB5.mono HB4.out.size)); clear hB5 hb5))
    go_wp2_with fail
    go_ret
    exact ⟨rfl, HB5.out⟩
theorem walkStampOf (w : World) (s : ByteArray) (_h : s.size ≤ 140737488351232) :
    Calls Try.prog 3 #[.string s] w fun e w' => e = .returned (.bool true) ∧ Below w.heap.size w w' := by
  rw [← S_of s]
  exact stampof_any s.data.toList w
end Go.Proofs.Ytkmbbgnbklklcaa
