/-
  Law 09: UndoOrder, the walk.
-/
import Derived.Test.YtmdcalkfapcafaaL09b
namespace Go.Proofs.Ytmdcalkfapcafaa
open Go.RowKit

theorem i64_and255 (n : Int) : bits .and .i64 n 255 = n % 256 := by
  have h255 : (BitVec.ofInt 64 255).toNat = 2 ^ 8 - 1 := by decide
  have key : (BitVec.ofInt 64 n &&& BitVec.ofInt 64 255).toNat = (n % ((2 ^ 64 : Nat) : Int)).toNat % 2 ^ 8 := by
    rw [BitVec.toNat_and, BitVec.toNat_ofInt, h255, Nat.and_two_pow_sub_one_eq_mod]
  show IntKind.i64.wrap ((BitVec.ofInt 64 n &&& BitVec.ofInt 64 255).toNat : Nat) = n % 256
  rw [key, IntKind.wrap_i64]
  omega
theorem i64_and3 (n : Int) : bits .and .i64 n 3 = n % 4 := by
  have h3 : (BitVec.ofInt 64 3).toNat = 2 ^ 2 - 1 := by decide
  have key : (BitVec.ofInt 64 n &&& BitVec.ofInt 64 3).toNat = (n % ((2 ^ 64 : Nat) : Int)).toNat % 2 ^ 2 := by
    rw [BitVec.toNat_and, BitVec.toNat_ofInt, h3, Nat.and_two_pow_sub_one_eq_mod]
  show IntKind.i64.wrap ((BitVec.ofInt 64 n &&& BitVec.ofInt 64 3).toNat : Nat) = n % 4
  rw [key, IntKind.wrap_i64]
  omega
theorem small_of (n : Int) : ∃ m : Nat, (bits .and .i64 n 255).tmod 20 = m ∧ m < 20 := by
  have h : 0 ≤ n % 256 := by omega
  refine ⟨(n % 256 % 20).toNat, ?_, by omega⟩
  rw [i64_and255, Int.tmod_eq_emod_of_nonneg h]
  omega

set_option maxHeartbeats 400000 in
theorem walkUndoOrder (w : World) (n : Int) (fails : Bool) (_hn : (Lit.int .i64 n).wf = true) :
    Calls Try.prog 4 #[.int .i64 n, .bool fails] w fun e w' => e = .returned (.bool true) ∧ Below w.heap.size w w' := by
  obtain ⟨m, hm, hm20⟩ := small_of n
  go_enter Try.func4, Try.ntmps4
  go_wp2_with fail
  refine (awake09 _).mono ?_
  rintro e w1 ⟨rfl, hB1⟩
  have cn := (hB1.block w.heap.size (by simp; omega)).trans (heap_old (heap_new w (.cells #[.int .i64 n] 3)) (.cells #[.bool fails] 4))
  have cf := (hB1.block (w.heap.size + 1) (by simp)).trans (heap_newk (w := w.alloc (.cells #[.int .i64 n] 3)) (k := w.heap.size + 1) (.cells #[.bool fails] 4) (by simp))
  have hsz : w.heap.size + 2 ≤ w1.heap.size := by simpa using hB1.size
  have c0 := cell_of_one cn
  have f0 := free_of_one cn
  have HB1 := hid hB1
  have Hcn := hid cn
  have Hcf := hid cf
  clear cn cf hB1
  go_wp2_with fail
  have hL := LogAt.new (heap_old (heap_old (heap_new (w1.setCell ⟨w.heap.size, 0, none⟩ (.int .i64 m)) (.cells #[.slice none 0 0, .int .i64 0] 32)) (.cells #[] 3)) (.cells #[.slice (some ⟨w1.heap.size + 1, 0, none⟩) 0 0] 22)) 0
  have hl := heap_newk (w := ((w1.setCell ⟨w.heap.size, 0, none⟩ (.int .i64 m)).alloc (.cells #[.slice none 0 0, .int .i64 0] 32)).alloc (.cells #[] 3)) (k := w1.heap.size + 1 + 1) (.cells #[.slice (some ⟨w1.heap.size + 1, 0, none⟩) 0 0] 22) (by simp)
  have h0 := heap_old (heap_newk (w := (w1.setCell ⟨w.heap.size, 0, none⟩ (.int .i64 m)).alloc (.cells #[.slice none 0 0, .int .i64 0] 32)) (k := w1.heap.size + 1) (.cells #[] 3) (by simp)) (.cells #[.slice (some ⟨w1.heap.size + 1, 0, none⟩) 0 0] 22)
  have hF := (((Fr.refl (fun k => k = w.heap.size) w1).setCell (p := ⟨w.heap.size, 0, none⟩) (fun _ => rfl) (.int .i64 m)).alloc (.cells #[.slice none 0 0, .int .i64 0] 32)).alloc (.cells #[] 3) |>.alloc (.cells #[.slice (some ⟨w1.heap.size + 1, 0, none⟩) 0 0] 22)
  have hn' := heap_old (heap_old (heap_old (heap_set_same (i := 0) Hcn.out (.int .i64 m)) (.cells #[.slice none 0 0, .int .i64 0] 32)) (.cells #[] 3)) (.cells #[.slice (some ⟨w1.heap.size + 1, 0, none⟩) 0 0] 22)
  have hsz2 : w1.heap.size + 3 ≤ ((((w1.setCell ⟨w.heap.size, 0, none⟩ (.int .i64 m)).alloc (.cells #[.slice none 0 0, .int .i64 0] 32)).alloc (.cells #[] 3)).alloc (.cells #[.slice (some ⟨w1.heap.size + 1, 0, none⟩) 0 0] 22)).heap.size := by simp
  rw [show (w1.setCell ⟨w.heap.size, 0, none⟩ (.int .i64 m)).heap.size = w1.heap.size from by simp] at hL
  generalize (((w1.setCell ⟨w.heap.size, 0, none⟩ (.int .i64 m)).alloc (.cells #[.slice none 0 0, .int .i64 0] 32)).alloc (.cells #[] 3)).alloc (.cells #[.slice (some ⟨w1.heap.size + 1, 0, none⟩) 0 0] 22) = w2 at hL hl h0 hF hn' hsz2 ⊢
  simp only [List.setIfInBounds_toArray, List.set_cons_zero] at hn'
  have hB2 : Below w.heap.size w w2 := (((Below.refl w.heap.size w).alloc (Nat.le_refl _) (.cells #[.int .i64 n] 3)).alloc (by simp) (.cells #[.bool fails] 4)).trans (HB1.out.mono (by simp; omega)) |>.trans (hF.below (by omega) (fun k hk e => by omega))
  have Hf2 := hid (hF.heap Hcf.out (by omega))
  have hR : RowAt w2 (w1.heap.size + 1 + 1) (.slice (some ⟨w1.heap.size + 1, 0, none⟩) 0 0) [] :=
    ⟨hl, ⟨rfl, .inr ⟨w1.heap.size + 1, 0, #[], rfl, by omega, h0, by simp, by unfold maxLen; omega, rfl, rfl⟩⟩, by simp [Value.ownBlock]⟩
  have HL := hid hL
  have HR := hid hR
  have Hn := hid hn'
  have HB2 := hid hB2
  clear hL hl h0 hF hn' hR hB2 HB1 Hcn Hcf c0 f0
  refine (back_idle _ _ _ _ _ _ HL.out).mono ?_
  rintro e w3 ⟨rfl, rfl⟩
  go_wp2_with fail
  refine (order_try w.heap.size w1.heap.size (w1.heap.size + 1 + 1) (w.heap.size + 1) (w1.heap.size + 1) m fails _ w2 HL.out Hn.out Hf2.out HR.out (fun k hk => by simpa [Value.ownBlock] using hk) (by omega) (by omega) (by omega) (by omega) (by omega) (by omega)).mono ?_
  rintro e w3 ⟨rfl, ⟨v', hR3⟩, hF3⟩
  have hB3 := HB2.out.trans (hF3.below (by omega) (fun k hk h => by omega))
  have cn3 := cell_of_one (hF3.heap Hn.out (by omega))
  have cf3 := cell_of_one (hF3.heap Hf2.out (by omega))
  have HB3 := hid hB3
  have cl := cell_of_one hR3.at_
  have HR3 := hid hR3
  clear hR3 hF3 hB3 HB2
  cases fails with
  | false =>
    obtain ⟨ao, cap, rfl⟩ : ∃ ao cap, v' = .slice ao 0 cap := by
      have h := HR3.out.own.2
      rcases h with ⟨rfl, _⟩ | ⟨g, c, cur, rfl, _⟩
      · exact ⟨_, _, rfl⟩
      · exact ⟨_, _, rfl⟩
    go_wp2
    go_ret
    exact ⟨rfl, HB3.out⟩
  | true =>
    have hlen : (backs m 0).length = m := by rw [backs_length]; omega
    obtain ⟨ao, cap, rfl, hcap, hmax, hcells⟩ := own_slice (by simpa [hlen] using HR3.out.own)
    have Hcells := hid hcells
    have hlenb : (((backs m 0).length : Nat) : Int) = m := by rw [hlen]
    clear hcells
    go_wp2_with fail
    go_loop [39] (fun i => ∃ j : Nat, j ≤ m ∧ i = .int .i64 j) (fun i => m - (intOf i).toNat)
    case atStart => exact ⟨0, by omega, rfl⟩
    case round =>
      obtain ⟨j, hj, rfl⟩ := hrel
      by_cases hjm : j < m
      · have hd : decide (j < m) = true := by simp; omega
        obtain ⟨g, rfl, hc⟩ := Hcells.out (by omega)
        have hk := hc j hjm
        rw [List.getD_eq_getElem?_getD, List.getElem?_map, backs_get m j hjm] at hk
        simp only [Option.map_some, Option.getD_some] at hk
        have hne : ((m : Int) - 1 - (j : Int) != (m : Int) - 1 - (j : Int)) = false := by simp
        clear hc
        go_wp2
        go_round
        case rel => exact ⟨j + 1, by omega, by go_num⟩
        case measure => simp [intOf]; omega
      · have hd : decide (j < m) = false := by simp; omega
        go_wp2
        go_ret
        exact ⟨rfl, HB3.out⟩

end Go.Proofs.Ytmdcalkfapcafaa
