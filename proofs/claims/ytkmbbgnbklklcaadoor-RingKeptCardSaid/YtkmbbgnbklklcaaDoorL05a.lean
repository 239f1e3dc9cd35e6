/-
  Law 05's Frame and awake.
-/
import Derived.Test.YtkmbbgnbklklcaaDoorStamp
import Derived.Test.YtkmbbgnbklklcaaDoorGuardB
namespace Go.Proofs.YtkmbbgnbklklcaaDoor
open Go.RowKit

theorem enters_fr (a c d : Value) : Enters 85 #[a, c, d] := fun w => by kernel_rfl
theorem lawframe1 (bo bs bt a b : Nat) (t : List UInt8) (w : World) (ho : w.heap[bo]? = some (.cells #[.string ByteArray.empty] 9 (0, 0))) (hs : w.heap[bs]? = some (.cells #[.int .u32 a, .int .u32 b] 54 (0, 0)))
    (ht : w.heap[bt]? = some (.cells #[.string (S t)] 9 (0, 0))) (ha : a < 4294967296) (hb : b < 4294967296) (hl : t.length ≤ 47) :
    Calls Tryd.prog 85 #[.pointer (some ⟨bs, 0, none⟩), .pointer (some ⟨bt, 0, none⟩), .pointer (some ⟨bo, 0, none⟩)] w fun e w' =>
      e = .returned (.tuple #[]) ∧ Fr (fun k => k = bo) w w' ∧ w'.heap[bo]? = some (.cells #[.string (S (frame a b t))] 9 (0, 0)) := by
  have c0 := cell_of_block hs 0
  have c1 := cell_of_block hs 1
  have c2 := cell_of_one ht
  simp only [List.getElem?_toArray, List.getElem?_cons_zero, List.getElem?_cons_succ] at c0 c1
  have Ho := hid ho
  clear ho hs ht
  go_enter Tryd.func85, Tryd.ntmps85
  go_wp2_with fail
  refine (frame_any a b t w ha hb hl).mono ?_
  rintro e w1 ⟨rfl, hB⟩
  have ho1 := (hB.block bo (lt_of_block Ho.out)).trans Ho.out
  have c3 := cell_of_one ho1
  have f3 := free_of_one ho1
  have HB := hid hB
  have Ho1 := hid ho1
  clear hB ho1 c0 c1 c2
  go_wp2_with fail
  go_end0
  exact ⟨rfl, ((Fr.ofBelow HB.out (fun k => k = bo)).setCell (p := ⟨bo, 0, none⟩) (fun _ => rfl) _), one_setCell Ho1.out⟩

theorem lawframe1_big (bo bs bt a b : Nat) (t : List UInt8) (w : World) (hs : w.heap[bs]? = some (.cells #[.int .u32 a, .int .u32 b] 54 (0, 0)))
    (ht : w.heap[bt]? = some (.cells #[.string (S t)] 9 (0, 0))) (hl : 47 < t.length) :
    Calls Tryd.prog 85 #[.pointer (some ⟨bs, 0, none⟩), .pointer (some ⟨bt, 0, none⟩), .pointer (some ⟨bo, 0, none⟩)] w fun e w' =>
      e = .panicked (fault 3) ∧ Below w.heap.size w w' := by
  have c0 := cell_of_block hs 0
  have c1 := cell_of_block hs 1
  have c2 := cell_of_one ht
  simp only [List.getElem?_toArray, List.getElem?_cons_zero, List.getElem?_cons_succ] at c0 c1
  clear hs ht
  go_enter Tryd.func85, Tryd.ntmps85
  go_wp2_with fail
  refine (frame_big a b t w hl).mono ?_
  rintro e w1 ⟨rfl, hB⟩
  exact ⟨rfl, rfl, hB⟩

theorem lawframe_ok (a b : Nat) (t : List UInt8) (w : World) (ha : a < 4294967296) (hb : b < 4294967296) (hl : t.length ≤ 47) :
    Calls Tryd.prog 38 #[.agg #[.int .u32 a, .int .u32 b], .string (S t)] w fun e w' =>
      e = .returned (.tuple #[.string (S (frame a b t)), .int .i64 (0)]) ∧ Below w.heap.size w w' := by
  go_enter Tryd.func38, Tryd.ntmps38
  go_wp2_with fail
  change Calls _ _ _ (((w.alloc (.cells #[.int .u32 a, .int .u32 b] 54)).alloc (.cells #[.string (S t)] 9)).alloc (.cells #[.string ByteArray.empty] 9)) _
  have hs := heap_old (heap_old (heap_new w (.cells #[.int .u32 a, .int .u32 b] 54)) (.cells #[.string (S t)] 9)) (.cells #[.string ByteArray.empty] 9)
  have ht := heap_old (heap_newk (w := w.alloc (.cells #[.int .u32 a, .int .u32 b] 54)) (k := w.heap.size + 1) (.cells #[.string (S t)] 9) (by simp)) (.cells #[.string ByteArray.empty] 9)
  have ho := heap_newk (w := (w.alloc (.cells #[.int .u32 a, .int .u32 b] 54)).alloc (.cells #[.string (S t)] 9)) (k := w.heap.size + 1 + 1) (.cells #[.string ByteArray.empty] 9) (by simp)
  have hB : Below w.heap.size w (((w.alloc (.cells #[.int .u32 a, .int .u32 b] 54)).alloc (.cells #[.string (S t)] 9)).alloc (.cells #[.string ByteArray.empty] 9)) := (((Below.refl _ _).alloc (Nat.le_refl _) _).alloc (by simp) _).alloc (by simp; omega) _
  generalize ((w.alloc (.cells #[.int .u32 a, .int .u32 b] 54)).alloc (.cells #[.string (S t)] 9)).alloc (.cells #[.string ByteArray.empty] 9) = w0 at *
  have HB := hid hB
  have hbs := hB.size
  refine (guard_box _ _ w0 0 (w.heap.size + 1 + 1) (.string (S (frame a b t))) 9 (enters_fr _ _ _) (lt_of_block ho) ((lawframe1 (w.heap.size + 1 + 1) w.heap.size (w.heap.size + 1) a b t _ (heap_old ho _) (heap_old hs _) (heap_old ht _) ha hb hl).mono fun e w' ⟨he, hF, hb⟩ => ⟨hF, hb, .inl ⟨_, he, rfl⟩⟩)).mono ?_
  rintro e w1 ⟨rfl, hF, ho1⟩
  have c1 := cell_of_one ho1
  have HB1 := hid (HB.out.trans (hF.below hbs (fun k hk e => by omega)))
  clear hF ho1 ho hs ht hB
  go_wp2_with fail
  go_ret2
  exact ⟨rfl, HB1.out⟩

theorem lawframe_big (a b : Nat) (t : List UInt8) (w : World) (hl : 47 < t.length) :
    Calls Tryd.prog 38 #[.agg #[.int .u32 a, .int .u32 b], .string (S t)] w fun e w' =>
      e = .returned (.tuple #[.string (ByteArray.empty), .int .i64 (3)]) ∧ Below w.heap.size w w' := by
  go_enter Tryd.func38, Tryd.ntmps38
  go_wp2_with fail
  change Calls _ _ _ (((w.alloc (.cells #[.int .u32 a, .int .u32 b] 54)).alloc (.cells #[.string (S t)] 9)).alloc (.cells #[.string ByteArray.empty] 9)) _
  have hs := heap_old (heap_old (heap_new w (.cells #[.int .u32 a, .int .u32 b] 54)) (.cells #[.string (S t)] 9)) (.cells #[.string ByteArray.empty] 9)
  have ht := heap_old (heap_newk (w := w.alloc (.cells #[.int .u32 a, .int .u32 b] 54)) (k := w.heap.size + 1) (.cells #[.string (S t)] 9) (by simp)) (.cells #[.string ByteArray.empty] 9)
  have ho := heap_newk (w := (w.alloc (.cells #[.int .u32 a, .int .u32 b] 54)).alloc (.cells #[.string (S t)] 9)) (k := w.heap.size + 1 + 1) (.cells #[.string ByteArray.empty] 9) (by simp)
  have hB : Below w.heap.size w (((w.alloc (.cells #[.int .u32 a, .int .u32 b] 54)).alloc (.cells #[.string (S t)] 9)).alloc (.cells #[.string ByteArray.empty] 9)) := (((Below.refl _ _).alloc (Nat.le_refl _) _).alloc (by simp) _).alloc (by simp; omega) _
  generalize ((w.alloc (.cells #[.int .u32 a, .int .u32 b] 54)).alloc (.cells #[.string (S t)] 9)).alloc (.cells #[.string ByteArray.empty] 9) = w0 at *
  have HB := hid hB
  have hbs := hB.size
  refine (guard_box _ _ w0 3 (w.heap.size + 1 + 1) (.string ByteArray.empty) 9 (enters_fr _ _ _) (lt_of_block ho) ((lawframe1_big (w.heap.size + 1 + 1) w.heap.size (w.heap.size + 1) a b t _ (heap_old hs _) (heap_old ht _) (by omega)).mono fun e w' ⟨he, hF⟩ => ⟨Fr.ofBelow hF _, (hF.block _ (by have := lt_of_block ho; simp; omega)).trans (heap_old ho _), .inr he⟩)).mono ?_
  rintro e w1 ⟨rfl, hF, ho1⟩
  have c1 := cell_of_one ho1
  have HB1 := hid (HB.out.trans (hF.below hbs (fun k hk e => by omega)))
  clear hF ho1 ho hs ht hB
  go_wp2_with fail
  go_ret2
  exact ⟨rfl, HB1.out⟩

theorem awake05 (w : World) : Calls Tryd.prog 35 #[] w fun e w' => e = .returned (.bool true) ∧ Below w.heap.size w w' := by
  have hs : (S (frame 1 2 [97, 98])).size = 64 := by rw [S_size]; exact frame_length _ _ _ (by decide)
  have hx : (S (frame 1 2 [97, 98])).extract 0 11 = ⟨#[0, 0, 0, 1, 0, 0, 0, 2, 2, 97, 98]⟩ := by rw [S_take]; rfl
  go_enter Tryd.func35, Tryd.ntmps35
  go_wp2_with fail
  refine (lawframe_ok 1 2 [97, 98] w (by decide) (by decide) (by decide)).mono ?_
  rintro e w1 ⟨rfl, hB⟩
  have HB := hid hB
  clear hB
  generalize frame 1 2 [97, 98] = F at *
  go_wp2_with fail
  go_ret
  exact ⟨rfl, HB.out⟩
end Go.Proofs.YtkmbbgnbklklcaaDoor
