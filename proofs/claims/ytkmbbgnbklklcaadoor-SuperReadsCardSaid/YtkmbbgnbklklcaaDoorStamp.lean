/-
  Contracts of package stamp: a stamp's bytes.
-/
import Derived.Test.YtkmbbgnbklklcaaDoorPackA
namespace Go.Proofs.YtkmbbgnbklklcaaDoor
open Go.RowKit

/-- A stamp's bytes. -/
def st (a b : Nat) : List UInt8 := num a 4 ++ num b 4
theorem st_length (a b : Nat) : (st a b).length = 8 := by simp [st, num_length]

set_option maxHeartbeats 1000000 in
theorem stbytes_any (a b : Nat) (w : World) (ha : a < 4294967296) (hb : b < 4294967296) :
    Calls Tryd.prog 83 #[.agg #[.int .u32 a, .int .u32 b]] w fun e w' => e = .returned (.string (S (st a b))) ∧ Below w.heap.size w w' := by
  go_enter Tryd.func83, Tryd.ntmps83
  go_upto_region 2 with fail
  have hs := heap_old (heap_new w (.cells #[.int .u32 a, .int .u32 b] 54)) (.cells #[.slice none 0 0] 43)
  have hO := OutAt.new (w.alloc (.cells #[.int .u32 a, .int .u32 b] 54)) w.heap.size
  rw [show (w.alloc (.cells #[.int .u32 a, .int .u32 b] 54)).heap.size = w.heap.size + 1 from by simp] at hO
  have hB : Below w.heap.size w ((w.alloc (.cells #[.int .u32 a, .int .u32 b] 54)).alloc (.cells #[.slice none 0 0] 43)) := ((Below.refl _ _).alloc (Nat.le_refl _) _).alloc (by simp) _
  generalize (w.alloc (.cells #[.int .u32 a, .int .u32 b] 54)).alloc (.cells #[.slice none 0 0] 43) = w0 at *
  have hO := hO.fr (Fr.refl (fun _ => False) w0).drew id (fun _ _ => id)
  have hc0 := cell_of_block hs 0
  have hc1 := cell_of_block hs 1
  simp only [List.getElem?_toArray, List.getElem?_cons_zero, List.getElem?_cons_succ] at hc0 hc1
  have HO := hid hO
  have HB := hid hB
  have Hs := hid hs
  have hbs := hB.size
  clear hO hB hs
  have hwa : IntKind.u64.wrap (a : Int) = a := by rw [IntKind.wrap_u64]; omega
  have hwb : IntKind.u64.wrap (b : Int) = b := by rw [IntKind.wrap_u64]; omega
  go_region_held3 (fun w' => w'.cell? ⟨w.heap.size, 0, none⟩ = some (.int .u32 a) ∧ w'.cell? ⟨w.heap.size, 1, none⟩ = some (.int .u32 b))
    (first | go_keep | (constructor <;> assumption))
    (first
      | (go_at_call 28; (with_reducible refine (out_num (w.heap.size + 1) w.heap.size (.slice none 0 0) [] a 4 4 _ HO.out (by decide) (by simpa using hbs) (by simp)).mono ?_); rintro e w1 ⟨rfl, hE1⟩; obtain ⟨ao1, cp1, hO1, hM1, hF1⟩ := hE1.open'; have hs1 := hF1.heap Hs.out (by rintro (h | h); omega; simp [Value.ownBlock] at h); have k0 := cell_of_block hs1 0; have k1 := cell_of_block hs1 1; simp only [List.getElem?_toArray, List.getElem?_cons_zero, List.getElem?_cons_succ] at k0 k1; have HO1 := hid hO1; have HM1 := hid hM1; have HF1 := hid hF1; clear hO1 hE1 hs1 hF1 hM1)
      | (go_at_call 28; (with_reducible refine (out_num (w.heap.size + 1) w.heap.size (.slice ao1 _ cp1) _ b 4 4 w1 HO1.out (by decide) (by have := HF1.out.size; simp at this; omega) (by simp [num_length])).mono ?_); rintro e w2 ⟨rfl, hE2⟩; have hE2' := OutEnd.trans HO1.out HM1.out HF1.out hE2; obtain ⟨ao2, cp2, hO2, hM2, hF2⟩ := hE2'.open'; have hs2 := hF2.heap Hs.out (by rintro (h | h); omega; simp [Value.ownBlock] at h); have k2 := cell_of_block hs2 0; have k3 := cell_of_block hs2 1; simp only [List.getElem?_toArray, List.getElem?_cons_zero, List.getElem?_cons_succ] at k2 k3; have HO2 := hid hO2; have HF2 := hid hF2; clear hO2 hE2 hs2 hF2 hM2 hE2')
      | (go_at_call 31; (with_reducible refine (out_bytes _ _ _ _ _ HO2.out).mono ?_); rintro e w' ⟨rfl, rfl⟩))
  go_wp2_with fail
  go_ret
  refine ⟨rfl, HB.out.drew.trans (HF2.out.below hbs fun k hk hx => ?_)⟩
  rcases hx with hx | hx
  · omega
  · simp [Value.ownBlock] at hx

/-- A frame's bytes. -/
def frame (a b : Nat) (t : List UInt8) : List UInt8 := st a b ++ num t.length 1 ++ t ++ List.replicate (56 - (9 + t.length)) 0 ++ st a b
theorem num_one (n : Nat) : num n 1 = [UInt8.ofNat n] := by simp [num, numTo, List.range_succ]
theorem frame_length (a b : Nat) (t : List UInt8) (ht : t.length ≤ 47) : (frame a b t).length = 64 := by
  simp [frame, st_length, num_length]; omega

theorem frame_big (a b : Nat) (t : List UInt8) (w : World) (ht : 47 < t.length) :
    Calls Tryd.prog 86 #[.agg #[.int .u32 a, .int .u32 b], .string (S t)] w fun e w' => e = .panicked (fault 3) ∧ Below w.heap.size w w' := by
  have hs := S_size t
  have hB : ∀ o, Below w.heap.size w (w.alloc o) := fun o => (Below.refl _ _).alloc (Nat.le_refl _) o
  have HB := hid hB
  clear hB
  go_enter Tryd.func86, Tryd.ntmps86
  go_wp2_with (go_at_call 79; refine (fail_any _ _).mono ?_; rintro e w' ⟨rfl, rfl⟩)
  exact ⟨rfl, rfl, HB.out _⟩

set_option maxHeartbeats 1000000 in
theorem frame_any (a b : Nat) (t : List UInt8) (w : World) (ha : a < 4294967296) (hb : b < 4294967296) (ht : t.length ≤ 47) :
    Calls Tryd.prog 86 #[.agg #[.int .u32 a, .int .u32 b], .string (S t)] w fun e w' => e = .returned (.string (S (frame a b t))) ∧ Below w.heap.size w w' := by
  have hts := S_size t
  have hd : decide (47 < t.length) = false := by simp; omega
  have hwl : IntKind.u64.wrap (t.length : Int) = t.length := by rw [IntKind.wrap_u64]; omega
  have hsl := st_length a b
  have Hn1 := hid (num_length t.length 1)
  go_enter Tryd.func86, Tryd.ntmps86
  go_upto_region 4 with fail
  have hs := heap_new w (.cells #[.int .u32 a, .int .u32 b] 54)
  have hO := OutW.new (w.alloc (.cells #[.int .u32 a, .int .u32 b] 54))
  rw [show (w.alloc (.cells #[.int .u32 a, .int .u32 b] 54)).heap.size = w.heap.size + 1 from by simp] at hO
  have hs := heap_old hs (.cells #[.slice none 0 0] 43)
  have hB : Below w.heap.size w ((w.alloc (.cells #[.int .u32 a, .int .u32 b] 54)).alloc (.cells #[.slice none 0 0] 43)) := ((Below.refl _ _).alloc (Nat.le_refl _) _).alloc (by simp) _
  generalize (w.alloc (.cells #[.int .u32 a, .int .u32 b] 54)).alloc (.cells #[.slice none 0 0] 43) = w0 at *
  have hNs := hB.size
  generalize hN : w.heap.size = N at *
  have c0 := cell_of_block hs 0
  have c1 := cell_of_block hs 1
  simp only [List.getElem?_toArray, List.getElem?_cons_zero, List.getElem?_cons_succ] at c0 c1
  have HO := hid hO
  have HB := hid hB
  have Hs := hid hs
  have Hsl := hid hsl
  have Hts := hid hts
  have HN := hid hN
  clear hO hB hs hN hsl
  go_wp2_with fail
  refine (stbytes_any a b w0 ha hb).mono ?_
  rintro e w1 ⟨rfl, hB1⟩
  have HO1 := hid (HO.out.below hB1)
  have HB1 := hid (HB.out.trans (hB1.mono hNs))
  have Hs1 := hid ((hB1.block N (lt_of_block Hs.out)).trans Hs.out)
  clear hB1 c0 c1
  go_wp2_with fail
  refine (ow_text (N + 1) _ (st a b) w1 HO1.out (by rw [Hsl.out]; decide)).mono ?_
  rintro e w2 ⟨rfl, hO2, hB2⟩
  have HO2 := hid hO2
  have HB2 := hid (HB1.out.trans (hB2.mono (by omega)))
  have Hs2 := hid ((hB2.block N (by omega)).trans Hs1.out)
  clear hO2 hB2
  go_wp2_with fail
  refine (ow_num (N + 1) _ t.length 1 1 w2 HO2.out (by decide) (by rw [List.nil_append, Hsl.out]; decide)).mono ?_
  rintro e w3 ⟨rfl, hO3, hB3⟩
  have HO3 := hid hO3
  have HB3 := hid (HB2.out.trans (hB3.mono (by omega)))
  have Hs3 := hid ((hB3.block N (by omega)).trans Hs2.out)
  clear hO3 hB3
  go_wp2_with fail
  refine (ow_text (N + 1) _ t w3 HO3.out (by rw [List.nil_append, List.length_append, Hsl.out, Hn1.out]; omega)).mono ?_
  rintro e w4 ⟨rfl, hO4, hB4⟩
  have HO4 := hid hO4
  have HB4 := hid (HB3.out.trans (hB4.mono (by omega)))
  have Hs4 := hid ((hB4.block N (by omega)).trans Hs3.out)
  clear hO4 hB4
  have hc0 := cell_of_block Hs4.out 0
  have hc1 := cell_of_block Hs4.out 1
  simp only [List.getElem?_toArray, List.getElem?_cons_zero, List.getElem?_cons_succ] at hc0 hc1
  have Hl4 : Hid (([] ++ st a b ++ num t.length 1 ++ t).length = 9 + t.length) := hid (by
    rw [List.nil_append, List.length_append, List.length_append, Hsl.out, Hn1.out])
  go_wp2_with fail
  go_region_held3 (fun w' => w'.cell? ⟨N, 0, none⟩ = some (.int .u32 a) ∧ w'.cell? ⟨N, 1, none⟩ = some (.int .u32 b))
    (first | go_keep | (constructor <;> assumption))
    (first
      | (go_at_call 33; (with_reducible refine (ow_fill (N + 1) _ 56 56 rfl _ HO4.out.drew (by rw [Hl4.out]; omega) (by decide)).mono ?_); rintro e w5 ⟨rfl, hO5, hB5⟩; have hs5 := (hB5.block N (by omega)).trans Hs4.out; have k0 := cell_of_block hs5 0; have k1 := cell_of_block hs5 1; simp only [List.getElem?_toArray, List.getElem?_cons_zero, List.getElem?_cons_succ] at k0 k1; have HO5 := hid hO5; have HB5 := hid (HB4.out.drew.trans (hB5.mono (by omega))); have Hs5 := hid hs5; clear hO5 hB5 hs5)
      | (go_at_call 83; (with_reducible refine (stbytes_any a b w5 ha hb).mono ?_); rintro e w6 ⟨rfl, hB6⟩; have hs6 := (hB6.block N (lt_of_block Hs5.out)).trans Hs5.out; have k2 := cell_of_block hs6 0; have k3 := cell_of_block hs6 1; simp only [List.getElem?_toArray, List.getElem?_cons_zero, List.getElem?_cons_succ] at k2 k3; have HO6 := hid (HO5.out.below hB6); have HB6 := hid (HB5.out.trans (hB6.mono (by have := HO5.out.lt; omega))); have Hs6 := hid hs6; clear hB6 hs6)
      | (go_at_call 29; (with_reducible refine (ow_text (N + 1) _ (st a b) w6 HO6.out (by rw [List.length_append, List.length_replicate, Hl4.out, Hsl.out]; omega)).mono ?_); rintro e w7 ⟨rfl, hO7, hB7⟩; have hs7 := (hB7.block N (by omega)).trans Hs6.out; have k4 := cell_of_block hs7 0; have k5 := cell_of_block hs7 1; simp only [List.getElem?_toArray, List.getElem?_cons_zero, List.getElem?_cons_succ] at k4 k5; have HO7 := hid hO7; have HB7 := hid (HB6.out.trans (hB7.mono (by omega))); clear hO7 hB7 hs7)
      | (go_at_call 31; (with_reducible refine (ow_bytes (N + 1) _ w7 HO7.out).mono ?_); rintro e w' ⟨rfl, rfl⟩))
  go_wp2_with fail
  go_ret
  refine ⟨ret_str ?_, by rw [HN.out]; exact HB7.out⟩
  unfold frame
  rw [Hsl.out, Hn1.out, show 8 + (1 + t.length) = 9 + t.length from by omega]
  simp only [List.append_assoc]

theorem res_cell {fn : Func} {p : Tmp} {ty : TypeId} (h : fn.results = #[.cell p ty]) (tmps : Array Value) (P : Program) (w : World) :
    (results fn tmps).run P w = ((asAddr (tmps.getD p undef)).run P w).andThen fun a w₁ => (loadVar ty a).run P w₁ := by
  simp only [results, h]
  simp [Sem.run_bind, Result.andThen]
theorem be_small (l : List UInt8) (h : l.length ≤ 4) : be l < 4294967296 := by
  have h1 := be_le l
  have h2 : 256 ^ l.length ≤ 256 ^ 4 := Nat.pow_le_pow_right (by decide) h
  omega
theorem stamp_of_short (l : List UInt8) (w : World) (hl : l.length < 8) :
    Calls Tryd.prog 40 #[.string (S l)] w fun e w' => e = .returned (.agg #[.int .u32 0, .int .u32 0]) ∧ Below w.heap.size w w' := by
  have hs := S_size l
  have hd : decide (l.length < 8) = true := by simp; omega
  go_enter Tryd.func40, Tryd.ntmps40
  go_wp2_with fail
  refine bodyPost_ret (v := .agg #[.int .u32 0, .int .u32 0]) ?_ rfl ⟨rfl, (Below.refl _ _).alloc (Nat.le_refl _) _⟩
  rw [res_cell rfl]
  simp [asAddr, Result.andThen, loadVar, go_sem]
set_option maxHeartbeats 1000000 in
theorem stamp_of (l : List UInt8) (w : World) (hl : 8 ≤ l.length) :
    Calls Tryd.prog 40 #[.string (S l)] w fun e w' => e = .returned (.agg #[.int .u32 (be (l.take 4)), .int .u32 (be ((l.drop 4).take 4))]) ∧ Below w.heap.size w w' := by
  have hs := S_size l
  have hd : decide (l.length < 8) = false := by simp; omega
  go_enter Tryd.func40, Tryd.ntmps40
  go_wp2_with fail
  refine (read_any (S l) _).mono ?_
  rintro e w' ⟨rfl, rfl⟩
  rw [show (w.alloc (.cells #[.int .u32 0, .int .u32 0] 54)).heap.size = w.heap.size + 1 from by simp]
  have hI : InAt ((w.alloc (.cells #[.int .u32 0, .int .u32 0] 54)).alloc (.cells #[.string (S l)] 111)) (w.heap.size + 1) l := heap_newk _ (by simp)
  have hr := heap_old (heap_new w (.cells #[.int .u32 0, .int .u32 0] 54)) (.cells #[.string (S l)] 111)
  have hB : Below w.heap.size w ((w.alloc (.cells #[.int .u32 0, .int .u32 0] 54)).alloc (.cells #[.string (S l)] 111)) := ((Below.refl _ _).alloc (Nat.le_refl _) _).alloc (by simp) _
  generalize (w.alloc (.cells #[.int .u32 0, .int .u32 0] 54)).alloc (.cells #[.string (S l)] 111) = w0 at *
  have HI := hid hI
  have HB := hid hB
  have Hr := hid hr
  have hbs := hB.size
  clear hI hB hr hs hd
  go_wp2_with fail
  refine (in_num_some (w.heap.size + 1) l 4 4 w0 HI.out (by decide) (by omega)).mono ?_
  rintro e w1 ⟨rfl, hI1, hF1⟩
  have HI1 := hid hI1
  have HF1 := hid hF1
  have HB1 := hid (HB.out.trans (hF1.below hbs (fun k hk h => by omega)))
  have Hr1 := hid (hF1.heap Hr.out (by omega))
  have e1 : IntKind.u32.wrap (be (l.take 4) : Int) = be (l.take 4) := by
    have := be_small (l.take 4) (by rw [List.length_take]; omega)
    rw [IntKind.wrap_u32]; omega
  have e2 : IntKind.u32.wrap (be ((l.drop 4).take 4) : Int) = be ((l.drop 4).take 4) := by
    have := be_small ((l.drop 4).take 4) (by rw [List.length_take]; omega)
    rw [IntKind.wrap_u32]; omega
  have hbs1 := HB1.out.size
  clear hI1 hF1
  go_wp2_with fail
  refine (in_num_some (w.heap.size + 1) (l.drop 4) 4 4 w1 HI1.out (by decide) (by rw [List.length_drop]; omega)).mono ?_
  rintro e w2 ⟨rfl, hI2, hF2⟩
  have HB2 := hid (HB1.out.trans (hF2.below hbs1 (fun k hk h => by omega)))
  have hr2 := hF2.heap Hr1.out (by omega)
  have c0 := cell_of_block hr2 0
  have c1 := cell_of_block hr2 1
  have f0 := free_of_block hr2 0
  have f1 := free_of_block hr2 1
  simp only [List.getElem?_toArray, List.getElem?_cons_zero, List.getElem?_cons_succ] at c0 c1
  have Hr2 := hid hr2
  clear hI2 hF2 hr2
  go_wp2_with fail
  have hw2 := heap_set_same (i := 1) (heap_set_same (i := 0) Hr2.out (.int .u32 (be (l.take 4)))) (.int .u32 (be ((l.drop 4).take 4)))
  have hF2 := ((Fr.refl (fun k => k = w.heap.size) w2).setCell (p := ⟨w.heap.size, 0, none⟩) (fun _ => rfl) (.int .u32 (be (l.take 4)))).setCell (p := ⟨w.heap.size, 1, none⟩) (fun _ => rfl) (.int .u32 (be ((l.drop 4).take 4)))
  have hB3 := HB2.out.trans (hF2.below HB2.out.size (fun k hk e => by omega))
  generalize (w2.setCell ⟨w.heap.size, 0, none⟩ (.int .u32 (be (l.take 4)))).setCell ⟨w.heap.size, 1, none⟩ (.int .u32 (be ((l.drop 4).take 4))) = w3 at *
  have d0 := cell_of_block hw2 0
  have d1 := cell_of_block hw2 1
  simp at d0 d1
  refine bodyPost_ret (v := .agg #[.int .u32 (be (l.take 4)), .int .u32 (be ((l.drop 4).take 4))]) ?_ rfl ⟨rfl, hB3⟩
  rw [res_cell rfl]
  simp [asAddr, Result.andThen, loadVar, d0, d1, go_sem]
end Go.Proofs.YtkmbbgnbklklcaaDoor
