/-
  The document's super: number, Bytes.
-/
import Derived.Test.YtkmbbgnbklklcaaDoorL07a
import Derived.Test.YtkmbbgnbklklcaaDoorRef5
namespace Go.Proofs.YtkmbbgnbklklcaaDoor
open Go.RowKit

theorem sup_cells {w : World} {N : Nat} {a b c d e : Value} {t : TypeId} (h : w.heap[N]? = some (.cells #[a, b, c, d, e] t (0, 0))) : w.cell? ⟨N, 0, none⟩ = some a ∧ w.cell? ⟨N, 1, none⟩ = some b ∧ w.cell? ⟨N, 2, none⟩ = some c ∧ w.cell? ⟨N, 3, none⟩ = some d ∧ w.cell? ⟨N, 4, none⟩ = some e :=
  ⟨cell_of_block h 0, cell_of_block h 1, cell_of_block h 2, cell_of_block h 3, cell_of_block h 4⟩
def lenOfN : Value → Nat
  | .int _ n => n.toNat
  | _ => 0
theorem ref7_number (l : List UInt8) (w : World) (hl : l.length ≤ 4) :
    Calls Tryd.prog 104 #[.string (S l)] w fun e w' => e = .returned (.int .i64 ((be l : Nat) : Int)) ∧ w' = w := by
  have hss := S_size l
  go_enter Tryd.func104, Tryd.ntmps104
  go_wp2_with fail
  go_loopw [3, 4] (fun nv iv wr => ∃ q : Nat, q ≤ l.length ∧ iv = .int .i64 q ∧ nv = .int .i64 ((be (l.take q) : Nat) : Int) ∧ wr = w) (fun _ iv _ => l.length - lenOfN iv)
  case atStart => exact ⟨0, Nat.zero_le _, rfl, rfl, rfl⟩
  case round =>
    obtain ⟨q, hq, rfl, rfl, rfl⟩ := hrel
    by_cases hql : q < l.length
    · have d1 : decide ((q : Int) < (l.length : Int)) = true := by simp; omega
      have hb := be_take l q hql
      have hlt := be_small (l.take (q + 1)) (by rw [List.length_take]; omega)
      have hgd : l.getD q 0 = l[q] := by simp [hql]
      have hix : ∀ w, (Instr.index 9 (.string (S l)) (.int .i64 (q : Int))).run Tryd.prog w = .ok (.int .u8 ((l[q]).toNat : Int)) w := fun w => by rw [← hgd]; exact index_text l q hql w
      clear hgd
      generalize l[q] = c at *
      generalize be (l.take q) = n at *
      have hc := c.toNat_lt
      have a1 : IntKind.i64.wrap (256 * (n : Int)) = 256 * (n : Int) := by rw [IntKind.wrap_i64]; omega
      have a2 : IntKind.i64.wrap (c.toNat : Int) = (c.toNat : Int) := by rw [IntKind.wrap_i64]; omega
      have a3 : IntKind.i64.wrap (256 * (n : Int) + (c.toNat : Int)) = ((be (l.take (q + 1)) : Nat) : Int) := by rw [IntKind.wrap_i64, hb]; omega
      have Hb := hid hb
      clear hb
      go_wp2_with fail
      refine ⟨⟨q + 1, by omega, by go_num, ?_, ?_⟩, by simp [lenOfN]; omega⟩
      · rfl
      · first | rfl | trivial
    · obtain rfl : q = l.length := by omega
      have d1 : decide ((l.length : Int) < (l.length : Int)) = false := by simp
      have ht : l.take l.length = l := List.take_length
      rw [ht]
      go_wp2_with fail
      go_ret
      exact ⟨rfl, rfl⟩

theorem num2_ref (n : Nat) (w : World) (hn : n < 18446744073709551616) :
    Calls Tryd.prog 30 #[.int .u64 (n : Int), .int .i64 2] w fun e w' => e = .returned (.string (S (num n 2))) ∧ Below w.heap.size w w' := refnum_any n 2 2 w (by decide) hn
theorem num4_ref (n : Nat) (w : World) (hn : n < 18446744073709551616) :
    Calls Tryd.prog 30 #[.int .u64 (n : Int), .int .i64 4] w fun e w' => e = .returned (.string (S (num n 4))) ∧ Below w.heap.size w w' := refnum_any n 4 4 w (by decide) hn
theorem frame5_0 (ep : Nat) (t : List UInt8) (w : World) (ha : ep < 4294967296) (ht : t.length = 14) :
    Calls Tryd.prog 39 #[.int .u32 (ep : Int), .int .u32 0, .string (S t)] w fun e w' => e = .returned (.string (S (frame ep 0 t))) ∧ Below w.heap.size w w' := ref5_frame ep 0 t w ha (by decide) (by omega)

set_option maxRecDepth 100000 in
set_option maxHeartbeats 2000000 in
theorem ref7_bytes (ep jo bi he ne : Nat) (w : World) (h1 : ep < 4294967296) (h2 : jo < 65536) (h3 : bi < 65536) (h4 : he < 65536) (h5 : ne < 4294967296) :
    Calls Tryd.prog 65 #[.agg #[.int .i64 (ep : Int), .int .i64 (jo : Int), .int .i64 (bi : Int), .int .i64 (he : Int), .int .i64 (ne : Int)]] w fun e w' => e = .returned (.string (S (frame ep 0 (supBytes jo bi he ne)))) ∧ Below w.heap.size w w' := by
  have hB0 : Below w.heap.size w (w.alloc (.cells #[.int .i64 (ep : Int), .int .i64 (jo : Int), .int .i64 (bi : Int), .int .i64 (he : Int), .int .i64 (ne : Int)] 88)) := (Below.refl _ w).alloc (Nat.le_refl _) _
  have hX := heap_new w (.cells #[.int .i64 (ep : Int), .int .i64 (jo : Int), .int .i64 (bi : Int), .int .i64 (he : Int), .int .i64 (ne : Int)] 88)
  have a0 : IntKind.u32.wrap (ep : Int) = (ep : Int) := by rw [IntKind.wrap_u32]; omega
  have a1 : IntKind.u64.wrap (jo : Int) = (jo : Int) := by rw [IntKind.wrap_u64]; omega
  have a2 : IntKind.u64.wrap (bi : Int) = (bi : Int) := by rw [IntKind.wrap_u64]; omega
  have a3 : IntKind.u64.wrap (he : Int) = (he : Int) := by rw [IntKind.wrap_u64]; omega
  have a4 : IntKind.u64.wrap (ne : Int) = (ne : Int) := by rw [IntKind.wrap_u64]; omega
  have t1 : ∀ w, (Op.stringOp .add ⟨#[83, 66, 65, 84]⟩ (S (num jo 2))).run Tryd.prog w = .ok (.string (S (sbat ++ num jo 2))) w := fun w => str_add sbat (num jo 2) (by decide) (by rw [num_length]; decide) w
  obtain ⟨T1, hT1⟩ : ∃ T, sbat ++ num jo 2 = T := ⟨_, rfl⟩
  have l1 : T1.length = 6 := by rw [← hT1]; simp [sbat, num_length]
  rw [hT1] at t1
  obtain ⟨T2, hT2⟩ : ∃ T, T1 ++ num bi 2 = T := ⟨_, rfl⟩
  have l2 : T2.length = 8 := by rw [← hT2]; simp [l1, num_length]
  obtain ⟨T3, hT3⟩ : ∃ T, T2 ++ num he 2 = T := ⟨_, rfl⟩
  have l3 : T3.length = 10 := by rw [← hT3]; simp [l2, num_length]
  obtain ⟨T4, hT4⟩ : ∃ T, T3 ++ num ne 4 = T := ⟨_, rfl⟩
  have t2 := str_add T1 (num bi 2) (by omega) (by rw [num_length]; decide)
  have t3 := str_add T2 (num he 2) (by omega) (by rw [num_length]; decide)
  have t4 := str_add T3 (num ne 4) (by omega) (by rw [num_length]; decide)
  rw [hT2] at t2
  rw [hT3] at t3
  rw [hT4] at t4
  have hsb : supBytes jo bi he ne = T4 := by unfold supBytes; rw [hT1, hT2, hT3, hT4]
  have hl4 : T4.length = 14 := by rw [← hsb]; exact supBytes_length _ _ _ _
  rw [hsb]
  have Hl4 := hid hl4
  clear hsb hT1 hT2 hT3 hT4 l1 l2 l3 hl4
  go_enter Tryd.func65, Tryd.ntmps65
  go_upto_region 1 with fail
  generalize w.alloc (.cells #[.int .i64 (ep : Int), .int .i64 (jo : Int), .int .i64 (bi : Int), .int .i64 (he : Int), .int .i64 (ne : Int)] 88) = w1 at *
  generalize hN : w.heap.size = N at *
  have HB0 := hid hB0
  have HN := hid hN
  have HX := hid hX
  have hlt := lt_of_block hX
  clear hB0 hN hX
  obtain ⟨k0, k1, k2, k3, k4⟩ := sup_cells HX.out
  go_region_held3 (fun w' => w'.cell? ⟨N, 0, none⟩ = some (.int .i64 (ep : Int)) ∧ w'.cell? ⟨N, 1, none⟩ = some (.int .i64 (jo : Int)) ∧ w'.cell? ⟨N, 2, none⟩ = some (.int .i64 (bi : Int)) ∧ w'.cell? ⟨N, 3, none⟩ = some (.int .i64 (he : Int)) ∧ w'.cell? ⟨N, 4, none⟩ = some (.int .i64 (ne : Int)))
    (first | go_keep | exact ⟨k0, k1, k2, k3, k4⟩ | exact ⟨l0, l1, l2, l3, l4⟩ | exact ⟨m0, m1, m2, m3, m4⟩ | exact ⟨n0, n1, n2, n3, n4⟩ | exact ⟨p0, p1, p2, p3, p4⟩)
    (first
      | (go_at_call 30; (with_reducible refine (num4_ref ne _ (by omega)).mono ?_); rintro e w5 ⟨rfl, hB5⟩; have hX5 := (hB5.block N (lt_of_block hX4)).trans hX4; obtain ⟨p0, p1, p2, p3, p4⟩ := sup_cells hX5; have HB5 := hid (HB4.out.trans (hB5.mono HB4.out.size)); clear hB5)
      | (go_at_call 30; (with_reducible refine (num2_ref he w3 (by omega)).mono ?_); rintro e w4 ⟨rfl, hB4⟩; have hX4 := (hB4.block N (lt_of_block hX3)).trans hX3; obtain ⟨n0, n1, n2, n3, n4⟩ := sup_cells hX4; have HB4 := hid (HB3.out.trans (hB4.mono HB3.out.size)); clear hB4)
      | (go_at_call 30; (with_reducible refine (num2_ref bi w2 (by omega)).mono ?_); rintro e w3 ⟨rfl, hB3⟩; have hX3 := (hB3.block N (lt_of_block hX2)).trans hX2; obtain ⟨m0, m1, m2, m3, m4⟩ := sup_cells hX3; have HB3 := hid (HB2.out.trans (hB3.mono HB2.out.size)); clear hB3)
      | (go_at_call 30; (with_reducible refine (num2_ref jo w1.drew (by omega)).mono ?_); rintro e w2 ⟨rfl, hB2⟩; have hX2 := (hB2.block N hlt).trans HX.out; obtain ⟨l0, l1, l2, l3, l4⟩ := sup_cells hX2; have HB2 := hid (show Below w1.heap.size w1 w2 from Below.undrew hB2); clear hB2))
  have HB6 := hid (HB0.out.trans (HB5.out.mono (by omega)))
  clear HB2 HB3 HB4 HB5 k0 k1 k2 k3 k4 l0 l1 l2 l3 l4 m0 m1 m2 m3 m4 n0 n1 n2 n3 n4 hX2 hX3 hX4 hX5 t1 t2 t3 t4
  go_wp2_with (go_at_call 39; (with_reducible refine (frame5_0 ep T4 w5 h1 Hl4.out).mono ?_); rintro e w6 ⟨rfl, hB7⟩; have HB7 := hid (HB6.out.trans (hB7.mono (by have := HB6.out.size; have := HN.out; omega))); clear hB7)
  go_ret
  exact ⟨rfl, by rw [HN.out]; exact HB7.out⟩
end Go.Proofs.YtkmbbgnbklklcaaDoor
