/-
  Contracts of package super: bytes, Write.
-/
import Derived.Test.YtkmbbgnbklklcaaDoorSupA
import Derived.Test.YtkmbbgnbklklcaaDoorL04c
namespace Go.Proofs.YtkmbbgnbklklcaaDoor
open Go.RowKit

/-- A super's bytes. -/
def sbat : List UInt8 := [83, 66, 65, 84]
def supBytes (jo bi he ne : Nat) : List UInt8 := sbat ++ num jo 2 ++ num bi 2 ++ num he 2 ++ num ne 4
theorem supBytes_length (jo bi he ne : Nat) : (supBytes jo bi he ne).length = 14 := by simp [supBytes, sbat, num_length]
theorem ow_sbat (B : Nat) (w : World) (h : OutW B [] w) :
    Calls Tryd.prog 29 #[.pointer (some ⟨B, 0, none⟩), .string ⟨#[83, 66, 65, 84]⟩] w fun e w' => e = .returned (.pointer (some ⟨B, 0, none⟩)) ∧ OutW B sbat w' ∧ Below B w w' := ow_text B [] sbat w h (by decide)
theorem ow_num2 (B : Nat) (l : List UInt8) (n : Nat) (w : World) (h : OutW B l w) (hl : l.length ≤ 1000000) :
    Calls Tryd.prog 28 #[.pointer (some ⟨B, 0, none⟩), .int .u64 (n : Int), .int .i64 2] w fun e w' => e = .returned (.pointer (some ⟨B, 0, none⟩)) ∧ OutW B (l ++ num n 2) w' ∧ Below B w w' := ow_num B l n 2 2 w h (by decide) hl
theorem ow_num4 (B : Nat) (l : List UInt8) (n : Nat) (w : World) (h : OutW B l w) (hl : l.length ≤ 1000000) :
    Calls Tryd.prog 28 #[.pointer (some ⟨B, 0, none⟩), .int .u64 (n : Int), .int .i64 4] w fun e w' => e = .returned (.pointer (some ⟨B, 0, none⟩)) ∧ OutW B (l ++ num n 4) w' ∧ Below B w w' := ow_num B l n 4 4 w h (by decide) hl
def SupAt (w : World) (N ep jo bi he ne : Nat) : Prop := w.heap[N]? = some (.cells #[.int .u32 (ep : Int), .int .i64 (jo : Int), .int .i64 (bi : Int), .int .i64 (he : Int), .int .u32 (ne : Int)] 91 (0, 0))
theorem SupAt.cells {w : World} {N ep jo bi he ne : Nat} (h : SupAt w N ep jo bi he ne) : w.cell? ⟨N, 0, none⟩ = some (.int .u32 (ep : Int)) ∧ w.cell? ⟨N, 1, none⟩ = some (.int .i64 (jo : Int)) ∧ w.cell? ⟨N, 2, none⟩ = some (.int .i64 (bi : Int)) ∧ w.cell? ⟨N, 3, none⟩ = some (.int .i64 (he : Int)) ∧ w.cell? ⟨N, 4, none⟩ = some (.int .u32 (ne : Int)) :=
  ⟨cell_of_block h 0, cell_of_block h 1, cell_of_block h 2, cell_of_block h 3, cell_of_block h 4⟩
theorem SupAt.below {w w' : World} {N B ep jo bi he ne : Nat} (h : SupAt w N ep jo bi he ne) (hB : Below B w w') (hN : N < B) : SupAt w' N ep jo bi he ne := (hB.block N hN).trans h

set_option maxRecDepth 100000 in
set_option maxHeartbeats 2000000 in
theorem super_bytes (ep jo bi he ne : Nat) (w : World) (hj : jo < 65536) (hb : bi < 65536) (hh : he < 65536) (hn : ne < 4294967296) :
    Calls Tryd.prog 125 #[.agg #[.int .u32 (ep : Int), .int .i64 (jo : Int), .int .i64 (bi : Int), .int .i64 (he : Int), .int .u32 (ne : Int)]] w fun e w' => e = .returned (.string (S (supBytes jo bi he ne))) ∧ Below w.heap.size w w' := by
  have uj : IntKind.u64.wrap (jo : Int) = (jo : Int) := by rw [IntKind.wrap_u64]; omega
  have ub : IntKind.u64.wrap (bi : Int) = (bi : Int) := by rw [IntKind.wrap_u64]; omega
  have uh : IntKind.u64.wrap (he : Int) = (he : Int) := by rw [IntKind.wrap_u64]; omega
  have un : IntKind.u64.wrap (ne : Int) = (ne : Int) := by rw [IntKind.wrap_u64]; omega
  go_enter Tryd.func125, Tryd.ntmps125
  go_upto_region 2 with fail
  have hX0 : SupAt (w.alloc (.cells #[.int .u32 (ep : Int), .int .i64 (jo : Int), .int .i64 (bi : Int), .int .i64 (he : Int), .int .u32 (ne : Int)] 91)) w.heap.size ep jo bi he ne := heap_new w _
  have hB0 : Below w.heap.size w (w.alloc (.cells #[.int .u32 (ep : Int), .int .i64 (jo : Int), .int .i64 (bi : Int), .int .i64 (he : Int), .int .u32 (ne : Int)] 91)) := (Below.refl _ w).alloc (Nat.le_refl _) _
  have hz0 : (w.alloc (.cells #[.int .u32 (ep : Int), .int .i64 (jo : Int), .int .i64 (bi : Int), .int .i64 (he : Int), .int .u32 (ne : Int)] 91)).heap.size = w.heap.size + 1 := by simp
  have hO1 := OutW.new (w.alloc (.cells #[.int .u32 (ep : Int), .int .i64 (jo : Int), .int .i64 (bi : Int), .int .i64 (he : Int), .int .u32 (ne : Int)] 91))
  have hX1 : SupAt ((w.alloc (.cells #[.int .u32 (ep : Int), .int .i64 (jo : Int), .int .i64 (bi : Int), .int .i64 (he : Int), .int .u32 (ne : Int)] 91)).alloc (.cells #[.slice none 0 0] 43)) w.heap.size ep jo bi he ne := heap_old hX0 _
  have hB1 : Below w.heap.size w ((w.alloc (.cells #[.int .u32 (ep : Int), .int .i64 (jo : Int), .int .i64 (bi : Int), .int .i64 (he : Int), .int .u32 (ne : Int)] 91)).alloc (.cells #[.slice none 0 0] 43)) := hB0.alloc (by omega) _
  rw [hz0] at hO1
  try change Code.wp _ _ _ _ ((w.alloc (.cells #[.int .u32 (ep : Int), .int .i64 (jo : Int), .int .i64 (bi : Int), .int .i64 (he : Int), .int .u32 (ne : Int)] 91)).alloc (.cells #[.slice none 0 0] 43))
  generalize (w.alloc (.cells #[.int .u32 (ep : Int), .int .i64 (jo : Int), .int .i64 (bi : Int), .int .i64 (he : Int), .int .u32 (ne : Int)] 91)).alloc (.cells #[.slice none 0 0] 43) = w1 at *
  generalize hN : w.heap.size = N at *
  obtain ⟨k0, k1, k2, k3, k4⟩ := hX1.cells
  have HN := hid hN
  have HO := hid hO1
  have HX := hid hX1
  have HB := hid hB1
  clear hN hO1 hX1 hB1 hX0 hB0 hz0
  go_region_held3 (fun w' => w'.cell? ⟨N, 1, none⟩ = some (.int .i64 (jo : Int)) ∧ w'.cell? ⟨N, 2, none⟩ = some (.int .i64 (bi : Int)) ∧ w'.cell? ⟨N, 3, none⟩ = some (.int .i64 (he : Int)) ∧ w'.cell? ⟨N, 4, none⟩ = some (.int .u32 (ne : Int)))
    (first | go_keep | exact ⟨k1, k2, k3, k4⟩ | exact ⟨l1, l2, l3, l4⟩ | exact ⟨m1, m2, m3, m4⟩ | exact ⟨n1, n2, n3, n4⟩ | exact ⟨o1, o2, o3, o4⟩ | exact ⟨p1, p2, p3, p4⟩)
    (first
      | (go_at_call 29; (with_reducible refine (ow_sbat (N + 1) w1.drew HO.out.drew).mono ?_); rintro e w2 ⟨rfl, hO2, hB2⟩; have hX2 := HX.out.below (Below.undrew hB2) (by omega); obtain ⟨l0, l1, l2, l3, l4⟩ := hX2.cells; have HO2 := hid hO2; have HB2 := hid (HB.out.trans ((Below.undrew hB2).mono (by omega))); clear hO2 hB2)
      | (go_at_call 28; (with_reducible refine (ow_num2 (N + 1) sbat jo w2 HO2.out (by simp [sbat])).mono ?_); rintro e w3 ⟨rfl, hO3, hB3⟩; have hX3 := hX2.below hB3 (by omega); obtain ⟨m0, m1, m2, m3, m4⟩ := hX3.cells; have HO3 := hid hO3; have HB3 := hid (HB2.out.trans (hB3.mono (by omega))); clear hO3 hB3)
      | (go_at_call 28; (with_reducible refine (ow_num2 (N + 1) (sbat ++ num jo 2) bi w3 HO3.out (by simp [sbat, num_length])).mono ?_); rintro e w4 ⟨rfl, hO4, hB4⟩; have hX4 := hX3.below hB4 (by omega); obtain ⟨n0, n1, n2, n3, n4⟩ := hX4.cells; have HO4 := hid hO4; have HB4 := hid (HB3.out.trans (hB4.mono (by omega))); clear hO4 hB4)
      | (go_at_call 28; (with_reducible refine (ow_num2 (N + 1) (sbat ++ num jo 2 ++ num bi 2) he w4 HO4.out (by simp [sbat, num_length])).mono ?_); rintro e w5 ⟨rfl, hO5, hB5⟩; have hX5 := hX4.below hB5 (by omega); obtain ⟨o0, o1, o2, o3, o4⟩ := hX5.cells; have HO5 := hid hO5; have HB5 := hid (HB4.out.trans (hB5.mono (by omega))); clear hO5 hB5)
      | (go_at_call 28; (with_reducible refine (ow_num4 (N + 1) (sbat ++ num jo 2 ++ num bi 2 ++ num he 2) ne w5 HO5.out (by simp [sbat, num_length])).mono ?_); rintro e w6 ⟨rfl, hO6, hB6⟩; have hX6 := hX5.below hB6 (by omega); obtain ⟨p0, p1, p2, p3, p4⟩ := hX6.cells; have HO6 := hid hO6; have HB6 := hid (HB5.out.trans (hB6.mono (by omega))); clear hO6 hB6))
  have hO6 : OutW (N + 1) (supBytes jo bi he ne) w6 := HO6.out
  have HO7 := hid hO6
  clear hO6
  go_wp2_with (go_at_call 31; (with_reducible refine (ow_bytes (N + 1) (supBytes jo bi he ne) w6 HO7.out).mono ?_); rintro e w7 ⟨rfl, rfl⟩)
  go_ret
  exact ⟨rfl, by rw [HN.out]; exact HB6.out⟩

theorem num_parity (ep : Nat) : ((ep : Int) % 2) = ((ep % 2 : Nat) : Int) := by omega
theorem frame_0 (ep : Nat) (t : List UInt8) (w : World) (ha : ep < 4294967296) (ht : t.length ≤ 47) :
    Calls Tryd.prog 86 #[.agg #[.int .u32 (ep : Int), .int .u32 0], .string (S t)] w fun e w' => e = .returned (.string (S (frame ep 0 t))) ∧ Below w.heap.size w w' := frame_any ep 0 t w ha (by decide) ht
theorem write_f {B b g : Nat} {D : Dsk} (i : Nat) (z : Int) (s : List UInt8) (w : World) (h : DiskAt w B b g D) (hf : D.fit) (hi : i < D.n) (hs : s.length = 64) (hz : z = (i : Int)) :
    Calls Tryd.prog 96 #[.pointer (some ⟨b, 0, none⟩), .int .i64 z, .string (S s)] w fun e w' => e = .returned (.tuple #[]) ∧ DiskEnd w B b g { D.less with now := upd D.now i s } w' := by
  subst hz
  have h1 := write_ok i s w h hf hi (by omega)
  have hp : pad s = s := by simp [pad, hs]
  rwa [hp] at h1

theorem sup_far {w : World} {B b g N ep jo bi he ne : Nat} {D : Dsk} (hX : SupAt w N ep jo bi he ne) (hD : DiskAt w B b g D) (h0 : 0 < D.n) : ¬ dfoot b g N := by
  obtain ⟨n1, n2⟩ := hD.other hX (by decide) (by decide)
  have n2 := n2 h0
  unfold dfoot
  omega
set_option maxRecDepth 100000 in
set_option maxHeartbeats 4000000 in
/-- A super that may not be is not written. -/
theorem super_write_bad {B b g : Nat} {D : Dsk} (ep jo bi he ne c : Nat) (w : World) (hD : DiskAt w B b g D) (hj : jo < 65536) (hh : he < 65536) (hc : supErr ep jo bi he ne D.n = c) (h0 : c ≠ 0) :
    Calls Tryd.prog 100 #[.agg #[.int .u32 (ep : Int), .int .i64 (jo : Int), .int .i64 (bi : Int), .int .i64 (he : Int), .int .u32 (ne : Int)], .pointer (some ⟨b, 0, none⟩)] w fun e w' => e = .panicked (fault c) ∧ Below w.heap.size w w' := by
  have hsm := hD.small
  have hck := fun w => super_check ep jo bi he ne D.n w hj hh (by omega)
  rw [hc] at hck
  have Hck := hid hck
  have hX0 : SupAt (w.alloc (.cells #[.int .u32 (ep : Int), .int .i64 (jo : Int), .int .i64 (bi : Int), .int .i64 (he : Int), .int .u32 (ne : Int)] 91)) w.heap.size ep jo bi he ne := heap_new w _
  have hB0 : Below w.heap.size w (w.alloc (.cells #[.int .u32 (ep : Int), .int .i64 (jo : Int), .int .i64 (bi : Int), .int .i64 (he : Int), .int .u32 (ne : Int)] 91)) := (Below.refl _ w).alloc (Nat.le_refl _) _
  have hD0 := hD.below hB0
  go_enter Tryd.func100, Tryd.ntmps100
  go_upto_region 1 with fail
  generalize w.alloc (.cells #[.int .u32 (ep : Int), .int .i64 (jo : Int), .int .i64 (bi : Int), .int .i64 (he : Int), .int .u32 (ne : Int)] 91) = w1 at *
  generalize hN : w.heap.size = N at *
  obtain ⟨k0, k1, k2, k3, k4⟩ := hX0.cells
  have HN := hid hN
  have HX := hid hX0
  have HB := hid hB0
  have HD := hid hD0
  have hlt := lt_of_block hX0
  clear hN hX0 hB0 hD0 hck hD hc
  go_region_held3 (fun w' => w'.cell? ⟨N, 0, none⟩ = some (.int .u32 (ep : Int)) ∧ w'.cell? ⟨N, 1, none⟩ = some (.int .i64 (jo : Int)) ∧ w'.cell? ⟨N, 2, none⟩ = some (.int .i64 (bi : Int)) ∧ w'.cell? ⟨N, 3, none⟩ = some (.int .i64 (he : Int)) ∧ w'.cell? ⟨N, 4, none⟩ = some (.int .u32 (ne : Int)))
    (first | go_keep | exact ⟨k0, k1, k2, k3, k4⟩ | exact ⟨l0, l1, l2, l3, l4⟩ | exact ⟨m0, m1, m2, m3, m4⟩)
    (first
      | (go_at_call 124; (with_reducible refine (disk_len w1.drew HD.out.drew).mono ?_); rintro e w2 ⟨rfl, hB2⟩; have hX2 := HX.out.below (Below.undrew hB2) hlt; obtain ⟨l0, l1, l2, l3, l4⟩ := hX2.cells; have HB2 := hid (show Below w1.heap.size w1 w2 from Below.undrew hB2); clear hB2)
      | (go_at_call 62; (with_reducible refine (Hck.out w2).mono ?_); rintro e w3 ⟨rfl, hB3⟩; have hX3 := hX2.below hB3 (lt_of_block hX2); obtain ⟨m0, m1, m2, m3, m4⟩ := hX3.cells; have HB3 := hid (HB2.out.trans (hB3.mono HB2.out.size)); clear hB3))
  have c0 : decide ((c : Int) = 0) = false := by simp; omega
  have c00 : ((c : Int) == 0) = false := by simp; omega
  go_wp2_with (go_at_call 79; (with_reducible refine (fail_any _ _).mono ?_); rintro e w4 ⟨rfl, rfl⟩)
  exact ⟨rfl, rfl, by rw [HN.out]; exact HB.out.trans (HB3.out.mono (by omega))⟩

set_option maxRecDepth 100000 in
set_option maxHeartbeats 4000000 in
/-- A super that may be, in its slot. -/
theorem super_write_ok {B b g : Nat} {D : Dsk} (ep jo bi he ne : Nat) (w : World) (hD : DiskAt w B b g D) (hfit : D.fit) (he4 : ep < 4294967296) (hj : jo < 65536) (hb : bi < 65536) (hh : he < 65536) (hn : ne < 4294967296) (hc : supErr ep jo bi he ne D.n = 0) :
    Calls Tryd.prog 100 #[.agg #[.int .u32 (ep : Int), .int .i64 (jo : Int), .int .i64 (bi : Int), .int .i64 (he : Int), .int .u32 (ne : Int)], .pointer (some ⟨b, 0, none⟩)] w fun e w' => e = .returned (.tuple #[]) ∧ DiskEnd w B b g { D.less with now := upd D.now (ep % 2) (frame ep 0 (supBytes jo bi he ne)) } w' := by
  have hsm := hD.small
  have hn2 : 2 ≤ D.n := by
    have h := hc
    unfold supErr at h
    split at h
    · omega
    · split at h
      · omega
      · split at h
        · omega
        · omega
  have hck := fun w => super_check ep jo bi he ne D.n w hj hh (by omega)
  rw [hc] at hck
  have Hck := hid hck
  have hX0 : SupAt (w.alloc (.cells #[.int .u32 (ep : Int), .int .i64 (jo : Int), .int .i64 (bi : Int), .int .i64 (he : Int), .int .u32 (ne : Int)] 91)) w.heap.size ep jo bi he ne := heap_new w _
  have hB0 : Below w.heap.size w (w.alloc (.cells #[.int .u32 (ep : Int), .int .i64 (jo : Int), .int .i64 (bi : Int), .int .i64 (he : Int), .int .u32 (ne : Int)] 91)) := (Below.refl _ w).alloc (Nat.le_refl _) _
  have hD0 := hD.below hB0
  go_enter Tryd.func100, Tryd.ntmps100
  go_upto_region 1 with fail
  generalize w.alloc (.cells #[.int .u32 (ep : Int), .int .i64 (jo : Int), .int .i64 (bi : Int), .int .i64 (he : Int), .int .u32 (ne : Int)] 91) = w1 at *
  generalize hN : w.heap.size = N at *
  obtain ⟨k0, k1, k2, k3, k4⟩ := hX0.cells
  have HN := hid hN
  have HX := hid hX0
  have HB := hid hB0
  have HD := hid hD0
  have hlt := lt_of_block hX0
  clear hN hX0 hB0 hD0 hck hD hc
  go_region_held3 (fun w' => w'.cell? ⟨N, 0, none⟩ = some (.int .u32 (ep : Int)) ∧ w'.cell? ⟨N, 1, none⟩ = some (.int .i64 (jo : Int)) ∧ w'.cell? ⟨N, 2, none⟩ = some (.int .i64 (bi : Int)) ∧ w'.cell? ⟨N, 3, none⟩ = some (.int .i64 (he : Int)) ∧ w'.cell? ⟨N, 4, none⟩ = some (.int .u32 (ne : Int)))
    (first | go_keep | exact ⟨k0, k1, k2, k3, k4⟩ | exact ⟨l0, l1, l2, l3, l4⟩ | exact ⟨m0, m1, m2, m3, m4⟩)
    (first
      | (go_at_call 124; (with_reducible refine (disk_len w1.drew HD.out.drew).mono ?_); rintro e w2 ⟨rfl, hB2⟩; have hX2 := HX.out.below (Below.undrew hB2) hlt; obtain ⟨l0, l1, l2, l3, l4⟩ := hX2.cells; have HB2 := hid (show Below w1.heap.size w1 w2 from Below.undrew hB2); clear hB2)
      | (go_at_call 62; (with_reducible refine (Hck.out w2).mono ?_); rintro e w3 ⟨rfl, hB3⟩; have hX3 := hX2.below hB3 (lt_of_block hX2); obtain ⟨m0, m1, m2, m3, m4⟩ := hX3.cells; have HB3 := hid (HB2.out.trans (hB3.mono HB2.out.size)); clear hB3))
  obtain ⟨q0, q1, q2, q3, q4⟩ := hX3.cells
  have HB4 := hid (HB.out.trans (HB3.out.mono (by omega)))
  have HD3 := hid (HD.out.below HB3.out)
  have HX3 := hid hX3
  have hlt3 := lt_of_block hX3
  have et : Int.tmod (ep : Int) 2 = (ep : Int) % 2 := Int.tmod_eq_emod_of_nonneg (by omega)
  have ew : IntKind.i64.wrap ((ep : Int) % 2) = (ep : Int) % 2 := by rw [IntKind.wrap_i64]; omega
  have hlen := frame_length ep 0 (supBytes jo bi he ne) (by rw [supBytes_length]; decide)
  clear k0 k1 k2 k3 k4 l0 l1 l2 l3 l4 m0 m1 m2 m3 m4 hX2 hX3 HB2 HB3 HD HX
  go_upto_region 4 with fail
  go_region_held3 (fun w' => w'.cell? ⟨N, 0, none⟩ = some (.int .u32 (ep : Int)) ∧ w'.cell? ⟨N, 1, none⟩ = some (.int .i64 (jo : Int)) ∧ w'.cell? ⟨N, 2, none⟩ = some (.int .i64 (bi : Int)) ∧ w'.cell? ⟨N, 3, none⟩ = some (.int .i64 (he : Int)) ∧ w'.cell? ⟨N, 4, none⟩ = some (.int .u32 (ne : Int)))
    (first | go_keep | exact ⟨q0, q1, q2, q3, q4⟩ | exact ⟨l0, l1, l2, l3, l4⟩ | exact ⟨m0, m1, m2, m3, m4⟩ | exact ⟨n0, n1, n2, n3, n4⟩)
    (first
      | (go_at_call 125; (with_reducible refine (super_bytes ep jo bi he ne w3.drew hj hb hh hn).mono ?_); rintro e w4 ⟨rfl, hB5⟩; have hX4 := HX3.out.below (Below.undrew hB5) hlt3; obtain ⟨l0, l1, l2, l3, l4⟩ := hX4.cells; have HB5 := hid (show Below w3.heap.size w3 w4 from Below.undrew hB5); clear hB5)
      | (go_at_call 86; (with_reducible refine (frame_0 ep (supBytes jo bi he ne) w4 he4 (by rw [supBytes_length]; decide)).mono ?_); rintro e w5 ⟨rfl, hB6⟩; have hX5 := hX4.below hB6 (lt_of_block hX4); obtain ⟨m0, m1, m2, m3, m4⟩ := hX5.cells; have HB6 := hid (HB5.out.trans (hB6.mono HB5.out.size)); clear hB6)
      | (go_at_call 96; (with_reducible refine (write_f (ep % 2) ((ep : Int) % 2) (frame ep 0 (supBytes jo bi he ne)) w5 (HD3.out.below HB6.out) hfit (by omega) hlen (by omega)).mono ?_); rintro e w6 ⟨rfl, hE⟩; have hNb : ¬ dfoot b g N := sup_far hX5 (HD3.out.below HB6.out) (by omega); have hX6 : SupAt w6 N ep jo bi he ne := hE.2.heap hX5 hNb; obtain ⟨n0, n1, n2, n3, n4⟩ := hX6.cells; have HE := hid hE; clear hE))
  go_wp2_with fail
  go_end0
  exact ⟨rfl, HE.out.1, ((Fr.ofBelow (show Below w.heap.size w w3 from by rw [HN.out]; exact HB4.out) (dfoot b g)).trans (Fr.ofBelow HB6.out (dfoot b g)) (fun _ _ h => h)).trans HE.out.2 (fun _ _ h => h)⟩
end Go.Proofs.YtkmbbgnbklklcaaDoor
