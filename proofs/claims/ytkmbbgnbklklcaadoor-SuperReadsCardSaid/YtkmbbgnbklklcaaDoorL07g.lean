/-
  Law 07: SuperWrites.
-/
import Derived.Test.YtkmbbgnbklklcaaDoorL07b
import Derived.Test.YtkmbbgnbklklcaaDoorL07c
import Derived.Test.YtkmbbgnbklklcaaDoorL07f
namespace Go.Proofs.YtkmbbgnbklklcaaDoor
open Go.RowKit

theorem five_set {w : World} {N : Nat} {a b c d e : Value} {t : TypeId} (h : w.heap[N]? = some (.cells #[a, b, c, d, e] t (0, 0))) (u0 u1 u2 u3 u4 : Value) : (((((w.setCell ⟨N, 0, none⟩ u0).setCell ⟨N, 1, none⟩ u1).setCell ⟨N, 2, none⟩ u2).setCell ⟨N, 3, none⟩ u3).setCell ⟨N, 4, none⟩ u4).heap[N]? = some (.cells #[u0, u1, u2, u3, u4] t (0, 0)) :=
  heap_set_same (i := 4) (heap_set_same (i := 3) (heap_set_same (i := 2) (heap_set_same (i := 1) (heap_set_same (i := 0) h _) _) _) _) _
theorem five_fr {w : World} (N : Nat) (u0 u1 u2 u3 u4 : Value) : Fr (fun k => k = N) w (((((w.setCell ⟨N, 0, none⟩ u0).setCell ⟨N, 1, none⟩ u1).setCell ⟨N, 2, none⟩ u2).setCell ⟨N, 3, none⟩ u3).setCell ⟨N, 4, none⟩ u4) :=
  (((((Fr.refl (fun k => k = N) w).setCell (p := ⟨N, 0, none⟩) (fun _ => rfl) _).setCell (p := ⟨N, 1, none⟩) (fun _ => rfl) _).setCell (p := ⟨N, 2, none⟩) (fun _ => rfl) _).setCell (p := ⟨N, 3, none⟩) (fun _ => rfl) _).setCell (p := ⟨N, 4, none⟩) (fun _ => rfl) _
/-- Two boxes: the document's super and the program's. -/
structure Two (w wz : World) (X N ep jo bi he ne : Nat) : Prop where
  hB : Below w.heap.size w wz
  hX : wz.heap[X]? = some (.cells #[.int .i64 (ep : Int), .int .i64 (jo : Int), .int .i64 (bi : Int), .int .i64 (he : Int), .int .i64 (ne : Int)] 88 (0, 0))
  hN : wz.heap[N]? = some (.cells #[.int .u32 (ep : Int), .int .i64 (jo : Int), .int .i64 (bi : Int), .int .i64 (he : Int), .int .u32 (ne : Int)] 91 (0, 0))
  h0 : w.heap.size ≤ N
  h1 : X ≠ N
theorem Two.set {w wz : World} {X N ep jo bi he ne : Nat} {a b c d e : Value} (hB : Below w.heap.size w wz)
    (hX : wz.heap[X]? = some (.cells #[.int .i64 (ep : Int), .int .i64 (jo : Int), .int .i64 (bi : Int), .int .i64 (he : Int), .int .i64 (ne : Int)] 88 (0, 0)))
    (hN : wz.heap[N]? = some (.cells #[a, b, c, d, e] 91 (0, 0))) (h0 : w.heap.size ≤ N) (h1 : X ≠ N) :
    Two w (((((wz.setCell ⟨N, 0, none⟩ (.int .u32 (ep : Int))).setCell ⟨N, 1, none⟩ (.int .i64 (jo : Int))).setCell ⟨N, 2, none⟩ (.int .i64 (bi : Int))).setCell ⟨N, 3, none⟩ (.int .i64 (he : Int))).setCell ⟨N, 4, none⟩ (.int .u32 (ne : Int))) X N ep jo bi he ne :=
  ⟨hB.trans ((five_fr N _ _ _ _ _).below hB.size (fun k hk e => by omega)), (five_fr N _ _ _ _ _).heap hX h1, five_set hN _ _ _ _ _, h0, h1⟩
theorem Two.alloc {w wz : World} {X ep jo bi he ne : Nat} (hB : Below w.heap.size w wz)
    (hX : wz.heap[X]? = some (.cells #[.int .i64 (ep : Int), .int .i64 (jo : Int), .int .i64 (bi : Int), .int .i64 (he : Int), .int .i64 (ne : Int)] 88 (0, 0))) :
    Two w (wz.alloc (sup5 ep jo bi he ne)) X wz.heap.size ep jo bi he ne :=
  ⟨hB.alloc hB.size _, heap_old hX _, heap_new wz _, hB.size, by have := lt_of_block hX; omega⟩
theorem Two.below {w wz w' : World} {X N ep jo bi he ne : Nat} (h : Two w wz X N ep jo bi he ne) (hB : Below wz.heap.size wz w') : Two w w' X N ep jo bi he ne :=
  ⟨h.hB.trans (hB.mono h.hB.size), (hB.block X (lt_of_block h.hX)).trans h.hX, (hB.block N (lt_of_block h.hN)).trans h.hN, h.h0, h.h1⟩
theorem Two.drew {w wz : World} {X N ep jo bi he ne : Nat} (h : Two w wz X N ep jo bi he ne) : Two w wz.drew X N ep jo bi he ne := h.below ((Below.refl _ _).drew)
theorem Two.disk {w wz w' : World} {X N ep jo bi he ne B b g : Nat} {D : Dsk} (h : Two w wz X N ep jo bi he ne) (hE : DiskEnd wz B b g D w') (hb : ¬ dfoot b g X) (hg : ¬ dfoot b g N) (hbw : w.heap.size ≤ b) (hgw : w.heap.size ≤ g) : Two w w' X N ep jo bi he ne :=
  ⟨h.hB.trans (hE.2.below h.hB.size (fun k hk e => by rcases e with e | e <;> omega)), hE.2.heap h.hX hb, hE.2.heap h.hN hg, h.h0, h.h1⟩
theorem check_5000 (ep jo bi he ne : Nat) (w : World) (hj : jo < 65536) (hh : he < 65536) :
    Calls Tryd.prog 62 #[.agg #[.int .u32 (ep : Int), .int .i64 (jo : Int), .int .i64 (bi : Int), .int .i64 (he : Int), .int .u32 (ne : Int)], .int .i64 5000] w fun e w' => ∃ c : Int, e = .returned (.int .i64 c) ∧ c ≠ 0 ∧ Below w.heap.size w w' := by
  refine (super_check ep jo bi he ne 5000 w hj hh (by decide)).mono ?_
  rintro e w' ⟨rfl, hB⟩
  refine ⟨_, rfl, ?_, hB⟩
  unfold supErr
  split
  · decide
  · rw [if_pos (by decide)]; decide
theorem took_bad {D : Dsk} {x : Sup} (h : x.err D.n ≠ 0) : D.took x = D := if_neg h
theorem took_ok {D : Dsk} {x : Sup} (h : x.err D.n = 0) : D.took x = { D.less with now := upd D.now (x.ep % 2) x.sec } := if_pos h
theorem err_n {x : Sup} {n : Nat} (h : x.err n = 0) : 38 ≤ n := by
  unfold Sup.err supErr at h
  split at h
  · omega
  · split at h
    · omega
    · split at h
      · omega
      · omega
theorem new_loose (n : Nat) : loose (Dsk.new n) = [] := by
  unfold loose looseTo
  rw [List.filter_eq_nil_iff]
  intro a _
  show ¬ decide (nul ≠ nul) = true
  simp
theorem free_five {w : World} {N : Nat} {a b c d e : Value} {t : TypeId} (h : w.heap[N]? = some (.cells #[a, b, c, d, e] t (0, 0))) : w.frozen? ⟨N, 0, none⟩ = false ∧ w.frozen? ⟨N, 1, none⟩ = false ∧ w.frozen? ⟨N, 2, none⟩ = false ∧ w.frozen? ⟨N, 3, none⟩ = false ∧ w.frozen? ⟨N, 4, none⟩ = false :=
  ⟨free_of_block h 0, free_of_block h 1, free_of_block h 2, free_of_block h 3, free_of_block h 4⟩

set_option maxRecDepth 100000 in
set_option linter.unusedSimpArgs false in
set_option maxHeartbeats 4000000 in
theorem walkSuperWrites (w : World) (a b c d e : Int) (z : Int) (_hz : (Lit.int .i64 z).wf = true) : Calls Tryd.prog 12 #[.agg #[.int .i64 a, .int .i64 b, .int .i64 c, .int .i64 d, .int .i64 e], .int .i64 z] w fun e w' => e = .returned (.bool true) ∧ Below w.heap.size w w' := by
  obtain ⟨x, hx, hK⟩ := few7_any a b c d e
  obtain ⟨ep, jo, bi, he, ne⟩ := x
  dsimp only at hK
  have hj : jo < 65536 := hx.jo
  have hb : bi < 65536 := hx.bi
  have hh : he < 65536 := hx.he
  have hn : ne < 4294967296 := hx.ne
  have hep : ep < 4294967296 := hx.ep
  have HK := hid hK
  obtain ⟨n, hnz, hn2⟩ : ∃ n : Nat, min (max z 0) 4096 = (n : Int) ∧ n ≤ 4096 := ⟨(min (max z 0) 4096).toNat, by omega, by omega⟩
  have hB1 : Below w.heap.size w (w.alloc (.cells #[.int .i64 a, .int .i64 b, .int .i64 c, .int .i64 d, .int .i64 e] 88)) := (Below.refl _ w).alloc (Nat.le_refl _) _
  have hX1 := heap_new w (.cells #[.int .i64 a, .int .i64 b, .int .i64 c, .int .i64 d, .int .i64 e] 88)
  go_enter Tryd.func12, Tryd.ntmps12
  go_upto_region 1 with fail
  generalize w.alloc (.cells #[.int .i64 a, .int .i64 b, .int .i64 c, .int .i64 d, .int .i64 e] 88) = w1 at *
  have HB1 := hid hB1
  have HX1 := hid hX1
  have hlt1 := lt_of_block hX1
  clear hK hB1 hX1
  go_upto_region 3 with (go_at_call 57; (with_reducible refine (awake07 w1).mono ?_); rintro e2 w2 ⟨rfl, hB2⟩; have HB2 := hid (HB1.out.trans (hB2.mono HB1.out.size)); have hX2 := (hB2.block w.heap.size hlt1).trans HX1.out; have HX2 := hid hX2; clear hB2 hX2)
  obtain ⟨k0, k1, k2, k3, k4⟩ := sup_cells' HX2.out
  have kx := free_five HX2.out
  go_upto_region 4 with (go_at_call 58; (with_reducible refine (HK.out w2).mono ?_); rintro e3 w3 ⟨rfl, hB3⟩; have HB3 := hid (HB2.out.trans (hB3.mono HB2.out.size)); have hX3 := (hB3.block w.heap.size (lt_of_block HX2.out)).trans HX2.out; have HX3 := hid hX3; obtain ⟨l0, l1, l2, l3, l4⟩ := sup_cells' hX3; obtain ⟨g0, g1, g2, g3, g4⟩ := free_five hX3; clear hB3 hX3)
  have hX4 := five_set HX3.out (.int .i64 (ep : Int)) (.int .i64 (jo : Int)) (.int .i64 (bi : Int)) (.int .i64 (he : Int)) (.int .i64 (ne : Int))
  have hB4 := HB3.out.trans ((five_fr (w := w3) w.heap.size (.int .i64 (ep : Int)) (.int .i64 (jo : Int)) (.int .i64 (bi : Int)) (.int .i64 (he : Int)) (.int .i64 (ne : Int))).below HB3.out.size (fun k hk e => by omega))
  generalize ((((w3.setCell ⟨w.heap.size, 0, none⟩ (.int .i64 (ep : Int))).setCell ⟨w.heap.size, 1, none⟩ (.int .i64 (jo : Int))).setCell ⟨w.heap.size, 2, none⟩ (.int .i64 (bi : Int))).setCell ⟨w.heap.size, 3, none⟩ (.int .i64 (he : Int))).setCell ⟨w.heap.size, 4, none⟩ (.int .i64 (ne : Int)) = w4 at *
  have HX4 := hid hX4
  have HB4 := hid hB4
  have hlt4 := lt_of_block hX4
  clear hX4 hB4 k0 k1 k2 k3 k4 kx l0 l1 l2 l3 l4 g0 g1 g2 g3 g4 HX3 HB3 HX2 HB2 HX1 HB1 hlt1
  obtain ⟨k0, k1, k2, k3, k4⟩ := sup_cells' HX4.out
  go_upto_region 5 with fail
  clear hnz
  generalize hc : supErr ep jo bi he ne n = c
  have Hc := hid hc
  have KO := hid (fun w => own7_any ep jo bi he ne w hep hn)
  have KC : Hid (∀ w, Calls Tryd.prog 60 #[.agg #[.int .i64 (ep : Int), .int .i64 (jo : Int), .int .i64 (bi : Int), .int .i64 (he : Int), .int .i64 (ne : Int)], .int .i64 (n : Int)] w fun e w' => e = .returned (.int .i64 (c : Int)) ∧ Below w.heap.size w w') := hid (fun w => by rw [← hc]; exact ref7_check ep jo bi he ne n w hj hh (by omega))
  clear hc
  apply shared7
  · intro key
    refine wp_region_held_drew (S := fun w' => w'.cell? ⟨w.heap.size, 0, none⟩ = some (.int .i64 (ep : Int)) ∧ w'.cell? ⟨w.heap.size, 1, none⟩ = some (.int .i64 (jo : Int)) ∧ w'.cell? ⟨w.heap.size, 2, none⟩ = some (.int .i64 (bi : Int)) ∧ w'.cell? ⟨w.heap.size, 3, none⟩ = some (.int .i64 (he : Int)) ∧ w'.cell? ⟨w.heap.size, 4, none⟩ = some (.int .i64 (ne : Int))) (by kernel_rfl) ⟨k0, k1, k2, k3, k4⟩ (fun hHeld => ?_)
    refine wpAnyH_take (i := 0) (oi := _) (v := ?_) rfl (by kernel_rfl) (by kernel_rfl) (by kernel_rfl) (fun _ _ _ h => h) (Or.inl ⟨by rfl, ?_⟩) (by assumption) ?_
    rotate_left
    · intro w hSw
      try dsimp only at hSw
      go_simp
      try with_reducible rfl
    try simp only [Act.put, List.setIfInBounds_toArray, List.set_cons_zero, List.set_cons_succ, List.getElem_toArray, List.getElem_cons_zero, List.getElem_cons_succ]
    refine wpAnyH_take (i := 2) (oi := _) (v := ?_) rfl (by kernel_rfl) (by kernel_rfl) (by kernel_rfl) (fun _ _ _ h => h) (Or.inl ⟨by rfl, ?_⟩) (by assumption) ?_
    rotate_left
    · intro w hSw
      try dsimp only at hSw
      go_simp
      try with_reducible rfl
    try simp only [Act.put, List.setIfInBounds_toArray, List.set_cons_zero, List.set_cons_succ, List.getElem_toArray, List.getElem_cons_zero, List.getElem_cons_succ]
    refine wpAnyH_take (i := 3) (oi := _) (v := ?_) rfl (by kernel_rfl) (by kernel_rfl) (by kernel_rfl) (fun _ _ _ h => h) (Or.inl ⟨by rfl, ?_⟩) (by assumption) ?_
    rotate_left
    · intro w hSw
      try dsimp only at hSw
      go_simp
      try with_reducible rfl
    try simp only [Act.put, List.setIfInBounds_toArray, List.set_cons_zero, List.set_cons_succ, List.getElem_toArray, List.getElem_cons_zero, List.getElem_cons_succ]
    refine wpAnyH_ready (rs := [1, 5]) (by kernel_rfl) (by simp) ?_
    refine AllReadyH.cons (o := _) rfl (fun K hK => ?_) (AllReadyH.cons (o := _) rfl (fun K hK => ?_) AllReadyH.nil)
    · go_simp
      go_at_call 59
      (with_reducible refine (KO.out _).mono ?_)
      rintro e_ w5 ⟨rfl, hB_⟩
      have HBw5 : Hid (Below w4.heap.size w4 w5) := hid (Below.undrew hB_)
      have hXw5 := (HBw5.out.block w.heap.size hlt4).trans HX4.out
      obtain ⟨l0, l1, l2, l3, l4⟩ := sup_cells' hXw5
      clear hB_
      try dsimp only
      refine hK.out _ _ ?_ (fun hHeld => ?_)
      · exact ⟨l0, l1, l2, l3, l4⟩
      clear hK K
      try simp only [Act.put, List.setIfInBounds_toArray, List.set_cons_zero, List.set_cons_succ, List.getElem_toArray, List.getElem_cons_zero, List.getElem_cons_succ]
      refine wpAnyH_ready (rs := [4, 5]) (by kernel_rfl) (by simp) ?_
      refine AllReadyH.cons (o := _) rfl (fun K hK => ?_) (AllReadyH.cons (o := _) rfl (fun K hK => ?_) AllReadyH.nil)
      · go_simp
        go_at_call 60
        (with_reducible refine (KC.out _).mono ?_)
        rintro e_ w6 ⟨rfl, hB_⟩
        have HBw6 : Hid (Below w4.heap.size w4 w6) := hid (HBw5.out.trans (hB_.mono HBw5.out.size))
        have hXw6 := (HBw6.out.block w.heap.size hlt4).trans HX4.out
        obtain ⟨m0, m1, m2, m3, m4⟩ := sup_cells' hXw6
        clear hB_
        try dsimp only
        refine hK.out _ _ ?_ (fun hHeld => ?_)
        · exact ⟨m0, m1, m2, m3, m4⟩
        clear hK K
        try simp only [Act.put, List.setIfInBounds_toArray, List.set_cons_zero, List.set_cons_succ, List.getElem_toArray, List.getElem_cons_zero, List.getElem_cons_succ]
        refine wpAnyH_ready (rs := [5]) (by kernel_rfl) (by simp) ?_
        refine AllReadyH.cons (o := _) rfl (fun K hK => ?_) AllReadyH.nil
        go_simp
        try dsimp only
        refine hK.out _ _ ?_ (fun hHeld => ?_)
        · exact (by go_keep)
        clear hK K
        try simp only [Act.put, List.setIfInBounds_toArray, List.set_cons_zero, List.set_cons_succ, List.getElem_toArray, List.getElem_cons_zero, List.getElem_cons_succ]
        refine wpAnyH_ready (rs := [6]) (by kernel_rfl) (by simp) ?_
        refine AllReadyH.cons (o := _) rfl (fun K hK => ?_) AllReadyH.nil
        go_simp
        try dsimp only
        refine hK.out _ _ ?_ (fun hHeld => ?_)
        · exact (by go_keep)
        clear hK K
        try simp only [Act.put, List.setIfInBounds_toArray, List.set_cons_zero, List.set_cons_succ, List.getElem_toArray, List.getElem_cons_zero, List.getElem_cons_succ]
        refine wpAnyH_ready (rs := [7]) (by kernel_rfl) (by simp) ?_
        refine AllReadyH.cons (o := _) rfl (fun K hK => ?_) AllReadyH.nil
        go_simp
        try dsimp only
        refine hK.out _ _ ?_ (fun hHeld => ?_)
        · exact (by go_keep)
        clear hK K
        try simp only [Act.put, List.setIfInBounds_toArray, List.set_cons_zero, List.set_cons_succ, List.getElem_toArray, List.getElem_cons_zero, List.getElem_cons_succ]
        refine wpAnyH_done (by kernel_rfl) ?_ _
        go_simp
        have hT := Two.alloc (ep := ep) (jo := jo) (bi := bi) (he := he) (ne := ne) (HB4.out.trans (HBw6.out.mono HB4.out.size)) hXw6
        generalize w6.alloc (sup5 ep jo bi he ne) = wz at hT ⊢
        generalize w6.heap.size = N at hT ⊢
        revert hT
        revert wz N
        exact key.out
      · go_simp
        try dsimp only
        refine hK.out _ _ ?_ (fun hHeld => ?_)
        · exact (by go_keep)
        clear hK K
        try simp only [Act.put, List.setIfInBounds_toArray, List.set_cons_zero, List.set_cons_succ, List.getElem_toArray, List.getElem_cons_zero, List.getElem_cons_succ]
        refine wpAnyH_ready (rs := [4]) (by kernel_rfl) (by simp) ?_
        refine AllReadyH.cons (o := _) rfl (fun K hK => ?_) AllReadyH.nil
        go_simp
        go_at_call 60
        (with_reducible refine (KC.out _).mono ?_)
        rintro e_ w6 ⟨rfl, hB_⟩
        have HBw6 : Hid (Below w4.heap.size w4 w6) := hid (Below.trans (B := w4.heap.size) (HBw5.out.alloc HBw5.out.size z5) (hB_.mono (by have := HBw5.out.size; simp; omega)))
        have hXw6 := (HBw6.out.block w.heap.size hlt4).trans HX4.out
        obtain ⟨m0, m1, m2, m3, m4⟩ := sup_cells' hXw6
        have hNw6 := (hB_.block w5.heap.size (by simp)).trans (heap_new w5 z5)
        obtain ⟨s0, s1, s2, s3, s4⟩ := sup_cells' hNw6
        obtain ⟨f0, f1, f2, f3, f4⟩ := free_five hNw6
        clear hB_
        try dsimp only
        refine hK.out _ _ ?_ (fun hHeld => ?_)
        · exact ⟨m0, m1, m2, m3, m4⟩
        clear hK K
        try simp only [Act.put, List.setIfInBounds_toArray, List.set_cons_zero, List.set_cons_succ, List.getElem_toArray, List.getElem_cons_zero, List.getElem_cons_succ]
        have hne : w5.heap.size ≠ w.heap.size := by have := HBw5.out.size; omega
        refine wpAnyH_ready (rs := [6]) (by kernel_rfl) (by simp) ?_
        refine AllReadyH.cons (o := _) rfl (fun K hK => ?_) AllReadyH.nil
        go_simp
        try dsimp only
        refine hK.out _ _ ?_ (fun hHeld => ?_)
        · exact ⟨cellS (cellS (cellS (cellS (cellS m0 (p := ⟨w5.heap.size, 0, none⟩) hne _) (p := ⟨w5.heap.size, 1, none⟩) hne _) (p := ⟨w5.heap.size, 2, none⟩) hne _) (p := ⟨w5.heap.size, 3, none⟩) hne _) (p := ⟨w5.heap.size, 4, none⟩) hne _, cellS (cellS (cellS (cellS (cellS m1 (p := ⟨w5.heap.size, 0, none⟩) hne _) (p := ⟨w5.heap.size, 1, none⟩) hne _) (p := ⟨w5.heap.size, 2, none⟩) hne _) (p := ⟨w5.heap.size, 3, none⟩) hne _) (p := ⟨w5.heap.size, 4, none⟩) hne _, cellS (cellS (cellS (cellS (cellS m2 (p := ⟨w5.heap.size, 0, none⟩) hne _) (p := ⟨w5.heap.size, 1, none⟩) hne _) (p := ⟨w5.heap.size, 2, none⟩) hne _) (p := ⟨w5.heap.size, 3, none⟩) hne _) (p := ⟨w5.heap.size, 4, none⟩) hne _, cellS (cellS (cellS (cellS (cellS m3 (p := ⟨w5.heap.size, 0, none⟩) hne _) (p := ⟨w5.heap.size, 1, none⟩) hne _) (p := ⟨w5.heap.size, 2, none⟩) hne _) (p := ⟨w5.heap.size, 3, none⟩) hne _) (p := ⟨w5.heap.size, 4, none⟩) hne _, cellS (cellS (cellS (cellS (cellS m4 (p := ⟨w5.heap.size, 0, none⟩) hne _) (p := ⟨w5.heap.size, 1, none⟩) hne _) (p := ⟨w5.heap.size, 2, none⟩) hne _) (p := ⟨w5.heap.size, 3, none⟩) hne _) (p := ⟨w5.heap.size, 4, none⟩) hne _⟩
        clear hK K
        try simp only [Act.put, List.setIfInBounds_toArray, List.set_cons_zero, List.set_cons_succ, List.getElem_toArray, List.getElem_cons_zero, List.getElem_cons_succ]
        refine wpAnyH_ready (rs := [7]) (by kernel_rfl) (by simp) ?_
        refine AllReadyH.cons (o := _) rfl (fun K hK => ?_) AllReadyH.nil
        go_simp
        try dsimp only
        refine hK.out _ _ ?_ (fun hHeld => ?_)
        · exact ⟨cellS (cellS (cellS (cellS (cellS m0 (p := ⟨w5.heap.size, 0, none⟩) hne _) (p := ⟨w5.heap.size, 1, none⟩) hne _) (p := ⟨w5.heap.size, 2, none⟩) hne _) (p := ⟨w5.heap.size, 3, none⟩) hne _) (p := ⟨w5.heap.size, 4, none⟩) hne _, cellS (cellS (cellS (cellS (cellS m1 (p := ⟨w5.heap.size, 0, none⟩) hne _) (p := ⟨w5.heap.size, 1, none⟩) hne _) (p := ⟨w5.heap.size, 2, none⟩) hne _) (p := ⟨w5.heap.size, 3, none⟩) hne _) (p := ⟨w5.heap.size, 4, none⟩) hne _, cellS (cellS (cellS (cellS (cellS m2 (p := ⟨w5.heap.size, 0, none⟩) hne _) (p := ⟨w5.heap.size, 1, none⟩) hne _) (p := ⟨w5.heap.size, 2, none⟩) hne _) (p := ⟨w5.heap.size, 3, none⟩) hne _) (p := ⟨w5.heap.size, 4, none⟩) hne _, cellS (cellS (cellS (cellS (cellS m3 (p := ⟨w5.heap.size, 0, none⟩) hne _) (p := ⟨w5.heap.size, 1, none⟩) hne _) (p := ⟨w5.heap.size, 2, none⟩) hne _) (p := ⟨w5.heap.size, 3, none⟩) hne _) (p := ⟨w5.heap.size, 4, none⟩) hne _, cellS (cellS (cellS (cellS (cellS m4 (p := ⟨w5.heap.size, 0, none⟩) hne _) (p := ⟨w5.heap.size, 1, none⟩) hne _) (p := ⟨w5.heap.size, 2, none⟩) hne _) (p := ⟨w5.heap.size, 3, none⟩) hne _) (p := ⟨w5.heap.size, 4, none⟩) hne _⟩
        clear hK K
        try simp only [Act.put, List.setIfInBounds_toArray, List.set_cons_zero, List.set_cons_succ, List.getElem_toArray, List.getElem_cons_zero, List.getElem_cons_succ]
        refine wpAnyH_done (by kernel_rfl) ?_ _
        go_simp
        have hT := Two.set (HB4.out.trans (HBw6.out.mono HB4.out.size)) hXw6 hNw6 (by have := HB4.out.size; have := HBw5.out.size; omega) (by have := HB4.out.size; have := HBw5.out.size; omega)
        generalize ((((w6.setCell ⟨w5.heap.size, 0, none⟩ (.int .u32 (ep : Int))).setCell ⟨w5.heap.size, 1, none⟩ (.int .i64 (jo : Int))).setCell ⟨w5.heap.size, 2, none⟩ (.int .i64 (bi : Int))).setCell ⟨w5.heap.size, 3, none⟩ (.int .i64 (he : Int))).setCell ⟨w5.heap.size, 4, none⟩ (.int .u32 (ne : Int)) = wz at hT ⊢
        generalize w5.heap.size = N at hT ⊢
        revert hT
        revert wz N
        exact key.out
    · go_simp
      try dsimp only
      refine hK.out _ _ ?_ (fun hHeld => ?_)
      · exact (by go_keep)
      clear hK K
      try simp only [Act.put, List.setIfInBounds_toArray, List.set_cons_zero, List.set_cons_succ, List.getElem_toArray, List.getElem_cons_zero, List.getElem_cons_succ]
      refine wpAnyH_ready (rs := [1]) (by kernel_rfl) (by simp) ?_
      refine AllReadyH.cons (o := _) rfl (fun K hK => ?_) AllReadyH.nil
      go_simp
      go_at_call 59
      (with_reducible refine (KO.out _).mono ?_)
      rintro e_ w5 ⟨rfl, hB_⟩
      have HBw5 : Hid (Below w4.heap.size w4 w5) := hid (Below.trans (B := w4.heap.size) ((Below.refl _ w4).alloc (Nat.le_refl _) z5) ((Below.undrew hB_).mono (by simp)))
      have hXw5 := (HBw5.out.block w.heap.size hlt4).trans HX4.out
      obtain ⟨l0, l1, l2, l3, l4⟩ := sup_cells' hXw5
      have hNw5 := ((Below.undrew hB_).block w4.heap.size (by simp)).trans (heap_new w4 z5)
      obtain ⟨r0, r1, r2, r3, r4⟩ := sup_cells' hNw5
      obtain ⟨q0, q1, q2, q3, q4⟩ := free_five hNw5
      clear hB_
      try dsimp only
      refine hK.out _ _ ?_ (fun hHeld => ?_)
      · exact ⟨l0, l1, l2, l3, l4⟩
      clear hK K
      try simp only [Act.put, List.setIfInBounds_toArray, List.set_cons_zero, List.set_cons_succ, List.getElem_toArray, List.getElem_cons_zero, List.getElem_cons_succ]
      refine wpAnyH_ready (rs := [4]) (by kernel_rfl) (by simp) ?_
      refine AllReadyH.cons (o := _) rfl (fun K hK => ?_) AllReadyH.nil
      go_simp
      go_at_call 60
      (with_reducible refine (KC.out _).mono ?_)
      rintro e_ w6 ⟨rfl, hB_⟩
      have HBw6 : Hid (Below w4.heap.size w4 w6) := hid (HBw5.out.trans (hB_.mono HBw5.out.size))
      have hXw6 := (HBw6.out.block w.heap.size hlt4).trans HX4.out
      obtain ⟨m0, m1, m2, m3, m4⟩ := sup_cells' hXw6
      have hNw6 := (hB_.block w4.heap.size (lt_of_block hNw5)).trans hNw5
      obtain ⟨s0, s1, s2, s3, s4⟩ := sup_cells' hNw6
      obtain ⟨f0, f1, f2, f3, f4⟩ := free_five hNw6
      clear hB_
      try dsimp only
      refine hK.out _ _ ?_ (fun hHeld => ?_)
      · exact ⟨m0, m1, m2, m3, m4⟩
      clear hK K
      try simp only [Act.put, List.setIfInBounds_toArray, List.set_cons_zero, List.set_cons_succ, List.getElem_toArray, List.getElem_cons_zero, List.getElem_cons_succ]
      have hne : w4.heap.size ≠ w.heap.size := by have := HBw5.out.size; omega
      refine wpAnyH_ready (rs := [6]) (by kernel_rfl) (by simp) ?_
      refine AllReadyH.cons (o := _) rfl (fun K hK => ?_) AllReadyH.nil
      go_simp
      try dsimp only
      refine hK.out _ _ ?_ (fun hHeld => ?_)
      · exact ⟨cellS (cellS (cellS (cellS (cellS m0 (p := ⟨w4.heap.size, 0, none⟩) hne _) (p := ⟨w4.heap.size, 1, none⟩) hne _) (p := ⟨w4.heap.size, 2, none⟩) hne _) (p := ⟨w4.heap.size, 3, none⟩) hne _) (p := ⟨w4.heap.size, 4, none⟩) hne _, cellS (cellS (cellS (cellS (cellS m1 (p := ⟨w4.heap.size, 0, none⟩) hne _) (p := ⟨w4.heap.size, 1, none⟩) hne _) (p := ⟨w4.heap.size, 2, none⟩) hne _) (p := ⟨w4.heap.size, 3, none⟩) hne _) (p := ⟨w4.heap.size, 4, none⟩) hne _, cellS (cellS (cellS (cellS (cellS m2 (p := ⟨w4.heap.size, 0, none⟩) hne _) (p := ⟨w4.heap.size, 1, none⟩) hne _) (p := ⟨w4.heap.size, 2, none⟩) hne _) (p := ⟨w4.heap.size, 3, none⟩) hne _) (p := ⟨w4.heap.size, 4, none⟩) hne _, cellS (cellS (cellS (cellS (cellS m3 (p := ⟨w4.heap.size, 0, none⟩) hne _) (p := ⟨w4.heap.size, 1, none⟩) hne _) (p := ⟨w4.heap.size, 2, none⟩) hne _) (p := ⟨w4.heap.size, 3, none⟩) hne _) (p := ⟨w4.heap.size, 4, none⟩) hne _, cellS (cellS (cellS (cellS (cellS m4 (p := ⟨w4.heap.size, 0, none⟩) hne _) (p := ⟨w4.heap.size, 1, none⟩) hne _) (p := ⟨w4.heap.size, 2, none⟩) hne _) (p := ⟨w4.heap.size, 3, none⟩) hne _) (p := ⟨w4.heap.size, 4, none⟩) hne _⟩
      clear hK K
      try simp only [Act.put, List.setIfInBounds_toArray, List.set_cons_zero, List.set_cons_succ, List.getElem_toArray, List.getElem_cons_zero, List.getElem_cons_succ]
      refine wpAnyH_ready (rs := [7]) (by kernel_rfl) (by simp) ?_
      refine AllReadyH.cons (o := _) rfl (fun K hK => ?_) AllReadyH.nil
      go_simp
      try dsimp only
      refine hK.out _ _ ?_ (fun hHeld => ?_)
      · exact ⟨cellS (cellS (cellS (cellS (cellS m0 (p := ⟨w4.heap.size, 0, none⟩) hne _) (p := ⟨w4.heap.size, 1, none⟩) hne _) (p := ⟨w4.heap.size, 2, none⟩) hne _) (p := ⟨w4.heap.size, 3, none⟩) hne _) (p := ⟨w4.heap.size, 4, none⟩) hne _, cellS (cellS (cellS (cellS (cellS m1 (p := ⟨w4.heap.size, 0, none⟩) hne _) (p := ⟨w4.heap.size, 1, none⟩) hne _) (p := ⟨w4.heap.size, 2, none⟩) hne _) (p := ⟨w4.heap.size, 3, none⟩) hne _) (p := ⟨w4.heap.size, 4, none⟩) hne _, cellS (cellS (cellS (cellS (cellS m2 (p := ⟨w4.heap.size, 0, none⟩) hne _) (p := ⟨w4.heap.size, 1, none⟩) hne _) (p := ⟨w4.heap.size, 2, none⟩) hne _) (p := ⟨w4.heap.size, 3, none⟩) hne _) (p := ⟨w4.heap.size, 4, none⟩) hne _, cellS (cellS (cellS (cellS (cellS m3 (p := ⟨w4.heap.size, 0, none⟩) hne _) (p := ⟨w4.heap.size, 1, none⟩) hne _) (p := ⟨w4.heap.size, 2, none⟩) hne _) (p := ⟨w4.heap.size, 3, none⟩) hne _) (p := ⟨w4.heap.size, 4, none⟩) hne _, cellS (cellS (cellS (cellS (cellS m4 (p := ⟨w4.heap.size, 0, none⟩) hne _) (p := ⟨w4.heap.size, 1, none⟩) hne _) (p := ⟨w4.heap.size, 2, none⟩) hne _) (p := ⟨w4.heap.size, 3, none⟩) hne _) (p := ⟨w4.heap.size, 4, none⟩) hne _⟩
      clear hK K
      try simp only [Act.put, List.setIfInBounds_toArray, List.set_cons_zero, List.set_cons_succ, List.getElem_toArray, List.getElem_cons_zero, List.getElem_cons_succ]
      refine wpAnyH_done (by kernel_rfl) ?_ _
      go_simp
      have hT := Two.set (HB4.out.trans (HBw6.out.mono HB4.out.size)) hXw6 hNw6 (by have := HB4.out.size; have := HBw5.out.size; omega) (by have := HB4.out.size; have := HBw5.out.size; omega)
      generalize ((((w6.setCell ⟨w4.heap.size, 0, none⟩ (.int .u32 (ep : Int))).setCell ⟨w4.heap.size, 1, none⟩ (.int .i64 (jo : Int))).setCell ⟨w4.heap.size, 2, none⟩ (.int .i64 (bi : Int))).setCell ⟨w4.heap.size, 3, none⟩ (.int .i64 (he : Int))).setCell ⟨w4.heap.size, 4, none⟩ (.int .u32 (ne : Int)) = wz at hT ⊢
      generalize w4.heap.size = N at hT ⊢
      revert hT
      revert wz N
      exact key.out
  · intro wz N hT
    clear k0 k1 k2 k3 k4 KO KC HX4 HB4 hlt4
    have HT := hid hT
    have hltN := lt_of_block hT.hN
    have hltX := lt_of_block hT.hX
    have hwN := hT.h0
    have hXN := hT.h1
    clear hT
    go_upto_region 7 with (go_at_call 43; (with_reducible refine (disk_new (n : Int) n wz (by omega)).mono ?_); rintro e7 w7 ⟨rfl, g, hD7, hg7, hB7⟩)
    have HT7 := hid (HT.out.below hB7)
    have hgg : wz.heap.size ≤ g := hD7.hg
    have hfX : ¬ dfoot wz.heap.size g w.heap.size := by rintro (h | h) <;> omega
    have hfN : ¬ dfoot wz.heap.size g N := by rintro (h | h) <;> omega
    have hwz := HT.out.hB.size
    have hD7' := hid hD7
    have hb7 := hid hg7
    clear hB7 HT hltN hltX hwN hXN hD7 hg7
    generalize wz.heap.size = bd at *
    have hw7 := lwrite7 ⟨ep, jo, bi, he, ne⟩ w7 hD7'.out hb7.out hx (fit_new n)
    have e7 : (⟨ep, jo, bi, he, ne⟩ : Sup).err (Dsk.new n).n = c := Hc.out
    rw [e7] at hw7
    have K7 := hid hw7
    clear hw7 e7
    obtain ⟨m0, m1, m2, m3, m4⟩ := sup_cells' HT7.out.hN
    go_upto_region 8 with (go_at_call 61; (with_reducible refine K7.out.mono ?_); rintro e8 w8 ⟨rfl, hE8⟩; have HT8 := hid (HT7.out.disk hE8 hfX hfN hwz (by omega)); have HD8 := hid hE8.1; have hg8 : g < w8.heap.size := (by have := hE8.2.size; have := hb7.out; omega); clear hE8)
    clear K7 m0 m1 m2 m3 m4
    obtain ⟨m0, m1, m2, m3, m4⟩ := sup_cells' HT8.out.hN
    have KS : Hid (∀ w, Calls Tryd.prog 62 #[.agg #[.int .u32 (ep : Int), .int .i64 (jo : Int), .int .i64 (bi : Int), .int .i64 (he : Int), .int .u32 (ne : Int)], .int .i64 (n : Int)] w fun e w' => e = .returned (.int .i64 (c : Int)) ∧ Below w.heap.size w w') := hid (fun w => by rw [← Hc.out]; exact super_check ep jo bi he ne n w hj hh (by omega))
    have K5 := hid (fun w => check_5000 ep jo bi he ne w hj hh)
    go_upto_region 10 with (first
      | (go_at_call 62; (with_reducible refine (KS.out w8).mono ?_); rintro e9 w9 ⟨rfl, hB9⟩; have HT9 := hid (HT8.out.below hB9); have HD9 := hid (HD8.out.below hB9); have hs9 := hB9.size; obtain ⟨l0, l1, l2, l3, l4⟩ := sup_cells' HT9.out.hN; clear hB9)
      | (go_at_call 62; (with_reducible refine (K5.out w9).mono ?_); rintro e10 w10 ⟨c9, rfl, hc9, hB10⟩; have HT10 := hid (HT9.out.below hB10); have HD10 := hid (HD9.out.below hB10); have hs10 := hB10.size; have dc9 : decide (c9 = 0) = false := (by simpa using hc9); have dc9b : (c9 == 0) = false := (by simpa using hc9); clear hB10 hc9))
    clear KS K5 HT8 HT9 HD8 HD9 m0 m1 m2 m3 m4 l0 l1 l2 l3 l4 HT7 hD7' hb7
    by_cases h0 : c = 0
    · have hE0 : (⟨ep, jo, bi, he, ne⟩ : Sup).err (Dsk.new n).n = 0 := by rw [← h0]; exact Hc.out
      have hD := took_ok hE0
      have hn38 := err_n hE0
      change 38 ≤ n at hn38
      have hdn : ((Dsk.new n).took ⟨ep, jo, bi, he, ne⟩).n = n := by rw [hD]; rfl
      have hdd : ((Dsk.new n).took ⟨ep, jo, bi, he, ne⟩).dead = false := by rw [hD]; rfl
      have hnow : ((Dsk.new n).took ⟨ep, jo, bi, he, ne⟩).now (ep % 2) = frame ep 0 (supBytes jo bi he ne) := by rw [hD]; exact if_pos rfl
      have hbest : ((Dsk.new n).took ⟨ep, jo, bi, he, ne⟩).best = ⟨ep, jo, bi, he, ne⟩ := by
        refine best_one (by rw [hdn]; omega) hx (by rw [hdn]; exact hE0) hnow ?_
        intro i hi hne
        have hi2 : ((Dsk.new n).took ⟨ep, jo, bi, he, ne⟩).now i = nul := by rw [hD]; exact if_neg hne
        rw [hi2]
        exact bears_nul _
      have hep0 : 0 < ep := err_ep hE0
      clear hD
      generalize (Dsk.new n).took ⟨ep, jo, bi, he, ne⟩ = D at *
      have hrt : D.rText ((ep % 2 : Nat) : Int) = frame ep 0 (supBytes jo bi he ne) ∧ D.rErr ((ep % 2 : Nat) : Int) = 0 := by
        have ho : ¬ D.out ((ep % 2 : Nat) : Int) := by unfold Dsk.out; omega
        unfold Dsk.rText Dsk.rErr
        have hd9 : ¬ D.dead = true := by rw [hdd]; decide
        rw [if_neg hd9, if_neg hd9, if_neg ho, if_neg ho]
        exact ⟨hnow, rfl⟩
      have hbe : D.bErr = 0 := by unfold Dsk.bErr; rw [hbest]; exact if_neg (by show ¬ ep = 0; omega)
      have hr := lread7 w10 HD10.out hdd ⟨ep, jo, bi, he, ne⟩ hbest
      rw [hbe] at hr
      have KR := hid hr
      have KL : Hid (∀ w, DiskAt w bd bd g D → Calls Tryd.prog 49 #[.pointer (some ⟨bd, 0, none⟩), .int .i64 ((ep % 2 : Nat) : Int)] w fun e w' => e = .returned (.tuple #[.string (S (frame ep 0 (supBytes jo bi he ne))), .int .i64 0]) ∧ Below w.heap.size w w') := hid (fun w h => by have h1 := lread_any ((ep % 2 : Nat) : Int) w h; rw [hrt.1, hrt.2] at h1; exact h1)
      have KB := hid (fun w => ref7_bytes ep jo bi he ne w hep hj hb hh hn)
      generalize frame ep 0 (supBytes jo bi he ne) = f at *
      subst h0
      clear hr hbe hrt hbest hnow hE0 Hc
      go_upto_region 11 with (go_at_call 63; (with_reducible refine KR.out.mono ?_); rintro e11 w11 ⟨rfl, hB11⟩; have HT11 := hid (HT10.out.below hB11); have HD11 := hid (HD10.out.below hB11); clear hB11)
      have hM := heap_new w11 (sup5 ep jo bi he ne)
      have HT12 := hid (HT11.out.below ((Below.refl _ w11).alloc (Nat.le_refl _) (sup5 ep jo bi he ne)))
      have HD12 := hid (HD11.out.alloc (sup5 ep jo bi he ne))
      generalize w11.alloc (sup5 ep jo bi he ne) = w12 at *
      generalize w11.heap.size = M at *
      have HM := hid hM
      clear hM KR HT10 HD10 HT11 HD11
      obtain ⟨q0, q1, q2, q3, q4⟩ := sup_cells' HT12.out.hX
      obtain ⟨p, hp⟩ : ∃ p : Nat, p = ep % 2 := ⟨_, rfl⟩
      have et : Int.tmod (ep : Int) 2 = (p : Int) := by rw [Int.tmod_eq_emod_of_nonneg (by omega)]; omega
      rw [← hp] at KL
      clear hp
      go_upto_region 14 with (go_at_call 49; (with_reducible refine (KL.out w12 HD12.out).mono ?_); rintro e13 w13 ⟨rfl, hB13⟩; have HT13 := hid (HT12.out.below hB13); have hM13 := (hB13.block M (lt_of_block HM.out)).trans HM.out; have HM13 := hid hM13; clear hB13 hM13)
      clear KL q0 q1 q2 q3 q4
      obtain ⟨q0, q1, q2, q3, q4⟩ := sup_cells' HT13.out.hX
      go_wp2_with (go_at_call 65; (with_reducible refine (KB.out w13).mono ?_); rintro e14 w14 ⟨rfl, hB14⟩; have HT14 := hid (HT13.out.below hB14); have hM14 := (hB14.block M (lt_of_block HM13.out)).trans HM13.out; obtain ⟨m0, m1, m2, m3, m4⟩ := sup_cells' hM14; obtain ⟨l0, l1, l2, l3, l4⟩ := sup_cells' HT14.out.hN; clear hB14 hM14)
      go_ret
      exact ⟨rfl, HT14.out.hB⟩
    · have hE0 : (⟨ep, jo, bi, he, ne⟩ : Sup).err (Dsk.new n).n ≠ 0 := by have := Hc.out; intro h; apply h0; rw [← this]; exact h
      have hD := took_bad hE0
      rw [hD] at HD10
      have hr := lread7 w10 HD10.out rfl sup0 (best_nul (D := Dsk.new n) (fun _ => rfl))
      have hbe : (Dsk.new n).bErr = 1 := by unfold Dsk.bErr; rw [best_nul (D := Dsk.new n) (fun _ => rfl)]; rfl
      rw [hbe] at hr
      have KR : Hid (Calls Tryd.prog 63 #[.pointer (some ⟨bd, 0, none⟩)] w10 fun e w' => e = .returned (.tuple #[.agg #[.int .u32 0, .int .i64 0, .int .i64 0, .int .i64 0, .int .u32 0], .int .i64 1]) ∧ Below w10.heap.size w10 w') := hid hr
      have dc : decide ((c : Int) = 0) = false := by simp; omega
      have dcb : ((c : Int) == 0) = false := by simp; omega
      clear hr hbe hE0 Hc hD h0
      go_upto_region 11 with (go_at_call 63; (with_reducible refine KR.out.mono ?_); rintro e11 w11 ⟨rfl, hB11⟩; have HT11 := hid (HT10.out.below hB11); have HD11 := hid (HD10.out.below hB11); clear hB11)
      have hM := heap_new w11 z5
      have HT12 := hid (HT11.out.below ((Below.refl _ w11).alloc (Nat.le_refl _) z5))
      have HD12 := hid (HD11.out.alloc z5)
      generalize w11.alloc z5 = w12 at *
      generalize w11.heap.size = M at *
      obtain ⟨q0, q1, q2, q3, q4⟩ := sup_cells' hM
      have hl := disk_loose w12 HD12.out
      rw [new_loose] at hl
      have KL := hid hl
      clear hM KR HT10 HD10 HT11 HD11 hl
      go_wp2_with (go_at_call 64; (with_reducible refine KL.out.mono ?_); rintro e13 w13 ⟨v, rfl, hO, hB13⟩; have HT13 := hid (HT12.out.below hB13); obtain ⟨ao, cp, rfl⟩ := shape_of hO; clear hB13 hO)
      go_ret
      exact ⟨rfl, HT13.out.hB⟩
end Go.Proofs.YtkmbbgnbklklcaaDoor
