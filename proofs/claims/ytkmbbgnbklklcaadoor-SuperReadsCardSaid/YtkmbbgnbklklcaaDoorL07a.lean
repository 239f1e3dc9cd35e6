/-
  Law 07: Own, few, Read, Write.
-/
import Derived.Test.YtkmbbgnbklklcaaDoorSupE
import Derived.Test.YtkmbbgnbklklcaaDoorGuardB
import Derived.Test.YtkmbbgnbklklcaaDoorL04c
namespace Go.Proofs.YtkmbbgnbklklcaaDoor
open Go.RowKit

/-- A super of the document. -/
def Sup.ref (x : Sup) : Value := .agg #[.int .i64 (x.ep : Int), .int .i64 (x.jo : Int), .int .i64 (x.bi : Int), .int .i64 (x.he : Int), .int .i64 (x.ne : Int)]
theorem and_le (z : Int) (m : Nat) (hm : m < 4611686018427387904) : ∃ k : Nat, k ≤ m ∧ bits .and .i64 z (m : Int) = (k : Int) := by
  have h : (BitVec.ofInt 64 z &&& BitVec.ofInt 64 (m : Int)).toNat ≤ m := by
    rw [BitVec.toNat_and]
    refine Nat.le_trans Nat.and_le_right ?_
    simp
    omega
  refine ⟨_, h, ?_⟩
  show IntKind.i64.wrap (((BitVec.ofInt 64 z &&& BitVec.ofInt 64 (m : Int)).toNat : Nat) : Int) = _
  rw [IntKind.wrap_i64]
  omega

theorem enters_r7 (a c : Value) : Enters 101 #[a, c] := fun w => by kernel_rfl
theorem enters_w7 (a c : Value) : Enters 99 #[a, c] := fun w => by kernel_rfl

set_option maxRecDepth 100000 in
theorem few7_any (a b c d e : Int) : ∃ x : Sup, x.small ∧ ∀ w : World, Calls Tryd.prog 58 #[.agg #[.int .i64 a, .int .i64 b, .int .i64 c, .int .i64 d, .int .i64 e]] w fun e w' => e = .returned (.agg #[.int .i64 (x.ep : Int), .int .i64 (x.jo : Int), .int .i64 (x.bi : Int), .int .i64 (x.he : Int), .int .i64 (x.ne : Int)]) ∧ Below w.heap.size w w' := by
  obtain ⟨ep, h1, e1⟩ := and_le a 4294967295 (by decide)
  obtain ⟨jo, h2, e2⟩ := and_le b 65535 (by decide)
  obtain ⟨bi, h3, e3⟩ := and_le c 65535 (by decide)
  obtain ⟨he, h4, e4⟩ := and_le d 65535 (by decide)
  obtain ⟨ne, h5, e5⟩ := and_le e 4294967295 (by decide)
  change bits .and .i64 a 4294967295 = _ at e1
  change bits .and .i64 b 65535 = _ at e2
  change bits .and .i64 c 65535 = _ at e3
  change bits .and .i64 d 65535 = _ at e4
  change bits .and .i64 e 4294967295 = _ at e5
  refine ⟨⟨ep, jo, bi, he, ne⟩, ⟨by show ep < _; omega, by show jo < _; omega, by show bi < _; omega, by show he < _; omega, by show ne < _; omega⟩, fun w => ?_⟩
  dsimp only
  go_enter Tryd.func58, Tryd.ntmps58
  go_wp2_with fail
  have hB9 : Below w.heap.size w ((w.alloc (.cells #[.int .i64 a, .int .i64 b, .int .i64 c, .int .i64 d, .int .i64 e] 88)).alloc (.cells #[.int .i64 (ep : Int), .int .i64 (jo : Int), .int .i64 (bi : Int), .int .i64 (he : Int), .int .i64 (ne : Int)] 88)) := ((Below.refl _ w).alloc (Nat.le_refl _) _).alloc (by simp) _
  have hX9 := heap_newk (w := w.alloc (.cells #[.int .i64 a, .int .i64 b, .int .i64 c, .int .i64 d, .int .i64 e] 88)) (k := w.heap.size + 1) (.cells #[.int .i64 (ep : Int), .int .i64 (jo : Int), .int .i64 (bi : Int), .int .i64 (he : Int), .int .i64 (ne : Int)] 88) (by simp)
  generalize (w.alloc (.cells #[.int .i64 a, .int .i64 b, .int .i64 c, .int .i64 d, .int .i64 e] 88)).alloc (.cells #[.int .i64 (ep : Int), .int .i64 (jo : Int), .int .i64 (bi : Int), .int .i64 (he : Int), .int .i64 (ne : Int)] 88) = w9 at *
  have z0 := cell_of_block hX9 0
  have z1 := cell_of_block hX9 1
  have z2 := cell_of_block hX9 2
  have z3 := cell_of_block hX9 3
  have z4 := cell_of_block hX9 4
  simp only [List.getElem?_toArray, List.getElem?_cons_zero, List.getElem?_cons_succ] at z0 z1 z2 z3 z4
  refine bodyPost_ret (v := .agg #[.int .i64 (ep : Int), .int .i64 (jo : Int), .int .i64 (bi : Int), .int .i64 (he : Int), .int .i64 (ne : Int)]) ?_ rfl ⟨rfl, hB9⟩
  rw [res_cell rfl]
  clear hB9 hX9
  simp [asAddr, Result.andThen, loadVar, z0, z1, z2, z3, z4, go_sem]

set_option maxRecDepth 100000 in
theorem own7_any (ep jo bi he ne : Nat) (w : World) (h1 : ep < 4294967296) (h2 : ne < 4294967296) : Calls Tryd.prog 59 #[.agg #[.int .i64 (ep : Int), .int .i64 (jo : Int), .int .i64 (bi : Int), .int .i64 (he : Int), .int .i64 (ne : Int)]] w fun e w' => e = .returned (.agg #[.int .u32 (ep : Int), .int .i64 (jo : Int), .int .i64 (bi : Int), .int .i64 (he : Int), .int .u32 (ne : Int)]) ∧ Below w.heap.size w w' := by
  have e1 : IntKind.u32.wrap (ep : Int) = (ep : Int) := by rw [IntKind.wrap_u32]; omega
  have e2 : IntKind.u32.wrap (ne : Int) = (ne : Int) := by rw [IntKind.wrap_u32]; omega
  go_enter Tryd.func59, Tryd.ntmps59
  go_wp2_with fail
  have hB9 : Below w.heap.size w ((w.alloc (.cells #[.int .i64 (ep : Int), .int .i64 (jo : Int), .int .i64 (bi : Int), .int .i64 (he : Int), .int .i64 (ne : Int)] 88)).alloc (.cells #[.int .u32 (ep : Int), .int .i64 (jo : Int), .int .i64 (bi : Int), .int .i64 (he : Int), .int .u32 (ne : Int)] 91)) := ((Below.refl _ w).alloc (Nat.le_refl _) _).alloc (by simp) _
  have hX9 := heap_newk (w := w.alloc (.cells #[.int .i64 (ep : Int), .int .i64 (jo : Int), .int .i64 (bi : Int), .int .i64 (he : Int), .int .i64 (ne : Int)] 88)) (k := w.heap.size + 1) (.cells #[.int .u32 (ep : Int), .int .i64 (jo : Int), .int .i64 (bi : Int), .int .i64 (he : Int), .int .u32 (ne : Int)] 91) (by simp)
  generalize (w.alloc (.cells #[.int .i64 (ep : Int), .int .i64 (jo : Int), .int .i64 (bi : Int), .int .i64 (he : Int), .int .i64 (ne : Int)] 88)).alloc (.cells #[.int .u32 (ep : Int), .int .i64 (jo : Int), .int .i64 (bi : Int), .int .i64 (he : Int), .int .u32 (ne : Int)] 91) = w9 at *
  have z0 := cell_of_block hX9 0
  have z1 := cell_of_block hX9 1
  have z2 := cell_of_block hX9 2
  have z3 := cell_of_block hX9 3
  have z4 := cell_of_block hX9 4
  simp only [List.getElem?_toArray, List.getElem?_cons_zero, List.getElem?_cons_succ] at z0 z1 z2 z3 z4
  refine bodyPost_ret (v := .agg #[.int .u32 (ep : Int), .int .i64 (jo : Int), .int .i64 (bi : Int), .int .i64 (he : Int), .int .u32 (ne : Int)]) ?_ rfl ⟨rfl, hB9⟩
  rw [res_cell rfl]
  clear hB9 hX9
  simp [asAddr, Result.andThen, loadVar, z0, z1, z2, z3, z4, go_sem]

/-- A super in a box, and a disk: the closure of Write. -/
theorem write7_1 {B b g : Nat} {D : Dsk} (bs bd : Nat) (x : Sup) (w : World) (h : DiskAt w B b g D) (hx : x.small) (hfit : D.fit) (h1 : SupIn w bs x) (h2 : w.heap[bd]? = some (.cells #[.pointer (some ⟨b, 0, none⟩)] 66 (0, 0))) :
    Calls Tryd.prog 99 #[.pointer (some ⟨bs, 0, none⟩), .pointer (some ⟨bd, 0, none⟩)] w fun e w' => e = ends (x.err D.n) ∧ DiskEnd w B b g (if x.err D.n = 0 then { D.less with now := upd D.now (x.ep % 2) x.sec } else D) w' := by
  obtain ⟨ep, jo, bi, he, ne⟩ := x
  obtain ⟨k0, k1, k2, k3, k4⟩ := SupAt.cells h1
  have c2 := cell_of_one h2
  dsimp only at k0 k1 k2 k3 k4
  have H := hid h
  have hj : jo < 65536 := hx.jo
  have hb : bi < 65536 := hx.bi
  have hh : he < 65536 := hx.he
  have hn : ne < 4294967296 := hx.ne
  have hep : ep < 4294967296 := hx.ep
  have hE : (⟨ep, jo, bi, he, ne⟩ : Sup).err D.n = supErr ep jo bi he ne D.n := rfl
  rw [hE]
  by_cases h0 : supErr ep jo bi he ne D.n = 0
  · have K := hid (super_write_ok ep jo bi he ne w H.out hfit hep hj hb hh hn h0)
    rw [h0, if_pos rfl]
    clear h h1 h2 hx h0 hE
    go_enter Tryd.func99, Tryd.ntmps99
    go_wp2_with fail
    (with_reducible refine K.out.mono ?_)
    rintro e w1 ⟨rfl, hE⟩
    have HE := hid hE
    clear hE
    go_wp2_with fail
    go_end0
    exact ⟨rfl, HE.out⟩
  · have K := hid (super_write_bad ep jo bi he ne _ w H.out hj hh rfl h0)
    rw [if_neg h0]
    generalize supErr ep jo bi he ne D.n = c at *
    have H0 := hid h0
    clear h h1 h2 hx h0 hE
    go_enter Tryd.func99, Tryd.ntmps99
    go_wp2_with fail
    (with_reducible refine K.out.mono ?_)
    rintro e w1 ⟨rfl, hB⟩
    exact ⟨rfl, by rw [ends, if_neg (by have := H0.out; omega)], H.out.below hB, Fr.ofBelow hB _⟩
/-- What Write leaves. -/
def Dsk.took (D : Dsk) (x : Sup) : Dsk := if x.err D.n = 0 then { D.less with now := upd D.now (x.ep % 2) x.sec } else D

set_option maxRecDepth 100000 in
theorem lwrite7 {B b g : Nat} {D : Dsk} (x : Sup) (w : World) (h : DiskAt w B b g D) (hg : g < w.heap.size) (hx : x.small) (hfit : D.fit) :
    Calls Tryd.prog 61 #[.pointer (some ⟨b, 0, none⟩), .agg #[.int .u32 (x.ep : Int), .int .i64 (x.jo : Int), .int .i64 (x.bi : Int), .int .i64 (x.he : Int), .int .u32 (x.ne : Int)]] w fun e w' => e = .returned (.int .i64 (x.err D.n : Int)) ∧ DiskEnd w B b g (D.took x) w' := by
  have hb := h.lt
  have hh1 := heap_old (heap_new w (.cells #[.pointer (some ⟨b, 0, none⟩)] 66)) (sup5 x.ep x.jo x.bi x.he x.ne)
  have hh2 := heap_newk (w := w.alloc (.cells #[.pointer (some ⟨b, 0, none⟩)] 66)) (k := w.heap.size + 1) (sup5 x.ep x.jo x.bi x.he x.ne) (by simp)
  have hB0 : Below w.heap.size w ((w.alloc (.cells #[.pointer (some ⟨b, 0, none⟩)] 66)).alloc (sup5 x.ep x.jo x.bi x.he x.ne)) := ((Below.refl _ _).alloc (Nat.le_refl _) _).alloc (by simp) _
  have hD0 := h.below hB0
  have hs0 := hB0.size
  go_enter Tryd.func61, Tryd.ntmps61
  go_wp2_with fail
  generalize (w.alloc (.cells #[.pointer (some ⟨b, 0, none⟩)] 66)).alloc (sup5 x.ep x.jo x.bi x.he x.ne) = w0 at *
  have key : Calls Tryd.prog 19 #[.func (.func 99) #[] #[.pointer (some ⟨w.heap.size + 1, 0, none⟩), .pointer (some ⟨w.heap.size, 0, none⟩)]] w0 fun e w3 => e = .returned (.int .i64 (x.err D.n : Int)) ∧ Fr (dfoot b g) w0 w3 ∧ DiskAt w3 B b g (D.took x) := by
    refine guard_fr _ _ w0 (x.err D.n : Int) (dfoot b g) (fun w' => DiskAt w' B b g (D.took x)) (enters_w7 _ _) (by rintro (e | e) <;> omega) (fun w1 w2 hs hp hF => hp.fr hF (by omega) (by omega)) ?_
    refine (write7_1 _ _ x _ (hD0.alloc _) hx hfit (heap_old hh2 _) (heap_old hh1 _)).mono ?_
    rintro e w' ⟨rfl, hE⟩
    exact ⟨hE.2, hE.1, ends_or _⟩
  have HB0 := hid hB0
  clear hh1 hh2 hD0 h hs0 hB0
  refine key.mono ?_
  rintro e w1 ⟨rfl, hF, hD⟩
  have HE := hid (show DiskEnd w B b g (D.took x) w1 from ⟨hD, (Fr.ofBelow HB0.out _).trans hF (fun _ _ h => h)⟩)
  clear hF hD key
  go_wp2_with fail
  go_ret
  exact ⟨rfl, HE.out⟩

def Dsk.bErr (D : Dsk) : Int := if D.best.ep = 0 then 1 else 0
/-- The closure of Read. -/
theorem read7_1 {B b g : Nat} {D : Dsk} (bd bo : Nat) (w : World) (h : DiskAt w B b g D) (hd : D.dead = false) (h1 : w.heap[bd]? = some (.cells #[.pointer (some ⟨b, 0, none⟩)] 66 (0, 0))) (h2 : SupAt w bo 0 0 0 0 0) :
    Calls Tryd.prog 101 #[.pointer (some ⟨bd, 0, none⟩), .pointer (some ⟨bo, 0, none⟩)] w fun e w' => Fr (fun k => k = bo) w w' ∧ SupIn w' bo D.best ∧ ((∃ v, e = .returned v ∧ D.bErr = 0) ∨ e = .panicked (fault D.bErr)) := by
  have c1 := cell_of_one h1
  have K := hid (super_read w h hd)
  have hz := sups_zero D (min 2 D.n)
  change D.best.ep = 0 → D.best = sup0 at hz
  have H2 := hid h2
  have hbe : D.bErr = if D.best.ep = 0 then 1 else 0 := rfl
  generalize D.bErr = c at *
  generalize D.best = x at *
  obtain ⟨ep, jo, bi, he, ne⟩ := x
  dsimp only at hz hbe ⊢
  by_cases h0 : ep = 0
  · have hz0 := hz h0
    have Hz := hid hz0
    rw [if_pos h0] at hbe
    have Hbe := hid hbe
    clear hbe
    have H0 := hid h0
    clear h h1 h2 hz hz0 h0
    go_enter Tryd.func101, Tryd.ntmps101
    go_wp2_with fail
    (with_reducible refine K.out.mono ?_)
    rintro e w1 ⟨hp, _, hB⟩
    have hp := hp H0.out
    subst hp
    refine ⟨rfl, Fr.ofBelow hB _, ?_, .inr (by rw [Hbe.out])⟩
    rw [Hz.out]
    exact (hB.block bo (lt_of_block H2.out)).trans H2.out
  · rw [if_neg h0] at hbe
    have Hbe := hid hbe
    have H0 := hid h0
    clear h h1 h2 hz h0 hbe
    go_enter Tryd.func101, Tryd.ntmps101
    go_wp2_with fail
    (with_reducible refine K.out.mono ?_)
    rintro e w1 ⟨_, hr, hB⟩
    have hr := hr H0.out
    subst hr
    have hX1 : SupAt w1 bo 0 0 0 0 0 := (hB.block bo (lt_of_block H2.out)).trans H2.out
    obtain ⟨r0, r1, r2, r3, r4⟩ := hX1.cells
    have g0 := free_of_block hX1 0
    have g1 := free_of_block hX1 1
    have g2 := free_of_block hX1 2
    have g3 := free_of_block hX1 3
    have g4 := free_of_block hX1 4
    have HX1 := hid hX1
    have HB := hid hB
    clear hX1 hB c1
    unfold Sup.val supV
    dsimp only
    go_wp2_with fail
    go_end0
    exact ⟨(Fr.ofBelow HB.out _).trans (sup_fr bo ep jo bi he ne) (fun _ _ h => h), sup_set HX1.out ep jo bi he ne, .inl ⟨⟨_, rfl⟩, Hbe.out⟩⟩

set_option maxRecDepth 100000 in
theorem lread7 {B b g : Nat} {D : Dsk} (w : World) (h : DiskAt w B b g D) (hd : D.dead = false) (x : Sup) (hx : D.best = x) :
    Calls Tryd.prog 63 #[.pointer (some ⟨b, 0, none⟩)] w fun e w' => e = .returned (.tuple #[.agg #[.int .u32 (x.ep : Int), .int .i64 (x.jo : Int), .int .i64 (x.bi : Int), .int .i64 (x.he : Int), .int .u32 (x.ne : Int)], .int .i64 D.bErr]) ∧ Below w.heap.size w w' := by
  obtain ⟨ep, jo, bi, he, ne⟩ := x
  dsimp only
  go_enter Tryd.func63, Tryd.ntmps63
  go_wp2_with fail
  change Calls _ _ _ (((w.alloc (.cells #[.pointer (some ⟨b, 0, none⟩)] 66)).alloc z5).alloc z5) _
  have hh1 := heap_old (heap_old (heap_new w (.cells #[.pointer (some ⟨b, 0, none⟩)] 66)) z5) z5
  have hh2 := heap_old (heap_newk (w := w.alloc (.cells #[.pointer (some ⟨b, 0, none⟩)] 66)) (k := w.heap.size + 1) z5 (by simp)) z5
  have hh3 := heap_newk (w := (w.alloc (.cells #[.pointer (some ⟨b, 0, none⟩)] 66)).alloc z5) (k := w.heap.size + 1 + 1) z5 (by simp)
  have hB0 : Below w.heap.size w (((w.alloc (.cells #[.pointer (some ⟨b, 0, none⟩)] 66)).alloc z5).alloc z5) := (((Below.refl _ _).alloc (Nat.le_refl _) _).alloc (by simp) _).alloc (by simp; omega) _
  have hD0 := h.below hB0
  have hs0 := hB0.size
  generalize ((w.alloc (.cells #[.pointer (some ⟨b, 0, none⟩)] 66)).alloc z5).alloc z5 = w0 at *
  have HB0 := hid hB0
  have hlt := lt_of_block hh3
  clear h hB0
  have key := guard_fr _ _ w0 D.bErr (fun k => k = w.heap.size + 1 + 1) (fun w' => SupIn w' (w.heap.size + 1 + 1) D.best) (enters_r7 (.pointer (some ⟨w.heap.size, 0, none⟩)) (.pointer (some ⟨w.heap.size + 1 + 1, 0, none⟩))) (by omega) (fun w1 w2 hs hp hF => hF.heap hp (by omega)) (read7_1 w.heap.size (w.heap.size + 1 + 1) _ (hD0.alloc _) hd (heap_old hh1 _) (heap_old hh3 _))
  rw [hx] at key
  have Hk := hid key
  clear key hx
  (with_reducible refine Hk.out.mono ?_)
  rintro e w1 ⟨rfl, hF, ho1⟩
  obtain ⟨k0, k1, k2, k3, k4⟩ := SupAt.cells ho1
  dsimp only at k0 k1 k2 k3 k4
  have hX1 : SupAt w1 (w.heap.size + 1) 0 0 0 0 0 := hF.heap hh2 (by omega)
  obtain ⟨r0, r1, r2, r3, r4⟩ := hX1.cells
  have g0 := free_of_block hX1 0
  have g1 := free_of_block hX1 1
  have g2 := free_of_block hX1 2
  have g3 := free_of_block hX1 3
  have g4 := free_of_block hX1 4
  have HX1 := hid hX1
  have HB1 := hid (HB0.out.trans (hF.below hs0 (fun k hk e => by omega)))
  clear hF ho1 hh1 hh2 hh3 hD0 hX1
  go_wp2_with fail
  have hw := sup_set HX1.out ep jo bi he ne
  have hB9 := HB1.out.trans ((sup_fr (w := w1) (w.heap.size + 1) ep jo bi he ne).below HB1.out.size (fun k hk e => by omega))
  generalize ((((w1.setCell ⟨w.heap.size + 1, 0, none⟩ (.int .u32 (ep : Int))).setCell ⟨w.heap.size + 1, 1, none⟩ (.int .i64 (jo : Int))).setCell ⟨w.heap.size + 1, 2, none⟩ (.int .i64 (bi : Int))).setCell ⟨w.heap.size + 1, 3, none⟩ (.int .i64 (he : Int))).setCell ⟨w.heap.size + 1, 4, none⟩ (.int .u32 (ne : Int)) = w9 at *
  obtain ⟨z0, z1, z2, z3, z4⟩ := hw.cells
  refine bodyPost_ret (v := .tuple #[supV ep jo bi he ne, .int .i64 D.bErr]) ?_ rfl ⟨rfl, hB9⟩
  rw [results_ct rfl]
  clear hB9 hw k0 k1 k2 k3 k4 r0 r1 r2 r3 r4
  unfold supV
  go_simp
end Go.Proofs.YtkmbbgnbklklcaaDoor
