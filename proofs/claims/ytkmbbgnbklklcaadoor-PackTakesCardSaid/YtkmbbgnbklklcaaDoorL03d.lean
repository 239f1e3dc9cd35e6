/-
  Law 03's PackPuts: its closures.
-/
import Derived.Test.YtkmbbgnbklklcaaDoorPackB
import Derived.Test.YtkmbbgnbklklcaaDoorRef3
import Derived.Test.YtkmbbgnbklklcaaDoorGuardB
import Derived.Test.YtkmbbgnbklklcaaDoorCut
import Derived.Test.YtkmbbgnbklklcaaDoorL03a
namespace Go.Proofs.YtkmbbgnbklklcaaDoor
open Go.RowKit

theorem enters_pp1 (a b : Value) : Enters 32 #[a, b] := fun w => by kernel_rfl
theorem enters_pp2 (a b c d e f g : Value) : Enters 34 #[a, b, c, d, e, f, g] := fun w => by kernel_rfl

theorem pp1_ok (B bf F : Nat) (v : Value) (l : List UInt8) (w : World) (hO : OutAt w B B v l) (hf : w.heap[bf]? = some (.cells #[.int .i64 (F : Int)] 3 (0, 0))) (hl : l.length ≤ F) (hF : F ≤ 100000000) :
    Calls Tryd.prog 32 #[.pointer (some ⟨B, 0, none⟩), .pointer (some ⟨bf, 0, none⟩)] w fun e w' => e = .returned (.tuple #[]) ∧ OutEnd w B B v (l ++ List.replicate (F - l.length) 0) w' := by
  have c0 := cell_of_one hf
  have K := hid (out_fill B B v l F w hO (Nat.le_of_lt (lt_of_block hO.cell)) hl hF)
  clear hf hO
  go_enter Tryd.func32, Tryd.ntmps32
  go_wp2_with fail
  refine K.out.mono ?_
  rintro e w1 ⟨rfl, hE⟩
  have HE := hid hE
  clear hE
  go_wp2_with fail
  go_end0
  exact ⟨rfl, HE.out⟩
theorem pp1_big (B bf : Nat) (f : Int) (v : Value) (l : List UInt8) (w : World) (hO : OutAt w B B v l) (hf : w.heap[bf]? = some (.cells #[.int .i64 f] 3 (0, 0))) (hl : f < l.length) :
    Calls Tryd.prog 32 #[.pointer (some ⟨B, 0, none⟩), .pointer (some ⟨bf, 0, none⟩)] w fun e w' => e = .panicked (fault 3) ∧ w = w' := by
  have c0 := cell_of_one hf
  have K := hid (out_fill_big B B v l f w hO hl)
  clear hf hO
  go_enter Tryd.func32, Tryd.ntmps32
  go_wp2_with fail
  refine K.out.mono ?_
  rintro e w1 ⟨rfl, hw⟩
  exact ⟨rfl, rfl, hw⟩
theorem guard_pp1_big (B bf : Nat) (f : Int) (l : List UInt8) (w : World) (hO : OutW B l w) (hf : w.heap[bf]? = some (.cells #[.int .i64 f] 3 (0, 0))) (hl : f < l.length) :
    Calls Tryd.prog 19 #[.func (.func 32) #[] #[.pointer (some ⟨B, 0, none⟩), .pointer (some ⟨bf, 0, none⟩)]] w fun e w3 => e = .returned (.int .i64 3) ∧ OutW B l w3 ∧ Below B w w3 := by
  obtain ⟨ao, cp, hA⟩ := hO
  have hBl := lt_of_block hA.cell
  refine (guard_fr _ _ w 3 (fun _ => False) (fun _ => True) (enters_pp1 _ _) id (fun _ _ _ _ _ => trivial) ?_).mono fun e w3 ⟨h1, h2, _⟩ => ⟨h1, ⟨ao, cp, hA.fr h2 id (fun _ _ => id)⟩, h2.below (Nat.le_of_lt hBl) (fun _ _ => id)⟩
  refine (pp1_big B bf f _ l _ (hA.fr ((Fr.refl (fun _ => False) w).alloc _) id (fun _ _ => id)) (heap_old hf _) hl).mono ?_
  rintro e w' ⟨rfl, rfl⟩
  exact ⟨Fr.refl _ _, trivial, .inr rfl⟩
theorem guard_pp1_ok (B bf F : Nat) (l : List UInt8) (w : World) (hO : OutW B l w) (hf : w.heap[bf]? = some (.cells #[.int .i64 (F : Int)] 3 (0, 0))) (hl : l.length ≤ F) (hF : F ≤ 100000000) :
    Calls Tryd.prog 19 #[.func (.func 32) #[] #[.pointer (some ⟨B, 0, none⟩), .pointer (some ⟨bf, 0, none⟩)]] w fun e w3 => e = .returned (.int .i64 0) ∧ OutW B (l ++ List.replicate (F - l.length) 0) w3 ∧ Below B w w3 := by
  obtain ⟨ao, cp, hA⟩ := hO
  have hBl := lt_of_block hA.cell
  refine (guard_fr _ _ w 0 (outs B (.slice ao l.length cp)) (fun w' => ∃ v', OutAt w' B B v' (l ++ List.replicate (F - l.length) 0) ∧ v'.ownBlock ≠ some w.heap.size) (enters_pp1 _ _) ?_ ?_ ?_).mono ?_
  · rintro (h | h)
    · omega
    · have := (hA.lt h).2; omega
  · rintro w1 w2 hs ⟨v', h1, h2⟩ hFr
    exact ⟨v', h1.fr hFr (by omega) (fun k hk e => h2 (by rw [← hk, e])), h2⟩
  · refine (pp1_ok B bf F _ l _ (hA.fr ((Fr.refl (fun _ => False) w).alloc _) id (fun _ _ => id)) (heap_old hf _) hl hF).mono ?_
    rintro e w' ⟨rfl, v', h1, h2, h3⟩
    refine ⟨h3, ⟨v', h1, ?_⟩, .inl ⟨_, rfl, rfl⟩⟩
    rcases h2 with h2 | ⟨g, h2, hg⟩
    · rw [h2]
      intro e
      have := (hA.lt e.symm).2
      omega
    · rw [h2]
      intro e
      injection e with e
      simp at hg
      omega
  · rintro e w3 ⟨h1, h2, v', h3, _⟩
    obtain ⟨ao', cp', rfl⟩ := shape_of h3.own
    refine ⟨h1, ⟨ao', cp', h3⟩, h2.below (Nat.le_of_lt hBl) fun k hk hx => ?_⟩
    rcases hx with hx | hx
    · omega
    · have := (hA.lt hx).1; omega

/-- What lies in the boxes that the second closure writes. -/
def Box3 (w : World) (bx bt bz : Nat) (x y : Nat) (t : List UInt8) : Prop := w.heap[bx]? = some (.cells #[.int .u64 (x : Int)] 31 (0, 0)) ∧ w.heap[bt]? = some (.cells #[.string (S t)] 9 (0, 0)) ∧ w.heap[bz]? = some (.cells #[.int .u64 (y : Int)] 31 (0, 0))

theorem tneq {w : World} {k k' : Nat} {c c' : Array Value} {t t' : TypeId} {fr fr' : Nat × Nat} (h1 : w.heap[k]? = some (.cells c t fr)) (h2 : w.heap[k']? = some (.cells c' t' fr')) (h : t ≠ t') : k ≠ k' := by
  rintro rfl
  rw [h1] at h2
  injection h2 with h2
  injection h2 with _ h2
  exact h h2
/-- The boxes that are read, those that are written. -/
def Six (w : World) (bm bs bn bx bt bz : Nat) (m n : Int) (s : List UInt8) : Prop := w.heap[bm]? = some (.cells #[.int .i64 m] 3 (0, 0)) ∧ w.heap[bs]? = some (.cells #[.string (S s)] 9 (0, 0)) ∧ w.heap[bn]? = some (.cells #[.int .i64 n] 3 (0, 0)) ∧
  w.heap[bx]? = some (.cells #[.int .u64 (0 : Int)] 31 (0, 0)) ∧ w.heap[bt]? = some (.cells #[.string (S [])] 9 (0, 0)) ∧ w.heap[bz]? = some (.cells #[.int .u64 (0 : Int)] 31 (0, 0))
theorem six {w : World} {bm bs bn bx bt bz : Nat} {m n : Int} {s : List UInt8} (hm : w.heap[bm]? = some (.cells #[.int .i64 m] 3 (0, 0))) (hs : w.heap[bs]? = some (.cells #[.string (S s)] 9 (0, 0))) (hn : w.heap[bn]? = some (.cells #[.int .i64 n] 3 (0, 0))) (hx : Box3 w bx bt bz 0 0 []) (o : Obj) : Six (w.alloc o) bm bs bn bx bt bz m n s :=
  ⟨heap_old hm o, heap_old hs o, heap_old hn o, heap_old hx.1 o, heap_old hx.2.1 o, heap_old hx.2.2 o⟩
theorem sixF {w w' : World} {bm bs bn bx bt bz : Nat} {m n : Int} {s : List UInt8} (h : Six w bm bs bn bx bt bz m n s) {T : Nat → Prop} (hF : Fr T w w') (h1 : ¬ T bm) (h2 : ¬ T bs) (h3 : ¬ T bn) (h4 : ¬ T bx) (h5 : ¬ T bt) (h6 : ¬ T bz) : Six w' bm bs bn bx bt bz m n s :=
  ⟨hF.heap h.1 h1, hF.heap h.2.1 h2, hF.heap h.2.2.1 h3, hF.heap h.2.2.2.1 h4, hF.heap h.2.2.2.2.1 h5, hF.heap h.2.2.2.2.2 h6⟩
set_option maxRecDepth 100000 in
theorem pp2_any (bg bm bs bn bx bt bz : Nat) (G s : List UInt8) (m n : Int) (k j : Nat) (w : World) (hg : w.heap[bg]? = some (.cells #[.string (S G)] 9 (0, 0))) (hm : w.heap[bm]? = some (.cells #[.int .i64 m] 3 (0, 0))) (hs : w.heap[bs]? = some (.cells #[.string (S s)] 9 (0, 0))) (hn : w.heap[bn]? = some (.cells #[.int .i64 n] 3 (0, 0)))
    (hx : Box3 w bx bt bz 0 0 []) (hne : bx ≠ bt ∧ bx ≠ bz ∧ bt ≠ bz) (hst : bt ≠ bs) (hk : min (max m 1) 8 = (k : Int)) (hj : min (max n 1) 8 = (j : Int)) (hG : k + s.length + j ≤ G.length) (hl : G.length ≤ 100000000) (hz : ∀ c ∈ G.drop (k + s.length + j), c = 0) :
    Calls Tryd.prog 34 #[.pointer (some ⟨bg, 0, none⟩), .pointer (some ⟨bm, 0, none⟩), .pointer (some ⟨bs, 0, none⟩), .pointer (some ⟨bn, 0, none⟩), .pointer (some ⟨bx, 0, none⟩), .pointer (some ⟨bt, 0, none⟩), .pointer (some ⟨bz, 0, none⟩)] w fun e w' =>
      e = .returned (.tuple #[]) ∧ Box3 w' bx bt bz (be (G.take k)) (be ((G.drop (k + s.length)).take j)) ((G.drop k).take s.length) ∧ Fr (fun i => i = bx ∨ i = bt ∨ i = bz) w w' := by
  have c0 := cell_of_one hg
  have nxm := tneq hx.1 hm (by decide)
  have nxs := tneq hx.1 hs (by decide)
  have nxn := tneq hx.1 hn (by decide)
  have ntm := tneq hx.2.1 hm (by decide)
  have ntn := tneq hx.2.1 hn (by decide)
  have nzm := tneq hx.2.2 hm (by decide)
  have nzs := tneq hx.2.2 hs (by decide)
  have nzn := tneq hx.2.2 hn (by decide)
  have bxl := lt_of_block hx.1
  have btl := lt_of_block hx.2.1
  have bzl := lt_of_block hx.2.2
  have bml := lt_of_block hm
  have bsl := lt_of_block hs
  have bnl := lt_of_block hn
  have nxt := hne.1
  have nxz := hne.2.1
  have ntz := hne.2.2
  have hss := S_size s
  go_enter Tryd.func34, Tryd.ntmps34
  go_upto_region 1 with (go_at_call 18; refine (read_any _ _).mono ?_; rintro e w' ⟨rfl, rfl⟩)
  have hI0 : InAt (w.alloc (.cells #[.string (S G)] 111)) w.heap.size G := heap_new w _
  have hA0 := six hm hs hn hx (.cells #[.string (S G)] 111)
  have hF0 : Fr (fun i => i = bx ∨ i = bt ∨ i = bz) w (w.alloc (.cells #[.string (S G)] 111)) := (Fr.refl _ w).alloc _
  have hNl : w.heap.size < (w.alloc (.cells #[.string (S G)] 111)).heap.size := by simp
  change Code.wp _ _ _ _ (w.alloc (.cells #[.string (S G)] 111))
  generalize w.alloc (.cells #[.string (S G)] 111) = w0 at *
  have kam := cell_of_one hA0.1
  have kas := cell_of_one hA0.2.1
  have kan := cell_of_one hA0.2.2.1
  have kax := cell_of_one hA0.2.2.2.1
  have kat := cell_of_one hA0.2.2.2.2.1
  have kaz := cell_of_one hA0.2.2.2.2.2
  have kafx := free_of_one hA0.2.2.2.1
  have kaft := free_of_one hA0.2.2.2.2.1
  have kafz := free_of_one hA0.2.2.2.2.2
  have HI0 := hid (show InAt w0.drew w.heap.size G from hI0)
  have HA0 := hid (show Six w0.drew bm bs bn bx bt bz m n s from hA0)
  have HF0 := hid hF0
  have Hl := hid hl
  have Hz := hid hz
  clear hI0 hA0 hF0 hg hm hs hn hx c0 hl hz
  have hlen1 : s.length ≤ (G.drop k).length := by rw [List.length_drop]; omega
  have hlen2 : j ≤ (G.drop (k + s.length)).length := by rw [List.length_drop]; omega
  have hdd : (G.drop k).drop s.length = G.drop (k + s.length) := by rw [List.drop_drop]
  go_region_held3 (fun w' => w'.cell? ⟨bm, 0, none⟩ = some (.int .i64 m) ∧ w'.cell? ⟨bs, 0, none⟩ = some (.string (S s)) ∧ w'.cell? ⟨bn, 0, none⟩ = some (.int .i64 n))
    (first | go_keep | exact ⟨kam, kas, kan⟩ | exact ⟨kbm, kbs, kbn⟩ | exact ⟨kcm, kcs, kcn⟩ | exact ⟨kdm, kds, kdn⟩ | exact ⟨cellS (kdm) (p := ⟨bx, 0, none⟩) nxm _, cellS (kds) (p := ⟨bx, 0, none⟩) nxs _, cellS (kdn) (p := ⟨bx, 0, none⟩) nxn _⟩ | exact ⟨cellS (cellS (kdm) (p := ⟨bx, 0, none⟩) nxm _) (p := ⟨bt, 0, none⟩) ntm _, cellS (cellS (kds) (p := ⟨bx, 0, none⟩) nxs _) (p := ⟨bt, 0, none⟩) hst _, cellS (cellS (kdn) (p := ⟨bx, 0, none⟩) nxn _) (p := ⟨bt, 0, none⟩) ntn _⟩ | exact ⟨cellS (cellS (cellS (kdm) (p := ⟨bx, 0, none⟩) nxm _) (p := ⟨bt, 0, none⟩) ntm _) (p := ⟨bz, 0, none⟩) nzm _, cellS (cellS (cellS (kds) (p := ⟨bx, 0, none⟩) nxs _) (p := ⟨bt, 0, none⟩) hst _) (p := ⟨bz, 0, none⟩) nzs _, cellS (cellS (cellS (kdn) (p := ⟨bx, 0, none⟩) nxn _) (p := ⟨bt, 0, none⟩) ntn _) (p := ⟨bz, 0, none⟩) nzn _⟩)
    (first
      | (go_at_call 23; (with_reducible refine (in_num_some w.heap.size G m k w0.drew HI0.out hk (by omega)).mono ?_); rintro e w1 ⟨rfl, hI1, hF1⟩; have hA1 := sixF (w := w0.drew) HA0.out hF1 (by omega) (by omega) (by omega) (by omega) (by omega) (by omega); have kbm := cell_of_one hA1.1; have kbs := cell_of_one hA1.2.1; have kbn := cell_of_one hA1.2.2.1; have kbx := cell_of_one hA1.2.2.2.1; have kbt := cell_of_one hA1.2.2.2.2.1; have kbz := cell_of_one hA1.2.2.2.2.2; have kbfx := free_of_one hA1.2.2.2.1; have kbft := free_of_one hA1.2.2.2.2.1; have kbfz := free_of_one hA1.2.2.2.2.2; have HI1 := hid hI1; have HA1 := hid hA1; have HF1 := hid hF1; clear hI1 hA1 hF1)
      | (go_at_call 22; (with_reducible refine (in_text_some w.heap.size (G.drop k) s.length w1 HI1.out hlen1).mono ?_); rintro e w2 ⟨rfl, hw2⟩; have hI2 := HI1.out.set ((G.drop k).drop s.length); have hF2 := (Fr.refl (fun i => i = w.heap.size) w1).setCell (p := ⟨w.heap.size, 0, none⟩) (fun _ => rfl) (.string (S ((G.drop k).drop s.length))); rw [hw2] at hI2 hF2; rw [hdd] at hI2; have hA2 := sixF HA1.out hF2 (by omega) (by omega) (by omega) (by omega) (by omega) (by omega); have kcm := cell_of_one hA2.1; have kcs := cell_of_one hA2.2.1; have kcn := cell_of_one hA2.2.2.1; have kcx := cell_of_one hA2.2.2.2.1; have kct := cell_of_one hA2.2.2.2.2.1; have kcz := cell_of_one hA2.2.2.2.2.2; have kcfx := free_of_one hA2.2.2.2.1; have kcft := free_of_one hA2.2.2.2.2.1; have kcfz := free_of_one hA2.2.2.2.2.2; have HI2 := hid hI2; have HA2 := hid hA2; have HF2 := hid hF2; clear hI2 hA2 hF2 hw2)
      | (go_at_call 23; (with_reducible refine (in_num_some w.heap.size (G.drop (k + s.length)) n j w2 HI2.out hj hlen2).mono ?_); rintro e w3 ⟨rfl, hI3, hF3⟩; have hA3 := sixF HA2.out hF3 (by omega) (by omega) (by omega) (by omega) (by omega) (by omega); have kdm := cell_of_one hA3.1; have kds := cell_of_one hA3.2.1; have kdn := cell_of_one hA3.2.2.1; have kdx := cell_of_one hA3.2.2.2.1; have kdt := cell_of_one hA3.2.2.2.2.1; have kdz := cell_of_one hA3.2.2.2.2.2; have kdfx := free_of_one hA3.2.2.2.1; have kdft := free_of_one hA3.2.2.2.2.1; have kdfz := free_of_one hA3.2.2.2.2.2; have HI3 := hid hI3; have HA3 := hid hA3; have HF3 := hid hF3; clear hI3 hA3 hF3))
  have hS := HA3.out
  have hx5 := one_setCell (u := .int .u64 ((be (G.take k) : Nat) : Int)) hS.2.2.2.1
  have hw5 : Box3 (((w3.setCell ⟨bx, 0, none⟩ (.int .u64 ((be (G.take k) : Nat) : Int))).setCell ⟨bt, 0, none⟩ (.string (S ((G.drop k).take s.length)))).setCell ⟨bz, 0, none⟩ (.int .u64 ((be ((G.drop (k + s.length)).take j) : Nat) : Int))) bx bt bz (be (G.take k)) (be ((G.drop (k + s.length)).take j)) ((G.drop k).take s.length) :=
    ⟨heap_set_other (heap_set_other hx5 (p := ⟨bt, 0, none⟩) nxt _) (p := ⟨bz, 0, none⟩) nxz _, heap_set_other (one_setCell (heap_set_other hS.2.2.2.2.1 (p := ⟨bx, 0, none⟩) (fun e => nxt e.symm) _)) (p := ⟨bz, 0, none⟩) ntz _, one_setCell (heap_set_other (heap_set_other hS.2.2.2.2.2 (p := ⟨bx, 0, none⟩) (fun e => nxz e.symm) _) (p := ⟨bt, 0, none⟩) (fun e => ntz e.symm) _)⟩
  have hI5 : InAt (((w3.setCell ⟨bx, 0, none⟩ (.int .u64 ((be (G.take k) : Nat) : Int))).setCell ⟨bt, 0, none⟩ (.string (S ((G.drop k).take s.length)))).setCell ⟨bz, 0, none⟩ (.int .u64 ((be ((G.drop (k + s.length)).take j) : Nat) : Int))) w.heap.size ((G.drop (k + s.length)).drop j) :=
    heap_set_other (heap_set_other (heap_set_other HI3.out (p := ⟨bx, 0, none⟩) (by show w.heap.size ≠ bx; omega) _) (p := ⟨bt, 0, none⟩) (by show w.heap.size ≠ bt; omega) _) (p := ⟨bz, 0, none⟩) (by show w.heap.size ≠ bz; omega) _
  have hF5 : Fr (fun i => i = bx ∨ i = bt ∨ i = bz) w (((w3.setCell ⟨bx, 0, none⟩ (.int .u64 ((be (G.take k) : Nat) : Int))).setCell ⟨bt, 0, none⟩ (.string (S ((G.drop k).take s.length)))).setCell ⟨bz, 0, none⟩ (.int .u64 ((be ((G.drop (k + s.length)).take j) : Nat) : Int))) :=
    (((((HF0.out.drew.trans HF1.out (fun i hi e => by omega)).trans HF2.out (fun i hi e => by omega)).trans HF3.out (fun i hi e => by omega)).setCell (p := ⟨bx, 0, none⟩) (fun _ => .inl rfl) _).setCell (p := ⟨bt, 0, none⟩) (fun _ => .inr (.inl rfl)) _).setCell (p := ⟨bz, 0, none⟩) (fun _ => .inr (.inr rfl)) _
  have hdr : (G.drop (k + s.length)).drop j = G.drop (k + s.length + j) := by rw [List.drop_drop]
  rw [hdr] at hI5
  go_upto_region 2 with fail
  generalize (((w3.setCell ⟨bx, 0, none⟩ (.int .u64 ((be (G.take k) : Nat) : Int))).setCell ⟨bt, 0, none⟩ (.string (S ((G.drop k).take s.length)))).setCell ⟨bz, 0, none⟩ (.int .u64 ((be ((G.drop (k + s.length)).take j) : Nat) : Int))) = w5 at *
  have HX5 := hid hw5
  have HI5 := hid hI5
  have HF5 := hid hF5
  have hl' : (G.drop (k + s.length + j)).length ≤ 100000000 := by rw [List.length_drop]; have := Hl.out; omega
  have Hl' := hid hl'
  clear hw5 hI5 hF5 hS hx5 hl' HI3 HA3 HA2 HA1 HA0
  go_wp2_with fail
  (with_reducible refine (in_zero_some w.heap.size _ w5 HI5.out Hl'.out Hz.out).mono ?_)
  rintro e w6 ⟨rfl, hI6, hF6⟩
  have hX6 : Box3 w6 bx bt bz (be (G.take k)) (be ((G.drop (k + s.length)).take j)) ((G.drop k).take s.length) := ⟨hF6.heap HX5.out.1 (by omega), hF6.heap HX5.out.2.1 (by omega), hF6.heap HX5.out.2.2 (by omega)⟩
  have HX6 := hid hX6
  have HF6 := hid hF6
  have HI6 := hid hI6
  clear hX6 hF6 hI6
  go_wp2_with fail
  (with_reducible refine (in_done_some w.heap.size w6 HI6.out).mono ?_)
  rintro e w7 ⟨rfl, hw7⟩
  subst hw7
  go_wp2_with fail
  go_end0
  exact ⟨rfl, HX6.out, HF5.out.trans HF6.out (fun i hi e => by omega)⟩
theorem guard_pp2 (bg bm bs bn bx bt bz : Nat) (G s : List UInt8) (m n : Int) (k j : Nat) (w : World) (hg : w.heap[bg]? = some (.cells #[.string (S G)] 9 (0, 0))) (hm : w.heap[bm]? = some (.cells #[.int .i64 m] 3 (0, 0))) (hs : w.heap[bs]? = some (.cells #[.string (S s)] 9 (0, 0))) (hn : w.heap[bn]? = some (.cells #[.int .i64 n] 3 (0, 0)))
    (hx : Box3 w bx bt bz 0 0 []) (hne : bx ≠ bt ∧ bx ≠ bz ∧ bt ≠ bz) (hst : bt ≠ bs) (hk : min (max m 1) 8 = (k : Int)) (hj : min (max n 1) 8 = (j : Int)) (hG : k + s.length + j ≤ G.length) (hl : G.length ≤ 100000000) (hz : ∀ c ∈ G.drop (k + s.length + j), c = 0) :
    Calls Tryd.prog 19 #[.func (.func 34) #[] #[.pointer (some ⟨bg, 0, none⟩), .pointer (some ⟨bm, 0, none⟩), .pointer (some ⟨bs, 0, none⟩), .pointer (some ⟨bn, 0, none⟩), .pointer (some ⟨bx, 0, none⟩), .pointer (some ⟨bt, 0, none⟩), .pointer (some ⟨bz, 0, none⟩)]] w fun e w3 =>
      e = .returned (.int .i64 0) ∧ Box3 w3 bx bt bz (be (G.take k)) (be ((G.drop (k + s.length)).take j)) ((G.drop k).take s.length) ∧ Fr (fun i => i = bx ∨ i = bt ∨ i = bz) w w3 := by
  have l1 := lt_of_block hx.1
  have l2 := lt_of_block hx.2.1
  have l3 := lt_of_block hx.2.2
  refine (guard_fr _ _ w 0 (fun i => i = bx ∨ i = bt ∨ i = bz) (fun w' => Box3 w' bx bt bz (be (G.take k)) (be ((G.drop (k + s.length)).take j)) ((G.drop k).take s.length)) (enters_pp2 _ _ _ _ _ _ _) (by omega) (fun w1 w2 hs hp hF => ⟨hF.heap hp.1 (by omega), hF.heap hp.2.1 (by omega), hF.heap hp.2.2 (by omega)⟩) ?_).mono fun e w3 ⟨h1, h2, h3⟩ => ⟨h1, h3, h2⟩
  refine (pp2_any bg bm bs bn bx bt bz G s m n k j _ (heap_old hg _) (heap_old hm _) (heap_old hs _) (heap_old hn _) ⟨heap_old hx.1 _, heap_old hx.2.1 _, heap_old hx.2.2 _⟩ hne hst hk hj hG hl hz).mono ?_
  rintro e w' ⟨rfl, h1, h2⟩
  exact ⟨h2, h1, .inl ⟨_, rfl, rfl⟩⟩
end Go.Proofs.YtkmbbgnbklklcaaDoor
