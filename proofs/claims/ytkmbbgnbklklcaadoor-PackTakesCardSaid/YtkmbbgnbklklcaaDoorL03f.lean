/-
  Law 03's PackTakes: its closure.
-/
import Derived.Test.YtkmbbgnbklklcaaDoorRef3g
import Derived.Test.YtkmbbgnbklklcaaDoorArgsT
import Derived.Test.YtkmbbgnbklklcaaDoorL03d
namespace Go.Proofs.YtkmbbgnbklklcaaDoor
open Go.RowKit Go.Deep

/-- A step: what the document's takes answers, how the program's In ends. -/
structure StepAll (kind n : Int) (m most : Nat) (s ys : List UInt8) (ye : Int) (N : Nat) (t : List UInt8) : Prop where
  takes : Takes kind n most s ys ye N t
  len : ys.length ≤ s.length
  pos : 0 ≤ ye
  text : m % 5 = 0 → ∀ b w, InAt w b s → Calls Tryd.prog 22 #[.pointer (some ⟨b, 0, none⟩), .int .i64 n] w (Ends ye (.string (S t)) b ys w)
  num : m % 5 = 1 → ∀ b w, InAt w b s → Calls Tryd.prog 23 #[.pointer (some ⟨b, 0, none⟩), .int .i64 n] w (Ends ye (.int .u64 (N : Int)) b ys w)
  small : m % 5 = 2 → N ≤ 4611686018427387904 ∧ ∀ b w, InAt w b s → Calls Tryd.prog 24 #[.pointer (some ⟨b, 0, none⟩), .int .i64 n, .int .u64 (most : Int)] w (Ends ye (.int .i64 (N : Int)) b ys w)
  zero : m % 5 = 3 → ∀ b w, InAt w b s → Calls Tryd.prog 25 #[.pointer (some ⟨b, 0, none⟩)] w (Ends ye (.tuple #[]) b ys w)
  done : m % 5 = 4 → ∀ b w, InAt w b s → Calls Tryd.prog 26 #[.pointer (some ⟨b, 0, none⟩)] w (Ends ye (.tuple #[]) b ys w)
theorem step_all (s : List UInt8) (kind n : Int) (most m : Nat) (hm : bits .and .i64 kind 255 = (m : Int)) (hl : s.length ≤ 1000000) : ∃ ys ye N t, StepAll kind n m most s ys ye N t := by
  have h5 : m % 5 = 0 ∨ m % 5 = 1 ∨ m % 5 = 2 ∨ m % 5 = 3 ∨ m % 5 = 4 := by omega
  rcases h5 with h | h | h | h | h
  · obtain ⟨ys, ye, t, h1, h2, h3, h4⟩ := step_text s kind n most m hm h
    exact ⟨ys, ye, 0, t, h1, h2, h3, fun _ => h4, fun g => by omega, fun g => by omega, fun g => by omega, fun g => by omega⟩
  · obtain ⟨ys, ye, N, h1, h2, h3, h4⟩ := step_num s kind n most m hm h
    exact ⟨ys, ye, N, [], h1, h2, h3, fun g => by omega, fun _ => h4, fun g => by omega, fun g => by omega, fun g => by omega⟩
  · obtain ⟨ys, ye, N, h0, h1, h2, h3, h4⟩ := step_small s kind n most m hm h
    exact ⟨ys, ye, N, [], h1, h2, h3, fun g => by omega, fun g => by omega, fun _ => ⟨h0, h4⟩, fun g => by omega, fun g => by omega⟩
  · obtain ⟨ys, ye, h1, h2, h3, h4⟩ := step_zero s kind n most m hm h hl
    exact ⟨ys, ye, 0, [], h1, h2, h3, fun g => by omega, fun g => by omega, fun g => by omega, fun _ => h4, fun g => by omega⟩
  · obtain ⟨ys, ye, h1, h2, h3, h4⟩ := step_done s kind n most m hm h
    exact ⟨ys, ye, 0, [], h1, h2, h3, fun g => by omega, fun g => by omega, fun g => by omega, fun g => by omega, fun _ => h4⟩

def tfoot (bx b bf bd k : Nat) : Prop := k = bx ∨ k = b ∨ k = bf ∨ k = bd
/-- The closure's boxes: the document's In is (s, e), the program's u; q things are done. -/
structure TkAt (w0 w : World) (bl bx bi b bf bd : Nat) (a : Option Addr) (len cap : Nat) (s : List UInt8) (e : Int) (u : List UInt8) (q : Nat) : Prop where
  hl : w.heap[bl]? = some (.cells #[.slice a len cap] 22 (0, 0))
  hx : w.heap[bx]? = some (.cells #[.string (S s), .int .i64 e] 28 (0, 0))
  hi : w.heap[bi]? = some (.cells #[.pointer (some ⟨b, 0, none⟩)] 25 (0, 0))
  hI : InAt w b u
  hf : w.heap[bf]? = some (.cells #[.bool true] 4 (0, 0))
  hd : w.heap[bd]? = some (.cells #[.int .i64 (q : Int)] 3 (0, 0))
  hF : Fr (tfoot bx b bf bd) w0 w
section
variable {w0 w w' : World} {bl bx bi b bf bd : Nat} {a : Option Addr} {len cap : Nat} {s : List UInt8} {e : Int} {u : List UInt8} {q : Nat}
theorem TkAt.drew (h : TkAt w0 w bl bx bi b bf bd a len cap s e u q) : TkAt w0 w.drew bl bx bi b bf bd a len cap s e u q := ⟨h.hl, h.hx, h.hi, h.hI, h.hf, h.hd, h.hF.drew⟩
theorem TkAt.below (h : TkAt w0 w bl bx bi b bf bd a len cap s e u q) (hB : Below w.heap.size w w') : TkAt w0 w' bl bx bi b bf bd a len cap s e u q :=
  ⟨(hB.block _ (lt_of_block h.hl)).trans h.hl, (hB.block _ (lt_of_block h.hx)).trans h.hx, (hB.block _ (lt_of_block h.hi)).trans h.hi, (hB.block _ (lt_of_block h.hI)).trans h.hI, (hB.block _ (lt_of_block h.hf)).trans h.hf, (hB.block _ (lt_of_block h.hd)).trans h.hd, h.hF.trans (Fr.ofBelow hB (fun _ => False)) (fun _ _ h => h.elim)⟩
/-- The boxes are others, one from the other. -/
theorem TkAt.ne (h : TkAt w0 w bl bx bi b bf bd a len cap s e u q) : (bl ≠ bx ∧ bl ≠ b ∧ bl ≠ bf ∧ bl ≠ bd) ∧ (bi ≠ bx ∧ bi ≠ b ∧ bi ≠ bf ∧ bi ≠ bd) ∧ (bx ≠ b ∧ bx ≠ bf ∧ bx ≠ bd) ∧ (b ≠ bf ∧ b ≠ bd) ∧ bf ≠ bd :=
  ⟨⟨tneq h.hl h.hx (by decide), tneq h.hl h.hI (by decide), tneq h.hl h.hf (by decide), tneq h.hl h.hd (by decide)⟩, ⟨tneq h.hi h.hx (by decide), tneq h.hi h.hI (by decide), tneq h.hi h.hf (by decide), tneq h.hi h.hd (by decide)⟩,
    ⟨tneq h.hx h.hI (by decide), tneq h.hx h.hf (by decide), tneq h.hx h.hd (by decide)⟩, ⟨tneq h.hI h.hf (by decide), tneq h.hI h.hd (by decide)⟩, tneq h.hf h.hd (by decide)⟩
theorem TkAt.lt (h : TkAt w0 w bl bx bi b bf bd a len cap s e u q) : bl < w.heap.size ∧ bx < w.heap.size ∧ bi < w.heap.size ∧ b < w.heap.size ∧ bf < w.heap.size ∧ bd < w.heap.size :=
  ⟨lt_of_block h.hl, lt_of_block h.hx, lt_of_block h.hi, lt_of_block h.hI, lt_of_block h.hf, lt_of_block h.hd⟩
/-- The document's In is another one. -/
theorem TkAt.setx (h : TkAt w0 w bl bx bi b bf bd a len cap s e u q) (s' : List UInt8) (e' : Int) : TkAt w0 ((w.setCell ⟨bx, 0, none⟩ (.string (S s'))).setCell ⟨bx, 1, none⟩ (.int .i64 e')) bl bx bi b bf bd a len cap s' e' u q := by
  have hF : Fr (fun k => k = bx) w ((w.setCell ⟨bx, 0, none⟩ (.string (S s'))).setCell ⟨bx, 1, none⟩ (.int .i64 e')) := Fr.setCell (S := fun k => k = bx) (p := ⟨bx, 1, none⟩) (Fr.setCell (S := fun k => k = bx) (p := ⟨bx, 0, none⟩) (Fr.refl _ w) (fun _ => rfl) _) (fun _ => rfl) _
  obtain ⟨⟨n1, n2, n3, n4⟩, ⟨n5, n6, n7, n8⟩, ⟨n9, n10, n11⟩, _, _⟩ := h.ne
  exact ⟨hF.heap h.hl n1, heap_set_same (i := 1) (heap_set_same (i := 0) h.hx _) _, hF.heap h.hi n5, h.hI.fr hF (Ne.symm n9), hF.heap h.hf (Ne.symm n10), hF.heap h.hd (Ne.symm n11), h.hF.trans hF (fun _ _ e => .inl e)⟩
/-- The program's In is another one. -/
theorem TkAt.seti (h : TkAt w0 w bl bx bi b bf bd a len cap s e u q) {u' : List UInt8} (hI : InAt w' b u') (hF : Fr (fun k => k = b) w w') : TkAt w0 w' bl bx bi b bf bd a len cap s e u' q := by
  obtain ⟨⟨n1, n2, n3, n4⟩, ⟨n5, n6, n7, n8⟩, ⟨n9, n10, n11⟩, ⟨n12, n13⟩, _⟩ := h.ne
  exact ⟨hF.heap h.hl n2, hF.heap h.hx n9, hF.heap h.hi n6, hI, hF.heap h.hf (Ne.symm n12), hF.heap h.hd (Ne.symm n13), h.hF.trans hF (fun _ _ e => .inr (.inl e))⟩
theorem TkAt.setf (h : TkAt w0 w bl bx bi b bf bd a len cap s e u q) : TkAt w0 (w.setCell ⟨bf, 0, none⟩ (.bool true)) bl bx bi b bf bd a len cap s e u q := by
  have hF : Fr (fun k => k = bf) w (w.setCell ⟨bf, 0, none⟩ (.bool true)) := Fr.setCell (S := fun k => k = bf) (p := ⟨bf, 0, none⟩) (Fr.refl _ w) (fun _ => rfl) _
  obtain ⟨⟨n1, n2, n3, n4⟩, ⟨n5, n6, n7, n8⟩, ⟨n9, n10, n11⟩, ⟨n12, n13⟩, n14⟩ := h.ne
  exact ⟨hF.heap h.hl n3, hF.heap h.hx n10, hF.heap h.hi n7, h.hI.fr hF n12, heap_set_same (i := 0) h.hf _, hF.heap h.hd (Ne.symm n14), h.hF.trans hF (fun _ _ e => .inr (.inr (.inl e)))⟩
theorem TkAt.setd (h : TkAt w0 w bl bx bi b bf bd a len cap s e u q) (q' : Nat) : TkAt w0 (w.setCell ⟨bd, 0, none⟩ (.int .i64 (q' : Int))) bl bx bi b bf bd a len cap s e u q' := by
  have hF : Fr (fun k => k = bd) w (w.setCell ⟨bd, 0, none⟩ (.int .i64 (q' : Int))) := Fr.setCell (S := fun k => k = bd) (p := ⟨bd, 0, none⟩) (Fr.refl _ w) (fun _ => rfl) _
  obtain ⟨⟨n1, n2, n3, n4⟩, ⟨n5, n6, n7, n8⟩, ⟨n9, n10, n11⟩, ⟨n12, n13⟩, n14⟩ := h.ne
  exact ⟨hF.heap h.hl n4, hF.heap h.hx n11, hF.heap h.hi n8, h.hI.fr hF n13, hF.heap h.hf n14, heap_set_same (i := 0) h.hd _, h.hF.trans hF (fun _ _ e => .inr (.inr (.inr e)))⟩
end
/-- How the closure ends. -/
def TkEnd (w0 : World) (bl bx bi b bf bd : Nat) (a : Option Addr) (len cap : Nat) (e : Ending) (w' : World) : Prop :=
  ∃ s' e' q', TkAt w0 w' bl bx bi b bf bd a len cap s' e' s' q' ∧ ((e' = 0 ∧ q' = min len 15 ∧ e = .returned (.tuple #[])) ∨ (0 < e' ∧ e = .panicked (fault e')))
theorem Takes3.at {w w' : World} {a : Option Addr} {len cap : Nat} {E : Nat → Take3} (h : Takes3 w a len cap E) (hB : Below w.heap.size w w') {i : Nat} (hi : i < len) : ∃ ad, a = some ad ∧ w'.cell? (ad.add (i * 3)) = some (.int .i64 (E i).kind) ∧ w'.cell? ⟨(ad.add (i * 3)).block, (ad.add (i * 3)).off + 1, none⟩ = some (.int .i64 (E i).n) ∧
    w'.cell? ⟨(ad.add (i * 3)).block, (ad.add (i * 3)).off + 2, none⟩ = some (.int .u64 ((E i).most : Int)) ∧ (ad.add (i * 3)).block < w.heap.size := by
  obtain ⟨ad, h1, h2⟩ := h.reads (by omega)
  obtain ⟨j0, j1, j2⟩ := h2 i hi
  have hb := World.block_lt_of_cell? w _ j0
  exact ⟨ad, h1, (hB.cell (p := ad.add (i * 3)) hb).trans j0, (hB.cell (p := ⟨(ad.add (i * 3)).block, (ad.add (i * 3)).off + 1, none⟩) hb).trans j1, (hB.cell (p := ⟨(ad.add (i * 3)).block, (ad.add (i * 3)).off + 2, none⟩) hb).trans j2, hb⟩
structure Shut3 (p : Prop) : Prop where
  out : p
theorem shared3 {P : Prop} (G : Prop) (f : Shut3 G → P) (h : G) : P := f ⟨h⟩
/-- Behind takes: its In lies at Y. -/
structure TkMid (w0 w : World) (bl bx bi b bf bd : Nat) (a : Option Addr) (len cap : Nat) (s : List UInt8) (q Y : Nat) (ys : List UInt8) (ye : Int) : Prop where
  hA : TkAt w0 w bl bx bi b bf bd a len cap s 0 s q
  hY : w.heap[Y]? = some (.cells #[.string (S ys), .int .i64 ye] 28 (0, 0))
section
variable {w0 w w1 : World} {bl bx bi b bf bd : Nat} {a : Option Addr} {len cap : Nat} {s : List UInt8} {q : Nat} {ys : List UInt8} {ye : Int}
theorem TkAt.midA (h : TkAt w0 w bl bx bi b bf bd a len cap s 0 s q) (hB : Below w.drew.heap.size w.drew w1) : TkMid w0 (w1.alloc (.cells #[.string (S ys), .int .i64 ye] 28)) bl bx bi b bf bd a len cap s q w1.heap.size ys ye :=
  ⟨(h.drew.below hB).below ((Below.refl _ _).alloc (Nat.le_refl _) _), heap_new _ _⟩
theorem TkAt.midB {z : Obj} (h : TkAt w0 w bl bx bi b bf bd a len cap s 0 s q) (hB : Below (w.alloc z).drew.heap.size (w.alloc z).drew w1) {x y : Value} (hz : z = .cells #[x, y] 28 (0, 0)) :
    TkMid w0 ((w1.setCell ⟨w.heap.size, 0, none⟩ (.string (S ys))).setCell ⟨w.heap.size, 1, none⟩ (.int .i64 ye)) bl bx bi b bf bd a len cap s q w.heap.size ys ye := by
  have h0 : (w.alloc z).drew.heap.size = w.heap.size + 1 := by simp
  have h1 : Below w.heap.size w w1 := ((Below.refl w.heap.size w).alloc (Nat.le_refl _) z).trans (Below.mono (show Below (w.heap.size + 1) (w.alloc z) w1 from by rw [h0] at hB; exact ⟨hB.os, hB.tape, hB.output, hB.size, hB.block⟩) (by omega))
  have h2 : w1.heap[w.heap.size]? = some z := (hB.block _ (by omega)).trans (heap_new w z)
  rw [hz] at h2
  exact ⟨h.below ((h1.setCell (p := ⟨w.heap.size, 0, none⟩) (Nat.le_refl _) _).setCell (p := ⟨w.heap.size, 1, none⟩) (Nat.le_refl _) _), heap_set_same (i := 1) (heap_set_same (i := 0) h2 _) _⟩
theorem TkAt.ok {w' : World} {u : List UInt8} {ret : Value} {e : Ending} (h : TkAt w0 w bl bx bi b bf bd a len cap ys ye u q) (hE : Ends ye ret b ys w e w') (h0 : ye = 0) : e = .returned ret ∧ TkAt w0 w' bl bx bi b bf bd a len cap ys ye ys q :=
  ⟨by rcases hE.1 with h1 | h1; exact h1.2; exact absurd h0 h1.1, h.seti hE.2.1 hE.2.2⟩
theorem TkAt.bad {w' : World} {u : List UInt8} {ret : Value} {e : Ending} (h : TkAt w0 w bl bx bi b bf bd a len cap ys ye u q) (hE : Ends ye ret b ys w e w') (h0 : ye ≠ 0) : e = .panicked (fault ye) ∧ TkAt w0 w' bl bx bi b bf bd a len cap ys ye ys q :=
  ⟨by rcases hE.1 with h1 | h1; exact absurd h1.1 h0; exact h1.2, h.seti hE.2.1 hE.2.2⟩
end

set_option linter.unusedSimpArgs false
set_option maxRecDepth 100000 in
set_option maxHeartbeats 4000000 in
theorem pt1_any (W w0 : World) (bl bx bi b bf bd : Nat) (a : Option Addr) (len cap : Nat) (E : Nat → Take3) (s : List UInt8) (hT : Takes3 W a len cap E) (hA : TkAt w0 w0 bl bx bi b bf bd a len cap s 0 s 0) (hB : Below W.heap.size W w0)
    (hlo : W.heap.size ≤ bx ∧ W.heap.size ≤ b ∧ W.heap.size ≤ bf ∧ W.heap.size ≤ bd) (hs : s.length ≤ 1000000) :
    Calls Tryd.prog 20 #[.pointer (some ⟨bl, 0, none⟩), .pointer (some ⟨bx, 0, none⟩), .pointer (some ⟨bi, 0, none⟩), .pointer (some ⟨bf, 0, none⟩), .pointer (some ⟨bd, 0, none⟩)] w0 (TkEnd w0 bl bx bi b bf bd a len cap) := by
  have hbel : ∀ w' s e u q, TkAt w0 w' bl bx bi b bf bd a len cap s e u q → Below W.heap.size W w' := fun w' s e u q h => hB.trans (h.hF.below hB.size (fun k hk hx => by unfold tfoot at hx; omega))
  have HT := hid hT
  have HA := hid hA
  have HBel := hid hbel
  have hlm := hT.max
  simp only [maxLen] at hlm
  clear hT hA hbel hB
  go_enter Tryd.func20, Tryd.ntmps20
  go_wp2_with fail
  go_loopw [5] (fun i wr => ∃ (q : Nat) (s : List UInt8), q ≤ 15 ∧ q ≤ len ∧ i = .int .i64 q ∧ s.length ≤ 1000000 ∧ TkAt w0 wr bl bx bi b bf bd a len cap s 0 s q) (fun i _ => (15 - intOf i).toNat)
  case atStart => exact ⟨0, s, by omega, by omega, rfl, hs, HA.out⟩
  case round =>
    clear HA hs
    obtain ⟨q, s, hq, hql0, rfl, hs, hP⟩ := hrel
    have HP := hid hP
    clear hP
    have kl := cell_of_one HP.out.hl
    by_cases hql : q < len ∧ q < 15
    · have d1 : decide ((q : Int) < len) = true := by simp; omega
      have d2 : decide ((q : Int) < 15) = true := by simp; omega
      go_upto_region 3 with fail
      obtain ⟨ad, hadr, j0, j1, j2, hbl⟩ := HT.out.at (HBel.out _ _ _ _ _ HP.out) hql.1
      subst hadr
      obtain ⟨m, hm9, hm⟩ := and255 (E q).kind
      obtain ⟨ys, ye, N, t, hS⟩ := step_all s (E q).kind (E q).n (E q).most m hm hs
      have HJ := hid hbl
      have HTk := hid hS.takes
      have HS := hid hS
      have Hm := hid hm
      have x0 := cell_of_block HP.out.hx 0
      have x1 := cell_of_block HP.out.hx 1
      simp only [List.getElem?_toArray, List.getElem?_cons_zero, List.getElem?_cons_succ] at x0 x1
      have hbw := World.block_lt_of_cell? wr _ j0
      have ja0 := (World.cell?_alloc_lt wr (.cells #[.string ⟨#[]⟩, .int .i64 0] 28) (ad.add (q * 3)) hbw).trans j0
      have ja1 := (World.cell?_alloc_lt wr (.cells #[.string ⟨#[]⟩, .int .i64 0] 28) ⟨(ad.add (q * 3)).block, (ad.add (q * 3)).off + 1, none⟩ hbw).trans j1
      have ja2 := (World.cell?_alloc_lt wr (.cells #[.string ⟨#[]⟩, .int .i64 0] 28) ⟨(ad.add (q * 3)).block, (ad.add (q * 3)).off + 2, none⟩ hbw).trans j2
      have hlw := lt_of_block HP.out.hl
      have hxw := lt_of_block HP.out.hx
      clear hS hm
      apply shared3
      · intro key
        go_region_law (first
          | (go_simp; go_at_call 21; (with_reducible refine (HTk.out wr.drew).mono ?_); rintro r w1 ⟨rfl, hB1⟩; have hP1 := HP.out.drew.below hB1; have HB1 := hid hB1; have HP1 := hid hP1; clear hB1 hP1)
          | (go_simp; go_at_call 21; (with_reducible refine (HTk.out (wr.alloc (.cells #[.string ⟨#[]⟩, .int .i64 0] 28)).drew).mono ?_); rintro r w1 ⟨rfl, hB1⟩; have hN1 := (hB1.block wr.heap.size (by simp)).trans (heap_new wr (.cells #[.string ⟨#[]⟩, .int .i64 0] 28)); have n0 := cell_of_block hN1 0; have n1 := cell_of_block hN1 1; simp only [List.getElem?_toArray, List.getElem?_cons_zero, List.getElem?_cons_succ] at n0 n1; have nf0 := free_of_block hN1 0; have nf1 := free_of_block hN1 1; have HB1 := hid hB1; clear hB1 hN1))
        all_goals
          try go_simp
          first
            | (have hTT := HP.out.midA (ys := ys) (ye := ye) HB1.out; generalize w1.alloc (.cells #[.string (S ys), .int .i64 ye] 28) = w6 at hTT ⊢; generalize w1.heap.size = Y at hTT ⊢; clear HP1 HB1; revert hTT; revert w6 Y; exact key.out)
            | (have hTT := HP.out.midB (ys := ys) (ye := ye) HB1.out rfl; generalize (w1.setCell ⟨wr.heap.size, 0, none⟩ (.string (S ys))).setCell ⟨wr.heap.size, 1, none⟩ (.int .i64 ye) = w6 at hTT ⊢; generalize wr.heap.size = Y at hTT ⊢; clear n0 n1 nf0 nf1 HB1; revert hTT; revert w6 Y; exact key.out)
      · intro w6 Y hM
        clear ja0 ja1 ja2 hbw hlw hxw x0 x1 j0 j1 j2 kl HP HTk
        have HM := hid hM
        have HA := hid hM.hA
        have y0 := cell_of_block hM.hY 0
        have y1 := cell_of_block hM.hY 1
        have x0 := cell_of_block hM.hA.hx 0
        have x1 := cell_of_block hM.hA.hx 1
        have xf0 := free_of_block hM.hA.hx 0
        have xf1 := free_of_block hM.hA.hx 1
        simp only [List.getElem?_toArray, List.getElem?_cons_zero, List.getElem?_cons_succ] at y0 y1 x0 x1
        clear hM
        go_upto_region 5 with fail
        have hA7 := HA.out.setx ys ye
        generalize (w6.setCell ⟨bx, 0, none⟩ (.string (S ys))).setCell ⟨bx, 1, none⟩ (.int .i64 ye) = w7 at hA7 ⊢
        clear y0 y1 x0 x1 xf0 xf1 HM HA
        have kl := cell_of_one hA7.hl
        have ki := cell_of_one hA7.hi
        obtain ⟨ad', hadr', j0, j1, j2, hbl⟩ := HT.out.at (HBel.out _ _ _ _ _ hA7) hql.1
        injection hadr' with hadr'
        subst hadr'
        have hm := Hm.out
        have HA := hid hA7
        clear hA7
        have h5 : m % 5 = 0 ∨ m % 5 = 1 ∨ m % 5 = 2 ∨ m % 5 = 3 ∨ m % 5 = 4 := by omega
        rcases h5 with h5 | h5 | h5 | h5 | h5
        · have e5 : (m : Int) % 5 = 0 := by omega
          go_upto_region 8 with fail
          by_cases hye : ye = 0
          · have hc := ((HS.out.text h5) b w7.drew HA.out.drew.hI).mono (fun e w' h => HA.out.drew.ok h hye)
            have Hc := hid hc
            have est : ((S t).toList == (S t).toList) = true := by simp
            skip
            skip
            clear hc
            subst hye
            apply shared3
            · intro key
              go_region_law (first
                | (go_simp; go_at_call 22; (with_reducible refine Hc.out.mono ?_); rintro e w8 ⟨rfl, hA8⟩; have kf := cell_of_one hA8.hf; have kff := free_of_one hA8.hf; have HA8 := hid hA8; clear hA8))
              all_goals
                try go_simp
                have hA9 := HA8.out.setf
                generalize w8.setCell ⟨bf, 0, none⟩ (.bool true) = w9 at hA9 ⊢
                clear kf kff HA8
                revert hA9
                revert w9
                exact key.out
            · intro w9 hA9
              clear j0 j1 j2 kl ki HA Hc
              have kd := cell_of_one hA9.hd
              have kdf := free_of_one hA9.hd
              have HA9 := hid hA9
              clear hA9
              go_upto_region 16 with fail
              have hA10 := HA9.out.setd (q + 1)
              have ea : ((q : Int) + 1) = ((q + 1 : Nat) : Int) := by omega
              rw [← ea] at hA10
              clear ea
              try change Code.wp _ _ _ _ (w9.setCell ⟨bd, 0, none⟩ (.int .i64 ((q : Int) + 1)))
              generalize w9.setCell ⟨bd, 0, none⟩ (.int .i64 ((q : Int) + 1)) = w10 at hA10 ⊢
              clear kd kdf HA9
              have kf := cell_of_one hA10.hf
              have kff := free_of_one hA10.hf
              have ki := cell_of_one hA10.hi
              have x0 := cell_of_block hA10.hx 0
              have x1 := cell_of_block hA10.hx 1
              simp only [List.getElem?_toArray, List.getElem?_cons_zero, List.getElem?_cons_succ] at x0 x1
              have hss := S_size ys
              have HA10 := hid hA10
              clear hA10
              refine wp_region_held_drew (S := fun w' => w'.cell? ⟨bi, 0, none⟩ = some (.pointer (some ⟨b, 0, none⟩)) ∧ w'.cell? ⟨bx, 0, none⟩ = some (.string (S ys)) ∧ w'.cell? ⟨bx, 1, none⟩ = some (.int .i64 0)) (by kernel_rfl) ⟨ki, x0, x1⟩ (fun hHeld => ?_)
              refine wpAnyH_ready (rs := [0]) (by kernel_rfl) (by simp) ?_
              refine AllReadyH.cons (o := _) rfl (fun K hK => ?_) AllReadyH.nil
              go_simp
              try dsimp only
              refine hK.out _ _ ?_ (fun hHeld => ?_)
              · exact ⟨ki, x0, x1⟩
              clear hK K
              try simp only [Act.put, List.setIfInBounds_toArray, List.set_cons_zero, List.set_cons_succ, List.getElem_toArray, List.getElem_cons_zero, List.getElem_cons_succ]
              refine wpAnyH_take (i := 1) (oi := _) (v := ?_) rfl (by kernel_rfl) (by kernel_rfl) (by kernel_rfl) (fun _ _ _ h => h) (Or.inl ⟨by rfl, ?_⟩) (by assumption) ?_
              rotate_left
              · intro w hSw
                try dsimp only at hSw
                go_simp
                try with_reducible rfl
              try simp only [Act.put, List.setIfInBounds_toArray, List.set_cons_zero, List.set_cons_succ, List.getElem_toArray, List.getElem_cons_zero, List.getElem_cons_succ]
              refine wpAnyH_take (i := 2) (oi := _) (v := ?_) rfl (by kernel_rfl) (by kernel_rfl) (by kernel_rfl) (fun _ _ _ h => h) (Or.inl ⟨by rfl, ?_⟩) (by assumption) ?_
              rotate_left
              · intro w hSw
                try dsimp only at hSw
                go_simp
                try with_reducible rfl
              try simp only [Act.put, List.setIfInBounds_toArray, List.set_cons_zero, List.set_cons_succ, List.getElem_toArray, List.getElem_cons_zero, List.getElem_cons_succ]
              refine wpAnyH_take (i := 3) (oi := _) (v := ?_) rfl (by kernel_rfl) (by kernel_rfl) (by kernel_rfl) (fun _ _ _ h => h) (Or.inl ⟨by rfl, ?_⟩) (by assumption) ?_
              rotate_left
              · intro w hSw
                try dsimp only at hSw
                go_simp
                try with_reducible rfl
              try simp only [Act.put, List.setIfInBounds_toArray, List.set_cons_zero, List.set_cons_succ, List.getElem_toArray, List.getElem_cons_zero, List.getElem_cons_succ]
              refine wpAnyH_take (i := 4) (oi := _) (v := ?_) rfl (by kernel_rfl) (by kernel_rfl) (by kernel_rfl) (fun _ _ _ h => h) (Or.inl ⟨by rfl, ?_⟩) (by assumption) ?_
              rotate_left
              · intro w hSw
                try dsimp only at hSw
                go_simp
                try with_reducible rfl
              try simp only [Act.put, List.setIfInBounds_toArray, List.set_cons_zero, List.set_cons_succ, List.getElem_toArray, List.getElem_cons_zero, List.getElem_cons_succ]
              refine wpAnyH_take (i := 5) (oi := _) (v := ?_) rfl (by kernel_rfl) (by kernel_rfl) (by kernel_rfl) (fun _ _ _ h => h) (Or.inl ⟨by rfl, ?_⟩) (by assumption) ?_
              rotate_left
              · intro w hSw
                try dsimp only at hSw
                go_simp
                try with_reducible rfl
              try simp only [Act.put, List.setIfInBounds_toArray, List.set_cons_zero, List.set_cons_succ, List.getElem_toArray, List.getElem_cons_zero, List.getElem_cons_succ]
              refine wpAnyH_take (i := 6) (oi := _) (v := ?_) rfl (by kernel_rfl) (by kernel_rfl) (by kernel_rfl) (fun _ _ _ h => h) (Or.inl ⟨by rfl, ?_⟩) (by assumption) ?_
              rotate_left
              · intro w hSw
                try dsimp only at hSw
                go_simp
                try with_reducible rfl
              try simp only [Act.put, List.setIfInBounds_toArray, List.set_cons_zero, List.set_cons_succ, List.getElem_toArray, List.getElem_cons_zero, List.getElem_cons_succ]
              refine wpAnyH_take (i := 7) (oi := _) (v := ?_) rfl (by kernel_rfl) (by kernel_rfl) (by kernel_rfl) (fun _ _ _ h => h) (Or.inl ⟨by rfl, ?_⟩) (by assumption) ?_
              rotate_left
              · intro w hSw
                try dsimp only at hSw
                go_simp
                try with_reducible rfl
              try simp only [Act.put, List.setIfInBounds_toArray, List.set_cons_zero, List.set_cons_succ, List.getElem_toArray, List.getElem_cons_zero, List.getElem_cons_succ]
              refine wpAnyH_take (i := 9) (oi := _) (v := ?_) rfl (by kernel_rfl) (by kernel_rfl) (by kernel_rfl) (fun _ _ _ h => h) (Or.inl ⟨by rfl, ?_⟩) (by assumption) ?_
              rotate_left
              · intro w hSw
                try dsimp only at hSw
                go_simp
                try with_reducible rfl
              try simp only [Act.put, List.setIfInBounds_toArray, List.set_cons_zero, List.set_cons_succ, List.getElem_toArray, List.getElem_cons_zero, List.getElem_cons_succ]
              refine wpAnyH_take (i := 10) (oi := _) (v := ?_) rfl (by kernel_rfl) (by kernel_rfl) (by kernel_rfl) (fun _ _ _ h => h) (Or.inl ⟨by rfl, ?_⟩) (by assumption) ?_
              rotate_left
              · intro w hSw
                try dsimp only at hSw
                go_simp
                try with_reducible rfl
              try simp only [Act.put, List.setIfInBounds_toArray, List.set_cons_zero, List.set_cons_succ, List.getElem_toArray, List.getElem_cons_zero, List.getElem_cons_succ]
              refine wpAnyH_take (i := 11) (oi := _) (v := ?_) rfl (by kernel_rfl) (by kernel_rfl) (by kernel_rfl) (fun _ _ _ h => h) (Or.inl ⟨by rfl, ?_⟩) (by assumption) ?_
              rotate_left
              · intro w hSw
                try dsimp only at hSw
                go_simp
                try with_reducible rfl
              try simp only [Act.put, List.setIfInBounds_toArray, List.set_cons_zero, List.set_cons_succ, List.getElem_toArray, List.getElem_cons_zero, List.getElem_cons_succ]
              refine wpAnyH_ready (rs := [8]) (by kernel_rfl) (by simp) ?_
              refine AllReadyH.cons (o := _) rfl (fun K hK => ?_) AllReadyH.nil
              go_simp
              go_at_call 27
              (with_reducible refine (in_left b ys w10.drew HA10.out.drew.hI).mono ?_)
              rintro e w11 ⟨rfl, rfl⟩
              try dsimp only
              refine hK.out _ _ ?_ (fun hHeld => ?_)
              · exact ⟨ki, x0, x1⟩
              clear hK K
              try simp only [Act.put, List.setIfInBounds_toArray, List.set_cons_zero, List.set_cons_succ, List.getElem_toArray, List.getElem_cons_zero, List.getElem_cons_succ]
              refine wpAnyH_take (i := 12) (oi := _) (v := ?_) rfl (by kernel_rfl) (by kernel_rfl) (by kernel_rfl) (fun _ _ _ h => h) (Or.inl ⟨by rfl, ?_⟩) (by assumption) ?_
              rotate_left
              · intro w hSw
                try dsimp only at hSw
                go_simp
                try with_reducible rfl
              try simp only [Act.put, List.setIfInBounds_toArray, List.set_cons_zero, List.set_cons_succ, List.getElem_toArray, List.getElem_cons_zero, List.getElem_cons_succ]
              refine wpAnyH_take (i := 13) (oi := _) (v := ?_) rfl (by kernel_rfl) (by kernel_rfl) (by kernel_rfl) (fun _ _ _ h => h) (Or.inl ⟨by rfl, ?_⟩) (by assumption) ?_
              rotate_left
              · intro w hSw
                try dsimp only at hSw
                go_simp
                try with_reducible rfl
              try simp only [Act.put, List.setIfInBounds_toArray, List.set_cons_zero, List.set_cons_succ, List.getElem_toArray, List.getElem_cons_zero, List.getElem_cons_succ]
              refine wpAnyH_ready (rs := [14]) (by kernel_rfl) (by simp) ?_
              refine AllReadyH.cons (o := _) rfl (fun K hK => ?_) AllReadyH.nil
              go_simp
              try dsimp only
              refine hK.out _ _ ?_ (fun hHeld => ?_)
              · exact ⟨cellS ki (p := ⟨bf, 0, none⟩) HA10.out.ne.2.1.2.2.1.symm _, cellS x0 (p := ⟨bf, 0, none⟩) HA10.out.ne.2.2.1.2.1.symm _, cellS x1 (p := ⟨bf, 0, none⟩) HA10.out.ne.2.2.1.2.1.symm _⟩
              clear hK K
              try simp only [Act.put, List.setIfInBounds_toArray, List.set_cons_zero, List.set_cons_succ, List.getElem_toArray, List.getElem_cons_zero, List.getElem_cons_succ]
              refine wpAnyH_done (by kernel_rfl) ?_ _
              go_wp2_with fail
              exact ⟨⟨q + 1, ys, by omega, by omega, by go_num, by have := HS.out.len; omega, HA10.out.setf.drew⟩, by simp [intOf]; omega⟩
          · have hc := ((HS.out.text h5) b w7.drew HA.out.drew.hI).mono (fun e w' h => HA.out.drew.bad h hye)
            have Hc := hid hc
            clear hc
            refine wp_region_held_drew (S := fun w' => w'.cell? ⟨bl, 0, none⟩ = some (.slice (some ad) len cap) ∧ w'.cell? ⟨bi, 0, none⟩ = some (.pointer (some ⟨b, 0, none⟩)) ∧ w'.cell? ⟨(ad.add (q * 3)).block, (ad.add (q * 3)).off + 1, none⟩ = some (.int .i64 (E q).n) ∧ w'.cell? ⟨(ad.add (q * 3)).block, (ad.add (q * 3)).off + 2, none⟩ = some (.int .u64 ((E q).most : Int))) (by kernel_rfl) ⟨kl, ki, j1, j2⟩ (fun hHeld => ?_)
            refine wpAnyH_take (i := 0) (oi := _) (v := ?_) rfl (by kernel_rfl) (by kernel_rfl) (by kernel_rfl) (fun _ _ _ h => h) (Or.inl ⟨by rfl, ?_⟩) (by assumption) ?_
            rotate_left
            · intro w hSw
              try dsimp only at hSw
              go_simp
              try with_reducible rfl
            try simp only [Act.put, List.setIfInBounds_toArray, List.set_cons_zero, List.set_cons_succ, List.getElem_toArray, List.getElem_cons_zero, List.getElem_cons_succ]
            refine wpAnyH_take (i := 1) (oi := _) (v := ?_) rfl (by kernel_rfl) (by kernel_rfl) (by kernel_rfl) (fun _ _ _ h => h) (Or.inl ⟨by rfl, ?_⟩) (by assumption) ?_
            rotate_left
            · intro w hSw
              try dsimp only at hSw
              go_simp
              try with_reducible rfl
            try simp only [Act.put, List.setIfInBounds_toArray, List.set_cons_zero, List.set_cons_succ, List.getElem_toArray, List.getElem_cons_zero, List.getElem_cons_succ]
            refine wpAnyH_take (i := 2) (oi := _) (v := ?_) rfl (by kernel_rfl) (by kernel_rfl) (by kernel_rfl) (fun _ _ _ h => h) (Or.inl ⟨by rfl, ?_⟩) (by assumption) ?_
            rotate_left
            · intro w hSw
              try dsimp only at hSw
              go_simp
              try with_reducible rfl
            try simp only [Act.put, List.setIfInBounds_toArray, List.set_cons_zero, List.set_cons_succ, List.getElem_toArray, List.getElem_cons_zero, List.getElem_cons_succ]
            refine wpAnyH_take (i := 3) (oi := _) (v := ?_) rfl (by kernel_rfl) (by kernel_rfl) (by kernel_rfl) (fun _ _ _ h => h) (Or.inl ⟨by rfl, ?_⟩) (by assumption) ?_
            rotate_left
            · intro w hSw
              try dsimp only at hSw
              go_simp
              try with_reducible rfl
            try simp only [Act.put, List.setIfInBounds_toArray, List.set_cons_zero, List.set_cons_succ, List.getElem_toArray, List.getElem_cons_zero, List.getElem_cons_succ]
            refine wpAnyH_take (i := 4) (oi := _) (v := ?_) rfl (by kernel_rfl) (by kernel_rfl) (by kernel_rfl) (fun _ _ _ h => h) (Or.inl ⟨by rfl, ?_⟩) (by assumption) ?_
            rotate_left
            · intro w hSw
              try dsimp only at hSw
              go_simp
              try with_reducible rfl
            try simp only [Act.put, List.setIfInBounds_toArray, List.set_cons_zero, List.set_cons_succ, List.getElem_toArray, List.getElem_cons_zero, List.getElem_cons_succ]
            refine wpAnyH_take (i := 5) (oi := _) (v := ?_) rfl (by kernel_rfl) (by kernel_rfl) (by kernel_rfl) (fun _ _ _ h => h) (Or.inl ⟨by rfl, ?_⟩) (by assumption) ?_
            rotate_left
            · intro w hSw
              try dsimp only at hSw
              go_simp
              try with_reducible rfl
            try simp only [Act.put, List.setIfInBounds_toArray, List.set_cons_zero, List.set_cons_succ, List.getElem_toArray, List.getElem_cons_zero, List.getElem_cons_succ]
            refine wpAnyH_take (i := 7) (oi := _) (v := ?_) rfl (by kernel_rfl) (by kernel_rfl) (by kernel_rfl) (fun _ _ _ h => h) (Or.inl ⟨by rfl, ?_⟩) (by assumption) ?_
            rotate_left
            · intro w hSw
              try dsimp only at hSw
              go_simp
              try with_reducible rfl
            try simp only [Act.put, List.setIfInBounds_toArray, List.set_cons_zero, List.set_cons_succ, List.getElem_toArray, List.getElem_cons_zero, List.getElem_cons_succ]
            refine wpAnyH_ready (rs := [6]) (by kernel_rfl) (by simp) ?_
            refine AllReadyH.cons (o := _) rfl (fun K hK => ?_) AllReadyH.nil
            clear hK
            go_simp
            go_at_call 22
            (with_reducible refine Hc.out.mono ?_)
            rintro e w8 ⟨rfl, hA8⟩
            exact ⟨rfl, ys, ye, q, hA8, .inr ⟨by have := HS.out.pos; omega, rfl⟩⟩
        · have e5 : (m : Int) % 5 = 1 := by omega
          go_upto_region 10 with fail
          by_cases hye : ye = 0
          · have hc := ((HS.out.num h5) b w7.drew HA.out.drew.hI).mono (fun e w' h => HA.out.drew.ok h hye)
            have Hc := hid hc
            skip
            skip
            skip
            clear hc
            subst hye
            apply shared3
            · intro key
              go_region_law (first
                | (go_simp; go_at_call 23; (with_reducible refine Hc.out.mono ?_); rintro e w8 ⟨rfl, hA8⟩; have kf := cell_of_one hA8.hf; have kff := free_of_one hA8.hf; have HA8 := hid hA8; clear hA8))
              all_goals
                try go_simp
                have hA9 := HA8.out.setf
                generalize w8.setCell ⟨bf, 0, none⟩ (.bool true) = w9 at hA9 ⊢
                clear kf kff HA8
                revert hA9
                revert w9
                exact key.out
            · intro w9 hA9
              clear j0 j1 j2 kl ki HA Hc
              have kd := cell_of_one hA9.hd
              have kdf := free_of_one hA9.hd
              have HA9 := hid hA9
              clear hA9
              go_upto_region 16 with fail
              have hA10 := HA9.out.setd (q + 1)
              have ea : ((q : Int) + 1) = ((q + 1 : Nat) : Int) := by omega
              rw [← ea] at hA10
              clear ea
              try change Code.wp _ _ _ _ (w9.setCell ⟨bd, 0, none⟩ (.int .i64 ((q : Int) + 1)))
              generalize w9.setCell ⟨bd, 0, none⟩ (.int .i64 ((q : Int) + 1)) = w10 at hA10 ⊢
              clear kd kdf HA9
              have kf := cell_of_one hA10.hf
              have kff := free_of_one hA10.hf
              have ki := cell_of_one hA10.hi
              have x0 := cell_of_block hA10.hx 0
              have x1 := cell_of_block hA10.hx 1
              simp only [List.getElem?_toArray, List.getElem?_cons_zero, List.getElem?_cons_succ] at x0 x1
              have hss := S_size ys
              have HA10 := hid hA10
              clear hA10
              refine wp_region_held_drew (S := fun w' => w'.cell? ⟨bi, 0, none⟩ = some (.pointer (some ⟨b, 0, none⟩)) ∧ w'.cell? ⟨bx, 0, none⟩ = some (.string (S ys)) ∧ w'.cell? ⟨bx, 1, none⟩ = some (.int .i64 0)) (by kernel_rfl) ⟨ki, x0, x1⟩ (fun hHeld => ?_)
              refine wpAnyH_ready (rs := [0]) (by kernel_rfl) (by simp) ?_
              refine AllReadyH.cons (o := _) rfl (fun K hK => ?_) AllReadyH.nil
              go_simp
              try dsimp only
              refine hK.out _ _ ?_ (fun hHeld => ?_)
              · exact ⟨ki, x0, x1⟩
              clear hK K
              try simp only [Act.put, List.setIfInBounds_toArray, List.set_cons_zero, List.set_cons_succ, List.getElem_toArray, List.getElem_cons_zero, List.getElem_cons_succ]
              refine wpAnyH_take (i := 1) (oi := _) (v := ?_) rfl (by kernel_rfl) (by kernel_rfl) (by kernel_rfl) (fun _ _ _ h => h) (Or.inl ⟨by rfl, ?_⟩) (by assumption) ?_
              rotate_left
              · intro w hSw
                try dsimp only at hSw
                go_simp
                try with_reducible rfl
              try simp only [Act.put, List.setIfInBounds_toArray, List.set_cons_zero, List.set_cons_succ, List.getElem_toArray, List.getElem_cons_zero, List.getElem_cons_succ]
              refine wpAnyH_take (i := 2) (oi := _) (v := ?_) rfl (by kernel_rfl) (by kernel_rfl) (by kernel_rfl) (fun _ _ _ h => h) (Or.inl ⟨by rfl, ?_⟩) (by assumption) ?_
              rotate_left
              · intro w hSw
                try dsimp only at hSw
                go_simp
                try with_reducible rfl
              try simp only [Act.put, List.setIfInBounds_toArray, List.set_cons_zero, List.set_cons_succ, List.getElem_toArray, List.getElem_cons_zero, List.getElem_cons_succ]
              refine wpAnyH_take (i := 3) (oi := _) (v := ?_) rfl (by kernel_rfl) (by kernel_rfl) (by kernel_rfl) (fun _ _ _ h => h) (Or.inl ⟨by rfl, ?_⟩) (by assumption) ?_
              rotate_left
              · intro w hSw
                try dsimp only at hSw
                go_simp
                try with_reducible rfl
              try simp only [Act.put, List.setIfInBounds_toArray, List.set_cons_zero, List.set_cons_succ, List.getElem_toArray, List.getElem_cons_zero, List.getElem_cons_succ]
              refine wpAnyH_take (i := 4) (oi := _) (v := ?_) rfl (by kernel_rfl) (by kernel_rfl) (by kernel_rfl) (fun _ _ _ h => h) (Or.inl ⟨by rfl, ?_⟩) (by assumption) ?_
              rotate_left
              · intro w hSw
                try dsimp only at hSw
                go_simp
                try with_reducible rfl
              try simp only [Act.put, List.setIfInBounds_toArray, List.set_cons_zero, List.set_cons_succ, List.getElem_toArray, List.getElem_cons_zero, List.getElem_cons_succ]
              refine wpAnyH_take (i := 5) (oi := _) (v := ?_) rfl (by kernel_rfl) (by kernel_rfl) (by kernel_rfl) (fun _ _ _ h => h) (Or.inl ⟨by rfl, ?_⟩) (by assumption) ?_
              rotate_left
              · intro w hSw
                try dsimp only at hSw
                go_simp
                try with_reducible rfl
              try simp only [Act.put, List.setIfInBounds_toArray, List.set_cons_zero, List.set_cons_succ, List.getElem_toArray, List.getElem_cons_zero, List.getElem_cons_succ]
              refine wpAnyH_take (i := 6) (oi := _) (v := ?_) rfl (by kernel_rfl) (by kernel_rfl) (by kernel_rfl) (fun _ _ _ h => h) (Or.inl ⟨by rfl, ?_⟩) (by assumption) ?_
              rotate_left
              · intro w hSw
                try dsimp only at hSw
                go_simp
                try with_reducible rfl
              try simp only [Act.put, List.setIfInBounds_toArray, List.set_cons_zero, List.set_cons_succ, List.getElem_toArray, List.getElem_cons_zero, List.getElem_cons_succ]
              refine wpAnyH_take (i := 7) (oi := _) (v := ?_) rfl (by kernel_rfl) (by kernel_rfl) (by kernel_rfl) (fun _ _ _ h => h) (Or.inl ⟨by rfl, ?_⟩) (by assumption) ?_
              rotate_left
              · intro w hSw
                try dsimp only at hSw
                go_simp
                try with_reducible rfl
              try simp only [Act.put, List.setIfInBounds_toArray, List.set_cons_zero, List.set_cons_succ, List.getElem_toArray, List.getElem_cons_zero, List.getElem_cons_succ]
              refine wpAnyH_take (i := 9) (oi := _) (v := ?_) rfl (by kernel_rfl) (by kernel_rfl) (by kernel_rfl) (fun _ _ _ h => h) (Or.inl ⟨by rfl, ?_⟩) (by assumption) ?_
              rotate_left
              · intro w hSw
                try dsimp only at hSw
                go_simp
                try with_reducible rfl
              try simp only [Act.put, List.setIfInBounds_toArray, List.set_cons_zero, List.set_cons_succ, List.getElem_toArray, List.getElem_cons_zero, List.getElem_cons_succ]
              refine wpAnyH_take (i := 10) (oi := _) (v := ?_) rfl (by kernel_rfl) (by kernel_rfl) (by kernel_rfl) (fun _ _ _ h => h) (Or.inl ⟨by rfl, ?_⟩) (by assumption) ?_
              rotate_left
              · intro w hSw
                try dsimp only at hSw
                go_simp
                try with_reducible rfl
              try simp only [Act.put, List.setIfInBounds_toArray, List.set_cons_zero, List.set_cons_succ, List.getElem_toArray, List.getElem_cons_zero, List.getElem_cons_succ]
              refine wpAnyH_take (i := 11) (oi := _) (v := ?_) rfl (by kernel_rfl) (by kernel_rfl) (by kernel_rfl) (fun _ _ _ h => h) (Or.inl ⟨by rfl, ?_⟩) (by assumption) ?_
              rotate_left
              · intro w hSw
                try dsimp only at hSw
                go_simp
                try with_reducible rfl
              try simp only [Act.put, List.setIfInBounds_toArray, List.set_cons_zero, List.set_cons_succ, List.getElem_toArray, List.getElem_cons_zero, List.getElem_cons_succ]
              refine wpAnyH_ready (rs := [8]) (by kernel_rfl) (by simp) ?_
              refine AllReadyH.cons (o := _) rfl (fun K hK => ?_) AllReadyH.nil
              go_simp
              go_at_call 27
              (with_reducible refine (in_left b ys w10.drew HA10.out.drew.hI).mono ?_)
              rintro e w11 ⟨rfl, rfl⟩
              try dsimp only
              refine hK.out _ _ ?_ (fun hHeld => ?_)
              · exact ⟨ki, x0, x1⟩
              clear hK K
              try simp only [Act.put, List.setIfInBounds_toArray, List.set_cons_zero, List.set_cons_succ, List.getElem_toArray, List.getElem_cons_zero, List.getElem_cons_succ]
              refine wpAnyH_take (i := 12) (oi := _) (v := ?_) rfl (by kernel_rfl) (by kernel_rfl) (by kernel_rfl) (fun _ _ _ h => h) (Or.inl ⟨by rfl, ?_⟩) (by assumption) ?_
              rotate_left
              · intro w hSw
                try dsimp only at hSw
                go_simp
                try with_reducible rfl
              try simp only [Act.put, List.setIfInBounds_toArray, List.set_cons_zero, List.set_cons_succ, List.getElem_toArray, List.getElem_cons_zero, List.getElem_cons_succ]
              refine wpAnyH_take (i := 13) (oi := _) (v := ?_) rfl (by kernel_rfl) (by kernel_rfl) (by kernel_rfl) (fun _ _ _ h => h) (Or.inl ⟨by rfl, ?_⟩) (by assumption) ?_
              rotate_left
              · intro w hSw
                try dsimp only at hSw
                go_simp
                try with_reducible rfl
              try simp only [Act.put, List.setIfInBounds_toArray, List.set_cons_zero, List.set_cons_succ, List.getElem_toArray, List.getElem_cons_zero, List.getElem_cons_succ]
              refine wpAnyH_ready (rs := [14]) (by kernel_rfl) (by simp) ?_
              refine AllReadyH.cons (o := _) rfl (fun K hK => ?_) AllReadyH.nil
              go_simp
              try dsimp only
              refine hK.out _ _ ?_ (fun hHeld => ?_)
              · exact ⟨cellS ki (p := ⟨bf, 0, none⟩) HA10.out.ne.2.1.2.2.1.symm _, cellS x0 (p := ⟨bf, 0, none⟩) HA10.out.ne.2.2.1.2.1.symm _, cellS x1 (p := ⟨bf, 0, none⟩) HA10.out.ne.2.2.1.2.1.symm _⟩
              clear hK K
              try simp only [Act.put, List.setIfInBounds_toArray, List.set_cons_zero, List.set_cons_succ, List.getElem_toArray, List.getElem_cons_zero, List.getElem_cons_succ]
              refine wpAnyH_done (by kernel_rfl) ?_ _
              go_wp2_with fail
              exact ⟨⟨q + 1, ys, by omega, by omega, by go_num, by have := HS.out.len; omega, HA10.out.setf.drew⟩, by simp [intOf]; omega⟩
          · have hc := ((HS.out.num h5) b w7.drew HA.out.drew.hI).mono (fun e w' h => HA.out.drew.bad h hye)
            have Hc := hid hc
            clear hc
            refine wp_region_held_drew (S := fun w' => w'.cell? ⟨bl, 0, none⟩ = some (.slice (some ad) len cap) ∧ w'.cell? ⟨bi, 0, none⟩ = some (.pointer (some ⟨b, 0, none⟩)) ∧ w'.cell? ⟨(ad.add (q * 3)).block, (ad.add (q * 3)).off + 1, none⟩ = some (.int .i64 (E q).n) ∧ w'.cell? ⟨(ad.add (q * 3)).block, (ad.add (q * 3)).off + 2, none⟩ = some (.int .u64 ((E q).most : Int))) (by kernel_rfl) ⟨kl, ki, j1, j2⟩ (fun hHeld => ?_)
            refine wpAnyH_take (i := 0) (oi := _) (v := ?_) rfl (by kernel_rfl) (by kernel_rfl) (by kernel_rfl) (fun _ _ _ h => h) (Or.inl ⟨by rfl, ?_⟩) (by assumption) ?_
            rotate_left
            · intro w hSw
              try dsimp only at hSw
              go_simp
              try with_reducible rfl
            try simp only [Act.put, List.setIfInBounds_toArray, List.set_cons_zero, List.set_cons_succ, List.getElem_toArray, List.getElem_cons_zero, List.getElem_cons_succ]
            refine wpAnyH_take (i := 1) (oi := _) (v := ?_) rfl (by kernel_rfl) (by kernel_rfl) (by kernel_rfl) (fun _ _ _ h => h) (Or.inl ⟨by rfl, ?_⟩) (by assumption) ?_
            rotate_left
            · intro w hSw
              try dsimp only at hSw
              go_simp
              try with_reducible rfl
            try simp only [Act.put, List.setIfInBounds_toArray, List.set_cons_zero, List.set_cons_succ, List.getElem_toArray, List.getElem_cons_zero, List.getElem_cons_succ]
            refine wpAnyH_take (i := 2) (oi := _) (v := ?_) rfl (by kernel_rfl) (by kernel_rfl) (by kernel_rfl) (fun _ _ _ h => h) (Or.inl ⟨by rfl, ?_⟩) (by assumption) ?_
            rotate_left
            · intro w hSw
              try dsimp only at hSw
              go_simp
              try with_reducible rfl
            try simp only [Act.put, List.setIfInBounds_toArray, List.set_cons_zero, List.set_cons_succ, List.getElem_toArray, List.getElem_cons_zero, List.getElem_cons_succ]
            refine wpAnyH_take (i := 3) (oi := _) (v := ?_) rfl (by kernel_rfl) (by kernel_rfl) (by kernel_rfl) (fun _ _ _ h => h) (Or.inl ⟨by rfl, ?_⟩) (by assumption) ?_
            rotate_left
            · intro w hSw
              try dsimp only at hSw
              go_simp
              try with_reducible rfl
            try simp only [Act.put, List.setIfInBounds_toArray, List.set_cons_zero, List.set_cons_succ, List.getElem_toArray, List.getElem_cons_zero, List.getElem_cons_succ]
            refine wpAnyH_take (i := 4) (oi := _) (v := ?_) rfl (by kernel_rfl) (by kernel_rfl) (by kernel_rfl) (fun _ _ _ h => h) (Or.inl ⟨by rfl, ?_⟩) (by assumption) ?_
            rotate_left
            · intro w hSw
              try dsimp only at hSw
              go_simp
              try with_reducible rfl
            try simp only [Act.put, List.setIfInBounds_toArray, List.set_cons_zero, List.set_cons_succ, List.getElem_toArray, List.getElem_cons_zero, List.getElem_cons_succ]
            refine wpAnyH_take (i := 5) (oi := _) (v := ?_) rfl (by kernel_rfl) (by kernel_rfl) (by kernel_rfl) (fun _ _ _ h => h) (Or.inl ⟨by rfl, ?_⟩) (by assumption) ?_
            rotate_left
            · intro w hSw
              try dsimp only at hSw
              go_simp
              try with_reducible rfl
            try simp only [Act.put, List.setIfInBounds_toArray, List.set_cons_zero, List.set_cons_succ, List.getElem_toArray, List.getElem_cons_zero, List.getElem_cons_succ]
            refine wpAnyH_take (i := 7) (oi := _) (v := ?_) rfl (by kernel_rfl) (by kernel_rfl) (by kernel_rfl) (fun _ _ _ h => h) (Or.inl ⟨by rfl, ?_⟩) (by assumption) ?_
            rotate_left
            · intro w hSw
              try dsimp only at hSw
              go_simp
              try with_reducible rfl
            try simp only [Act.put, List.setIfInBounds_toArray, List.set_cons_zero, List.set_cons_succ, List.getElem_toArray, List.getElem_cons_zero, List.getElem_cons_succ]
            refine wpAnyH_ready (rs := [6]) (by kernel_rfl) (by simp) ?_
            refine AllReadyH.cons (o := _) rfl (fun K hK => ?_) AllReadyH.nil
            clear hK
            go_simp
            go_at_call 23
            (with_reducible refine Hc.out.mono ?_)
            rintro e w8 ⟨rfl, hA8⟩
            exact ⟨rfl, ys, ye, q, hA8, .inr ⟨by have := HS.out.pos; omega, rfl⟩⟩
        · have e5 : (m : Int) % 5 = 2 := by omega
          go_upto_region 12 with fail
          by_cases hye : ye = 0
          · have hc := ((HS.out.small h5).2 b w7.drew HA.out.drew.hI).mono (fun e w' h => HA.out.drew.ok h hye)
            have Hc := hid hc
            skip
            have hN := (HS.out.small h5).1
            have eN : IntKind.u64.wrap (N : Int) = (N : Int) := by rw [IntKind.wrap_u64]; omega
            clear hc
            subst hye
            apply shared3
            · intro key
              go_region_law (first
                | (go_simp; go_at_call 24; (with_reducible refine Hc.out.mono ?_); rintro e w8 ⟨rfl, hA8⟩; have kf := cell_of_one hA8.hf; have kff := free_of_one hA8.hf; have HA8 := hid hA8; clear hA8))
              all_goals
                try go_simp
                have hA9 := HA8.out.setf
                generalize w8.setCell ⟨bf, 0, none⟩ (.bool true) = w9 at hA9 ⊢
                clear kf kff HA8
                revert hA9
                revert w9
                exact key.out
            · intro w9 hA9
              clear j0 j1 j2 kl ki HA Hc
              have kd := cell_of_one hA9.hd
              have kdf := free_of_one hA9.hd
              have HA9 := hid hA9
              clear hA9
              go_upto_region 16 with fail
              have hA10 := HA9.out.setd (q + 1)
              have ea : ((q : Int) + 1) = ((q + 1 : Nat) : Int) := by omega
              rw [← ea] at hA10
              clear ea
              try change Code.wp _ _ _ _ (w9.setCell ⟨bd, 0, none⟩ (.int .i64 ((q : Int) + 1)))
              generalize w9.setCell ⟨bd, 0, none⟩ (.int .i64 ((q : Int) + 1)) = w10 at hA10 ⊢
              clear kd kdf HA9
              have kf := cell_of_one hA10.hf
              have kff := free_of_one hA10.hf
              have ki := cell_of_one hA10.hi
              have x0 := cell_of_block hA10.hx 0
              have x1 := cell_of_block hA10.hx 1
              simp only [List.getElem?_toArray, List.getElem?_cons_zero, List.getElem?_cons_succ] at x0 x1
              have hss := S_size ys
              have HA10 := hid hA10
              clear hA10
              refine wp_region_held_drew (S := fun w' => w'.cell? ⟨bi, 0, none⟩ = some (.pointer (some ⟨b, 0, none⟩)) ∧ w'.cell? ⟨bx, 0, none⟩ = some (.string (S ys)) ∧ w'.cell? ⟨bx, 1, none⟩ = some (.int .i64 0)) (by kernel_rfl) ⟨ki, x0, x1⟩ (fun hHeld => ?_)
              refine wpAnyH_ready (rs := [0]) (by kernel_rfl) (by simp) ?_
              refine AllReadyH.cons (o := _) rfl (fun K hK => ?_) AllReadyH.nil
              go_simp
              try dsimp only
              refine hK.out _ _ ?_ (fun hHeld => ?_)
              · exact ⟨ki, x0, x1⟩
              clear hK K
              try simp only [Act.put, List.setIfInBounds_toArray, List.set_cons_zero, List.set_cons_succ, List.getElem_toArray, List.getElem_cons_zero, List.getElem_cons_succ]
              refine wpAnyH_take (i := 1) (oi := _) (v := ?_) rfl (by kernel_rfl) (by kernel_rfl) (by kernel_rfl) (fun _ _ _ h => h) (Or.inl ⟨by rfl, ?_⟩) (by assumption) ?_
              rotate_left
              · intro w hSw
                try dsimp only at hSw
                go_simp
                try with_reducible rfl
              try simp only [Act.put, List.setIfInBounds_toArray, List.set_cons_zero, List.set_cons_succ, List.getElem_toArray, List.getElem_cons_zero, List.getElem_cons_succ]
              refine wpAnyH_take (i := 2) (oi := _) (v := ?_) rfl (by kernel_rfl) (by kernel_rfl) (by kernel_rfl) (fun _ _ _ h => h) (Or.inl ⟨by rfl, ?_⟩) (by assumption) ?_
              rotate_left
              · intro w hSw
                try dsimp only at hSw
                go_simp
                try with_reducible rfl
              try simp only [Act.put, List.setIfInBounds_toArray, List.set_cons_zero, List.set_cons_succ, List.getElem_toArray, List.getElem_cons_zero, List.getElem_cons_succ]
              refine wpAnyH_take (i := 3) (oi := _) (v := ?_) rfl (by kernel_rfl) (by kernel_rfl) (by kernel_rfl) (fun _ _ _ h => h) (Or.inl ⟨by rfl, ?_⟩) (by assumption) ?_
              rotate_left
              · intro w hSw
                try dsimp only at hSw
                go_simp
                try with_reducible rfl
              try simp only [Act.put, List.setIfInBounds_toArray, List.set_cons_zero, List.set_cons_succ, List.getElem_toArray, List.getElem_cons_zero, List.getElem_cons_succ]
              refine wpAnyH_take (i := 4) (oi := _) (v := ?_) rfl (by kernel_rfl) (by kernel_rfl) (by kernel_rfl) (fun _ _ _ h => h) (Or.inl ⟨by rfl, ?_⟩) (by assumption) ?_
              rotate_left
              · intro w hSw
                try dsimp only at hSw
                go_simp
                try with_reducible rfl
              try simp only [Act.put, List.setIfInBounds_toArray, List.set_cons_zero, List.set_cons_succ, List.getElem_toArray, List.getElem_cons_zero, List.getElem_cons_succ]
              refine wpAnyH_take (i := 5) (oi := _) (v := ?_) rfl (by kernel_rfl) (by kernel_rfl) (by kernel_rfl) (fun _ _ _ h => h) (Or.inl ⟨by rfl, ?_⟩) (by assumption) ?_
              rotate_left
              · intro w hSw
                try dsimp only at hSw
                go_simp
                try with_reducible rfl
              try simp only [Act.put, List.setIfInBounds_toArray, List.set_cons_zero, List.set_cons_succ, List.getElem_toArray, List.getElem_cons_zero, List.getElem_cons_succ]
              refine wpAnyH_take (i := 6) (oi := _) (v := ?_) rfl (by kernel_rfl) (by kernel_rfl) (by kernel_rfl) (fun _ _ _ h => h) (Or.inl ⟨by rfl, ?_⟩) (by assumption) ?_
              rotate_left
              · intro w hSw
                try dsimp only at hSw
                go_simp
                try with_reducible rfl
              try simp only [Act.put, List.setIfInBounds_toArray, List.set_cons_zero, List.set_cons_succ, List.getElem_toArray, List.getElem_cons_zero, List.getElem_cons_succ]
              refine wpAnyH_take (i := 7) (oi := _) (v := ?_) rfl (by kernel_rfl) (by kernel_rfl) (by kernel_rfl) (fun _ _ _ h => h) (Or.inl ⟨by rfl, ?_⟩) (by assumption) ?_
              rotate_left
              · intro w hSw
                try dsimp only at hSw
                go_simp
                try with_reducible rfl
              try simp only [Act.put, List.setIfInBounds_toArray, List.set_cons_zero, List.set_cons_succ, List.getElem_toArray, List.getElem_cons_zero, List.getElem_cons_succ]
              refine wpAnyH_take (i := 9) (oi := _) (v := ?_) rfl (by kernel_rfl) (by kernel_rfl) (by kernel_rfl) (fun _ _ _ h => h) (Or.inl ⟨by rfl, ?_⟩) (by assumption) ?_
              rotate_left
              · intro w hSw
                try dsimp only at hSw
                go_simp
                try with_reducible rfl
              try simp only [Act.put, List.setIfInBounds_toArray, List.set_cons_zero, List.set_cons_succ, List.getElem_toArray, List.getElem_cons_zero, List.getElem_cons_succ]
              refine wpAnyH_take (i := 10) (oi := _) (v := ?_) rfl (by kernel_rfl) (by kernel_rfl) (by kernel_rfl) (fun _ _ _ h => h) (Or.inl ⟨by rfl, ?_⟩) (by assumption) ?_
              rotate_left
              · intro w hSw
                try dsimp only at hSw
                go_simp
                try with_reducible rfl
              try simp only [Act.put, List.setIfInBounds_toArray, List.set_cons_zero, List.set_cons_succ, List.getElem_toArray, List.getElem_cons_zero, List.getElem_cons_succ]
              refine wpAnyH_take (i := 11) (oi := _) (v := ?_) rfl (by kernel_rfl) (by kernel_rfl) (by kernel_rfl) (fun _ _ _ h => h) (Or.inl ⟨by rfl, ?_⟩) (by assumption) ?_
              rotate_left
              · intro w hSw
                try dsimp only at hSw
                go_simp
                try with_reducible rfl
              try simp only [Act.put, List.setIfInBounds_toArray, List.set_cons_zero, List.set_cons_succ, List.getElem_toArray, List.getElem_cons_zero, List.getElem_cons_succ]
              refine wpAnyH_ready (rs := [8]) (by kernel_rfl) (by simp) ?_
              refine AllReadyH.cons (o := _) rfl (fun K hK => ?_) AllReadyH.nil
              go_simp
              go_at_call 27
              (with_reducible refine (in_left b ys w10.drew HA10.out.drew.hI).mono ?_)
              rintro e w11 ⟨rfl, rfl⟩
              try dsimp only
              refine hK.out _ _ ?_ (fun hHeld => ?_)
              · exact ⟨ki, x0, x1⟩
              clear hK K
              try simp only [Act.put, List.setIfInBounds_toArray, List.set_cons_zero, List.set_cons_succ, List.getElem_toArray, List.getElem_cons_zero, List.getElem_cons_succ]
              refine wpAnyH_take (i := 12) (oi := _) (v := ?_) rfl (by kernel_rfl) (by kernel_rfl) (by kernel_rfl) (fun _ _ _ h => h) (Or.inl ⟨by rfl, ?_⟩) (by assumption) ?_
              rotate_left
              · intro w hSw
                try dsimp only at hSw
                go_simp
                try with_reducible rfl
              try simp only [Act.put, List.setIfInBounds_toArray, List.set_cons_zero, List.set_cons_succ, List.getElem_toArray, List.getElem_cons_zero, List.getElem_cons_succ]
              refine wpAnyH_take (i := 13) (oi := _) (v := ?_) rfl (by kernel_rfl) (by kernel_rfl) (by kernel_rfl) (fun _ _ _ h => h) (Or.inl ⟨by rfl, ?_⟩) (by assumption) ?_
              rotate_left
              · intro w hSw
                try dsimp only at hSw
                go_simp
                try with_reducible rfl
              try simp only [Act.put, List.setIfInBounds_toArray, List.set_cons_zero, List.set_cons_succ, List.getElem_toArray, List.getElem_cons_zero, List.getElem_cons_succ]
              refine wpAnyH_ready (rs := [14]) (by kernel_rfl) (by simp) ?_
              refine AllReadyH.cons (o := _) rfl (fun K hK => ?_) AllReadyH.nil
              go_simp
              try dsimp only
              refine hK.out _ _ ?_ (fun hHeld => ?_)
              · exact ⟨cellS ki (p := ⟨bf, 0, none⟩) HA10.out.ne.2.1.2.2.1.symm _, cellS x0 (p := ⟨bf, 0, none⟩) HA10.out.ne.2.2.1.2.1.symm _, cellS x1 (p := ⟨bf, 0, none⟩) HA10.out.ne.2.2.1.2.1.symm _⟩
              clear hK K
              try simp only [Act.put, List.setIfInBounds_toArray, List.set_cons_zero, List.set_cons_succ, List.getElem_toArray, List.getElem_cons_zero, List.getElem_cons_succ]
              refine wpAnyH_done (by kernel_rfl) ?_ _
              go_wp2_with fail
              exact ⟨⟨q + 1, ys, by omega, by omega, by go_num, by have := HS.out.len; omega, HA10.out.setf.drew⟩, by simp [intOf]; omega⟩
          · have hc := ((HS.out.small h5).2 b w7.drew HA.out.drew.hI).mono (fun e w' h => HA.out.drew.bad h hye)
            have Hc := hid hc
            clear hc
            refine wp_region_held_drew (S := fun w' => w'.cell? ⟨bl, 0, none⟩ = some (.slice (some ad) len cap) ∧ w'.cell? ⟨bi, 0, none⟩ = some (.pointer (some ⟨b, 0, none⟩)) ∧ w'.cell? ⟨(ad.add (q * 3)).block, (ad.add (q * 3)).off + 1, none⟩ = some (.int .i64 (E q).n) ∧ w'.cell? ⟨(ad.add (q * 3)).block, (ad.add (q * 3)).off + 2, none⟩ = some (.int .u64 ((E q).most : Int))) (by kernel_rfl) ⟨kl, ki, j1, j2⟩ (fun hHeld => ?_)
            refine wpAnyH_take (i := 0) (oi := _) (v := ?_) rfl (by kernel_rfl) (by kernel_rfl) (by kernel_rfl) (fun _ _ _ h => h) (Or.inl ⟨by rfl, ?_⟩) (by assumption) ?_
            rotate_left
            · intro w hSw
              try dsimp only at hSw
              go_simp
              try with_reducible rfl
            try simp only [Act.put, List.setIfInBounds_toArray, List.set_cons_zero, List.set_cons_succ, List.getElem_toArray, List.getElem_cons_zero, List.getElem_cons_succ]
            refine wpAnyH_take (i := 1) (oi := _) (v := ?_) rfl (by kernel_rfl) (by kernel_rfl) (by kernel_rfl) (fun _ _ _ h => h) (Or.inl ⟨by rfl, ?_⟩) (by assumption) ?_
            rotate_left
            · intro w hSw
              try dsimp only at hSw
              go_simp
              try with_reducible rfl
            try simp only [Act.put, List.setIfInBounds_toArray, List.set_cons_zero, List.set_cons_succ, List.getElem_toArray, List.getElem_cons_zero, List.getElem_cons_succ]
            refine wpAnyH_take (i := 2) (oi := _) (v := ?_) rfl (by kernel_rfl) (by kernel_rfl) (by kernel_rfl) (fun _ _ _ h => h) (Or.inl ⟨by rfl, ?_⟩) (by assumption) ?_
            rotate_left
            · intro w hSw
              try dsimp only at hSw
              go_simp
              try with_reducible rfl
            try simp only [Act.put, List.setIfInBounds_toArray, List.set_cons_zero, List.set_cons_succ, List.getElem_toArray, List.getElem_cons_zero, List.getElem_cons_succ]
            refine wpAnyH_take (i := 3) (oi := _) (v := ?_) rfl (by kernel_rfl) (by kernel_rfl) (by kernel_rfl) (fun _ _ _ h => h) (Or.inl ⟨by rfl, ?_⟩) (by assumption) ?_
            rotate_left
            · intro w hSw
              try dsimp only at hSw
              go_simp
              try with_reducible rfl
            try simp only [Act.put, List.setIfInBounds_toArray, List.set_cons_zero, List.set_cons_succ, List.getElem_toArray, List.getElem_cons_zero, List.getElem_cons_succ]
            refine wpAnyH_take (i := 4) (oi := _) (v := ?_) rfl (by kernel_rfl) (by kernel_rfl) (by kernel_rfl) (fun _ _ _ h => h) (Or.inl ⟨by rfl, ?_⟩) (by assumption) ?_
            rotate_left
            · intro w hSw
              try dsimp only at hSw
              go_simp
              try with_reducible rfl
            try simp only [Act.put, List.setIfInBounds_toArray, List.set_cons_zero, List.set_cons_succ, List.getElem_toArray, List.getElem_cons_zero, List.getElem_cons_succ]
            refine wpAnyH_take (i := 5) (oi := _) (v := ?_) rfl (by kernel_rfl) (by kernel_rfl) (by kernel_rfl) (fun _ _ _ h => h) (Or.inl ⟨by rfl, ?_⟩) (by assumption) ?_
            rotate_left
            · intro w hSw
              try dsimp only at hSw
              go_simp
              try with_reducible rfl
            try simp only [Act.put, List.setIfInBounds_toArray, List.set_cons_zero, List.set_cons_succ, List.getElem_toArray, List.getElem_cons_zero, List.getElem_cons_succ]
            refine wpAnyH_take (i := 6) (oi := _) (v := ?_) rfl (by kernel_rfl) (by kernel_rfl) (by kernel_rfl) (fun _ _ _ h => h) (Or.inl ⟨by rfl, ?_⟩) (by assumption) ?_
            rotate_left
            · intro w hSw
              try dsimp only at hSw
              go_simp
              try with_reducible rfl
            try simp only [Act.put, List.setIfInBounds_toArray, List.set_cons_zero, List.set_cons_succ, List.getElem_toArray, List.getElem_cons_zero, List.getElem_cons_succ]
            refine wpAnyH_take (i := 7) (oi := _) (v := ?_) rfl (by kernel_rfl) (by kernel_rfl) (by kernel_rfl) (fun _ _ _ h => h) (Or.inl ⟨by rfl, ?_⟩) (by assumption) ?_
            rotate_left
            · intro w hSw
              try dsimp only at hSw
              go_simp
              try with_reducible rfl
            try simp only [Act.put, List.setIfInBounds_toArray, List.set_cons_zero, List.set_cons_succ, List.getElem_toArray, List.getElem_cons_zero, List.getElem_cons_succ]
            refine wpAnyH_take (i := 8) (oi := _) (v := ?_) rfl (by kernel_rfl) (by kernel_rfl) (by kernel_rfl) (fun _ _ _ h => h) (Or.inl ⟨by rfl, ?_⟩) (by assumption) ?_
            rotate_left
            · intro w hSw
              try dsimp only at hSw
              go_simp
              try with_reducible rfl
            try simp only [Act.put, List.setIfInBounds_toArray, List.set_cons_zero, List.set_cons_succ, List.getElem_toArray, List.getElem_cons_zero, List.getElem_cons_succ]
            refine wpAnyH_take (i := 9) (oi := _) (v := ?_) rfl (by kernel_rfl) (by kernel_rfl) (by kernel_rfl) (fun _ _ _ h => h) (Or.inl ⟨by rfl, ?_⟩) (by assumption) ?_
            rotate_left
            · intro w hSw
              try dsimp only at hSw
              go_simp
              try with_reducible rfl
            try simp only [Act.put, List.setIfInBounds_toArray, List.set_cons_zero, List.set_cons_succ, List.getElem_toArray, List.getElem_cons_zero, List.getElem_cons_succ]
            refine wpAnyH_take (i := 10) (oi := _) (v := ?_) rfl (by kernel_rfl) (by kernel_rfl) (by kernel_rfl) (fun _ _ _ h => h) (Or.inl ⟨by rfl, ?_⟩) (by assumption) ?_
            rotate_left
            · intro w hSw
              try dsimp only at hSw
              go_simp
              try with_reducible rfl
            try simp only [Act.put, List.setIfInBounds_toArray, List.set_cons_zero, List.set_cons_succ, List.getElem_toArray, List.getElem_cons_zero, List.getElem_cons_succ]
            refine wpAnyH_take (i := 13) (oi := _) (v := ?_) rfl (by kernel_rfl) (by kernel_rfl) (by kernel_rfl) (fun _ _ _ h => h) (Or.inl ⟨by rfl, ?_⟩) (by assumption) ?_
            rotate_left
            · intro w hSw
              try dsimp only at hSw
              go_simp
              try with_reducible rfl
            try simp only [Act.put, List.setIfInBounds_toArray, List.set_cons_zero, List.set_cons_succ, List.getElem_toArray, List.getElem_cons_zero, List.getElem_cons_succ]
            refine wpAnyH_ready (rs := [11]) (by kernel_rfl) (by simp) ?_
            refine AllReadyH.cons (o := _) rfl (fun K hK => ?_) AllReadyH.nil
            clear hK
            go_simp
            go_at_call 24
            (with_reducible refine Hc.out.mono ?_)
            rintro e w8 ⟨rfl, hA8⟩
            exact ⟨rfl, ys, ye, q, hA8, .inr ⟨by have := HS.out.pos; omega, rfl⟩⟩
        · have e5 : (m : Int) % 5 = 3 := by omega
          by_cases hye : ye = 0
          · have hc := (HS.out.zero h5 b w7 HA.out.hI).mono (fun e w' h => HA.out.ok h hye)
            have Hc := hid hc
            clear hc
            subst hye
            go_upto_region 15 with (go_at_call 25; (with_reducible refine Hc.out.mono ?_); rintro e w9 ⟨rfl, hA9⟩)
            clear j0 j1 j2 kl ki HA Hc
            have kd := cell_of_one hA9.hd
            have kdf := free_of_one hA9.hd
            have HA9 := hid hA9
            clear hA9
            go_upto_region 16 with fail
            have hA10 := HA9.out.setd (q + 1)
            have ea : ((q : Int) + 1) = ((q + 1 : Nat) : Int) := by omega
            rw [← ea] at hA10
            clear ea
            try change Code.wp _ _ _ _ (w9.setCell ⟨bd, 0, none⟩ (.int .i64 ((q : Int) + 1)))
            generalize w9.setCell ⟨bd, 0, none⟩ (.int .i64 ((q : Int) + 1)) = w10 at hA10 ⊢
            clear kd kdf HA9
            have kf := cell_of_one hA10.hf
            have kff := free_of_one hA10.hf
            have ki := cell_of_one hA10.hi
            have x0 := cell_of_block hA10.hx 0
            have x1 := cell_of_block hA10.hx 1
            simp only [List.getElem?_toArray, List.getElem?_cons_zero, List.getElem?_cons_succ] at x0 x1
            have hss := S_size ys
            have HA10 := hid hA10
            clear hA10
            refine wp_region_held_drew (S := fun w' => w'.cell? ⟨bi, 0, none⟩ = some (.pointer (some ⟨b, 0, none⟩)) ∧ w'.cell? ⟨bx, 0, none⟩ = some (.string (S ys)) ∧ w'.cell? ⟨bx, 1, none⟩ = some (.int .i64 0)) (by kernel_rfl) ⟨ki, x0, x1⟩ (fun hHeld => ?_)
            refine wpAnyH_ready (rs := [0]) (by kernel_rfl) (by simp) ?_
            refine AllReadyH.cons (o := _) rfl (fun K hK => ?_) AllReadyH.nil
            go_simp
            try dsimp only
            refine hK.out _ _ ?_ (fun hHeld => ?_)
            · exact ⟨ki, x0, x1⟩
            clear hK K
            try simp only [Act.put, List.setIfInBounds_toArray, List.set_cons_zero, List.set_cons_succ, List.getElem_toArray, List.getElem_cons_zero, List.getElem_cons_succ]
            refine wpAnyH_take (i := 1) (oi := _) (v := ?_) rfl (by kernel_rfl) (by kernel_rfl) (by kernel_rfl) (fun _ _ _ h => h) (Or.inl ⟨by rfl, ?_⟩) (by assumption) ?_
            rotate_left
            · intro w hSw
              try dsimp only at hSw
              go_simp
              try with_reducible rfl
            try simp only [Act.put, List.setIfInBounds_toArray, List.set_cons_zero, List.set_cons_succ, List.getElem_toArray, List.getElem_cons_zero, List.getElem_cons_succ]
            refine wpAnyH_take (i := 2) (oi := _) (v := ?_) rfl (by kernel_rfl) (by kernel_rfl) (by kernel_rfl) (fun _ _ _ h => h) (Or.inl ⟨by rfl, ?_⟩) (by assumption) ?_
            rotate_left
            · intro w hSw
              try dsimp only at hSw
              go_simp
              try with_reducible rfl
            try simp only [Act.put, List.setIfInBounds_toArray, List.set_cons_zero, List.set_cons_succ, List.getElem_toArray, List.getElem_cons_zero, List.getElem_cons_succ]
            refine wpAnyH_take (i := 3) (oi := _) (v := ?_) rfl (by kernel_rfl) (by kernel_rfl) (by kernel_rfl) (fun _ _ _ h => h) (Or.inl ⟨by rfl, ?_⟩) (by assumption) ?_
            rotate_left
            · intro w hSw
              try dsimp only at hSw
              go_simp
              try with_reducible rfl
            try simp only [Act.put, List.setIfInBounds_toArray, List.set_cons_zero, List.set_cons_succ, List.getElem_toArray, List.getElem_cons_zero, List.getElem_cons_succ]
            refine wpAnyH_take (i := 4) (oi := _) (v := ?_) rfl (by kernel_rfl) (by kernel_rfl) (by kernel_rfl) (fun _ _ _ h => h) (Or.inl ⟨by rfl, ?_⟩) (by assumption) ?_
            rotate_left
            · intro w hSw
              try dsimp only at hSw
              go_simp
              try with_reducible rfl
            try simp only [Act.put, List.setIfInBounds_toArray, List.set_cons_zero, List.set_cons_succ, List.getElem_toArray, List.getElem_cons_zero, List.getElem_cons_succ]
            refine wpAnyH_take (i := 5) (oi := _) (v := ?_) rfl (by kernel_rfl) (by kernel_rfl) (by kernel_rfl) (fun _ _ _ h => h) (Or.inl ⟨by rfl, ?_⟩) (by assumption) ?_
            rotate_left
            · intro w hSw
              try dsimp only at hSw
              go_simp
              try with_reducible rfl
            try simp only [Act.put, List.setIfInBounds_toArray, List.set_cons_zero, List.set_cons_succ, List.getElem_toArray, List.getElem_cons_zero, List.getElem_cons_succ]
            refine wpAnyH_take (i := 6) (oi := _) (v := ?_) rfl (by kernel_rfl) (by kernel_rfl) (by kernel_rfl) (fun _ _ _ h => h) (Or.inl ⟨by rfl, ?_⟩) (by assumption) ?_
            rotate_left
            · intro w hSw
              try dsimp only at hSw
              go_simp
              try with_reducible rfl
            try simp only [Act.put, List.setIfInBounds_toArray, List.set_cons_zero, List.set_cons_succ, List.getElem_toArray, List.getElem_cons_zero, List.getElem_cons_succ]
            refine wpAnyH_take (i := 7) (oi := _) (v := ?_) rfl (by kernel_rfl) (by kernel_rfl) (by kernel_rfl) (fun _ _ _ h => h) (Or.inl ⟨by rfl, ?_⟩) (by assumption) ?_
            rotate_left
            · intro w hSw
              try dsimp only at hSw
              go_simp
              try with_reducible rfl
            try simp only [Act.put, List.setIfInBounds_toArray, List.set_cons_zero, List.set_cons_succ, List.getElem_toArray, List.getElem_cons_zero, List.getElem_cons_succ]
            refine wpAnyH_take (i := 9) (oi := _) (v := ?_) rfl (by kernel_rfl) (by kernel_rfl) (by kernel_rfl) (fun _ _ _ h => h) (Or.inl ⟨by rfl, ?_⟩) (by assumption) ?_
            rotate_left
            · intro w hSw
              try dsimp only at hSw
              go_simp
              try with_reducible rfl
            try simp only [Act.put, List.setIfInBounds_toArray, List.set_cons_zero, List.set_cons_succ, List.getElem_toArray, List.getElem_cons_zero, List.getElem_cons_succ]
            refine wpAnyH_take (i := 10) (oi := _) (v := ?_) rfl (by kernel_rfl) (by kernel_rfl) (by kernel_rfl) (fun _ _ _ h => h) (Or.inl ⟨by rfl, ?_⟩) (by assumption) ?_
            rotate_left
            · intro w hSw
              try dsimp only at hSw
              go_simp
              try with_reducible rfl
            try simp only [Act.put, List.setIfInBounds_toArray, List.set_cons_zero, List.set_cons_succ, List.getElem_toArray, List.getElem_cons_zero, List.getElem_cons_succ]
            refine wpAnyH_take (i := 11) (oi := _) (v := ?_) rfl (by kernel_rfl) (by kernel_rfl) (by kernel_rfl) (fun _ _ _ h => h) (Or.inl ⟨by rfl, ?_⟩) (by assumption) ?_
            rotate_left
            · intro w hSw
              try dsimp only at hSw
              go_simp
              try with_reducible rfl
            try simp only [Act.put, List.setIfInBounds_toArray, List.set_cons_zero, List.set_cons_succ, List.getElem_toArray, List.getElem_cons_zero, List.getElem_cons_succ]
            refine wpAnyH_ready (rs := [8]) (by kernel_rfl) (by simp) ?_
            refine AllReadyH.cons (o := _) rfl (fun K hK => ?_) AllReadyH.nil
            go_simp
            go_at_call 27
            (with_reducible refine (in_left b ys w10.drew HA10.out.drew.hI).mono ?_)
            rintro e w11 ⟨rfl, rfl⟩
            try dsimp only
            refine hK.out _ _ ?_ (fun hHeld => ?_)
            · exact ⟨ki, x0, x1⟩
            clear hK K
            try simp only [Act.put, List.setIfInBounds_toArray, List.set_cons_zero, List.set_cons_succ, List.getElem_toArray, List.getElem_cons_zero, List.getElem_cons_succ]
            refine wpAnyH_take (i := 12) (oi := _) (v := ?_) rfl (by kernel_rfl) (by kernel_rfl) (by kernel_rfl) (fun _ _ _ h => h) (Or.inl ⟨by rfl, ?_⟩) (by assumption) ?_
            rotate_left
            · intro w hSw
              try dsimp only at hSw
              go_simp
              try with_reducible rfl
            try simp only [Act.put, List.setIfInBounds_toArray, List.set_cons_zero, List.set_cons_succ, List.getElem_toArray, List.getElem_cons_zero, List.getElem_cons_succ]
            refine wpAnyH_take (i := 13) (oi := _) (v := ?_) rfl (by kernel_rfl) (by kernel_rfl) (by kernel_rfl) (fun _ _ _ h => h) (Or.inl ⟨by rfl, ?_⟩) (by assumption) ?_
            rotate_left
            · intro w hSw
              try dsimp only at hSw
              go_simp
              try with_reducible rfl
            try simp only [Act.put, List.setIfInBounds_toArray, List.set_cons_zero, List.set_cons_succ, List.getElem_toArray, List.getElem_cons_zero, List.getElem_cons_succ]
            refine wpAnyH_ready (rs := [14]) (by kernel_rfl) (by simp) ?_
            refine AllReadyH.cons (o := _) rfl (fun K hK => ?_) AllReadyH.nil
            go_simp
            try dsimp only
            refine hK.out _ _ ?_ (fun hHeld => ?_)
            · exact ⟨cellS ki (p := ⟨bf, 0, none⟩) HA10.out.ne.2.1.2.2.1.symm _, cellS x0 (p := ⟨bf, 0, none⟩) HA10.out.ne.2.2.1.2.1.symm _, cellS x1 (p := ⟨bf, 0, none⟩) HA10.out.ne.2.2.1.2.1.symm _⟩
            clear hK K
            try simp only [Act.put, List.setIfInBounds_toArray, List.set_cons_zero, List.set_cons_succ, List.getElem_toArray, List.getElem_cons_zero, List.getElem_cons_succ]
            refine wpAnyH_done (by kernel_rfl) ?_ _
            go_wp2_with fail
            exact ⟨⟨q + 1, ys, by omega, by omega, by go_num, by have := HS.out.len; omega, HA10.out.setf.drew⟩, by simp [intOf]; omega⟩
          · have hc := (HS.out.zero h5 b w7 HA.out.hI).mono (fun e w' h => HA.out.bad h hye)
            have Hc := hid hc
            clear hc
            go_wp2_with (go_at_call 25; (with_reducible refine Hc.out.mono ?_); rintro e w8 ⟨rfl, hA8⟩)
            exact ⟨rfl, ys, ye, q, hA8, .inr ⟨by have := HS.out.pos; omega, rfl⟩⟩
        · have e5 : (m : Int) % 5 = 4 := by omega
          by_cases hye : ye = 0
          · have hc := (HS.out.done h5 b w7 HA.out.hI).mono (fun e w' h => HA.out.ok h hye)
            have Hc := hid hc
            clear hc
            subst hye
            go_upto_region 15 with (go_at_call 26; (with_reducible refine Hc.out.mono ?_); rintro e w9 ⟨rfl, hA9⟩)
            clear j0 j1 j2 kl ki HA Hc
            have kd := cell_of_one hA9.hd
            have kdf := free_of_one hA9.hd
            have HA9 := hid hA9
            clear hA9
            go_upto_region 16 with fail
            have hA10 := HA9.out.setd (q + 1)
            have ea : ((q : Int) + 1) = ((q + 1 : Nat) : Int) := by omega
            rw [← ea] at hA10
            clear ea
            try change Code.wp _ _ _ _ (w9.setCell ⟨bd, 0, none⟩ (.int .i64 ((q : Int) + 1)))
            generalize w9.setCell ⟨bd, 0, none⟩ (.int .i64 ((q : Int) + 1)) = w10 at hA10 ⊢
            clear kd kdf HA9
            have kf := cell_of_one hA10.hf
            have kff := free_of_one hA10.hf
            have ki := cell_of_one hA10.hi
            have x0 := cell_of_block hA10.hx 0
            have x1 := cell_of_block hA10.hx 1
            simp only [List.getElem?_toArray, List.getElem?_cons_zero, List.getElem?_cons_succ] at x0 x1
            have hss := S_size ys
            have HA10 := hid hA10
            clear hA10
            refine wp_region_held_drew (S := fun w' => w'.cell? ⟨bi, 0, none⟩ = some (.pointer (some ⟨b, 0, none⟩)) ∧ w'.cell? ⟨bx, 0, none⟩ = some (.string (S ys)) ∧ w'.cell? ⟨bx, 1, none⟩ = some (.int .i64 0)) (by kernel_rfl) ⟨ki, x0, x1⟩ (fun hHeld => ?_)
            refine wpAnyH_ready (rs := [0]) (by kernel_rfl) (by simp) ?_
            refine AllReadyH.cons (o := _) rfl (fun K hK => ?_) AllReadyH.nil
            go_simp
            try dsimp only
            refine hK.out _ _ ?_ (fun hHeld => ?_)
            · exact ⟨ki, x0, x1⟩
            clear hK K
            try simp only [Act.put, List.setIfInBounds_toArray, List.set_cons_zero, List.set_cons_succ, List.getElem_toArray, List.getElem_cons_zero, List.getElem_cons_succ]
            refine wpAnyH_take (i := 1) (oi := _) (v := ?_) rfl (by kernel_rfl) (by kernel_rfl) (by kernel_rfl) (fun _ _ _ h => h) (Or.inl ⟨by rfl, ?_⟩) (by assumption) ?_
            rotate_left
            · intro w hSw
              try dsimp only at hSw
              go_simp
              try with_reducible rfl
            try simp only [Act.put, List.setIfInBounds_toArray, List.set_cons_zero, List.set_cons_succ, List.getElem_toArray, List.getElem_cons_zero, List.getElem_cons_succ]
            refine wpAnyH_take (i := 2) (oi := _) (v := ?_) rfl (by kernel_rfl) (by kernel_rfl) (by kernel_rfl) (fun _ _ _ h => h) (Or.inl ⟨by rfl, ?_⟩) (by assumption) ?_
            rotate_left
            · intro w hSw
              try dsimp only at hSw
              go_simp
              try with_reducible rfl
            try simp only [Act.put, List.setIfInBounds_toArray, List.set_cons_zero, List.set_cons_succ, List.getElem_toArray, List.getElem_cons_zero, List.getElem_cons_succ]
            refine wpAnyH_take (i := 3) (oi := _) (v := ?_) rfl (by kernel_rfl) (by kernel_rfl) (by kernel_rfl) (fun _ _ _ h => h) (Or.inl ⟨by rfl, ?_⟩) (by assumption) ?_
            rotate_left
            · intro w hSw
              try dsimp only at hSw
              go_simp
              try with_reducible rfl
            try simp only [Act.put, List.setIfInBounds_toArray, List.set_cons_zero, List.set_cons_succ, List.getElem_toArray, List.getElem_cons_zero, List.getElem_cons_succ]
            refine wpAnyH_take (i := 4) (oi := _) (v := ?_) rfl (by kernel_rfl) (by kernel_rfl) (by kernel_rfl) (fun _ _ _ h => h) (Or.inl ⟨by rfl, ?_⟩) (by assumption) ?_
            rotate_left
            · intro w hSw
              try dsimp only at hSw
              go_simp
              try with_reducible rfl
            try simp only [Act.put, List.setIfInBounds_toArray, List.set_cons_zero, List.set_cons_succ, List.getElem_toArray, List.getElem_cons_zero, List.getElem_cons_succ]
            refine wpAnyH_take (i := 5) (oi := _) (v := ?_) rfl (by kernel_rfl) (by kernel_rfl) (by kernel_rfl) (fun _ _ _ h => h) (Or.inl ⟨by rfl, ?_⟩) (by assumption) ?_
            rotate_left
            · intro w hSw
              try dsimp only at hSw
              go_simp
              try with_reducible rfl
            try simp only [Act.put, List.setIfInBounds_toArray, List.set_cons_zero, List.set_cons_succ, List.getElem_toArray, List.getElem_cons_zero, List.getElem_cons_succ]
            refine wpAnyH_take (i := 6) (oi := _) (v := ?_) rfl (by kernel_rfl) (by kernel_rfl) (by kernel_rfl) (fun _ _ _ h => h) (Or.inl ⟨by rfl, ?_⟩) (by assumption) ?_
            rotate_left
            · intro w hSw
              try dsimp only at hSw
              go_simp
              try with_reducible rfl
            try simp only [Act.put, List.setIfInBounds_toArray, List.set_cons_zero, List.set_cons_succ, List.getElem_toArray, List.getElem_cons_zero, List.getElem_cons_succ]
            refine wpAnyH_take (i := 7) (oi := _) (v := ?_) rfl (by kernel_rfl) (by kernel_rfl) (by kernel_rfl) (fun _ _ _ h => h) (Or.inl ⟨by rfl, ?_⟩) (by assumption) ?_
            rotate_left
            · intro w hSw
              try dsimp only at hSw
              go_simp
              try with_reducible rfl
            try simp only [Act.put, List.setIfInBounds_toArray, List.set_cons_zero, List.set_cons_succ, List.getElem_toArray, List.getElem_cons_zero, List.getElem_cons_succ]
            refine wpAnyH_take (i := 9) (oi := _) (v := ?_) rfl (by kernel_rfl) (by kernel_rfl) (by kernel_rfl) (fun _ _ _ h => h) (Or.inl ⟨by rfl, ?_⟩) (by assumption) ?_
            rotate_left
            · intro w hSw
              try dsimp only at hSw
              go_simp
              try with_reducible rfl
            try simp only [Act.put, List.setIfInBounds_toArray, List.set_cons_zero, List.set_cons_succ, List.getElem_toArray, List.getElem_cons_zero, List.getElem_cons_succ]
            refine wpAnyH_take (i := 10) (oi := _) (v := ?_) rfl (by kernel_rfl) (by kernel_rfl) (by kernel_rfl) (fun _ _ _ h => h) (Or.inl ⟨by rfl, ?_⟩) (by assumption) ?_
            rotate_left
            · intro w hSw
              try dsimp only at hSw
              go_simp
              try with_reducible rfl
            try simp only [Act.put, List.setIfInBounds_toArray, List.set_cons_zero, List.set_cons_succ, List.getElem_toArray, List.getElem_cons_zero, List.getElem_cons_succ]
            refine wpAnyH_take (i := 11) (oi := _) (v := ?_) rfl (by kernel_rfl) (by kernel_rfl) (by kernel_rfl) (fun _ _ _ h => h) (Or.inl ⟨by rfl, ?_⟩) (by assumption) ?_
            rotate_left
            · intro w hSw
              try dsimp only at hSw
              go_simp
              try with_reducible rfl
            try simp only [Act.put, List.setIfInBounds_toArray, List.set_cons_zero, List.set_cons_succ, List.getElem_toArray, List.getElem_cons_zero, List.getElem_cons_succ]
            refine wpAnyH_ready (rs := [8]) (by kernel_rfl) (by simp) ?_
            refine AllReadyH.cons (o := _) rfl (fun K hK => ?_) AllReadyH.nil
            go_simp
            go_at_call 27
            (with_reducible refine (in_left b ys w10.drew HA10.out.drew.hI).mono ?_)
            rintro e w11 ⟨rfl, rfl⟩
            try dsimp only
            refine hK.out _ _ ?_ (fun hHeld => ?_)
            · exact ⟨ki, x0, x1⟩
            clear hK K
            try simp only [Act.put, List.setIfInBounds_toArray, List.set_cons_zero, List.set_cons_succ, List.getElem_toArray, List.getElem_cons_zero, List.getElem_cons_succ]
            refine wpAnyH_take (i := 12) (oi := _) (v := ?_) rfl (by kernel_rfl) (by kernel_rfl) (by kernel_rfl) (fun _ _ _ h => h) (Or.inl ⟨by rfl, ?_⟩) (by assumption) ?_
            rotate_left
            · intro w hSw
              try dsimp only at hSw
              go_simp
              try with_reducible rfl
            try simp only [Act.put, List.setIfInBounds_toArray, List.set_cons_zero, List.set_cons_succ, List.getElem_toArray, List.getElem_cons_zero, List.getElem_cons_succ]
            refine wpAnyH_take (i := 13) (oi := _) (v := ?_) rfl (by kernel_rfl) (by kernel_rfl) (by kernel_rfl) (fun _ _ _ h => h) (Or.inl ⟨by rfl, ?_⟩) (by assumption) ?_
            rotate_left
            · intro w hSw
              try dsimp only at hSw
              go_simp
              try with_reducible rfl
            try simp only [Act.put, List.setIfInBounds_toArray, List.set_cons_zero, List.set_cons_succ, List.getElem_toArray, List.getElem_cons_zero, List.getElem_cons_succ]
            refine wpAnyH_ready (rs := [14]) (by kernel_rfl) (by simp) ?_
            refine AllReadyH.cons (o := _) rfl (fun K hK => ?_) AllReadyH.nil
            go_simp
            try dsimp only
            refine hK.out _ _ ?_ (fun hHeld => ?_)
            · exact ⟨cellS ki (p := ⟨bf, 0, none⟩) HA10.out.ne.2.1.2.2.1.symm _, cellS x0 (p := ⟨bf, 0, none⟩) HA10.out.ne.2.2.1.2.1.symm _, cellS x1 (p := ⟨bf, 0, none⟩) HA10.out.ne.2.2.1.2.1.symm _⟩
            clear hK K
            try simp only [Act.put, List.setIfInBounds_toArray, List.set_cons_zero, List.set_cons_succ, List.getElem_toArray, List.getElem_cons_zero, List.getElem_cons_succ]
            refine wpAnyH_done (by kernel_rfl) ?_ _
            go_wp2_with fail
            exact ⟨⟨q + 1, ys, by omega, by omega, by go_num, by have := HS.out.len; omega, HA10.out.setf.drew⟩, by simp [intOf]; omega⟩
          · have hc := (HS.out.done h5 b w7 HA.out.hI).mono (fun e w' h => HA.out.bad h hye)
            have Hc := hid hc
            clear hc
            go_wp2_with (go_at_call 26; (with_reducible refine Hc.out.mono ?_); rintro e w8 ⟨rfl, hA8⟩)
            exact ⟨rfl, ys, ye, q, hA8, .inr ⟨by have := HS.out.pos; omega, rfl⟩⟩
    · by_cases hq1 : q < len
      case' pos =>
        have d1 : decide ((q : Int) < len) = true := by simp; omega
        have d2 : decide ((q : Int) < 15) = false := by simp; omega
        go_wp2_with fail
      case' neg =>
        have d1 : decide ((q : Int) < len) = false := by simp; omega
        go_wp2_with fail
      all_goals
        go_end0
        exact ⟨s, 0, q, HP.out, .inl ⟨rfl, by omega, rfl⟩⟩
end Go.Proofs.YtkmbbgnbklklcaaDoor
