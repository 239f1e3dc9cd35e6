/-
  A super behind a crash, in plain Lean.
-/
import Derived.Test.YtkmbbgnbklklcaaDoorL07g
import Derived.Test.YtkmbbgnbklklcaaDoorDiskE
namespace Go.Proofs.YtkmbbgnbklklcaaDoor
open Go.RowKit

theorem loose_one {D : Dsk} {q : Nat} (hq : q < D.n) (h1 : D.sure q ≠ D.now q) (h2 : ∀ i, i ≠ q → D.sure i = D.now i) : loose D = [q] := by
  have h : ∀ k, looseTo D k = if q < k then [q] else [] := fun k => by
    induction k with
    | zero => rfl
    | succ k ih =>
      rw [looseTo_succ, ih]
      by_cases hk : k = q
      · subst hk
        rw [if_neg h1, if_neg (by omega), if_pos (by omega)]
        rfl
      · rw [if_pos (h2 k hk)]
        by_cases hlt : q < k
        · rw [if_pos hlt, if_pos (by omega)]
        · rw [if_neg hlt, if_neg (by omega)]
  unfold loose
  rw [h, if_pos hq]
theorem crash_one {D : Dsk} {q : Nat} (h : loose D = [q]) (z : Int) (cs : Nat → Int) (hz : cs 0 = z) : (D.crash 1 cs).now = upd D.now q ((D.now q).take (min (max z 0) 64).toNat ++ (D.sure q).drop (min (max z 0) 64).toNat) := by
  unfold Dsk.crash
  rw [h]
  show upd D.now q ((D.now q).take (cutAt 1 cs 0) ++ (D.sure q).drop (cutAt 1 cs 0)) = _
  have hc : cutAt 1 cs 0 = (min (max z 0) 64).toNat := by unfold cutAt; rw [if_pos (by decide), hz]
  rw [hc]
theorem crash_none {D : Dsk} (h : loose D = []) (cs : Nat → Int) : (D.crash 0 cs).now = D.now := by
  unfold Dsk.crash
  rw [h]
  rfl
theorem crash_n (D : Dsk) (n : Nat) (cs : Nat → Int) : (D.crash n cs).n = D.n := tearN_n _ _ _ _
theorem crash_dead (D : Dsk) (n : Nat) (cs : Nat → Int) : (D.crash n cs).dead = false := rfl
theorem best_now {D E : Dsk} (hn : D.n = E.n) (h : D.now = E.now) : D.best = E.best := by
  have h2 : ∀ k, D.sups k = E.sups k := fun k => by
    induction k with
    | zero => rfl
    | succ k ih => show pick D.n k (D.now k) (D.sups k) = pick E.n k (E.now k) (E.sups k); rw [ih, hn, h]
  unfold Dsk.best
  rw [h2, hn]
theorem sec_ep {x : Sup} (hx : x.small) : sEp x.sec = x.ep := (isFrame_sEp (frame_is x.ep 0 (supBytes x.jo x.bi x.he x.ne) (by rw [supBytes_length]; omega)).1 hx.ep (by decide)).1
/-- What lies on the law's disk: the elder super, this one, sure; the next one, not yet. -/
structure TurnD (D : Dsk) (x y o : Sup) : Prop where
  n : D.n = 1000
  fit : D.dead = false ∧ D.armed = false
  q : D.now (y.ep % 2) = y.sec
  s : D.sure (y.ep % 2) = o.sec
  x : D.now (x.ep % 2) = x.sec
  e : ∀ i, i ≠ y.ep % 2 → D.sure i = D.now i
def Dsk.sunk7 (D : Dsk) : Dsk := { D with sure := fun i => if i < D.n then D.now i else D.sure i }
section
variable {D : Dsk} {x y o : Sup}
theorem turn_start (hxy : y.ep = x.ep + 1) (hox : o.ep + 1 = x.ep) (ex : x.err 1000 = 0) (ey : y.err 1000 = 0) (eo : o.err 1000 = 0) :
    TurnD ((((((Dsk.new 1000).took o).took x).sunk7).took y)) x y o ∧ ((Dsk.new 1000).took o).n = 1000 ∧ (((Dsk.new 1000).took o).took x).n = 1000 ∧ ((((Dsk.new 1000).took o).took x).sunk7).n = 1000 ∧
    ((Dsk.new 1000).took o).fit ∧ ((((Dsk.new 1000).took o).took x).dead = false ∧ (((Dsk.new 1000).took o).took x).armed = false) ∧ ((((Dsk.new 1000).took o).took x).sunk7).fit := by
  have h1 : (Dsk.new 1000).took o = { Dsk.new 1000 with now := upd (Dsk.new 1000).now (o.ep % 2) o.sec } := took_ok eo
  have h2 : ((Dsk.new 1000).took o).took x = { Dsk.new 1000 with now := upd (upd (Dsk.new 1000).now (o.ep % 2) o.sec) (x.ep % 2) x.sec } := by
    rw [h1]
    exact took_ok (D := { Dsk.new 1000 with now := upd (Dsk.new 1000).now (o.ep % 2) o.sec }) ex
  have h3 : ((((Dsk.new 1000).took o).took x).sunk7).took y = { (((Dsk.new 1000).took o).took x).sunk7 with now := upd (upd (upd (Dsk.new 1000).now (o.ep % 2) o.sec) (x.ep % 2) x.sec) (y.ep % 2) y.sec } := by
    rw [h2]
    exact took_ok (D := Dsk.sunk7 { Dsk.new 1000 with now := upd (upd (Dsk.new 1000).now (o.ep % 2) o.sec) (x.ep % 2) x.sec }) ey
  refine ⟨?_, by rw [h1]; rfl, by rw [h2]; rfl, by rw [h2]; rfl, by rw [h1]; exact ⟨rfl, fun h => by cases h⟩, by rw [h2]; exact ⟨rfl, rfl⟩, by rw [h2]; exact ⟨rfl, fun h => by cases h⟩⟩
  rw [h3, h2]
  have hq : y.ep % 2 = o.ep % 2 := by omega
  have hqx : x.ep % 2 ≠ y.ep % 2 := by omega
  refine ⟨rfl, ⟨rfl, rfl⟩, if_pos rfl, ?_, ?_, ?_⟩
  · show (if y.ep % 2 < 1000 then upd (upd (Dsk.new 1000).now (o.ep % 2) o.sec) (x.ep % 2) x.sec (y.ep % 2) else _) = o.sec
    rw [if_pos (by omega)]
    unfold upd
    rw [if_neg (fun h => hqx h.symm), if_pos hq]
  · show upd _ (y.ep % 2) y.sec (x.ep % 2) = x.sec
    unfold upd
    rw [if_neg hqx, if_pos rfl]
  · intro i hi
    show (if i < 1000 then upd (upd (Dsk.new 1000).now (o.ep % 2) o.sec) (x.ep % 2) x.sec i else nul) = upd (upd (upd (Dsk.new 1000).now (o.ep % 2) o.sec) (x.ep % 2) x.sec) (y.ep % 2) y.sec i
    by_cases h : i < 1000
    · rw [if_pos h]
      exact (if_neg hi).symm
    · rw [if_neg h]
      unfold upd
      rw [if_neg hi, if_neg (by omega), if_neg (by omega)]
      rfl
theorem TurnD.ne (hD : TurnD D x y o) (hy : y.small) (ho : o.small) (hyo : y.ep ≠ o.ep) : D.sure (y.ep % 2) ≠ D.now (y.ep % 2) := by
  rw [hD.q, hD.s]
  intro h
  have h2 := congrArg sEp h
  rw [sec_ep hy, sec_ep ho] at h2
  omega
/-- Behind the crash. -/
theorem TurnD.crash (hD : TurnD D x y o) (hx : x.small) (hy : y.small) (ho : o.small) (hxy : y.ep = x.ep + 1) (hox : o.ep + 1 = x.ep) (ex : x.err 1000 = 0) (ey : y.err 1000 = 0) (z : Int) (cs : Nat → Int) (hz : cs 0 = z) :
    ((D.crash 1 cs).best = x ∧ z < 64) ∨ (D.crash 1 cs).best = y := by
  have hl := loose_one (D := D) (q := y.ep % 2) (by rw [hD.n]; omega) (hD.ne hy ho (by omega)) hD.e
  have hnow := crash_one hl z cs hz
  have hn := crash_n D 1 cs
  rw [hD.n] at hn
  rw [hD.q, hD.s] at hnow
  generalize hc : (min (max z 0) 64).toNat = c at hnow
  have hc64 : c ≤ 64 := by omega
  have hqx : x.ep % 2 ≠ y.ep % 2 := by omega
  generalize D.crash 1 cs = E at *
  have hEx : E.now (x.ep % 2) = x.sec := by rw [hnow]; exact (if_neg hqx).trans hD.x
  have hEy : E.now (y.ep % 2) = y.sec.take c ++ o.sec.drop c := by rw [hnow]; exact if_pos rfl
  by_cases hT : y.sec.take c ++ o.sec.drop c = y.sec
  · right
    rw [hT] at hEy
    refine best_first (by omega) hy (by rw [hn]; exact ey) hEy ?_
    intro i hi hne _
    have hi2 : i = x.ep % 2 := by omega
    rw [hi2, hEx, sec_ep hx]
    omega
  · left
    refine ⟨best_first (by omega) hx (by rw [hn]; exact ex) hEx ?_, ?_⟩
    · intro i hi hne hb
      have hi2 : i = y.ep % 2 := by omega
      rw [hi2, hEy] at hb ⊢
      rcases torn_sup ho hc64 hb with h | h
      · exact absurd h hT
      · omega
    · refine Classical.byContradiction fun h => hT ?_
      have h64 : c = 64 := by omega
      rw [h64, List.take_of_length_le (by rw [Sup.sec_length]; omega), List.drop_eq_nil_of_le (by rw [Sup.sec_length]; omega), List.append_nil]
/-- The other one, synced. -/
theorem TurnD.sunk (hD : TurnD D x y o) (hx : x.small) (hy : y.small) (hxy : y.ep = x.ep + 1) (ey : y.err 1000 = 0) (cs : Nat → Int) : (D.sunk7.crash 0 cs).best = y := by
  have hl : loose D.sunk7 = [] := by
    unfold loose looseTo
    rw [List.filter_eq_nil_iff]
    intro a ha
    have ha2 : a < D.n := List.mem_range.1 ha
    have he : D.sunk7.sure a = D.sunk7.now a := if_pos ha2
    simp [he]
  have hnow := crash_none hl cs
  have hn := crash_n D.sunk7 0 cs
  rw [show D.sunk7.n = 1000 from hD.n] at hn
  rw [show D.sunk7.now = D.now from rfl] at hnow
  refine best_first (by omega) hy (by rw [hn]; exact ey) (by rw [hnow]; exact hD.q) ?_
  intro i hi hne _
  have hi2 : i = x.ep % 2 := by omega
  rw [hi2, hnow, hD.x, sec_ep hx]
  omega
theorem TurnD.on (hD : TurnD D x y o) : D.fit := ⟨hD.fit.1, fun h => by rw [hD.fit.2] at h; cases h⟩
end
theorem sync7 {B b g : Nat} {D : Dsk} (w : World) (h : DiskAt w B b g D) (hg : g < w.heap.size) (hf : D.dead = false ∧ D.armed = false) :
    Calls Tryd.prog 55 #[.pointer (some ⟨b, 0, none⟩)] w fun e w' => e = .returned (.int .i64 0) ∧ DiskEnd w B b g D.sunk7 w' := by
  have h1 := sync_any w h hg
  unfold Dsk.syncErr Dsk.synced at h1
  have hf2 : D.dead = false ∧ (D.armed = true → 0 < D.left) := ⟨hf.1, fun h => by rw [hf.2] at h; cases h⟩
  have hl : D.less = D := by unfold Dsk.less; rw [if_neg (by rw [hf.2]; decide)]
  rw [if_pos hf2, if_pos hf2, hl] at h1
  exact h1
end Go.Proofs.YtkmbbgnbklklcaaDoor
