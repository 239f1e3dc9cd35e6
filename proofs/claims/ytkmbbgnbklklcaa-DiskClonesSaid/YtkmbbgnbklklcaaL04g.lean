/-
  Law 04's does: its boxes.
-/
import Derived.Test.YtkmbbgnbklklcaaRef4h
import Derived.Test.YtkmbbgnbklklcaaL04f
namespace Go.Proofs.Ytkmbbgnbklklcaa
open Go.RowKit

theorem CutsAt.below {w w' : World} {b g : Nat} {ao : Option Addr} {n : Nat} {cs : Nat → Int} (h : CutsAt w b g ao n cs) (hB : Below w.heap.size w w') : CutsAt w' b g ao n cs := h.fr (Fr.ofBelow hB _)
/-- What law 04's does leaves. -/
def DoesEnd (w : World) (B b g : Nat) (D : Dsk) (e : Ending) (w' : World) : Prop :=
  ∃ (b' g' : Nat) (v' : Value) (D' : Dsk), e = .returned (.tuple #[.pointer (some ⟨b', 0, none⟩), v', .bool true]) ∧ DiskAt w' B b' g' D' ∧ g' < w'.heap.size ∧ RefAt w' v' D' ∧ D'.n = D.n ∧ Fr (dfoot b g) w w' ∧ ((b' = b ∧ g' = g) ∨ (w.heap.size ≤ b' ∧ w.heap.size ≤ g'))
theorem cut70 (s : List UInt8) (w : World) : Calls Try.prog 8 #[.string (S s), .int .i64 70] w fun e w' => e = .returned (.string (S (s.take 70))) ∧ w' = w := cut_any s 70 w
theorem and255 (z : Int) : ∃ k : Nat, k ≤ 255 ∧ bits .and .i64 z 255 = (k : Int) := and_small z 255 (by decide)

theorem disk_dead_eq {B b g : Nat} {D : Dsk} (w : World) (h : DiskAt w B b g D) :
    Calls Try.prog 17 #[.pointer (some ⟨b, 0, none⟩)] w fun e w' => e = .returned (.bool D.dead) ∧ w = w' := by
  obtain ⟨ao, cap, h1, h2⟩ := h.head
  have c0 := cell_of_block h1 3
  simp only [List.getElem?_toArray, List.getElem?_cons_zero, List.getElem?_cons_succ] at c0
  clear h1 h
  go_enter Try.func17, Try.ntmps17
  go_wp2_with fail
  go_ret
  exact ⟨rfl, rfl⟩
/-- The boxes of law 04's does: the disk, the document's, the step's N and cuts, the result, At. -/
structure Boxes (w : World) (p0 p1 p2 p3 p4 b : Nat) (x : Array Value) (kind n at_ : Int) (cv : Value) : Prop where
  b0 : w.heap[p0]? = some (.cells #[.pointer (some ⟨b, 0, none⟩)] 32 (0, 0))
  b1 : w.heap[p1]? = some (.cells x 52 (0, 0))
  b2 : ∃ c, w.heap[p2]? = some (.cells c 45 (0, 0)) ∧ c[0]? = some (.int .i64 kind) ∧ c[2]? = some (.int .i64 n) ∧ c[4]? = some cv
  b3 : w.heap[p3]? = some (.cells #[.slice none 0 0, .slice none 0 0, .int .i64 0, .bool false] 52 (0, 0))
  b4 : w.heap[p4]? = some (.cells #[.int .i64 at_] 3 (0, 0))
theorem Boxes.new (w : World) (b : Nat) (x0 x1 x2 x3 : Value) (kind atx n at_ : Int) (s cv : Value) :
    Boxes (((((w.alloc (.cells #[.pointer (some ⟨b, 0, none⟩)] 32)).alloc (.cells #[x0, x1, x2, x3] 52)).alloc (.cells #[.int .i64 kind, .int .i64 atx, .int .i64 n, s, cv] 45)).alloc (.cells #[.slice none 0 0, .slice none 0 0, .int .i64 0, .bool false] 52)).alloc (.cells #[.int .i64 at_] 3)) w.heap.size (w.heap.size + 1) (w.heap.size + 1 + 1) (w.heap.size + 1 + 1 + 1) (w.heap.size + 1 + 1 + 1 + 1) b #[x0, x1, x2, x3] kind n at_ cv :=
  ⟨heap_old (heap_old (heap_old (heap_old (heap_new w _) _) _) _) _, heap_old (heap_old (heap_old (heap_newk _ (by simp)) _) _) _, ⟨_, heap_old (heap_old (heap_newk _ (by simp)) _) _, rfl, rfl, rfl⟩, heap_old (heap_newk _ (by simp)) _, heap_newk _ (by simp)⟩
theorem Boxes.fr {w w' : World} {p0 p1 p2 p3 p4 b : Nat} {x : Array Value} {kind n at_ : Int} {cv : Value} (h : Boxes w p0 p1 p2 p3 p4 b x kind n at_ cv) {T : Nat → Prop} (hF : Fr T w w') (h0 : ¬ T p0) (h1 : ¬ T p1) (h2 : ¬ T p2) (h3 : ¬ T p3) (h4 : ¬ T p4) : Boxes w' p0 p1 p2 p3 p4 b x kind n at_ cv := by
  obtain ⟨c, k1, k2⟩ := h.b2
  exact ⟨hF.heap h.b0 h0, hF.heap h.b1 h1, ⟨c, hF.heap k1 h2, k2⟩, hF.heap h.b3 h3, hF.heap h.b4 h4⟩
theorem Boxes.below {w w' : World} {p0 p1 p2 p3 p4 b : Nat} {x : Array Value} {kind n at_ : Int} {cv : Value} (h : Boxes w p0 p1 p2 p3 p4 b x kind n at_ cv) (hB : Below w.heap.size w w') : Boxes w' p0 p1 p2 p3 p4 b x kind n at_ cv := h.fr (Fr.ofBelow hB (fun _ => False)) id id id id id
theorem boxes_below (w : World) (b : Nat) (x0 x1 x2 x3 : Value) (kind atx n at_ : Int) (s cv : Value) :
    Below w.heap.size w (((((w.alloc (.cells #[.pointer (some ⟨b, 0, none⟩)] 32)).alloc (.cells #[x0, x1, x2, x3] 52)).alloc (.cells #[.int .i64 kind, .int .i64 atx, .int .i64 n, s, cv] 45)).alloc (.cells #[.slice none 0 0, .slice none 0 0, .int .i64 0, .bool false] 52)).alloc (.cells #[.int .i64 at_] 3)) :=
  (((((Below.refl _ w).alloc (Nat.le_refl _) _).alloc (by simp) _).alloc (by simp; omega) _).alloc (by simp; omega) _).alloc (by simp; omega) _

theorem results_tct {fn : Func} {q p u : Tmp} {ty : TypeId} (h : fn.results = #[.tmp q, .cell p ty, .tmp u]) (tmps : Array Value) (P : Program) (w : World) :
    (results fn tmps).run P w =
      ((asAddr (tmps.getD p undef)).run P w).andThen fun a w₁ => ((loadVar ty a).run P w₁).andThen fun v w₂ => .ok (.tuple #[tmps.getD q undef, v, tmps.getD u undef]) w₂ := by
  simp only [results, h]
  simp [Sem.run_bind, Result.andThen]
structure Shut (p : Prop) : Prop where
  out : p
theorem shared {P : Prop} (G : Prop) (f : Shut G → P) (h : G) : P := f ⟨h⟩
theorem RefAt.drew {w : World} {v : Value} {D : Dsk} (h : RefAt w v D) : RefAt w.drew v D := h.below ((Below.refl _ w).drew)
theorem RefAt.fr3 {w w' : World} {v : Value} {D : Dsk} (h : RefAt w v D) {T : Nat → Prop} (hF : Fr T w w') (hT : ∀ g c, 0 < D.n → w.heap[g]? = some (.cells c 9 (0, 0)) → ¬ T g) : RefAt w' v D := by
  obtain ⟨a1, c1, a2, c2, h1, h2, h3⟩ := h
  exact ⟨a1, c1, a2, c2, h1, h2.fr hF fun g c h0 hg _ => hT g c h0 hg, h3.fr hF fun g c h0 hg _ => hT g c h0 hg⟩
theorem Fr.undrew {T : Nat → Prop} {w w' : World} (h : Fr T w.drew w') : Fr T w w' := ⟨h.os, h.tape, h.output, h.size, h.block⟩
theorem Boxes.drew {w : World} {p0 p1 p2 p3 p4 b : Nat} {x : Array Value} {kind n at_ : Int} {cv : Value} (h : Boxes w p0 p1 p2 p3 p4 b x kind n at_ cv) : Boxes w.drew p0 p1 p2 p3 p4 b x kind n at_ cv := h.fr ((Fr.refl (fun _ => False) w).drew) id id id id id
theorem Boxes.turn {w : World} {p0 p1 p2 p3 p4 b : Nat} {x : Array Value} {kind n at_ : Int} {cv : Value} (h : Boxes w p0 p1 p2 p3 p4 b x kind n at_ cv) {x0 x1 x2 x3 : Value} (hx : x = #[x0, x1, x2, x3]) (hne : p1 ≠ p3) (u0 u1 u2 u3 : Value) :
    Boxes ((((w.setCell ⟨p1, 0, none⟩ u0).setCell ⟨p1, 1, none⟩ u1).setCell ⟨p1, 2, none⟩ u2).setCell ⟨p1, 3, none⟩ u3) p0 p1 p2 p3 p4 b #[u0, u1, u2, u3] kind n at_ cv ∧ Fr (fun k => k = p1) w ((((w.setCell ⟨p1, 0, none⟩ u0).setCell ⟨p1, 1, none⟩ u1).setCell ⟨p1, 2, none⟩ u2).setCell ⟨p1, 3, none⟩ u3) := by
  subst hx
  obtain ⟨c, k1, k2⟩ := h.b2
  exact ⟨⟨old4 h.b0 (tne h.b0 h.b1 (by decide)) u0 u1 u2 u3, set4 h.b1 u0 u1 u2 u3, ⟨c, old4 k1 (tne k1 h.b1 (by decide)) u0 u1 u2 u3, k2⟩, old4 h.b3 (fun e => hne e.symm) u0 u1 u2 u3, old4 h.b4 (tne h.b4 h.b1 (by decide)) u0 u1 u2 u3⟩, fr4 (Fr.refl (fun k => k = p1) w) rfl u0 u1 u2 u3⟩

end Go.Proofs.Ytkmbbgnbklklcaa
