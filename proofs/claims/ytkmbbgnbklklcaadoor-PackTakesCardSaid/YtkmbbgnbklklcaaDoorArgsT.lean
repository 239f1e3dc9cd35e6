/-
  Law 03: things to be taken, as they are handed in.
-/
import Derived.Test.YtkmbbgnbklklcaaDoorGuard
import Derived.Test.YtkmbbgnbklklcaaDoorArgsS
namespace Go.Proofs.YtkmbbgnbklklcaaDoor
open Go.ChangeShapes Go.WideShapes Go.Deep Go.RowKit

/-- A thing that is taken, as it is handed in. -/
structure Take3 where
  kind : Int
  n : Int
  most : Nat
structure Takes3 (w : World) (a : Option Addr) (len cap : Nat) (E : Nat → Take3) : Prop where
  max : len ≤ maxLen
  le : len ≤ cap
  reads : 0 < len → ∃ ad, a = some ad ∧ ∀ i, i < len → w.cell? (ad.add (i * 3)) = some (.int .i64 (E i).kind) ∧ w.cell? ⟨(ad.add (i * 3)).block, (ad.add (i * 3)).off + 1, none⟩ = some (.int .i64 (E i).n) ∧ w.cell? ⟨(ad.add (i * 3)).block, (ad.add (i * 3)).off + 2, none⟩ = some (.int .u64 ((E i).most : Int))
theorem add_field3 (a : Addr) (i j : Nat) (hj : 0 < j) : a.add (i + j) = ⟨(a.add i).block, (a.add i).off + j, none⟩ := by
  unfold Addr.add
  rw [if_neg (by omega)]
  by_cases hi : i = 0 <;> simp [hi, Nat.add_assoc]
theorem args_takes3 {H : Type} {enc : TypeId × Value → H} {w : World} {held : Bool} {a : Option Addr} {len cap : Nat} {x : DataW H × List MemPlace} (h : ∃ fuel, DataW.trod enc Tryd.prog w 0 (fun _ => true) held fuel 22 [.slice a len cap] = some x) :
    ∃ E : Nat → Take3, Takes3 w a len cap E := by
  obtain ⟨fuel, hf⟩ := h
  obtain ⟨hm, hc, hr⟩ := open_slice_ints Tryd.underlying22 Tryd.underlying35 (by kernel_rfl) (by kernel_rfl) hf
  by_cases h0 : 0 < len
  · obtain ⟨ad, rfl, hg⟩ := hr h0
    have h3 : ∀ i, ∃ E : Take3, i < len → w.cell? (ad.add (i * 3)) = some (.int .i64 E.kind) ∧ w.cell? ⟨(ad.add (i * 3)).block, (ad.add (i * 3)).off + 1, none⟩ = some (.int .i64 E.n) ∧ w.cell? ⟨(ad.add (i * 3)).block, (ad.add (i * 3)).off + 2, none⟩ = some (.int .u64 (E.most : Int)) := fun i => by
      by_cases hi : i < len
      · obtain ⟨v0, c0, n0, y0, t0⟩ := hg i hi 0 _ rfl
        obtain ⟨v1, c1, n1, y1, t1⟩ := hg i hi 1 _ rfl
        obtain ⟨v2, c2, n2, y2, t2⟩ := hg i hi 2 _ rfl
        obtain ⟨z0, e0, _⟩ := DataW.trod_int Tryd.underlying3 t0
        obtain ⟨z1, e1, _⟩ := DataW.trod_int Tryd.underlying3 t1
        obtain ⟨z2, e2, _, h2⟩ := DataW.trod_int Tryd.underlying31 t2
        simp only [List.cons.injEq, and_true] at e0 e1 e2
        subst e0 e1 e2
        refine ⟨⟨z0, z1, z2.toNat⟩, fun _ => ⟨c0, ?_, ?_⟩⟩
        · rw [← add_field3 _ _ _ (by decide)]; exact c1
        · rw [← add_field3 _ _ _ (by decide)]
          rw [show ((z2.toNat : Nat) : Int) = z2 by
            have h9 : 0 ≤ z2 ∧ z2 ≤ 18446744073709551615 := by simpa [Lit.wf, IntKind.min, IntKind.max, IntKind.signed, IntKind.bits] using h2
            omega]
          exact c2
      · exact ⟨⟨0, 0, 0⟩, fun h => absurd h hi⟩
    exact ⟨fun i => Classical.choose (h3 i), ⟨hm, hc, fun _ => ⟨ad, rfl, fun i hi => Classical.choose_spec (h3 i) hi⟩⟩⟩
  · exact ⟨fun _ => ⟨0, 0, 0⟩, ⟨hm, hc, fun h => absurd h h0⟩⟩
end Go.Proofs.YtkmbbgnbklklcaaDoor
