/-
  Law 03's takes.
-/
import Derived.Test.YtkmbbgnbklklcaaDoorRef3e
namespace Go.Proofs.YtkmbbgnbklklcaaDoor
open Go.RowKit

theorem results_ctt {fn : Func} {p q u : Tmp} {ty : TypeId} (h : fn.results = #[.cell p ty, .tmp q, .tmp u]) (tmps : Array Value) (P : Program) (w : World) :
    (results fn tmps).run P w =
      ((asAddr (tmps.getD p undef)).run P w).andThen fun a w₁ => ((loadVar ty a).run P w₁).andThen fun v w₂ => .ok (.tuple #[v, tmps.getD q undef, tmps.getD u undef]) w₂ := by
  simp only [results, h]
  simp [Sem.run_bind, Result.andThen]
theorem and255 (z : Int) : ∃ k : Nat, k ≤ 255 ∧ bits .and .i64 z 255 = (k : Int) := by
  have h : (BitVec.ofInt 64 z &&& BitVec.ofInt 64 ((255 : Nat) : Int)).toNat ≤ 255 := by
    rw [BitVec.toNat_and]
    refine Nat.le_trans Nat.and_le_right ?_
    simp
  refine ⟨_, h, ?_⟩
  show IntKind.i64.wrap (((BitVec.ofInt 64 z &&& BitVec.ofInt 64 ((255 : Nat) : Int)).toNat : Nat) : Int) = _
  rw [IntKind.wrap_i64]
  omega

set_option maxRecDepth 100000 in
theorem takes_text (s : List UInt8) (e kind n : Int) (most : Nat) (w : World) (m : Nat) (hm : bits .and .i64 kind 255 = (m : Int)) (hk : m % 5 = 0) (ys : List UInt8) (ye : Int) (t : List UInt8)
    (hc : ∀ w, Calls Tryd.prog 74 #[.agg #[.string (S s), .int .i64 e], .int .i64 n] w fun r w' => r = .returned (.tuple #[.agg #[.string (S ys), .int .i64 ye], .string (S t)]) ∧ Below w.heap.size w w') :
    Calls Tryd.prog 21 #[.agg #[.string (S s), .int .i64 e], .agg #[.int .i64 kind, .int .i64 n, .int .u64 (most : Int)]] w fun r w' => r = .returned (.tuple #[.agg #[.string (S ys), .int .i64 ye], .int .u64 0, .string (S t)]) ∧ Below w.heap.size w w' := by
  have Hc := hid hc
  clear hc
  have e5 : (m : Int) % 5 = 0 := by omega
  go_enter Tryd.func21, Tryd.ntmps21
  go_wp2_with fail
  have hr := heap_newk (w := (w.alloc (.cells #[.string (S s), .int .i64 e] 28)).alloc (.cells #[.int .i64 kind, .int .i64 n, .int .u64 (most : Int)] 35)) (k := w.heap.size + 1 + 1) (.cells #[.string ⟨#[]⟩, .int .i64 0] 28) (by simp)
  have hB0 : Below w.heap.size w (((w.alloc (.cells #[.string (S s), .int .i64 e] 28)).alloc (.cells #[.int .i64 kind, .int .i64 n, .int .u64 (most : Int)] 35)).alloc (.cells #[.string ⟨#[]⟩, .int .i64 0] 28)) := (((Below.refl _ _).alloc (Nat.le_refl _) _).alloc (by simp) _).alloc (by simp; omega) _
  have hz : (((w.alloc (.cells #[.string (S s), .int .i64 e] 28)).alloc (.cells #[.int .i64 kind, .int .i64 n, .int .u64 (most : Int)] 35)).alloc (.cells #[.string ⟨#[]⟩, .int .i64 0] 28)).heap.size = w.heap.size + 3 := by simp
  generalize ((w.alloc (.cells #[.string (S s), .int .i64 e] 28)).alloc (.cells #[.int .i64 kind, .int .i64 n, .int .u64 (most : Int)] 35)).alloc (.cells #[.string ⟨#[]⟩, .int .i64 0] 28) = w0 at *
  (with_reducible refine (Hc.out w0).mono ?_)
  rintro r w1 ⟨rfl, hB1⟩
  have hr1 := heap_old ((hB1.block _ (by omega)).trans hr) (.cells #[.string (S ys), .int .i64 ye] 28)
  have hy1 := heap_new w1 (.cells #[.string (S ys), .int .i64 ye] 28)
  have hB2 : Below w.heap.size w (w1.alloc (.cells #[.string (S ys), .int .i64 ye] 28)) := (hB0.trans (hB1.mono (by omega))).alloc (by have := hB1.size; omega) _
  have k0 := cell_of_block hy1 0
  have k1 := cell_of_block hy1 1
  have hs1 := hB1.size
  have n0 := cell_of_block hr1 0
  have n1 := cell_of_block hr1 1
  have j0 := free_of_block hr1 0
  have j1 := free_of_block hr1 1
  simp only [List.getElem?_toArray, List.getElem?_cons_zero, List.getElem?_cons_succ] at k0 k1 n0 n1
  have Hr := hid hr1
  have HB := hid hB2
  clear hr hr1 hB0 hB1 hB2 Hc
  go_wp2_with fail
  have hw := heap_set_same (i := 1) (heap_set_same (i := 0) Hr.out (.string (S ys))) (.int .i64 ye)
  have hB9 := (HB.out.setCell (p := ⟨w.heap.size + 1 + 1, 0, none⟩) (by show w.heap.size ≤ w.heap.size + 1 + 1; omega) (.string (S ys))).setCell (p := ⟨w.heap.size + 1 + 1, 1, none⟩) (by show w.heap.size ≤ w.heap.size + 1 + 1; omega) (.int .i64 ye)
  generalize ((w1.alloc (.cells #[.string (S ys), .int .i64 ye] 28)).setCell ⟨w.heap.size + 1 + 1, 0, none⟩ (.string (S ys))).setCell ⟨w.heap.size + 1 + 1, 1, none⟩ (.int .i64 ye) = w9 at *
  refine bodyPost_ret (v := .tuple #[.agg #[.string (S ys), .int .i64 ye], .int .u64 0, .string (S t)]) ?_ rfl ⟨rfl, hB9⟩
  rw [results_ctt rfl]
  clear hB9 k0 k1 n0 n1 j0 j1
  have n0 : w9.cell? ⟨w.heap.size + 1 + 1, 0, none⟩ = some (.string (S ys)) := by have h := cell_of_block hw 0; simpa using h
  have n1 : w9.cell? ⟨w.heap.size + 1 + 1, 1, none⟩ = some (.int .i64 ye) := by have h := cell_of_block hw 1; simpa using h
  go_simp

set_option maxRecDepth 100000 in
theorem takes_num (s : List UInt8) (e kind n : Int) (most : Nat) (w : World) (m : Nat) (hm : bits .and .i64 kind 255 = (m : Int)) (hk : m % 5 = 1) (ys : List UInt8) (ye : Int) (N : Nat)
    (hc : ∀ w, Calls Tryd.prog 75 #[.agg #[.string (S s), .int .i64 e], .int .i64 n] w fun r w' => r = .returned (.tuple #[.agg #[.string (S ys), .int .i64 ye], .int .u64 (N : Int)]) ∧ Below w.heap.size w w') :
    Calls Tryd.prog 21 #[.agg #[.string (S s), .int .i64 e], .agg #[.int .i64 kind, .int .i64 n, .int .u64 (most : Int)]] w fun r w' => r = .returned (.tuple #[.agg #[.string (S ys), .int .i64 ye], .int .u64 (N : Int), .string ⟨#[]⟩]) ∧ Below w.heap.size w w' := by
  have Hc := hid hc
  clear hc
  have e5 : (m : Int) % 5 = 1 := by omega
  go_enter Tryd.func21, Tryd.ntmps21
  go_wp2_with fail
  have hr := heap_newk (w := (w.alloc (.cells #[.string (S s), .int .i64 e] 28)).alloc (.cells #[.int .i64 kind, .int .i64 n, .int .u64 (most : Int)] 35)) (k := w.heap.size + 1 + 1) (.cells #[.string ⟨#[]⟩, .int .i64 0] 28) (by simp)
  have hB0 : Below w.heap.size w (((w.alloc (.cells #[.string (S s), .int .i64 e] 28)).alloc (.cells #[.int .i64 kind, .int .i64 n, .int .u64 (most : Int)] 35)).alloc (.cells #[.string ⟨#[]⟩, .int .i64 0] 28)) := (((Below.refl _ _).alloc (Nat.le_refl _) _).alloc (by simp) _).alloc (by simp; omega) _
  have hz : (((w.alloc (.cells #[.string (S s), .int .i64 e] 28)).alloc (.cells #[.int .i64 kind, .int .i64 n, .int .u64 (most : Int)] 35)).alloc (.cells #[.string ⟨#[]⟩, .int .i64 0] 28)).heap.size = w.heap.size + 3 := by simp
  generalize ((w.alloc (.cells #[.string (S s), .int .i64 e] 28)).alloc (.cells #[.int .i64 kind, .int .i64 n, .int .u64 (most : Int)] 35)).alloc (.cells #[.string ⟨#[]⟩, .int .i64 0] 28) = w0 at *
  (with_reducible refine (Hc.out w0).mono ?_)
  rintro r w1 ⟨rfl, hB1⟩
  have hr1 := heap_old ((hB1.block _ (by omega)).trans hr) (.cells #[.string (S ys), .int .i64 ye] 28)
  have hy1 := heap_new w1 (.cells #[.string (S ys), .int .i64 ye] 28)
  have hB2 : Below w.heap.size w (w1.alloc (.cells #[.string (S ys), .int .i64 ye] 28)) := (hB0.trans (hB1.mono (by omega))).alloc (by have := hB1.size; omega) _
  have k0 := cell_of_block hy1 0
  have k1 := cell_of_block hy1 1
  have hs1 := hB1.size
  have n0 := cell_of_block hr1 0
  have n1 := cell_of_block hr1 1
  have j0 := free_of_block hr1 0
  have j1 := free_of_block hr1 1
  simp only [List.getElem?_toArray, List.getElem?_cons_zero, List.getElem?_cons_succ] at k0 k1 n0 n1
  have Hr := hid hr1
  have HB := hid hB2
  clear hr hr1 hB0 hB1 hB2 Hc
  go_wp2_with fail
  have hw := heap_set_same (i := 1) (heap_set_same (i := 0) Hr.out (.string (S ys))) (.int .i64 ye)
  have hB9 := (HB.out.setCell (p := ⟨w.heap.size + 1 + 1, 0, none⟩) (by show w.heap.size ≤ w.heap.size + 1 + 1; omega) (.string (S ys))).setCell (p := ⟨w.heap.size + 1 + 1, 1, none⟩) (by show w.heap.size ≤ w.heap.size + 1 + 1; omega) (.int .i64 ye)
  generalize ((w1.alloc (.cells #[.string (S ys), .int .i64 ye] 28)).setCell ⟨w.heap.size + 1 + 1, 0, none⟩ (.string (S ys))).setCell ⟨w.heap.size + 1 + 1, 1, none⟩ (.int .i64 ye) = w9 at *
  refine bodyPost_ret (v := .tuple #[.agg #[.string (S ys), .int .i64 ye], .int .u64 (N : Int), .string ⟨#[]⟩]) ?_ rfl ⟨rfl, hB9⟩
  rw [results_ctt rfl]
  clear hB9 k0 k1 n0 n1 j0 j1
  have n0 : w9.cell? ⟨w.heap.size + 1 + 1, 0, none⟩ = some (.string (S ys)) := by have h := cell_of_block hw 0; simpa using h
  have n1 : w9.cell? ⟨w.heap.size + 1 + 1, 1, none⟩ = some (.int .i64 ye) := by have h := cell_of_block hw 1; simpa using h
  go_simp

set_option maxRecDepth 100000 in
theorem takes_small (s : List UInt8) (e kind n : Int) (most : Nat) (w : World) (m : Nat) (hm : bits .and .i64 kind 255 = (m : Int)) (hk : m % 5 = 2) (ys : List UInt8) (ye : Int) (N : Nat) (eN : IntKind.u64.wrap (N : Int) = (N : Int))
    (hc : ∀ w, Calls Tryd.prog 76 #[.agg #[.string (S s), .int .i64 e], .int .i64 n, .int .u64 (most : Int)] w fun r w' => r = .returned (.tuple #[.agg #[.string (S ys), .int .i64 ye], .int .i64 (N : Int)]) ∧ Below w.heap.size w w') :
    Calls Tryd.prog 21 #[.agg #[.string (S s), .int .i64 e], .agg #[.int .i64 kind, .int .i64 n, .int .u64 (most : Int)]] w fun r w' => r = .returned (.tuple #[.agg #[.string (S ys), .int .i64 ye], .int .u64 (N : Int), .string ⟨#[]⟩]) ∧ Below w.heap.size w w' := by
  have Hc := hid hc
  clear hc
  have e5 : (m : Int) % 5 = 2 := by omega
  go_enter Tryd.func21, Tryd.ntmps21
  go_wp2_with fail
  have hr := heap_newk (w := (w.alloc (.cells #[.string (S s), .int .i64 e] 28)).alloc (.cells #[.int .i64 kind, .int .i64 n, .int .u64 (most : Int)] 35)) (k := w.heap.size + 1 + 1) (.cells #[.string ⟨#[]⟩, .int .i64 0] 28) (by simp)
  have hB0 : Below w.heap.size w (((w.alloc (.cells #[.string (S s), .int .i64 e] 28)).alloc (.cells #[.int .i64 kind, .int .i64 n, .int .u64 (most : Int)] 35)).alloc (.cells #[.string ⟨#[]⟩, .int .i64 0] 28)) := (((Below.refl _ _).alloc (Nat.le_refl _) _).alloc (by simp) _).alloc (by simp; omega) _
  have hz : (((w.alloc (.cells #[.string (S s), .int .i64 e] 28)).alloc (.cells #[.int .i64 kind, .int .i64 n, .int .u64 (most : Int)] 35)).alloc (.cells #[.string ⟨#[]⟩, .int .i64 0] 28)).heap.size = w.heap.size + 3 := by simp
  generalize ((w.alloc (.cells #[.string (S s), .int .i64 e] 28)).alloc (.cells #[.int .i64 kind, .int .i64 n, .int .u64 (most : Int)] 35)).alloc (.cells #[.string ⟨#[]⟩, .int .i64 0] 28) = w0 at *
  (with_reducible refine (Hc.out w0).mono ?_)
  rintro r w1 ⟨rfl, hB1⟩
  have hr1 := heap_old ((hB1.block _ (by omega)).trans hr) (.cells #[.string (S ys), .int .i64 ye] 28)
  have hy1 := heap_new w1 (.cells #[.string (S ys), .int .i64 ye] 28)
  have hB2 : Below w.heap.size w (w1.alloc (.cells #[.string (S ys), .int .i64 ye] 28)) := (hB0.trans (hB1.mono (by omega))).alloc (by have := hB1.size; omega) _
  have k0 := cell_of_block hy1 0
  have k1 := cell_of_block hy1 1
  have hs1 := hB1.size
  have n0 := cell_of_block hr1 0
  have n1 := cell_of_block hr1 1
  have j0 := free_of_block hr1 0
  have j1 := free_of_block hr1 1
  simp only [List.getElem?_toArray, List.getElem?_cons_zero, List.getElem?_cons_succ] at k0 k1 n0 n1
  have Hr := hid hr1
  have HB := hid hB2
  clear hr hr1 hB0 hB1 hB2 Hc
  go_wp2_with fail
  have hw := heap_set_same (i := 1) (heap_set_same (i := 0) Hr.out (.string (S ys))) (.int .i64 ye)
  have hB9 := (HB.out.setCell (p := ⟨w.heap.size + 1 + 1, 0, none⟩) (by show w.heap.size ≤ w.heap.size + 1 + 1; omega) (.string (S ys))).setCell (p := ⟨w.heap.size + 1 + 1, 1, none⟩) (by show w.heap.size ≤ w.heap.size + 1 + 1; omega) (.int .i64 ye)
  generalize ((w1.alloc (.cells #[.string (S ys), .int .i64 ye] 28)).setCell ⟨w.heap.size + 1 + 1, 0, none⟩ (.string (S ys))).setCell ⟨w.heap.size + 1 + 1, 1, none⟩ (.int .i64 ye) = w9 at *
  refine bodyPost_ret (v := .tuple #[.agg #[.string (S ys), .int .i64 ye], .int .u64 (N : Int), .string ⟨#[]⟩]) ?_ rfl ⟨rfl, hB9⟩
  rw [results_ctt rfl]
  clear hB9 k0 k1 n0 n1 j0 j1
  have n0 : w9.cell? ⟨w.heap.size + 1 + 1, 0, none⟩ = some (.string (S ys)) := by have h := cell_of_block hw 0; simpa using h
  have n1 : w9.cell? ⟨w.heap.size + 1 + 1, 1, none⟩ = some (.int .i64 ye) := by have h := cell_of_block hw 1; simpa using h
  go_simp

set_option maxRecDepth 100000 in
theorem takes_zero (s : List UInt8) (e kind n : Int) (most : Nat) (w : World) (m : Nat) (hm : bits .and .i64 kind 255 = (m : Int)) (hk : m % 5 = 3) (ys : List UInt8) (ye : Int) 
    (hc : ∀ w, Calls Tryd.prog 77 #[.agg #[.string (S s), .int .i64 e]] w fun r w' => r = .returned (.agg #[.string (S ys), .int .i64 ye]) ∧ Below w.heap.size w w') :
    Calls Tryd.prog 21 #[.agg #[.string (S s), .int .i64 e], .agg #[.int .i64 kind, .int .i64 n, .int .u64 (most : Int)]] w fun r w' => r = .returned (.tuple #[.agg #[.string (S ys), .int .i64 ye], .int .u64 0, .string ⟨#[]⟩]) ∧ Below w.heap.size w w' := by
  have Hc := hid hc
  clear hc
  have e5 : (m : Int) % 5 = 3 := by omega
  go_enter Tryd.func21, Tryd.ntmps21
  go_wp2_with fail
  have hr := heap_newk (w := (w.alloc (.cells #[.string (S s), .int .i64 e] 28)).alloc (.cells #[.int .i64 kind, .int .i64 n, .int .u64 (most : Int)] 35)) (k := w.heap.size + 1 + 1) (.cells #[.string ⟨#[]⟩, .int .i64 0] 28) (by simp)
  have hB0 : Below w.heap.size w (((w.alloc (.cells #[.string (S s), .int .i64 e] 28)).alloc (.cells #[.int .i64 kind, .int .i64 n, .int .u64 (most : Int)] 35)).alloc (.cells #[.string ⟨#[]⟩, .int .i64 0] 28)) := (((Below.refl _ _).alloc (Nat.le_refl _) _).alloc (by simp) _).alloc (by simp; omega) _
  have hz : (((w.alloc (.cells #[.string (S s), .int .i64 e] 28)).alloc (.cells #[.int .i64 kind, .int .i64 n, .int .u64 (most : Int)] 35)).alloc (.cells #[.string ⟨#[]⟩, .int .i64 0] 28)).heap.size = w.heap.size + 3 := by simp
  generalize ((w.alloc (.cells #[.string (S s), .int .i64 e] 28)).alloc (.cells #[.int .i64 kind, .int .i64 n, .int .u64 (most : Int)] 35)).alloc (.cells #[.string ⟨#[]⟩, .int .i64 0] 28) = w0 at *
  (with_reducible refine (Hc.out w0).mono ?_)
  rintro r w1 ⟨rfl, hB1⟩
  have hr1 := (hB1.block _ (by omega)).trans hr
  have hB2 : Below w.heap.size w w1 := hB0.trans (hB1.mono (by omega))
  have hs1 := hB1.size
  have n0 := cell_of_block hr1 0
  have n1 := cell_of_block hr1 1
  have j0 := free_of_block hr1 0
  have j1 := free_of_block hr1 1
  simp only [List.getElem?_toArray, List.getElem?_cons_zero, List.getElem?_cons_succ] at n0 n1
  have Hr := hid hr1
  have HB := hid hB2
  clear hr hr1 hB0 hB1 hB2 Hc
  go_wp2_with fail
  have hw := heap_set_same (i := 1) (heap_set_same (i := 0) Hr.out (.string (S ys))) (.int .i64 ye)
  have hB9 := (HB.out.setCell (p := ⟨w.heap.size + 1 + 1, 0, none⟩) (by show w.heap.size ≤ w.heap.size + 1 + 1; omega) (.string (S ys))).setCell (p := ⟨w.heap.size + 1 + 1, 1, none⟩) (by show w.heap.size ≤ w.heap.size + 1 + 1; omega) (.int .i64 ye)
  generalize (w1.setCell ⟨w.heap.size + 1 + 1, 0, none⟩ (.string (S ys))).setCell ⟨w.heap.size + 1 + 1, 1, none⟩ (.int .i64 ye) = w9 at *
  refine bodyPost_ret (v := .tuple #[.agg #[.string (S ys), .int .i64 ye], .int .u64 0, .string ⟨#[]⟩]) ?_ rfl ⟨rfl, hB9⟩
  rw [results_ctt rfl]
  clear hB9 n0 n1 j0 j1
  have n0 : w9.cell? ⟨w.heap.size + 1 + 1, 0, none⟩ = some (.string (S ys)) := by have h := cell_of_block hw 0; simpa using h
  have n1 : w9.cell? ⟨w.heap.size + 1 + 1, 1, none⟩ = some (.int .i64 ye) := by have h := cell_of_block hw 1; simpa using h
  go_simp

set_option maxRecDepth 100000 in
theorem takes_done (s : List UInt8) (e kind n : Int) (most : Nat) (w : World) (m : Nat) (hm : bits .and .i64 kind 255 = (m : Int)) (hk : m % 5 = 4) (ys : List UInt8) (ye : Int) 
    (hc : ∀ w, Calls Tryd.prog 78 #[.agg #[.string (S s), .int .i64 e]] w fun r w' => r = .returned (.agg #[.string (S ys), .int .i64 ye]) ∧ Below w.heap.size w w') :
    Calls Tryd.prog 21 #[.agg #[.string (S s), .int .i64 e], .agg #[.int .i64 kind, .int .i64 n, .int .u64 (most : Int)]] w fun r w' => r = .returned (.tuple #[.agg #[.string (S ys), .int .i64 ye], .int .u64 0, .string ⟨#[]⟩]) ∧ Below w.heap.size w w' := by
  have Hc := hid hc
  clear hc
  have e5 : (m : Int) % 5 = 4 := by omega
  go_enter Tryd.func21, Tryd.ntmps21
  go_wp2_with fail
  have hr := heap_newk (w := (w.alloc (.cells #[.string (S s), .int .i64 e] 28)).alloc (.cells #[.int .i64 kind, .int .i64 n, .int .u64 (most : Int)] 35)) (k := w.heap.size + 1 + 1) (.cells #[.string ⟨#[]⟩, .int .i64 0] 28) (by simp)
  have hB0 : Below w.heap.size w (((w.alloc (.cells #[.string (S s), .int .i64 e] 28)).alloc (.cells #[.int .i64 kind, .int .i64 n, .int .u64 (most : Int)] 35)).alloc (.cells #[.string ⟨#[]⟩, .int .i64 0] 28)) := (((Below.refl _ _).alloc (Nat.le_refl _) _).alloc (by simp) _).alloc (by simp; omega) _
  have hz : (((w.alloc (.cells #[.string (S s), .int .i64 e] 28)).alloc (.cells #[.int .i64 kind, .int .i64 n, .int .u64 (most : Int)] 35)).alloc (.cells #[.string ⟨#[]⟩, .int .i64 0] 28)).heap.size = w.heap.size + 3 := by simp
  generalize ((w.alloc (.cells #[.string (S s), .int .i64 e] 28)).alloc (.cells #[.int .i64 kind, .int .i64 n, .int .u64 (most : Int)] 35)).alloc (.cells #[.string ⟨#[]⟩, .int .i64 0] 28) = w0 at *
  (with_reducible refine (Hc.out w0).mono ?_)
  rintro r w1 ⟨rfl, hB1⟩
  have hr1 := (hB1.block _ (by omega)).trans hr
  have hB2 : Below w.heap.size w w1 := hB0.trans (hB1.mono (by omega))
  have hs1 := hB1.size
  have n0 := cell_of_block hr1 0
  have n1 := cell_of_block hr1 1
  have j0 := free_of_block hr1 0
  have j1 := free_of_block hr1 1
  simp only [List.getElem?_toArray, List.getElem?_cons_zero, List.getElem?_cons_succ] at n0 n1
  have Hr := hid hr1
  have HB := hid hB2
  clear hr hr1 hB0 hB1 hB2 Hc
  go_wp2_with fail
  have hw := heap_set_same (i := 1) (heap_set_same (i := 0) Hr.out (.string (S ys))) (.int .i64 ye)
  have hB9 := (HB.out.setCell (p := ⟨w.heap.size + 1 + 1, 0, none⟩) (by show w.heap.size ≤ w.heap.size + 1 + 1; omega) (.string (S ys))).setCell (p := ⟨w.heap.size + 1 + 1, 1, none⟩) (by show w.heap.size ≤ w.heap.size + 1 + 1; omega) (.int .i64 ye)
  generalize (w1.setCell ⟨w.heap.size + 1 + 1, 0, none⟩ (.string (S ys))).setCell ⟨w.heap.size + 1 + 1, 1, none⟩ (.int .i64 ye) = w9 at *
  refine bodyPost_ret (v := .tuple #[.agg #[.string (S ys), .int .i64 ye], .int .u64 0, .string ⟨#[]⟩]) ?_ rfl ⟨rfl, hB9⟩
  rw [results_ctt rfl]
  clear hB9 n0 n1 j0 j1
  have n0 : w9.cell? ⟨w.heap.size + 1 + 1, 0, none⟩ = some (.string (S ys)) := by have h := cell_of_block hw 0; simpa using h
  have n1 : w9.cell? ⟨w.heap.size + 1 + 1, 1, none⟩ = some (.int .i64 ye) := by have h := cell_of_block hw 1; simpa using h
  go_simp
end Go.Proofs.YtkmbbgnbklklcaaDoor
