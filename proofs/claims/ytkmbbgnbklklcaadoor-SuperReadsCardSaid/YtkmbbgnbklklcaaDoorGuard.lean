/-
  Contracts of package pack's Fail, catch, try, Guard.
-/
import Derived.Test.YtkmbbgnbklklcaaDoorRows
import Derived.Test.YtkmbbgnbklklcaaDoorBase
namespace Go.Proofs.YtkmbbgnbklklcaaDoor
open Go.RowKit

/-- What 'pack.Fail' panics with. -/
def fault (c : Int) : List PanicEntry := [{ v := .iface 144 (.agg #[.int .i64 c]), recovered := false }]

theorem fail_any (c : Int) (w : World) :
    Calls Tryd.prog 79 #[.int .i64 c] w fun e w' => e = .panicked (fault c) ∧ w = w' := by
  go_enter Tryd.func79, Tryd.ntmps79
  go_wp2
  exact ⟨rfl, rfl, rfl⟩

set_option maxRecDepth 100000 in
theorem catch_idle (p : Addr) (w : World) :
    CallsD Tryd.prog 105 #[.pointer (some p)] .returning w fun e u' w' =>
      e = .returned (.tuple #[]) ∧ u' = .returning ∧ w = w' := by
  refine callsD_of_wpS Tryd.func105 rfl fun c₀ cs hu => ?_
  simp only [Tryd.ntmps105, List.size_toArray, List.length_cons, List.length_nil, Nat.reduceAdd, Nat.reduceSub, Array.replicate_succ,
     Array.replicate_zero, List.push_toArray, List.append_toArray, List.nil_append, List.cons_append]
  apply wpS_seq
  apply wpS_region
  simp [wpOpsS, go_sem, recoverD, hu, Exit.thenS]
  refine wpS_of_wp ?_
  go_wp2
  refine ⟨rfl, .returning, by cases c₀; simp_all, _, results_none rfl _ _ _, rfl, rfl, rfl⟩

set_option maxRecDepth 100000 in
theorem catch_fault (n : Nat) (c : Int) (w : World) (v : Value) (he : w.heap[n]? = some (.cells #[v] 29 (0, 0))) :
    CallsD Tryd.prog 105 #[.pointer (some ⟨n, 0, none⟩)] (.panicking (fault c)) w fun e u' w' =>
      e = .returned (.tuple #[]) ∧ u' = .panicking [{ v := .iface 144 (.agg #[.int .i64 c]), recovered := true }] ∧
        (w.setCell ⟨n, 0, none⟩ (.int .i64 c)).alloc (.cells #[.int .i64 c] 144) = w' := by
  have ha : ∀ w : World, (Instr.typeAssert (.iface 144 (.agg #[.int .i64 c])) 20 144 true).run Tryd.prog w = .ok (.tuple #[.agg #[.int .i64 c], .bool true]) w := fun w => by kernel_rfl
  have hb := lt_of_block he
  have hc := cell_of_one he
  have hf := free_of_one he
  clear he
  refine callsD_of_wpS Tryd.func105 rfl fun c₀ cs hu => ?_
  simp only [Tryd.ntmps105, List.size_toArray, List.length_cons, List.length_nil, Nat.reduceAdd, Nat.reduceSub, Array.replicate_succ,
     Array.replicate_zero, List.push_toArray, List.append_toArray, List.nil_append, List.cons_append]
  apply wpS_seq
  apply wpS_region
  simp [wpOpsS, go_sem, recoverD, hu, fault, Exit.thenS]
  refine wpS_of_wp ?_
  go_wp2
  exact ⟨rfl, _, rfl, _, results_none rfl _ _ _, rfl, rfl, rfl⟩

/-- The function value runs function f on what it captured. -/
def Enters (f : FuncId) (cap : Array Value) : Prop := ∀ w : World, (callFunc f cap).run Tryd.prog w = .ok (.enter f cap) w

set_option maxRecDepth 100000 in
theorem try_any (f : FuncId) (cap : Array Value) (n : Nat) (w : World) (R : Int → World → Prop) (hin : Enters f cap)
    (hrun : Calls Tryd.prog f cap w fun e w' => w'.heap[n]? = some (.cells #[.int .i64 0] 29 (0, 0)) ∧
      ((∃ v, e = .returned v ∧ R 0 w') ∨ ∃ c, e = .panicked (fault c) ∧ R c w')) :
    Calls Tryd.prog 73 #[.func (.func f) #[] cap, .pointer (some ⟨n, 0, none⟩)] w fun e w3 =>
      e = .returned (.tuple #[]) ∧ ∃ c w', R c w' ∧ Fr (fun k => k = n) w' w3 ∧ w3.heap[n]? = some (.cells #[.int .i64 c] 29 (0, 0)) := by
  have hrun' := hid hrun
  clear hrun
  go_enter_defers Tryd.func73, Tryd.ntmps73
  go_wp2
  rw [hin w, Oper.upon_enter]
  refine hrun'.out.mono ?_
  rintro e w' ⟨hn, ⟨v, rfl, hR⟩ | ⟨c, rfl, hR⟩⟩
  · dsimp only
    go_wp2
    refine leaves_cons (f := 105) (args := #[.pointer (some ⟨n, 0, none⟩)]) (by simp) (by simp [go_sem]) ?_
    refine (catch_idle _ _).mono ?_
    rintro e u' w'' ⟨rfl, rfl, rfl⟩
    exact ⟨_, results_none rfl _ _ _, rfl, 0, w', hR, Fr.refl _ _, hn⟩
  · dsimp only
    refine leaves_cons (f := 105) (args := #[.pointer (some ⟨n, 0, none⟩)]) (by simp) (by simp [go_sem]) ?_
    refine (catch_fault n c w' _ hn).mono ?_
    rintro e u' w'' ⟨rfl, rfl, rfl⟩
    exact ⟨_, results_none rfl _ _ _, rfl, c, w', hR, ((Fr.refl (fun k => k = n) w').setCell (p := ⟨n, 0, none⟩) (fun _ => rfl) _).alloc _, heap_old (one_setCell hn) _⟩

set_option maxRecDepth 100000 in
theorem guard_any (f : FuncId) (cap : Array Value) (w : World) (R : Int → World → Prop) (hin : Enters f cap)
    (hrun : Calls Tryd.prog f cap (w.alloc (.cells #[.int .i64 0] 29)) fun e w' => w'.heap[w.heap.size]? = some (.cells #[.int .i64 0] 29 (0, 0)) ∧
      ((∃ v, e = .returned v ∧ R 0 w') ∨ ∃ c, e = .panicked (fault c) ∧ R c w')) :
    Calls Tryd.prog 19 #[.func (.func f) #[] cap] w fun e w3 =>
      ∃ c w', e = .returned (.int .i64 c) ∧ R c w' ∧ Fr (fun k => k = w.heap.size) w' w3 := by
  have H := hid (try_any f cap w.heap.size _ R hin hrun)
  clear hrun
  go_enter Tryd.func19, Tryd.ntmps19
  go_wp2_with fail
  refine H.out.mono ?_
  rintro e w3 ⟨rfl, c, w', hR, hF, hc⟩
  have h0 := cell_of_one hc
  clear hc
  go_wp2
  go_ret
  exact ⟨c, w', rfl, hR, hF⟩

/-- A Guard whose function touches nothing that was there. -/
theorem guard_quiet (f : FuncId) (cap : Array Value) (w : World) (c0 : Int) (hin : Enters f cap)
    (hrun : Calls Tryd.prog f cap (w.alloc (.cells #[.int .i64 0] 29)) fun e w' => Below (w.heap.size + 1) (w.alloc (.cells #[.int .i64 0] 29)) w' ∧
      ((∃ v, e = .returned v ∧ c0 = 0) ∨ e = .panicked (fault c0))) :
    Calls Tryd.prog 19 #[.func (.func f) #[] cap] w fun e w3 => e = .returned (.int .i64 c0) ∧ Below w.heap.size w w3 := by
  refine (guard_any f cap w (fun c w' => c = c0 ∧ Below w.heap.size w w') hin (hrun.mono ?_)).mono ?_
  · rintro e w' ⟨hB, h⟩
    refine ⟨(hB.block w.heap.size (by omega)).trans (heap_new _ _), ?_⟩
    have hB2 : Below w.heap.size w w' := ((Below.refl w.heap.size w).alloc (Nat.le_refl _) _).trans (hB.mono (by omega))
    rcases h with ⟨v, rfl, h0⟩ | rfl
    · exact .inl ⟨v, rfl, h0.symm, hB2⟩
    · exact .inr ⟨c0, rfl, rfl, hB2⟩
  · rintro e w3 ⟨c, w', rfl, ⟨rfl, hB⟩, hF⟩
    exact ⟨rfl, hB.trans (hF.below hB.size (fun k hk e => by omega))⟩

end Go.Proofs.YtkmbbgnbklklcaaDoor
