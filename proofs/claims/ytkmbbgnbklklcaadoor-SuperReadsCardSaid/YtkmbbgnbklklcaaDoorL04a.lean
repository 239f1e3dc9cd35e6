/-
  Law 04's Read, Write, Sync.
-/
import Derived.Test.YtkmbbgnbklklcaaDoorDiskE
namespace Go.Proofs.YtkmbbgnbklklcaaDoor
open Go.RowKit

set_option maxRecDepth 100000 in
theorem try_recv (f : FuncId) (x : Value) (n : Nat) (w : World) (R : Int → World → Prop) (hin : Enters f #[x])
    (hrun : Calls Tryd.prog f #[x] w fun e w' => w'.heap[n]? = some (.cells #[.int .i64 0] 29 (0, 0)) ∧
      ((∃ v, e = .returned v ∧ R 0 w') ∨ ∃ c, e = .panicked (fault c) ∧ R c w')) :
    Calls Tryd.prog 73 #[.func (.func f) #[x] #[], .pointer (some ⟨n, 0, none⟩)] w fun e w3 =>
      e = .returned (.tuple #[]) ∧ ∃ c w', R c w' ∧ Fr (fun k => k = n) w' w3 ∧ w3.heap[n]? = some (.cells #[.int .i64 c] 29 (0, 0)) := by
  have hrun' := hid hrun
  clear hrun
  go_enter_defers Tryd.func73, Tryd.ntmps73
  go_wp2
  rw [hin w, Oper.upon_enter]
  refine hrun'.out.mono ?_
  rintro e w' ⟨hn, ⟨v, rfl, hR⟩ | ⟨c, rfl, hR⟩⟩
  · dsimp only
    go_wp2
    refine leaves_cons (f := 105) (args := #[.pointer (some ⟨n, 0, none⟩)]) (by simp) (by simp [go_sem]) ?_
    refine (catch_idle _ _).mono ?_
    rintro e u' w'' ⟨rfl, rfl, rfl⟩
    exact ⟨_, results_none rfl _ _ _, rfl, 0, w', hR, Fr.refl _ _, hn⟩
  · dsimp only
    refine leaves_cons (f := 105) (args := #[.pointer (some ⟨n, 0, none⟩)]) (by simp) (by simp [go_sem]) ?_
    refine (catch_fault n c w' _ hn).mono ?_
    rintro e u' w'' ⟨rfl, rfl, rfl⟩
    exact ⟨_, results_none rfl _ _ _, rfl, c, w', hR, ((Fr.refl (fun k => k = n) w').setCell (p := ⟨n, 0, none⟩) (fun _ => rfl) _).alloc _, heap_old (one_setCell hn) _⟩

theorem guard_recv (f : FuncId) (x : Value) (w : World) (R : Int → World → Prop) (hin : Enters f #[x])
    (hrun : Calls Tryd.prog f #[x] (w.alloc (.cells #[.int .i64 0] 29)) fun e w' => w'.heap[w.heap.size]? = some (.cells #[.int .i64 0] 29 (0, 0)) ∧
      ((∃ v, e = .returned v ∧ R 0 w') ∨ ∃ c, e = .panicked (fault c) ∧ R c w')) :
    Calls Tryd.prog 19 #[.func (.func f) #[x] #[]] w fun e w3 =>
      ∃ c w', e = .returned (.int .i64 c) ∧ R c w' ∧ Fr (fun k => k = w.heap.size) w' w3 := by
  have H := hid (try_recv f x w.heap.size _ R hin hrun)
  clear hrun
  go_enter Tryd.func19, Tryd.ntmps19
  go_wp2_with fail
  refine H.out.mono ?_
  rintro e w3 ⟨rfl, c, w', hR, hF, hc⟩
  have h0 := cell_of_one hc
  clear hc
  go_wp2
  go_ret
  exact ⟨c, w', rfl, hR, hF⟩

/-- What runs leaves all but the blocks S as it was, and P. -/
theorem guard_fr_recv (f : FuncId) (x : Value) (w : World) (c0 : Int) (S : Nat → Prop) (P : World → Prop) (hin : Enters f #[x]) (hS : ¬ S w.heap.size)
    (hP : ∀ w1 w2, w.heap.size < w1.heap.size → P w1 → Fr (fun k => k = w.heap.size) w1 w2 → P w2)
    (hrun : Calls Tryd.prog f #[x] (w.alloc (.cells #[.int .i64 0] 29)) fun e w' => Fr S (w.alloc (.cells #[.int .i64 0] 29)) w' ∧ P w' ∧ ((∃ v, e = .returned v ∧ c0 = 0) ∨ e = .panicked (fault c0))) :
    Calls Tryd.prog 19 #[.func (.func f) #[x] #[]] w fun e w3 => e = .returned (.int .i64 c0) ∧ Fr S w w3 ∧ P w3 := by
  refine (guard_recv f x w (fun c w' => c = c0 ∧ Fr S w w' ∧ P w' ∧ w.heap.size < w'.heap.size) hin (hrun.mono ?_)).mono ?_
  · rintro e w' ⟨hF, hp, h⟩
    have hF2 : Fr S w w' := ((Fr.refl S w).alloc _).trans hF (fun _ _ h => h)
    have hs : w.heap.size < w'.heap.size := by have := hF.size; simp at this; omega
    refine ⟨hF.heap (heap_new _ _) hS, ?_⟩
    rcases h with ⟨v, rfl, h0⟩ | rfl
    · exact .inl ⟨v, rfl, h0.symm, hF2, hp, hs⟩
    · exact .inr ⟨c0, rfl, rfl, hF2, hp, hs⟩
  · rintro e w3 ⟨c, w', rfl, ⟨rfl, hF2, hp, hs⟩, hF⟩
    exact ⟨rfl, hF2.trans hF (fun i hi e => by omega), hP w' w3 hs hp hF⟩


theorem enters_sync (a : Value) : Enters 97 #[a] := fun w => by kernel_rfl
theorem enters_read (a c d : Value) : Enters 91 #[a, c, d] := fun w => by kernel_rfl
theorem enters_write (a c d : Value) : Enters 95 #[a, c, d] := fun w => by kernel_rfl

theorem Below.cell1 {w w' : World} {B k : Nat} {o : Obj} (h : Below B w w') (hk : w.heap[k]? = some o) (hB : k < B) : w'.heap[k]? = some o := (h.block k hB).trans hk
/-- The error's number of a Sync, of a Write; what they leave. -/
def Dsk.syncErr (D : Dsk) : Int := if D.dead = false ∧ (D.armed = true → 0 < D.left) then 0 else 12
def Dsk.synced (D : Dsk) : Dsk := if D.dead = false ∧ (D.armed = true → 0 < D.left) then { D.less with sure := fun i => if i < D.n then D.now i else D.sure i } else D.cut

theorem sync_any {B b g : Nat} {D : Dsk} (w : World) (h : DiskAt w B b g D) (hg : g < w.heap.size) :
    Calls Tryd.prog 55 #[.pointer (some ⟨b, 0, none⟩)] w fun e w' => e = .returned (.int .i64 D.syncErr) ∧ DiskEnd w B b g D.synced w' := by
  have hb := h.lt
  have key : Calls Tryd.prog 19 #[.func (.func 97) #[.pointer (some ⟨b, 0, none⟩)] #[]] w fun e w3 => e = .returned (.int .i64 D.syncErr) ∧ Fr (dfoot b g) w w3 ∧ DiskAt w3 B b g D.synced := by
    refine guard_fr_recv _ _ w D.syncErr (dfoot b g) (fun w' => DiskAt w' B b g D.synced) (enters_sync _) (by rintro (e | e) <;> omega) (fun w1 w2 hs hp hF => hp.fr hF (by omega) (by omega)) ?_
    by_cases hf : D.fit
    · refine (sync_ok _ (h.alloc _) hf).mono ?_
      rintro e w' ⟨rfl, hE⟩
      unfold Dsk.fit at hf
      rw [Dsk.syncErr, Dsk.synced, if_pos hf, if_pos hf]
      exact ⟨hE.2, hE.1, .inl ⟨_, rfl, rfl⟩⟩
    · refine (sync_bad _ (h.alloc _) hf).mono ?_
      rintro e w' ⟨rfl, hE⟩
      unfold Dsk.fit at hf
      rw [Dsk.syncErr, Dsk.synced, if_neg hf, if_neg hf]
      exact ⟨hE.2, hE.1, .inr rfl⟩
  have Key := hid key
  clear key h
  go_enter Tryd.func55, Tryd.ntmps55
  go_wp2_with fail
  refine Key.out.mono ?_
  rintro e w1 ⟨rfl, hF, hD⟩
  have HE := hid (show DiskEnd w B b g D.synced w1 from ⟨hD, hF⟩)
  clear hF hD
  go_wp2_with fail
  go_ret
  exact ⟨rfl, HE.out⟩
end Go.Proofs.YtkmbbgnbklklcaaDoor
