/-
  Contracts of package ring: New, Cost, Left, stamp, put.
-/
import Derived.Test.YtkmbbgnbklklcaaDoorRingP
import Derived.Test.YtkmbbgnbklklcaaDoorDiskC
namespace Go.Proofs.YtkmbbgnbklklcaaDoor
open Go.RowKit

/-- At block r lies a journal on the disk at b: its first sector, how many, its epoch, how many frames there are. -/
def RingAt (w : World) (r b : Nat) (fo n : Int) (ep sq : Nat) : Prop := w.heap[r]? = some (.cells #[.pointer (some ⟨b, 0, none⟩), .int .i64 fo, .int .i64 n, .int .u32 (ep : Int), .int .i64 (sq : Int)] 131 (0, 0))
section
variable {w w' : World} {r b : Nat} {fo n : Int} {ep sq : Nat}
theorem RingAt.fr (h : RingAt w r b fo n ep sq) {T : Nat → Prop} (hF : Fr T w w') (hr : ¬ T r) : RingAt w' r b fo n ep sq := hF.heap h hr
theorem RingAt.below (h : RingAt w r b fo n ep sq) (hB : Below w.heap.size w w') : RingAt w' r b fo n ep sq := (hB.block _ (lt_of_block h)).trans h
theorem RingAt.drew (h : RingAt w r b fo n ep sq) : RingAt w.drew r b fo n ep sq := h
theorem RingAt.alloc (h : RingAt w r b fo n ep sq) (o : Obj) : RingAt (w.alloc o) r b fo n ep sq := heap_old h o
theorem RingAt.step (h : RingAt w r b fo n ep sq) : RingAt (w.setCell ⟨r, 4, none⟩ (.int .i64 ((sq : Int) + 1))) r b fo n ep (sq + 1) := by
  have h1 := heap_set_same (i := 4) h (.int .i64 ((sq : Int) + 1))
  exact h1
theorem RingAt.cells (h : RingAt w r b fo n ep sq) : w.cell? ⟨r, 0, none⟩ = some (.pointer (some ⟨b, 0, none⟩)) ∧ w.cell? ⟨r, 1, none⟩ = some (.int .i64 fo) ∧ w.cell? ⟨r, 2, none⟩ = some (.int .i64 n) ∧ w.cell? ⟨r, 3, none⟩ = some (.int .u32 (ep : Int)) ∧ w.cell? ⟨r, 4, none⟩ = some (.int .i64 (sq : Int)) :=
  ⟨cell_of_block h 0, cell_of_block h 1, cell_of_block h 2, cell_of_block h 3, cell_of_block h 4⟩
end

theorem ring_new (b : Nat) (fo n m : Int) (ep : Nat) (w : World) (hm : max n 0 = m) :
    Calls Tryd.prog 44 #[.pointer (some ⟨b, 0, none⟩), .int .i64 fo, .int .i64 n, .int .u32 (ep : Int)] w fun e w' => e = .returned (.pointer (some ⟨w.heap.size, 0, none⟩)) ∧ RingAt w' w.heap.size b fo m ep 0 ∧ Below w.heap.size w w' ∧ w.heap.size < w'.heap.size := by
  go_enter Tryd.func44, Tryd.ntmps44
  go_wp2_with fail
  go_ret
  subst hm
  exact ⟨rfl, heap_new _ _, (Below.refl _ w).alloc (Nat.le_refl _) _, by simp⟩
theorem ring_cost (k : Nat) (w : World) (hk : k ≤ 1000000) :
    Calls Tryd.prog 47 #[.int .i64 (k : Int)] w fun e w' => e = .returned (.int .i64 (cost k : Int)) ∧ w = w' := by
  go_enter Tryd.func47, Tryd.ntmps47
  go_wp2_with fail
  go_ret
  refine ⟨?_, rfl⟩
  refine ret_int ?_
  unfold cost
  show max (((k : Int) + 46 - 1) / 46) 1 = _
  omega
set_option maxRecDepth 100000 in
theorem ring_left (r b : Nat) (fo n m : Int) (ep sq : Nat) (w : World) (hR : RingAt w r b fo n ep sq) (hm : n - sq = m) (hn : n ≤ 1000000 ∧ 0 ≤ n) (hq : sq ≤ 1000000) :
    Calls Tryd.prog 48 #[.pointer (some ⟨r, 0, none⟩)] w fun e w' => e = .returned (.int .i64 m) ∧ Below w.heap.size w w' := by
  obtain ⟨k0, k1, k2, k3, k4⟩ := hR.cells
  subst hm
  have ew : IntKind.i64.wrap (n - (sq : Int)) = n - (sq : Int) := by rw [IntKind.wrap_i64]; omega
  clear hR
  go_enter Tryd.func48, Tryd.ntmps48
  go_upto_region 1 with fail
  go_region_held3 (fun w' => w'.cell? ⟨r, 2, none⟩ = some (.int .i64 n) ∧ w'.cell? ⟨r, 4, none⟩ = some (.int .i64 (sq : Int)))
    (first | go_keep | exact ⟨k2, k4⟩) (fail)
  go_wp2_with fail
  go_ret
  exact ⟨rfl, (Below.refl _ _).drew⟩
set_option maxRecDepth 100000 in
theorem ring_stamp (r b : Nat) (fo n : Int) (ep sq : Nat) (at_ : Nat) (w : World) (hR : RingAt w r b fo n ep sq) (ha : at_ + 1 < 4294967296) :
    Calls Tryd.prog 122 #[.pointer (some ⟨r, 0, none⟩), .int .i64 (at_ : Int)] w fun e w' => e = .returned (.agg #[.int .u32 (ep : Int), .int .u32 ((at_ + 1 : Nat) : Int)]) ∧ Below w.heap.size w w' := by
  obtain ⟨k0, k1, k2, k3, k4⟩ := hR.cells
  have hlt := lt_of_block hR
  have e1 : IntKind.u32.wrap (at_ : Int) = (at_ : Int) := by rw [IntKind.wrap_u32]; omega
  clear hR
  go_enter Tryd.func122, Tryd.ntmps122
  go_wp2_with fail
  refine bodyPost_ret (v := .agg #[.int .u32 (ep : Int), .int .u32 ((at_ : Int) + 1)]) ?_ rfl ⟨rfl, (Below.refl _ w).alloc (Nat.le_refl _) _⟩
  rw [res_cell rfl]
  have hn := heap_new w (.cells #[.int .u32 (ep : Int), .int .u32 ((at_ : Int) + 1)] 54)
  have n0 := cell_of_block hn 0
  have n1 := cell_of_block hn 1
  simp only [List.getElem?_toArray, List.getElem?_cons_zero, List.getElem?_cons_succ] at n0 n1
  clear hn
  go_simp

set_option maxRecDepth 100000 in
set_option linter.unusedSimpArgs false in
set_option maxHeartbeats 4000000 in
theorem conv1 (Y : Nat) (c : UInt8) (w : World) (h : w.heap[Y]? = some (.cells #[.int .u8 (c.toNat : Int)] 5 (0, 0))) : (convert 41 9 (.slice (some ⟨Y, 0, none⟩) 1 1)).run Tryd.prog w = .ok (.string (S [c])) w :=
  run_convert_bytes_back (P := Tryd.prog) _ _ _ 5 ⟨Y, 0, none⟩ 1 [c] Tryd.underlying41 Tryd.underlying5 Tryd.underlying9 (by
    intro j hj
    obtain rfl : j = 0 := by simpa using hj
    exact cell_of_block h 0)
theorem frame_sq (ep sq : Nat) (t : List UInt8) (w : World) (ha : ep < 4294967296) (hb : sq + 1 < 4294967296) (ht : t.length ≤ 47) :
    Calls Tryd.prog 86 #[.agg #[.int .u32 (ep : Int), .int .u32 ((sq : Int) + 1)], .string (S t)] w fun e w' => e = .returned (.string (S (frame ep (sq + 1) t))) ∧ Below w.heap.size w w' := frame_any ep (sq + 1) t w ha hb ht
theorem pad_whole {s : List UInt8} (h : s.length = 64) : pad s = s := by simp [pad, h]
theorem frame_write {B b g : Nat} {D : Dsk} (i : Nat) (ep sq : Nat) (t : List UInt8) (w : World) (h : DiskAt w B b g D) (hf : D.fit) (hi : i < D.n) (ht : t.length ≤ 47) :
    Calls Tryd.prog 96 #[.pointer (some ⟨b, 0, none⟩), .int .i64 i, .string (S (frame ep (sq + 1) t))] w fun e w' => e = .returned (.tuple #[]) ∧ DiskEnd w B b g { D.less with now := upd D.now i (frame ep (sq + 1) t) } w' := by
  have h1 := write_ok i (frame ep (sq + 1) t) w h hf hi (by rw [frame_length _ _ _ ht]; omega)
  rwa [pad_whole (frame_length _ _ _ ht)] at h1
theorem RingAt.apart {w : World} {B r b g : Nat} {D : Dsk} {fo n : Int} {ep sq : Nat} (h : RingAt w r b fo n ep sq) (hD : DiskAt w B b g D) : r ≠ b ∧ (0 < D.n → r ≠ g) := hD.other h (by decide) (by decide)
/-- What lies there behind a put. -/
theorem put_end {w w2 w3 : World} {B r b g i : Nat} {D D' : Dsk} {fo n : Int} {ep sq : Nat} (hR : RingAt w r b fo n ep sq) (hD : DiskAt w B b g D) (hi : i < D.n) (hB : Below w.heap.size w w2) (hE : DiskEnd w2 B b g D' w3) :
    RingAt (w3.setCell ⟨r, 4, none⟩ (.int .i64 ((sq : Int) + 1))) r b fo n ep (sq + 1) ∧ DiskAt (w3.setCell ⟨r, 4, none⟩ (.int .i64 ((sq : Int) + 1))) B b g D' ∧ Fr (fun k => k = r ∨ k = b ∨ k = g) w (w3.setCell ⟨r, 4, none⟩ (.int .i64 ((sq : Int) + 1))) := by
  obtain ⟨n1, n2⟩ := hR.apart hD
  have n2 := n2 (by omega)
  have hR3 : RingAt w3 r b fo n ep sq := (hR.below hB).fr hE.2 (by unfold dfoot; omega)
  have hF4 : Fr (fun k => k = r) w3 (w3.setCell ⟨r, 4, none⟩ (.int .i64 ((sq : Int) + 1))) := Fr.setCell (S := fun k => k = r) (Fr.refl _ _) (p := ⟨r, 4, none⟩) (fun _ => rfl) _
  refine ⟨hR3.step, hE.1.fr hF4 (Ne.symm n1) (Ne.symm n2), ?_⟩
  exact ((Fr.ofBelow hB (fun k => k = r ∨ k = b ∨ k = g)).trans hE.2 (fun k _ h => .inr h)).trans hF4 (fun k _ h => .inl h)
set_option maxRecDepth 100000 in
set_option linter.unusedSimpArgs false in
set_option maxHeartbeats 4000000 in
/-- A journal's put. -/
theorem ring_put {B b g : Nat} {D : Dsk} (r : Nat) (fo n : Int) (ep sq i : Nat) (c : UInt8) (t : List UInt8) (w : World) (hR : RingAt w r b fo n ep sq) (hD : DiskAt w B b g D) (hf : D.fit) (hfo : fo + sq = (i : Int)) (hi : i < D.n) (hep : ep < 4294967296) (hsq : sq ≤ 1000000) (ht : t.length ≤ 46) :
    Calls Tryd.prog 120 #[.pointer (some ⟨r, 0, none⟩), .int .u8 (c.toNat : Int), .string (S t)] w fun e w' => e = .returned (.tuple #[]) ∧ RingAt w' r b fo n ep (sq + 1) ∧ DiskAt w' B b g { D.less with now := upd D.now i (frame ep (sq + 1) (c :: t)) } ∧ Fr (fun k => k = r ∨ k = b ∨ k = g) w w' := by
  obtain ⟨k0, k1, k2, k3, k4⟩ := hR.cells
  have HR := hid hR
  have HD := hid hD
  have hsm := hD.small
  have hR0 := lt_of_block hR
  have hst := S_size t
  have ew : IntKind.i64.wrap (i : Int) = (i : Int) := by rw [IntKind.wrap_i64]; omega
  clear hR hD
  go_enter Tryd.func120, Tryd.ntmps120
  go_upto_region 0 with fail
  have hadd : ∀ w, (Op.stringOp .add (S [c]) (S t)).run Tryd.prog w = .ok (.string (S (c :: t))) w := fun w => str_add [c] t (by simp) (by omega) w
  obtain ⟨nb, ng⟩ := HR.out.apart HD.out
  have ng := ng (by omega)
  refine wp_region_held_drew (S := fun w' => w'.cell? ⟨r, 0, none⟩ = some (.pointer (some ⟨b, 0, none⟩)) ∧ w'.cell? ⟨r, 1, none⟩ = some (.int .i64 fo) ∧ w'.cell? ⟨r, 4, none⟩ = some (.int .i64 (sq : Int))) (by kernel_rfl) ⟨k0, k1, k4⟩ (fun hHeld => ?_)
  refine wpAnyH_take (i := 0) (oi := _) (v := ?_) rfl (by kernel_rfl) (by kernel_rfl) (by kernel_rfl) (fun _ _ _ h => h) (Or.inl ⟨by rfl, ?_⟩) (by assumption) ?_
  rotate_left
  · intro w hSw
    try dsimp only at hSw
    go_simp
    try with_reducible rfl
  try simp only [Act.put, List.setIfInBounds_toArray, List.set_cons_zero, List.set_cons_succ, List.getElem_toArray, List.getElem_cons_zero, List.getElem_cons_succ]
  refine wpAnyH_take (i := 1) (oi := _) (v := ?_) rfl (by kernel_rfl) (by kernel_rfl) (by kernel_rfl) (fun _ _ _ h => h) (Or.inl ⟨by rfl, ?_⟩) (by assumption) ?_
  rotate_left
  · intro w hSw
    try dsimp only at hSw
    go_simp
    try with_reducible rfl
  try simp only [Act.put, List.setIfInBounds_toArray, List.set_cons_zero, List.set_cons_succ, List.getElem_toArray, List.getElem_cons_zero, List.getElem_cons_succ]
  refine wpAnyH_take (i := 2) (oi := _) (v := ?_) rfl (by kernel_rfl) (by kernel_rfl) (by kernel_rfl) (fun _ _ _ h => h) (Or.inl ⟨by rfl, ?_⟩) (by assumption) ?_
  rotate_left
  · intro w hSw
    try dsimp only at hSw
    go_simp
    try with_reducible rfl
  try simp only [Act.put, List.setIfInBounds_toArray, List.set_cons_zero, List.set_cons_succ, List.getElem_toArray, List.getElem_cons_zero, List.getElem_cons_succ]
  refine wpAnyH_take (i := 3) (oi := _) (v := ?_) rfl (by kernel_rfl) (by kernel_rfl) (by kernel_rfl) (fun _ _ _ h => h) (Or.inl ⟨by rfl, ?_⟩) (by assumption) ?_
  rotate_left
  · intro w hSw
    try dsimp only at hSw
    go_simp
    try with_reducible rfl
  try simp only [Act.put, List.setIfInBounds_toArray, List.set_cons_zero, List.set_cons_succ, List.getElem_toArray, List.getElem_cons_zero, List.getElem_cons_succ]
  refine wpAnyH_take (i := 4) (oi := _) (v := ?_) rfl (by kernel_rfl) (by kernel_rfl) (by kernel_rfl) (fun _ _ _ h => h) (Or.inl ⟨by rfl, ?_⟩) (by assumption) ?_
  rotate_left
  · intro w hSw
    try dsimp only at hSw
    go_simp
    try with_reducible rfl
  try simp only [Act.put, List.setIfInBounds_toArray, List.set_cons_zero, List.set_cons_succ, List.getElem_toArray, List.getElem_cons_zero, List.getElem_cons_succ]
  refine wpAnyH_take (i := 5) (oi := _) (v := ?_) rfl (by kernel_rfl) (by kernel_rfl) (by kernel_rfl) (fun _ _ _ h => h) (Or.inl ⟨by rfl, ?_⟩) (by assumption) ?_
  rotate_left
  · intro w hSw
    try dsimp only at hSw
    go_simp
    try with_reducible rfl
  try simp only [Act.put, List.setIfInBounds_toArray, List.set_cons_zero, List.set_cons_succ, List.getElem_toArray, List.getElem_cons_zero, List.getElem_cons_succ]
  refine wpAnyH_take (i := 6) (oi := _) (v := ?_) rfl (by kernel_rfl) (by kernel_rfl) (by kernel_rfl) (fun _ _ _ h => h) (Or.inl ⟨by rfl, ?_⟩) (by assumption) ?_
  rotate_left
  · intro w hSw
    try dsimp only at hSw
    go_simp
    try with_reducible rfl
  try simp only [Act.put, List.setIfInBounds_toArray, List.set_cons_zero, List.set_cons_succ, List.getElem_toArray, List.getElem_cons_zero, List.getElem_cons_succ]
  refine wpAnyH_take (i := 7) (oi := _) (v := ?_) rfl (by kernel_rfl) (by kernel_rfl) (by kernel_rfl) (fun _ _ _ h => h) (Or.inl ⟨by rfl, ?_⟩) (by assumption) ?_
  rotate_left
  · intro w hSw
    try dsimp only at hSw
    go_simp
    try with_reducible rfl
  try simp only [Act.put, List.setIfInBounds_toArray, List.set_cons_zero, List.set_cons_succ, List.getElem_toArray, List.getElem_cons_zero, List.getElem_cons_succ]
  refine wpAnyH_take (i := 8) (oi := _) (v := ?_) rfl (by kernel_rfl) (by kernel_rfl) (by kernel_rfl) (fun _ _ _ h => h) (Or.inl ⟨by rfl, ?_⟩) (by assumption) ?_
  rotate_left
  · intro w hSw
    try dsimp only at hSw
    go_simp
    try with_reducible rfl
  try simp only [Act.put, List.setIfInBounds_toArray, List.set_cons_zero, List.set_cons_succ, List.getElem_toArray, List.getElem_cons_zero, List.getElem_cons_succ]
  refine wpAnyH_take (i := 9) (oi := _) (v := ?_) rfl (by kernel_rfl) (by kernel_rfl) (by kernel_rfl) (fun _ _ _ h => h) (Or.inl ⟨by rfl, ?_⟩) (by assumption) ?_
  rotate_left
  · intro w hSw
    try dsimp only at hSw
    go_simp
    try with_reducible rfl
  try simp only [Act.put, List.setIfInBounds_toArray, List.set_cons_zero, List.set_cons_succ, List.getElem_toArray, List.getElem_cons_zero, List.getElem_cons_succ]
  refine wpAnyH_take (i := 10) (oi := _) (v := ?_) rfl (by kernel_rfl) (by kernel_rfl) (by kernel_rfl) (fun _ _ _ h => h) (Or.inl ⟨by rfl, ?_⟩) (by assumption) ?_
  rotate_left
  · intro w hSw
    try dsimp only at hSw
    go_simp
    try with_reducible rfl
  try simp only [Act.put, List.setIfInBounds_toArray, List.set_cons_zero, List.set_cons_succ, List.getElem_toArray, List.getElem_cons_zero, List.getElem_cons_succ]
  refine wpAnyH_take (i := 11) (oi := _) (v := ?_) rfl (by kernel_rfl) (by kernel_rfl) (by kernel_rfl) (fun _ _ _ h => h) (Or.inl ⟨by rfl, ?_⟩) (by assumption) ?_
  rotate_left
  · intro w hSw
    try dsimp only at hSw
    go_simp
    try with_reducible rfl
  try simp only [Act.put, List.setIfInBounds_toArray, List.set_cons_zero, List.set_cons_succ, List.getElem_toArray, List.getElem_cons_zero, List.getElem_cons_succ]
  refine wpAnyH_take (i := 12) (oi := _) (v := ?_) rfl (by kernel_rfl) (by kernel_rfl) (by kernel_rfl) (fun _ _ _ h => h) (Or.inl ⟨by rfl, ?_⟩) (by assumption) ?_
  rotate_left
  · intro w hSw
    try dsimp only at hSw
    go_simp
    try with_reducible rfl
  try simp only [Act.put, List.setIfInBounds_toArray, List.set_cons_zero, List.set_cons_succ, List.getElem_toArray, List.getElem_cons_zero, List.getElem_cons_succ]
  refine wpAnyH_take (i := 13) (oi := _) (v := ?_) rfl (by kernel_rfl) (by kernel_rfl) (by kernel_rfl) (fun _ _ _ h => h) (Or.inl ⟨by rfl, ?_⟩) (by assumption) ?_
  rotate_left
  · intro w hSw
    try dsimp only at hSw
    go_simp
    try with_reducible rfl
  try simp only [Act.put, List.setIfInBounds_toArray, List.set_cons_zero, List.set_cons_succ, List.getElem_toArray, List.getElem_cons_zero, List.getElem_cons_succ]
  refine wpAnyH_take (i := 14) (oi := _) (v := ?_) rfl (by kernel_rfl) (by kernel_rfl) (by kernel_rfl) (fun _ _ _ h => h) (Or.inl ⟨by rfl, ?_⟩) (by assumption) ?_
  rotate_left
  · intro w hSw
    try dsimp only at hSw
    go_simp
    try with_reducible rfl
  try simp only [Act.put, List.setIfInBounds_toArray, List.set_cons_zero, List.set_cons_succ, List.getElem_toArray, List.getElem_cons_zero, List.getElem_cons_succ]
  refine wpAnyH_take (i := 15) (oi := _) (v := ?_) rfl (by kernel_rfl) (by kernel_rfl) (by kernel_rfl) (fun _ _ _ h => h) (Or.inl ⟨by rfl, ?_⟩) (by assumption) ?_
  rotate_left
  · intro w hSw
    try dsimp only at hSw
    go_simp
    try with_reducible rfl
  try simp only [Act.put, List.setIfInBounds_toArray, List.set_cons_zero, List.set_cons_succ, List.getElem_toArray, List.getElem_cons_zero, List.getElem_cons_succ]
  refine wpAnyH_take (i := 16) (oi := _) (v := ?_) rfl (by kernel_rfl) (by kernel_rfl) (by kernel_rfl) (fun _ _ _ h => h) (Or.inl ⟨by rfl, ?_⟩) (by assumption) ?_
  rotate_left
  · intro w hSw
    try dsimp only at hSw
    go_simp
    try with_reducible rfl
  try simp only [Act.put, List.setIfInBounds_toArray, List.set_cons_zero, List.set_cons_succ, List.getElem_toArray, List.getElem_cons_zero, List.getElem_cons_succ]
  refine wpAnyH_take (i := 17) (oi := _) (v := ?_) rfl (by kernel_rfl) (by kernel_rfl) (by kernel_rfl) (fun _ _ _ h => h) (Or.inl ⟨by rfl, ?_⟩) (by assumption) ?_
  rotate_left
  · intro w hSw
    try dsimp only at hSw
    go_simp
    try with_reducible rfl
  try simp only [Act.put, List.setIfInBounds_toArray, List.set_cons_zero, List.set_cons_succ, List.getElem_toArray, List.getElem_cons_zero, List.getElem_cons_succ]
  refine wpAnyH_take (i := 19) (oi := _) (v := ?_) rfl (by kernel_rfl) (by kernel_rfl) (by kernel_rfl) (fun _ _ _ h => h) (Or.inl ⟨by rfl, ?_⟩) (by assumption) ?_
  rotate_left
  · intro w hSw
    try dsimp only at hSw
    go_simp
    try with_reducible rfl
  try simp only [Act.put, List.setIfInBounds_toArray, List.set_cons_zero, List.set_cons_succ, List.getElem_toArray, List.getElem_cons_zero, List.getElem_cons_succ]
  refine wpAnyH_take (i := 22) (oi := _) (v := ?_) rfl (by kernel_rfl) (by kernel_rfl) (by kernel_rfl) (fun _ _ _ h => h) (Or.inl ⟨by rfl, ?_⟩) (by assumption) ?_
  rotate_left
  · intro w hSw
    try dsimp only at hSw
    go_simp
    try with_reducible rfl
  try simp only [Act.put, List.setIfInBounds_toArray, List.set_cons_zero, List.set_cons_succ, List.getElem_toArray, List.getElem_cons_zero, List.getElem_cons_succ]
  refine wpAnyH_ready (rs := [18, 20]) (by kernel_rfl) (by simp) ?_
  refine AllReadyH.cons (o := _) rfl (fun K hK => ?_) (AllReadyH.cons (o := _) rfl (fun K hK => ?_) AllReadyH.nil)
  · go_simp
    go_at_call 122
    (with_reducible refine (ring_stamp r b fo n ep sq sq w.drew HR.out.drew (by omega)).mono ?_)
    rintro e w1 ⟨rfl, hB⟩
    have hB1 : Below w.heap.size w w1 := Below.undrew hB
    have hR1 := HR.out.below hB1
    obtain ⟨l0, l1, l2, l3, l4⟩ := hR1.cells
    have hR1l := lt_of_block hR1
    clear hR1
    clear hB
    try dsimp only
    refine hK.out _ _ ?_ (fun hHeld => ?_)
    · exact ⟨l0, l1, l4⟩
    clear hK K
    try simp only [Act.put, List.setIfInBounds_toArray, List.set_cons_zero, List.set_cons_succ, List.getElem_toArray, List.getElem_cons_zero, List.getElem_cons_succ]
    refine wpAnyH_ready (rs := [20]) (by kernel_rfl) (by simp) ?_
    refine AllReadyH.cons (o := _) rfl (fun K hK => ?_) AllReadyH.nil
    go_simp
    try dsimp only
    refine hK.out _ _ ?_ (fun hHeld => ?_)
    · exact ⟨cellA hR1l l0 _, cellA hR1l l1 _, cellA hR1l l4 _⟩
    clear hK K
    try simp only [Act.put, List.setIfInBounds_toArray, List.set_cons_zero, List.set_cons_succ, List.getElem_toArray, List.getElem_cons_zero, List.getElem_cons_succ]
    have hcv := conv1 _ c _ (heap_new w1 (.cells #[.int .u8 (c.toNat : Int)] 5))
    refine wpAnyH_ready (rs := [21]) (by kernel_rfl) (by simp) ?_
    refine AllReadyH.cons (o := _) rfl (fun K hK => ?_) AllReadyH.nil
    go_simp
    try dsimp only
    refine hK.out _ _ ?_ (fun hHeld => ?_)
    · exact ⟨cellA hR1l l0 _, cellA hR1l l1 _, cellA hR1l l4 _⟩
    clear hK K
    try simp only [Act.put, List.setIfInBounds_toArray, List.set_cons_zero, List.set_cons_succ, List.getElem_toArray, List.getElem_cons_zero, List.getElem_cons_succ]
    clear hcv
    refine wpAnyH_take (i := 23) (oi := _) (v := ?_) rfl (by kernel_rfl) (by kernel_rfl) (by kernel_rfl) (fun _ _ _ h => h) (Or.inl ⟨by rfl, ?_⟩) (by assumption) ?_
    rotate_left
    · intro w hSw
      try dsimp only at hSw
      go_simp
      try with_reducible rfl
    try simp only [Act.put, List.setIfInBounds_toArray, List.set_cons_zero, List.set_cons_succ, List.getElem_toArray, List.getElem_cons_zero, List.getElem_cons_succ]
    refine wpAnyH_ready (rs := [24]) (by kernel_rfl) (by simp) ?_
    refine AllReadyH.cons (o := _) rfl (fun K hK => ?_) AllReadyH.nil
    go_simp
    go_at_call 86
    (with_reducible refine (frame_sq ep sq (c :: t) (w1.alloc (.cells #[.int .u8 (c.toNat : Int)] 5)) hep (by omega) (by simp; omega)).mono ?_)
    rintro e w2 ⟨rfl, hB⟩
    have hB2 : Below w.heap.size w w2 := (hB1.alloc hB1.size (.cells #[.int .u8 (c.toNat : Int)] 5)).trans (hB.mono (by have := hB1.size; simp; omega))
    have hR2 := HR.out.below hB2
    obtain ⟨m0, m1, m2, m3, m4⟩ := hR2.cells
    clear hR2 hB
    try dsimp only
    refine hK.out _ _ ?_ (fun hHeld => ?_)
    · exact ⟨m0, m1, m4⟩
    clear hK K
    try simp only [Act.put, List.setIfInBounds_toArray, List.set_cons_zero, List.set_cons_succ, List.getElem_toArray, List.getElem_cons_zero, List.getElem_cons_succ]
    refine wpAnyH_ready (rs := [25]) (by kernel_rfl) (by simp) ?_
    refine AllReadyH.cons (o := _) rfl (fun K hK => ?_) AllReadyH.nil
    go_simp
    go_at_call 96
    (with_reducible refine (frame_write i ep sq (c :: t) w2 (HD.out.below hB2) hf hi (by simp; omega)).mono ?_)
    rintro e w3 ⟨rfl, hE⟩
    have hR3 : RingAt w3 r b fo n ep sq := (HR.out.below hB2).fr hE.2 (by unfold dfoot; omega)
    obtain ⟨p0, p1, p2, p3, p4⟩ := hR3.cells
    have pf := free_of_block hR3 4
    have hP := put_end HR.out HD.out hi hB2 hE
    have HP := hid hP
    clear hR3 hE hP
    try dsimp only
    refine hK.out _ _ ?_ (fun hHeld => ?_)
    · exact ⟨p0, p1, p4⟩
    clear hK K
    try simp only [Act.put, List.setIfInBounds_toArray, List.set_cons_zero, List.set_cons_succ, List.getElem_toArray, List.getElem_cons_zero, List.getElem_cons_succ]
    refine wpAnyH_done (by kernel_rfl) ?_ _
    clear k0 k1 k2 k3 k4 l0 l1 l2 l3 l4 m0 m1 m2 m3 m4
    go_wp2_with fail
    go_end0
    exact ⟨rfl, HP.out⟩
  · go_simp
    try dsimp only
    refine hK.out _ _ ?_ (fun hHeld => ?_)
    · exact ⟨cellA hR0 k0 _, cellA hR0 k1 _, cellA hR0 k4 _⟩
    clear hK K
    try simp only [Act.put, List.setIfInBounds_toArray, List.set_cons_zero, List.set_cons_succ, List.getElem_toArray, List.getElem_cons_zero, List.getElem_cons_succ]
    have hcv := conv1 _ c (w.alloc (.cells #[.int .u8 (c.toNat : Int)] 5)).drew (heap_new w (.cells #[.int .u8 (c.toNat : Int)] 5))
    refine wpAnyH_ready (rs := [18, 21]) (by kernel_rfl) (by simp) ?_
    refine AllReadyH.cons (o := _) rfl (fun K hK => ?_) (AllReadyH.cons (o := _) rfl (fun K hK => ?_) AllReadyH.nil)
    · go_simp
      clear hcv
      go_at_call 122
      (with_reducible refine (ring_stamp r b fo n ep sq sq (w.alloc (.cells #[.int .u8 (c.toNat : Int)] 5)).drew (HR.out.alloc (.cells #[.int .u8 (c.toNat : Int)] 5)).drew (by omega)).mono ?_)
      rintro e w1 ⟨rfl, hB⟩
      have hB1 : Below w.heap.size w w1 := ((Below.refl w.heap.size w).alloc (Nat.le_refl _) (.cells #[.int .u8 (c.toNat : Int)] 5)).trans ((Below.undrew hB).mono (by simp))
      have hR1 := HR.out.below hB1
      obtain ⟨l0, l1, l2, l3, l4⟩ := hR1.cells
      have hR1l := lt_of_block hR1
      clear hR1
      try dsimp only
      refine hK.out _ _ ?_ (fun hHeld => ?_)
      · exact ⟨l0, l1, l4⟩
      clear hK K
      try simp only [Act.put, List.setIfInBounds_toArray, List.set_cons_zero, List.set_cons_succ, List.getElem_toArray, List.getElem_cons_zero, List.getElem_cons_succ]
      have hcv := conv1 _ c w1 ((hB.block w.heap.size (by simp)).trans (heap_new w (.cells #[.int .u8 (c.toNat : Int)] 5)))
      clear hB
      refine wpAnyH_ready (rs := [21]) (by kernel_rfl) (by simp) ?_
      refine AllReadyH.cons (o := _) rfl (fun K hK => ?_) AllReadyH.nil
      go_simp
      try dsimp only
      refine hK.out _ _ ?_ (fun hHeld => ?_)
      · exact ⟨l0, l1, l4⟩
      clear hK K
      try simp only [Act.put, List.setIfInBounds_toArray, List.set_cons_zero, List.set_cons_succ, List.getElem_toArray, List.getElem_cons_zero, List.getElem_cons_succ]
      clear hcv
      refine wpAnyH_take (i := 23) (oi := _) (v := ?_) rfl (by kernel_rfl) (by kernel_rfl) (by kernel_rfl) (fun _ _ _ h => h) (Or.inl ⟨by rfl, ?_⟩) (by assumption) ?_
      rotate_left
      · intro w hSw
        try dsimp only at hSw
        go_simp
        try with_reducible rfl
      try simp only [Act.put, List.setIfInBounds_toArray, List.set_cons_zero, List.set_cons_succ, List.getElem_toArray, List.getElem_cons_zero, List.getElem_cons_succ]
      refine wpAnyH_ready (rs := [24]) (by kernel_rfl) (by simp) ?_
      refine AllReadyH.cons (o := _) rfl (fun K hK => ?_) AllReadyH.nil
      go_simp
      go_at_call 86
      (with_reducible refine (frame_sq ep sq (c :: t) w1 hep (by omega) (by simp; omega)).mono ?_)
      rintro e w2 ⟨rfl, hB⟩
      have hB2 : Below w.heap.size w w2 := hB1.trans (hB.mono hB1.size)
      have hR2 := HR.out.below hB2
      obtain ⟨m0, m1, m2, m3, m4⟩ := hR2.cells
      clear hR2 hB
      try dsimp only
      refine hK.out _ _ ?_ (fun hHeld => ?_)
      · exact ⟨m0, m1, m4⟩
      clear hK K
      try simp only [Act.put, List.setIfInBounds_toArray, List.set_cons_zero, List.set_cons_succ, List.getElem_toArray, List.getElem_cons_zero, List.getElem_cons_succ]
      refine wpAnyH_ready (rs := [25]) (by kernel_rfl) (by simp) ?_
      refine AllReadyH.cons (o := _) rfl (fun K hK => ?_) AllReadyH.nil
      go_simp
      go_at_call 96
      (with_reducible refine (frame_write i ep sq (c :: t) w2 (HD.out.below hB2) hf hi (by simp; omega)).mono ?_)
      rintro e w3 ⟨rfl, hE⟩
      have hR3 : RingAt w3 r b fo n ep sq := (HR.out.below hB2).fr hE.2 (by unfold dfoot; omega)
      obtain ⟨p0, p1, p2, p3, p4⟩ := hR3.cells
      have pf := free_of_block hR3 4
      have hP := put_end HR.out HD.out hi hB2 hE
      have HP := hid hP
      clear hR3 hE hP
      try dsimp only
      refine hK.out _ _ ?_ (fun hHeld => ?_)
      · exact ⟨p0, p1, p4⟩
      clear hK K
      try simp only [Act.put, List.setIfInBounds_toArray, List.set_cons_zero, List.set_cons_succ, List.getElem_toArray, List.getElem_cons_zero, List.getElem_cons_succ]
      refine wpAnyH_done (by kernel_rfl) ?_ _
      clear k0 k1 k2 k3 k4 l0 l1 l2 l3 l4 m0 m1 m2 m3 m4
      go_wp2_with fail
      go_end0
      exact ⟨rfl, HP.out⟩
    · go_simp
      try dsimp only
      refine hK.out _ _ ?_ (fun hHeld => ?_)
      · exact ⟨cellA hR0 k0 _, cellA hR0 k1 _, cellA hR0 k4 _⟩
      clear hK K
      try simp only [Act.put, List.setIfInBounds_toArray, List.set_cons_zero, List.set_cons_succ, List.getElem_toArray, List.getElem_cons_zero, List.getElem_cons_succ]
      clear hcv
      refine wpAnyH_take (i := 23) (oi := _) (v := ?_) rfl (by kernel_rfl) (by kernel_rfl) (by kernel_rfl) (fun _ _ _ h => h) (Or.inl ⟨by rfl, ?_⟩) (by assumption) ?_
      rotate_left
      · intro w hSw
        try dsimp only at hSw
        go_simp
        try with_reducible rfl
      try simp only [Act.put, List.setIfInBounds_toArray, List.set_cons_zero, List.set_cons_succ, List.getElem_toArray, List.getElem_cons_zero, List.getElem_cons_succ]
      refine wpAnyH_ready (rs := [18]) (by kernel_rfl) (by simp) ?_
      refine AllReadyH.cons (o := _) rfl (fun K hK => ?_) AllReadyH.nil
      go_simp
      go_at_call 122
      (with_reducible refine (ring_stamp r b fo n ep sq sq (w.alloc (.cells #[.int .u8 (c.toNat : Int)] 5)).drew (HR.out.alloc (.cells #[.int .u8 (c.toNat : Int)] 5)).drew (by omega)).mono ?_)
      rintro e w1 ⟨rfl, hB⟩
      have hB1 : Below w.heap.size w w1 := ((Below.refl w.heap.size w).alloc (Nat.le_refl _) (.cells #[.int .u8 (c.toNat : Int)] 5)).trans ((Below.undrew hB).mono (by simp))
      have hR1 := HR.out.below hB1
      obtain ⟨l0, l1, l2, l3, l4⟩ := hR1.cells
      have hR1l := lt_of_block hR1
      clear hR1
      clear hB
      try dsimp only
      refine hK.out _ _ ?_ (fun hHeld => ?_)
      · exact ⟨l0, l1, l4⟩
      clear hK K
      try simp only [Act.put, List.setIfInBounds_toArray, List.set_cons_zero, List.set_cons_succ, List.getElem_toArray, List.getElem_cons_zero, List.getElem_cons_succ]
      refine wpAnyH_ready (rs := [24]) (by kernel_rfl) (by simp) ?_
      refine AllReadyH.cons (o := _) rfl (fun K hK => ?_) AllReadyH.nil
      go_simp
      go_at_call 86
      (with_reducible refine (frame_sq ep sq (c :: t) w1 hep (by omega) (by simp; omega)).mono ?_)
      rintro e w2 ⟨rfl, hB⟩
      have hB2 : Below w.heap.size w w2 := hB1.trans (hB.mono hB1.size)
      have hR2 := HR.out.below hB2
      obtain ⟨m0, m1, m2, m3, m4⟩ := hR2.cells
      clear hR2 hB
      try dsimp only
      refine hK.out _ _ ?_ (fun hHeld => ?_)
      · exact ⟨m0, m1, m4⟩
      clear hK K
      try simp only [Act.put, List.setIfInBounds_toArray, List.set_cons_zero, List.set_cons_succ, List.getElem_toArray, List.getElem_cons_zero, List.getElem_cons_succ]
      refine wpAnyH_ready (rs := [25]) (by kernel_rfl) (by simp) ?_
      refine AllReadyH.cons (o := _) rfl (fun K hK => ?_) AllReadyH.nil
      go_simp
      go_at_call 96
      (with_reducible refine (frame_write i ep sq (c :: t) w2 (HD.out.below hB2) hf hi (by simp; omega)).mono ?_)
      rintro e w3 ⟨rfl, hE⟩
      have hR3 : RingAt w3 r b fo n ep sq := (HR.out.below hB2).fr hE.2 (by unfold dfoot; omega)
      obtain ⟨p0, p1, p2, p3, p4⟩ := hR3.cells
      have pf := free_of_block hR3 4
      have hP := put_end HR.out HD.out hi hB2 hE
      have HP := hid hP
      clear hR3 hE hP
      try dsimp only
      refine hK.out _ _ ?_ (fun hHeld => ?_)
      · exact ⟨p0, p1, p4⟩
      clear hK K
      try simp only [Act.put, List.setIfInBounds_toArray, List.set_cons_zero, List.set_cons_succ, List.getElem_toArray, List.getElem_cons_zero, List.getElem_cons_succ]
      refine wpAnyH_done (by kernel_rfl) ?_ _
      clear k0 k1 k2 k3 k4 l0 l1 l2 l3 l4 m0 m1 m2 m3 m4
      go_wp2_with fail
      go_end0
      exact ⟨rfl, HP.out⟩
/-- The same, for the two first bytes as they are written. -/
theorem ring_put0 {B b g : Nat} {D : Dsk} (r : Nat) (fo n : Int) (ep sq i : Nat) (t : List UInt8) (w : World) (hR : RingAt w r b fo n ep sq) (hD : DiskAt w B b g D) (hf : D.fit) (hfo : fo + sq = (i : Int)) (hi : i < D.n) (hep : ep < 4294967296) (hsq : sq ≤ 1000000) (ht : t.length ≤ 46) :
    Calls Tryd.prog 120 #[.pointer (some ⟨r, 0, none⟩), .int .u8 0, .string (S t)] w fun e w' => e = .returned (.tuple #[]) ∧ RingAt w' r b fo n ep (sq + 1) ∧ DiskAt w' B b g { D.less with now := upd D.now i (frame ep (sq + 1) (0 :: t)) } ∧ Fr (fun k => k = r ∨ k = b ∨ k = g) w w' :=
  ring_put r fo n ep sq i 0 t w hR hD hf hfo hi hep hsq ht
theorem ring_put1 {B b g : Nat} {D : Dsk} (r : Nat) (fo n : Int) (ep sq i : Nat) (t : List UInt8) (w : World) (hR : RingAt w r b fo n ep sq) (hD : DiskAt w B b g D) (hf : D.fit) (hfo : fo + sq = (i : Int)) (hi : i < D.n) (hep : ep < 4294967296) (hsq : sq ≤ 1000000) (ht : t.length ≤ 46) :
    Calls Tryd.prog 120 #[.pointer (some ⟨r, 0, none⟩), .int .u8 1, .string (S t)] w fun e w' => e = .returned (.tuple #[]) ∧ RingAt w' r b fo n ep (sq + 1) ∧ DiskAt w' B b g { D.less with now := upd D.now i (frame ep (sq + 1) (1 :: t)) } ∧ Fr (fun k => k = r ∨ k = b ∨ k = g) w w' :=
  ring_put r fo n ep sq i 1 t w hR hD hf hfo hi hep hsq ht
end Go.Proofs.YtkmbbgnbklklcaaDoor
