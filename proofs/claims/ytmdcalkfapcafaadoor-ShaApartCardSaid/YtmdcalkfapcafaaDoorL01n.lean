/-
  Law 01's ShaSums: its walk.
-/
import Derived.Test.YtmdcalkfapcafaaDoorL01m
import Derived.Test.YtmdcalkfapcafaaDoorL01k
import Derived.Test.YtmdcalkfapcafaaDoorRefD
namespace Go.Proofs.YtmdcalkfapcafaaDoor
open Go.RowKit

theorem hex_gen {w0 w : World} {N M : Nat} {x : List UInt8} (l : List UInt8) (hl : l.length = 32) (hW : Lw2 w0 w N M x) :
    Calls Tryd.prog 15 #[.agg (byteCells l).toArray] w fun e w' => e = .returned (.string (S (hexOf l))) ∧ Lw2 w0 w' N M x :=
  (hex_any l hl w).mono fun _ _ h => ⟨h.1, hW.trans h.2⟩
theorem refhex_gen {w0 w : World} {N M : Nat} {x : List UInt8} (l : List UInt8) (hl : l.length = 32) (hW : Lw2 w0 w N M x) :
    Calls Tryd.prog 16 #[.string (S l)] w fun e w' => e = .returned (.string (S (hexOf l))) ∧ Lw2 w0 w' N M x :=
  (refhex_any l hl w).mono fun _ _ h => ⟨h.1, hW.trans h.2⟩
theorem refof_gen {w0 w : World} {N M : Nat} {x : List UInt8} (m y : List UInt8) (hm : m.length ≤ 100000000) (hy : shaOf m = y) (hW : Lw2 w0 w N M x) :
    Calls Tryd.prog 13 #[.string (S m)] w fun e w' => e = .returned (.string (S y)) ∧ Lw2 w0 w' N M x := by
  subst hy
  exact (refof_any m hm w).mono fun _ _ h => ⟨h.1, hW.trans h.2⟩

theorem wpList_load_guard {P : Program} {ops : Array Oper} {rest : List Oper} {op : Oper} {a : Act} {w : World} {Q : Exit → Act → World → Prop} (hw : Region.wanted op (yielded ops a.tmps) = true) (ty : TypeId) (x : Operand) (ho : op.op = .load ty x)
    (b o : Nat) (hx : a.eval x = .pointer (some ⟨b, o, none⟩)) (cs : List Value) (d : TypeDesc) (hc : w.rangeAt b o cs)
    (hu : P.underlying ty = some d) (hd : d.isRow = true) (hi : (P.info? ty).map (·.size) = some cs.length)
    (h : wpList P ops Q rest (a.put op.dst (.agg cs.toArray)) w) : wpList P ops Q (op :: rest) a w :=
  wpList_step fun K hK => by rw [if_pos hw]; exact wp_load_mid ty x ho b o hx cs d hc hu hd hi (hK _ _ h)

set_option maxRecDepth 4000 in
set_option maxHeartbeats 4000000 in
theorem shasums_any (s : List UInt8) (w : World) (hL : Laid w) :
    Calls Tryd.prog 5 #[.string (S s)] w fun e w' => e = .returned (.bool true) ∧ Below w.heap.size w w' := by
  have HW : Hid (Lw w w) := hid (Lw.refl hL)
  clear hL
  obtain ⟨m, hm⟩ : ∃ m, s.take 300 = m := ⟨_, rfl⟩
  have hlen : m.length ≤ 100000000 := by rw [← hm, List.length_take]; omega
  have Hm := hid hm
  clear hm
  obtain ⟨X, hX⟩ : ∃ X, shaOf m = X := ⟨_, rfl⟩
  have hXl : X.length = 32 := by rw [← hX]; exact shaOf_length m
  have hbl : (byteCells X).length = 32 := by rw [byteCells_length, hXl]
  have hinf : (Tryd.prog.info? 25).map (·.size) = some (byteCells X).length := by rw [hbl]; kernel_rfl
  have hone : (sumCells X).all (·.oneCell') = true := by
    refine all_oneCell_toArray fun v hv => ?_
    obtain ⟨c, _, rfl⟩ := List.mem_map.1 hv
    rfl
  have hsx : (sumCells X).size = 32 := by rw [sumCells_size, hXl]
  have HX := hid hX
  have Hone := hid hone
  have Hsx := hid hsx
  have Hlen := hid hlen
  have Hinf := hid hinf
  clear hX hone hsx hlen hinf hbl
  go_enter Tryd.func5, Tryd.ntmps5
  go_upto_region 2 with (refine (cut_any s 300 _).mono ?_; rintro e w' ⟨rfl, rfl⟩; rw [Hm.out])
  go_wp2_with fail
  refine (of_row w' [m] HW.out.laid (by have := Hlen.out; simpa using this) (by simp)).mono ?_
  rintro e w1 ⟨rfl, hB1⟩
  rw [show shaOf [m].flatten = X from by rw [← HX.out]; simp]
  have HW1 := hid (HW.out.trans hB1)
  clear hB1
  have hst := store_new w1 25 (List.replicate 32 (Value.int .u8 0)).toArray (sumCells X) (by rw [Hsx.out]; rfl)
  obtain ⟨h2, hb2, hz2⟩ := hst
  have hW2 : Lw2 w' ((w1.alloc (.cells (List.replicate 32 (Value.int .u8 0)).toArray 25)).setCells w1.heap.size 0 (sumCells X).toList) w1.heap.size w1.heap.size X := ⟨HW1.out.trans hb2, by omega, by omega, range_of_block h2, range_of_block h2⟩
  have HWW := hid hW2
  clear hW2 h2 hb2 hz2
  go_upto_region 3 with (refine wpList_store_mid rfl 25 (.tmp 3) (.tmp 8) rfl w1.heap.size 0 (sumCells X) rfl rfl (there_new w1 _ _ _ (by rw [Hsx.out]; rfl)) (by rw [Hsx.out]; kernel_rfl) Hone.out ?_)
  change Code.wp _ _ _ _ ((w1.alloc (.cells (List.replicate 32 (Value.int .u8 0)).toArray 25)).setCells w1.heap.size 0 (sumCells X).toList)
  generalize (w1.alloc (.cells (List.replicate 32 (Value.int .u8 0)).toArray 25)).setCells w1.heap.size 0 (sumCells X).toList = w2 at *
  generalize w1.heap.size = N at *
  clear HW1 HW
  simp only [Act.put]
  go_wp2_with (first
    | (refine wpList_load_guard (by rfl) 25 (.tmp 3) rfl N 0 rfl (byteCells X) _ HWW.out.a Tryd.underlying25 rfl Hinf.out ?_)
    | (go_at_call 11; refine (awake_gen HWW.out).mono ?_; rintro e w4 ⟨rfl, hW⟩; have HWW := hid hW; clear hW)
    | (go_at_call 14; refine (text_gen X hXl HWW.out).mono ?_; rintro e w4 ⟨rfl, hW⟩; have HWW := hid hW; clear hW)
    | (go_at_call 15; refine (hex_gen X hXl HWW.out).mono ?_; rintro e w4 ⟨rfl, hW⟩; have HWW := hid hW; clear hW)
    | (go_at_call 16; refine (refhex_gen X hXl HWW.out).mono ?_; rintro e w4 ⟨rfl, hW⟩; have HWW := hid hW; clear hW)
    | (go_at_call 13; refine (refof_gen m X Hlen.out HX.out HWW.out).mono ?_; rintro e w4 ⟨rfl, hW⟩; have HWW := hid hW; clear hW))
  go_ret
  exact ⟨rfl, HWW.out.lw.below⟩

theorem walkShaSums (w : World) (s : ByteArray) (_hs : s.size ≤ 140737488351232) (hL : Laid w) :
    Calls Tryd.prog 5 #[.string s] w fun e w' => e = .returned (.bool true) ∧ Below w.heap.size w w' := by
  rw [← S_of s]
  exact shasums_any _ w hL
end Go.Proofs.YtmdcalkfapcafaaDoor
