/-
  Contracts of package pack: Out's Text and Fill, Read.
-/
import Derived.Test.YtkmbbgnbklklcaaDoorIn
import Derived.Test.YtkmbbgnbklklcaaDoorOut
import Derived.Test.YtkmbbgnbklklcaaDoorShelf
namespace Go.Proofs.YtkmbbgnbklklcaaDoor
open Go.RowKit

theorem shape_of {w : World} {base e size n : Nat} {v : Value} {xs : List Value} (h : w.ownsRow base e size v n xs) : ∃ ao cap, v = .slice ao n cap := by
  rcases h.2 with ⟨rfl, hn⟩ | ⟨g, c, cur, rfl, _⟩
  · exact ⟨none, 0, by rw [hn]⟩
  · exact ⟨_, _, rfl⟩

theorem wpList_append_string {P : Program} (w : World) {ops : Array Oper} {rest : List Oper} {o : Oper} {a : Act} {Q : Exit → Act → World → Prop} (hgd : o.guard = none) (sl x : Operand) (t u : TypeId)
    (ho : o.op = .call { callee := .builtin .append, args := #[sl, x], argTypes := #[t, u] })
    (base : Nat) (e : TypeId) (i : TypeInfo) (ht : P.underlying t = some (.slice e)) (hu : P.underlying u = some .string) (hi : P.info? e = some i) (hz : i.zero = some (.int .u8 0)) (hsize : i.size = 1) (hby : i.bytes = 1)
    (v : Value) (n : Nat) (xs : List Value) (hs : a.eval sl = v) (hown : w.ownsRow base e 1 v n xs) (s : ByteArray) (hx : a.eval x = .string s)
    (h63 : n + s.size ≤ maxLen) (hbytes : n + s.size ≤ 140737488355328) (hbase : base ≤ w.heap.size)
    (h : ∀ v' w', w'.ownsRow base e 1 v' (n + s.size) (xs ++ Lib.strCells s) → w.grownBy w' v.ownBlock → (v'.ownBlock = v.ownBlock ∨ v'.ownBlock = some w.heap.size) → wpList P ops Q rest (a.put o.dst v') w') :
    wpList P ops Q (o :: rest) a w := by
  refine wpList_plain hgd fun K' hK' => ?_
  obtain ⟨v', w', hr, h2, h3, h4⟩ := append_string_at (P := P) w base t u o.type e i ht hu hi hz hsize hby v n xs hown s h63 hbytes hbase
  unfold Oper.wp execOp
  simp only [ho, resolve, invoke, builtin, Sem.run_bind, Sem.run_pure, Result.andThen_ok, List.map_toArray, List.map_cons, List.map_nil, hs, hx, hr]
  exact hK' _ _ (h v' w' h2 h3 h4)

/-- Behind an append the new value is stored. -/
theorem out_end {w w2 : World} {b base : Nat} {v v2 : Value} {l m : List UInt8} (hO : OutAt w b base v l) (hown : w2.ownsRow base 5 1 v2 m.length (byteCells m)) (hgrow : w.grownBy w2 v.ownBlock) (hat : v2.ownBlock = v.ownBlock ∨ v2.ownBlock = some w.heap.size) :
    OutEnd w b base v m (w2.setCell ⟨b, 0, none⟩ v2) := by
  have hb := lt_of_block hO.cell
  have hne : v2.ownBlock ≠ some b := by
    rcases hat with h | h
    · rw [h]; exact hO.apart
    · rw [h]; intro e; injection e with e; omega
  refine ⟨v2, ⟨one_setCell ((hgrow.block b hb (fun e => hO.apart e.symm)).trans hO.cell), ownsRow_setCell_other hown hne _, hne⟩, ?_, ((Fr.ofGrown hgrow).mono fun i _ e => .inr e).setCell (fun _ => .inl rfl) _⟩
  rcases hat with h | h
  · exact .inl h
  · exact .inr ⟨_, h, Nat.le_refl _⟩

theorem out_text (b base : Nat) (v : Value) (l t : List UInt8) (w : World) (hO : OutAt w b base v l) (hbase : base ≤ w.heap.size) (hl : l.length + t.length ≤ 100000000) :
    Calls Tryd.prog 29 #[.pointer (some ⟨b, 0, none⟩), .string (S t)] w fun e w' =>
      e = .returned (.pointer (some ⟨b, 0, none⟩)) ∧ OutEnd w b base v (l ++ t) w' := by
  obtain ⟨i0, hi, hz0, hz1, hz2⟩ := info_parts Tryd.info5
  have hc := cell_of_one hO.cell
  have hf := free_of_one hO.cell
  have hb := lt_of_block hO.cell
  have HO := hid hO
  have hlen1 : l.length + (S t).size ≤ maxLen := by rw [S_size]; unfold maxLen; omega
  have hlen2 : l.length + (S t).size ≤ 140737488355328 := by rw [S_size]; omega
  clear hO
  go_enter Tryd.func29, Tryd.ntmps29
  go_wp2_with (at_builtin; refine wpList_append_string _ rfl _ _ 41 9 rfl base 5 i0 Tryd.underlying41 Tryd.underlying9 hi hz0 hz1 hz2 v _ _ rfl HO.out.own (S t) rfl hlen1 hlen2 hbase ?_; intro v2 w2 hown2 hgrow hat; have c2 := (hgrow.cell_far ⟨b, 0, none⟩ hb (fun e => HO.out.apart e.symm)).trans hc; have f2 := (hgrow.frozen_far ⟨b, 0, none⟩ hb (fun e => HO.out.apart e.symm)).trans hf; obtain ⟨ao, cp, rfl⟩ := shape_of hown2; have Hown2 := hid hown2; have Hgrow := hid hgrow; have Hat := hid hat; clear hown2 hgrow hat)
  go_ret
  refine ⟨rfl, out_end HO.out ?_ Hgrow.out Hat.out⟩
  have h := Hown2.out
  rw [strCells_S, S_size] at h
  rw [List.length_append, byteCells_append, S_size]
  exact h

theorem repeat_one (x : UInt8) (c : Nat) : Lib.repeatL [x] c = List.replicate c x := by
  induction c with
  | zero => rfl
  | succ c ih => simp [Lib.repeatL, List.replicate_succ] at ih ⊢ <;> try exact ih
theorem repeat_zero (c : Nat) (w : World) (hc : c ≤ 1000000000) : Calls Tryd.prog 81 #[.string ⟨#[0]⟩, .int .i64 c] w fun e w' => e = .returned (.string (S (List.replicate c 0))) ∧ Below w.heap.size w w' := by
  refine (Tryd.strings_Repeat ⟨#[0]⟩ c w (by omega) (by show 1 * c ≤ _; omega)).mono ?_
  rintro e w' ⟨rfl, hB⟩
  exact ⟨by rw [← repeat_one]; rfl, hB⟩

theorem out_fill_big (b base : Nat) (v : Value) (l : List UInt8) (n : Int) (w : World) (hO : OutAt w b base v l) (hn : n < l.length) :
    Calls Tryd.prog 33 #[.pointer (some ⟨b, 0, none⟩), .int .i64 n] w fun e w' => e = .panicked (fault 3) ∧ w = w' := by
  have hc := cell_of_one hO.cell
  obtain ⟨ao, cp, rfl⟩ := shape_of hO.own
  clear hO
  go_enter Tryd.func33, Tryd.ntmps33
  go_wp2_with (go_at_call 79; refine (fail_any _ _).mono ?_; rintro e w' ⟨rfl, rfl⟩)
  exact ⟨rfl, rfl, rfl⟩

theorem out_fill (b base : Nat) (v : Value) (l : List UInt8) (n : Nat) (w : World) (hO : OutAt w b base v l) (hbase : base ≤ w.heap.size) (hn : l.length ≤ n) (hl : n ≤ 100000000) :
    Calls Tryd.prog 33 #[.pointer (some ⟨b, 0, none⟩), .int .i64 n] w fun e w' =>
      e = .returned (.pointer (some ⟨b, 0, none⟩)) ∧ OutEnd w b base v (l ++ List.replicate (n - l.length) 0) w' := by
  have hc := cell_of_one hO.cell
  have hb := lt_of_block hO.cell
  obtain ⟨ao, cp, rfl⟩ := shape_of hO.own
  have HO := hid hO
  have hd : decide (n < l.length) = false := by simp; omega
  have e1 : (n : Int) - (l.length : Int) = ((n - l.length : Nat) : Int) := by omega
  have hq : n - l.length ≤ 100000000 := by omega
  have hsum : l.length + (n - l.length) ≤ 100000000 := by omega
  clear hO
  go_enter Tryd.func33, Tryd.ntmps33
  go_wp2_with fail
  refine (repeat_zero (n - l.length) w (by omega)).mono ?_
  rintro e w1 ⟨rfl, hB⟩
  have hF := Fr.ofBelow hB (fun _ => False)
  have hO1 := HO.out.fr hF id (fun _ _ => id)
  have hs1 := hB.size
  have HO1 := hid hO1
  have HF := hid hF
  clear hF hO1 hB e1 hd hc
  go_wp2_with fail
  refine (out_text b base _ l _ w1 HO1.out (by omega) (by rw [List.length_replicate]; exact hsum)).mono ?_
  rintro e w2 ⟨rfl, hE⟩
  have HE : Hid (OutEnd w b base (.slice ao l.length cp) (l ++ List.replicate (n - l.length) 0) w2) := hid (OutEnd.trans HO1.out (.inl rfl) (HF.out.mono fun _ _ h => h.elim) hE)
  clear hE
  go_wp2_with fail
  go_ret
  exact ⟨rfl, HE.out⟩
theorem OutEnd.open' {w w' : World} {b base : Nat} {v : Value} {l : List UInt8} (h : OutEnd w b base v l w') : ∃ ao cp, OutAt w' b base (.slice ao l.length cp) l ∧ Moved w v (.slice ao l.length cp) ∧ Fr (outs b v) w w' := by
  obtain ⟨v', h1, h2, h3⟩ := h
  obtain ⟨ao, cp, rfl⟩ := shape_of h1.own
  exact ⟨ao, cp, h1, h2, h3⟩

/-- Block B is an Out that bears l; its row lies behind it. -/
def OutW (B : Nat) (l : List UInt8) (w : World) : Prop := ∃ ao cp, OutAt w B B (.slice ao l.length cp) l
theorem OutW.lt {B : Nat} {l : List UInt8} {w : World} (h : OutW B l w) : B < w.heap.size := by
  obtain ⟨ao, cp, h⟩ := h
  exact lt_of_block h.cell
theorem OutW.new (w : World) : OutW w.heap.size [] (w.alloc (.cells #[.slice none 0 0] 43)) := ⟨none, 0, OutAt.new w _⟩
theorem OutW.fr {B : Nat} {l : List UInt8} {w w' : World} (h : OutW B l w) {T : Nat → Prop} (hF : Fr T w w') (hT : ∀ k, B ≤ k → k < w.heap.size → ¬ T k) : OutW B l w' := by
  obtain ⟨ao, cp, h⟩ := h
  refine ⟨ao, cp, h.fr hF (hT B (Nat.le_refl _) (lt_of_block h.cell)) fun k hk => ?_⟩
  have := h.lt hk
  exact hT k this.1 this.2
theorem OutW.below {B : Nat} {l : List UInt8} {w w' : World} (h : OutW B l w) (hB : Below w.heap.size w w') : OutW B l w' := h.fr (Fr.ofBelow hB (fun _ => False)) (fun _ _ _ => id)
theorem OutW.drew {B : Nat} {l : List UInt8} {w : World} (h : OutW B l w) : OutW B l w.drew := h.fr (Fr.refl (fun _ => False) w).drew (fun _ _ _ => id)
theorem OutW.drew2 {B : Nat} {l : List UInt8} {w w0 : World} (h : OutW B l w) (hB : Below B w0 w) : Below B w0 w.drew := by
  have := h.lt
  exact hB.drew
theorem OutEnd.ow {B : Nat} {ao : Option Addr} {cp : Nat} {l m : List UInt8} {w w' : World} (hO : OutAt w B B (.slice ao l.length cp) l) (h : OutEnd w B B (.slice ao l.length cp) m w') : OutW B m w' ∧ Below B w w' := by
  obtain ⟨ao', cp', h1, _, h3⟩ := h.open'
  refine ⟨⟨ao', cp', h1⟩, h3.below (Nat.le_of_lt (lt_of_block hO.cell)) fun k hk hx => ?_⟩
  rcases hx with hx | hx
  · omega
  · have := (hO.lt hx).1
    omega
theorem ow_num (B : Nat) (l : List UInt8) (n : Nat) (size : Int) (k : Nat) (w : World) (h : OutW B l w) (hk : min (max size 1) 8 = (k : Int)) (hl : l.length ≤ 1000000) :
    Calls Tryd.prog 28 #[.pointer (some ⟨B, 0, none⟩), .int .u64 n, .int .i64 size] w fun e w' => e = .returned (.pointer (some ⟨B, 0, none⟩)) ∧ OutW B (l ++ num n k) w' ∧ Below B w w' := by
  obtain ⟨ao, cp, hO⟩ := h
  exact (out_num B B _ l n size k w hO hk (Nat.le_of_lt (lt_of_block hO.cell)) hl).mono fun _ _ ⟨he, hE⟩ => ⟨he, hE.ow hO⟩
theorem ow_text (B : Nat) (l t : List UInt8) (w : World) (h : OutW B l w) (hl : l.length + t.length ≤ 100000000) :
    Calls Tryd.prog 29 #[.pointer (some ⟨B, 0, none⟩), .string (S t)] w fun e w' => e = .returned (.pointer (some ⟨B, 0, none⟩)) ∧ OutW B (l ++ t) w' ∧ Below B w w' := by
  obtain ⟨ao, cp, hO⟩ := h
  exact (out_text B B _ l t w hO (Nat.le_of_lt (lt_of_block hO.cell)) hl).mono fun _ _ ⟨he, hE⟩ => ⟨he, hE.ow hO⟩
theorem ow_fill (B : Nat) (l : List UInt8) (n : Nat) (ni : Int) (hi : ni = (n : Int)) (w : World) (h : OutW B l w) (hn : l.length ≤ n) (hl : n ≤ 100000000) :
    Calls Tryd.prog 33 #[.pointer (some ⟨B, 0, none⟩), .int .i64 ni] w fun e w' => e = .returned (.pointer (some ⟨B, 0, none⟩)) ∧ OutW B (l ++ List.replicate (n - l.length) 0) w' ∧ Below B w w' := by
  subst hi
  obtain ⟨ao, cp, hO⟩ := h
  exact (out_fill B B _ l n w hO (Nat.le_of_lt (lt_of_block hO.cell)) hn hl).mono fun _ _ ⟨he, hE⟩ => ⟨he, hE.ow hO⟩
theorem ow_fill_big (B : Nat) (l : List UInt8) (n : Int) (w : World) (h : OutW B l w) (hn : n < l.length) :
    Calls Tryd.prog 33 #[.pointer (some ⟨B, 0, none⟩), .int .i64 n] w fun e w' => e = .panicked (fault 3) ∧ w = w' := by
  obtain ⟨ao, cp, hO⟩ := h
  exact out_fill_big B B _ l n w hO hn
theorem ow_bytes (B : Nat) (l : List UInt8) (w : World) (h : OutW B l w) :
    Calls Tryd.prog 31 #[.pointer (some ⟨B, 0, none⟩)] w fun e w' => e = .returned (.string (S l)) ∧ w = w' := by
  obtain ⟨ao, cp, hO⟩ := h
  exact out_bytes B B _ l w hO
end Go.Proofs.YtkmbbgnbklklcaaDoor
