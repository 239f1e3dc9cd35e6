/-
  Contracts of package pack's Out: Num, Bytes.
-/
import Derived.Test.YtkmbbgnbklklcaaDoorGuard
namespace Go.Proofs.YtkmbbgnbklklcaaDoor
open Go.RowKit

/-- Block b is an Out that bears l, in the row that v owns. -/
structure OutAt (w : World) (b base : Nat) (v : Value) (l : List UInt8) : Prop where
  cell : w.heap[b]? = some (.cells #[v] 43 (0, 0))
  own : w.ownsRow base 5 1 v l.length (byteCells l)
  apart : v.ownBlock ≠ some b
theorem OutAt.fr {w w' : World} {b base : Nat} {v : Value} {l : List UInt8} (h : OutAt w b base v l) {T : Nat → Prop} (hF : Fr T w w') (hb : ¬ T b) (hv : ∀ k, some k = v.ownBlock → ¬ T k) : OutAt w' b base v l :=
  ⟨hF.heap h.cell hb, hF.own h.own hv, h.apart⟩
theorem OutAt.new (w : World) (base : Nat) : OutAt (w.alloc (.cells #[.slice none 0 0] 43)) w.heap.size base (.slice none 0 0) [] :=
  ⟨heap_new _ _, World.ownsRow_nil _ _ _ _, by simp [Value.ownBlock]⟩

/-- The first j of a number's k bytes, the highest first. -/
def numTo (n k j : Nat) : List UInt8 := (List.range j).map fun i => UInt8.ofNat (n / 256 ^ (k - 1 - i))
def num (n k : Nat) : List UInt8 := numTo n k k
theorem numTo_length (n k j : Nat) : (numTo n k j).length = j := by simp [numTo]
theorem num_length (n k : Nat) : (num n k).length = k := numTo_length n k k
theorem numTo_succ (n k j : Nat) : numTo n k (j + 1) = numTo n k j ++ [UInt8.ofNat (n / 256 ^ (k - 1 - j))] := by
  simp [numTo, List.range_succ]

theorem byte_shift (n q : Nat) : ((UInt8.ofNat (n / 256 ^ q)).toNat : Int) = IntKind.u8.wrap ((n : Int) / 2 ^ (8 * q)) := by
  have h : (2 : Nat) ^ (8 * q) = 256 ^ q := by rw [Nat.pow_mul]
  have h2 : ((2 : Int) ^ (8 * q)) = ((256 ^ q : Nat) : Int) := by rw [← h]; simp
  rw [IntKind.wrap_u8, h2, ← Int.natCast_ediv]
  simp

/-- How an Out's row has turned: it is the old one, or a new one. -/
def Moved (w : World) (v v' : Value) : Prop := v'.ownBlock = v.ownBlock ∨ ∃ g, v'.ownBlock = some g ∧ w.heap.size ≤ g
/-- The blocks that an Out's calls write. -/
def outs (b : Nat) (v : Value) (k : Nat) : Prop := k = b ∨ some k = v.ownBlock
/-- What a call of an Out leaves. -/
def OutEnd (w : World) (b base : Nat) (v : Value) (l : List UInt8) (w' : World) : Prop := ∃ v', OutAt w' b base v' l ∧ Moved w v v' ∧ Fr (outs b v) w w'
theorem OutEnd.trans {w w1 w2 : World} {b base : Nat} {v v1 : Value} {l1 l2 : List UInt8} (_h1 : OutAt w1 b base v1 l1) (hm : Moved w v v1) (hF : Fr (outs b v) w w1) (h2 : OutEnd w1 b base v1 l2 w2) : OutEnd w b base v l2 w2 := by
  obtain ⟨v2, h3, h4, h5⟩ := h2
  refine ⟨v2, h3, ?_, hF.trans h5 ?_⟩
  · rcases h4 with h4 | ⟨g, h4, hg⟩
    · rcases hm with hm | ⟨g, hm, hg⟩
      · exact .inl (h4.trans hm)
      · exact .inr ⟨g, h4.trans hm, hg⟩
    · exact .inr ⟨g, h4, Nat.le_trans hF.size hg⟩
  · rintro i hi (h | h)
    · exact .inl h
    · rcases hm with hm | ⟨g, hm, hg⟩
      · exact .inr (h.trans hm)
      · rw [hm] at h
        injection h with h
        omega

/-- What a call leaves of an Out whose block b lies from B on, as its row does. -/
theorem OutEnd.below {w0 w w' : World} {b base B : Nat} {v : Value} {l : List UInt8} (h : OutEnd w b base v l w') (h0 : Below B w0 w) (hB : B ≤ w.heap.size) (hb : B ≤ b) (hv : ∀ k, some k = v.ownBlock → B ≤ k) :
    Below B w0 w' ∧ ∃ v', OutAt w' b base v' l ∧ (∀ k, some k = v'.ownBlock → B ≤ k) := by
  obtain ⟨v', h1, h2, h3⟩ := h
  refine ⟨h0.trans (h3.below hB fun k hk hs => ?_), v', h1, ?_⟩
  · rcases hs with hs | hs
    · omega
    · have := hv k hs; omega
  · intro k hk
    rcases h2 with h2 | ⟨g, h2, hg⟩
    · exact hv k (hk.trans h2)
    · rw [h2] at hk
      injection hk with hk
      omega

theorem OutAt.lt {w : World} {b base : Nat} {v : Value} {l : List UInt8} (h : OutAt w b base v l) {k : Nat} (hk : some k = v.ownBlock) : base ≤ k ∧ k < w.heap.size := h.own.lt k hk.symm
theorem OutAt.row_ne {w : World} {b base : Nat} {v : Value} {l : List UInt8} (h : OutAt w b base v l) {k : Nat} {c : Array Value} {t : TypeId} (hk : w.heap[k]? = some (.cells c t (0, 0))) (ht : t ≠ 5) : some k ≠ v.ownBlock := by
  intro e
  rcases h.own.2 with ⟨rfl, _⟩ | ⟨g, cap, cur, rfl, _, hg, _⟩
  · simp [Value.ownBlock] at e
  · simp [Value.ownBlock] at e
    subst e
    rw [hg] at hk
    injection hk with hk
    injection hk with _ hk
    exact ht hk.symm
/-- Another block, of another type, is as it was. -/
theorem OutEnd.other {w w' : World} {b base : Nat} {v : Value} {l m : List UInt8} (hO : OutAt w b base v l) (h : OutEnd w b base v m w') {k : Nat} {c : Array Value} {t : TypeId} (hk : w.heap[k]? = some (.cells c t (0, 0))) (ht : t ≠ 5) (hb : k ≠ b) :
    w'.heap[k]? = some (.cells c t (0, 0)) := by
  obtain ⟨v', _, _, h3⟩ := h
  exact h3.heap hk fun hs => hs.elim hb (hO.row_ne hk ht)

theorem Tryd.info5 : (Tryd.prog.info? 5).map (fun i => (i.zero, i.size, i.bytes)) = some (some (.int .u8 0), 1, 1) := by kernel_rfl

theorem out_step {wr wx w2 : World} {b base g cap n : Nat} {v1 : Value} {xs : List Value} {m l : List UInt8} (hO : OutAt wr b base v1 l) (hx : Fr (fun _ => False) wr wx) (hgrow : wx.grownBy w2 v1.ownBlock)
    (hown : w2.ownsRow base 5 1 (.slice (some ⟨g, 0, none⟩) n cap) n xs) (hg : v1.ownBlock = some g ∨ wr.heap.size ≤ g) (hxs : xs = byteCells m) (hn : n = m.length) :
    OutEnd wr b base v1 m (w2.setCell ⟨b, 0, none⟩ (.slice (some ⟨g, 0, none⟩) n cap)) := by
  subst hxs hn
  have hb := lt_of_block hO.cell
  have hne : g ≠ b := by
    rcases hg with hg | hg
    · intro e; subst e; exact hO.apart hg
    · omega
  refine ⟨_, ⟨one_setCell (hgrow.block b (Nat.lt_of_lt_of_le hb hx.size) (fun e => hO.apart e.symm) |>.trans (hx.heap hO.cell (fun h => h))), ownsRow_setCell_other hown (by simpa [Value.ownBlock] using hne) _, by simpa [Value.ownBlock] using hne⟩, ?_, ?_⟩
  · rcases hg with hg | hg
    · exact .inl hg.symm
    · exact .inr ⟨g, rfl, hg⟩
  · refine ((hx.mono fun _ _ h => h.elim).trans (Fr.ofGrown hgrow) ?_).setCell (fun _ => .inl rfl) _
    exact fun i _ hi => .inr hi

set_option maxHeartbeats 800000 in
theorem out_num (b base : Nat) (v : Value) (l : List UInt8) (n : Nat) (size : Int) (k : Nat) (w : World) (hO : OutAt w b base v l) (hk : min (max size 1) 8 = (k : Int))
    (hbase : base ≤ w.heap.size) (hl : l.length ≤ 1000000) :
    Calls Tryd.prog 28 #[.pointer (some ⟨b, 0, none⟩), .int .u64 n, .int .i64 size] w fun e w' =>
      e = .returned (.pointer (some ⟨b, 0, none⟩)) ∧ OutEnd w b base v (l ++ num n k) w' := by
  have hk8 : 1 ≤ k ∧ k ≤ 8 := by omega
  obtain ⟨i0, hi, hz0, hz1, hz2⟩ := info_parts Tryd.info5
  have HO := hid hO
  clear hO
  go_enter Tryd.func28, Tryd.ntmps28
  go_wp2
  clear hk
  go_loopw [7] (fun i w' => ∃ r : Nat, r ≤ k ∧ i = .int .i64 ((r : Int) - 1) ∧ OutEnd w b base v (l ++ numTo n k (k - r)) w') (fun i _ => (intOf i + 1).toNat)
  case atStart => exact ⟨k, Nat.le_refl _, by go_num, v, by simpa [numTo] using HO.out, .inl rfl, Fr.refl _ _⟩
  case round =>
    obtain ⟨r, hr, rfl, v1, hO1, hM, hF⟩ := hrel
    cases r with
    | succ q =>
      rw [show ((q + 1 : Nat) : Int) - 1 = (q : Int) from by omega]
      have hml : (l ++ numTo n k (k - (q + 1))).length ≤ 1000008 := by rw [List.length_append, numTo_length]; omega
      have hm2 : l ++ numTo n k (k - q) = (l ++ numTo n k (k - (q + 1))) ++ [UInt8.ofNat (n / 256 ^ q)] := by
        rw [show k - q = (k - (q + 1)) + 1 from by omega, numTo_succ, show k - 1 - (k - (q + 1)) = q from by omega, List.append_assoc]
      generalize l ++ numTo n k (k - (q + 1)) = m at *
      have Hm2 := hid hm2
      have hb := lt_of_block hO1.cell
      have hc := cell_of_one hO1.cell
      have hf := free_of_one hO1.cell
      have HO1 := hid hO1
      have HM := hid hM
      have HF := hid hF
      have hq8 : q < 8 := by omega
      have hlen1 : m.length + 1 ≤ maxLen := by unfold maxLen; omega
      have hbs : base ≤ (wr.alloc (.cells #[.int .u8 (IntKind.u8.wrap ((n : Int) / 2 ^ (8 * q)))] 5)).drew.heap.size := by have := hF.size; simp; omega
      have e8 : IntKind.i64.wrap (8 * (q : Int)) = 8 * (q : Int) := IntWalk.i64_in _ (by omega)
      have e9 : (0 : Int) ≤ 8 * (q : Int) := by omega
      have e10 : (8 * (q : Int)).toNat = 8 * q := by omega
      clear hO1 hM hF hm2
      go_wp2
      go_region_law (refine step_append_lies _ rfl (.tmp 21) (.tmp 27) 41 rfl base 5 i0 (.int .u8 0) 1 1 Tryd.underlying41 hi hz0 hz1 hz2 rfl (by decide) v1 _ _ (by simp [Act.eval]) (HO1.out.own.alloc _) ⟨wr.heap.size, 0, none⟩ 1 1 [.int .u8 (IntKind.u8.wrap ((n : Int) / 2 ^ (8 * q)))] (by simp [Act.eval]) rfl (news_one (by simp)) (one_one rfl) (by decide) hlen1 (by omega) hbs (wr.heap.size + 1) (by simp) ?_; intro g cap w2 hown2 hgrow hg hlt2; have c2 := (hgrow.cell_far ⟨b, 0, none⟩ (by simp; omega) (fun e => HO1.out.apart e.symm)).trans (cellA hb hc _); have f2 := (hgrow.frozen_far ⟨b, 0, none⟩ (by simp; omega) (fun e => HO1.out.apart e.symm)).trans (frzA hb hf _); have Hown2 := hid hown2; have Hgrow := hid hgrow; have Hg := hid hg; clear hown2 hgrow hg)
      all_goals
        go_wp2
        go_roundw
        case rel =>
          refine ⟨q, by omega, by go_num, ?_⟩
          rw [Hm2.out]
          refine OutEnd.trans HO1.out HM.out HF.out (out_step HO1.out ((Fr.refl _ _).alloc _).drew Hgrow.out Hown2.out (Hg.out.imp id fun h => by omega) ?_ (by simp))
          rw [byteCells_append]
          exact congrArg (fun x => byteCells m ++ [Value.int .u8 x]) (byte_shift n q).symm
        case measure => simp [intOf]
    | zero =>
      go_wp2
      go_ret
      exact ⟨rfl, v1, by simpa [num] using hO1, hM, hF⟩

theorem out_bytes (b base : Nat) (v : Value) (l : List UInt8) (w : World) (hO : OutAt w b base v l) :
    Calls Tryd.prog 31 #[.pointer (some ⟨b, 0, none⟩)] w fun e w' => e = .returned (.string (S l)) ∧ w = w' := by
  have hc := cell_of_one hO.cell
  have hr := run_bytes_string (P := Tryd.prog) 41 9 5 w base _ v l hO.own Tryd.underlying41 Tryd.underlying9 Tryd.underlying5
  clear hO
  go_enter Tryd.func31, Tryd.ntmps31
  go_wp2
  go_ret
  exact ⟨rfl, rfl⟩

end Go.Proofs.YtkmbbgnbklklcaaDoor
