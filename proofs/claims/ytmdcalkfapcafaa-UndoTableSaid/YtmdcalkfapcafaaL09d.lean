/-
  Law 09: UndoTable: what runs in a Try.
-/
import Derived.Test.YtmdcalkfapcafaaL09a
import Derived.Test.YtmdcalkfapcafaaMapStr
import Derived.StillTailTactics
namespace Go.Proofs.Ytmdcalkfapcafaa
open Go.RowKit

theorem SliceOf.below {w0 w : World} {a : Option Addr} {len cap : Nat} {f : Nat → Value} (h : SliceOf w0 a len cap f) (hB : Below w0.heap.size w0 w) : SliceOf w a len cap f := by
  refine ⟨h.max, h.le, ?_⟩
  rcases h.reads with h1 | ⟨x, rfl, h1⟩
  · exact .inl h1
  · refine .inr ⟨x, rfl, fun i hi => ?_⟩
    have h2 := h1 i hi
    have hlt := World.block_lt_of_cell? _ _ h2
    exact (World.cell?_of_block (hB.block _ hlt)).trans h2
theorem SliceOf.get {w : World} {a : Option Addr} {len cap : Nat} {f : Nat → Value} (h : SliceOf w a len cap f) {i : Nat} (hi : i < len) : ∃ x, a = some x ∧ w.cell? (x.add i) = some (f i) := by
  rcases h.reads with ⟨_, h0⟩ | ⟨x, rfl, h1⟩
  · omega
  · exact ⟨x, rfl, h1 i hi⟩

theorem Ran.drew {κ σ : Type} {b base : Nat} {D : Nat → Prop} {Inv : κ → σ → World → Prop} (hI : Stable b D Inv) {v v' : Value} {fs : List Value} {d : Nat} {s1 s2 : σ} {w w' : World} {K : κ} {rs : List Rec} (h : Ran b base D Inv v fs d s1 w w' K s2 rs v') : Ran b base D Inv v fs d s1 w w'.drew K s2 rs v' :=
  ⟨⟨h.log.c0, h.log.c1, h.log.f0, h.log.f1, h.log.own, h.log.apart, h.log.one⟩, h.moved, h.zero, h.chain, hI K s2 w' w'.drew h.inv (fun _ _ _ => rfl) (fun _ _ => ⟨rfl, rfl⟩), h.ok, h.new, h.fr.drew⟩

/-- One step on a table. -/
def tabOp (T V : Nat → List UInt8) (k : Nat) (D : DataW Unit) : DataW Unit := if V k = [] then D.del (.string (S (T k)).data.toList) else D.put (.string (S (T k)).data.toList) (.lit (.string (S (V k)).data.toList))
def tabTo (T V : Nat → List UInt8) (i n : Nat) (D : DataW Unit) : DataW Unit := (List.range' i n).foldl (fun D k => tabOp T V k D) D
theorem tabTo_zero (T V : Nat → List UInt8) (i : Nat) (D : DataW Unit) : tabTo T V i 0 D = D := rfl
theorem tabTo_succ (T V : Nat → List UInt8) (i n : Nat) (D : DataW Unit) : tabTo T V i (n + 1) D = tabOp T V (i + n) (tabTo T V i n D) := by
  unfold tabTo
  rw [List.range'_concat, List.foldl_append]
  simp

def InvT (bm : Nat) : Unit → DataW Unit → World → Prop := fun _ D w => OwnM Try.prog 9 9 w bm D ∧ Maps.size D ≤ 1000
theorem invT_stable (b bm : Nat) (hb : bm ≠ b) : Stable b (fun k => k = bm) (InvT bm) := fun _ _ _ _ h hk _ => ⟨h.1.same (hk bm rfl hb), h.2⟩
theorem invT_var (b bm : Nat) (hb : b < bm) : MVar b (fun k => k = bm) (InvT bm) Try.prog 9 9 bm id (fun _ M => M) :=
  ⟨rfl, by omega, fun _ _ _ h => by have := h.1.lt; omega, fun _ _ _ h => h, fun _ _ _ _ _ _ _ h2 h3 => ⟨h2, h3⟩, fun _ _ => rfl, fun _ _ => rfl⟩

theorem size_op {P : Program} {k e : TypeId} {w : World} {bm : Nat} (Kd : Maps.Keyed P k) {T V : Nat → List UInt8} {j : Nat} {D : DataW Unit} (h : OwnM P k e w bm D) : Maps.size (tabOp T V j D) ≤ Maps.size D + 1 := by
  have ht := World.ownsMap.tidy h Kd
  unfold tabOp
  split
  · have := Maps.size_del (k := .string (S (T j)).data.toList) ht
    omega
  · rw [Maps.size_put ht]
    split <;> omega

theorem enters_tab (a c d e f g h : Value) : Enters 24 #[a, c, d, e, f, g, h] := fun w => by kernel_rfl

set_option maxHeartbeats 800000 in
theorem tab_run (W : World) (av ak af : Option Addr) (lv cv lk ck lf cf : Nat) (T V : Nat → List UInt8) (B : Nat → Bool) (hv : SliceOf W av lv cv (fun i => .string (S (V i)))) (hk : SliceOf W ak lk ck (fun i => .string (S (T i)))) (hf : SliceOf W af lf cf (fun i => .bool (B i)))
    (hT : ∀ i, i < lk → (T i).length ≤ maxLen) (hV : ∀ i, i < lv → (V i).length ≤ maxLen)
    (b bm bi bl bv bc bk bf : Nat) (i last : Nat) (D : DataW Unit) (w : World) (hW : Below W.heap.size W w) (hNb : W.heap.size ≤ b) (hL : LogAt w b 0 (.slice none 0 0) [] 1) (hb : b < bm) (hI : InvT bm () D w) (hsz : Maps.size D ≤ i)
    (hi : w.heap[bi]? = some (.cells #[.int .i64 i] 3 (0, 0))) (hl : w.heap[bl]? = some (.cells #[.int .i64 last] 3 (0, 0))) (hbv : w.heap[bv]? = some (.cells #[.slice av lv cv] 46 (0, 0))) (hbc : w.heap[bc]? = some (.cells #[.map (some bm)] 47 (0, 0)))
    (hbk : w.heap[bk]? = some (.cells #[.slice ak lk ck] 46 (0, 0))) (hbf : w.heap[bf]? = some (.cells #[.slice af lf cf] 23 (0, 0)))
    (hne : ∀ k, k = bi ∨ k = bl ∨ k = bv ∨ k = bc ∨ k = bk ∨ k = bf → k ≠ bm ∧ k ≠ b) (hlast : i ≤ last) (hlv : last < lv) (hlk : last < lk) (hlf : last < lf) (hl30 : last < 30) (fl : Bool) (hfl : B last = fl) :
    Calls Try.prog 24 #[.pointer (some ⟨bi, 0, none⟩), .pointer (some ⟨bl, 0, none⟩), .pointer (some ⟨bv, 0, none⟩), .pointer (some ⟨b, 0, none⟩), .pointer (some ⟨bc, 0, none⟩), .pointer (some ⟨bk, 0, none⟩), .pointer (some ⟨bf, 0, none⟩)] w fun e w' =>
      (∃ rs v', Ran b 0 (fun k => k = bm) (InvT bm) (.slice none 0 0) [] 1 D w w' () (tabTo T V i (last + 1 - i) D) rs v') ∧ e = if fl then .panicked (fault 11) else .returned (.tuple #[]) := by
  have nov : ∀ k, some k ≠ (Value.slice none 0 0).ownBlock := fun k => by simp [Value.ownBlock]
  have c0 := cell_of_one hi
  have Hi := hid hi
  have Hl := hid hl
  have Hbv := hid hbv
  have Hbc := hid hbc
  have Hbk := hid hbk
  have Hbf := hid hbf
  have HL := hid hL
  have HI := hid hI
  have Hv := hid hv
  have Hk := hid hk
  have Hf := hid hf
  have HW := hid hW
  have hbl := hL.lt
  have Hfl := hid hfl
  clear hfl
  clear hi hl hbv hbc hbk hbf hL hI hv hk hf hW
  go_enter Try.func24, Try.ntmps24
  go_wp2_with fail
  go_loopw [7] (fun x w' => ∃ q : Nat, i ≤ q ∧ q ≤ last + 1 ∧ x = .int .i64 q ∧ ∃ rs v', rs.length ≤ q - i ∧ Maps.size (tabTo T V i (q - i) D) ≤ q ∧ Ran b 0 (fun k => k = bm) (InvT bm) (.slice none 0 0) [] 1 D w w' () (tabTo T V i (q - i) D) rs v') (fun x _ => last + 1 - (intOf x).toNat)
  case atStart => exact ⟨i, Nat.le_refl _, by omega, rfl, [], _, by simp, by simpa [tabTo_zero] using hsz, by rw [Nat.sub_self, tabTo_zero]; exact Ran.refl HL.out HI.out⟩
  case round =>
    obtain ⟨q, hiq, hql, rfl, rs, v1, hrs, hsz1, hR⟩ := hrel
    have hfr := hR.fr
    have hnS : ∀ k, k = bi ∨ k = bl ∨ k = bv ∨ k = bc ∨ k = bk ∨ k = bf → ¬ (k = bm ∨ k = b ∨ some k = (Value.slice none 0 0).ownBlock) := fun k hk h => by
      rcases h with h | h | h
      · exact (hne k hk).1 h
      · exact (hne k hk).2 h
      · exact nov k h
    have hWr : Below W.heap.size W wr := HW.out.trans (hfr.below HW.out.size (fun k hk h => by
      rcases h with h | h | h
      · omega
      · omega
      · exact nov k h))
    have cl := cell_of_one (hfr.heap Hl.out (hnS _ (by simp)))
    have cbv := cell_of_one (hfr.heap Hbv.out (hnS _ (by simp)))
    have cbc := cell_of_one (hfr.heap Hbc.out (hnS _ (by simp)))
    have cbk := cell_of_one (hfr.heap Hbk.out (hnS _ (by simp)))
    have cbf := cell_of_one (hfr.heap Hbf.out (hnS _ (by simp)))
    have hbmr := hR.inv.1.lt
    have hszr := hR.fr.size
    have hDv : ∀ k, some k = v1.ownBlock → ¬ k = bm := fun k hk e => by
      rcases hR.moved k hk.symm with h | h
      · exact nov k h.symm
      · have := HI.out.1.lt; omega
    have HR := hid hR
    have HDv := hid hDv
    have hvm := Hv.out.max
    have hkm := Hk.out.max
    have hfm := Hf.out.max
    unfold maxLen at hvm hkm hfm
    have HWr := hid hWr
    clear hR hfr hnS hDv hWr
    by_cases hjl : q ≤ last
    · have hd : decide (q ≤ last) = true := by simp; omega
      obtain ⟨yv, rfl, hcv⟩ := (Hv.out.below HWr.out).get (i := q) (by omega)
      obtain ⟨yk, rfl, hck⟩ := (Hk.out.below HWr.out).get (i := q) (by omega)
      have hqv : (q : Int) < lv := by omega
      have hqk : (q : Int) < lk := by omega
      by_cases hV0 : V q = []
      · have hem : (S (V q)).toList.isEmpty = true := by rw [hV0, S_toList]; rfl
        have HV0 := hid hV0
        clear hV0
        go_wp2_with fail
        go_still_tail 5, (by kernel_rfl)
        change wpList _ _ _ _ _ wr.drew
        go_wp2_with fail
        have hRd := Ran.drew (invT_stable b bm (by omega)) HR.out
        have hs2 := size_op (T := T) (V := V) (j := q) keyStr hRd.inv.1
        have hop : tabOp T V q (tabTo T V i (q - i) D) = (tabTo T V i (q - i) D).del (.string (S (T q)).data.toList) := by unfold tabOp; rw [if_pos HV0.out]
        rw [hop] at hs2
        refine (dropStr_ran b 0 (fun k => k = bm) (InvT bm) (invT_stable b bm (by omega)) bm id (fun _ M => M) (invT_var b bm hb) v1 _ 1 wr.drew () _ hRd.log (by simp; omega) (Nat.zero_le _) (fun k hk => by subst hk; exact hbmr) HDv.out hRd.inv (S (T q)) (by rw [S_size]; exact hT q (by omega)) (by simp only [id]; omega)).mono ?_
        rintro e w2 ⟨rfl, qs, v2, hqs, hR2⟩
        have hR3 := hRd.trans hR2
        simp only [id] at hR3
        rw [← hop, show tabOp T V q (tabTo T V i (q - i) D) = tabTo T V i (q + 1 - i) D from by rw [show q + 1 - i = (q - i) + 1 from by omega, tabTo_succ, show i + (q - i) = q from by omega]] at hR3
        rw [← hop, show tabOp T V q (tabTo T V i (q - i) D) = tabTo T V i (q + 1 - i) D from by rw [show q + 1 - i = (q - i) + 1 from by omega, tabTo_succ, show i + (q - i) = q from by omega]] at hs2
        have HR3 := hid hR3
        have Hs2 := hid hs2
        clear hR3 hR2 hRd hs2 hop
        go_wp2
        go_roundw
        case rel => exact ⟨q + 1, by omega, by omega, by go_num, rs ++ qs, v2, by rw [List.length_append]; omega, by have := Hs2.out; omega, HR3.out⟩
        case measure => simp [intOf]; omega
      · have hem : (S (V q)).toList.isEmpty = false := by rw [S_toList]; simpa using hV0
        have HV0 := hid hV0
        clear hV0
        go_wp2_with fail
        go_still_tail 9, (by kernel_rfl)
        change wpList _ _ _ _ _ wr.drew
        go_wp2_with fail
        have hRd := Ran.drew (invT_stable b bm (by omega)) HR.out
        have hs2 := size_op (T := T) (V := V) (j := q) keyStr hRd.inv.1
        have hop : tabOp T V q (tabTo T V i (q - i) D) = (tabTo T V i (q - i) D).put (.string (S (T q)).data.toList) (.lit (.string (S (V q)).data.toList)) := by unfold tabOp; rw [if_neg HV0.out]
        rw [hop] at hs2
        refine (putStr_ran b 0 (fun k => k = bm) (InvT bm) (invT_stable b bm (by omega)) bm id (fun _ M => M) (invT_var b bm hb) v1 _ 1 wr.drew () _ hRd.log (by simp; omega) (Nat.zero_le _) (fun k hk => by subst hk; exact hbmr) HDv.out hRd.inv (S (T q)) (S (V q)) (by rw [S_size]; exact hT q (by omega)) (by rw [S_size]; exact hV q (by omega)) (by simp only [id]; omega)).mono ?_
        rintro e w2 ⟨rfl, qs, v2, hqs, hR2⟩
        have hR3 := hRd.trans hR2
        simp only [id] at hR3
        rw [← hop, show tabOp T V q (tabTo T V i (q - i) D) = tabTo T V i (q + 1 - i) D from by rw [show q + 1 - i = (q - i) + 1 from by omega, tabTo_succ, show i + (q - i) = q from by omega]] at hR3
        rw [← hop, show tabOp T V q (tabTo T V i (q - i) D) = tabTo T V i (q + 1 - i) D from by rw [show q + 1 - i = (q - i) + 1 from by omega, tabTo_succ, show i + (q - i) = q from by omega]] at hs2
        have HR3 := hid hR3
        have Hs2 := hid hs2
        clear hR3 hR2 hRd hs2 hop
        go_wp2
        go_roundw
        case rel => exact ⟨q + 1, by omega, by omega, by go_num, rs ++ qs, v2, by rw [List.length_append]; omega, by have := Hs2.out; omega, HR3.out⟩
        case measure => simp [intOf]; omega
    · have hd : decide (q ≤ last) = false := by simp; omega
      have hql : q = last + 1 := by omega
      rw [hql] at HR
      obtain ⟨yf, rfl, hcf⟩ := (Hf.out.below HWr.out).get (i := last) (by omega)
      have hqf : (last : Int) < lf := by omega
      rw [Hfl.out] at hcf
      clear Hfl hql
      cases fl with
      | true =>
        go_wp2_with fail
        refine (fail_any _ _).mono ?_
        rintro e w' ⟨rfl, rfl⟩
        exact ⟨rfl, ⟨rs, v1, HR.out⟩, by simp⟩
      | false =>
        go_wp2
        go_end0
        exact ⟨⟨rs, v1, HR.out⟩, by simp⟩

end Go.Proofs.Ytmdcalkfapcafaa
