/-
  Contracts of package super: parse.
-/
import Derived.Test.YtkmbbgnbklklcaaDoorSupC
import Derived.Test.YtkmbbgnbklklcaaDoorGuardB
namespace Go.Proofs.YtkmbbgnbklklcaaDoor
open Go.RowKit

theorem results_ct {fn : Func} {p q : Tmp} {ty : TypeId} (h : fn.results = #[.cell p ty, .tmp q]) (tmps : Array Value) (P : Program) (w : World) :
    (results fn tmps).run P w =
      ((asAddr (tmps.getD p undef)).run P w).andThen fun a w₁ => ((loadVar ty a).run P w₁).andThen fun v w₂ => .ok (.tuple #[v, tmps.getD q undef]) w₂ := by
  simp only [results, h]
  simp [Sem.run_bind, Result.andThen]
/-- The epoch and the number of a sector's first stamp. -/
def sEp (l : List UInt8) : Nat := be (l.take 4)
def sSq (l : List UInt8) : Nat := be ((l.drop 4).take 4)
def sTx (l : List UInt8) : List UInt8 := opens (sEp l) (sSq l) l
/-- Does a sector tell of a super that may be? -/
def bearsSup (l : List UInt8) (n : Nat) : Prop := isFrame (sEp l) (sSq l) l ∧ sSq l = 0 ∧ tells (sTx l) ∧ supErr (sEp l) (tJo (sTx l)) (tBi (sTx l)) (tHe (sTx l)) (tNe (sTx l)) n = 0
instance (l : List UInt8) (n : Nat) : Decidable (bearsSup l n) := inferInstanceAs (Decidable (_ ∧ _ ∧ _ ∧ _))
def supV (ep jo bi he ne : Nat) : Value := .agg #[.int .u32 (ep : Int), .int .i64 (jo : Int), .int .i64 (bi : Int), .int .i64 (he : Int), .int .u32 (ne : Int)]
theorem guard_parse (bt bs ep : Nat) (l : List UInt8) (w : World) (ht : w.heap[bt]? = some (.cells #[.string (S l)] 9 (0, 0))) (hX : SupAt w bs ep 0 0 0 0) (hl : l.length ≤ 100000) :
    Calls Tryd.prog 19 #[.func (.func 135) #[] #[.pointer (some ⟨bt, 0, none⟩), .pointer (some ⟨bs, 0, none⟩)]] w fun e w3 => ∃ c : Int, e = .returned (.int .i64 c) ∧ ((tells l ∧ c = 0 ∧ SupAt w3 bs ep (tJo l) (tBi l) (tHe l) (tNe l)) ∨ (¬ tells l ∧ c ≠ 0 ∧ ∃ jo bi he ne, jo < 65536 ∧ bi < 65536 ∧ he < 65536 ∧ ne < 4294967296 ∧ SupAt w3 bs ep jo bi he ne)) ∧ Fr (fun k => k = bs) w w3 := by
  have hbs := lt_of_block hX
  refine (guard_any _ _ w (fun c w' => ((tells l ∧ c = 0 ∧ SupAt w' bs ep (tJo l) (tBi l) (tHe l) (tNe l)) ∨ (¬ tells l ∧ c ≠ 0 ∧ ∃ jo bi he ne, jo < 65536 ∧ bi < 65536 ∧ he < 65536 ∧ ne < 4294967296 ∧ SupAt w' bs ep jo bi he ne)) ∧ Fr (fun k => k = bs) w w') (enters_parse _ _) ((parse1_any bt bs ep l _ (heap_old ht _) (heap_old hX _) hl).mono ?_)).mono ?_
  · rintro e w' ⟨h1, h2, h3⟩
    refine ⟨h3.heap (heap_new _ _) (by omega), ?_⟩
    have hF : Fr (fun k => k = bs) w w' := ((Fr.refl _ w).alloc _).trans h3 (fun _ _ h => h)
    by_cases ht : tells l
    · obtain ⟨rfl, hx⟩ := h1 ht
      exact .inl ⟨_, rfl, .inl ⟨ht, rfl, hx⟩, hF⟩
    · obtain ⟨c, jo, bi, he, ne, hc, rfl, q1, q2, q3, q4, hx⟩ := h2 ht
      exact .inr ⟨c, rfl, .inr ⟨ht, by omega, jo, bi, he, ne, q1, q2, q3, q4, hx⟩, hF⟩
  · rintro e w3 ⟨c, w', rfl, ⟨h1, h2⟩, hF⟩
    refine ⟨c, rfl, ?_, h2.trans hF (fun i hi e => by omega)⟩
    rcases h1 with ⟨q1, q2, q3⟩ | ⟨q1, q2, jo, bi, he, ne, q3, q4, q5, q6, q7⟩
    · exact .inl ⟨q1, q2, hF.heap q3 (by omega)⟩
    · exact .inr ⟨q1, q2, jo, bi, he, ne, q3, q4, q5, q6, hF.heap q7 (by omega)⟩
theorem stamp_s (l : List UInt8) (w : World) (hl : l.length = 64) :
    Calls Tryd.prog 40 #[.string (S l)] w fun e w' => e = .returned (.agg #[.int .u32 (sEp l : Int), .int .u32 (sSq l : Int)]) ∧ Below w.heap.size w w' := stamp_of l w (by omega)
theorem open_s (l : List UInt8) (w : World) (hl : l.length = 64) :
    Calls Tryd.prog 36 #[.agg #[.int .u32 (sEp l : Int), .int .u32 (sSq l : Int)], .string (S l)] w fun e w' => e = .returned (.tuple #[.string (S (sTx l)), .bool (decide (isFrame (sEp l) (sSq l) l))]) ∧ Below w.heap.size w w' := open_any (sEp l) (sSq l) l w (be_small _ (by rw [List.length_take]; omega)) (be_small _ (by rw [List.length_take]; omega)) (by omega)

theorem opens_len (a b : Nat) (l : List UInt8) : (opens a b l).length ≤ l.length := by
  unfold opens
  split
  · simp; omega
  · simp

set_option maxRecDepth 100000 in
set_option linter.unusedSimpArgs false in
set_option maxHeartbeats 4000000 in
theorem super_parse (l : List UInt8) (n : Nat) (w : World) (hl : l.length = 64) (hn : n ≤ 100000) :
    Calls Tryd.prog 126 #[.string (S l), .int .i64 (n : Int)] w fun e w' => (bearsSup l n → e = .returned (.tuple #[supV (sEp l) (tJo (sTx l)) (tBi (sTx l)) (tHe (sTx l)) (tNe (sTx l)), .bool true])) ∧ (¬ bearsSup l n → ∃ ep jo bi he ne : Nat, e = .returned (.tuple #[supV ep jo bi he ne, .bool false])) ∧ Below w.heap.size w w' := by
  have hss := S_size l
  go_enter Tryd.func126, Tryd.ntmps126
  go_upto_region 3 with (first
    | (go_at_call 40; (with_reducible refine (stamp_s l _ hl).mono ?_); rintro e w2 ⟨rfl, hB2⟩)
    | (go_at_call 36; (with_reducible refine (open_s l _ hl).mono ?_); rintro e w3 ⟨rfl, hB3⟩))
  have hR0 : SupAt (w.alloc (.cells #[.int .u32 0, .int .i64 0, .int .i64 0, .int .i64 0, .int .u32 0] 91)) w.heap.size 0 0 0 0 0 := heap_new w _
  have hR2 : SupAt w2 w.heap.size 0 0 0 0 0 := (hB2.block _ (by simp)).trans hR0
  have hB02 : Below w.heap.size w w2 := ((Below.refl _ w).alloc (Nat.le_refl _) (.cells #[.int .u32 0, .int .i64 0, .int .i64 0, .int .i64 0, .int .u32 0] 91)).trans (hB2.mono (by simp))
  have hs2 := hB2.size
  have hz2 : (w.alloc (.cells #[.int .u32 0, .int .i64 0, .int .i64 0, .int .i64 0, .int .u32 0] 91)).heap.size = w.heap.size + 1 := by simp
  rw [hz2] at hs2
  have hP3 : w3.heap[w2.heap.size]? = some (.cells #[.int .u32 (sEp l : Int), .int .u32 (sSq l : Int)] 54 (0, 0)) := (hB3.block _ (by simp)).trans (heap_new w2 (.cells #[.int .u32 (sEp l : Int), .int .u32 (sSq l : Int)] 54))
  have hR3 : SupAt w3 w.heap.size 0 0 0 0 0 := (hB3.block _ (by simp; omega)).trans (heap_old hR2 (.cells #[.int .u32 (sEp l : Int), .int .u32 (sSq l : Int)] 54))
  have hB03 : Below w.heap.size w w3 := (hB02.alloc (by omega) (.cells #[.int .u32 (sEp l : Int), .int .u32 (sSq l : Int)] 54)).trans (hB3.mono (by simp; omega))
  have hs3 := hB3.size
  have hz3 : (w2.alloc (.cells #[.int .u32 (sEp l : Int), .int .u32 (sSq l : Int)] 54)).heap.size = w2.heap.size + 1 := by simp
  rw [hz3] at hs3
  have hP4 := heap_old hP3 (.cells #[.string (S (sTx l))] 9)
  have hR4 : SupAt (w3.alloc (.cells #[.string (S (sTx l))] 9)) w.heap.size 0 0 0 0 0 := heap_old hR3 _
  have hT4 := heap_new w3 (.cells #[.string (S (sTx l))] 9)
  have hB4 := hB03.alloc (by omega) (.cells #[.string (S (sTx l))] 9)
  have hz4 : (w3.alloc (.cells #[.string (S (sTx l))] 9)).heap.size = w3.heap.size + 1 := by simp
  generalize w3.alloc (.cells #[.string (S (sTx l))] 9) = w4 at *
  clear hB2 hB3 hR0 hR2 hB02 hP3 hR3 hB03 hz2 hz3
  generalize hN : w.heap.size = N at *
  generalize w2.heap.size = P at *
  generalize w3.heap.size = Q at *
  have HN := hid hN
  have HB4 := hid hB4
  have HR4 := hid hR4
  have HT4 := hid hT4
  have p0 := cell_of_block hP4 0
  have p1 := cell_of_block hP4 1
  obtain ⟨r0, r1, r2, r3, r4⟩ := hR4.cells
  have f0 := free_of_block hR4 0
  have f1 := free_of_block hR4 1
  have f2 := free_of_block hR4 2
  have f3 := free_of_block hR4 3
  have f4 := free_of_block hR4 4
  simp only [List.getElem?_toArray, List.getElem?_cons_zero, List.getElem?_cons_succ] at p0 p1
  clear hN hB4 hR4 hT4 hP4
  by_cases hF : isFrame (sEp l) (sSq l) l ∧ sSq l = 0
  · have d1 : decide (isFrame (sEp l) (sSq l) l) = true := by simpa using hF.1
    have d2 : ((sSq l : Int) == 0) = true := by have h := hF.2; simp; omega
    have d3 : decide ((sSq l : Int) = 0) = true := by have h := hF.2; simp; omega
    have HF := hid hF
    clear hF
    go_upto_region 6 with fail
    have hX5 : SupAt (w4.alloc (.cells #[.int .u32 (sEp l : Int), .int .i64 0, .int .i64 0, .int .i64 0, .int .u32 0] 91)) (Q + 1) (sEp l) 0 0 0 0 := by rw [← hz4]; exact heap_new w4 _
    have hT5 := heap_old HT4.out (.cells #[.int .u32 (sEp l : Int), .int .i64 0, .int .i64 0, .int .i64 0, .int .u32 0] 91)
    have hR5 : SupAt (w4.alloc (.cells #[.int .u32 (sEp l : Int), .int .i64 0, .int .i64 0, .int .i64 0, .int .u32 0] 91)) N 0 0 0 0 0 := heap_old HR4.out _
    have hN4 := lt_of_block HR4.out
    have hB5 := HB4.out.alloc (by omega) (.cells #[.int .u32 (sEp l : Int), .int .i64 0, .int .i64 0, .int .i64 0, .int .u32 0] 91)
    generalize w4.alloc (.cells #[.int .u32 (sEp l : Int), .int .i64 0, .int .i64 0, .int .i64 0, .int .u32 0] 91) = w5 at *
    have htl : (sTx l).length ≤ 100000 := by have := opens_len (sEp l) (sSq l) l; unfold sTx; omega
    have hg := guard_parse Q (Q + 1) (sEp l) (sTx l) w5 hT5 hX5 htl
    have Hg := hid hg
    have HB5 := hid hB5
    have HR5 := hid hR5
    clear hg hX5 hT5 hR5 hB5 p0 p1 r0 r1 r2 r3 r4 f0 f1 f2 f3 f4 HT4 HR4 HB4
    (go_wp2_with fail)
    (with_reducible refine Hg.out.mono ?_)
    rintro e w6 ⟨c, rfl, hc, hF6⟩
    rcases hc with ⟨ht, rfl, hX6⟩ | ⟨ht, hc0, jo, bi, he, ne, q1, q2, q3, q4, hX6⟩
    · have q1 : tJo (sTx l) < 65536 := be2 _
      have q2 : tBi (sTx l) < 65536 := be2 _
      have q3 : tHe (sTx l) < 65536 := be2 _
      have q4 : tNe (sTx l) < 4294967296 := be4 _
      have hbs : bearsSup l n ↔ supErr (sEp l) (tJo (sTx l)) (tBi (sTx l)) (tHe (sTx l)) (tNe (sTx l)) n = 0 := ⟨fun h => h.2.2.2, fun h => ⟨HF.out.1, HF.out.2, ht, h⟩⟩
      have Hbs := hid hbs
      clear hbs ht
      generalize hjo : tJo (sTx l) = jo at *
      have Hjo := hid hjo
      clear hjo
      generalize hbi : tBi (sTx l) = bi at *
      have Hbi := hid hbi
      clear hbi
      generalize hhe : tHe (sTx l) = he at *
      have Hhe := hid hhe
      clear hhe
      generalize hne : tNe (sTx l) = ne at *
      have Hne := hid hne
      clear hne
      have HX6 := hid hX6
      obtain ⟨k0, k1, k2, k3, k4⟩ := hX6.cells
      have hR6 : SupAt w6 N 0 0 0 0 0 := hF6.heap HR5.out (by omega)
      have HR6 := hid hR6
      have hB6 : Below N w w6 := HB5.out.trans (hF6.below (by have := HB5.out.size; rw [HN.out] at this; exact this) (fun k hk e => by omega))
      have HB6 := hid hB6
      have hNX : N ≠ Q + 1 := by omega
      clear hX6 hR6 hB6 hF6 Hg HB5 HR5
      have hck := fun w => super_check (sEp l) jo bi he ne n w q1 q3 (by omega)
      have Hck := hid hck
      clear hck
      go_upto_region 7 with fail
      by_cases hk : supErr (sEp l) jo bi he ne n = 0
      · have Hk := hid hk
        rw [hk] at Hck
        clear hk
        refine wp_region_held_drew (S := fun w' => w'.cell? ⟨Q + 1, 0, none⟩ = some (.int .u32 (sEp l : Int)) ∧ w'.cell? ⟨Q + 1, 1, none⟩ = some (.int .i64 (jo : Int)) ∧ w'.cell? ⟨Q + 1, 2, none⟩ = some (.int .i64 (bi : Int)) ∧ w'.cell? ⟨Q + 1, 3, none⟩ = some (.int .i64 (he : Int)) ∧ w'.cell? ⟨Q + 1, 4, none⟩ = some (.int .u32 (ne : Int))) (by kernel_rfl) ⟨k0, k1, k2, k3, k4⟩ (fun hHeld => ?_)
        refine wpAnyH_take (i := 0) (oi := _) (v := ?_) rfl (by kernel_rfl) (by kernel_rfl) (by kernel_rfl) (fun _ _ _ h => h) (Or.inl ⟨by rfl, ?_⟩) (by assumption) ?_
        rotate_left
        · intro w hSw
          try dsimp only at hSw
          go_simp
          try with_reducible rfl
        try simp only [Act.put, List.setIfInBounds_toArray, List.set_cons_zero, List.set_cons_succ, List.getElem_toArray, List.getElem_cons_zero, List.getElem_cons_succ]
        refine wpAnyH_take (i := 1) (oi := _) (v := ?_) rfl (by kernel_rfl) (by kernel_rfl) (by kernel_rfl) (fun _ _ _ h => h) (Or.inl ⟨by rfl, ?_⟩) (by assumption) ?_
        rotate_left
        · intro w hSw
          try dsimp only at hSw
          go_simp
          try with_reducible rfl
        try simp only [Act.put, List.setIfInBounds_toArray, List.set_cons_zero, List.set_cons_succ, List.getElem_toArray, List.getElem_cons_zero, List.getElem_cons_succ]
        refine wpAnyH_take (i := 2) (oi := _) (v := ?_) rfl (by kernel_rfl) (by kernel_rfl) (by kernel_rfl) (fun _ _ _ h => h) (Or.inl ⟨by rfl, ?_⟩) (by assumption) ?_
        rotate_left
        · intro w hSw
          try dsimp only at hSw
          go_simp
          try with_reducible rfl
        try simp only [Act.put, List.setIfInBounds_toArray, List.set_cons_zero, List.set_cons_succ, List.getElem_toArray, List.getElem_cons_zero, List.getElem_cons_succ]
        refine wpAnyH_take (i := 3) (oi := _) (v := ?_) rfl (by kernel_rfl) (by kernel_rfl) (by kernel_rfl) (fun _ _ _ h => h) (Or.inl ⟨by rfl, ?_⟩) (by assumption) ?_
        rotate_left
        · intro w hSw
          try dsimp only at hSw
          go_simp
          try with_reducible rfl
        try simp only [Act.put, List.setIfInBounds_toArray, List.set_cons_zero, List.set_cons_succ, List.getElem_toArray, List.getElem_cons_zero, List.getElem_cons_succ]
        refine wpAnyH_take (i := 4) (oi := _) (v := ?_) rfl (by kernel_rfl) (by kernel_rfl) (by kernel_rfl) (fun _ _ _ h => h) (Or.inl ⟨by rfl, ?_⟩) (by assumption) ?_
        rotate_left
        · intro w hSw
          try dsimp only at hSw
          go_simp
          try with_reducible rfl
        try simp only [Act.put, List.setIfInBounds_toArray, List.set_cons_zero, List.set_cons_succ, List.getElem_toArray, List.getElem_cons_zero, List.getElem_cons_succ]
        refine wpAnyH_take (i := 5) (oi := _) (v := ?_) rfl (by kernel_rfl) (by kernel_rfl) (by kernel_rfl) (fun _ _ _ h => h) (Or.inl ⟨by rfl, ?_⟩) (by assumption) ?_
        rotate_left
        · intro w hSw
          try dsimp only at hSw
          go_simp
          try with_reducible rfl
        try simp only [Act.put, List.setIfInBounds_toArray, List.set_cons_zero, List.set_cons_succ, List.getElem_toArray, List.getElem_cons_zero, List.getElem_cons_succ]
        refine wpAnyH_ready (rs := [6]) (by kernel_rfl) (by simp) ?_
        refine AllReadyH.cons (o := _) rfl (fun K hK => ?_) AllReadyH.nil
        go_simp
        go_at_call 62
        (with_reducible refine (Hck.out w6.drew).mono ?_)
        rintro e w7 ⟨rfl, hB7⟩
        have hX7 := HX6.out.below (w' := w7) (Below.undrew hB7) (lt_of_block HX6.out)
        obtain ⟨l0, l1, l2, l3, l4⟩ := hX7.cells
        have hR7 : SupAt w7 N 0 0 0 0 0 := HR6.out.below (w' := w7) (Below.undrew hB7) (lt_of_block HR6.out)
        have g0 := free_of_block hR7 0
        have g1 := free_of_block hR7 1
        have g2 := free_of_block hR7 2
        have g3 := free_of_block hR7 3
        have g4 := free_of_block hR7 4
        obtain ⟨s0, s1, s2, s3, s4⟩ := hR7.cells
        have HR7 := hid hR7
        have HB7 := hid (HB6.out.trans ((Below.undrew hB7).mono (by have := HB6.out.size; have := HN.out; show N ≤ w6.heap.size; omega)))
        clear hR7 hB7
        try dsimp only
        refine hK.out _ _ ?_ (fun hHeld => ?_)
        · exact ⟨l0, l1, l2, l3, l4⟩
        clear hK K
        try simp only [Act.put, List.setIfInBounds_toArray, List.set_cons_zero, List.set_cons_succ, List.getElem_toArray, List.getElem_cons_zero, List.getElem_cons_succ]
        refine wpAnyH_take (i := 7) (oi := _) (v := ?_) rfl (by kernel_rfl) (by kernel_rfl) (by kernel_rfl) (fun _ _ _ h => h) (Or.inl ⟨by rfl, ?_⟩) (by assumption) ?_
        rotate_left
        · intro w hSw
          try dsimp only at hSw
          go_simp
          try with_reducible rfl
        try simp only [Act.put, List.setIfInBounds_toArray, List.set_cons_zero, List.set_cons_succ, List.getElem_toArray, List.getElem_cons_zero, List.getElem_cons_succ]
        refine wpAnyH_take (i := 8) (oi := _) (v := ?_) rfl (by kernel_rfl) (by kernel_rfl) (by kernel_rfl) (fun _ _ _ h => h) (Or.inl ⟨by rfl, ?_⟩) (by assumption) ?_
        rotate_left
        · intro w hSw
          try dsimp only at hSw
          go_simp
          try with_reducible rfl
        try simp only [Act.put, List.setIfInBounds_toArray, List.set_cons_zero, List.set_cons_succ, List.getElem_toArray, List.getElem_cons_zero, List.getElem_cons_succ]
        refine wpAnyH_ready (rs := [9]) (by kernel_rfl) (by simp) ?_
        refine AllReadyH.cons (o := _) rfl (fun K hK => ?_) AllReadyH.nil
        go_simp
        try dsimp only
        refine hK.out _ _ ?_ (fun hHeld => ?_)
        · exact ⟨cellS (cellS (cellS (cellS (cellS l0 (p := ⟨N, 0, none⟩) hNX _) (p := ⟨N, 1, none⟩) hNX _) (p := ⟨N, 2, none⟩) hNX _) (p := ⟨N, 3, none⟩) hNX _) (p := ⟨N, 4, none⟩) hNX _, cellS (cellS (cellS (cellS (cellS l1 (p := ⟨N, 0, none⟩) hNX _) (p := ⟨N, 1, none⟩) hNX _) (p := ⟨N, 2, none⟩) hNX _) (p := ⟨N, 3, none⟩) hNX _) (p := ⟨N, 4, none⟩) hNX _, cellS (cellS (cellS (cellS (cellS l2 (p := ⟨N, 0, none⟩) hNX _) (p := ⟨N, 1, none⟩) hNX _) (p := ⟨N, 2, none⟩) hNX _) (p := ⟨N, 3, none⟩) hNX _) (p := ⟨N, 4, none⟩) hNX _, cellS (cellS (cellS (cellS (cellS l3 (p := ⟨N, 0, none⟩) hNX _) (p := ⟨N, 1, none⟩) hNX _) (p := ⟨N, 2, none⟩) hNX _) (p := ⟨N, 3, none⟩) hNX _) (p := ⟨N, 4, none⟩) hNX _, cellS (cellS (cellS (cellS (cellS l4 (p := ⟨N, 0, none⟩) hNX _) (p := ⟨N, 1, none⟩) hNX _) (p := ⟨N, 2, none⟩) hNX _) (p := ⟨N, 3, none⟩) hNX _) (p := ⟨N, 4, none⟩) hNX _⟩
        clear hK K
        try simp only [Act.put, List.setIfInBounds_toArray, List.set_cons_zero, List.set_cons_succ, List.getElem_toArray, List.getElem_cons_zero, List.getElem_cons_succ]
        refine wpAnyH_ready (rs := [10]) (by kernel_rfl) (by simp) ?_
        refine AllReadyH.cons (o := _) rfl (fun K hK => ?_) AllReadyH.nil
        go_simp
        try dsimp only
        refine hK.out _ _ ?_ (fun hHeld => ?_)
        · exact ⟨cellS (cellS (cellS (cellS (cellS l0 (p := ⟨N, 0, none⟩) hNX _) (p := ⟨N, 1, none⟩) hNX _) (p := ⟨N, 2, none⟩) hNX _) (p := ⟨N, 3, none⟩) hNX _) (p := ⟨N, 4, none⟩) hNX _, cellS (cellS (cellS (cellS (cellS l1 (p := ⟨N, 0, none⟩) hNX _) (p := ⟨N, 1, none⟩) hNX _) (p := ⟨N, 2, none⟩) hNX _) (p := ⟨N, 3, none⟩) hNX _) (p := ⟨N, 4, none⟩) hNX _, cellS (cellS (cellS (cellS (cellS l2 (p := ⟨N, 0, none⟩) hNX _) (p := ⟨N, 1, none⟩) hNX _) (p := ⟨N, 2, none⟩) hNX _) (p := ⟨N, 3, none⟩) hNX _) (p := ⟨N, 4, none⟩) hNX _, cellS (cellS (cellS (cellS (cellS l3 (p := ⟨N, 0, none⟩) hNX _) (p := ⟨N, 1, none⟩) hNX _) (p := ⟨N, 2, none⟩) hNX _) (p := ⟨N, 3, none⟩) hNX _) (p := ⟨N, 4, none⟩) hNX _, cellS (cellS (cellS (cellS (cellS l4 (p := ⟨N, 0, none⟩) hNX _) (p := ⟨N, 1, none⟩) hNX _) (p := ⟨N, 2, none⟩) hNX _) (p := ⟨N, 3, none⟩) hNX _) (p := ⟨N, 4, none⟩) hNX _⟩
        clear hK K
        try simp only [Act.put, List.setIfInBounds_toArray, List.set_cons_zero, List.set_cons_succ, List.getElem_toArray, List.getElem_cons_zero, List.getElem_cons_succ]
        refine wpAnyH_done (by kernel_rfl) ?_ _
        go_wp2_with fail
        have hw : SupAt (((((w7.setCell ⟨N, 0, none⟩ (.int .u32 (sEp l : Int))).setCell ⟨N, 1, none⟩ (.int .i64 (jo : Int))).setCell ⟨N, 2, none⟩ (.int .i64 (bi : Int))).setCell ⟨N, 3, none⟩ (.int .i64 (he : Int))).setCell ⟨N, 4, none⟩ (.int .u32 (ne : Int))) N (sEp l) jo bi he ne := heap_set_same (i := 4) (heap_set_same (i := 3) (heap_set_same (i := 2) (heap_set_same (i := 1) (heap_set_same (i := 0) HR7.out _) _) _) _) _
        have hB9 : Below N w (((((w7.setCell ⟨N, 0, none⟩ (.int .u32 (sEp l : Int))).setCell ⟨N, 1, none⟩ (.int .i64 (jo : Int))).setCell ⟨N, 2, none⟩ (.int .i64 (bi : Int))).setCell ⟨N, 3, none⟩ (.int .i64 (he : Int))).setCell ⟨N, 4, none⟩ (.int .u32 (ne : Int))) := ((((HB7.out.setCell (p := ⟨N, 0, none⟩) (Nat.le_refl _) _).setCell (p := ⟨N, 1, none⟩) (Nat.le_refl _) _).setCell (p := ⟨N, 2, none⟩) (Nat.le_refl _) _).setCell (p := ⟨N, 3, none⟩) (Nat.le_refl _) _).setCell (p := ⟨N, 4, none⟩) (Nat.le_refl _) _
        generalize ((((w7.setCell ⟨N, 0, none⟩ (.int .u32 (sEp l : Int))).setCell ⟨N, 1, none⟩ (.int .i64 (jo : Int))).setCell ⟨N, 2, none⟩ (.int .i64 (bi : Int))).setCell ⟨N, 3, none⟩ (.int .i64 (he : Int))).setCell ⟨N, 4, none⟩ (.int .u32 (ne : Int)) = w9 at *
        obtain ⟨z0, z1, z2, z3, z4⟩ := hw.cells
        refine bodyPost_ret (v := .tuple #[supV (sEp l) jo bi he ne, .bool true]) ?_ rfl ⟨fun _ => by rw [Hjo.out, Hbi.out, Hhe.out, Hne.out], fun h => absurd (Hbs.out.2 Hk.out) h, by rw [HN.out]; exact hB9⟩
        rw [results_ct rfl]
        clear hB9 hw
        unfold supV
        go_simp
      · have Hk := hid hk
        generalize supErr (sEp l) jo bi he ne n = c9 at *
        have e0 : ((c9 : Int) == 0) = false := by have := Hk.out; simp; omega
        have e1 : decide ((c9 : Int) = 0) = false := by have := Hk.out; simp; omega
        clear hk
        refine wp_region_held_drew (S := fun w' => w'.cell? ⟨Q + 1, 0, none⟩ = some (.int .u32 (sEp l : Int)) ∧ w'.cell? ⟨Q + 1, 1, none⟩ = some (.int .i64 (jo : Int)) ∧ w'.cell? ⟨Q + 1, 2, none⟩ = some (.int .i64 (bi : Int)) ∧ w'.cell? ⟨Q + 1, 3, none⟩ = some (.int .i64 (he : Int)) ∧ w'.cell? ⟨Q + 1, 4, none⟩ = some (.int .u32 (ne : Int))) (by kernel_rfl) ⟨k0, k1, k2, k3, k4⟩ (fun hHeld => ?_)
        refine wpAnyH_take (i := 0) (oi := _) (v := ?_) rfl (by kernel_rfl) (by kernel_rfl) (by kernel_rfl) (fun _ _ _ h => h) (Or.inl ⟨by rfl, ?_⟩) (by assumption) ?_
        rotate_left
        · intro w hSw
          try dsimp only at hSw
          go_simp
          try with_reducible rfl
        try simp only [Act.put, List.setIfInBounds_toArray, List.set_cons_zero, List.set_cons_succ, List.getElem_toArray, List.getElem_cons_zero, List.getElem_cons_succ]
        refine wpAnyH_take (i := 1) (oi := _) (v := ?_) rfl (by kernel_rfl) (by kernel_rfl) (by kernel_rfl) (fun _ _ _ h => h) (Or.inl ⟨by rfl, ?_⟩) (by assumption) ?_
        rotate_left
        · intro w hSw
          try dsimp only at hSw
          go_simp
          try with_reducible rfl
        try simp only [Act.put, List.setIfInBounds_toArray, List.set_cons_zero, List.set_cons_succ, List.getElem_toArray, List.getElem_cons_zero, List.getElem_cons_succ]
        refine wpAnyH_take (i := 2) (oi := _) (v := ?_) rfl (by kernel_rfl) (by kernel_rfl) (by kernel_rfl) (fun _ _ _ h => h) (Or.inl ⟨by rfl, ?_⟩) (by assumption) ?_
        rotate_left
        · intro w hSw
          try dsimp only at hSw
          go_simp
          try with_reducible rfl
        try simp only [Act.put, List.setIfInBounds_toArray, List.set_cons_zero, List.set_cons_succ, List.getElem_toArray, List.getElem_cons_zero, List.getElem_cons_succ]
        refine wpAnyH_take (i := 3) (oi := _) (v := ?_) rfl (by kernel_rfl) (by kernel_rfl) (by kernel_rfl) (fun _ _ _ h => h) (Or.inl ⟨by rfl, ?_⟩) (by assumption) ?_
        rotate_left
        · intro w hSw
          try dsimp only at hSw
          go_simp
          try with_reducible rfl
        try simp only [Act.put, List.setIfInBounds_toArray, List.set_cons_zero, List.set_cons_succ, List.getElem_toArray, List.getElem_cons_zero, List.getElem_cons_succ]
        refine wpAnyH_take (i := 4) (oi := _) (v := ?_) rfl (by kernel_rfl) (by kernel_rfl) (by kernel_rfl) (fun _ _ _ h => h) (Or.inl ⟨by rfl, ?_⟩) (by assumption) ?_
        rotate_left
        · intro w hSw
          try dsimp only at hSw
          go_simp
          try with_reducible rfl
        try simp only [Act.put, List.setIfInBounds_toArray, List.set_cons_zero, List.set_cons_succ, List.getElem_toArray, List.getElem_cons_zero, List.getElem_cons_succ]
        refine wpAnyH_take (i := 5) (oi := _) (v := ?_) rfl (by kernel_rfl) (by kernel_rfl) (by kernel_rfl) (fun _ _ _ h => h) (Or.inl ⟨by rfl, ?_⟩) (by assumption) ?_
        rotate_left
        · intro w hSw
          try dsimp only at hSw
          go_simp
          try with_reducible rfl
        try simp only [Act.put, List.setIfInBounds_toArray, List.set_cons_zero, List.set_cons_succ, List.getElem_toArray, List.getElem_cons_zero, List.getElem_cons_succ]
        refine wpAnyH_ready (rs := [6]) (by kernel_rfl) (by simp) ?_
        refine AllReadyH.cons (o := _) rfl (fun K hK => ?_) AllReadyH.nil
        go_simp
        go_at_call 62
        (with_reducible refine (Hck.out w6.drew).mono ?_)
        rintro e w7 ⟨rfl, hB7⟩
        have hX7 := HX6.out.below (w' := w7) (Below.undrew hB7) (lt_of_block HX6.out)
        obtain ⟨l0, l1, l2, l3, l4⟩ := hX7.cells
        have hR7 : SupAt w7 N 0 0 0 0 0 := HR6.out.below (w' := w7) (Below.undrew hB7) (lt_of_block HR6.out)
        have g0 := free_of_block hR7 0
        have g1 := free_of_block hR7 1
        have g2 := free_of_block hR7 2
        have g3 := free_of_block hR7 3
        have g4 := free_of_block hR7 4
        obtain ⟨s0, s1, s2, s3, s4⟩ := hR7.cells
        have HR7 := hid hR7
        have HB7 := hid (HB6.out.trans ((Below.undrew hB7).mono (by have := HB6.out.size; have := HN.out; show N ≤ w6.heap.size; omega)))
        clear hR7 hB7
        try dsimp only
        refine hK.out _ _ ?_ (fun hHeld => ?_)
        · exact ⟨l0, l1, l2, l3, l4⟩
        clear hK K
        try simp only [Act.put, List.setIfInBounds_toArray, List.set_cons_zero, List.set_cons_succ, List.getElem_toArray, List.getElem_cons_zero, List.getElem_cons_succ]
        refine wpAnyH_take (i := 7) (oi := _) (v := ?_) rfl (by kernel_rfl) (by kernel_rfl) (by kernel_rfl) (fun _ _ _ h => h) (Or.inl ⟨by rfl, ?_⟩) (by assumption) ?_
        rotate_left
        · intro w hSw
          try dsimp only at hSw
          go_simp
          try with_reducible rfl
        try simp only [Act.put, List.setIfInBounds_toArray, List.set_cons_zero, List.set_cons_succ, List.getElem_toArray, List.getElem_cons_zero, List.getElem_cons_succ]
        refine wpAnyH_take (i := 8) (oi := _) (v := ?_) rfl (by kernel_rfl) (by kernel_rfl) (by kernel_rfl) (fun _ _ _ h => h) (Or.inl ⟨by rfl, ?_⟩) (by assumption) ?_
        rotate_left
        · intro w hSw
          try dsimp only at hSw
          go_simp
          try with_reducible rfl
        try simp only [Act.put, List.setIfInBounds_toArray, List.set_cons_zero, List.set_cons_succ, List.getElem_toArray, List.getElem_cons_zero, List.getElem_cons_succ]
        refine wpAnyH_ready (rs := [9]) (by kernel_rfl) (by simp) ?_
        refine AllReadyH.cons (o := _) rfl (fun K hK => ?_) AllReadyH.nil
        go_simp
        try dsimp only
        refine hK.out _ _ ?_ (fun hHeld => ?_)
        · exact ⟨cellS (cellS (cellS (cellS (cellS l0 (p := ⟨N, 0, none⟩) hNX _) (p := ⟨N, 1, none⟩) hNX _) (p := ⟨N, 2, none⟩) hNX _) (p := ⟨N, 3, none⟩) hNX _) (p := ⟨N, 4, none⟩) hNX _, cellS (cellS (cellS (cellS (cellS l1 (p := ⟨N, 0, none⟩) hNX _) (p := ⟨N, 1, none⟩) hNX _) (p := ⟨N, 2, none⟩) hNX _) (p := ⟨N, 3, none⟩) hNX _) (p := ⟨N, 4, none⟩) hNX _, cellS (cellS (cellS (cellS (cellS l2 (p := ⟨N, 0, none⟩) hNX _) (p := ⟨N, 1, none⟩) hNX _) (p := ⟨N, 2, none⟩) hNX _) (p := ⟨N, 3, none⟩) hNX _) (p := ⟨N, 4, none⟩) hNX _, cellS (cellS (cellS (cellS (cellS l3 (p := ⟨N, 0, none⟩) hNX _) (p := ⟨N, 1, none⟩) hNX _) (p := ⟨N, 2, none⟩) hNX _) (p := ⟨N, 3, none⟩) hNX _) (p := ⟨N, 4, none⟩) hNX _, cellS (cellS (cellS (cellS (cellS l4 (p := ⟨N, 0, none⟩) hNX _) (p := ⟨N, 1, none⟩) hNX _) (p := ⟨N, 2, none⟩) hNX _) (p := ⟨N, 3, none⟩) hNX _) (p := ⟨N, 4, none⟩) hNX _⟩
        clear hK K
        try simp only [Act.put, List.setIfInBounds_toArray, List.set_cons_zero, List.set_cons_succ, List.getElem_toArray, List.getElem_cons_zero, List.getElem_cons_succ]
        refine wpAnyH_ready (rs := [10]) (by kernel_rfl) (by simp) ?_
        refine AllReadyH.cons (o := _) rfl (fun K hK => ?_) AllReadyH.nil
        go_simp
        try dsimp only
        refine hK.out _ _ ?_ (fun hHeld => ?_)
        · exact ⟨cellS (cellS (cellS (cellS (cellS l0 (p := ⟨N, 0, none⟩) hNX _) (p := ⟨N, 1, none⟩) hNX _) (p := ⟨N, 2, none⟩) hNX _) (p := ⟨N, 3, none⟩) hNX _) (p := ⟨N, 4, none⟩) hNX _, cellS (cellS (cellS (cellS (cellS l1 (p := ⟨N, 0, none⟩) hNX _) (p := ⟨N, 1, none⟩) hNX _) (p := ⟨N, 2, none⟩) hNX _) (p := ⟨N, 3, none⟩) hNX _) (p := ⟨N, 4, none⟩) hNX _, cellS (cellS (cellS (cellS (cellS l2 (p := ⟨N, 0, none⟩) hNX _) (p := ⟨N, 1, none⟩) hNX _) (p := ⟨N, 2, none⟩) hNX _) (p := ⟨N, 3, none⟩) hNX _) (p := ⟨N, 4, none⟩) hNX _, cellS (cellS (cellS (cellS (cellS l3 (p := ⟨N, 0, none⟩) hNX _) (p := ⟨N, 1, none⟩) hNX _) (p := ⟨N, 2, none⟩) hNX _) (p := ⟨N, 3, none⟩) hNX _) (p := ⟨N, 4, none⟩) hNX _, cellS (cellS (cellS (cellS (cellS l4 (p := ⟨N, 0, none⟩) hNX _) (p := ⟨N, 1, none⟩) hNX _) (p := ⟨N, 2, none⟩) hNX _) (p := ⟨N, 3, none⟩) hNX _) (p := ⟨N, 4, none⟩) hNX _⟩
        clear hK K
        try simp only [Act.put, List.setIfInBounds_toArray, List.set_cons_zero, List.set_cons_succ, List.getElem_toArray, List.getElem_cons_zero, List.getElem_cons_succ]
        refine wpAnyH_done (by kernel_rfl) ?_ _
        go_wp2_with fail
        have hw : SupAt (((((w7.setCell ⟨N, 0, none⟩ (.int .u32 (sEp l : Int))).setCell ⟨N, 1, none⟩ (.int .i64 (jo : Int))).setCell ⟨N, 2, none⟩ (.int .i64 (bi : Int))).setCell ⟨N, 3, none⟩ (.int .i64 (he : Int))).setCell ⟨N, 4, none⟩ (.int .u32 (ne : Int))) N (sEp l) jo bi he ne := heap_set_same (i := 4) (heap_set_same (i := 3) (heap_set_same (i := 2) (heap_set_same (i := 1) (heap_set_same (i := 0) HR7.out _) _) _) _) _
        have hB9 : Below N w (((((w7.setCell ⟨N, 0, none⟩ (.int .u32 (sEp l : Int))).setCell ⟨N, 1, none⟩ (.int .i64 (jo : Int))).setCell ⟨N, 2, none⟩ (.int .i64 (bi : Int))).setCell ⟨N, 3, none⟩ (.int .i64 (he : Int))).setCell ⟨N, 4, none⟩ (.int .u32 (ne : Int))) := ((((HB7.out.setCell (p := ⟨N, 0, none⟩) (Nat.le_refl _) _).setCell (p := ⟨N, 1, none⟩) (Nat.le_refl _) _).setCell (p := ⟨N, 2, none⟩) (Nat.le_refl _) _).setCell (p := ⟨N, 3, none⟩) (Nat.le_refl _) _).setCell (p := ⟨N, 4, none⟩) (Nat.le_refl _) _
        generalize ((((w7.setCell ⟨N, 0, none⟩ (.int .u32 (sEp l : Int))).setCell ⟨N, 1, none⟩ (.int .i64 (jo : Int))).setCell ⟨N, 2, none⟩ (.int .i64 (bi : Int))).setCell ⟨N, 3, none⟩ (.int .i64 (he : Int))).setCell ⟨N, 4, none⟩ (.int .u32 (ne : Int)) = w9 at *
        obtain ⟨z0, z1, z2, z3, z4⟩ := hw.cells
        refine bodyPost_ret (v := .tuple #[supV (sEp l) jo bi he ne, .bool false]) ?_ rfl ⟨fun h => absurd (Hbs.out.1 h) Hk.out, fun _ => ⟨_, _, _, _, _, rfl⟩, by rw [HN.out]; exact hB9⟩
        rw [results_ct rfl]
        clear hB9 hw
        unfold supV
        go_simp
    · have e0 : (c == 0) = false := by simpa using hc0
      have e1 : decide (c = 0) = false := by simpa using hc0
      have hnb : ¬ bearsSup l n := fun h => ht h.2.2.1
      have Hnb := hid hnb
      have HX6 := hid hX6
      obtain ⟨k0, k1, k2, k3, k4⟩ := hX6.cells
      have hR6 : SupAt w6 N 0 0 0 0 0 := hF6.heap HR5.out (by omega)
      obtain ⟨s0, s1, s2, s3, s4⟩ := hR6.cells
      have g0 := free_of_block hR6 0
      have g1 := free_of_block hR6 1
      have g2 := free_of_block hR6 2
      have g3 := free_of_block hR6 3
      have g4 := free_of_block hR6 4
      have HR6 := hid hR6
      have hB6 : Below N w w6 := HB5.out.trans (hF6.below (by have := HB5.out.size; rw [HN.out] at this; exact this) (fun k hk e => by omega))
      have HB6 := hid hB6
      have hNX : N ≠ Q + 1 := by omega
      clear hX6 hR6 hB6 hF6 Hg HB5 HR5 hnb ht hc0
      go_upto_region 7 with fail
      refine wp_region_held_drew (S := fun w' => w'.cell? ⟨Q + 1, 0, none⟩ = some (.int .u32 (sEp l : Int)) ∧ w'.cell? ⟨Q + 1, 1, none⟩ = some (.int .i64 (jo : Int)) ∧ w'.cell? ⟨Q + 1, 2, none⟩ = some (.int .i64 (bi : Int)) ∧ w'.cell? ⟨Q + 1, 3, none⟩ = some (.int .i64 (he : Int)) ∧ w'.cell? ⟨Q + 1, 4, none⟩ = some (.int .u32 (ne : Int))) (by kernel_rfl) ⟨k0, k1, k2, k3, k4⟩ (fun hHeld => ?_)
      refine wpAnyH_take (i := 0) (oi := _) (v := ?_) rfl (by kernel_rfl) (by kernel_rfl) (by kernel_rfl) (fun _ _ _ h => h) (Or.inl ⟨by rfl, ?_⟩) (by assumption) ?_
      rotate_left
      · intro w hSw
        try dsimp only at hSw
        go_simp
        try with_reducible rfl
      try simp only [Act.put, List.setIfInBounds_toArray, List.set_cons_zero, List.set_cons_succ, List.getElem_toArray, List.getElem_cons_zero, List.getElem_cons_succ]
      refine wpAnyH_take (i := 1) (oi := _) (v := ?_) rfl (by kernel_rfl) (by kernel_rfl) (by kernel_rfl) (fun _ _ _ h => h) (Or.inl ⟨by rfl, ?_⟩) (by assumption) ?_
      rotate_left
      · intro w hSw
        try dsimp only at hSw
        go_simp
        try with_reducible rfl
      try simp only [Act.put, List.setIfInBounds_toArray, List.set_cons_zero, List.set_cons_succ, List.getElem_toArray, List.getElem_cons_zero, List.getElem_cons_succ]
      refine wpAnyH_take (i := 2) (oi := _) (v := .bool false) rfl (by kernel_rfl) (by kernel_rfl) (by kernel_rfl) (fun _ _ _ h => h) (Or.inl ⟨by rfl, ?_⟩) (by assumption) ?_
      · intro w hSw
        try dsimp only at hSw
        go_simp
        try with_reducible rfl
      try simp only [Act.put, List.setIfInBounds_toArray, List.set_cons_zero, List.set_cons_succ, List.getElem_toArray, List.getElem_cons_zero, List.getElem_cons_succ]
      refine wpAnyH_take (i := 3) (oi := _) (v := ?_) rfl (by kernel_rfl) (by kernel_rfl) (by kernel_rfl) (fun _ _ _ h => h) (Or.inl ⟨by rfl, ?_⟩) (by assumption) ?_
      rotate_left
      · intro w hSw
        try dsimp only at hSw
        go_simp
        try with_reducible rfl
      try simp only [Act.put, List.setIfInBounds_toArray, List.set_cons_zero, List.set_cons_succ, List.getElem_toArray, List.getElem_cons_zero, List.getElem_cons_succ]
      refine wpAnyH_take (i := 4) (oi := _) (v := undef) rfl (by kernel_rfl) (by kernel_rfl) (by kernel_rfl) (fun _ _ _ h => h) (Or.inr ⟨by rfl, rfl⟩) (by assumption) ?_
      try simp only [Act.put, List.setIfInBounds_toArray, List.set_cons_zero, List.set_cons_succ, List.getElem_toArray, List.getElem_cons_zero, List.getElem_cons_succ]
      refine wpAnyH_take (i := 5) (oi := _) (v := undef) rfl (by kernel_rfl) (by kernel_rfl) (by kernel_rfl) (fun _ _ _ h => h) (Or.inr ⟨by rfl, rfl⟩) (by assumption) ?_
      try simp only [Act.put, List.setIfInBounds_toArray, List.set_cons_zero, List.set_cons_succ, List.getElem_toArray, List.getElem_cons_zero, List.getElem_cons_succ]
      refine wpAnyH_ready (rs := [6]) (by kernel_rfl) (by simp) ?_
      refine AllReadyH.cons (o := _) rfl (fun K hK => ?_) AllReadyH.nil
      go_simp
      try dsimp only
      refine hK.out _ _ ?_ (fun hHeld => ?_)
      · exact ⟨k0, k1, k2, k3, k4⟩
      clear hK K
      try simp only [Act.put, List.setIfInBounds_toArray, List.set_cons_zero, List.set_cons_succ, List.getElem_toArray, List.getElem_cons_zero, List.getElem_cons_succ]
      refine wpAnyH_take (i := 7) (oi := _) (v := undef) rfl (by kernel_rfl) (by kernel_rfl) (by kernel_rfl) (fun _ _ _ h => h) (Or.inr ⟨by rfl, rfl⟩) (by assumption) ?_
      try simp only [Act.put, List.setIfInBounds_toArray, List.set_cons_zero, List.set_cons_succ, List.getElem_toArray, List.getElem_cons_zero, List.getElem_cons_succ]
      refine wpAnyH_take (i := 8) (oi := _) (v := ?_) rfl (by kernel_rfl) (by kernel_rfl) (by kernel_rfl) (fun _ _ _ h => h) (Or.inl ⟨by rfl, ?_⟩) (by assumption) ?_
      rotate_left
      · intro w hSw
        try dsimp only at hSw
        go_simp
        try with_reducible rfl
      try simp only [Act.put, List.setIfInBounds_toArray, List.set_cons_zero, List.set_cons_succ, List.getElem_toArray, List.getElem_cons_zero, List.getElem_cons_succ]
      refine wpAnyH_ready (rs := [9]) (by kernel_rfl) (by simp) ?_
      refine AllReadyH.cons (o := _) rfl (fun K hK => ?_) AllReadyH.nil
      go_simp
      try dsimp only
      refine hK.out _ _ ?_ (fun hHeld => ?_)
      · go_keep
      clear hK K
      try simp only [Act.put, List.setIfInBounds_toArray, List.set_cons_zero, List.set_cons_succ, List.getElem_toArray, List.getElem_cons_zero, List.getElem_cons_succ]
      refine wpAnyH_ready (rs := [10]) (by kernel_rfl) (by simp) ?_
      refine AllReadyH.cons (o := _) rfl (fun K hK => ?_) AllReadyH.nil
      go_simp
      try dsimp only
      refine hK.out _ _ ?_ (fun hHeld => ?_)
      · go_keep
      clear hK K
      try simp only [Act.put, List.setIfInBounds_toArray, List.set_cons_zero, List.set_cons_succ, List.getElem_toArray, List.getElem_cons_zero, List.getElem_cons_succ]
      refine wpAnyH_done (by kernel_rfl) ?_ _
      go_wp2_with fail
      have hw : SupAt (((((w6.setCell ⟨N, 0, none⟩ (.int .u32 (sEp l : Int))).setCell ⟨N, 1, none⟩ (.int .i64 (jo : Int))).setCell ⟨N, 2, none⟩ (.int .i64 (bi : Int))).setCell ⟨N, 3, none⟩ (.int .i64 (he : Int))).setCell ⟨N, 4, none⟩ (.int .u32 (ne : Int))) N (sEp l) jo bi he ne := heap_set_same (i := 4) (heap_set_same (i := 3) (heap_set_same (i := 2) (heap_set_same (i := 1) (heap_set_same (i := 0) HR6.out _) _) _) _) _
      have hB9 : Below N w (((((w6.setCell ⟨N, 0, none⟩ (.int .u32 (sEp l : Int))).setCell ⟨N, 1, none⟩ (.int .i64 (jo : Int))).setCell ⟨N, 2, none⟩ (.int .i64 (bi : Int))).setCell ⟨N, 3, none⟩ (.int .i64 (he : Int))).setCell ⟨N, 4, none⟩ (.int .u32 (ne : Int))) := ((((HB6.out.setCell (p := ⟨N, 0, none⟩) (Nat.le_refl _) _).setCell (p := ⟨N, 1, none⟩) (Nat.le_refl _) _).setCell (p := ⟨N, 2, none⟩) (Nat.le_refl _) _).setCell (p := ⟨N, 3, none⟩) (Nat.le_refl _) _).setCell (p := ⟨N, 4, none⟩) (Nat.le_refl _) _
      generalize ((((w6.setCell ⟨N, 0, none⟩ (.int .u32 (sEp l : Int))).setCell ⟨N, 1, none⟩ (.int .i64 (jo : Int))).setCell ⟨N, 2, none⟩ (.int .i64 (bi : Int))).setCell ⟨N, 3, none⟩ (.int .i64 (he : Int))).setCell ⟨N, 4, none⟩ (.int .u32 (ne : Int)) = w9 at *
      obtain ⟨z0, z1, z2, z3, z4⟩ := hw.cells
      refine bodyPost_ret (v := .tuple #[supV (sEp l) jo bi he ne, .bool false]) ?_ rfl ⟨fun h => absurd h Hnb.out, fun _ => ⟨_, _, _, _, _, rfl⟩, by rw [HN.out]; exact hB9.drew⟩
      rw [results_ct rfl]
      clear hB9 hw
      unfold supV
      go_simp
  · have hnb : ¬ bearsSup l n := fun h => hF ⟨h.1, h.2.1⟩
    by_cases hF1 : isFrame (sEp l) (sSq l) l
    case' pos =>
      have d1 : decide (isFrame (sEp l) (sSq l) l) = true := by simpa using hF1
      have d2 : ((sSq l : Int) == 0) = false := by have h : ¬ sSq l = 0 := fun h => hF ⟨hF1, h⟩; simp; omega
      have Hnb := hid hnb
      clear hnb hF hF1
      go_wp2_with fail
    case' neg =>
      have d1 : decide (isFrame (sEp l) (sSq l) l) = false := by simpa using hF1
      have Hnb := hid hnb
      clear hnb hF hF1
      go_wp2_with fail
    all_goals
      have hw : SupAt (((((w4.setCell ⟨N, 0, none⟩ (.int .u32 0)).setCell ⟨N, 1, none⟩ (.int .i64 0)).setCell ⟨N, 2, none⟩ (.int .i64 0)).setCell ⟨N, 3, none⟩ (.int .i64 0)).setCell ⟨N, 4, none⟩ (.int .u32 0)) N 0 0 0 0 0 := heap_set_same (i := 4) (heap_set_same (i := 3) (heap_set_same (i := 2) (heap_set_same (i := 1) (heap_set_same (i := 0) HR4.out _) _) _) _) _
      have hB9 : Below N w (((((w4.setCell ⟨N, 0, none⟩ (.int .u32 0)).setCell ⟨N, 1, none⟩ (.int .i64 0)).setCell ⟨N, 2, none⟩ (.int .i64 0)).setCell ⟨N, 3, none⟩ (.int .i64 0)).setCell ⟨N, 4, none⟩ (.int .u32 0)) := ((((HB4.out.setCell (p := ⟨N, 0, none⟩) (Nat.le_refl _) _).setCell (p := ⟨N, 1, none⟩) (Nat.le_refl _) _).setCell (p := ⟨N, 2, none⟩) (Nat.le_refl _) _).setCell (p := ⟨N, 3, none⟩) (Nat.le_refl _) _).setCell (p := ⟨N, 4, none⟩) (Nat.le_refl _) _
      generalize ((((w4.setCell ⟨N, 0, none⟩ (.int .u32 0)).setCell ⟨N, 1, none⟩ (.int .i64 0)).setCell ⟨N, 2, none⟩ (.int .i64 0)).setCell ⟨N, 3, none⟩ (.int .i64 0)).setCell ⟨N, 4, none⟩ (.int .u32 0) = w9 at *
      refine bodyPost_ret (v := .tuple #[supV 0 0 0 0 0, .bool false]) ?_ rfl ⟨fun h => absurd h Hnb.out, fun _ => ⟨0, 0, 0, 0, 0, rfl⟩, by rw [HN.out]; exact hB9⟩
      rw [results_ct rfl]
      obtain ⟨z0, z1, z2, z3, z4⟩ := hw.cells
      clear hB9 r0 r1 r2 r3 r4 p0 p1 f0 f1 f2 f3 f4 hw
      unfold supV
      go_simp
end Go.Proofs.YtkmbbgnbklklcaaDoor
