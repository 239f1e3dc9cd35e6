/-
  Law 09: UndoPlays: a run of what follows, out of a Try of what follows.
-/
import Derived.Test.YtmdcalkfapcafaaL09i
namespace Go.Proofs.Ytmdcalkfapcafaa
open Go.RowKit

theorem key_ne {i a : Nat} (h : i ≠ a) : (Lit.int .i64 (i : Int)) ≠ .int .i64 (a : Int) := fun e => h (by injection e with _ e; omega)
theorem Link.put {s : C4 × DataW Unit} (h : Link s) (hm : Maps.IsMap s.2) {a x : Nat} (hx : 1 ≤ x) : Link (s.1.set a x, s.2.put (.int .i64 (a : Int)) (.lit (.int .i64 (x : Int)))) := by
  intro i hi
  by_cases hia : i = a
  · subst hia
    refine ⟨?_, fun z => ?_⟩
    · rw [Maps.has_put_same hm (show WideAt.IsKeyLit (.int .i64 (i : Int)) from trivial)]; simp [C4.set]; omega
    · rw [Maps.atKey_put_same hm (show WideAt.IsKeyLit (.int .i64 (i : Int)) from trivial), if_pos (by simp [C4.set]; omega)]; simp [C4.set]
  · obtain ⟨h1, h2⟩ := h i hi
    refine ⟨?_, fun z => ?_⟩
    · rw [Maps.has_put_other (key_ne hia), h1]; simp [C4.set, hia]
    · rw [Maps.atKey_put_other (key_ne hia), h2]; simp [C4.set, hia]
theorem Link.drop {s : C4 × DataW Unit} (h : Link s) {a : Nat} : Link (s.1.set a 0, s.2.del (.int .i64 (a : Int))) := by
  intro i hi
  by_cases hia : i = a
  · subst hia
    refine ⟨?_, fun z => ?_⟩
    · rw [Maps.has_del_same]; simp [C4.set]
    · rw [Maps.atKey_del_same, if_neg (by simp [C4.set])]
  · obtain ⟨h1, h2⟩ := h i hi
    refine ⟨?_, fun z => ?_⟩
    · rw [Maps.has_del_other (key_ne hia), h1]; simp [C4.set, hia]
    · rw [Maps.atKey_del_other (key_ne hia), h2]; simp [C4.set, hia]
theorem wf_small (n : Nat) (h : n ≤ 1000) : (Lit.int .i64 (n : Int)).wf = true := by
  simp [Lit.wf, IntKind.min, IntKind.max, IntKind.signed, IntKind.bits]; omega

section
variable {b bm base : Nat} {A : Option Addr} {bl cap : Nat} {l : List ActN} {v : Value} {fs : List Value} {d : Nat} {K : Nat × Nat} {s : C4 × DataW Unit} {w : World} (h : PAt b bm base A bl cap l v fs d K s w)
include h
theorem PAt.hD : ∀ k, PD b bm k → k < w.heap.size := by
  have h1 := h.bs
  have h2 := h.ob
  have h3 := h.om
  rintro k (hk | hk) <;> omega
theorem p_set (a : Nat) (ha : a < 4) (y : Int) : Calls Try.prog 35 #[.pointer (some ⟨b, 0, none⟩), .pointer (some ⟨b, 2 + a, none⟩), .int .i64 y] w fun e w' => e = .returned (.tuple #[]) ∧
    ∃ rs v', rs.length ≤ 1 ∧ Ran b base (PD b bm) (PInv b bm) v fs d s w w' K (s.1.set a y, s.2) rs v' :=
  setInt_ran b base (PD b bm) (PInv b bm) (pInv_stable b bm h.n1) ⟨b, 2 + a, none⟩ _ _ (pInv_cell b bm h.n1 a ha) v fs d w K s y h.log (by have := h.fsl; have := h.at'; have := h.acts.len; omega) h.bs h.hD h.hDv h.inv
variable {w1 : World} {s1 : C4 × DataW Unit} {rs : List Rec} {v1 : Value} (hR : Ran b base (PD b bm) (PInv b bm) v fs d s w w1 K s1 rs v1) (hl : rs.length ≤ 1)
include hR hl
theorem ran_more : LogAt w1 b base v1 (fs ++ rs.map Rec.fn) d ∧ (fs ++ rs.map Rec.fn).length ≤ 1000000 ∧ base ≤ w1.heap.size ∧ (∀ k, PD b bm k → k < w1.heap.size) ∧ (∀ k, some k = v1.ownBlock → ¬ PD b bm k) := by
  refine ⟨hR.log, ?_, Nat.le_trans h.bs hR.fr.size, fun k hk => Nat.lt_of_lt_of_le (h.hD k hk) hR.fr.size, fun k hk hd => ?_⟩
  · have := h.fsl; have := h.at'; have := h.acts.len
    rw [List.length_append, List.length_map]; omega
  · have h1 := (hR.log.own.lt k hk.symm).1
    have h2 := h.ob
    have h3 := h.om
    rcases hd with hd | hd <;> omega
theorem p_put (a x : Nat) (ha : a < 4) (hx : x ≤ 256) (hs : Maps.size s1.2 ≤ 100) : Calls Try.prog 43 #[.pointer (some ⟨b, 0, none⟩), .map (some bm), .int .i64 (a : Int), .int .i64 (x : Int)] w1 fun e w' => e = .returned (.tuple #[]) ∧
    ∃ qs v', qs.length ≤ 2 ∧ Maps.size (s1.2.put (.int .i64 (a : Int)) (.lit (.int .i64 (x : Int)))) ≤ Maps.size s1.2 + 1 ∧ Maps.IsMap s1.2 ∧ Ran b base (PD b bm) (PInv b bm) v fs d s w w' K (s1.1, s1.2.put (.int .i64 (a : Int)) (.lit (.int .i64 (x : Int)))) qs v' := by
  obtain ⟨m1, m2, m3, m4, m5⟩ := ran_more h hR hl
  have ht := World.ownsMap.tidy hR.inv.own keyInt
  have hsz : Maps.size (s1.2.put (.int .i64 (a : Int)) (.lit (.int .i64 (x : Int)))) ≤ Maps.size s1.2 + 1 := by rw [Maps.size_put ht]; split <;> omega
  refine (putInt_ran b base (PD b bm) (PInv b bm) (pInv_stable b bm h.n1) bm (fun s => s.2) (fun s M => (s.1, M)) (pInv_tab b bm h.n1) v1 (fs ++ rs.map Rec.fn) d w1 K s1 m1 m2 m3 m4 m5 hR.inv a x (wf_small a (by omega)) (wf_small x (by omega)) (Nat.le_trans hsz (by omega))).mono ?_
  rintro e w' ⟨rfl, qs, v', hq, hR2⟩
  exact ⟨rfl, rs ++ qs, v', by rw [List.length_append]; omega, hsz, World.ownsMap.isMap hR.inv.own, hR.trans hR2⟩
theorem p_drop (a : Nat) (ha : a < 4) (hs : Maps.size s1.2 ≤ 100) : Calls Try.prog 44 #[.pointer (some ⟨b, 0, none⟩), .map (some bm), .int .i64 (a : Int)] w1 fun e w' => e = .returned (.tuple #[]) ∧
    ∃ qs v', qs.length ≤ 2 ∧ Maps.size (s1.2.del (.int .i64 (a : Int))) ≤ Maps.size s1.2 + 1 ∧ Ran b base (PD b bm) (PInv b bm) v fs d s w w' K (s1.1, s1.2.del (.int .i64 (a : Int))) qs v' := by
  obtain ⟨m1, m2, m3, m4, m5⟩ := ran_more h hR hl
  have ht := World.ownsMap.tidy hR.inv.own keyInt
  have hsz : Maps.size (s1.2.del (.int .i64 (a : Int))) ≤ Maps.size s1.2 := by have := Maps.size_del (k := .int .i64 (a : Int)) ht; omega
  refine (dropInt_ran b base (PD b bm) (PInv b bm) (pInv_stable b bm h.n1) bm (fun s => s.2) (fun s M => (s.1, M)) (pInv_tab b bm h.n1) v1 (fs ++ rs.map Rec.fn) d w1 K s1 m1 m2 m3 m4 m5 hR.inv a (wf_small a (by omega)) (Nat.le_trans hsz (by omega))).mono ?_
  rintro e w' ⟨rfl, qs, v', hq, hR2⟩
  exact ⟨rfl, rs ++ qs, v', by rw [List.length_append]; omega, by omega, hR.trans hR2⟩
end
theorem Ran.drew {κ σ : Type} {b base : Nat} {D : Nat → Prop} {Inv : κ → σ → World → Prop} (hI : Stable b D Inv) {v v' : Value} {fs : List Value} {d : Nat} {s1 s2 : σ} {w w' : World} {K : κ} {rs : List Rec} (h : Ran b base D Inv v fs d s1 w w' K s2 rs v') : Ran b base D Inv v fs d s1 w w'.drew K s2 rs v' :=
  ⟨h.log.fr (Fr.refl (fun _ => False) _).drew id (fun _ _ => id), h.moved, h.zero, h.chain, hI _ _ _ _ h.inv (fun _ _ _ => rfl) (fun _ _ => ⟨rfl, rfl⟩), h.ok, h.new, h.fr.drew⟩
theorem PLeft.op {b bm base : Nat} {l : List ActN} {v v1 v2 : Value} {fs : List Value} {d i t : Nat} {K : Nat × Nat} {s s1 s2 : C4 × DataW Unit} {w w1 w2 : World} {rs qs : List Rec} (h : PLeft b bm base l v fs d K s w (i + 1, t) s1 rs v1 w1) (hr : rs.length + 2 * K.1 ≤ 2 * i)
    (hR : Ran b base (PD b bm) (PInv b bm) v1 (fs ++ rs.map Rec.fn) d s1 w1 w2 (i + 1, t) s2 qs v2) (hq : qs.length ≤ 2) (hl : Link s2) (hs : Maps.size s2.2 ≤ i + 1) : PLeft b bm base l v fs d K s w (i + 1, t) s2 (rs ++ qs) v2 w2 :=
  ⟨h.ran.trans hR, hl, hs, by rw [List.length_append]; simp only []; omega, h.trys, h.at'⟩

theorem PLeft.zero {b bm base : Nat} {A : Option Addr} {bl cap : Nat} {l : List ActN} {v : Value} {fs : List Value} {d : Nat} {K : Nat × Nat} {s : C4 × DataW Unit} {w : World} (h : PAt b bm base A bl cap l v fs d K s w) : PLeft b bm base l v fs d K s w K s [] v w :=
  ⟨Ran.refl h.log h.inv, h.link, h.size, by simp, h.trys, Nat.le_refl _, h.at'⟩

set_option maxRecDepth 100000 in
set_option maxHeartbeats 4000000 in
theorem run_of_try (b bm base : Nat) (A : Option Addr) (bl cap : Nat) (l : List ActN) (m : Nat) (htry : ∀ m', m' < m → TrySaid b bm base A bl cap l m') : RunSaid b bm base A bl cap l m := by
  intro v fs d K s st w h hst hm
  have hlen := h.acts.len
  have H := hid h
  have Htry := hid htry
  have Hm := hid hm
  have Hst := hid hst
  have hK1 := h.at'
  clear h htry hm hst
  go_enter Try.func28, Try.ntmps28
  go_wp2_with fail
  go_loopg [] (l.length - K.1) (fun r wr => ∃ K' s' rs v', r = l.length - K'.1 ∧ PLeft b bm base l v fs d K s w K' s' rs v' wr ∧ playFrom (l.drop K.1) s.1 st = playFrom (l.drop K'.1) s'.1 st)
  case atStart => exact ⟨K, s, [], v, rfl, PLeft.zero H.out, rfl⟩
  case round =>
    obtain ⟨K', s', rs, v', hr, hL, hp⟩ := hrel
    have hA := H.out.step hL
    have HA := hid hA
    have HL := hid hL
    have Hp := hid hp
    have ha := hA.inv.at'
    have fa := hA.inv.free 7 (by omega)
    have hat := hA.at'
    have htr := hA.trys
    have hsz := hA.size
    obtain ⟨i, t⟩ := K'
    simp only [] at ha hat htr hsz hr
    have Hr := hid hr
    clear hA hL hp hr
    have hi40 : i ≤ 40 := by omega
    have hbw : b < wr.heap.size := HA.out.log.lt
    have Hat := hid hat
    have Htr := hid htr
    have Hsz := hid hsz
    have HK1 := hid hK1
    clear hat htr hsz hK1
    by_cases hil : i < l.length
    · have hd1 : (i : Int) < (l.length : Int) := by omega
      have hok := HA.out.acts.ok l[i] (List.getElem_mem hil)
      obtain ⟨rfl, r0, r1, r2⟩ := HA.out.acts.get hil
      have hdrop : l.drop i = l[i] :: l.drop (i + 1) := List.drop_eq_getElem_cons hil
      obtain ⟨act, hact⟩ : ∃ act, l[i] = act := ⟨_, rfl⟩
      have hkk : ∀ h : i + 1 - 1 < l.length, l[i + 1 - 1].kind = act.kind := fun _ => by rw [← hact]; simp
      rw [hact] at hok r0 r1 r2 hdrop
      clear hact
      obtain ⟨k, a, x⟩ := act
      have Hk4 := hid hkk
      clear hkk
      obtain ⟨hk, ha4, hx1, hx2⟩ := hok
      simp only [] at hk ha4 hx1 hx2 r0 r1 r2
      have Hdrop := hid hdrop
      clear hdrop
      go_upto_region 3 with fail
      have hP1 := HA.out.turn (K' := (i + 1, t)) 7 ((i : Int) + 1) (.inl ⟨rfl, by simp, by omega⟩) (by simp only []; omega) (by simp only []; omega) (by have := Htr.out; simp only []; omega)
      have hA1 := HA.out.step hP1
      have hL1 := HL.out.trans hP1
      simp only [List.map_nil, List.append_nil] at hA1 hL1
      have hP2 := hA1.still ((Fr.refl (fun _ => False) (wr.setCell ⟨b, 7, none⟩ (.int .i64 ((i : Int) + 1)))).alloc (.cells #[.int .i64 k, .int .i64 a, .int .i64 x] 79))
      have hA2 := hA1.step hP2
      have hL2 := hL1.trans hP2
      simp only [List.map_nil, List.append_nil] at hA2 hL2
      have hg := heap_newk (w := wr.setCell ⟨b, 7, none⟩ (.int .i64 ((i : Int) + 1))) (k := wr.heap.size) (.cells #[.int .i64 k, .int .i64 a, .int .i64 x] 79) (by simp)
      generalize (wr.setCell ⟨b, 7, none⟩ (.int .i64 ((i : Int) + 1))).alloc (.cells #[.int .i64 k, .int .i64 a, .int .i64 x] 79) = w1 at hA2 hL2 hg ⊢
      have hP3 := hA2.still (Fr.refl (fun _ => False) w1).drew
      have hA3 := hA2.step hP3
      have hL3 := hL2.trans hP3
      simp only [List.map_nil, List.append_nil] at hA3 hL3
      have Hrs : Hid (rs.length + 2 * K.1 ≤ 2 * i) := hid HL.out.rsl
      have Hnew : Hid (¬ (PD b bm wr.heap.size ∨ wr.heap.size = b ∨ some wr.heap.size = v'.ownBlock)) := hid (by
        have h1 := HA.out.bs
        have h2 := HA.out.ob
        have h3 := HA.out.om
        rintro ((hx | hx) | hx | hx)
        · omega
        · omega
        · omega
        · have := (HA.out.log.own.lt _ hx.symm).2
          omega)
      have Hg3 : Hid (w1.drew.heap[wr.heap.size]? = some (.cells #[.int .i64 k, .int .i64 a, .int .i64 x] 79 (0, 0))) := hid hg
      have g0 := cell_of_block hg 0
      have g1 := cell_of_block hg 1
      have g2 := cell_of_block hg 2
      simp only [List.getElem?_toArray, List.getElem?_cons_zero, List.getElem?_cons_succ] at g0 g1 g2
      have htab := hA2.inv.tab
      have hbw1 := hA2.log.lt
      have HA2 := hid hA2
      have HL2 := hid hL2
      have Hg := hid hg
      have ha4i : (a : Int) < 4 := by omega
      have HA3 := hid hA3
      have HL3 := hid hL3
      clear hP1 hA1 hL1 hP2 hA2 hL2 hg hP3 hA3 hL3 r0 r1 r2 ha fa
      rcases (by omega : k = 0 ∨ k = 1 ∨ k = 2 ∨ k = 3 ∨ k = 4) with rfl | rfl | rfl | rfl | rfl
      · go_wp2_with fail
        refine wp_region_still_tail 11 (by kernel_rfl) (by kernel_rfl) ?_
        simp only [List.take_succ_cons, List.take_zero, List.drop_succ_cons, List.drop_zero]
        change wpStill _ _ w1.drew _ _ _
        repeat still_step
        refine wpStill_nil ?_
        change wpList _ _ _ _ _ w1.drew
        go_wp2_with fail
        refine (p_set HA3.out a ha4 x).mono ?_
        rintro e w2 ⟨rfl, rs1, v1, hl1, hR1⟩
        have hg2 := hR1.fr.heap Hg3.out Hnew.out
        clear g0 g1 g2 htab hbw1
        have g0 := cell_of_block hg2 0
        have g1 := cell_of_block hg2 1
        have g2 := cell_of_block hg2 2
        simp only [List.getElem?_toArray, List.getElem?_cons_zero, List.getElem?_cons_succ] at g0 g1 g2
        have htab := hR1.inv.tab
        have hR2 := hR1.drew (pInv_stable b bm HA3.out.n1)
        have HR2 := hid hR2
        have Hl1 := hid hl1
        clear hR1 hR2 hl1 hg2
        go_wp2_with fail
        refine wp_region_still_tail 11 (by kernel_rfl) (by kernel_rfl) ?_
        simp only [List.take_succ_cons, List.take_zero, List.drop_succ_cons, List.drop_zero]
        change wpStill _ _ w2.drew _ _ _
        repeat still_step
        refine wpStill_nil ?_
        change wpList _ _ _ _ _ w2.drew
        go_wp2_with fail
        refine (p_put HA3.out HR2.out Hl1.out a x ha4 hx2 (by have := HA.out.size; simp only [] at this ⊢; omega)).mono ?_
        rintro e w4 ⟨rfl, qs, v2, hq2, hsz4, him, hR4⟩
        have hL4 := HL3.out.op Hrs.out hR4 hq2 (HA3.out.link.put him hx1) (by have := HA.out.size; simp only [] at this hsz4 ⊢; omega)
        have HL4 := hid hL4
        clear hR4 hL4 hsz4 him hq2
        go_wp2_with fail
        go_roundg (l.length - (i + 1))
        case measure => have := Hr.out; omega
        case rel => exact ⟨(i + 1, t), _, _, _, rfl, HL4.out, by rw [Hp.out, Hdrop.out]; simp [playFrom]⟩
      · go_wp2_with fail
        refine wp_region_still_tail 9 (by kernel_rfl) (by kernel_rfl) ?_
        simp only [List.take_succ_cons, List.take_zero, List.drop_succ_cons, List.drop_zero]
        change wpStill _ _ w1.drew _ _ _
        repeat still_step
        refine wpStill_nil ?_
        change wpList _ _ _ _ _ w1.drew
        go_wp2_with fail
        refine (p_set HA3.out a ha4 0).mono ?_
        rintro e w2 ⟨rfl, rs1, v1, hl1, hR1⟩
        have hg2 := hR1.fr.heap Hg3.out Hnew.out
        clear g0 g1 g2 htab hbw1
        have g0 := cell_of_block hg2 0
        have g1 := cell_of_block hg2 1
        have g2 := cell_of_block hg2 2
        simp only [List.getElem?_toArray, List.getElem?_cons_zero, List.getElem?_cons_succ] at g0 g1 g2
        have htab := hR1.inv.tab
        have hR2 := hR1.drew (pInv_stable b bm HA3.out.n1)
        have HR2 := hid hR2
        have Hl1 := hid hl1
        clear hR1 hR2 hl1 hg2
        go_wp2_with fail
        refine wp_region_still_tail 9 (by kernel_rfl) (by kernel_rfl) ?_
        simp only [List.take_succ_cons, List.take_zero, List.drop_succ_cons, List.drop_zero]
        change wpStill _ _ w2.drew _ _ _
        repeat still_step
        refine wpStill_nil ?_
        change wpList _ _ _ _ _ w2.drew
        go_wp2_with fail
        refine (p_drop HA3.out HR2.out Hl1.out a ha4 (by have := HA.out.size; simp only [] at this ⊢; omega)).mono ?_
        rintro e w4 ⟨rfl, qs, v2, hq2, hsz4, hR4⟩
        have hL4 := HL3.out.op Hrs.out hR4 hq2 HA3.out.link.drop (by have := HA.out.size; simp only [] at this hsz4 ⊢; omega)
        have HL4 := hid hL4
        clear hR4 hL4 hsz4 hq2
        go_wp2_with fail
        go_roundg (l.length - (i + 1))
        case measure => have := Hr.out; omega
        case rel => exact ⟨(i + 1, t), _, _, _, rfl, HL4.out, by rw [Hp.out, Hdrop.out]; simp [playFrom]⟩
      · go_wp2_with fail
        refine (Htry.out (l.length - (i + 1)) (by have := Hm.out; have h2 := HL.out.at'.1; simp only [] at h2; omega) v' _ d (i + 1, t) s' st w1 HA2.out (by have := Htr.out; simp only []; omega) (by have := HA.out.dle; simp only [] at this ⊢; omega) Hst.out (Nat.le_refl _)).mono ?_
        rintro e w2 ⟨rfl, K2, s2, qs, v2, hL4, hp4⟩
        have hL5 := HL2.out.trans hL4
        have HL4 := hid hL5
        have Hp4 := hid hp4
        have hK2 := hL4.at'
        clear hL4 hL5 hp4
        go_wp2_with fail
        go_roundg (l.length - K2.1)
        case measure => have := Hr.out; have := hK2.1; omega
        case rel => exact ⟨K2, s2, _, v2, rfl, HL4.out, by rw [Hp.out, Hdrop.out, ← Hp4.out]; simp [playFrom]⟩
      · by_cases hd0 : d = 0
        · have hdd : decide (0 < d) = false := by simp; omega
          obtain rfl : st = [] := List.eq_nil_of_length_eq_zero (Hst.out.trans hd0)
          clear hd0
          go_wp2_with (go_at_call 30; refine (deep_any b base v' _ d _ HA2.out.log).mono ?_; rintro e w' ⟨rfl, rfl⟩)
          go_roundg (l.length - (i + 1))
          case measure => have := Hr.out; omega
          case rel => exact ⟨(i + 1, t), _, _, _, rfl, HL2.out, by rw [Hp.out, Hdrop.out]; simp [playFrom]⟩
        · have hdd : decide (0 < d) = true := by simp; omega
          have Hd0 := hid hd0
          clear hd0
          go_wp2_with (go_at_call 30; refine (deep_any b base v' _ d _ HA2.out.log).mono ?_; rintro e w' ⟨rfl, rfl⟩)
          refine bodyPost_ret (results_none rfl _ _ _) rfl ?_
          exact ⟨(i + 1, t), s', _, v', HL2.out, ⟨HL2.out.at', .inl ⟨rfl, by rw [Hp.out, Hdrop.out]; simp [playFrom], fun h => absurd h Hd0.out⟩⟩⟩
      · by_cases hd0 : d = 0
        · have hdd : decide (0 < d) = false := by simp; omega
          obtain rfl : st = [] := List.eq_nil_of_length_eq_zero (Hst.out.trans hd0)
          clear hd0
          go_wp2_with (go_at_call 30; refine (deep_any b base v' _ d _ HA2.out.log).mono ?_; rintro e w' ⟨rfl, rfl⟩)
          go_roundg (l.length - (i + 1))
          case measure => have := Hr.out; omega
          case rel => exact ⟨(i + 1, t), _, _, _, rfl, HL2.out, by rw [Hp.out, Hdrop.out]; simp [playFrom]⟩
        · have hdd : decide (0 < d) = true := by simp; omega
          have Hd0 := hid hd0
          clear hd0
          go_wp2_with (first | (go_at_call 30; refine (deep_any b base v' _ d _ HA2.out.log).mono ?_; rintro e w' ⟨rfl, rfl⟩) | (go_at_call 12; refine (fail_any _ _).mono ?_; rintro e w' ⟨rfl, rfl⟩))
          exact ⟨rfl, (i + 1, t), s', _, v', HL2.out, ⟨HL2.out.at', .inr ⟨rfl, by have := Hd0.out; omega, by have := HL.out.at'.1; simp only [] at this ⊢; omega, Hk4.out, by rw [Hp.out, Hdrop.out]; simp [playFrom]⟩⟩⟩
    · have hd1 : ¬ (i : Int) < (l.length : Int) := by omega
      have hin : i = l.length := by have := Hat.out; omega
      have Hin := hid hin
      clear hin
      go_wp2_with fail
      go_end0
      refine ⟨(i, t), s', rs, v', HL.out, ⟨HL.out.at', .inl ⟨rfl, ?_, fun _ => Hin.out⟩⟩⟩
      rw [Hp.out, List.drop_of_length_le (by have := Hin.out; omega)]
      rfl

theorem run_any (b bm base : Nat) (A : Option Addr) (bl cap : Nat) (l : List ActN) (m : Nat) : RunSaid b bm base A bl cap l m := by
  induction m using Nat.strongRecOn with
  | _ m ih => exact run_of_try b bm base A bl cap l m fun m' hm => try_of_run b bm base A bl cap l m' (ih m' hm)
end Go.Proofs.Ytmdcalkfapcafaa
