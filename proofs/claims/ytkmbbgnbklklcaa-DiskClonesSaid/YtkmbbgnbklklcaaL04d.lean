/-
  Law 04's DiskArm.
-/
import Derived.Test.YtkmbbgnbklklcaaL04c
import Derived.Test.YtkmbbgnbklklcaaArgs
namespace Go.Proofs.Ytkmbbgnbklklcaa
open Go.RowKit

theorem DiskAt.weak {w : World} {B B' b g : Nat} {D : Dsk} (h : DiskAt w B b g D) (hB : B' ≤ B) : DiskAt w B' b g D := ⟨h.head, h.row, Nat.le_trans hB h.hb, Nat.le_trans hB h.hg, h.small, h.big, h.len⟩
theorem DW.new {w w1 w2 : World} {g n : Nat} (hB1 : Below w.heap.size w w1) (hD : DiskAt w2 w1.heap.size w1.heap.size g (Dsk.new n)) (hg : g < w2.heap.size) (hB : Below w1.heap.size w1 w2) : DW w w.heap.size w1.heap.size g (Dsk.new n) w2 :=
  ⟨hD.weak hB1.size, hB1.trans (hB.mono hB1.size), hg⟩
structure ArmAt (N i : Nat) (D : Dsk) : Prop where
  n : D.n = 2
  armed : D.armed = true
  live : i ≤ N → D.dead = false ∧ D.left = N - i
  dead : N < i → D.dead = true
theorem ArmAt.fit {N i : Nat} {D : Dsk} (h : ArmAt N i D) : D.fit ↔ i < N := by
  unfold Dsk.fit
  by_cases h1 : i ≤ N
  · have := h.live h1
    rw [this.1, this.2]
    simp [h.armed]
    omega
  · have := h.dead (by omega)
    simp [this]
    omega
theorem ArmAt.less {N i : Nat} {D : Dsk} (h : ArmAt N i D) (hi : i < N) : ArmAt N (i + 1) D.less :=
  ⟨h.n, h.armed, fun _ => ⟨(h.live (by omega)).1, by
    unfold Dsk.less
    rw [if_pos h.armed, (h.live (by omega)).2]
    show N - i - 1 = N - (i + 1)
    omega⟩, fun _ => by omega⟩
theorem ArmAt.cut {N i : Nat} {D : Dsk} (h : ArmAt N i D) (hi : N ≤ i) : ArmAt N (i + 1) D.cut := ⟨h.n, h.armed, fun _ => by omega, fun _ => rfl⟩
theorem ArmAt.sync {N i : Nat} {D : Dsk} (h : ArmAt N i D) : ArmAt N (i + 1) D.synced ∧ D.syncErr = if i < N then 0 else 12 := by
  have hf := h.fit
  unfold Dsk.synced Dsk.syncErr
  unfold Dsk.fit at hf
  by_cases hi : i < N
  · rw [if_pos (hf.2 hi), if_pos (hf.2 hi), if_pos hi]
    have h2 := h.less hi
    exact ⟨⟨h2.n, h2.armed, h2.live, h2.dead⟩, rfl⟩
  · rw [if_neg (fun e => hi (hf.1 e)), if_neg (fun e => hi (hf.1 e)), if_neg hi]
    exact ⟨h.cut (by omega), rfl⟩
theorem ArmAt.write {N i : Nat} {D : Dsk} (h : ArmAt N i D) (k : Int) (hk : 0 ≤ k ∧ k < 2) (s : List UInt8) (hs : s.length ≤ 64) : ArmAt N (i + 1) (D.wrote k s) ∧ D.wErr k s = if i < N then 0 else 12 := by
  have hf := h.fit
  have ho : ¬ D.out k := by
    have := h.n
    unfold Dsk.out
    omega
  unfold Dsk.wrote Dsk.wErr
  by_cases hd : D.dead = true
  · rw [if_pos hd, if_pos hd]
    have hi : N < i := by
      by_cases h1 : i ≤ N
      · have := (h.live h1).1; rw [hd] at this; cases this
      · omega
    rw [if_neg (by omega)]
    exact ⟨⟨h.n, h.armed, fun _ => by omega, fun _ => hd⟩, rfl⟩
  have hs' : ¬ 64 < s.length := by omega
  rw [if_neg hd, if_neg hd, if_neg ho, if_neg ho, if_neg hs', if_neg hs']
  by_cases hi : i < N
  · rw [if_pos (hf.2 hi), if_pos (hf.2 hi), if_pos hi]
    have h2 := h.less hi
    exact ⟨⟨h2.n, h2.armed, h2.live, h2.dead⟩, rfl⟩
  · rw [if_neg (fun e => hi (hf.1 e)), if_neg (fun e => hi (hf.1 e)), if_neg hi]
    exact ⟨h.cut (by omega), rfl⟩

theorem bit_small (q : Nat) (h : q < 40) : 0 ≤ bits BinOp.and IntKind.i64 (q : Int) 1 ∧ bits BinOp.and IntKind.i64 (q : Int) 1 < 2 := by
  have : ∀ q : Fin 40, 0 ≤ bits BinOp.and IntKind.i64 ((q.val : Nat) : Int) 1 ∧ bits BinOp.and IntKind.i64 ((q.val : Nat) : Int) 1 < 2 := by decide +kernel
  exact this ⟨q, h⟩
set_option maxRecDepth 100000 in
set_option maxHeartbeats 4000000 in
theorem walkDiskArm (w : World) (n : Int) (a : Option Addr) (len cap : Nat) (T : Nat → Bool) (_hn : (Lit.int .i64 n).wf = true) (h : SliceOf w a len cap (fun i => .bool (T i))) :
    Calls Try.prog 4 #[.int .i64 n, .slice a len cap] w fun e w' => e = .returned (.bool true) ∧ Below w.heap.size w w' := by
  have HS := hid h
  clear h _hn
  go_enter Try.func4, Try.ntmps4
  go_wp2_with fail
  refine (awake04 w).mono ?_
  rintro e w1 ⟨rfl, hB⟩
  have HB1 := hid hB
  clear hB
  go_wp2_with fail
  refine (disk_new 2 2 w1 (by decide)).mono ?_
  rintro e w2 ⟨rfl, g, hD, hg, hB⟩
  have H2 := hid (DW.new HB1.out hD hg hB)
  clear hD hg hB
  generalize w1.heap.size = b at *
  go_wp2_with fail
  generalize hn' : min n 30 = n' at *
  have hN30 : n' ≤ 30 := by omega
  obtain ⟨N, hN⟩ : ∃ N : Nat, max n' 0 = (N : Int) := ⟨(max n' 0).toNat, by omega⟩
  refine (disk_arm n' N w2 H2.out.at hN (by omega)).mono ?_
  rintro e w3 ⟨rfl, hE⟩
  have hA : ArmAt N 0 { Dsk.new 2 with armed := true, left := N } := ⟨rfl, rfl, fun _ => ⟨rfl, rfl⟩, fun h => by omega⟩
  have H3 := hid (H2.out.ends hE)
  generalize { Dsk.new 2 with armed := true, left := N } = D0 at *
  have HA := hid hA
  clear hE hA
  go_wp2_with fail
  go_loopw [6] (fun i wr => ∃ (q : Nat) (D : Dsk), q ≤ 40 ∧ i = .int .i64 q ∧ DW w w.heap.size b g D wr ∧ ArmAt N q D) (fun i _ => (40 - intOf i).toNat)
  case atStart => exact ⟨0, D0, by omega, rfl, H3.out, HA.out⟩
  case round =>
    obtain ⟨q, D, hq, rfl, hW, hA⟩ := hrel
    have HW := hid hW
    have HAq := hid hA
    clear hW hA
    by_cases hql : q < len ∧ q < 40
    · have d1 : decide (q < len) = true := by simp; omega
      have d2 : decide ((q : Int) < 40) = true := by simp; omega
      rcases HS.out.reads with ⟨_, h0⟩ | ⟨ad, had, hcell⟩
      · omega
      subst had
      have c1 := hcell q (by omega)
      have k1 := (World.cell?_of_block (w := w) (a := ad.add q) (HW.out.2.1.block _ (World.block_lt_of_cell? _ _ c1))).trans c1
      dsimp only at k1
      clear hcell c1
      have hsy := HAq.out.sync
      cases hT : T q
      · rw [hT] at k1
        have hbit := bit_small q (by omega)
        have hwr := HAq.out.write _ hbit [120] (by decide)
        generalize hki : bits BinOp.and IntKind.i64 (q : Int) 1 = ki at *
        go_wp2_with fail
        have hs := write_any ki [120] wr HW.out.at HW.out.g (by decide)
        rw [hwr.2] at hs
        refine hs.mono ?_
        rintro e w4 ⟨rfl, hE⟩
        have HW4 := hid (HW.out.ends hE)
        have hA4 := hwr.1
        generalize D.wrote ki [120] = D4 at *
        have HA4 := hid hA4
        clear hE hs hwr hA4 k1 hsy
        by_cases hqN : q < N
        · rw [if_pos hqN]
          have d3 : decide ((q : Int) < n') = true := by simp; omega
          have d4 : decide (n' ≤ (q : Int)) = false := by simp; omega
          have hdd := (HA4.out.live hqN).1
          go_wp2_with (go_at_call 17; refine (disk_dead w4 HW4.out.at).mono ?_; rintro e w5 ⟨rfl, hB5⟩; rw [hdd]; have HW5 := hid (HW4.out.below hB5); clear hB5)
          refine ⟨⟨q + 1, D4, by omega, by go_num, HW5.out, HA4.out⟩, by simp [intOf]; omega⟩
        · rw [if_neg hqN]
          have d3 : decide ((q : Int) < n') = false := by simp; omega
          have d4 : decide (n' ≤ (q : Int)) = true := by simp; omega
          have hdd := HA4.out.dead (by omega)
          go_wp2_with (go_at_call 17; refine (disk_dead w4 HW4.out.at).mono ?_; rintro e w5 ⟨rfl, hB5⟩; rw [hdd]; have HW5 := hid (HW4.out.below hB5); clear hB5)
          refine ⟨⟨q + 1, D4, by omega, by go_num, HW5.out, HA4.out⟩, by simp [intOf]; omega⟩
      · rw [hT] at k1
        go_wp2_with fail
        have hs := sync_any wr HW.out.at HW.out.g
        rw [hsy.2] at hs
        refine hs.mono ?_
        rintro e w4 ⟨rfl, hE⟩
        have HW4 := hid (HW.out.ends hE)
        have hA4 := hsy.1
        generalize D.synced = D4 at *
        have HA4 := hid hA4
        clear hE hs hsy hA4 k1
        by_cases hqN : q < N
        · rw [if_pos hqN]
          have d3 : decide ((q : Int) < n') = true := by simp; omega
          have d4 : decide (n' ≤ (q : Int)) = false := by simp; omega
          have hdd := (HA4.out.live hqN).1
          go_wp2_with (go_at_call 17; refine (disk_dead w4 HW4.out.at).mono ?_; rintro e w5 ⟨rfl, hB5⟩; rw [hdd]; have HW5 := hid (HW4.out.below hB5); clear hB5)
          refine ⟨⟨q + 1, D4, by omega, by go_num, HW5.out, HA4.out⟩, by simp [intOf]; omega⟩
        · rw [if_neg hqN]
          have d3 : decide ((q : Int) < n') = false := by simp; omega
          have d4 : decide (n' ≤ (q : Int)) = true := by simp; omega
          have hdd := HA4.out.dead (by omega)
          go_wp2_with (go_at_call 17; refine (disk_dead w4 HW4.out.at).mono ?_; rintro e w5 ⟨rfl, hB5⟩; rw [hdd]; have HW5 := hid (HW4.out.below hB5); clear hB5)
          refine ⟨⟨q + 1, D4, by omega, by go_num, HW5.out, HA4.out⟩, by simp [intOf]; omega⟩
    · have hbr : decide (q < len) = false ∨ decide ((q : Int) < 40) = false := by
        by_cases h1 : q < len
        · exact .inr (by simp; omega)
        · exact .inl (by simp; omega)
      have hdead : D.dead = decide (N < q) := by
        by_cases h1 : N < q
        · rw [HAq.out.dead h1]; simp [h1]
        · rw [(HAq.out.live (by omega)).1]; simp [h1]
      have hre : D.rErr 0 = if N < q then 12 else 0 := by
        have ho : ¬ D.out 0 := by have := HAq.out.n; unfold Dsk.out; omega
        unfold Dsk.rErr
        rw [hdead]
        by_cases h1 : N < q <;> simp [h1, ho]
      have hcn : (D.crash 0 (fun _ => 0)).n = 2 := by
        show (D.tearN _ _ _).n = 2
        rw [tearN_n]
        exact HAq.out.n
      have hcr : (D.crash 0 (fun _ => 0)).rErr 0 = 0 := by
        have ho : ¬ (D.crash 0 (fun _ => 0)).out 0 := by unfold Dsk.out; omega
        unfold Dsk.rErr
        rw [if_neg ho]
        rfl
      have hcw : (D.crash 0 (fun _ => 0)).wErr 0 [121] = 0 := by
        have ho : ¬ (D.crash 0 (fun _ => 0)).out 0 := by unfold Dsk.out; omega
        have hf : (D.crash 0 (fun _ => 0)).fit := ⟨rfl, fun h => by cases h⟩
        unfold Dsk.wErr
        rw [if_neg ho, if_pos hf]
        rfl
      have hcd : (D.crash 0 (fun _ => 0)).dead = false := rfl
      have hrd := lread_any 0 wr HW.out.at
      rw [hre] at hrd
      generalize hD9 : D.crash 0 (fun _ => 0) = D9 at hcn hcr hcw hcd
      have HD9 := hid hD9
      have Hdead := hid hdead
      clear hD9 hdead hre
      by_cases hq1 : q < len
      case' pos =>
        have d1 : decide (q < len) = true := by simp; omega
        have d2 : decide ((q : Int) < 40) = false := by simp; omega
        clear hbr
        go_upto_region 15 with fail
      case' neg =>
        have d1 : decide (q < len) = false := by simp; omega
        clear hbr
        go_upto_region 15 with fail
      all_goals
        go_wp2_with fail
        refine hrd.mono ?_
        rintro e w4 ⟨rfl, hB⟩
        have HW4 := hid (HW.out.below hB)
        clear hB hrd
        by_cases hNq : N < q
        all_goals try (exfalso; omega)
        all_goals
          first | rw [if_pos hNq] | rw [if_neg hNq]
          first | (have Hdd : Hid (D.dead = true) := hid (by rw [Hdead.out]; simp; omega)) | (have Hdd : Hid (D.dead = false) := hid (by rw [Hdead.out]; simp; omega))
          go_upto_region 18 with (go_at_call 17; refine (disk_dead w4 HW4.out.at).mono ?_; rintro e w5 ⟨rfl, hB5⟩; rw [Hdd.out]; have HW5 := hid (HW4.out.below hB5); clear hB5)
          go_wp2_with fail
          refine (disk_crash _ HW5.out.at none 0 0 (fun _ => 0) (CutsAt.none _ _ _ _ _)).mono ?_
          rintro e w6 ⟨rfl, hE⟩
          rw [HD9.out] at hE
          have HW6 := hid (HW5.out.ends hE)
          clear hE
          go_wp2_with fail
          have h := lread_any 0 w6 HW6.out.at
          rw [hcr] at h
          refine h.mono ?_
          rintro e w7 ⟨rfl, hB⟩
          have HW7 := hid (HW6.out.below hB)
          clear hB h
          go_wp2_with fail
          refine (disk_dead w7 HW7.out.at).mono ?_
          rintro e w8 ⟨rfl, hB⟩
          rw [hcd]
          have HW8 := hid (HW7.out.below hB)
          clear hB
          go_wp2_with fail
          have h := write_any 0 [121] w8 HW8.out.at HW8.out.g (by decide)
          rw [hcw] at h
          refine h.mono ?_
          rintro e w9 ⟨rfl, hE⟩
          have HW9 := hid (HW8.out.ends hE)
          clear hE h
          go_wp2_with fail
          go_ret
          exact ⟨rfl, HW9.out.2.1⟩
end Go.Proofs.Ytkmbbgnbklklcaa
