/-
  Contracts of package undo's Log: Deep, Back, to, leave, Try.
-/
import Derived.Test.YtmdcalkfapcafaaGuard
namespace Go.Proofs.Ytmdcalkfapcafaa
open Go.RowKit

/-- At block b lies a Log: the steps fs, in the row that v owns, and the depth. -/
structure LogAt (w : World) (b base : Nat) (v : Value) (fs : List Value) (d : Nat) : Prop where
  c0 : w.cell? ⟨b, 0, none⟩ = some v
  c1 : w.cell? ⟨b, 1, none⟩ = some (.int .i64 d)
  f0 : w.frozen? ⟨b, 0, none⟩ = false
  f1 : w.frozen? ⟨b, 1, none⟩ = false
  own : w.ownsRow base 1 1 v fs.length fs
  apart : v.ownBlock ≠ some b
  one : ∀ u ∈ fs, u.oneCell' = true
theorem LogAt.lt {w : World} {b base : Nat} {v : Value} {fs : List Value} {d : Nat} (h : LogAt w b base v fs d) : b < w.heap.size := World.block_lt_of_cell? _ _ h.c0
theorem LogAt.fr {w w' : World} {b base : Nat} {v : Value} {fs : List Value} {d : Nat} (h : LogAt w b base v fs d) {T : Nat → Prop} (hF : Fr T w w') (hb : ¬ T b) (hv : ∀ k, some k = v.ownBlock → ¬ T k) : LogAt w' b base v fs d := by
  have hB := hF.block b h.lt hb
  exact ⟨(World.cell?_of_block (a := ⟨b, 0, none⟩) hB).trans h.c0, (World.cell?_of_block (a := ⟨b, 1, none⟩) hB).trans h.c1, (World.frozen?_of_block (a := ⟨b, 0, none⟩) hB).trans h.f0, (World.frozen?_of_block (a := ⟨b, 1, none⟩) hB).trans h.f1,
    hF.own h.own hv, h.apart, h.one⟩

theorem Try.info1 : (Try.prog.info? 1).map (fun i => (i.zero, i.size, i.bytes)) = some (some .nilFunc, 1, 8) := by kernel_rfl

theorem back_idle (b base : Nat) (v : Value) (fs : List Value) (f : Value) (w : World) (h : LogAt w b base v fs 0) :
    Calls Try.prog 14 #[.pointer (some ⟨b, 0, none⟩), f] w fun e w' => e = .returned (.tuple #[]) ∧ w = w' := by
  have h1 := h.c1
  clear h
  go_enter Try.func14, Try.ntmps14
  go_wp2
  first | go_end0 | go_returns
  exact ⟨rfl, rfl⟩

/-- How a Log's row has turned: it is the old one, or a new one. -/
def LMoved (w : World) (v v' : Value) : Prop := ∀ k, v'.ownBlock = some k → v.ownBlock = some k ∨ w.heap.size ≤ k
/-- But for its first cell block b is as it was. -/
def Rest (b : Nat) (w w' : World) : Prop := ∀ o, o ≠ 0 → w'.cell? ⟨b, o, none⟩ = w.cell? ⟨b, o, none⟩ ∧ w'.frozen? ⟨b, o, none⟩ = w.frozen? ⟨b, o, none⟩
def logs (b : Nat) (v : Value) (k : Nat) : Prop := k = b ∨ some k = v.ownBlock

set_option maxHeartbeats 400000 in
theorem back_some (b base : Nat) (v : Value) (fs : List Value) (d : Nat) (fn : FuncId) (cap : Array Value) (w : World) (h : LogAt w b base v fs d) (hd : 0 < d) (hl : fs.length ≤ 1000000) (hbase : base ≤ w.heap.size) :
    Calls Try.prog 14 #[.pointer (some ⟨b, 0, none⟩), .func (.func fn) #[] cap] w fun e w' => e = .returned (.tuple #[]) ∧
      ∃ v', LogAt w' b base v' (fs ++ [.func (.func fn) #[] cap]) d ∧ LMoved w v v' ∧ Fr (logs b v) w w' ∧ Rest b w w' := by
  obtain ⟨i0, hi, hz0, hz1, hz2⟩ := info_parts Try.info1
  have hb := h.lt
  have h0 := h.c0
  have h1 := h.c1
  have f0 := h.f0
  have f1 := h.f1
  have hdd : decide (0 < d) = true := by simp; omega
  have hlen1 : fs.length + 1 ≤ maxLen := by unfold maxLen; omega
  have H := hid h
  clear h
  go_enter Try.func14, Try.ntmps14
  go_upto_region 1 with fail
  go_wp2_with (at_builtin; refine wpList_append_lies _ rfl (.tmp 13) (.tmp 15) 30 rfl base 1 i0 .nilFunc 1 8 Try.underlying30 hi hz0 hz1 hz2 rfl (by decide) v _ _ rfl (H.out.own.alloc _) ⟨w.heap.size, 0, none⟩ 1 1 [.func (.func fn) #[] cap] rfl rfl (news_one (by simp)) (one_one rfl) (by decide) hlen1 (by omega) (by simp; omega) (w.heap.size + 1) (by simp) ?_; intro g c w2 hown2 hgrow hg hlt2; have c2 := (hgrow.cell_far ⟨b, 0, none⟩ (by simp; omega) (fun e => H.out.apart e.symm)).trans (cellA hb h0 _); have f2 := (hgrow.frozen_far ⟨b, 0, none⟩ (by simp; omega) (fun e => H.out.apart e.symm)).trans (frzA hb f0 _); have c3 := (hgrow.cell_far ⟨b, 1, none⟩ (by simp; omega) (fun e => H.out.apart e.symm)).trans (cellA hb h1 _); have f3 := (hgrow.frozen_far ⟨b, 1, none⟩ (by simp; omega) (fun e => H.out.apart e.symm)).trans (frzA hb f1 _); have Hown2 := hid hown2; have Hgrow := hid hgrow; have Hg := hid hg; clear hown2 hgrow hg)
  first | go_end0 | go_returns
  have hne : g ≠ b := by
    rcases Hg.out with hg | hg
    · intro e; subst e; exact H.out.apart hg
    · omega
  have hF : Fr (logs b v) w w2 := (((Fr.refl (logs b v) w).alloc (.cells #[.func (.func fn) #[] cap] 1))).trans (Fr.ofGrown Hgrow.out) (fun _ _ e => .inr e)
  refine ⟨rfl, _, ⟨World.cell?_setCell_same _ _ _ c2, (World.cell?_setCell_other _ _ _ _ (by simp)).trans c3, frzS f2 _, frzS f3 _, ?_, by simpa [Value.ownBlock] using hne, ?_⟩, ?_, hF.setCell (fun _ => .inl rfl) _, ?_⟩
  · rw [List.length_append]
    exact ownsRow_setCell_other Hown2.out (by simpa [Value.ownBlock] using hne) _
  · intro u hu
    rcases List.mem_append.1 hu with hu | hu
    · exact H.out.one u hu
    · exact one_one rfl u hu
  · intro k hk
    have e : g = k := by simpa [Value.ownBlock] using hk
    subst e
    rcases Hg.out with hg | hg
    · exact .inl hg
    · exact .inr (by omega)
  · intro o ho
    have hbk : w2.heap[b]? = w.heap[b]? := (Hgrow.out.block b (by simp; omega) (fun e => H.out.apart e.symm)).trans (Below.heap_alloc _ _ _ hb)
    exact ⟨(World.cell?_setCell_other _ _ _ _ (by simp; try omega)).trans (World.cell?_of_block (a := ⟨b, o, none⟩) hbk), (World.frozen?_setCell _ _ _ _).trans (World.frozen?_of_block (a := ⟨b, o, none⟩) hbk)⟩

/-- What 'to' needs at each of its rounds: n steps are left, and lie where the slice leads. -/
def Left (w : World) (b n : Nat) (fs : List Value) : Prop := w.frozen? ⟨b, 0, none⟩ = false ∧
  ∃ ao cap, w.cell? ⟨b, 0, none⟩ = some (.slice ao n cap) ∧ n ≤ cap ∧ cap ≤ maxLen ∧ (0 < n → ∃ g, ao = some ⟨g, 0, none⟩ ∧ ∀ i, i < n → w.cell? ⟨g, i, none⟩ = some (fs.getD i .nilFunc))
/-- A function value that is a closure. -/
def closure (f : FuncId) (cap : Array Value) : Value := .func (.func f) #[] cap

set_option maxHeartbeats 400000 in
/-- Back to where there were 'mark' steps: J n: n steps are left to be undone. -/
theorem to_any (b mark : Nat) (fs : List Value) (J : Nat → World → Prop) (hmark : mark ≤ fs.length)
    (hJ : ∀ n w, mark ≤ n → n ≤ fs.length → J n w → Left w b n fs)
    (hstep : ∀ n w g cap, mark ≤ n → n < fs.length → J (n + 1) w → w.cell? ⟨b, 0, none⟩ = some (.slice (some ⟨g, 0, none⟩) (n + 1) cap) →
      ∃ f c, fs.getD n .nilFunc = closure f c ∧ (∀ w' : World, (callFunc f c).run Try.prog w' = .ok (.enter f c) w') ∧ Calls Try.prog f c (w.setCell ⟨b, 0, none⟩ (.slice (some ⟨g, 0, none⟩) n cap)) fun e w' => (∃ v, e = .returned v) ∧ J n w') (w : World) (hw : J fs.length w) :
    Calls Try.prog 38 #[.pointer (some ⟨b, 0, none⟩), .int .i64 mark] w fun e w' => e = .returned (.tuple #[]) ∧ J mark w' := by
  have Hw := hid hw
  have HJ := hid hJ
  have Hs := hid hstep
  have Hmark := hid hmark
  clear hw hJ hstep hmark
  go_enter Try.func38, Try.ntmps38
  go_wp2_with fail
  go_loopg [4, 5] (fs.length - mark) (fun r _ _ w' => r ≤ fs.length - mark ∧ J (mark + r) w')
  case atStart => exact ⟨Nat.le_refl _, by rw [show mark + (fs.length - mark) = fs.length from by have := Hmark.out; omega]; exact Hw.out⟩
  case round =>
    obtain ⟨hr, hJr⟩ := hrel
    obtain ⟨f0, ao, cap, h0, hcap, hmax, hel⟩ := HJ.out _ _ (by omega) (by have := Hmark.out; omega) hJr
    have HJr := hid hJr
    have Hel := hid hel
    clear hJr hel
    unfold maxLen at hmax
    cases gk with
    | zero =>
      have hd : decide (mark < mark + 0) = false := by simp
      go_wp2
      go_end0
      exact ⟨rfl, HJr.out⟩
    | succ r =>
      obtain ⟨q, hq⟩ : ∃ q, mark + (r + 1) = q + 1 := ⟨mark + r, by omega⟩
      rw [hq] at h0 hcap Hel HJr
      obtain ⟨g, rfl, hcells⟩ := Hel.out (by omega)
      have hread := hcells q (by omega)
      obtain ⟨f, c, hf, hin, hcall⟩ := Hs.out q wr g cap (by omega) (by omega) HJr.out h0
      rw [hf] at hread
      unfold closure at hread
      have hmq : mark ≤ q := by omega
      have hd : decide (mark < q + 1) = true := by simp; omega
      have hq8 : q + 1 ≤ 9223372036854775807 := by omega
      have Hcall := hid hcall
      have Hq := hid hq
      clear hcells hf hcall hq Hel
      go_wp2_with fail
      refine Hcall.out.mono ?_
      rintro e w2 ⟨⟨x, rfl⟩, hJ2⟩
      have HJ2 := hid hJ2
      clear hJ2
      go_wp2
      go_roundg r
      case measure => omega
      case rel => exact ⟨by omega, by rw [show mark + r = q from by have := Hq.out; omega]; exact HJ2.out⟩

/-- What 'leave' makes of a world. -/
def left' (b d : Nat) (w : World) : World := if d = 0 then (w.setCell ⟨b, 1, none⟩ (.int .i64 d)).setCell ⟨b, 0, none⟩ (.slice none 0 0) else w.setCell ⟨b, 1, none⟩ (.int .i64 d)
theorem leave_any (b d : Nat) (v : Value) (w : World) (h0 : w.cell? ⟨b, 0, none⟩ = some v) (h1 : w.cell? ⟨b, 1, none⟩ = some (.int .i64 ((d + 1 : Nat) : Int))) (f0 : w.frozen? ⟨b, 0, none⟩ = false) (f1 : w.frozen? ⟨b, 1, none⟩ = false) (hd : d ≤ 1000) (u : FrameMode) :
    CallsD Try.prog 37 #[.pointer (some ⟨b, 0, none⟩)] u w fun e u' w' => u' = u ∧ (e = .returned (.tuple #[]) ∧ left' b d w = w') := by
  have k0 := (World.cell?_setCell_other w ⟨b, 1, none⟩ ⟨b, 0, none⟩ (.int .i64 d) (by simp)).trans h0
  have k1 := World.cell?_setCell_same w ⟨b, 1, none⟩ (.int .i64 d) h1
  have e1 : (((d + 1 : Nat) : Int)) - 1 = (d : Int) := by omega
  unfold left'
  by_cases hz : d = 0
  · subst hz
    simp only [if_true]
    go_enter_d Try.func37, Try.ntmps37
    go_wp2
    go_end0
    exact ⟨rfl, rfl⟩
  · simp only [if_neg hz]
    have hz2 : ((d : Int) == 0) = false := by simp; omega
    go_enter_d Try.func37, Try.ntmps37
    go_wp2
    go_end0
    exact ⟨rfl, rfl⟩

/-- The cells that 'leave' reads. -/
def Leaving (b d : Nat) (w : World) : Prop := (∃ v, w.cell? ⟨b, 0, none⟩ = some v) ∧ w.cell? ⟨b, 1, none⟩ = some (.int .i64 ((d + 1 : Nat) : Int)) ∧ w.frozen? ⟨b, 0, none⟩ = false ∧ w.frozen? ⟨b, 1, none⟩ = false
/-- How a Try ends: G: behind the Guard; U: behind the way back. -/
def Tried (b d : Nat) (G U : Int → World → Prop) (e : Ending) (w' : World) : Prop := ∃ c : Int, e = .returned (.int .i64 c) ∧ ((c = 0 ∧ ∃ w3, G 0 w3 ∧ left' b d w3 = w') ∨ (c ≠ 0 ∧ ∃ w4, U c w4 ∧ left' b d w4 = w'))

set_option maxHeartbeats 400000 in
theorem log_try (b base : Nat) (v : Value) (fs : List Value) (d : Nat) (f : FuncId) (cap : Array Value) (w : World) (h : LogAt w b base v fs d) (hd : d ≤ 1000)
    (G U : Int → World → Prop)
    (hg : Calls Try.prog 10 #[.func (.func f) #[] cap] (w.setCell ⟨b, 1, none⟩ (.int .i64 ((d + 1 : Nat) : Int))) fun e w3 => ∃ c, e = .returned (.int .i64 c) ∧ G c w3)
    (hto : ∀ c w3, G c w3 → c ≠ 0 → Calls Try.prog 38 #[.pointer (some ⟨b, 0, none⟩), .int .i64 fs.length] w3 fun e w4 => e = .returned (.tuple #[]) ∧ U c w4)
    (hlG : ∀ w3, G 0 w3 → Leaving b d w3) (hlU : ∀ c w4, U c w4 → Leaving b d w4) :
    Calls Try.prog 16 #[.pointer (some ⟨b, 0, none⟩), .func (.func f) #[] cap] w (Tried b d G U) := by
  have h0 := h.c0
  have h1 := h.c1
  have f1 := h.f1
  obtain ⟨c, hv⟩ : ∃ a c, v = .slice a fs.length c := by
    rcases h.own.2 with ⟨rfl, hn⟩ | ⟨g, c, cur, rfl, _⟩
    · exact ⟨none, 0, by rw [hn]⟩
    · exact ⟨_, _, rfl⟩
  obtain ⟨c, rfl⟩ := hv
  have Hg := hid hg
  have Hto := hid hto
  have HlG := hid hlG
  have HlU := hid hlU
  clear hg hto hlG hlU h
  go_enter_defers Try.func16, Try.ntmps16
  go_wp2_with fail
  rw [show ((d : Int) + 1) = ((d + 1 : Nat) : Int) from by omega]
  refine Hg.out.mono ?_
  rintro e w3 ⟨x, rfl, hG⟩
  by_cases hx : x = 0
  · subst hx
    obtain ⟨⟨v, k0⟩, k1, q0, q1⟩ := HlG.out w3 hG
    have HG := hid hG
    clear hG
    dsimp only
    go_wp2_with fail
    refine leaves_cons (f := 37) (args := #[.pointer (some ⟨b, 0, none⟩)]) (by simp) (by simp [go_sem]) ?_
    refine (leave_any b d v w3 k0 k1 q0 q1 hd .returning).mono ?_
    rintro e u' w'' ⟨rfl, rfl, rfl⟩
    exact ⟨_, results_tmp rfl _ _ _, 0, rfl, .inl ⟨rfl, w3, HG.out, rfl⟩⟩
  · have hx2 : (x != 0) = true := by simp [hx]
    have Ht := Hto.out x w3 hG hx
    have Ht := hid Ht
    clear hG
    dsimp only
    go_wp2_with fail
    refine Ht.out.mono ?_
    rintro e w4 ⟨rfl, hU⟩
    obtain ⟨⟨v, k0⟩, k1, q0, q1⟩ := HlU.out x w4 hU
    have HU := hid hU
    clear hU
    dsimp only
    go_wp2_with fail
    refine leaves_cons (f := 37) (args := #[.pointer (some ⟨b, 0, none⟩)]) (by simp) (by simp [go_sem]) ?_
    refine (leave_any b d v w4 k0 k1 q0 q1 hd .returning).mono ?_
    rintro e u' w'' ⟨rfl, rfl, rfl⟩
    exact ⟨_, results_tmp rfl _ _ _, x, rfl, .inr ⟨hx, w4, HU.out, rfl⟩⟩

end Go.Proofs.Ytmdcalkfapcafaa
