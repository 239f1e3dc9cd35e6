/-
  Law 08: the document's Frames.
-/
import Derived.Test.YtkmbbgnbklklcaaDoorL08d
import Derived.Test.YtkmbbgnbklklcaaDoorRef5
namespace Go.Proofs.YtkmbbgnbklklcaaDoor
open Go.RowKit

theorem frame5_sq (ep sq j : Nat) (t : List UInt8) (w : World) (ha : ep < 4294967296) (hb : sq + 1 + j < 4294967296) (ht : t.length ≤ 47) :
    Calls Tryd.prog 39 #[.int .u32 (ep : Int), .int .u32 ((sq : Int) + 1 + (j : Int)), .string (S t)] w fun e w' => e = .returned (.string (S (frame ep (sq + j + 1) t))) ∧ Below w.heap.size w w' := by
  have h := ref5_frame ep (sq + 1 + j) t w ha hb ht
  rw [show sq + j + 1 = sq + 1 + j from by omega]
  exact h
/-- Within Frames: a row of the first frames, l' is left. -/
structure FrAt (w w' : World) (v : Value) (ep sq : Nat) (l : List UInt8) (ps : List (List UInt8)) (l' : List UInt8) : Prop where
  hp : parts l = ps ++ parts l'
  hO : w'.ownsRow w.heap.size 9 1 v ps.length (txts (frs ep sq ps))
  hB : Below w.heap.size w w'
  hl : l'.length ≤ 1000
  hc : ps.length + cost l'.length = cost l.length
theorem FrAt.more {w w' w2 : World} {v v2 : Value} {ep sq : Nat} {l : List UInt8} {ps : List (List UInt8)} {l' : List UInt8} (h : FrAt w w' v ep sq l ps l') (h46 : 46 < l'.length) (hO : w2.ownsRow w.heap.size 9 1 v2 (ps.length + 1) (txts (frs ep sq ps) ++ [.string (S (frame ep (sq + ps.length + 1) (0 :: l'.take 46)))])) (hB : Below w.heap.size w w2) :
    FrAt w w2 v2 ep sq l (ps ++ [0 :: l'.take 46]) (l'.drop 46) := by
  refine ⟨by rw [h.hp, parts_more h46]; simp, ?_, hB, by simp; have := h.hl; omega, ?_⟩
  · rw [frs_append, List.length_append, List.length_singleton]
    simpa [txts, frs] using hO
  · have h1 := h.hc
    rw [List.length_append, List.length_singleton, List.length_drop]
    unfold cost at h1 ⊢
    omega
theorem FrAt.last {w w' w2 : World} {v v2 : Value} {ep sq : Nat} {l : List UInt8} {ps : List (List UInt8)} {l' : List UInt8} (h : FrAt w w' v ep sq l ps l') (h46 : ¬ 46 < l'.length) (hO : w2.ownsRow w.heap.size 9 1 v2 (ps.length + 1) (txts (frs ep sq ps) ++ [.string (S (frame ep (sq + ps.length + 1) (1 :: l')))])) :
    w2.ownsRow w.heap.size 9 1 v2 (frs ep sq (parts l)).length (txts (frs ep sq (parts l))) := by
  rw [h.hp, parts_last h46, frs_append, List.length_append, frs_length]
  simpa [txts, frs] using hO

set_option maxRecDepth 100000 in
set_option maxHeartbeats 1000000 in
theorem frames_any (ep sq : Nat) (l : List UInt8) (w : World) (hep : ep < 4294967296) (hsq : sq ≤ 1000000) (hl : l.length ≤ 1000) :
    Calls Tryd.prog 45 #[.int .u32 (ep : Int), .int .i64 ((sq : Int) + 1), .string (S l)] w fun e w' => ∃ ao cp, e = .returned (.slice ao (frs ep sq (parts l)).length cp) ∧ w'.ownsRow w.heap.size 9 1 (.slice ao (frs ep sq (parts l)).length cp) (frs ep sq (parts l)).length (txts (frs ep sq (parts l))) ∧ Below w.heap.size w w' := by
  obtain ⟨i0, hi, hz0, hz1, hz2⟩ := info_parts Tryd.infoStr
  have hcl : cost l.length ≤ 100 := by unfold cost; omega
  go_enter Tryd.func45, Tryd.ntmps45
  go_wp2_with fail
  have hown : FrAt w (w.alloc (Obj.cells #[] 9)) (.slice (some ⟨w.heap.size, 0, none⟩) 0 0) ep sq l [] l := by
    refine ⟨rfl, ?_, (Below.refl _ _).alloc (Nat.le_refl _) _, hl, by simp⟩
    have h := World.ownsRow_lit (base := w.heap.size) (e := 9) (size := 1) w #[] 0 (Nat.le_refl _) (by decide) rfl
    simpa [txts, frs] using h
  generalize w.alloc (Obj.cells #[] 9) = w1 at *
  have Hown := hid hown
  clear hown
  go_loopw [2, 7] (fun tv v wr => ∃ (ps : List (List UInt8)) (l' : List UInt8), tv = .string (S l') ∧ FrAt w wr v ep sq l ps l') (fun tv _ _ => sizeOfText tv)
  case atStart => exact ⟨[], l, rfl, Hown.out⟩
  case round =>
    clear Hown
    obtain ⟨ps, l', rfl, hP⟩ := hrel
    have hls := S_size l'
    have hl' := hP.hl
    have hc := hP.hc
    have hc1 : 1 ≤ cost l'.length := by unfold cost; omega
    have HP := hid hP
    obtain ⟨ao, cp, hv⟩ := shape_of hP.hO
    subst hv
    clear hP
    have eu : IntKind.u32.wrap ((sq : Int) + 1 + (ps.length : Int)) = (sq : Int) + 1 + (ps.length : Int) := by rw [IntKind.wrap_u32]; omega
    have Hlen1 := hid (show ps.length + 1 ≤ maxLen from by unfold maxLen; omega)
    have Hlen2 := hid (show (ps.length + 1) * 16 ≤ 140737488355328 from by omega)
    by_cases h46 : 46 < l'.length
    · have d1 : decide ((46 : Int) < (l'.length : Int)) = true := by simp; omega
      have e1 := S_take l' 46
      have e2 := S_drop l' 46
      have hadd : ∀ w, (Op.stringOp .add ⟨#[0]⟩ (S (l'.take 46))).run Tryd.prog w = .ok (.string (S (0 :: l'.take 46))) w := fun w => str_add [0] (l'.take 46) (by decide) (by simp; omega) w
      go_wp2_with (first
        | (go_at_call 39; (with_reducible refine (frame5_sq ep sq ps.length (0 :: l'.take 46) _ hep (by omega) (by simp; omega)).mono ?_); rintro e w3 ⟨rfl, hB3⟩; have HO3 := hid (own_below HP.out.hO hB3); have HB3 := hid (HP.out.hB.trans (hB3.mono HP.out.hB.size)); clear hB3)
        | (at_builtin; refine wpList_append_lies _ rfl (.tmp 12) (.tmp 23) 64 rfl w.heap.size 9 i0 (.string ByteArray.empty) 1 16 Tryd.underlying64 hi hz0 hz1 hz2 rfl (by decide) (.slice ao ps.length cp) _ _ (by simp [Act.eval]) (HO3.out.alloc _) ⟨w3.heap.size, 0, none⟩ 1 1 [.string (S (frame ep (sq + ps.length + 1) (0 :: l'.take 46)))] (by simp [Act.eval]) rfl (news_one (by simp)) (one_one rfl) (by decide) Hlen1.out Hlen2.out (by have := HB3.out.size; simp; omega) (w3.heap.size + 1) (by simp) ?_; intro g5 cap5 w5 hown5 hgrow5 hg5 hlt5; have HO5 := hid hown5; have HG5 := hid hgrow5; clear hown5 hgrow5 hg5))
      refine ⟨⟨_, _, rfl, HP.out.more h46 HO5.out ?_⟩, by simp [sizeOfText, S_size]; omega⟩
      exact (HB3.out.alloc HB3.out.size _).grown HG5.out (by have := HB3.out.size; simp; omega) (fun k hk => (HO3.out.lt k hk).1)
    · have d1 : decide ((46 : Int) < (l'.length : Int)) = false := by simp; omega
      have hadd : ∀ w, (Op.stringOp .add ⟨#[1]⟩ (S l')).run Tryd.prog w = .ok (.string (S (1 :: l'))) w := fun w => str_add [1] l' (by decide) (by omega) w
      go_wp2_with (first
        | (go_at_call 39; (with_reducible refine (frame5_sq ep sq ps.length (1 :: l') _ hep (by omega) (by simp; omega)).mono ?_); rintro e w3 ⟨rfl, hB3⟩; have HO3 := hid (own_below HP.out.hO hB3); have HB3 := hid (HP.out.hB.trans (hB3.mono HP.out.hB.size)); clear hB3)
        | (at_builtin; refine wpList_append_lies _ rfl (.tmp 27) (.tmp 37) 64 rfl w.heap.size 9 i0 (.string ByteArray.empty) 1 16 Tryd.underlying64 hi hz0 hz1 hz2 rfl (by decide) (.slice ao ps.length cp) _ _ (by simp [Act.eval]) (HO3.out.alloc _) ⟨w3.heap.size, 0, none⟩ 1 1 [.string (S (frame ep (sq + ps.length + 1) (1 :: l')))] (by simp [Act.eval]) rfl (news_one (by simp)) (one_one rfl) (by decide) Hlen1.out Hlen2.out (by have := HB3.out.size; simp; omega) (w3.heap.size + 1) (by simp) ?_; intro g5 cap5 w5 hown5 hgrow5 hg5 hlt5; have HO5 := hid hown5; have HG5 := hid hgrow5; clear hown5 hgrow5 hg5))
      go_ret
      have hO := HP.out.last h46 HO5.out
      obtain ⟨a9, c9, hv9⟩ := shape_of hO
      refine ⟨a9, c9, ?_, by rw [← hv9]; exact hO, (HB3.out.alloc HB3.out.size _).grown HG5.out (by have := HB3.out.size; simp; omega) (fun k hk => (HO3.out.lt k hk).1)⟩
      rw [← hv9]
      rfl
end Go.Proofs.YtkmbbgnbklklcaaDoor
