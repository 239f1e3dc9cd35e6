/-
  Law 08: the document's Scan; two rows of texts beside a disk.
-/
import Derived.Test.YtkmbbgnbklklcaaDoorL08g
import Derived.Test.YtkmbbgnbklklcaaDoorL05d
namespace Go.Proofs.YtkmbbgnbklklcaaDoor
open Go.RowKit

theorem ref5_open_q (ep q : Nat) (l : List UInt8) (w : World) (ha : ep < 4294967296) (hb : q + 1 < 4294967296) :
    Calls Tryd.prog 37 #[.int .u32 (ep : Int), .int .u32 ((q : Int) + 1), .string (S l)] w fun e w' => e = .returned (.tuple #[.string (S (opens ep (q + 1) l)), .bool (decide (isFrame ep (q + 1) l))]) ∧ Below w.heap.size w w' := ref5_open ep (q + 1) l w ha hb

/-- Two rows of texts beside a disk. -/
structure Duo (W w : World) (B b g : Nat) (D : Dsk) (v1 v2 : Value) (R1 R2 : List (List UInt8)) : Prop where
  hD : DiskAt w B b g D
  hg : g < w.heap.size
  hn : 0 < D.n
  h1 : w.ownsRow W.heap.size 9 1 v1 R1.length (txts R1)
  h2 : w.ownsRow W.heap.size 9 1 v2 R2.length (txts R2)
  hd : ∀ k, v1.ownBlock = some k → v2.ownBlock ≠ some k
  hB : Below W.heap.size W w
  hBb : W.heap.size ≤ B
theorem disk_far {w : World} {B b g : Nat} {D : Dsk} (hD : DiskAt w B b g D) (h0 : 0 < D.n) {base n : Nat} {v : Value} {xs : List Value} (ho : w.ownsRow base 9 1 v n xs) : v.ownBlock ≠ some b ∧ v.ownBlock ≠ some g := by
  obtain ⟨ao, cap, h3, _⟩ := hD.head
  obtain ⟨cur, h4, _⟩ := hD.row h0
  exact ⟨own_ne ho h3 (by decide), own_ne ho h4 (by decide)⟩
theorem own_set {w : World} {base e n cp g i : Nat} {xs : List Value} (h : w.ownsRow base e 1 (.slice (some ⟨g, 0, none⟩) n cp) n xs) (u : Value) : (w.setCell ⟨g, i, none⟩ u).ownsRow base e 1 (.slice (some ⟨g, 0, none⟩) n cp) n (xs.set i u) := by
  refine ⟨by rw [List.length_set]; exact h.1, ?_⟩
  rcases h.2 with ⟨hv, _⟩ | ⟨g', cap, cur, hv, hg, hh, h1, h2, h3, h4⟩
  · injection hv with hv
    cases hv
  · injection hv with hv hv2 hv3
    injection hv with hv
    injection hv with hv
    subst hv hv3
    refine .inr ⟨g, cp, cur.setIfInBounds i u, rfl, hg, heap_set_same (i := i) hh u, h1, h2, by simpa using h3, ?_⟩
    rw [← h4, Array.toList_setIfInBounds, Nat.mul_one, List.take_set]
section
variable {W w w' : World} {B b g : Nat} {D D' : Dsk} {v1 v2 : Value} {R1 R2 : List (List UInt8)}
theorem Duo.below (h : Duo W w B b g D v1 v2 R1 R2) (hB : Below w.heap.size w w') : Duo W w' B b g D v1 v2 R1 R2 :=
  ⟨h.hD.below hB, by have := hB.size; have := h.hg; omega, h.hn, own_below h.h1 hB, own_below h.h2 hB, h.hd, h.hB.trans (hB.mono h.hB.size), h.hBb⟩
theorem Duo.drew (h : Duo W w B b g D v1 v2 R1 R2) : Duo W w.drew B b g D v1 v2 R1 R2 := h.below ((Below.refl _ w).drew)
theorem Duo.disk (h : Duo W w B b g D v1 v2 R1 R2) (hE : DiskEnd w B b g D' w') (hn : 0 < D'.n) : Duo W w' B b g D' v1 v2 R1 R2 := by
  have h1 := disk_far h.hD h.hn h.h1
  have h2 := disk_far h.hD h.hn h.h2
  have hb := h.hD.hb
  have hg := h.hD.hg
  have hBb := h.hBb
  refine ⟨hE.1, by have := hE.2.size; have := h.hg; omega, hn, hE.2.own h.h1 (fun k hk hx => ?_), hE.2.own h.h2 (fun k hk hx => ?_), h.hd, h.hB.trans (hE.2.below h.hB.size (fun k hk hx => by unfold dfoot at hx; omega)), h.hBb⟩
  · rcases hx with rfl | rfl
    · exact h1.1 hk.symm
    · exact h1.2 hk.symm
  · rcases hx with rfl | rfl
    · exact h2.1 hk.symm
    · exact h2.2 hk.symm
theorem Duo.grow (h : Duo W w B b g D v1 v2 R1 R2) {R3 : List (List UInt8)} {g5 cap5 c : Nat} (hc : R3.length = c) (hO : w'.ownsRow W.heap.size 9 1 (.slice (some ⟨g5, 0, none⟩) (R2.length + c) cap5) (R2.length + c) (txts R2 ++ txts R3)) (hG : w.grownBy w' v2.ownBlock) (hg : v2.ownBlock = some g5 ∨ g5 = w.heap.size) :
    Duo W w' B b g D v1 (.slice (some ⟨g5, 0, none⟩) (R2.length + c) cap5) R1 (R2 ++ R3) := by
  have h2 := disk_far h.hD h.hn h.h2
  have hF : Fr (fun k => some k = v2.ownBlock) w w' := Fr.ofGrown hG
  refine ⟨h.hD.fr hF (fun e => h2.1 e.symm) (fun e => h2.2 e.symm), by have := hF.size; have := h.hg; omega, h.hn, hF.own h.h1 (fun k hk e => h.hd k hk.symm e.symm), ?_, fun k hk e => ?_, h.hB.grown hG h.hB.size (fun k hk => (h.h2.lt k hk).1), h.hBb⟩
  · rw [List.length_append, hc]
    simpa [txts] using hO
  · injection e with e
    simp only at e
    subst e
    rcases hg with hg | hg
    · exact h.hd _ hk hg
    · have := (h.h1.lt _ hk).2
      omega
theorem Duo.set2 {g5 cp i : Nat} (h : Duo W w B b g D v1 (.slice (some ⟨g5, 0, none⟩) R2.length cp) R1 R2) (s : List UInt8) : Duo W (w.setCell ⟨g5, i, none⟩ (.string (S s))) B b g D v1 (.slice (some ⟨g5, 0, none⟩) R2.length cp) R1 (R2.set i s) := by
  have h2 := disk_far h.hD h.hn h.h2
  have hF : Fr (fun k => k = g5) w (w.setCell ⟨g5, i, none⟩ (.string (S s))) := Fr.setCell (S := fun k => k = g5) (Fr.refl _ w) (p := ⟨g5, i, none⟩) (fun _ => rfl) _
  have hg5 := (h.h2.lt g5 rfl).1
  refine ⟨h.hD.fr hF (fun e => h2.1 (by rw [e]; rfl)) (fun e => h2.2 (by rw [e]; rfl)), by have := hF.size; have := h.hg; omega, h.hn, hF.own h.h1 (fun k hk e => h.hd k hk.symm (by rw [e]; rfl)), ?_, h.hd, h.hB.trans (hF.below h.hB.size (fun k hk e => by omega)), h.hBb⟩
  rw [List.length_set]
  have h3 := own_set h.h2 (i := i) (.string (S s))
  simpa [txts, List.map_set] using h3
/-- The second row goes on as the first; a new one, empty, is the second. -/
theorem Duo.next (h : Duo W w B b g D v1 v2 R1 R2) : Duo W (w.alloc (.cells #[] 9)) B b g D v2 (.slice (some ⟨w.heap.size, 0, none⟩) 0 0) R2 [] := by
  have hb : Below w.heap.size w (w.alloc (.cells #[] 9)) := (Below.refl _ _).alloc (Nat.le_refl _) _
  have h1 := World.ownsRow_lit (base := W.heap.size) (e := 9) (size := 1) w #[] 0 h.hB.size (by decide) rfl
  have hk := h.below hb
  refine ⟨hk.hD, hk.hg, hk.hn, hk.h2, h1, fun k hx e => ?_, hk.hB, hk.hBb⟩
  injection e with e
  simp only at e
  have := (h.h2.lt k hx).2
  omega
end
theorem lwrite_on {B b g : Nat} {D : Dsk} (q : Nat) (s : List UInt8) (w : World) (h : DiskAt w B b g D) (hg : g < w.heap.size) (ho : D.on) (hs : s.length = 64) (hq : q < D.n) :
    Calls Tryd.prog 52 #[.pointer (some ⟨b, 0, none⟩), .int .i64 (q : Int), .string (S s)] w fun e w' => e = .returned (.int .i64 0) ∧ DiskEnd w B b g (D.putAt q s) w' := by
  have h1 := write_any (q : Int) s w h hg (by omega)
  have hd : ¬ D.dead = true := by rw [ho.dead]; simp
  have hx : ¬ D.out (q : Int) := by unfold Dsk.out; omega
  unfold Dsk.wErr Dsk.wrote at h1
  rw [if_neg hd, if_neg hx, if_neg (by omega), if_pos ho.fit, if_neg hd, if_neg hx, if_neg (by omega), if_pos ho.fit, ho.less, pad_whole hs, show ((q : Int)).toNat = q from by omega] at h1
  exact h1

set_option maxRecDepth 100000 in
set_option maxHeartbeats 2000000 in
theorem ref8_scan (ep : Nat) (R : List (List UInt8)) (a : Option Addr) (cp : Nat) (w : World) (hT : TRow w a R) (hRl : R.length ≤ 1000) (hln : ∀ s ∈ R, s.length = 64) (hep : ep < 4294967296) :
    Calls Tryd.prog 53 #[.int .u32 (ep : Int), .slice a R.length cp] w fun e w' => ∃ ao cq, e = .returned (.slice ao (scan ep 0 R []).length cq) ∧ w'.ownsRow w.heap.size 9 1 (.slice ao (scan ep 0 R []).length cq) (scan ep 0 R []).length (txts (scan ep 0 R [])) ∧ Below w.heap.size w w' := by
  obtain ⟨i0, hi, hz0, hz1, hz2⟩ := info_parts Tryd.infoStr
  have HT := hid hT
  have HLn := hid hln
  clear hT hln
  go_enter Tryd.func53, Tryd.ntmps53
  go_wp2_with fail
  have hown : ScanAt w (w.alloc (Obj.cells #[] 9)) (.slice (some ⟨w.heap.size, 0, none⟩) 0 0) ep R 0 [] [] := by
    refine ⟨rfl, ?_, (Below.refl _ _).alloc (Nat.le_refl _) _, Nat.zero_le _, Nat.zero_le _⟩
    have h := World.ownsRow_lit (base := w.heap.size) (e := 9) (size := 1) w #[] 0 (Nat.le_refl _) (by decide) rfl
    simpa [txts] using h
  have hT1 := HT.out.below ((Below.refl w.heap.size w).alloc (Nat.le_refl _) (.cells #[] 9))
  generalize w.alloc (Obj.cells #[] 9) = w1 at *
  have Hown := hid hown
  clear hown hT1
  go_loopw [5, 6, 14] (fun v tv iv wr => ∃ (q : Nat) (Q : List (List UInt8)) (text : List UInt8), q ≤ R.length ∧ iv = .int .i64 q ∧ tv = .string (S text) ∧ ScanAt w wr v ep R q Q text) (fun _ _ iv _ => R.length - lenOf0 iv)
  case atStart => exact ⟨0, [], [], Nat.zero_le _, rfl, rfl, Hown.out⟩
  case round =>
    clear Hown
    obtain ⟨q, Q, text, hq, rfl, rfl, hP⟩ := hrel
    obtain ⟨ao, cq, hv⟩ := shape_of hP.hO
    subst hv
    have HP := hid hP
    clear hP
    by_cases hqm : q < R.length
    · have d1 : decide ((q : Int) < (R.length : Int)) = true := by simp; omega
      obtain ⟨ad, had, k0⟩ := (HT.out.below HP.out.hB).at hqm
      subst had
      have hdr : R.drop q = R[q] :: R.drop (q + 1) := List.drop_eq_getElem_cons hqm
      have hs64 := HLn.out R[q] (List.getElem_mem hqm)
      generalize R[q] = s at *
      have hqr : q < 1000 := by omega
      have eu : IntKind.u32.wrap ((q : Int) + 1) = (q : Int) + 1 := by rw [IntKind.wrap_u32]; omega
      go_upto_region 7 with (go_at_call 37; (with_reducible refine (ref5_open_q ep q s _ hep (by omega)).mono ?_); rintro e w3 ⟨rfl, hB3⟩; have HB3 := hid hB3; clear hB3)
      have hB3w : Below w.heap.size w w3 := HP.out.hB.trans (HB3.out.mono HP.out.hB.size)
      have hO3 := own_below HP.out.hO (show Below wr.heap.size wr w3 from HB3.out)
      have hln2 := opens_le ep (q + 1) s hs64
      have hsc := HP.out.hs
      rw [hdr] at hsc
      have HB := hid hB3w
      have HO := hid hO3
      have hTl := HP.out.ht
      have hRl := HP.out.hR
      clear hB3w hO3 HB3 k0 hdr HP
      by_cases hF : isFrame ep (q + 1) (s)
      · have dF : decide (isFrame ep (q + 1) (s)) = true := by simpa using hF
        generalize hx : opens ep (q + 1) (s) = x at hln2 ⊢
        cases x with
        | nil =>
          have hss := S_size ([] : List UInt8)
          rw [scan_no (fun h => h.2.1 hx), List.append_nil] at hsc
          have Hsc := hid hsc
          have HF := hid hF
          clear hsc hF hx
          go_wp2_with fail
          go_ret
          rw [Hsc.out]
          exact ⟨ao, cq, rfl, HO.out, HB.out⟩
        | cons c y =>
          have hss0 := S_size (c :: y)
          have ewc : IntKind.i64.wrap (c.toNat : Int) = (c.toNat : Int) := by have := c.toNat_lt; rw [IntKind.wrap_i64]; omega
          have hle : decide (((y.length : Int) + 1) = 0) = false := by simp; omega
          have hix : ∀ w, (Instr.index 9 (.string (S (c :: y))) (.int .i64 0)).run Tryd.prog w = .ok (.int .u8 (c.toNat : Int)) w := fun w => index_text (c :: y) 0 (by simp) w
          by_cases hc : c.toNat ≤ 1
          · have d2 : decide ((1 : Int) < (c.toNat : Int)) = false := by simp; omega
            have e2 : (S (c :: y)).extract 1 (y.length + 1) = S y := by have h := S_drop (c :: y) 1; simpa using h
            have hss := S_size (c :: y)
            have hadd : ∀ w, (Op.stringOp .add (S text) (S y)).run Tryd.prog w = .ok (.string (S (text ++ y))) w := fun w => str_add text y (by omega) (by simp at hln2; omega) w
            by_cases hc1 : c.toNat = 1
            · have d3 : decide ((c.toNat : Int) = 1) = true := by simp; omega
              rw [scan_last hF hx hc1] at hsc
              have Hsc := hid hsc
              have HF := hid hF
              clear hsc hF hx
              have Hlen1 := hid (show Q.length + 1 ≤ maxLen from by unfold maxLen; omega)
              have Hlen2 := hid (show (Q.length + 1) * 16 ≤ 140737488355328 from by omega)
              go_wp2_with (at_builtin; refine wpList_append_lies _ rfl (.tmp 49) (.tmp 51) 64 rfl w.heap.size 9 i0 (.string ByteArray.empty) 1 16 Tryd.underlying64 hi hz0 hz1 hz2 rfl (by decide) (.slice ao Q.length cq) _ _ (by simp [Act.eval]) (HO.out.alloc _) ⟨w3.heap.size, 0, none⟩ 1 1 [.string (S (text ++ y))] (by simp [Act.eval]) rfl (news_one (by simp)) (one_one rfl) (by decide) Hlen1.out Hlen2.out (by have := HB.out.size; simp; omega) (w3.heap.size + 1) (by simp) ?_; intro g5 cap5 w5 hown5 hgrow5 hg5 hlt5; have HO5 := hid hown5; have HG5 := hid hgrow5; clear hown5 hgrow5 hg5)
              refine ⟨⟨q + 1, Q ++ [text ++ y], [], by omega, by go_num, rfl, ⟨?_, ?_, ?_, by simp, by simp; omega⟩⟩, by simp [lenOf0]; omega⟩
              · rw [List.append_assoc]; exact Hsc.out
              · have h := HO5.out
                rw [List.length_append]
                simpa [txts] using h
              · exact (HB.out.alloc HB.out.size _).grown HG5.out (by have := HB.out.size; simp; omega) (fun k hk => (HO.out.lt k hk).1)
            · have d3 : decide ((c.toNat : Int) = 1) = false := by simp; omega
              rw [scan_more hF hx hc hc1] at hsc
              have Hsc := hid hsc
              have HF := hid hF
              clear hsc hF hx
              go_wp2_with fail
              refine ⟨⟨q + 1, Q, text ++ y, by omega, by go_num, rfl, ⟨Hsc.out, HO.out, HB.out, by simp at hln2 ⊢; omega, by omega⟩⟩, by simp [lenOf0]; omega⟩
          · have d2 : decide ((1 : Int) < (c.toNat : Int)) = true := by simp; omega
            rw [scan_no (fun h => hc (by have h3 := h.2.2; rw [hx] at h3; simpa using h3)), List.append_nil] at hsc
            have Hsc := hid hsc
            have HF := hid hF
            clear hsc hF hx
            go_wp2_with fail
            go_ret
            rw [Hsc.out]
            exact ⟨ao, cq, rfl, HO.out, HB.out⟩
      · have dF : decide (isFrame ep (q + 1) (s)) = false := by simpa using hF
        rw [scan_no (fun h => hF h.1), List.append_nil] at hsc
        have Hsc := hid hsc
        have HF := hid hF
        clear hsc hF
        go_wp2_with fail
        go_ret
        rw [Hsc.out]
        exact ⟨ao, cq, rfl, HO.out, HB.out⟩
    · obtain rfl : q = R.length := by omega
      have d1 : decide ((R.length : Int) < (R.length : Int)) = false := by simp
      have hsc := HP.out.hs
      rw [List.drop_eq_nil_of_le (Nat.le_refl _), scan, List.append_nil] at hsc
      have Hsc := hid hsc
      clear hsc
      go_wp2_with fail
      go_ret
      rw [Hsc.out]
      exact ⟨ao, cq, rfl, HP.out.hO, HP.out.hB⟩
end Go.Proofs.YtkmbbgnbklklcaaDoor
