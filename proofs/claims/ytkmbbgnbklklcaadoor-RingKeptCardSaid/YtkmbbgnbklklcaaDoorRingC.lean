/-
  Contracts of package ring: Scan.
-/
import Derived.Test.YtkmbbgnbklklcaaDoorRingB
import Derived.Test.YtkmbbgnbklklcaaDoorDiskD
namespace Go.Proofs.YtkmbbgnbklklcaaDoor
open Go.RowKit

theorem Tryd.infoStr : (Tryd.prog.info? 9).map (fun i => (i.zero, i.size, i.bytes)) = some (some (.string ByteArray.empty), 1, 16) := by kernel_rfl
def txts (R : List (List UInt8)) : List Value := R.map fun s => .string (S s)
theorem txts_length (R : List (List UInt8)) : (txts R).length = R.length := List.length_map ..
def secL (D : Dsk) (f m : Nat) : List (List UInt8) := (List.range m).map fun j => D.now (f + j)
theorem secL_drop (D : Dsk) (f m q : Nat) (h : q < m) : (secL D f m).drop q = D.now (f + q) :: (secL D f m).drop (q + 1) := by
  rw [List.drop_eq_getElem_cons (by simp [secL]; exact h)]
  simp [secL]
/-- Within a scan: at a sector, with what was found, with the record's first parts. -/
structure ScanAt (w w' : World) (v : Value) (ep : Nat) (L : List (List UInt8)) (q : Nat) (R : List (List UInt8)) (text : List UInt8) : Prop where
  hs : scan ep 0 L [] = R ++ scan ep q (L.drop q) text
  hO : w'.ownsRow w.heap.size 9 1 v R.length (txts R)
  hB : Below w.heap.size w w'
  ht : text.length ≤ 100 * q
  hR : R.length ≤ q
theorem opens_le (a b : Nat) (l : List UInt8) (hl : l.length = 64) : (opens a b l).length ≤ 64 := by
  unfold opens
  split
  · simp; omega
  · simp
theorem read_fq {B b g : Nat} {D : Dsk} (f q : Nat) (w : World) (h : DiskAt w B b g D) (hd : D.dead = false) (hi : f + q < D.n) :
    Calls Tryd.prog 92 #[.pointer (some ⟨b, 0, none⟩), .int .i64 ((f : Int) + (q : Int))] w fun e w' => e = .returned (.string (S (D.now (f + q)))) ∧ Below w.heap.size w w' := read_ok (f + q) w h hd hi
theorem stamp_q (r b : Nat) (fo n : Int) (ep sq : Nat) (q : Nat) (w : World) (hR : RingAt w r b fo n ep sq) (ha : q + 1 < 4294967296) :
    Calls Tryd.prog 122 #[.pointer (some ⟨r, 0, none⟩), .int .i64 (q : Int)] w fun e w' => e = .returned (.agg #[.int .u32 (ep : Int), .int .u32 ((q : Int) + 1)]) ∧ Below w.heap.size w w' := ring_stamp r b fo n ep sq q w hR ha
theorem open_q (ep q : Nat) (l : List UInt8) (w : World) (ha : ep < 4294967296) (hb : q + 1 < 4294967296) (hl : l.length ≤ 100000000) :
    Calls Tryd.prog 36 #[.agg #[.int .u32 (ep : Int), .int .u32 ((q : Int) + 1)], .string (S l)] w fun e w' => e = .returned (.tuple #[.string (S (opens ep (q + 1) l)), .bool (decide (isFrame ep (q + 1) l))]) ∧ Below w.heap.size w w' := open_any ep (q + 1) l w ha hb hl
theorem scan_no {ep q : Nat} {s : List UInt8} {rest : List (List UInt8)} {text : List UInt8} (h : ¬ goes ep q s) : scan ep q (s :: rest) text = [] := by rw [scan, if_neg h]
theorem scan_last {ep q : Nat} {s : List UInt8} {rest : List (List UInt8)} {text : List UInt8} {c : UInt8} {y : List UInt8} (hF : isFrame ep (q + 1) s) (hx : opens ep (q + 1) s = c :: y) (hc : c.toNat = 1) : scan ep q (s :: rest) text = (text ++ y) :: scan ep (q + 1) rest [] := by
  rw [scan, if_pos (show goes ep q s from ⟨hF, by rw [hx]; simp, by rw [hx]; simp; omega⟩), if_pos (show lastOf ep q s by unfold lastOf; rw [hx]; simpa using hc), hx]
  rfl
theorem scan_more {ep q : Nat} {s : List UInt8} {rest : List (List UInt8)} {text : List UInt8} {c : UInt8} {y : List UInt8} (hF : isFrame ep (q + 1) s) (hx : opens ep (q + 1) s = c :: y) (hc : c.toNat ≤ 1) (hc1 : c.toNat ≠ 1) : scan ep q (s :: rest) text = scan ep (q + 1) rest (text ++ y) := by
  rw [scan, if_pos (show goes ep q s from ⟨hF, by rw [hx]; simp, by rw [hx]; simpa using hc⟩), if_neg (show ¬ lastOf ep q s by unfold lastOf; rw [hx]; simpa using hc1), hx]
  rfl
def lenOf0 : Value → Nat
  | .int _ n => n.toNat
  | _ => 0
set_option maxRecDepth 100000 in
set_option maxHeartbeats 2000000 in
theorem ring_scan {B b g : Nat} {D : Dsk} (r f m : Nat) (ep sq : Nat) (w : World) (hR : RingAt w r b (f : Int) (m : Int) ep sq) (hD : DiskAt w B b g D) (ho : D.on) (hfm : f + m ≤ D.n) (hep : ep < 4294967296) :
    Calls Tryd.prog 94 #[.pointer (some ⟨r, 0, none⟩)] w fun e w' => ∃ v, e = .returned v ∧ w'.ownsRow w.heap.size 9 1 v (scan ep 0 (secL D f m) []).length (txts (scan ep 0 (secL D f m) [])) ∧ Below w.heap.size w w' := by
  obtain ⟨i0, hi, hz0, hz1, hz2⟩ := info_parts Tryd.infoStr
  have hsm := hD.small
  obtain ⟨k0, k1, k2, k3, k4⟩ := hR.cells
  have HR := hid hR
  have HD := hid hD
  clear hR hD
  go_enter Tryd.func94, Tryd.ntmps94
  go_wp2_with fail
  go_loopw [3, 4, 12] (fun v tv iv wr => ∃ (q : Nat) (R : List (List UInt8)) (text : List UInt8), q ≤ m ∧ iv = .int .i64 q ∧ tv = .string (S text) ∧ ScanAt w wr v ep (secL D f m) q R text) (fun _ _ iv _ => m - lenOf0 iv)
  case atStart => exact ⟨0, [], [], Nat.zero_le _, rfl, rfl, rfl, World.ownsRow_nil _ _ _ _, Below.refl _ _, Nat.zero_le _, Nat.zero_le _⟩
  case round =>
    clear k0 k1 k2 k3 k4
    obtain ⟨q, R, text, hq, rfl, rfl, hP⟩ := hrel
    have HP := hid hP
    clear hP
    by_cases hqm : q < m
    · have d1 : decide ((q : Int) < (m : Int)) = true := by simp; omega
      go_upto_region 6 with fail
      obtain ⟨k0, k1, k2, k3, k4⟩ := (HR.out.below HP.out.hB).cells
      have ew : IntKind.i64.wrap ((f : Int) + (q : Int)) = (f : Int) + (q : Int) := by rw [IntKind.wrap_i64]; omega
      have HS := hid (stamp_q r b f m ep sq q wr.drew (HR.out.below HP.out.hB).drew (by omega))
      have hln : (D.now (f + q)).length ≤ 100000000 := by rw [(HD.out.len (f + q) (by omega)).2]; decide
      have hDr := (HD.out.below HP.out.hB).drew
      go_region_held3 (fun w' => w'.cell? ⟨r, 0, none⟩ = some (.pointer (some ⟨b, 0, none⟩)) ∧ w'.cell? ⟨r, 1, none⟩ = some (.int .i64 (f : Int)))
        (first | go_keep | exact ⟨k0, k1⟩ | exact ⟨l0, l1⟩ | exact ⟨m0, m1⟩ | exact ⟨p0, p1⟩ | (trace_state; fail))
        (first
          | (go_at_call 122; (with_reducible refine HS.out.mono ?_); rintro e w1 ⟨rfl, hB1⟩; have hR1 := (HR.out.below HP.out.hB).drew.below hB1; obtain ⟨l0, l1, l2, l3, l4⟩ := hR1.cells; have hD1 := hDr.below hB1; have HB1 := hid (Below.undrew hB1); clear hB1)
          | (go_at_call 92; (with_reducible refine (read_fq f q w1 hD1 ho.dead (by omega)).mono ?_); rintro e w2 ⟨rfl, hB2⟩; have hR2 := hR1.below hB2; obtain ⟨m0, m1, m2, m3, m4⟩ := hR2.cells; have HB2 := hid (HB1.out.trans (hB2.mono HB1.out.size)); clear hB2)
          | (go_at_call 36; (with_reducible refine (open_q ep q (D.now (f + q)) w2 hep (by omega) hln).mono ?_); rintro e w3 ⟨rfl, hB3⟩; have hR3 := hR2.below hB3; obtain ⟨p0, p1, p2, p3, p4⟩ := hR3.cells; have HB3 := hid (HB2.out.trans (hB3.mono HB2.out.size)); clear hB3))
      have hB3w : Below w.heap.size w w3 := HP.out.hB.trans (HB3.out.mono HP.out.hB.size)
      have hO3 := own_below HP.out.hO (show Below wr.heap.size wr w3 from HB3.out)
      have hln2 := opens_le ep (q + 1) (D.now (f + q)) (HD.out.len (f + q) (by omega)).2
      have hsc := HP.out.hs
      rw [secL_drop D f m q hqm] at hsc
      have HB := hid hB3w
      have HO := hid hO3
      have hTl := HP.out.ht
      have hRl := HP.out.hR
      clear hB3w hO3 HB1 HB2 HB3 k0 k1 k2 k3 k4 l0 l1 l2 l3 l4 m0 m1 m2 m3 m4 p0 p1 p2 p3 p4 hR1 hR2 hR3 hD1 hDr HS ew HP
      by_cases hF : isFrame ep (q + 1) (D.now (f + q))
      · have dF : decide (isFrame ep (q + 1) (D.now (f + q))) = true := by simpa using hF
        generalize hx : opens ep (q + 1) (D.now (f + q)) = x at hln2 ⊢
        cases x with
        | nil =>
          have e1 : (S ([] : List UInt8)).toList.isEmpty = true := by rw [S_toList]; rfl
          rw [scan_no (fun h => h.2.1 hx), List.append_nil] at hsc
          have Hsc := hid hsc
          have HF := hid hF
          clear hsc hF hx
          go_wp2_with fail
          go_ret
          rw [Hsc.out]
          exact ⟨_, rfl, HO.out, HB.out⟩
        | cons c y =>
          have e1 : (S (c :: y)).toList.isEmpty = false := by rw [S_toList]; rfl
          have hix : ∀ w, (Instr.index 9 (.string (S (c :: y))) (.int .i64 0)).run Tryd.prog w = .ok (.int .u8 (c.toNat : Int)) w := fun w => index_text (c :: y) 0 (by simp) w
          by_cases hc : c.toNat ≤ 1
          · have d2 : decide ((1 : Int) < (c.toNat : Int)) = false := by simp; omega
            have e2 : (S (c :: y)).extract 1 (y.length + 1) = S y := by have h := S_drop (c :: y) 1; simpa using h
            have hss := S_size (c :: y)
            have hadd : ∀ w, (Op.stringOp .add (S text) (S y)).run Tryd.prog w = .ok (.string (S (text ++ y))) w := fun w => str_add text y (by omega) (by simp at hln2; omega) w
            by_cases hc1 : c.toNat = 1
            · have d3 : decide ((c.toNat : Int) = 1) = true := by simp; omega
              rw [scan_last hF hx hc1] at hsc
              have Hsc := hid hsc
              have HF := hid hF
              clear hsc hF hx
              have Hlen1 := hid (show R.length + 1 ≤ maxLen from by unfold maxLen; omega)
              have Hlen2 := hid (show (R.length + 1) * 16 ≤ 140737488355328 from by omega)
              go_wp2_with (at_builtin; refine wpList_append_lies _ rfl (.tmp 52) (.tmp 54) 64 rfl w.heap.size 9 i0 (.string ByteArray.empty) 1 16 Tryd.underlying64 hi hz0 hz1 hz2 rfl (by decide) u3 _ _ (by simp [Act.eval]) (HO.out.alloc _) ⟨w3.heap.size, 0, none⟩ 1 1 [.string (S (text ++ y))] (by simp [Act.eval]) rfl (news_one (by simp)) (one_one rfl) (by decide) Hlen1.out Hlen2.out (by have := HB.out.size; simp; omega) (w3.heap.size + 1) (by simp) ?_; intro g5 cap5 w5 hown5 hgrow5 hg5 hlt5; have HO5 := hid hown5; have HG5 := hid hgrow5; clear hown5 hgrow5 hg5)
              refine ⟨⟨q + 1, R ++ [text ++ y], [], by omega, by go_num, rfl, ⟨?_, ?_, ?_, by simp, by simp; omega⟩⟩, by simp [lenOf0]; omega⟩
              · rw [List.append_assoc]; exact Hsc.out
              · have h := HO5.out
                rw [List.length_append]
                simpa [txts] using h
              · exact (HB.out.alloc HB.out.size _).grown HG5.out (by have := HB.out.size; simp; omega) (fun k hk => (HO.out.lt k hk).1)
            · have d3 : decide ((c.toNat : Int) = 1) = false := by simp; omega
              rw [scan_more hF hx hc hc1] at hsc
              have Hsc := hid hsc
              have HF := hid hF
              clear hsc hF hx
              go_wp2_with fail
              refine ⟨⟨q + 1, R, text ++ y, by omega, by go_num, rfl, ⟨Hsc.out, HO.out, HB.out, by simp at hln2 ⊢; omega, by omega⟩⟩, by simp [lenOf0]; omega⟩
          · have d2 : decide ((1 : Int) < (c.toNat : Int)) = true := by simp; omega
            rw [scan_no (fun h => hc (by have h3 := h.2.2; rw [hx] at h3; simpa using h3)), List.append_nil] at hsc
            have Hsc := hid hsc
            have HF := hid hF
            clear hsc hF hx
            go_wp2_with fail
            go_ret
            rw [Hsc.out]
            exact ⟨_, rfl, HO.out, HB.out⟩
      · have dF : decide (isFrame ep (q + 1) (D.now (f + q))) = false := by simpa using hF
        rw [scan_no (fun h => hF h.1), List.append_nil] at hsc
        have Hsc := hid hsc
        have HF := hid hF
        clear hsc hF
        go_wp2_with fail
        go_ret
        rw [Hsc.out]
        exact ⟨_, rfl, HO.out, HB.out⟩
    · obtain rfl : q = m := by omega
      have d1 : decide ((q : Int) < (q : Int)) = false := by simp
      have hsc := HP.out.hs
      rw [List.drop_eq_nil_of_le (by simp [secL]), scan, List.append_nil] at hsc
      have Hsc := hid hsc
      clear hsc
      go_wp2_with fail
      go_ret
      rw [Hsc.out]
      exact ⟨_, rfl, HP.out.hO, HP.out.hB⟩
end Go.Proofs.YtkmbbgnbklklcaaDoor
