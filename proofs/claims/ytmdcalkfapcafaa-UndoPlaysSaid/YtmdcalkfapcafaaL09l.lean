/-
  Law 09: UndoPlays: its walk.
-/
import Derived.Test.YtmdcalkfapcafaaL09j
import Derived.Test.YtmdcalkfapcafaaL09k
import Derived.Test.YtmdcalkfapcafaaL09a
import Derived.ChangeKeysEq
namespace Go.Proofs.Ytmdcalkfapcafaa
open Go.RowKit

theorem wpList_lookup_known_int {H : Type} {P : Program} (w : World) {ops : Array Oper} {rest : List Oper} {o : Oper} {a : Act} {Q : Exit → Act → World → Prop} (hg : o.guard = none) (m x : Operand) (t : TypeId) (hop : o.op = Op.lookup t m x true)
    (k e : TypeId) (q : IntKind) (K : Maps.Keyed P k) (ht : P.underlying t = some (.map k e)) (he : P.underlying e = some (.int q)) (hz : (zeroValue e).run P w = .ok (.int q 0) w) (b n : Nat) (D : DataW H)
    (hm : a.eval m = .map (some b)) (hown : w.ownsMap P k (plainElem P e) b n D) (key : Value) (kl : Lit) (hx : a.eval x = key) (hkey : keyOf P k key = some kl) (c : Int) (ok : Bool) (hat : D.atKey kl (.lit (.int q 0)) = .lit (.int q c)) (hh : Maps.has D kl = ok)
    (hK : wpList P ops Q rest (a.put o.dst (.tuple #[.int q c, .bool ok])) w) : wpList P ops Q (o :: rest) a w :=
  wpList_lookup_own_ok_int w hg m x t hop k e q K ht he hz b n D hm hown key kl hx hkey (fun c' h' _ => by
    rw [hat] at h'
    injection h' with h'
    injection h' with _ h'
    subst h'
    rw [hh]; exact hK)

theorem playFrom_pos : ∀ (l : List ActN) (c : C4) (st : List C4), (∀ i, 0 ≤ c i) → (∀ x ∈ st, ∀ i, 0 ≤ x i) → ∀ i, 0 ≤ playFrom l c st i
  | [], c, st, hc, _, i => hc i
  | a :: l, c, st, hc, hs, i => by
    simp only [playFrom]
    have hset : ∀ y : Nat, ∀ j, 0 ≤ c.set a.at' (y : Int) j := fun y j => by
      unfold C4.set
      split
      · omega
      · exact hc j
    by_cases h0 : a.kind = 0
    · rw [if_pos h0]; exact playFrom_pos l _ st (hset _) hs i
    · rw [if_neg h0]
      by_cases h1 : a.kind = 1
      · rw [if_pos h1]; exact playFrom_pos l _ st (by simpa using hset 0) hs i
      · rw [if_neg h1]
        by_cases h2 : a.kind = 2
        · rw [if_pos h2]; exact playFrom_pos l _ _ hc (fun x hx => by
            rcases List.mem_cons.1 hx with rfl | hx
            · exact hc
            · exact hs x hx) i
        · rw [if_neg h2]
          by_cases h3 : a.kind = 3
          · rw [if_pos h3]; exact playFrom_pos l _ _ hc (fun x hx => hs x (List.mem_of_mem_tail hx)) i
          · rw [if_neg h3]
            refine playFrom_pos l _ _ ?_ (fun x hx => hs x (List.mem_of_mem_tail hx)) i
            cases st with
            | nil => exact hc
            | cons x st => exact hs x (by simp)

theorem eq_int (n : Nat) (c : Int) (w : World) : (Op.equalIn (n + 1) 3 (.int .i64 c) (.int .i64 c)).run Try.prog w = .ok true w := by
  simp [Op.equalIn, run_underlying Try.underlying3]
theorem eq_cells (C : C4) (w : World) : (Op.equalIn 10000 58 (.agg #[.int .i64 (C 0), .int .i64 (C 1), .int .i64 (C 2), .int .i64 (C 3)]) (.agg #[.int .i64 (C 0), .int .i64 (C 1), .int .i64 (C 2), .int .i64 (C 3)])).run Try.prog w = .ok true w := by
  cases hq : Try.prog.info? 3 with
  | none =>
    have hi : (Try.prog.info? 3).isSome = true := by kernel_rfl
    rw [hq] at hi; cases hi
  | some i =>
    have hc : Try.prog.cellsOf 3 = 1 := by kernel_rfl
    rw [run_equalIn_array (P := Try.prog) w 9999 _ _ Try.underlying58 hq, hc]
    have e : ∀ c : Int, (Op.equalIn 9999 3 (.int .i64 c) (.int .i64 c)).run Try.prog w = .ok true w := fun c => eq_int 9998 c w
    simp [List.range_succ, Op.eqItems, part, Sem.run_bind, e]

set_option maxRecDepth 100000 in
set_option maxHeartbeats 4000000 in
theorem undoplays_any (W : World) (A : Option Addr) (len cap : Nat) (E : Nat → Int × Int × Int) (h : Acts3 W A len cap E) :
    Calls Try.prog 7 #[.slice A len cap] W fun e w' => e = .returned (.bool true) ∧ Below W.heap.size W w' := by
  have H := hid h
  clear h
  have hmm := @run_makeMap Try.prog
  go_enter Try.func7, Try.ntmps7
  go_wp2_with fail
  refine (awake09 _).mono ?_
  rintro e w1 ⟨rfl, hB1⟩
  have HB1 := hid hB1
  clear hB1
  go_wp2_with fail
  refine (acts_any w1 A len cap E (H.out.below HB1.out)).mono ?_
  rintro e w2 ⟨A2, bl, cap2, rfl, hAct, hbl1, hbl2, hB2⟩
  have hBW := HB1.out.trans (hB2.mono HB1.out.size)
  have HAct := hid hAct
  have HBW := hid hBW
  have hlen : (actsTo E (min len 40)).length = min len 40 := actsTo_length _ _
  rw [← hlen]
  generalize actsTo E (min len 40) = l at *
  clear hAct hBW hB2 hlen
  go_upto_region 5 with fail
  have hm := (World.ownsMap_made w2 Try.prog 3 (plainElem (H := Unit) Try.prog 3)).alloc (.cells #[.slice none 0 0, .int .i64 0, .int .i64 0, .int .i64 0, .int .i64 0, .int .i64 0, .map (some w2.heap.size), .int .i64 0, .bool true, .int .i64 0] 60)
  have hw := heap_newk (w := w2.alloc (.map #[] 0)) (k := w2.heap.size + 1) (.cells #[.slice none 0 0, .int .i64 0, .int .i64 0, .int .i64 0, .int .i64 0, .int .i64 0, .map (some w2.heap.size), .int .i64 0, .bool true, .int .i64 0] 60) (by simp)
  have hF := ((Fr.refl (fun _ => False) w2).alloc (.map #[] 0)).alloc (.cells #[.slice none 0 0, .int .i64 0, .int .i64 0, .int .i64 0, .int .i64 0, .int .i64 0, .map (some w2.heap.size), .int .i64 0, .bool true, .int .i64 0] 60)
  have hsz3 : ((w2.alloc (.map #[] 0)).alloc (.cells #[.slice none 0 0, .int .i64 0, .int .i64 0, .int .i64 0, .int .i64 0, .int .i64 0, .map (some w2.heap.size), .int .i64 0, .bool true, .int .i64 0] 60)).heap.size = w2.heap.size + 2 := by simp
  generalize (w2.alloc (.map #[] 0)).alloc (.cells #[.slice none 0 0, .int .i64 0, .int .i64 0, .int .i64 0, .int .i64 0, .int .i64 0, .map (some w2.heap.size), .int .i64 0, .bool true, .int .i64 0] 60) = w3 at *
  have hc := cell_of_block hw
  have hf := free_of_block hw
  have hA : PAt (w2.heap.size + 1) w2.heap.size (w2.heap.size + 2) A2 bl cap2 l (.slice none 0 0) [] 0 (0, 0) (c0, .map []) w3 := by
    refine ⟨⟨hc 0, hc 1, hf 0, hf 1, ⟨rfl, .inl ⟨rfl, rfl⟩⟩, by simp [Value.ownBlock], by simp⟩, ⟨fun i hi => ?_, hc 6, hc 7, hc 8, hc 9, fun o _ => hf o, OwnM.of hm, by simp [Maps.size]⟩, HAct.out.fr (fun hlt => hF.block bl hlt id), by omega, by omega, by omega, by omega, by omega, by omega, by omega, fun i hi => ?_, by simp [Maps.size], by simp, by simp, by simp, by simp, fun _ => rfl⟩
    · rw [hc (2 + i)]
      rcases (by omega : i = 0 ∨ i = 1 ∨ i = 2 ∨ i = 3) with rfl | rfl | rfl | rfl <;> rfl
    · exact ⟨rfl, fun z => rfl⟩
  have hB3 := HBW.out.trans (hF.below HBW.out.size (fun _ _ h => h))
  have HA := hid hA
  have HB3 := hid hB3
  have Hsz3 := hid hsz3
  clear hm hw hF hsz3 hc hf hA hB3 hmm
  go_wp2_with fail
  refine (run_any (w2.heap.size + 1) w2.heap.size (w2.heap.size + 2) A2 bl cap2 l _ (.slice none 0 0) [] 0 (0, 0) (c0, .map []) [] w3 HA.out rfl (Nat.le_refl _)).mono ?_
  rintro e w4 ⟨K', s', rs, v', hL, hE⟩
  rcases hE.how with ⟨rfl, hp, hj⟩ | ⟨_, h0, _⟩
  case inr => exact absurd h0 (by omega)
  have hA4 := HA.out.step hL
  have hpl : playFrom l c0 [] = s'.1 := by
    rw [hj rfl, List.drop_length] at hp
    simpa [playFrom] using hp
  have hB4 : Below (w2.heap.size) w3 w4 := hL.ran.fr.below (by rw [Hsz3.out]; omega) (fun k hk hx => by
    rcases hx with (hx | hx) | hx | hx
    · omega
    · omega
    · omega
    · simp [Value.ownBlock] at hx)
  have hB4 := HB3.out.trans (hB4.mono (by have := HBW.out.size; omega))
  have hpos : ∀ i, 0 ≤ s'.1 i := by rw [← hpl]; exact playFrom_pos l c0 [] (fun _ => Int.le_refl _) (by simp)
  have HA4 := hid hA4
  have HB4 := hid hB4
  have Hpl := hid hpl
  have Hpos := hid hpos
  clear hL hE hp hj hA4 hpl hB4 hpos
  go_wp2_with fail
  refine (play_any w4 A2 bl cap2 l HA4.out.acts).mono ?_
  rintro e w5 ⟨rfl, hB5⟩
  rw [Hpl.out]
  obtain ⟨C, D⟩ := s'
  dsimp only
  go_upto_region 7 with fail
  have hF6 := (Fr.ofBelow hB5 (fun _ => False)).alloc (.cells #[.int .i64 (C 0), .int .i64 (C 1), .int .i64 (C 2), .int .i64 (C 3)] 62)
  have hA6 := HA4.out.step (HA4.out.still hF6)
  have hv := heap_new w5 (.cells #[.int .i64 (C 0), .int .i64 (C 1), .int .i64 (C 2), .int .i64 (C 3)] 62)
  have hB6 := HB4.out.trans (hF6.below HB4.out.size (fun _ _ h => h))
  generalize w5.alloc (.cells #[.int .i64 (C 0), .int .i64 (C 1), .int .i64 (C 2), .int .i64 (C 3)] 62) = w6 at *
  generalize w5.heap.size = bv at *
  have f8 := hA6.inv.fine
  have d0 := hA6.inv.cells 0 (by omega)
  have d1 := hA6.inv.cells 1 (by omega)
  have d2 := hA6.inv.cells 2 (by omega)
  have d3 := hA6.inv.cells 3 (by omega)
  have v0 := cell_of_block hv 0
  have v1 := cell_of_block hv 1
  have v2 := cell_of_block hv 2
  have v3 := cell_of_block hv 3
  simp only [List.getElem?_toArray, List.getElem?_cons_zero, List.getElem?_cons_succ] at v0 v1 v2 v3
  simp only [Nat.add_zero, Nat.reduceAdd] at d0 d1 d2 d3
  have htab := hA6.inv.tab
  have HA6 := hid hA6
  have HB6 := hid hB6
  clear hF6 hA6 hv hB6 HA4 HB4 HA HB3
  refine wp_region_still_lit (by kernel_rfl) (by kernel_rfl) ?_
  change wpStill _ _ w6.drew _ _ _
  have heq := eq_cells C
  repeat still_step
  still_call (still_left (deep_any (w2.heap.size + 1) (w2.heap.size + 2) v' _ 0 w6.drew (HA6.out.log.fr (Fr.refl (fun _ => False) w6).drew id (fun _ _ => id))))
  repeat still_step
  refine wpStill_nil ?_
  change Exit.then _ _ Exit.normal _ w6.drew
  clear heq d0 d1 d2 d3 f8
  go_wp2_with fail
  clear v0 v1 v2 v3
  go_loop [43] (fun i => ∃ q : Nat, q ≤ 4 ∧ i = .int .i64 q) (fun i => (4 - intOf i).toNat)
  case atStart => exact ⟨0, by omega, rfl⟩
  case round =>
    obtain ⟨q, hq, rfl⟩ := hrel
    by_cases hq4 : q < 4
    · have hlt : (q : Int) < 4 := by omega
      have hidx : ∀ w, (Instr.index 62 (.agg #[.int .i64 (C 0), .int .i64 (C 1), .int .i64 (C 2), .int .i64 (C 3)]) (.int .i64 (q : Int))).run Try.prog w = .ok (.int .i64 (C q)) w := fun w => by
        rcases (by omega : q = 0 ∨ q = 1 ∨ q = 2 ∨ q = 3) with rfl | rfl | rfl | rfl <;> kernel_rfl
      obtain ⟨hhas, hatk⟩ := HA6.out.link q hq4
      have hhas : Maps.has D (.int .i64 (q : Int)) = decide (0 < C q) := hhas
      have hatk : D.atKey (.int .i64 (q : Int)) (.lit (.int .i64 0)) = if 0 < C q then .lit (.int .i64 (C q)) else .lit (.int .i64 0) := hatk _
      have hp : 0 ≤ C q := Hpos.out q
      have hown : w6.drew.ownsMap Try.prog 3 (plainElem Try.prog 3) w2.heap.size (Maps.size D) D := HA6.out.inv.own
      have hkey : keyOf Try.prog 3 (.int .i64 (q : Int)) = some (.int .i64 (q : Int)) := Maps.keyOf_int_mk Try.underlying3 (wf_small q (by omega))
      generalize C q = n at *
      have Hown := hid hown
      have Hkey := hid hkey
      clear hown hkey
      by_cases hn : 0 < n
      · rw [if_pos hn] at hatk
        rw [decide_eq_true hn] at hhas
        have hd : decide (0 < n) = true := decide_eq_true hn
        have Hhas := hid hhas
        have Hatk := hid hatk
        clear hhas hatk
        go_wp2_with (at_lookup; refine wpList_lookup_known_int _ rfl _ _ 57 rfl 3 3 .i64 keyInt Try.underlying57 Try.underlying3 (zeroInt _) w2.heap.size _ D rfl Hown.out _ _ rfl Hkey.out n true Hatk.out Hhas.out ?_)
        go_round
        case rel => exact ⟨q + 1, by omega, by go_num⟩
        case measure => simp [intOf]; omega
      · rw [if_neg hn] at hatk
        rw [decide_eq_false hn] at hhas
        obtain rfl : n = 0 := by omega
        have Hhas := hid hhas
        have Hatk := hid hatk
        clear hhas hatk hn
        go_wp2_with (at_lookup; refine wpList_lookup_known_int _ rfl _ _ 57 rfl 3 3 .i64 keyInt Try.underlying57 Try.underlying3 (zeroInt _) w2.heap.size _ D rfl Hown.out _ _ rfl Hkey.out 0 false Hatk.out Hhas.out ?_)
        go_round
        case rel => exact ⟨q + 1, by omega, by go_num⟩
        case measure => simp [intOf]; omega
    · have hlt : ¬ (q : Int) < 4 := by omega
      go_wp2_with fail
      go_ret
      exact ⟨rfl, HB6.out.drew⟩
end Go.Proofs.Ytmdcalkfapcafaa
