/-
  Law 04's DiskSure.
-/
import Derived.Test.YtkmbbgnbklklcaaL04e
namespace Go.Proofs.Ytkmbbgnbklklcaa
open Go.RowKit

theorem DW.drew {w w' : World} {B b g : Nat} {D : Dsk} (h : DW w B b g D w') : DW w B b g D w'.drew := ⟨h.1.drew, h.2.1.drew, h.2.2⟩
def tcells (T : Nat → Nat) : Array Value := #[.int .i64 (T 0 : Nat), .int .i64 (T 1 : Nat), .int .i64 (T 2 : Nat), .int .i64 (T 3 : Nat), .int .i64 (T 4 : Nat), .int .i64 (T 5 : Nat), .int .i64 (T 6 : Nat), .int .i64 (T 7 : Nat)]
theorem tcells_get (T : Nat → Nat) (p : Nat) (h : p < 8) : (tcells T)[p]? = some (.int .i64 ((T p : Nat) : Int)) := by
  rcases (by omega : p = 0 ∨ p = 1 ∨ p = 2 ∨ p = 3 ∨ p = 4 ∨ p = 5 ∨ p = 6 ∨ p = 7) with h | h | h | h | h | h | h | h <;> subst h <;> rfl
def bump (T : Nat → Nat) (p : Nat) : Nat → Nat := fun j => if j = p then T j + 1 else T j
theorem tcells_set (T : Nat → Nat) (p : Nat) (h : p < 8) : (tcells T).setIfInBounds p (.int .i64 ((T p : Nat) + 1 : Int)) = tcells (bump T p) := by
  rcases (by omega : p = 0 ∨ p = 1 ∨ p = 2 ∨ p = 3 ∨ p = 4 ∨ p = 5 ∨ p = 6 ∨ p = 7) with h | h | h | h | h | h | h | h <;> subst h <;> simp [tcells, bump]
theorem cutsOf {w wr : World} {b g : Nat} {a : Option Addr} {n cap : Nat} {E : Nat → Int} (h : SliceOf w a n cap (fun i => .int .i64 (E i))) (hB : Below w.heap.size w wr) (hb : w.heap.size ≤ b) (hg : w.heap.size ≤ g) : CutsAt wr b g a n E := fun h0 => by
  rcases h.reads with ⟨_, h1⟩ | ⟨ad, h1, h2⟩
  · omega
  · have hlt := World.block_lt_of_cell? _ _ (h2 0 h0)
    rw [add_block] at hlt
    exact ⟨ad, h1, by omega, by omega, by have := hB.size; omega, fun k hk => (hB.cell (p := ad.add k) (by rw [add_block]; exact hlt)).trans (h2 k hk)⟩
theorem index_tc (T : Nat → Nat) (q : Nat) (h : q < 8) (w : World) : (Instr.index 47 (.agg (tcells T)) (.int .i64 (q : Int))).run Try.prog w = .ok (.int .i64 ((T q : Nat) : Int)) w := by
  rcases (by omega : q = 0 ∨ q = 1 ∨ q = 2 ∨ q = 3 ∨ q = 4 ∨ q = 5 ∨ q = 6 ∨ q = 7) with h | h | h | h | h | h | h | h <;> subst h <;> kernel_rfl
theorem and7 (z : Int) : ∃ k : Nat, k ≤ 7 ∧ bits .and .i64 z 7 = (k : Int) := and_small z 7 (by decide)
theorem cut64 (s : List UInt8) (w : World) : Calls Try.prog 8 #[.string (S s), .int .i64 64] w fun e w' => e = .returned (.string (S (s.take 64))) ∧ w' = w := cut_any s 64 w
theorem Acts4.at {w w' : World} {a : Option Addr} {len cap : Nat} {E : Nat → Act4} (h : Acts4 w a len cap E) (hB : Below w.heap.size w w') {i : Nat} (hi : i < len) : ∃ ad, a = some ad ∧ w'.cell? (ad.add (i * 5)) = some (.int .i64 (E i).kind) ∧ w'.cell? ⟨(ad.add (i * 5)).block, (ad.add (i * 5)).off + 1, none⟩ = some (.int .i64 (E i).at_) ∧ w'.cell? ⟨(ad.add (i * 5)).block, (ad.add (i * 5)).off + 2, none⟩ = some (.int .i64 (E i).n) ∧
    w'.cell? ⟨(ad.add (i * 5)).block, (ad.add (i * 5)).off + 3, none⟩ = some (.string (S (E i).s)) ∧ w'.cell? ⟨(ad.add (i * 5)).block, (ad.add (i * 5)).off + 4, none⟩ = some (.slice (E i).ca (E i).cl (E i).cc) ∧ (ad.add (i * 5)).block < w.heap.size := by
  obtain ⟨ad, ha, h2⟩ := h.reads (by omega)
  obtain ⟨c0, c1, c2, c3, c4, _⟩ := h2 i hi
  have hb := World.block_lt_of_cell? _ _ c0
  exact ⟨ad, ha, (hB.cell (p := ad.add (i * 5)) hb).trans c0, (hB.cell (p := ⟨_, _, none⟩) hb).trans c1, (hB.cell (p := ⟨_, _, none⟩) hb).trans c2, (hB.cell (p := ⟨_, _, none⟩) hb).trans c3, (hB.cell (p := ⟨_, _, none⟩) hb).trans c4, hb⟩

set_option maxRecDepth 100000 in
set_option maxHeartbeats 4000000 in
theorem walkDiskSure (w : World) (a1 : Option Addr) (l1 c1 : Nat) (E1 : Nat → Act4) (a2 : Option Addr) (l2 c2 : Nat) (E2 : Nat → Act4) (a3 : Option Addr) (l3 c3 : Nat) (E3 : Nat → Int) (h1 : Acts4 w a1 l1 c1 E1) (h2 : Acts4 w a2 l2 c2 E2)
    (h3 : SliceOf w a3 l3 c3 (fun i => .int .i64 (E3 i)) ∧ ∀ i, i < l3 → (Lit.int .i64 (E3 i)).wf = true) :
    Calls Try.prog 5 #[.slice a1 l1 c1, .slice a2 l2 c2, .slice a3 l3 c3] w fun e w' => e = .returned (.bool true) ∧ Below w.heap.size w w' := by
  have HA1 := hid h1
  have HA2 := hid h2
  have HA3 := hid h3.1
  clear h1 h2 h3
  go_enter Try.func5, Try.ntmps5
  go_wp2_with fail
  refine (awake04 w).mono ?_
  rintro e w1 ⟨rfl, hB⟩
  have HB1 := hid hB
  clear hB
  go_wp2_with fail
  refine (disk_new 8 8 w1 (by decide)).mono ?_
  rintro e w2 ⟨rfl, g, hD, hg, hB⟩
  have H2 := hid (DW.new HB1.out hD hg hB)
  clear hD hg hB
  generalize w1.heap.size = b at *
  go_wp2_with fail
  go_loopw [8] (fun i wr => ∃ (q : Nat) (D : Dsk), q ≤ 12 ∧ i = .int .i64 q ∧ DW w w.heap.size b g D wr ∧ Calm D) (fun i _ => (12 - intOf i).toNat)
  case atStart => exact ⟨0, _, by omega, rfl, H2.out, ⟨rfl, rfl, rfl⟩⟩
  case round =>
    obtain ⟨q, D, hq, rfl, hW, hC⟩ := hrel
    have HW := hid hW
    have HC := hid hC
    clear hW hC
    by_cases hql : q < l1 ∧ q < 12
    · have d1 : decide (q < l1) = true := by simp; omega
      have d2 : decide ((q : Int) < 12) = true := by simp; omega
      obtain ⟨ad, rfl, _, k1, _, k3, _, hbl⟩ := HA1.out.at HW.out.2.1 hql.1
      obtain ⟨p, hp, hbit⟩ := and7 (E1 q).at_
      go_upto_region 7 with fail
      generalize (E1 q).s = s at *
      generalize (E1 q).at_ = z at *
      have hwr := HC.out.write p (by omega) (s.take 64) (by rw [List.length_take]; omega)
      have hst : (s.take 64).length ≤ 100000000 := by rw [List.length_take]; omega
      have hcall := write_any (p : Int) (s.take 64) wr.drew HW.out.at.drew HW.out.g hst
      rw [hwr.1] at hcall
      have Hc := hid hcall
      clear hcall
      go_region_held3 (fun w' => w'.cell? ⟨(ad.add (q * 5)).block, (ad.add (q * 5)).off + 1, none⟩ = some (.int .i64 z) ∧ w'.cell? ⟨(ad.add (q * 5)).block, (ad.add (q * 5)).off + 3, none⟩ = some (.string (S s)))
        (first | go_keep | (constructor <;> assumption))
        (first
          | (go_at_call 8; (with_reducible refine (cut64 s _).mono ?_); rintro e w4 ⟨rfl, hw4⟩; subst hw4)
          | (go_at_call 16; (with_reducible refine Hc.out.mono ?_); rintro e w5 ⟨rfl, hE5⟩; have hx5 := hE5.below HW.out.B; have k51 := (hx5.cell (p := ⟨(ad.add (q * 5)).block, (ad.add (q * 5)).off + 1, none⟩) hbl).trans k1; have k53 := (hx5.cell (p := ⟨(ad.add (q * 5)).block, (ad.add (q * 5)).off + 3, none⟩) hbl).trans k3; have HE5 := hid hE5; clear hE5 hx5))
      go_wp2_with fail
      have hW5 := HW.out.drew.ends HE5.out
      rw [hwr.2] at hW5
      refine ⟨⟨q + 1, _, by omega, by go_num, hW5, ⟨HC.out.n, HC.out.dead, HC.out.armed⟩⟩, by simp [intOf]; omega⟩
    · by_cases hq1 : q < l1
      case' pos =>
        have d1 : decide (q < l1) = true := by simp; omega
        have d2 : decide ((q : Int) < 12) = false := by simp; omega
        go_upto_region 8 with fail
      case' neg =>
        have d1 : decide (q < l1) = false := by simp; omega
        go_upto_region 8 with fail
      all_goals
        go_wp2_with fail
        have hs := sync_any wr HW.out.at HW.out.g
        rw [HC.out.sync.1] at hs
        refine hs.mono ?_
        rintro e w3 ⟨rfl, hE⟩
        have HW3 := hid (HW.out.ends hE)
        have hC3 : Calm D.synced := by rw [HC.out.sync.2]; exact ⟨HC.out.n, HC.out.dead, HC.out.armed⟩
        have hS3 : ∀ i, i < 8 → D.synced.sure i = D.synced.now i := fun i hi => by
          rw [HC.out.sync.2]
          show (if i < D.n then D.now i else D.sure i) = D.now i
          rw [if_pos (by rw [HC.out.n]; exact hi)]
        generalize D.synced = D3 at *
        have HC3 := hid hC3
        have HS3 := hid hS3
        clear hs hE hC3 hS3 HW HC
        go_wp2_with fail
        refine (disk_clone w3 HW3.out.at (by rw [HC3.out.n]; decide)).mono ?_
        rintro e w4 ⟨rfl, g2, hD2, hg2, hB⟩
        have HW4 := hid (HW3.out.below hB)
        generalize hb2 : w3.heap.size = b2 at *
        have Hlt : Hid (b < b2 ∧ g < b2) := hid ⟨by rw [← hb2]; exact HW3.out.b, by rw [← hb2]; exact HW3.out.g⟩
        have HD2 := hid hD2
        have Hg2 := hid hg2
        clear hB hD2 hg2 hb2
        go_upto_region 12 with fail
        change Code.wp _ _ _ _ (w4.alloc (.cells (tcells fun _ => 0) 47))
        have ht5 := heap_new w4 (.cells (tcells fun _ => 0) 47)
        have HW5 := hid (HW4.out.alloc (.cells (tcells fun _ => 0) 47))
        have HD5 := hid (HD2.out.alloc (.cells (tcells fun _ => 0) 47))
        have hbt1 := HD2.out.lt
        generalize w4.alloc (.cells (tcells fun _ => 0) 47) = w5 at *
        generalize hbt : w4.heap.size = bt at *
        have Hbt : Hid (b < bt ∧ g < bt ∧ b2 < bt ∧ g2 < bt) := hid ⟨by have := Hlt.out; omega, by have := Hlt.out; omega, hbt1, Hg2.out⟩
        have Ht5 := hid ht5
        clear ht5 hbt hbt1
        go_wp2_with fail
        go_loopw [11] (fun i wr => ∃ (q : Nat) (D : Dsk) (T : Nat → Nat), q ≤ 12 ∧ i = .int .i64 q ∧ DW w w.heap.size b g D wr ∧ Calm D ∧ DiskAt wr b2 b2 g2 D3 ∧ wr.heap[bt]? = some (.cells (tcells T) 47 (0, 0)) ∧ (∀ j, T j ≤ q) ∧ ∀ j, j < 8 → D.sure j = D3.now j ∧ (T j = 0 → D.now j = D3.now j)) (fun i _ => (12 - intOf i).toNat)
        case atStart => exact ⟨0, D3, fun _ => 0, by omega, rfl, HW5.out, HC3.out, HD5.out, Ht5.out, fun _ => Nat.le_refl _, fun j hj => ⟨HS3.out j hj, fun _ => rfl⟩⟩
        case round =>
          obtain ⟨q2, D4, T, hq2, rfl, hW, hC, hDD, hT, hTq, hAll⟩ := hrel
          have HW6 := hid hW
          have HC6 := hid hC
          have HD6 := hid hDD
          have HT6 := hid hT
          have HTq := hid hTq
          have HAll := hid hAll
          clear hW hC hDD hT hTq hAll
          by_cases hql2 : q2 < l2 ∧ q2 < 12
          · have d3 : decide (q2 < l2) = true := by simp; omega
            have d4 : decide ((q2 : Int) < 12) = true := by simp; omega
            obtain ⟨ad, had, _, k1, _, k3, _, hbl⟩ := HA2.out.at HW6.out.2.1 hql2.1
            obtain ⟨p, hp, hbit⟩ := and7 (E2 q2).at_
            have kt := cell_of_block HT6.out p
            rw [tcells_get T p (by omega)] at kt
            have ft := free_of_block HT6.out p
            have hTp := HTq.out p
            have hwp : IntKind.i64.wrap (((T p : Nat) : Int) + 1) = ((T p : Nat) : Int) + 1 := by rw [IntKind.wrap_i64]; omega
            have hp8 : (p : Int) < 8 := by omega
            have HTp := hid hTp
            have Hdd := hid had
            clear hTp
            subst had
            go_upto_region 16 with fail
            have hset := heap_set_same (i := p) HT6.out (.int .i64 (((T p : Nat) : Int) + 1))
            rw [tcells_set T p (by omega)] at hset
            have hF7 : Fr (fun k => k = bt) wr (wr.setCell ⟨bt, p, none⟩ (.int .i64 (((T p : Nat) : Int) + 1))) := (Fr.refl (fun k => k = bt) wr).setCell (p := ⟨bt, p, none⟩) (fun _ => rfl) _
            have hb7 := Hbt.out
            have hbw := HW3.out.B
            have HW7 : Hid (DW w w.heap.size b g D4 (wr.setCell ⟨bt, p, none⟩ (.int .i64 (((T p : Nat) : Int) + 1)))) := hid ⟨HW6.out.at.fr hF7 (by omega) (by omega), HW6.out.2.1.setCell (by have := HW6.out.at.hb; show w.heap.size ≤ bt; omega) _, by have := hF7.size; have := HW6.out.g; omega⟩
            have HD7 := hid (HD6.out.fr hF7 (by omega) (by omega))
            have HT7 := hid hset
            clear hset hF7 k1 k3 kt ft
            generalize wr.setCell ⟨bt, p, none⟩ (.int .i64 (((T p : Nat) : Int) + 1)) = w7 at *
            obtain ⟨ad', had', _, k1, _, k3, _, hbl'⟩ := HA2.out.at HW7.out.2.1 hql2.1
            cases had'
            generalize (E2 q2).s = s at *
            generalize (E2 q2).at_ = z at *
            have hwr := HC6.out.write p (by omega) (s.take 64) (by rw [List.length_take]; omega)
            have hst : (s.take 64).length ≤ 100000000 := by rw [List.length_take]; omega
            have hcall := write_any (p : Int) (s.take 64) w7.drew HW7.out.at.drew HW7.out.g hst
            rw [hwr.1] at hcall
            have Hc := hid hcall
            clear hcall
            go_region_held3 (fun w' => w'.cell? ⟨(ad.add (q2 * 5)).block, (ad.add (q2 * 5)).off + 1, none⟩ = some (.int .i64 z) ∧ w'.cell? ⟨(ad.add (q2 * 5)).block, (ad.add (q2 * 5)).off + 3, none⟩ = some (.string (S s)))
              (first | go_keep | (constructor <;> assumption))
              (first
                | (go_at_call 8; (with_reducible refine (cut64 s _).mono ?_); rintro e w4 ⟨rfl, hw4⟩; subst hw4)
                | (go_at_call 16; (with_reducible refine Hc.out.mono ?_); rintro e w8 ⟨rfl, hE8⟩; have hx8 := hE8.below HW7.out.B; have k81 := (hx8.cell (p := ⟨(ad.add (q2 * 5)).block, (ad.add (q2 * 5)).off + 1, none⟩) hbl).trans k1; have k83 := (hx8.cell (p := ⟨(ad.add (q2 * 5)).block, (ad.add (q2 * 5)).off + 3, none⟩) hbl).trans k3; have HE8 := hid hE8; clear hE8 hx8))
            go_wp2_with fail
            have hlt := Hlt.out
            have hhg := HD7.out.hg
            have hW8 := HW7.out.drew.ends HE8.out
            have hD8 := HD7.out.drew.fr HE8.out.2 (by rintro (e | e) <;> omega) (by rintro (e | e) <;> omega)
            have hT8 := HE8.out.2.heap (show w7.drew.heap[bt]? = _ from HT7.out) (by rintro (e | e) <;> omega)
            rw [hwr.2] at hW8
            refine ⟨⟨q2 + 1, _, bump T p, by omega, by go_num, hW8, ⟨HC6.out.n, HC6.out.dead, HC6.out.armed⟩, hD8, hT8, fun j => ?_, fun j hj => ?_⟩, by simp [intOf]; omega⟩
            · have := HTq.out j
              unfold bump
              split <;> omega
            · refine ⟨(HAll.out j hj).1, fun h0 => ?_⟩
              unfold bump at h0
              show upd D4.now p _ j = D3.now j
              unfold upd
              by_cases hjp : j = p
              · rw [if_pos hjp] at h0; omega
              · rw [if_neg hjp] at h0 ⊢
                exact (HAll.out j hj).2 h0
          · by_cases hq3 : q2 < l2
            case' pos =>
              have d3 : decide (q2 < l2) = true := by simp; omega
              have d4 : decide ((q2 : Int) < 12) = false := by simp; omega
              go_upto_region 17 with fail
            case' neg =>
              have d3 : decide (q2 < l2) = false := by simp; omega
              go_upto_region 17 with fail
            all_goals
              have hcu := cutsOf HA3.out HW6.out.2.1 HW6.out.at.hb HW6.out.at.hg
              go_wp2_with fail
              refine (disk_crash wr HW6.out.at a3 l3 c3 E3 hcu).mono ?_
              rintro e w8 ⟨rfl, hE⟩
              have hb7 := Hbt.out
              have hlt := Hlt.out
              have HW8 := hid (HW6.out.ends hE)
              have HD8 := hid (HD6.out.fr hE.2 (by rintro (e | e) <;> omega) (by have := HD6.out.hg; rintro (e | e) <;> omega))
              have HT8 := hid (hE.2.heap HT6.out (by rintro (e | e) <;> omega))
              have hcf := crash_facts D4 l3 E3
              have HC8 := hid (HC6.out.crash l3 E3)
              have hA8 : ∀ j, j < 8 → T j = 0 → (D4.crash l3 E3).now j = D3.now j := fun j hj h0 => by
                rw [hcf.2.1 j (by rw [(HAll.out j hj).1, (HAll.out j hj).2 h0]), (HAll.out j hj).2 h0]
              have hL8 := hcf.2.2
              generalize D4.crash l3 E3 = D8 at *
              have HA8 := hid hA8
              clear hcu hE hb7 hlt hcf hA8
              go_upto_region 18 with fail
              have hinf : (Try.prog.info? 47).map (·.size) = some (tcells T).size := by kernel_rfl
              have HIdx := hid (index_tc T)
              go_wp2_with (refine wpList_load_row rfl 47 (.tmp 10) rfl bt rfl _ _ _ _ HT8.out Try.underlying47 rfl hinf ?_)
              clear hinf
              go_loopw [88] (fun i wr => ∃ q : Nat, q ≤ 8 ∧ i = .int .i64 q ∧ DW w w.heap.size b g D8 wr ∧ DiskAt wr b2 b2 g2 D3) (fun i _ => (8 - intOf i).toNat)
              case atStart => exact ⟨0, by omega, rfl, HW8.out, HD8.out⟩
              case round =>
                obtain ⟨q5, hq5, rfl, hW, hDD⟩ := hrel
                have HW9 := hid hW
                have HD9 := hid hDD
                clear hW hDD
                by_cases hq8 : q5 < 8
                · have d5 : decide ((q5 : Int) < 8) = true := by simp; omega
                  have hidx := HIdx.out q5 hq8
                  have hr1 := HC8.out.read q5 hq8
                  have hr2 := HC3.out.read q5 hq8
                  have ha := HA8.out q5 hq8
                  generalize T q5 = tq at *
                  go_upto_region 21 with fail
                  clear hidx
                  go_wp2_with fail
                  have h := lread_any (q5 : Int) wr HW9.out.at
                  rw [hr1.1, hr1.2] at h
                  refine h.mono ?_
                  rintro e w10 ⟨rfl, hB⟩
                  have HW10 := hid (HW9.out.below hB)
                  have HD10 := hid (HD9.out.below hB)
                  clear hB h
                  go_wp2_with fail
                  have h := lread_any (q5 : Int) w10 HD10.out
                  rw [hr2.1, hr2.2] at h
                  refine h.mono ?_
                  rintro e w11 ⟨rfl, hB⟩
                  have HW11 := hid (HW10.out.below hB)
                  have HD11 := hid (HD10.out.below hB)
                  clear hB h hr1 hr2
                  generalize D8.now q5 = x at *
                  generalize D3.now q5 = y at *
                  by_cases ht : tq = 0
                  · have d6 : decide ((tq : Int) = 0) = true := by simp; omega
                    have e6 : ((S x).toList == (S y).toList) = true := by rw [ha ht]; simp
                    clear ha
                    go_wp2_with fail
                    exact ⟨⟨q5 + 1, by omega, by go_num, HW11.out, HD11.out⟩, by simp [intOf]; omega⟩
                  · have d6 : decide ((tq : Int) = 0) = false := by simp; omega
                    clear ha
                    go_wp2_with fail
                    exact ⟨⟨q5 + 1, by omega, by go_num, HW11.out, HD11.out⟩, by simp [intOf]; omega⟩
                · have d5 : decide ((q5 : Int) < 8) = false := by simp; omega
                  go_wp2_with fail
                  refine (disk_loose wr HW9.out.at).mono ?_
                  rintro e w10 ⟨v, rfl, hO, hB⟩
                  have HW10 := hid (HW9.out.below hB)
                  rw [hL8] at hO
                  obtain ⟨ao, cp, rfl⟩ := shape_of hO
                  clear hO hB
                  go_wp2_with fail
                  go_ret
                  exact ⟨rfl, HW10.out.2.1⟩
end Go.Proofs.Ytkmbbgnbklklcaa
