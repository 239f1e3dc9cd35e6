/-
  The document's sums: Of.
-/
import Derived.Test.YtmdcalkfapcafaaDoorRefC
import Derived.Test.YtmdcalkfapcafaaDoorHeld
namespace Go.Proofs.YtmdcalkfapcafaaDoor
open Go.RowKit

def S8.ints (s : S8) : Array Value := #[WI s.a, WI s.b, WI s.c, WI s.d, WI s.e, WI s.f, WI s.g, WI s.h]
theorem S8.ints_get (t : S8) (n : Nat) (h : n < 8) : t.ints[n]? = some (WI (t.get n)) := by
  rcases (by omega : n = 0 ∨ n = 1 ∨ n = 2 ∨ n = 3 ∨ n = 4 ∨ n = 5 ∨ n = 6 ∨ n = 7) with rfl | rfl | rfl | rfl | rfl | rfl | rfl | rfl <;> rfl
/-- The first n words added. -/
def addInts (s t : S8) (n : Nat) : Array Value :=
  #[WI (if 0 < n then s.a + t.a else s.a), WI (if 1 < n then s.b + t.b else s.b), WI (if 2 < n then s.c + t.c else s.c), WI (if 3 < n then s.d + t.d else s.d),
    WI (if 4 < n then s.e + t.e else s.e), WI (if 5 < n then s.f + t.f else s.f), WI (if 6 < n then s.g + t.g else s.g), WI (if 7 < n then s.h + t.h else s.h)]
theorem addInts_zero (s t : S8) : addInts s t 0 = s.ints := rfl
theorem addInts_all (s t : S8) : addInts s t 8 = (s.add t).ints := rfl
theorem addInts_step (s t : S8) (n : Nat) (h : n < 8) : (addInts s t n).setIfInBounds n (WI (s.get n + t.get n)) = addInts s t (n + 1) := by
  rcases (by omega : n = 0 ∨ n = 1 ∨ n = 2 ∨ n = 3 ∨ n = 4 ∨ n = 5 ∨ n = 6 ∨ n = 7) with rfl | rfl | rfl | rfl | rfl | rfl | rfl | rfl <;> rfl
theorem addInts_get (s t : S8) (n : Nat) (h : n < 8) : (addInts s t n)[n]? = some (WI (s.get n)) := by
  rcases (by omega : n = 0 ∨ n = 1 ∨ n = 2 ∨ n = 3 ∨ n = 4 ∨ n = 5 ∨ n = 6 ∨ n = 7) with rfl | rfl | rfl | rfl | rfl | rfl | rfl | rfl <;> rfl
theorem numCells_get (i : Nat) (h : i < 64) : numCells[i]? = some (WI (Kr i)) := by simp [numCells, h]
/-- The first m words' bytes. -/
def outTo (s : S8) (m : Nat) : List UInt8 := s.bytes.take (4 * m)
theorem outTo_succ (s : S8) (m : Nat) (h : m < 8) : outTo s (m + 1) = outTo s m ++ beB (s.get m).toNat 4 := by
  unfold outTo
  rcases (by omega : m = 0 ∨ m = 1 ∨ m = 2 ∨ m = 3 ∨ m = 4 ∨ m = 5 ∨ m = 6 ∨ m = 7) with rfl | rfl | rfl | rfl | rfl | rfl | rfl | rfl <;> rfl
theorem outTo_all (s : S8) : outTo s 8 = s.bytes := by unfold outTo; exact List.take_of_length_le (by rw [S8.bytes_length]; decide)
theorem pad_eq (M : List UInt8) (j : Nat) (h : (119 - M.length % 64) % 64 = j) : (M ++ 128 :: List.replicate j 0) ++ beB (8 * M.length) 8 = M ++ padOf M.length := by
  rw [← h]; simp [padOf, beB]
theorem pad_mod (M : List UInt8) : (M ++ padOf M.length).length % 64 = 0 := by
  simp [padOf]; omega

set_option maxRecDepth 4000 in
set_option maxHeartbeats 4000000 in
theorem refof_any (M : List UInt8) (hM : M.length ≤ 100000000) (w : World) :
    Calls Tryd.prog 13 #[.string (S M)] w fun e w' => e = .returned (.string (S (shaOf M))) ∧ Below w.heap.size w w' := by
  have hs0 := S_size M
  have hcat : S M ++ ⟨#[128]⟩ = S (M ++ 128 :: List.replicate 0 0) := by
    show S M ++ S [128] = _
    rw [S_append]; rfl
  go_enter Tryd.func13, Tryd.ntmps13
  go_upto_region 3 with fail
  have h0 := heap_new w (Obj.cells S8.start.ints 3)
  have hB0 : Below w.heap.size w (w.alloc (Obj.cells S8.start.ints 3)) := (Below.refl _ _).alloc (Nat.le_refl _) _
  change Code.wp _ _ _ _ (w.alloc (Obj.cells S8.start.ints 3))
  generalize w.alloc (Obj.cells S8.start.ints 3) = w1 at *
  obtain ⟨z, hz⟩ : ∃ z, (119 - M.length % 64) % 64 = z := ⟨_, rfl⟩
  have hz64 : z < 64 := by omega
  have H0 := hid h0
  have HB0 := hid hB0
  clear h0 hB0 hcat
  go_loopw [4] (fun t w' => ∃ j : Nat, j ≤ z ∧ t = .string (S (M ++ 128 :: List.replicate j 0)) ∧ w' = w1) (fun t _ => match t with | .string b => 1000000000 - b.size | _ => 0)
  case atStart => exact ⟨0, by omega, rfl, rfl⟩
  case round =>
    obtain ⟨j, hj, rfl, rfl⟩ := hrel
    have hml : (M ++ 128 :: List.replicate j 0).length = M.length + 1 + j := by simp; omega
    have hs1 := S_size (M ++ 128 :: List.replicate j 0)
    rw [hml] at hs1
    have hrem : ((M.length + 1 + j : Nat) : Int).tmod 64 = (((M.length + 1 + j) % 64 : Nat) : Int) := by rw [Int.tmod_eq_emod_of_nonneg (Int.natCast_nonneg _)]; exact (Int.natCast_emod _ 64).symm
    have hcat : S (M ++ 128 :: List.replicate j 0) ++ ⟨#[0]⟩ = S (M ++ 128 :: List.replicate (j + 1) 0) := by
      show S _ ++ S [0] = _
      rw [S_append, List.append_assoc, List.cons_append, ← List.replicate_succ']
    have hml2 : (M ++ 128 :: List.replicate (j + 1) 0).length = M.length + 1 + (j + 1) := by simp; omega
    have hs2 := S_size (M ++ 128 :: List.replicate (j + 1) 0)
    rw [hml2] at hs2
    have Hml := hid hml
    clear hml hml2
    by_cases hjz : j < z
    · have hne : ¬ ((M.length + 1 + j) % 64 = 56) := by omega
      obtain ⟨L, hL⟩ : ∃ L, M.length + 1 + j = L := ⟨_, rfl⟩
      have hlim : ¬ 9223372036854775807 < L + 1 := by omega
      rw [hL] at hs1 hrem hne
      generalize hX : M ++ 128 :: List.replicate j 0 = X at *
      generalize hX2 : M ++ 128 :: List.replicate (j + 1) 0 = X2 at *
      generalize hy : L % 64 = y at *
      have hne2 : ¬ (y : Int) = 56 := by omega
      have HL := hid hL
      have HX2 := hid hX2
      have Hs1 := hid hs1
      have Hs2 := hid hs2
      have Hz := hid hz
      clear hL hX hX2 hy hz hs2
      go_wp2_with fail
      refine ⟨⟨j + 1, by omega, by rw [HX2.out], trivial⟩, ?_⟩
      show 1000000000 - (S X2).size < 1000000000 - (S X).size
      rw [Hs1.out, Hs2.out]
      have := HL.out
      omega
    · have heq : (M.length + 1 + j) % 64 = 56 := by omega
      have hjz2 : j = z := by omega
      have hrem2 : ((M.length + 1 + j : Nat) : Int).tmod 64 = 56 := by rw [heq] at hrem; exact hrem
      have hpe := pad_eq M j (by omega)
      obtain ⟨L, hL⟩ : ∃ L, M.length + 1 + j = L := ⟨_, rfl⟩
      rw [hL] at hs1 hrem2
      generalize hX : M ++ 128 :: List.replicate j 0 = X at *
      have hlX : X.length = L := by have := Hml.out; omega
      have HlX := hid hlX
      have HL := hid hL
      have Hpe := hid hpe
      have m8 : IntKind.i64.wrap (8 * (M.length : Int)) = ((8 * M.length : Nat) : Int) := by rw [IntWalk.i64_in _ (by omega)]; omega
      have hlim : ¬ 9223372036854775807 < L + 8 := by omega
      have hb8 := S_size (beB (8 * M.length) 8)
      rw [beB_length] at hb8
      have hcat2 : S X ++ S (beB (8 * M.length) 8) = S (M ++ padOf M.length) := by rw [S_append, hpe]
      have hrb := refbytes_any (8 * M.length) 8 (by decide)
      have hpm := pad_mod M
      have hfd : shaOf M = (feed .start (M ++ padOf M.length)).1.bytes := rfl
      have hTl : (M ++ padOf M.length).length = L + 8 := by rw [← hpe, List.length_append, hlX, beB_length]
      generalize 8 * M.length = n8 at *
      generalize beB n8 8 = b8 at *
      generalize M ++ padOf M.length = T at *
      have Hrb := hid hrb
      have Hpm := hid hpm
      have Hfd := hid hfd
      have HTl := hid hTl
      have HTb : Hid (T.length ≤ 300000000) := hid (by omega)
      have hN : w.heap.size < wr.heap.size := lt_of_block H0.out
      have hsT := S_size T
      go_upto_region 5 with fail
      clear hrem hrem2 heq hcat hs2 hX hlX hpe hrb hpm hfd hTl hjz hj hjz2 hz hM hL
      go_upto_region 7 with (first
        | (go_at_call 27; refine (Hrb.out _).mono ?_; rintro e w3 ⟨rfl, hB3⟩; have HB3 := hid hB3; clear hB3)
        | (go_at_call 28; refine (numbers_any _).mono ?_; rintro e w4 ⟨rfl, rfl⟩))
      have hK1 := heap_new w3 (Obj.cells numCells 3)
      have hK0 := heap_old ((HB3.out.block w.heap.size hN).trans H0.out) (Obj.cells numCells 3)
      have hKB := (HB0.out.trans (HB3.out.mono (by omega))).alloc (by have := HB3.out.size; omega) (Obj.cells numCells 3)
      have hNK : w.heap.size < w3.heap.size := by have := HB3.out.size; omega
      generalize w3.alloc (Obj.cells numCells 3) = w4 at *
      generalize w3.heap.size = K at *
      have HK1 := hid hK1
      have HK0 := hid hK0
      have HKB := hid hKB
      clear hK1 hK0 hKB
      clear hlim m8 hb8 hcat2 hs1 hN
      go_upto_region 8 with fail
      generalize hN : w.heap.size = N at *
      go_loopw [6] (fun i w' => ∃ (b : Nat) (st : S8), i = .int .i64 ((64 * b : Nat) : Int) ∧ 64 * b ≤ T.length ∧ w'.heap[N]? = some (.cells st.ints 3 (0, 0)) ∧ w'.heap[K]? = some (.cells numCells 3 (0, 0)) ∧ feed st (T.drop (64 * b)) = feed .start T ∧ Below N w w') (fun i _ => ((T.length : Int) - intOf i).toNat)
      case atStart => exact ⟨0, .start, rfl, by omega, HK0.out, HK1.out, by rw [Nat.mul_zero, List.drop_zero], HKB.out⟩
      case round =>
        obtain ⟨b, st, rfl, hb, hN0, hK0, hf, hB⟩ := hrel
        have HK := hid hK0
        have HB := hid hB
        clear hK0 hB
        by_cases hbl : 64 * b < T.length
        · obtain ⟨p, hp⟩ : ∃ p, 64 * b = p := ⟨_, rfl⟩
          have hb1 : 64 * (b + 1) = p + 64 := by omega
          rw [hp] at hb hbl hf
          have hmod := Hpm.out
          have hle : p + 64 ≤ T.length := by omega
          have hTb := HTb.out
          have hlt : (p : Int) < (T.length : Int) := by omega
          have n1 : IntKind.i64.wrap ((p : Int) + 64) = ((p + 64 : Nat) : Int) := by rw [IntWalk.i64_in _ (by omega)]; omega
          have n2 : ((p + 64 : Nat) : Int) ≤ (T.length : Int) := by omega
          have n3 : (p : Int) ≤ ((p + 64 : Nat) : Int) := by omega
          have e1 : (S T).extract p (p + 64) = S ((T.drop p).take 64) := by rw [S_extract, show p + 64 - p = 64 from by omega]
          have hcl : ((T.drop p).take 64).length = 64 := by rw [List.length_take, List.length_drop]; omega
          have hnf : feed (mixB st ((T.drop p).take 64)) (T.drop (p + 64)) = feed .start T := by
            rw [← hf, feed_long st (T.drop p) (by rw [List.length_drop]; omega), List.drop_drop]
          have hfw := refwords_any ((T.drop p).take 64) hcl
          have hmx : mixB st ((T.drop p).take 64) = st.add (rounds (wordsTo ((T.drop p).take 64) 64) st 64) := rfl
          generalize hch : (T.drop p).take 64 = ch at *
          rw [hp]
          obtain ⟨a, b', c, d, e, f, g, h⟩ := st
          have c0 : wr.cell? ⟨N, 0, none⟩ = some (WI a) := cell_of_block hN0 0
          have c1 : wr.cell? ⟨N, 1, none⟩ = some (WI b') := cell_of_block hN0 1
          have c2 : wr.cell? ⟨N, 2, none⟩ = some (WI c) := cell_of_block hN0 2
          have c3 : wr.cell? ⟨N, 3, none⟩ = some (WI d) := cell_of_block hN0 3
          have c4 : wr.cell? ⟨N, 4, none⟩ = some (WI e) := cell_of_block hN0 4
          have c5 : wr.cell? ⟨N, 5, none⟩ = some (WI f) := cell_of_block hN0 5
          have c6 : wr.cell? ⟨N, 6, none⟩ = some (WI g) := cell_of_block hN0 6
          have c7 : wr.cell? ⟨N, 7, none⟩ = some (WI h) := cell_of_block hN0 7
          have HN0 := hid hN0
          have Hfw := hid hfw
          have Hnf := hid hnf
          have Hmx := hid hmx
          have Hb1 := hid hb1
          have Hle := hid hle
          clear hN0 hfw hnf hmx hb1 hle hf hb hp hmod hcl hTb hch
          go_upto_region 11 with (go_at_call 29; refine (Hfw.out _).mono ?_; rintro e2 w5 ⟨v, rfl, hO, hB5⟩; obtain ⟨gg, cp, rfl, hgb, hgl⟩ := hO.form (by omega); have HO := hid hO; have HB5 := hid hB5; clear hO hB5)
          have hNw : N < wr.heap.size := lt_of_block HN0.out
          have hKw : K < wr.heap.size := lt_of_block HK.out
          have c0 : w5.cell? ⟨N, 0, none⟩ = some (WI a) := (World.cell?_of_block (a := ⟨N, 0, none⟩) (HB5.out.block N hNw)).trans c0
          have c1 : w5.cell? ⟨N, 1, none⟩ = some (WI b') := (World.cell?_of_block (a := ⟨N, 1, none⟩) (HB5.out.block N hNw)).trans c1
          have c2 : w5.cell? ⟨N, 2, none⟩ = some (WI c) := (World.cell?_of_block (a := ⟨N, 2, none⟩) (HB5.out.block N hNw)).trans c2
          have c3 : w5.cell? ⟨N, 3, none⟩ = some (WI d) := (World.cell?_of_block (a := ⟨N, 3, none⟩) (HB5.out.block N hNw)).trans c3
          have c4 : w5.cell? ⟨N, 4, none⟩ = some (WI e) := (World.cell?_of_block (a := ⟨N, 4, none⟩) (HB5.out.block N hNw)).trans c4
          have c5 : w5.cell? ⟨N, 5, none⟩ = some (WI f) := (World.cell?_of_block (a := ⟨N, 5, none⟩) (HB5.out.block N hNw)).trans c5
          have c6 : w5.cell? ⟨N, 6, none⟩ = some (WI g) := (World.cell?_of_block (a := ⟨N, 6, none⟩) (HB5.out.block N hNw)).trans c6
          have c7 : w5.cell? ⟨N, 7, none⟩ = some (WI h) := (World.cell?_of_block (a := ⟨N, 7, none⟩) (HB5.out.block N hNw)).trans c7
          clear n1 n2 n3 e1 hlt hbl
          go_still (by kernel_rfl)
          have hd : ({ heap := w5.heap, tape := w5.tape, drawn := w5.drawn + 1, os := w5.os, output := w5.output } : World) = w5.drew := rfl
          rw [hd]
          clear hd c0 c1 c2 c3 c4 c5 c6 c7
          have HN5 : Hid (w5.drew.heap[N]? = some (.cells (S8.ints ⟨a, b', c, d, e, f, g, h⟩) 3 (0, 0))) := hid ((HB5.out.block N hNw).trans HN0.out)
          have HK5 : Hid (w5.drew.heap[K]? = some (.cells numCells 3 (0, 0))) := hid ((HB5.out.block K hKw).trans HK.out)
          have HO : Hid (w5.drew.ownsRow wr.heap.size 3 1 (.slice (some ⟨gg, 0, none⟩) 64 cp) 64 (wordVals ch 64)) := HO
          have HB6 : Hid (Below N w w5.drew) := hid (HB.out.trans (HB5.out.drew.mono (by omega)))
          have hgl : gg < w5.drew.heap.size := hgl
          have hNd : N < w5.drew.heap.size := by have := HB5.out.size; show N < w5.heap.size; omega
          have hKd : K < w5.drew.heap.size := by have := HB5.out.size; show K < w5.heap.size; omega
          have hgN : N ≠ gg := by omega
          generalize w5.drew = w6 at *
          obtain ⟨st, hst⟩ : ∃ st : S8, (⟨a, b', c, d, e, f, g, h⟩ : S8) = st := ⟨_, rfl⟩
          have Ha : Hid (WI a = WI st.a ∧ WI b' = WI st.b ∧ WI c = WI st.c ∧ WI d = WI st.d ∧ WI e = WI st.e ∧ WI f = WI st.f ∧ WI g = WI st.g ∧ WI h = WI st.h) := hid (by rw [← hst]; exact ⟨rfl, rfl, rfl, rfl, rfl, rfl, rfl, rfl⟩)
          rw [hst] at HN5 Hnf Hmx
          clear hst HN0 HK HB HB5
          go_upto_region 13 with fail
          go_loopw [8, 9, 10, 11, 12, 13, 14, 15, 16] (fun s0 s1 s2 s3 s4 s5 s6 s7 i w' => ∃ (n : Nat) (r : S8), n ≤ 64 ∧ i = .int .i64 n ∧ r = rounds (wordsTo ch 64) st n ∧ s0 = WI r.a ∧ s1 = WI r.b ∧ s2 = WI r.c ∧ s3 = WI r.d ∧ s4 = WI r.e ∧ s5 = WI r.f ∧ s6 = WI r.g ∧ s7 = WI r.h ∧ Below w6.heap.size w6 w') (fun _ _ _ _ _ _ _ _ i _ => (64 - intOf i).toNat)
          case atStart => exact ⟨0, st, by omega, rfl, rfl, Ha.out.1, Ha.out.2.1, Ha.out.2.2.1, Ha.out.2.2.2.1, Ha.out.2.2.2.2.1, Ha.out.2.2.2.2.2.1, Ha.out.2.2.2.2.2.2.1, Ha.out.2.2.2.2.2.2.2, Below.refl _ _⟩
          case round =>
            obtain ⟨n, r, hn, rfl, hr, rfl, rfl, rfl, rfl, rfl, rfl, rfl, rfl, hBr⟩ := hrel
            by_cases hn64 : n < 64
            · have hlt1 : (n : Int) < 64 := by omega
              have hr2 : rounds (wordsTo ch 64) st (n + 1) = round r (Kr n) ((wordsTo ch 64).getD n 0) := by rw [hr]; rfl
              have ck : wr.cell? ⟨K, n, none⟩ = some (WI (Kr n)) := (World.cell?_of_block (a := ⟨K, n, none⟩) (hBr.block K hKd)).trans ((cell_of_block HK5.out n).trans (numCells_get n hn64))
              have cw : wr.cell? ⟨gg, n, none⟩ = some (WI ((wordsTo ch 64).getD n 0)) := (World.cell?_of_block (a := ⟨gg, n, none⟩) (hBr.block gg hgl)).trans ((HO.out.cellAt n (by omega)).trans (wordVals_get ch 64 n hn64))
              generalize (wordsTo ch 64).getD n 0 = wn at *
              generalize Kr n = kn at *
              obtain ⟨a, b', c, d, e, f, g, h⟩ := r
              have hk := kn.isLt
              have hw := wn.isLt
              have hh := h.isLt
              have hdd := d.isLt
              have q1 : IntKind.i64.wrap (4294967295 - (e.toNat : Int)) = ((~~~ e).toNat : Int) := by rw [← not_I]; have := e.isLt; exact IntWalk.i64_in _ (by omega)
              have q2 := and_I e f
              have q3 := and_I (~~~ e) g
              have q4 : IntKind.i64.wrap (((e &&& f).toNat : Int) + ((~~~ e &&& g).toNat : Int)) = ((e &&& f ^^^ ~~~ e &&& g).toNat : Int) := by
                rw [← choice_eq, ← Int.natCast_add]; exact wrap_small _ (by rw [choice_eq]; have := (e &&& f ^^^ ~~~ e &&& g).isLt; omega)
              have q5 := and_I a b'
              have q6 := and_I a c
              have q7 := or_I (a &&& b') (a &&& c)
              have q8 := and_I b' c
              have q9 := or_I (a &&& b' ||| a &&& c) (b' &&& c)
              rw [most_eq] at q9
              obtain ⟨cho, hcho⟩ : ∃ x, e &&& f ^^^ ~~~ e &&& g = x := ⟨_, rfl⟩
              obtain ⟨mos, hmos⟩ : ∃ x, a &&& b' ^^^ a &&& c ^^^ b' &&& c = x := ⟨_, rfl⟩
              rw [hcho] at q4
              rw [hmos] at q9
              have Hcho := hid hcho
              have Hmos := hid hmos
              clear hcho hmos
              generalize a &&& b' ||| a &&& c = o1 at q7 q9
              generalize e &&& f = ef at q2 q4
              generalize ~~~ e &&& g = eg at q3 q4
              generalize ~~~ e = ne at q1 q3
              generalize a &&& b' = ab at q5 q7
              generalize a &&& c = ac at q6 q7
              generalize b' &&& c = bc at q8 q9
              have Hr2 := hid hr2
              have HBr := hid hBr
              clear hr2 hBr hr
              go_upto_region 17 with fail
              clear q1 q2 q3 q4 q5 q6 q7 q8 q9
              obtain ⟨sg, hsg⟩ : ∃ x, rotr e 6 ^^^ rotr e 11 ^^^ rotr e 25 = x := ⟨_, rfl⟩
              have hc2 := cho.isLt
              have hs2 := sg.isLt
              have x1 := xor_I (rotr e 6) (rotr e 11)
              have x2 := xor_I (rotr e 6 ^^^ rotr e 11) (rotr e 25)
              rw [hsg] at x2
              generalize rotr e 6 ^^^ rotr e 11 = s1 at x1 x2
              have y1 : IntKind.i64.wrap ((h.toNat : Int) + (sg.toNat : Int)) = ((h.toNat + sg.toNat : Nat) : Int) := by rw [← Int.natCast_add]; exact wrap_small _ (by omega)
              have y2 : IntKind.i64.wrap (((h.toNat + sg.toNat : Nat) : Int) + (cho.toNat : Int)) = ((h.toNat + sg.toNat + cho.toNat : Nat) : Int) := by rw [← Int.natCast_add]; exact wrap_small _ (by omega)
              have y3 : IntKind.i64.wrap (((h.toNat + sg.toNat + cho.toNat : Nat) : Int) + (kn.toNat : Int)) = ((h.toNat + sg.toNat + cho.toNat + kn.toNat : Nat) : Int) := by rw [← Int.natCast_add]; exact wrap_small _ (by omega)
              have y4 : IntKind.i64.wrap (((h.toNat + sg.toNat + cho.toNat + kn.toNat : Nat) : Int) + (wn.toNat : Int)) = ((h.toNat + sg.toNat + cho.toNat + kn.toNat + wn.toNat : Nat) : Int) := by rw [← Int.natCast_add]; exact wrap_small _ (by omega)
              have hwd := refword_any (h.toNat + sg.toNat + cho.toNat + kn.toNat + wn.toNat)
              have hT : BitVec.ofNat 32 (h.toNat + sg.toNat + cho.toNat + kn.toNat + wn.toNat) = tOf ⟨a, b', c, d, e, f, g, h⟩ kn wn := by
                show _ = h + kn + wn + (rotr e 6 ^^^ rotr e 11 ^^^ rotr e 25) + (e &&& f ^^^ ~~~ e &&& g)
                rw [hsg, Hcho.out]; apply BitVec.eq_of_toNat_eq; simp only [BitVec.toNat_ofNat, BitVec.toNat_add]; omega
              rw [hT] at hwd
              generalize h.toNat + sg.toNat + cho.toNat + kn.toNat + wn.toNat = z4 at *
              generalize h.toNat + sg.toNat + cho.toNat + kn.toNat = z3 at *
              generalize h.toNat + sg.toNat + cho.toNat = z2 at *
              generalize h.toNat + sg.toNat = z1 at *
              obtain ⟨t, ht⟩ : ∃ t, tOf ⟨a, b', c, d, e, f, g, h⟩ kn wn = t := ⟨_, rfl⟩
              rw [ht] at hwd
              have Ht := hid ht
              have Hwd := hid hwd
              clear ht hwd hT hk hw hh hc2 hs2 hsg
              refine wp_region_held_drew (S := fun w' => w'.cell? ⟨K, n, none⟩ = some (WI kn) ∧ w'.cell? ⟨gg, n, none⟩ = some (WI wn)) (by kernel_rfl) ⟨ck, cw⟩ (fun hHeld => ?_)
              refine take_held (i := 0) (v := ?_) rfl (by kernel_rfl) (by kernel_rfl) (by kernel_rfl) (fun _ _ _ h => h) (Or.inl ⟨by rfl, ?_⟩) (by assumption) ?_
              rotate_left
              · (intro w hSw; (try dsimp only at hSw); go_simp; try (with_reducible rfl))
              try simp only [Act.put, List.setIfInBounds_toArray, List.set_cons_zero, List.set_cons_succ]
              refine take_held (i := 1) (v := ?_) rfl (by kernel_rfl) (by kernel_rfl) (by kernel_rfl) (fun _ _ _ h => h) (Or.inl ⟨by rfl, ?_⟩) (by assumption) ?_
              rotate_left
              · (intro w hSw; (try dsimp only at hSw); go_simp; try (with_reducible rfl))
              try simp only [Act.put, List.setIfInBounds_toArray, List.set_cons_zero, List.set_cons_succ]
              refine take_held (i := 3) (v := ?_) rfl (by kernel_rfl) (by kernel_rfl) (by kernel_rfl) (fun _ _ _ h => h) (Or.inl ⟨by rfl, ?_⟩) (by assumption) ?_
              rotate_left
              · (intro w hSw; (try dsimp only at hSw); go_simp; try (with_reducible rfl))
              try simp only [Act.put, List.setIfInBounds_toArray, List.set_cons_zero, List.set_cons_succ]
              refine take_held (i := 6) (v := ?_) rfl (by kernel_rfl) (by kernel_rfl) (by kernel_rfl) (fun _ _ _ h => h) (Or.inl ⟨by rfl, ?_⟩) (by assumption) ?_
              rotate_left
              · (intro w hSw; (try dsimp only at hSw); go_simp; try (with_reducible rfl))
              try simp only [Act.put, List.setIfInBounds_toArray, List.set_cons_zero, List.set_cons_succ]
              refine take_held (i := 10) (v := ?_) rfl (by kernel_rfl) (by kernel_rfl) (by kernel_rfl) (fun _ _ _ h => h) (Or.inl ⟨by rfl, ?_⟩) (by assumption) ?_
              rotate_left
              · (intro w hSw; (try dsimp only at hSw); go_simp; try (with_reducible rfl))
              try simp only [Act.put, List.setIfInBounds_toArray, List.set_cons_zero, List.set_cons_succ]
              refine take_held (i := 12) (v := ?_) rfl (by kernel_rfl) (by kernel_rfl) (by kernel_rfl) (fun _ _ _ h => h) (Or.inl ⟨by rfl, ?_⟩) (by assumption) ?_
              rotate_left
              · (intro w hSw; (try dsimp only at hSw); go_simp; try (with_reducible rfl))
              try simp only [Act.put, List.setIfInBounds_toArray, List.set_cons_zero, List.set_cons_succ]
              refine take_held (i := 13) (v := ?_) rfl (by kernel_rfl) (by kernel_rfl) (by kernel_rfl) (fun _ _ _ h => h) (Or.inl ⟨by rfl, ?_⟩) (by assumption) ?_
              rotate_left
              · (intro w hSw; (try dsimp only at hSw); go_simp; try (with_reducible rfl))
              try simp only [Act.put, List.setIfInBounds_toArray, List.set_cons_zero, List.set_cons_succ]
              refine take_held (i := 14) (v := ?_) rfl (by kernel_rfl) (by kernel_rfl) (by kernel_rfl) (fun _ _ _ h => h) (Or.inl ⟨by rfl, ?_⟩) (by assumption) ?_
              rotate_left
              · (intro w hSw; (try dsimp only at hSw); go_simp; try (with_reducible rfl))
              try simp only [Act.put, List.setIfInBounds_toArray, List.set_cons_zero, List.set_cons_succ]
              refine take_held (i := 15) (v := ?_) rfl (by kernel_rfl) (by kernel_rfl) (by kernel_rfl) (fun _ _ _ h => h) (Or.inl ⟨by rfl, ?_⟩) (by assumption) ?_
              rotate_left
              · (intro w hSw; (try dsimp only at hSw); go_simp; try (with_reducible rfl))
              try simp only [Act.put, List.setIfInBounds_toArray, List.set_cons_zero, List.set_cons_succ]
              refine take_held (i := 17) (v := ?_) rfl (by kernel_rfl) (by kernel_rfl) (by kernel_rfl) (fun _ _ _ h => h) (Or.inl ⟨by rfl, ?_⟩) (by assumption) ?_
              rotate_left
              · (intro w hSw; (try dsimp only at hSw); go_simp; try (with_reducible rfl))
              try simp only [Act.put, List.setIfInBounds_toArray, List.set_cons_zero, List.set_cons_succ]
              refine take_held (i := 18) (v := ?_) rfl (by kernel_rfl) (by kernel_rfl) (by kernel_rfl) (fun _ _ _ h => h) (Or.inl ⟨by rfl, ?_⟩) (by assumption) ?_
              rotate_left
              · (intro w hSw; (try dsimp only at hSw); go_simp; try (with_reducible rfl))
              try simp only [Act.put, List.setIfInBounds_toArray, List.set_cons_zero, List.set_cons_succ]
              refine take_held (i := 19) (v := ?_) rfl (by kernel_rfl) (by kernel_rfl) (by kernel_rfl) (fun _ _ _ h => h) (Or.inl ⟨by rfl, ?_⟩) (by assumption) ?_
              rotate_left
              · (intro w hSw; (try dsimp only at hSw); go_simp; try (with_reducible rfl))
              try simp only [Act.put, List.setIfInBounds_toArray, List.set_cons_zero, List.set_cons_succ]
              refine take_held (i := 20) (v := ?_) rfl (by kernel_rfl) (by kernel_rfl) (by kernel_rfl) (fun _ _ _ h => h) (Or.inl ⟨by rfl, ?_⟩) (by assumption) ?_
              rotate_left
              · (intro w hSw; (try dsimp only at hSw); go_simp; try (with_reducible rfl))
              try simp only [Act.put, List.setIfInBounds_toArray, List.set_cons_zero, List.set_cons_succ]
              refine wpAnyH_ready (rs := [2]) (by kernel_rfl) (by simp) ?_
              refine cons_held rfl (fun K hK => ?_) AllReadyH.nil
              go_simp
              refine (turn_any e 6 (by decide) (by decide) _ rfl _).mono ?_
              rintro e9 w9 ⟨rfl, rfl⟩
              refine hK.out _ _ ?_ (fun hHeld => ?_)
              · exact hHeld
              clear hK K
              try simp only [Act.put, List.setIfInBounds_toArray, List.set_cons_zero, List.set_cons_succ]
              refine wpAnyH_ready (rs := [4]) (by kernel_rfl) (by simp) ?_
              refine cons_held rfl (fun K hK => ?_) AllReadyH.nil
              go_simp
              refine (turn_any e 11 (by decide) (by decide) _ rfl _).mono ?_
              rintro e9 w9 ⟨rfl, rfl⟩
              refine hK.out _ _ ?_ (fun hHeld => ?_)
              · exact hHeld
              clear hK K
              try simp only [Act.put, List.setIfInBounds_toArray, List.set_cons_zero, List.set_cons_succ]
              refine take_held (i := 5) (v := ?_) rfl (by kernel_rfl) (by kernel_rfl) (by kernel_rfl) (fun _ _ _ h => h) (Or.inl ⟨by rfl, ?_⟩) (by assumption) ?_
              rotate_left
              · (intro w hSw; (try dsimp only at hSw); go_simp; try (with_reducible rfl))
              try simp only [Act.put, List.setIfInBounds_toArray, List.set_cons_zero, List.set_cons_succ]
              refine wpAnyH_ready (rs := [7]) (by kernel_rfl) (by simp) ?_
              refine cons_held rfl (fun K hK => ?_) AllReadyH.nil
              go_simp
              refine (turn_any e 25 (by decide) (by decide) _ rfl _).mono ?_
              rintro e9 w9 ⟨rfl, rfl⟩
              refine hK.out _ _ ?_ (fun hHeld => ?_)
              · exact hHeld
              clear hK K
              try simp only [Act.put, List.setIfInBounds_toArray, List.set_cons_zero, List.set_cons_succ]
              refine take_held (i := 8) (v := ?_) rfl (by kernel_rfl) (by kernel_rfl) (by kernel_rfl) (fun _ _ _ h => h) (Or.inl ⟨by rfl, ?_⟩) (by assumption) ?_
              rotate_left
              · (intro w hSw; (try dsimp only at hSw); go_simp; try (with_reducible rfl))
              try simp only [Act.put, List.setIfInBounds_toArray, List.set_cons_zero, List.set_cons_succ]
              refine take_held (i := 9) (v := ?_) rfl (by kernel_rfl) (by kernel_rfl) (by kernel_rfl) (fun _ _ _ h => h) (Or.inl ⟨by rfl, ?_⟩) (by assumption) ?_
              rotate_left
              · (intro w hSw; (try dsimp only at hSw); go_simp; try (with_reducible rfl))
              try simp only [Act.put, List.setIfInBounds_toArray, List.set_cons_zero, List.set_cons_succ]
              refine take_held (i := 11) (v := ?_) rfl (by kernel_rfl) (by kernel_rfl) (by kernel_rfl) (fun _ _ _ h => h) (Or.inl ⟨by rfl, ?_⟩) (by assumption) ?_
              rotate_left
              · (intro w hSw; (try dsimp only at hSw); go_simp; try (with_reducible rfl))
              try simp only [Act.put, List.setIfInBounds_toArray, List.set_cons_zero, List.set_cons_succ]
              refine take_held (i := 16) (v := ?_) rfl (by kernel_rfl) (by kernel_rfl) (by kernel_rfl) (fun _ _ _ h => h) (Or.inl ⟨by rfl, ?_⟩) (by assumption) ?_
              rotate_left
              · (intro w hSw; (try dsimp only at hSw); go_simp; try (with_reducible rfl))
              try simp only [Act.put, List.setIfInBounds_toArray, List.set_cons_zero, List.set_cons_succ]
              refine take_held (i := 21) (v := ?_) rfl (by kernel_rfl) (by kernel_rfl) (by kernel_rfl) (fun _ _ _ h => h) (Or.inl ⟨by rfl, ?_⟩) (by assumption) ?_
              rotate_left
              · (intro w hSw; (try dsimp only at hSw); go_simp; try (with_reducible rfl))
              try simp only [Act.put, List.setIfInBounds_toArray, List.set_cons_zero, List.set_cons_succ]
              refine wpAnyH_ready (rs := [22]) (by kernel_rfl) (by simp) ?_
              refine cons_held rfl (fun K hK => ?_) AllReadyH.nil
              go_simp
              refine (Hwd.out _).mono ?_
              rintro e9 w9 ⟨rfl, rfl⟩
              refine hK.out _ _ ?_ (fun hHeld => ?_)
              · exact hHeld
              clear hK K
              try simp only [Act.put, List.setIfInBounds_toArray, List.set_cons_zero, List.set_cons_succ]
              refine take_held (i := 23) (v := ?_) rfl (by kernel_rfl) (by kernel_rfl) (by kernel_rfl) (fun _ _ _ h => h) (Or.inl ⟨by rfl, ?_⟩) (by assumption) ?_
              rotate_left
              · (intro w hSw; (try dsimp only at hSw); go_simp; try (with_reducible rfl))
              try simp only [Act.put, List.setIfInBounds_toArray, List.set_cons_zero, List.set_cons_succ]
              refine wpAnyH_done (by kernel_rfl) ?_ _
              have HBs : Hid (Below w6.heap.size w6 wr.drew.drew.drew.drew) := hid HBr.out.drew.drew.drew.drew
              generalize wr.drew.drew.drew.drew = wx at *
              clear x1 x2 y1 y2 y3 y4 hHeld ck cw
              have hs2 := mos.isLt
              obtain ⟨sa, hsa⟩ : ∃ x, rotr a 2 ^^^ rotr a 13 ^^^ rotr a 22 = x := ⟨_, rfl⟩
              have hsl := sa.isLt
              have x1 := xor_I (rotr a 2) (rotr a 13)
              have x2 := xor_I (rotr a 2 ^^^ rotr a 13) (rotr a 22)
              rw [hsa] at x2
              generalize rotr a 2 ^^^ rotr a 13 = s2 at x1 x2
              have y1 : IntKind.i64.wrap ((sa.toNat : Int) + (mos.toNat : Int)) = ((sa.toNat + mos.toNat : Nat) : Int) := by rw [← Int.natCast_add]; exact wrap_small _ (by omega)
              have hwu := refword_any (sa.toNat + mos.toNat)
              have hU : BitVec.ofNat 32 (sa.toNat + mos.toNat) = uOf ⟨a, b', c, d, e, f, g, h⟩ := by
                show _ = (rotr a 2 ^^^ rotr a 13 ^^^ rotr a 22) + (a &&& b' ^^^ a &&& c ^^^ b' &&& c)
                rw [hsa, Hmos.out]; apply BitVec.eq_of_toNat_eq; simp only [BitVec.toNat_ofNat, BitVec.toNat_add]
              rw [hU] at hwu
              generalize sa.toNat + mos.toNat = zu at *
              obtain ⟨u, hu⟩ : ∃ u, uOf ⟨a, b', c, d, e, f, g, h⟩ = u := ⟨_, rfl⟩
              rw [hu] at hwu
              have ht := t.isLt
              have huu := u.isLt
              have y2 : IntKind.i64.wrap ((d.toNat : Int) + (t.toNat : Int)) = ((d.toNat + t.toNat : Nat) : Int) := by rw [← Int.natCast_add]; exact wrap_small _ (by omega)
              have y3 : IntKind.i64.wrap ((t.toNat : Int) + (u.toNat : Int)) = ((t.toNat + u.toNat : Nat) : Int) := by rw [← Int.natCast_add]; exact wrap_small _ (by omega)
              have hwd := refword_any (d.toNat + t.toNat)
              have hwe := refword_any (t.toNat + u.toNat)
              rw [show BitVec.ofNat 32 (d.toNat + t.toNat) = d + t from by apply BitVec.eq_of_toNat_eq; simp only [BitVec.toNat_ofNat, BitVec.toNat_add]] at hwd
              rw [show BitVec.ofNat 32 (t.toNat + u.toNat) = t + u from by apply BitVec.eq_of_toNat_eq; simp only [BitVec.toNat_ofNat, BitVec.toNat_add]] at hwe
              generalize d.toNat + t.toNat = zd at *
              generalize t.toNat + u.toNat = ze at *
              have Hwu := hid hwu
              have Hwe := hid hwe
              have Hwd2 := hid hwd
              have Hu := hid hu
              clear hwu hwe hwd hu hU hsa hs2 hsl ht huu hdd
              go_upto_region 19 with fail
              refine (turn_any a 2 (by decide) (by decide) _ rfl _).mono ?_
              rintro e9 w9 ⟨rfl, rfl⟩
              go_upto_region 19 with fail
              refine (turn_any a 13 (by decide) (by decide) _ rfl _).mono ?_
              rintro e9 w9 ⟨rfl, rfl⟩
              go_upto_region 19 with fail
              refine (turn_any a 22 (by decide) (by decide) _ rfl _).mono ?_
              rintro e9 w9 ⟨rfl, rfl⟩
              go_upto_region 19 with (refine (Hwu.out _).mono ?_; rintro e9 w9 ⟨rfl, rfl⟩)
              have HBt : Hid (Below w6.heap.size w6 wx.drew.drew.drew) := hid HBs.out.drew.drew.drew
              generalize wx.drew.drew.drew = wy at *
              clear x1 x2 y1
              go_wp2_with fail
              refine (Hwd2.out _).mono ?_
              rintro e9 w9 ⟨rfl, rfl⟩
              go_wp2_with fail
              refine (Hwe.out _).mono ?_
              rintro e9 w9 ⟨rfl, rfl⟩
              clear y2 y3
              go_wp2_with fail
              refine ⟨⟨n + 1, ⟨t + u, a, b', c, d + t, e, f, g⟩, by omega, by go_num, ?_, rfl, rfl, rfl, rfl, rfl, rfl, rfl, rfl, HBt.out⟩, ?_⟩
              · rw [Hr2.out]; unfold round; rw [Ht.out, Hu.out]
              · simp [intOf]; omega
            · have hlt1 : ¬ (n : Int) < 64 := by omega
              have hn64' : n = 64 := by omega
              rw [hn64'] at hr
              rw [← hr] at Hmx
              have hN7 := (hBr.block N hNd).trans HN5.out
              have hK7 := (hBr.block K hKd).trans HK5.out
              have hB7 : Below N w wr := HB6.out.trans (hBr.mono (by omega))
              have hsz7 := hBr.size
              have HN7 := hid hN7
              have HK7 := hid hK7
              have HB7 := hid hB7
              clear hN7 hK7 hB7 hBr hr hn64' hn hn64 HN5 HK5 HB6
              go_upto_region 21 with fail
              have h1 := heap_new wr (Obj.cells r.ints 3)
              have h2 := heap_old HN7.out (Obj.cells r.ints 3)
              have h3 := heap_old HK7.out (Obj.cells r.ints 3)
              have h4 := HB7.out.alloc (by omega) (Obj.cells r.ints 3)
              have hNR : N ≠ wr.heap.size := by omega
              change Code.wp _ _ _ _ (wr.alloc (Obj.cells r.ints 3))
              generalize wr.alloc (Obj.cells r.ints 3) = wa at *
              generalize wr.heap.size = R at *
              have H1 := hid h1
              have H2 := hid h2
              have H3 := hid h3
              have H4 := hid h4
              clear h1 h2 h3 h4 hsz7 hlt1
              go_loopw [159] (fun i w' => ∃ m : Nat, m ≤ 8 ∧ i = .int .i64 m ∧ w'.heap[N]? = some (.cells (addInts st r m) 3 (0, 0)) ∧ w'.heap[R]? = some (.cells r.ints 3 (0, 0)) ∧ w'.heap[K]? = some (.cells numCells 3 (0, 0)) ∧ Below N w w') (fun i _ => (8 - intOf i).toNat)
              case atStart => exact ⟨0, by omega, rfl, H2.out, H1.out, H3.out, H4.out⟩
              case round =>
                obtain ⟨m, hm, rfl, h1, h2, h3, hB⟩ := hrel
                have H3 := hid h3
                have HB := hid hB
                clear h3 hB
                by_cases hm8 : m < 8
                · have hlt2 : (m : Int) < 8 := by omega
                  have c1 : wr.cell? ⟨R, m, none⟩ = some (WI (r.get m)) := (cell_of_block h2 m).trans (S8.ints_get r m hm8)
                  have c2 : wr.cell? ⟨N, m, none⟩ = some (WI (st.get m)) := (cell_of_block h1 m).trans (addInts_get st r m hm8)
                  have f2 : wr.frozen? ⟨N, m, none⟩ = false := free_of_block h1 m
                  have hset := addInts_step st r m hm8
                  generalize r.get m = y at *
                  generalize st.get m = x at *
                  have hx := x.isLt
                  have hy := y.isLt
                  have y1 : IntKind.i64.wrap ((x.toNat : Int) + (y.toNat : Int)) = ((x.toNat + y.toNat : Nat) : Int) := by rw [← Int.natCast_add]; exact wrap_small _ (by omega)
                  have hwd := refword_any (x.toNat + y.toNat)
                  rw [show BitVec.ofNat 32 (x.toNat + y.toNat) = x + y from by apply BitVec.eq_of_toNat_eq; simp only [BitVec.toNat_ofNat, BitVec.toNat_add]] at hwd
                  generalize x.toNat + y.toNat = z1 at *
                  generalize x + y = xy at *
                  have Hwd := hid hwd
                  have Hset := hid hset
                  have H1 := hid h1
                  have H2 := hid h2
                  clear hwd hset h1 h2 hx hy
                  go_wp2_with fail
                  refine (Hwd.out _).mono ?_
                  rintro e9 w9 ⟨rfl, rfl⟩
                  go_wp2_with fail
                  refine ⟨⟨m + 1, by omega, by go_num, by rw [← Hset.out]; exact heap_set_same H1.out _, heap_set_other H2.out (by show R ≠ N; omega) _, heap_set_other H3.out (by show K ≠ N; omega) _, HB.out.setCell (Nat.le_refl _) _⟩, ?_⟩
                  simp [intOf]; omega
                · have hlt2 : ¬ (m : Int) < 8 := by omega
                  have hm88 : m = 8 := by omega
                  rw [hm88, addInts_all, ← Hmx.out] at h1
                  have H1 := hid h1
                  clear h1 h2 hm88
                  have n1 : IntKind.i64.wrap ((p : Int) + 64) = ((p + 64 : Nat) : Int) := by have := Hle.out; have := HTb.out; rw [IntWalk.i64_in _ (by omega)]; omega
                  go_wp2_with fail
                  refine ⟨⟨b + 1, mixB st ch, by rw [Hb1.out]; go_num, by rw [Hb1.out]; exact Hle.out, H1.out, H3.out, by rw [Hb1.out]; exact Hnf.out, HB.out⟩, ?_⟩
                  have := Hle.out
                  simp [intOf]; omega
        · have hlt : ¬ ((64 * b : Nat) : Int) < (T.length : Int) := by omega
          have hbT : 64 * b = T.length := by omega
          rw [hbT, List.drop_length, feed_short st [] (by decide)] at hf
          have hst : shaOf M = st.bytes := by rw [Hfd.out, ← hf]
          have Hst := hid hst
          have HN0 := hid hN0
          clear hf hst hN0 hbT hbl hb
          go_upto_region 27 with fail
          go_loopw [23, 177] (fun t i w' => ∃ m : Nat, m ≤ 8 ∧ i = .int .i64 m ∧ t = .string (S (outTo st m)) ∧ w'.heap[N]? = some (.cells st.ints 3 (0, 0)) ∧ Below N w w') (fun _ i _ => (8 - intOf i).toNat)
          case atStart => exact ⟨0, by omega, rfl, rfl, HN0.out, HB.out⟩
          case round =>
            obtain ⟨m, hm, rfl, rfl, h1, hB⟩ := hrel
            have HB := hid hB
            have hNl := lt_of_block h1
            clear hB
            by_cases hm8 : m < 8
            · have hlt2 : (m : Int) < 8 := by omega
              have c1 : wr.cell? ⟨N, m, none⟩ = some (WI (st.get m)) := (cell_of_block h1 m).trans (S8.ints_get st m hm8)
              have hnx := outTo_succ st m hm8
              have hrb := refbytes_any (st.get m).toNat 4 (by decide)
              have hs1 := S_size (outTo st m)
              have hl1 : (outTo st m).length ≤ 32 := by unfold outTo; rw [List.length_take, S8.bytes_length]; omega
              have hs2 := S_size (beB (st.get m).toNat 4)
              rw [beB_length] at hs2
              have hcat : S (outTo st m) ++ S (beB (st.get m).toNat 4) = S (outTo st (m + 1)) := by rw [S_append, hnx]
              generalize st.get m = x at *
              generalize beB x.toNat 4 = bx at *
              generalize ho1 : outTo st (m + 1) = o1 at *
              generalize outTo st m = o0 at *
              generalize o0.length = l0 at *
              have hlim : ¬ 9223372036854775807 < l0 + 4 := by omega
              have Hrb := hid hrb
              have Ho1 := hid ho1
              have H1 := hid h1
              clear hrb ho1 h1 hnx hl1
              go_wp2_with fail
              refine (Hrb.out _).mono ?_
              rintro e9 w9 ⟨rfl, hB9⟩
              have HB9 := hid hB9
              clear hB9
              go_wp2_with fail
              refine ⟨⟨m + 1, by omega, by go_num, by rw [Ho1.out], (HB9.out.block N hNl).trans H1.out, HB.out.trans (HB9.out.mono (by omega))⟩, ?_⟩
              simp [intOf]; omega
            · have hlt2 : ¬ (m : Int) < 8 := by omega
              have hm88 : m = 8 := by omega
              have hout : outTo st m = shaOf M := by rw [hm88, outTo_all, Hst.out]
              rw [hout]
              clear hout hm88 h1
              go_wp2_with fail
              go_ret
              exact ⟨rfl, HB.out⟩
end Go.Proofs.YtmdcalkfapcafaaDoor
