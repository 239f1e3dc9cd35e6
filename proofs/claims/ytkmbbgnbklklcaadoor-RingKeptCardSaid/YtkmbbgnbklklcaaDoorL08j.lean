/-
  Law 08: RingKept: a journal, its disk, two rows.
-/
import Derived.Test.YtkmbbgnbklklcaaDoorL08h
import Derived.Test.YtkmbbgnbklklcaaDoorRingQ
namespace Go.Proofs.YtkmbbgnbklklcaaDoor
open Go.RowKit

/-- A journal of twenty sectors from the second on, its disk, two rows of texts. -/
structure Trio (W w : World) (B r b g : Nat) (D : Dsk) (ep sq : Nat) (v1 v2 : Value) (R1 R2 : List (List UInt8)) : Prop where
  duo : Duo W w B b g D v1 v2 R1 R2
  hR : RingAt w r b 2 20 ep sq
  hr : W.heap.size ≤ r
section
variable {W w w' : World} {B r b g : Nat} {D D' : Dsk} {ep sq sq' : Nat} {v1 v2 : Value} {R1 R2 : List (List UInt8)}
theorem Trio.jour (h : Trio W w B r b g D ep sq v1 v2 R1 R2) : Jour w B r b g D 2 20 ep sq := ⟨h.hR, h.duo.hD, h.duo.hg⟩
theorem Trio.below (h : Trio W w B r b g D ep sq v1 v2 R1 R2) (hB : Below w.heap.size w w') : Trio W w' B r b g D ep sq v1 v2 R1 R2 := ⟨h.duo.below hB, h.hR.below hB, h.hr⟩
theorem Trio.far (h : Trio W w B r b g D ep sq v1 v2 R1 R2) {base n : Nat} {v : Value} {xs : List Value} (ho : w.ownsRow base 9 1 v n xs) : v.ownBlock ≠ some r ∧ v.ownBlock ≠ some b ∧ v.ownBlock ≠ some g :=
  ⟨own_ne ho h.hR (by decide), (disk_far h.duo.hD h.duo.hn ho).1, (disk_far h.duo.hD h.duo.hn ho).2⟩
theorem Trio.after (h : Trio W w B r b g D ep sq v1 v2 R1 R2) (hJ : Jour w' B r b g D' 2 20 ep sq') (hF : Fr (rfoot r b g) w w') (hn : 0 < D'.n) : Trio W w' B r b g D' ep sq' v1 v2 R1 R2 := by
  have hb := h.duo.hD.hb
  have hg := h.duo.hD.hg
  have hr := h.hr
  have hBb := h.duo.hBb
  refine ⟨⟨hJ.hD, hJ.hg, hn, hF.own h.duo.h1 (fun k hk hx => ?_), hF.own h.duo.h2 (fun k hk hx => ?_), h.duo.hd, h.duo.hB.trans (hF.below h.duo.hB.size (fun k hk hx => by unfold rfoot at hx; omega)), h.duo.hBb⟩, hJ.hR, h.hr⟩
  · obtain ⟨a1, a2, a3⟩ := h.far h.duo.h1
    rcases hx with rfl | rfl | rfl
    · exact a1 hk.symm
    · exact a2 hk.symm
    · exact a3 hk.symm
  · obtain ⟨a1, a2, a3⟩ := h.far h.duo.h2
    rcases hx with rfl | rfl | rfl
    · exact a1 hk.symm
    · exact a2 hk.symm
    · exact a3 hk.symm
theorem Trio.disk (h : Trio W w B r b g D ep sq v1 v2 R1 R2) (hE : DiskEnd w B b g D' w') (hn : 0 < D'.n) : Trio W w' B r b g D' ep sq v1 v2 R1 R2 := by
  obtain ⟨n1, n2⟩ := h.hR.apart h.duo.hD
  exact ⟨h.duo.disk hE hn, h.hR.fr hE.2 (by have := n2 h.duo.hn; unfold dfoot; omega), h.hr⟩
theorem Trio.grow (h : Trio W w B r b g D ep sq v1 v2 R1 R2) {R3 : List (List UInt8)} {g5 cap5 c : Nat} (hc : R3.length = c) (hO : w'.ownsRow W.heap.size 9 1 (.slice (some ⟨g5, 0, none⟩) (R2.length + c) cap5) (R2.length + c) (txts R2 ++ txts R3)) (hG : w.grownBy w' v2.ownBlock) (hg : v2.ownBlock = some g5 ∨ g5 = w.heap.size) :
    Trio W w' B r b g D ep sq v1 (.slice (some ⟨g5, 0, none⟩) (R2.length + c) cap5) R1 (R2 ++ R3) :=
  ⟨h.duo.grow hc hO hG hg, h.hR.fr (Fr.ofGrown hG) (fun e => (h.far h.duo.h2).1 e.symm), h.hr⟩
end
/-- A disk that was synced. -/
def Dsk.sunk (D : Dsk) : Dsk := { D with sure := fun i => if i < D.n then D.now i else D.sure i }
theorem Dsk.on.sunk {D : Dsk} (h : D.on) : D.sunk.on := ⟨h.dead, h.armed⟩
theorem sync_on {B b g : Nat} {D : Dsk} (w : World) (h : DiskAt w B b g D) (hg : g < w.heap.size) (ho : D.on) :
    Calls Tryd.prog 55 #[.pointer (some ⟨b, 0, none⟩)] w fun e w' => e = .returned (.int .i64 0) ∧ DiskEnd w B b g D.sunk w' := by
  have h1 := sync_any w h hg
  unfold Dsk.syncErr Dsk.synced at h1
  have hf : D.dead = false ∧ (D.armed = true → 0 < D.left) := ho.fit
  rw [if_pos hf, if_pos hf, ho.less] at h1
  exact h1
/-- A journal of epoch ep with the records K; those of k0 are sure; elder sectors O. -/
structure KeptD (D : Dsk) (ep : Nat) (O : Nat → List UInt8) (K : List (List UInt8)) (k0 : Nat) : Prop where
  on : D.on
  n : D.n = 24
  hm : (allParts K).length ≤ 20
  hk : k0 ≤ K.length
  now : ∀ i, i < 20 → D.now (2 + i) = if h : i < (allParts K).length then frame ep (i + 1) ((allParts K)[i]) else O i
  sure : ∀ i, i < 20 → D.sure (2 + i) = O i ∨ D.sure (2 + i) = D.now (2 + i)
  first : ∀ i, i < (allParts (K.take k0)).length → D.sure (2 + i) = D.now (2 + i)
theorem allParts_take (K : List (List UInt8)) (k : Nat) : allParts K = allParts (K.take k) ++ allParts (K.drop k) := by rw [allParts, allParts, allParts, ← List.flatMap_append, List.take_append_drop]
theorem KeptD.put {D : Dsk} {ep : Nat} {O : Nat → List UInt8} {K : List (List UInt8)} {k0 : Nat} (h : KeptD D ep O K k0) (s : List UInt8) (hf : (allParts K).length + cost s.length ≤ 20) : KeptD (D.puts (2 + (allParts K).length) (frs ep (allParts K).length (parts s))) ep O (K ++ [s]) k0 := by
  have hl : (allParts (K ++ [s])).length = (allParts K).length + cost s.length := by rw [allParts_snoc, List.length_append, parts_length]
  have hpl := parts_length s
  have hnow : ∀ i, i < 20 → (D.puts (2 + (allParts K).length) (frs ep (allParts K).length (parts s))).now (2 + i) = if h : (allParts K).length ≤ i ∧ i < (allParts (K ++ [s])).length then frame ep (i + 1) ((allParts (K ++ [s]))[i]'h.2) else D.now (2 + i) := fun i hi => by
    rw [Dsk.puts_now]
    by_cases h1 : (allParts K).length ≤ i ∧ i < (allParts (K ++ [s])).length
    · rw [dif_pos h1, dif_pos ⟨by omega, by rw [frs_length]; omega⟩]
      have h2 := frs_get ep (allParts K).length (parts s) (i - (allParts K).length) (by omega)
      rw [List.getElem?_eq_getElem (by rw [frs_length]; omega)] at h2
      have h3 := Option.some.inj h2
      simp only [show 2 + i - (2 + (allParts K).length) = i - (allParts K).length from by omega]
      rw [h3, show (allParts K).length + (i - (allParts K).length) + 1 = i + 1 from by omega]
      congr 1
      simp only [allParts_snoc]
      rw [List.getElem_append_right h1.1]
    · rw [dif_neg h1, dif_neg (by rw [frs_length]; omega)]
  refine ⟨h.on.puts _ _, by rw [Dsk.puts_n]; exact h.n, by omega, by rw [List.length_append]; have := h.hk; omega, fun i hi => ?_, fun i hi => ?_, fun i hi => ?_⟩
  · rw [hnow i hi]
    by_cases h1 : i < (allParts (K ++ [s])).length
    · rw [dif_pos h1]
      by_cases h2 : (allParts K).length ≤ i
      · rw [dif_pos ⟨h2, h1⟩]
      · rw [dif_neg (fun h => h2 h.1), h.now i hi, dif_pos (by omega)]
        congr 1
        simp only [allParts_snoc]
        rw [List.getElem_append_left (by omega)]
    · rw [dif_neg h1, dif_neg (fun h => h1 h.2), h.now i hi, dif_neg (by omega)]
  · rw [Dsk.puts_sure, hnow i hi]
    by_cases h2 : (allParts K).length ≤ i ∧ i < (allParts (K ++ [s])).length
    · left
      rcases h.sure i hi with h3 | h3
      · exact h3
      · rw [h3, h.now i hi, dif_neg (by omega)]
    · rw [dif_neg h2]
      exact h.sure i hi
  · have hk := h.hk
    have hle : (allParts (K.take k0)).length ≤ (allParts K).length := by
      have := congrArg List.length (allParts_take K k0)
      rw [List.length_append] at this
      omega
    rw [List.take_append_of_le_length hk] at hi
    have hm := h.hm
    rw [Dsk.puts_sure, hnow i (by omega), dif_neg (by omega)]
    exact h.first i hi
theorem KeptD.sunk {D : Dsk} {ep : Nat} {O : Nat → List UInt8} {K : List (List UInt8)} {k0 : Nat} (h : KeptD D ep O K k0) : KeptD D.sunk ep O K K.length := by
  have hn := h.n
  have hs : ∀ i, i < 20 → D.sunk.sure (2 + i) = D.now (2 + i) := fun i hi => by
    show (if 2 + i < D.n then D.now (2 + i) else D.sure (2 + i)) = _
    rw [if_pos (by omega)]
  refine ⟨h.on.sunk, hn, h.hm, Nat.le_refl _, h.now, fun i hi => .inr (hs i hi), fun i hi => ?_⟩
  rw [List.take_length] at hi
  have := h.hm
  exact hs i (by omega)
/-- Behind a crash: the first records, those that were sure at least. -/
theorem KeptD.crash {D : Dsk} {ep : Nat} {O : Nat → List UInt8} {K : List (List UInt8)} {k0 : Nat} (h : KeptD D ep O K k0) (hodd : ep % 2 = 1) (he : ep < 4294967296) (hO : ∀ i, i < 20 → oldEnd ep i (O i)) (n : Nat) (cs : Nat → Int) :
    ∃ j, k0 ≤ j ∧ j ≤ K.length ∧ scan ep 0 (secL (D.crash n cs) 2 20) [] = K.take j := by
  have hXl : (secL (D.crash n cs) 2 20).length = 20 := by simp [secL]
  have hX : ∀ i (hi : i < (secL (D.crash n cs) 2 20).length), (secL (D.crash n cs) 2 20)[i] = (D.crash n cs).now (2 + i) := fun i hi => by simp [secL]
  have hF : ∀ i (hi : i < (allParts K).length), (frs ep 0 (allParts K))[i]? = some (frame ep (i + 1) ((allParts K)[i])) := fun i hi => by
    have h := frs_get ep 0 (allParts K) i hi
    rw [Nat.zero_add] at h
    exact h
  have hle : (allParts (K.take k0)).length ≤ (allParts K).length := by
    have := congrArg List.length (allParts_take K k0)
    rw [List.length_append] at this
    omega
  have hm := h.hm
  have same : ∀ i, i < 20 → D.sure (2 + i) = D.now (2 + i) → (D.crash n cs).now (2 + i) = D.now (2 + i) := fun i hi e => by
    obtain ⟨c, _, hc⟩ := crash_at D n cs (2 + i) (by have := h.n; omega)
    rw [hc, e, List.take_append_drop]
  refine kept_scan ep K k0 _ O hodd he (by omega) (by omega) h.hk (fun i hi => hO i (by omega)) (fun i hi h0 => ?_) (fun i hi h1 => ?_) (fun i hi h2 => ?_)
  · rw [hX i hi, same i (by omega) (h.first i h0), h.now i (by omega), dif_pos (by omega), hF i (by omega)]
  · rcases h.sure i (by omega) with h3 | h3
    · obtain ⟨c, hc, hc2⟩ := crash_at D n cs (2 + i) (by have := h.n; omega)
      refine ⟨c, .inl ⟨hc, ?_⟩⟩
      rw [hX i hi, hc2, h3, h.now i (by omega), dif_pos h1]
    · refine ⟨0, .inr ?_⟩
      rw [hX i hi, same i (by omega) h3, h.now i (by omega), dif_pos h1, hF i h1]
  · rw [hX i hi]
    have h4 : D.now (2 + i) = O i := by rw [h.now i (by omega), dif_neg (by omega)]
    rcases h.sure i (by omega) with h3 | h3
    · rw [same i (by omega) (by rw [h3, h4]), h4]
    · rw [same i (by omega) h3, h4]
/-- What an elder journal leaves. -/
theorem KeptD.start (ep : Nat) (K0 : List (List UInt8)) :
    ∃ O, KeptD ((Dsk.new 24).puts 2 (frs (ep - 1) 0 (allParts K0))).sunk ep O [] 0 ∧ ∀ i, i < 20 → oldEnd ep i (O i) := by
  refine ⟨fun i => ((Dsk.new 24).puts 2 (frs (ep - 1) 0 (allParts K0))).now (2 + i), ⟨((Dsk.on.new 24).puts _ _).sunk, by show ((Dsk.new 24).puts 2 _).n = 24; rw [Dsk.puts_n]; rfl, by simp [allParts], by simp, fun i hi => by rw [dif_neg (by simp [allParts])]; rfl, fun i hi => .inr ?_, fun i hi => by simp [allParts] at hi⟩, fun i hi => ?_⟩
  · show (if 2 + i < ((Dsk.new 24).puts 2 (frs (ep - 1) 0 (allParts K0))).n then ((Dsk.new 24).puts 2 (frs (ep - 1) 0 (allParts K0))).now (2 + i) else _) = _
    rw [if_pos (by rw [Dsk.puts_n]; show 2 + i < 24; omega)]
    rfl
  · show oldEnd ep i (((Dsk.new 24).puts 2 (frs (ep - 1) 0 (allParts K0))).now (2 + i))
    rw [Dsk.puts_now]
    by_cases h1 : i < (allParts K0).length
    · rw [dif_pos ⟨by omega, by rw [frs_length]; omega⟩]
      have h2 := frs_get (ep - 1) 0 (allParts K0) i h1
      rw [List.getElem?_eq_getElem (by rw [frs_length]; omega)] at h2
      have h3 := Option.some.inj h2
      simp only [show 2 + i - 2 = i from by omega]
      rw [h3, Nat.zero_add]
      have hfr := (frame_is (ep - 1) (i + 1) ((allParts K0)[i]) (allParts_le K0 _ (List.getElem_mem h1))).1
      exact ⟨hfr.1, .inl hfr.2.2.1⟩
    · rw [dif_neg (by rw [frs_length]; omega)]
      exact ⟨by show nul.length = 64; exact nul_length, .inr rfl⟩
end Go.Proofs.YtkmbbgnbklklcaaDoor
