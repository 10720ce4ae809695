/- The proof of FnExactRefuteClauses, part 3 of 4. Conditions: none. -/
import Derived.Test.YtfadcafacpaldaaKR28b
import Derived.Maps.Own
/- Contracts: partition, the trial of insertion and pdqsort itself, on strings. Conditions: none. -/
namespace Go.Vc
theorem part_end {L : List VL} {a b j : Nat} {pv : VL} (haj : a ≤ j) (hjb : j < b) (hb : b ≤ L.length) (he : gt L a = pv) (h1 : ∀ k, a + 1 ≤ k → k ≤ j → ltV (gt L k) pv = true) (h2 : ∀ k, j < k → k < b → ltV (gt L k) pv = false) : Parted ltV a b j (sw L j a) := by
  have e : ∀ k, gt (sw L j a) k = if k = a then gt L j else if k = j then gt L a else gt L k := gt_sw (by omega) (by omega)
  have ej : gt (sw L j a) j = pv := by
    rw [e]
    split
    · rename_i h; rw [h]; exact he
    · rw [if_pos rfl]; exact he
  refine ⟨fun k hk hk' => ?_, fun k hk hk' => ?_⟩
  · rw [ej, e]
    by_cases hka : k = a
    · rw [if_pos hka]; exact h1 j (by omega) (Nat.le_refl _)
    · rw [if_neg hka, if_neg (by omega)]; exact h1 k (by omega) (by omega)
  · rw [ej, e, if_neg (by omega), if_neg (by omega)]; exact h2 k hk hk'
end Go.Vc
namespace Go.Proofs.Ytfadcafacpaldaa
open Go.Vc
theorem ok_slices_partitionCmpFunc_Si64 {lo : Nat} {w : World} {v : Value} {L : List VL} {a b t : Nat} (hs : Ow lo t_Si64 w v (evL L)) (hrw : RowsV t_i64 w L) (hat : a ≤ t) (htb : t < b) (hb : b ≤ L.length) (hL : L.length ≤ 1152921504606846976) :
    Cal Try.prog f_slices_partitionCmpFunc_Si64 #[v, .int .i64 (a : Int), .int .i64 (b : Int), .int .i64 (t : Int), cmpV] w fun r w' => ∃ L' : List VL, ∃ m : Nat, ∃ y : Bool, r = .tuple #[.int .i64 (m : Int), .bool y] ∧ Turn lo t_Si64 encV v w w' L' ∧ SwR a b L L' ∧ a ≤ m ∧ m < b ∧ Parted ltV a b m L' := by
  apply c_slices_partitionCmpFunc_Si64; unfold S_slices_partitionCmpFunc_Si64
  refine iRdO (j := t) hs rfl (by omega) ?_
  refine iRdO (j := a) hs rfl (by omega) ?_
  refine iWr2 (i := a) (j := t) encV_cell hs rfl rfl (by omega) (by omega) fun w7 h5 => ?_
  have h5 : Turn lo t_Si64 encV v w w7 (sw L a t) := h5
  have e0 : gt (sw L a t) a = gt L t := by rw [gt_sw (by omega) (by omega)]; split <;> simp_all
  have hw0 : SwR a b L (sw L a t) := .one (Nat.le_refl _) (by omega) hat htb hb
  have hl0 := hw0.len
  generalize sw L a t = L0 at h5 e0 hw0 hl0
  (refine iAdd (by omega) ?_; refine iSub (by omega) ?_)
  obtain ⟨i0, hi0⟩ : ∃ i0, i0 = a + 1 := ⟨_, rfl⟩
  obtain ⟨j0, hj0⟩ : ∃ j0 : Int, j0 = (b : Int) - 1 := ⟨_, rfl⟩
  rw [show (a : Int) + 1 = (i0 : Int) by omega, ← hj0]
  refine iLp (fun i : Nat => [.int .i64 (i : Int)]) (fun i w' => i0 ≤ i ∧ (i : Int) ≤ j0 + 1 ∧ Ext w7 w' ∧ ∀ k, a + 1 ≤ k → k < i → ltV (gt L0 k) (gt L t) = true) (fun i => b - i) i0 rfl ⟨Nat.le_refl _, by omega, Ext.refl _, fun k h1 h2 => by omega⟩ ?_
  rintro i w9 Kn9 ⟨hi, hij, h9, hq⟩ hKn9
  intro _
  simp only [gx]
  have ht9 := h5.ext h9
  refine iJnB (decide ((i : Int) ≤ j0) && ltV (gt L0 i) (gt L0 a)) w9 (fun J hJ => ?_) (fun w11 h11 => ?_)
  · refine iLe ?_
    refine iCndP (fun h => ?_) (fun h => ?_)
    · rw [decide_eq_true h, Bool.true_and] at hJ
      refine iRdO (j := i) ht9.ow rfl (by omega) ?_
      refine iRdO (j := a) ht9.ow rfl (by omega) ?_
      exact iCm (hrw.turn hs (by decide) ht9 hw0.perm) (by omega) (by omega) hJ
    · rw [decide_eq_false h, Bool.false_and] at hJ
      exact fun _ x8 _ x9 => hJ _ (x8.trans x9)
  intro _
  simp only [gx]
  have h9' := h9.trans h11
  cases hc : decide ((i : Int) ≤ j0) && ltV (gt L0 i) (gt L0 a)
  rotate_left
  · rw [Bool.and_eq_true, decide_eq_true_eq] at hc
    refine iCndT rfl ?_
    (refine iAdd (by omega) ?_)
    refine hKn9 (i + 1) _ ⟨by omega, by omega, h9', fun k h1 h2 => ?_⟩ (by omega)
    by_cases hk : k = i
    · rw [hk, ← e0]; exact hc.2
    · exact hq k h1 (by omega)
  refine iCndF rfl ?_
  refine iLp (fun j : Int => [.int .i64 j]) (fun j w' => j ≤ j0 ∧ (i : Int) ≤ j + 1 ∧ Ext w7 w' ∧ ∀ k : Nat, j < k → k < b → ltV (gt L0 k) (gt L t) = false) (fun j => (j + 2).toNat) j0 rfl ⟨Int.le_refl _, hij, h9', fun k h1 h2 => by omega⟩ ?_
  rintro j w15 Kn15 ⟨hjj, hij2, h15, hq2⟩ hKn15
  intro _
  simp only [gx]
  have ht15 := h5.ext h15
  refine iJnB (decide ((i : Int) ≤ j) && !ltV (gt L0 j.toNat) (gt L0 a)) w15 (fun J hJ => ?_) (fun w17 h17 => ?_)
  · refine iLe ?_
    refine iCndP (fun h => ?_) (fun h => ?_)
    · rw [decide_eq_true h, Bool.true_and] at hJ
      refine iRdO (j := j.toNat) ht15.ow (by omega) (by omega) ?_
      refine iRdO (j := a) ht15.ow rfl (by omega) ?_
      exact iCmN (hrw.turn hs (by decide) ht15 hw0.perm) (by omega) (by omega) hJ
    · rw [decide_eq_false h, Bool.false_and] at hJ
      exact fun _ x8 _ x9 => hJ _ (x8.trans x9)
  intro _
  simp only [gx]
  have ht17 := ht15.ext h17
  cases hc2 : decide ((i : Int) ≤ j) && !ltV (gt L0 j.toNat) (gt L0 a)
  rotate_left
  · rw [Bool.and_eq_true, decide_eq_true_eq, Bool.not_eq_true'] at hc2
    refine iCndT rfl ?_
    refine iSub (by omega) ?_
    refine hKn15 (j - 1) _ ⟨by omega, by omega, h15.trans h17, fun k h1 h2 => ?_⟩ (by omega)
    by_cases hk : (k : Int) = j
    · rw [show k = j.toNat by omega, ← e0]; exact hc2.2
    · exact hq2 k (by omega) h2
  refine iCndF rfl ?_
  refine iLt ?_
  refine iCndP (fun h => ?_) (fun h => ?_)
  · refine iRdO (j := a) ht17.ow rfl (by omega) ?_
    refine iRdO (j := j.toNat) ht17.ow (by omega) (by omega) ?_
    refine iWr2 (i := j.toNat) (j := a) encV_cell ht17.ow (by omega) rfl (by omega) (by omega) fun w22 h22 => ?_
    exact ⟨sw L0 j.toNat a, j.toNat, true, by rw [Int.toNat_of_nonneg (by omega)], ht17.trans h22, .step hw0 (by omega) (by omega) (Nat.le_refl _) (by omega) hb, by omega, by omega, part_end (by omega) (by omega) (by omega) e0 (fun k h1 h2 => hq k h1 (by omega)) (fun k h1 h2 => hq2 k (by omega) h2)⟩
  have hlt1 : ltV (gt L0 i) (gt L t) = false := by
    rw [decide_eq_true (show (i : Int) ≤ j0 by omega), Bool.true_and, e0] at hc; exact hc
  have hlt2 : ltV (gt L0 j.toNat) (gt L t) = true := by
    rw [decide_eq_true (show (i : Int) ≤ j by omega), Bool.true_and, Bool.not_eq_false', e0] at hc2; exact hc2
  have hne : i ≠ j.toNat := fun e => by rw [e, hlt2] at hlt1; cases hlt1
  refine iRdO (j := j.toNat) ht17.ow (by omega) (by omega) ?_
  refine iRdO (j := i) ht17.ow rfl (by omega) ?_
  refine iWr2 (i := i) (j := j.toNat) encV_cell ht17.ow rfl (by omega) (by omega) (by omega) fun w24 h24 => ?_
  refine iAdd (by omega) ?_
  refine iSub (by omega) ?_
  have eS : ∀ k, gt (sw L0 i j.toNat) k = if k = j.toNat then gt L0 i else if k = i then gt L0 j.toNat else gt L0 k := gt_sw (by omega) (by omega)
  have nx1 : ∀ k, a + 1 ≤ k → k < i + 1 → ltV (gt (sw L0 i j.toNat) k) (gt L t) = true := fun k h1 h2 => by
    rw [eS, if_neg (by omega)]
    by_cases hk : k = i
    · rw [if_pos hk]; exact hlt2
    · rw [if_neg hk]; exact hq k h1 (by omega)
  have nx2 : ∀ k : Nat, j - 1 < k → k < b → ltV (gt (sw L0 i j.toNat) k) (gt L t) = false := fun k h1 h2 => by
    rw [eS]
    by_cases hk : k = j.toNat
    · rw [if_pos hk]; exact hlt1
    · rw [if_neg hk, if_neg (by omega)]; exact hq2 k (by omega) h2
  have nxe : gt (sw L0 i j.toNat) a = gt L t := by rw [eS, if_neg (by omega), if_neg (by omega)]; exact e0
  refine iLp (fun s : Nat × Int => [.int .i64 (s.1 : Int), .int .i64 s.2]) (fun s w' => a + 1 ≤ s.1 ∧ (s.1 : Int) ≤ s.2 + 1 ∧ s.2 < b ∧ ∃ L', Turn lo t_Si64 encV v w w' L' ∧ SwR a b L L' ∧ gt L' a = gt L t ∧ (∀ k, a + 1 ≤ k → k < s.1 → ltV (gt L' k) (gt L t) = true) ∧ ∀ k : Nat, s.2 < k → k < b → ltV (gt L' k) (gt L t) = false) (fun s => b - s.1) (i + 1, j - 1) rfl
    ⟨by show a + 1 ≤ i + 1; omega, by show ((i + 1 : Nat) : Int) ≤ j - 1 + 1; omega, by show j - 1 < b; omega, sw L0 i j.toNat, ht17.trans h24, .step hw0 (by omega) (by omega) (by omega) (by omega) hb, nxe, nx1, nx2⟩ ?_
  clear hKn9 hKn15 nxe nx1 nx2 eS hq hq2
  rintro ⟨i1, j1⟩ w29 Kn ⟨hi1, hij1, hjb1, L1, ht1, hw1, he1, hq1, hq21⟩ hKn
  have hi1 : a + 1 ≤ i1 := hi1
  have hij1 : (i1 : Int) ≤ j1 + 1 := hij1
  have hjb1 : j1 < b := hjb1
  have hl1 := hw1.len
  intro _
  simp only [gx]
  refine iLp (fun i : Nat => [.int .i64 (i : Int)]) (fun i w' => i1 ≤ i ∧ (i : Int) ≤ j1 + 1 ∧ Ext w29 w' ∧ ∀ k, a + 1 ≤ k → k < i → ltV (gt L1 k) (gt L t) = true) (fun i => b - i) i1 rfl ⟨Nat.le_refl _, by omega, Ext.refl _, hq1⟩ ?_
  rintro i w9 Kn9 ⟨hi, hij, h9, hq⟩ hKn9
  intro _
  simp only [gx]
  have ht9 := ht1.ext h9
  refine iJnB (decide ((i : Int) ≤ j1) && ltV (gt L1 i) (gt L1 a)) w9 (fun J hJ => ?_) (fun w11 h11 => ?_)
  · refine iLe ?_
    refine iCndP (fun h => ?_) (fun h => ?_)
    · rw [decide_eq_true h, Bool.true_and] at hJ
      refine iRdO (j := i) ht9.ow rfl (by omega) ?_
      refine iRdO (j := a) ht9.ow rfl (by omega) ?_
      exact iCm (hrw.turn hs (by decide) ht9 hw1.perm) (by omega) (by omega) hJ
    · rw [decide_eq_false h, Bool.false_and] at hJ
      exact fun _ x8 _ x9 => hJ _ (x8.trans x9)
  intro _
  simp only [gx]
  have h9' := h9.trans h11
  cases hc : decide ((i : Int) ≤ j1) && ltV (gt L1 i) (gt L1 a)
  rotate_left
  · rw [Bool.and_eq_true, decide_eq_true_eq] at hc
    refine iCndT rfl ?_
    (refine iAdd (by omega) ?_)
    refine hKn9 (i + 1) _ ⟨by omega, by omega, h9', fun k h1 h2 => ?_⟩ (by omega)
    by_cases hk : k = i
    · rw [hk, ← he1]; exact hc.2
    · exact hq k h1 (by omega)
  refine iCndF rfl ?_
  refine iLp (fun j : Int => [.int .i64 j]) (fun j w' => j ≤ j1 ∧ (i : Int) ≤ j + 1 ∧ Ext w29 w' ∧ ∀ k : Nat, j < k → k < b → ltV (gt L1 k) (gt L t) = false) (fun j => (j + 2).toNat) j1 rfl ⟨Int.le_refl _, hij, h9', hq21⟩ ?_
  rintro j w15 Kn15 ⟨hjj, hij2, h15, hq2⟩ hKn15
  intro _
  simp only [gx]
  have ht15 := ht1.ext h15
  refine iJnB (decide ((i : Int) ≤ j) && !ltV (gt L1 j.toNat) (gt L1 a)) w15 (fun J hJ => ?_) (fun w17 h17 => ?_)
  · refine iLe ?_
    refine iCndP (fun h => ?_) (fun h => ?_)
    · rw [decide_eq_true h, Bool.true_and] at hJ
      refine iRdO (j := j.toNat) ht15.ow (by omega) (by omega) ?_
      refine iRdO (j := a) ht15.ow rfl (by omega) ?_
      exact iCmN (hrw.turn hs (by decide) ht15 hw1.perm) (by omega) (by omega) hJ
    · rw [decide_eq_false h, Bool.false_and] at hJ
      exact fun _ x8 _ x9 => hJ _ (x8.trans x9)
  intro _
  simp only [gx]
  have ht17 := ht15.ext h17
  cases hc2 : decide ((i : Int) ≤ j) && !ltV (gt L1 j.toNat) (gt L1 a)
  rotate_left
  · rw [Bool.and_eq_true, decide_eq_true_eq, Bool.not_eq_true'] at hc2
    refine iCndT rfl ?_
    refine iSub (by omega) ?_
    refine hKn15 (j - 1) _ ⟨by omega, by omega, h15.trans h17, fun k h1 h2 => ?_⟩ (by omega)
    by_cases hk : (k : Int) = j
    · rw [show k = j.toNat by omega, ← he1]; exact hc2.2
    · exact hq2 k (by omega) h2
  refine iCndF rfl ?_
  refine iLt ?_
  refine iCndP (fun h => ?_) (fun h => ?_)
  · refine iRdO (j := a) ht17.ow rfl (by omega) ?_
    refine iRdO (j := j.toNat) ht17.ow (by omega) (by omega) ?_
    refine iWr2 (i := j.toNat) (j := a) encV_cell ht17.ow (by omega) rfl (by omega) (by omega) fun w22 h22 => ?_
    exact ⟨sw L1 j.toNat a, j.toNat, false, by rw [Int.toNat_of_nonneg (by omega)], ht17.trans h22, .step hw1 (by omega) (by omega) (Nat.le_refl _) (by omega) hb, by omega, by omega, part_end (by omega) (by omega) (by omega) he1 (fun k h1 h2 => hq k h1 (by omega)) (fun k h1 h2 => hq2 k (by omega) h2)⟩
  have hlt1 : ltV (gt L1 i) (gt L t) = false := by
    rw [decide_eq_true (show (i : Int) ≤ j1 by omega), Bool.true_and, he1] at hc; exact hc
  have hlt2 : ltV (gt L1 j.toNat) (gt L t) = true := by
    rw [decide_eq_true (show (i : Int) ≤ j by omega), Bool.true_and, Bool.not_eq_false', he1] at hc2; exact hc2
  have hne : i ≠ j.toNat := fun e => by rw [e, hlt2] at hlt1; cases hlt1
  refine iRdO (j := j.toNat) ht17.ow (by omega) (by omega) ?_
  refine iRdO (j := i) ht17.ow rfl (by omega) ?_
  refine iWr2 (i := i) (j := j.toNat) encV_cell ht17.ow rfl (by omega) (by omega) (by omega) fun w24 h24 => ?_
  refine iAdd (by omega) ?_
  refine iSub (by omega) ?_
  have eS : ∀ k, gt (sw L1 i j.toNat) k = if k = j.toNat then gt L1 i else if k = i then gt L1 j.toNat else gt L1 k := gt_sw (by omega) (by omega)
  have nx1 : ∀ k, a + 1 ≤ k → k < i + 1 → ltV (gt (sw L1 i j.toNat) k) (gt L t) = true := fun k h1 h2 => by
    rw [eS, if_neg (by omega)]
    by_cases hk : k = i
    · rw [if_pos hk]; exact hlt2
    · rw [if_neg hk]; exact hq k h1 (by omega)
  have nx2 : ∀ k : Nat, j - 1 < k → k < b → ltV (gt (sw L1 i j.toNat) k) (gt L t) = false := fun k h1 h2 => by
    rw [eS]
    by_cases hk : k = j.toNat
    · rw [if_pos hk]; exact hlt1
    · rw [if_neg hk, if_neg (by omega)]; exact hq2 k (by omega) h2
  have nxe : gt (sw L1 i j.toNat) a = gt L t := by rw [eS, if_neg (by omega), if_neg (by omega)]; exact he1
  exact hKn (i + 1, j - 1) _ ⟨by show a + 1 ≤ i + 1; omega, by show ((i + 1 : Nat) : Int) ≤ j - 1 + 1; omega, by show j - 1 < b; omega, sw L1 i j.toNat, ht17.trans h24, .step hw1 (by omega) (by omega) (by omega) (by omega) hb, nxe, nx1, nx2⟩ (by show b - (i + 1) < b - i1; omega)
theorem ok_slices_partialInsertionSortCmpFunc_Si64 {lo : Nat} {w : World} {v : Value} {L : List VL} {a b : Nat} (hs : Ow lo t_Si64 w v (evL L)) (hrw : RowsV t_i64 w L) (hab : a < b) (hb : b ≤ L.length) (hL : L.length ≤ 1152921504606846976) (hbl : Blw ltV a b L) :
    Cal Try.prog f_slices_partialInsertionSortCmpFunc_Si64 #[v, .int .i64 (a : Int), .int .i64 (b : Int), cmpV] w fun r w' => ∃ y : Bool, ∃ L' : List VL, r = .bool y ∧ Turn lo t_Si64 encV v w w' L' ∧ SwR a b L L' ∧ (y = true → Srt ltV a b L') := by
  apply c_slices_partialInsertionSortCmpFunc_Si64; unfold S_slices_partialInsertionSortCmpFunc_Si64
  (refine iAdd (by omega) ?_)
  refine iLp (fun s : Nat × Nat => [.int .i64 (s.1 : Int), .int .i64 (s.2 : Int)]) (fun s w' => a + 1 ≤ s.1 ∧ s.1 ≤ b ∧ s.2 ≤ 5 ∧ ∃ L', Turn lo t_Si64 encV v w w' L' ∧ SwR a b L L' ∧ Srt ltV a s.1 L') (fun s => 5 - s.2) (a + 1, 0) rfl ⟨Nat.le_refl _, by show a + 1 ≤ b; omega, Nat.zero_le _, L, Turn.refl hs, .refl, Srt.short (Nat.le_refl _)⟩ ?_
  rintro ⟨i0, r⟩ w2 Kn ⟨hi0, hib0, hr, L1, ht1, hw1, hs1⟩ hKn
  have hi0 : a + 1 ≤ i0 := hi0
  have hib0 : i0 ≤ b := hib0
  have hr : r ≤ 5 := hr
  have hs1 : Srt ltV a i0 L1 := hs1
  have hl1 := hw1.len
  intro _
  simp only [gx]
  refine iLt ?_
  refine iCndP (fun h5 => ?_) (fun h5 => ?_)
  rotate_left
  · exact ⟨false, L1, rfl, ht1, hw1, fun h => by cases h⟩
  refine iLp (fun i : Nat => [.int .i64 (i : Int)]) (fun i w' => i0 ≤ i ∧ i ≤ b ∧ Ext w2 w' ∧ Srt ltV a i L1) (fun i => b - i) i0 rfl ⟨Nat.le_refl _, hib0, Ext.refl _, hs1⟩ ?_
  rintro i w4 Kn4 ⟨hi, hib, h4, hsi⟩ hKn4
  intro _
  simp only [gx]
  have ht4 := ht1.ext h4
  refine iJnB (decide (i < b) && !ltV (gt L1 i) (gt L1 (i - 1))) w4 (fun J hJ => ?_) (fun w6 h6 => ?_)
  · refine iLt ?_
    refine iCndP (fun h => ?_) (fun h => ?_)
    · rw [decide_eq_true (show i < b by omega), Bool.true_and] at hJ
      refine iRdO (j := i) ht4.ow rfl (by omega) ?_
      refine iSub (by omega) ?_
      refine iRdO (j := i - 1) ht4.ow (by omega) (by omega) ?_
      exact iCmN (hrw.turn hs (by decide) ht4 hw1.perm) (by omega) (by omega) hJ
    · rw [decide_eq_false (show ¬ i < b by omega), Bool.false_and] at hJ
      exact fun _ x8 _ x9 => hJ _ (x8.trans x9)
  intro _
  simp only [gx]
  have ht6 := ht4.ext h6
  cases hc : decide (i < b) && !ltV (gt L1 i) (gt L1 (i - 1))
  rotate_left
  · rw [Bool.and_eq_true, decide_eq_true_eq, Bool.not_eq_true'] at hc
    refine iCndT rfl ?_
    refine iAdd (by omega) ?_
    refine hKn4 (i + 1) _ ⟨by omega, by omega, h4.trans h6, fun p q g1 g2 g3 => ?_⟩ (by omega)
    by_cases hq : q = i
    · subst hq
      by_cases hp : p = q - 1
      · rw [hp]; exact hc.2
      · exact ordrV.tr (hsi p (q - 1) g1 (by omega) (by omega)) hc.2
    · exact hsi p q g1 g2 (by omega)
  refine iCndF rfl ?_
  refine iEq ?_
  refine iCndP (fun h => ?_) (fun h => ?_)
  · have : i = b := by omega
    subst this
    exact ⟨true, L1, rfl, ht6, hw1, fun _ => hsi⟩
  have hlt : ltV (gt L1 i) (gt L1 (i - 1)) = true := by
    rw [decide_eq_true (show i < b by omega), Bool.true_and, Bool.not_eq_false'] at hc; exact hc
  refine iSub (by omega) ?_
  refine iLt ?_
  refine iCndP (fun h7 => ?_) (fun h7 => ?_)
  · exact ⟨false, L1, rfl, ht6, hw1, fun h => by cases h⟩
  refine iSub (by omega) ?_
  refine iSub (by omega) ?_
  refine iRdO (j := i - 1) ht6.ow (by omega) (by omega) ?_
  refine iRdO (j := i) ht6.ow rfl (by omega) ?_
  refine iWr2 (i := i) (j := i - 1) encV_cell ht6.ow rfl (by omega) (by omega) (by omega) fun w13 h13 => ?_
  have h13 : Turn lo t_Si64 encV v w6 w13 (sw L1 i (i - 1)) := h13
  have hw2 : SwR a b L1 (sw L1 i (i - 1)) := .one (by omega) (by omega) (by omega) (by omega) (by omega)
  have hs2 : Srt ltV a (i - 1) (sw L1 i (i - 1)) := (hsi.mono (Nat.le_refl _) (by omega)).out (SwR.one (a := i - 1) (b := b) (by omega) (by omega) (by omega) (by omega) (by omega)) (.inr (Nat.le_refl _))
  have ht13 := ht6.trans h13
  have hw13 := hw1.trans hw2
  generalize sw L1 i (i - 1) = L2 at h13 hw2 hs2 ht13 hw13
  have hl2 := hw13.len
  have hbl2 : Blw ltV a b L2 := hbl.keep hw13 (Nat.le_refl _) (Nat.le_refl _)
  refine iSub (by omega) ?_
  refine iLe ?_
  refine iJnX (fun _ w' => ∃ L', Turn lo t_Si64 encV v w w' L' ∧ SwR a b L L' ∧ Srt ltV a i L') (fun J hJ => ?_) ?_
  · refine iCndP (fun h8 => ?_) (fun h8 => ?_)
    · refine iSub (by omega) ?_
      refine iLp (fun j : Nat => [.int .i64 (j : Int)]) (fun j w' => a ≤ j ∧ j ≤ i - 1 ∧ ∃ L', Turn lo t_Si64 encV v w w' L' ∧ SwR a b L L' ∧ Blw ltV a b L' ∧ Ins ltV a (i - 1) j L') (fun j => j) (i - 1) (by congr 2; omega) ⟨by omega, Nat.le_refl _, L2, ht13, hw13, hbl2, Ins.init hs2⟩ ?_
      rintro j w17 Kn17 ⟨haj, hji, L3, ht3, hw3, hbl3, hin⟩ hKn17
      have hl3 := hw3.len
      intro _
      simp only [gx]
      refine iLe ?_
      refine iCndP (fun h9 => ?_) (fun h9 => ?_)
      · refine iRdO (j := j) ht3.ow rfl (by omega) ?_
        refine iSub (by omega) ?_
        refine iRdO (j := j - 1) ht3.ow (by omega) (by omega) ?_
        refine iCmN (hrw.turn hs (by decide) ht3 hw3.perm) (by omega) (by omega) fun w18 h18 => ?_
        have ht18 := ht3.ext h18
        refine iCnd (fun h10 => ?_) (fun h10 => ?_)
        · have h10 : ltV (gt L3 j) (gt L3 (j - 1)) = false := by simpa using h10
          refine hJ _ _ ⟨L3, ht18, hw3, ?_⟩
          have := hin.done ordrV (by rcases Nat.lt_or_ge a j with h' | h'; exact .inr ⟨h', h10⟩; exact .inl h') hji
          rwa [show i - 1 + 1 = i by omega] at this
        · have h10 : ltV (gt L3 j) (gt L3 (j - 1)) = true := by simpa using h10
          have haj' : a < j := by
            rcases Nat.lt_or_ge a j with h' | h'
            · exact h'
            · have e : j = a := by omega
              subst e
              have := hbl3 j (Nat.le_refl _) (by omega) (by omega)
              rw [h10] at this; cases this
          refine iSub (by omega) ?_
          refine iSub (by omega) ?_
          refine iRdO (j := j - 1) ht18.ow (by omega) (by omega) ?_
          refine iRdO (j := j) ht18.ow rfl (by omega) ?_
          refine iWr2 (i := j) (j := j - 1) encV_cell ht18.ow rfl (by omega) (by omega) (by omega) fun w23 h23 => ?_
          refine iSub (by omega) ?_
          rw [show (j : Int) - 1 = ((j - 1 : Nat) : Int) by omega]
          have hw4 : SwR a b L3 (sw L3 j (j - 1)) := .one (by omega) (by omega) (by omega) (by omega) (by omega)
          exact hKn17 (j - 1) _ ⟨by omega, by omega, sw L3 j (j - 1), ht18.trans h23, hw3.trans hw4, hbl3.keep hw4 (Nat.le_refl _) (Nat.le_refl _), hin.swap ordrV haj' hji (by omega) h10⟩ (by omega)
      · refine hJ _ _ ⟨L3, ht3, hw3, ?_⟩
        have := hin.done ordrV (.inl (by omega)) hji
        rwa [show i - 1 + 1 = i by omega] at this
    · exact hJ _ _ ⟨L2, ht13, hw13, Srt.short (by omega)⟩
  rintro xs w15 ⟨L3, ht3, hw3, hs3⟩
  have hl3 := hw3.len
  intro _
  refine iSub (by omega) ?_
  refine iLe ?_
  refine iCndP (fun h8 => ?_) (fun h8 => ?_)
  · refine iAdd (by omega) ?_
    refine iLp (fun j : Nat => [.int .i64 (j : Int)]) (fun j w' => i + 1 ≤ j ∧ j ≤ b ∧ ∃ L', Turn lo t_Si64 encV v w w' L' ∧ SwR a b L L' ∧ Srt ltV a i L') (fun j => b - j) (i + 1) rfl ⟨Nat.le_refl _, by omega, L3, ht3, hw3, hs3⟩ ?_
    rintro j w25 Kn25 ⟨hij, hjb, L4, ht4, hw4, hs4⟩ hKn25
    have hl4 := hw4.len
    intro _
    simp only [gx]
    refine iLt ?_
    refine iCndP (fun h9 => ?_) (fun h9 => ?_)
    · refine iRdO (j := j) ht4.ow rfl (by omega) ?_
      refine iSub (by omega) ?_
      refine iRdO (j := j - 1) ht4.ow (by omega) (by omega) ?_
      refine iCmN (hrw.turn hs (by decide) ht4 hw4.perm) (by omega) (by omega) fun w26 h26 => ?_
      have ht26 := ht4.ext h26
      refine iCnd (fun h10 => ?_) (fun h10 => ?_)
      · refine iAdd (by omega) ?_
        exact hKn (i, r + 1) _ ⟨by show a + 1 ≤ i; omega, hib, by show r + 1 ≤ 5; omega, L4, ht26, hw4, hs4⟩ (by show 5 - (r + 1) < 5 - r; omega)
      · refine iSub (by omega) ?_
        refine iSub (by omega) ?_
        refine iRdO (j := j - 1) ht26.ow (by omega) (by omega) ?_
        refine iRdO (j := j) ht26.ow rfl (by omega) ?_
        refine iWr2 (i := j) (j := j - 1) encV_cell ht26.ow rfl (by omega) (by omega) (by omega) fun w31 h31 => ?_
        refine iAdd (by omega) ?_
        exact hKn25 (j + 1) _ ⟨by omega, by omega, sw L4 j (j - 1), ht26.trans h31, .step hw4 (by omega) (by omega) (by omega) (by omega) hb, hs4.out (SwR.one (a := i) (b := b) (by omega) (by omega) (by omega) (by omega) (by omega)) (.inr (Nat.le_refl _))⟩ (by omega)
    · refine iAdd (by omega) ?_
      exact hKn (i, r + 1) _ ⟨by show a + 1 ≤ i; omega, hib, by show r + 1 ≤ 5; omega, L4, ht4, hw4, hs4⟩ (by show 5 - (r + 1) < 5 - r; omega)
  · refine iAdd (by omega) ?_
    exact hKn (i, r + 1) _ ⟨by show a + 1 ≤ i; omega, hib, by show r + 1 ≤ 5; omega, L3, ht3, hw3, hs3⟩ (by show 5 - (r + 1) < 5 - r; omega)
theorem ok_slices_pdqsortCmpFunc_Si64 {lo : Nat} {v : Value} : ∀ (n : Nat) {w : World} {L : List VL} {a b : Nat} {lim : Int}, b - a ≤ n → Ow lo t_Si64 w v (evL L) → RowsV t_i64 w L → a ≤ b → b ≤ L.length → L.length ≤ 1152921504606846976 → Blw ltV a b L → 0 ≤ lim ∧ lim ≤ 64 →
    Cal Try.prog f_slices_pdqsortCmpFunc_Si64 #[v, .int .i64 (a : Int), .int .i64 (b : Int), .int .i64 lim, cmpV] w fun _ w' => ∃ L', Turn lo t_Si64 encV v w w' L' ∧ SwR a b L L' ∧ Srt ltV a b L' := by
  intro n
  induction n using Nat.strongRecOn with
  | ind n ih =>
  intro w L a0 b0 lim0 hn hs hrw hab hb hL hbl hlim
  apply c_slices_pdqsortCmpFunc_Si64; unfold S_slices_pdqsortCmpFunc_Si64
  refine iLp (fun s : Nat × Nat × Int × Bool × Bool => [.int .i64 (s.1 : Int), .int .i64 (s.2.1 : Int), .int .i64 s.2.2.1, .bool s.2.2.2.1, .bool s.2.2.2.2]) (fun s w' => a0 ≤ s.1 ∧ s.1 ≤ s.2.1 ∧ s.2.1 ≤ b0 ∧ (0 ≤ s.2.2.1 ∧ s.2.2.1 ≤ 64) ∧ ∃ L', Turn lo t_Si64 encV v w w' L' ∧ SwR a0 b0 L L' ∧ Blw ltV s.1 s.2.1 L' ∧ Crs ltV a0 b0 s.1 s.2.1 L') (fun s => s.2.1 - s.1) (a0, b0, lim0, true, true) rfl
    ⟨Nat.le_refl _, hab, Nat.le_refl _, hlim, L, Turn.refl hs, .refl, hbl, Crs.all⟩ ?_
  rintro ⟨a, b, lim, bal, par⟩ w2 Kn ⟨ha, hab, hbb, hlim, L1, ht1, hw1, hbl1, hcr1⟩ hKn
  have ha : a0 ≤ a := ha
  have hab : a ≤ b := hab
  have hbb : b ≤ b0 := hbb
  have hlim : 0 ≤ lim ∧ lim ≤ 64 := hlim
  have hbl1 : Blw ltV a b L1 := hbl1
  have hcr1 : Crs ltV a0 b0 a b L1 := hcr1
  have hl1 := hw1.len
  intro _
  simp only [gx]
  -- a sorted window closes the work
  have fin : ∀ {L' L'' : List VL} {w' : World} {a b : Nat}, Turn lo t_Si64 encV v w w' L'' → SwR a0 b0 L L' → SwR a b L' L'' → a0 ≤ a → b ≤ b0 → Crs ltV a0 b0 a b L' → Srt ltV a b L'' → ∃ L', Turn lo t_Si64 encV v w w' L' ∧ SwR a0 b0 L L' ∧ Srt ltV a0 b0 L' :=
    fun {L' L'' w' a b} h1 h2 h3 h4 h5 h6 h7 => ⟨L'', h1, h2.trans (h3.mono h4 h5 (by rw [h2.len]; exact hb)), h6.done h3 h4 h5 h7⟩
  refine iSub (by omega) ?_
  refine iLe ?_
  refine iCndP (fun h => ?_) (fun h => ?_)
  · refine iCall ?_
    refine (ok_slices_insertionSortV ht1.ow (hrw.turn hs (by decide) ht1 hw1.perm) hab (by omega) (by omega)).mono fun _ w3 h3 => ?_
    obtain ⟨L2, ht2, hw2, hs2⟩ := h3
    exact fin (ht1.trans ht2) hw1 hw2 ha hbb hcr1 hs2
  refine iEq ?_
  refine iCndP (fun h0 => ?_) (fun h0 => ?_)
  · refine iCall ?_
    refine (ok_slices_heapSortCmpFunc_Si64 ht1.ow (hrw.turn hs (by decide) ht1 hw1.perm) (by omega) (by omega) (by omega)).mono fun _ w3 h3 => ?_
    obtain ⟨L2, ht2, hw2, hs2⟩ := h3
    exact fin (ht1.trans ht2) hw1 hw2 ha hbb hcr1 hs2
  refine iNot ?_
  refine iJnX (fun xs w' => ∃ l2 : Int, ∃ L', xs = [.int .i64 l2] ∧ (0 ≤ l2 ∧ l2 ≤ 64) ∧ Turn lo t_Si64 encV v w w' L' ∧ SwR a b L1 L') (fun J hJ => ?_) ?_
  · refine iCnd (fun _ => ?_) (fun _ => ?_)
    · refine iCall ?_
      refine (ok_slices_breakPatternsCmpFunc_Si64 ht1.ow hab (by omega) (by omega)).mono fun _ w3 h3 => ?_
      obtain ⟨L2, ht2, hw2⟩ := h3
      refine iSub (by omega) ?_
      exact hJ _ _ ⟨lim - 1, L2, rfl, by omega, ht1.trans ht2, hw2⟩
    · exact hJ _ _ ⟨lim, L1, rfl, hlim, ht1, .refl⟩
  rintro xs w6 ⟨lim, L2, rfl, hlim, ht2, hw2⟩
  have hl2 := hw2.len
  intro _
  simp only [gx]
  refine iCall ?_
  refine (ok_slices_choosePivotCmpFunc_Si64 ht2.ow (hrw.turn hs (by decide) ht2 (hw2.perm.trans hw1.perm)) (by omega) (by omega) (by omega)).mono fun r w8 h8 => ?_
  obtain ⟨h8, t, x, rfl, hat, htb⟩ := h8
  have ht8 := ht2.ext h8
  refine iE20 ?_
  refine iE21 ?_
  refine iEq ?_
  refine iJnX (fun xs w' => ∃ t : Nat, ∃ x : Int, ∃ L', xs = [.int .i64 (t : Int), .int .i64 x] ∧ a ≤ t ∧ t < b ∧ Turn lo t_Si64 encV v w w' L' ∧ SwR a b L1 L') (fun J hJ => ?_) ?_
  · refine iCndP (fun _ => ?_) (fun _ => ?_)
    · refine iCall ?_
      refine (ok_slices_reverseRangeCmpFunc_Si64 ht8.ow hab (by omega) (by omega)).mono fun _ w3 h3 => ?_
      obtain ⟨L3, ht3, hw3⟩ := h3
      refine iSub (by omega) ?_
      refine iSub (by omega) ?_
      refine iSub (by omega) ?_
      exact hJ _ _ ⟨b - 1 - (t - a), 1, L3, by congr 2; omega, by omega, by omega, ht8.trans ht3, hw2.trans hw3⟩
    · exact hJ _ _ ⟨t, x, L2, rfl, hat, htb, ht8, hw2⟩
  clear hat htb
  rintro xs w10 ⟨t, x, L3, rfl, hat, htb, ht3, hw3⟩
  intro _
  simp only [gx]
  refine iJnX (fun xs w' => ∃ y : Bool, xs = [.bool y] ∧ Ext w10 w') (fun J hJ => ?_) ?_
  · refine iCnd (fun _ => ?_) (fun _ => ?_)
    · refine iCnd (fun _ => ?_) (fun _ => ?_)
      · refine iEq ?_
        exact hJ _ _ ⟨_, rfl, Ext.refl _⟩
      · exact hJ _ _ ⟨false, rfl, Ext.refl _⟩
    · exact hJ _ _ ⟨false, rfl, Ext.refl _⟩
  rintro xs w13 ⟨y, rfl, h13⟩
  intro _
  simp only [gx]
  have ht13 := ht3.ext h13
  have hl3 := hw3.len
  refine iJnX (fun _ w' => ∃ L', Turn lo t_Si64 encV v w w' L' ∧ SwR a b L1 L') (fun J hJ => ?_) ?_
  · refine iCnd (fun _ => ?_) (fun _ => ?_)
    · refine iCall ?_
      refine (ok_slices_partialInsertionSortCmpFunc_Si64 ht13.ow (hrw.turn hs (by decide) ht13 (hw3.perm.trans hw1.perm)) (by omega) (by omega) (by omega) (hbl1.keep hw3 (Nat.le_refl _) (Nat.le_refl _))).mono fun r w3 h3 => ?_
      obtain ⟨y', L4, rfl, ht4, hw4, hs4⟩ := h3
      refine iCnd (fun hy => ?_) (fun hy => ?_)
      · exact fin (ht13.trans ht4) hw1 (hw3.trans hw4) ha hbb hcr1 (hs4 hy)
      · exact hJ _ _ ⟨L4, ht13.trans ht4, hw3.trans hw4⟩
    · exact hJ _ _ ⟨L3, ht13, hw3⟩
  clear ht3 hw3 ht13 ht8 ht2 hw2 hl2 hl3
  rintro xs w15 ⟨L3, ht3, hw3⟩
  have hl3 := hw3.len
  have hw3' : SwR a0 b0 L L3 := hw1.trans (hw3.mono ha hbb (by omega))
  have hbl3 : Blw ltV a b L3 := hbl1.keep hw3 (Nat.le_refl _) (Nat.le_refl _)
  have hcr3 : Crs ltV a0 b0 a b L3 := hcr1.keep hw3 ha hbb
  intro _
  refine iJnB (decide (0 < a) && !ltV (gt L3 (a - 1)) (gt L3 t)) w15 (fun J hJ => ?_) (fun w18 h18 => ?_)
  · refine iLt ?_
    refine iCndP (fun h5 => ?_) (fun h5 => ?_)
    · rw [decide_eq_true (show 0 < a by omega), Bool.true_and] at hJ
      refine iSub (by omega) ?_
      refine iRdO (j := a - 1) ht3.ow (by omega) (by omega) ?_
      refine iRdO (j := t) ht3.ow rfl (by omega) ?_
      exact iCmN (hrw.turn hs (by decide) ht3 hw3'.perm) (by omega) (by omega) hJ
    · rw [decide_eq_false (show ¬ 0 < a by omega), Bool.false_and] at hJ
      exact fun _ x8 _ x9 => hJ _ (x8.trans x9)
  intro _
  simp only [gx]
  have ht18 := ht3.ext h18
  cases hc : decide (0 < a) && !ltV (gt L3 (a - 1)) (gt L3 t)
  rotate_left
  · rw [Bool.and_eq_true, decide_eq_true_eq, Bool.not_eq_true'] at hc
    refine iCndT rfl ?_
    refine iCall ?_
    refine (ok_slices_partitionEqualCmpFunc_Si64 ht18.ow (hrw.turn hs (by decide) ht18 hw3'.perm) hat htb (by omega) (by omega)).mono fun r w21 h21 => ?_
    obtain ⟨L4, m, rfl, ht4, hw4, ham, hmb, hle⟩ := h21
    have hge : ∀ k, a ≤ k → k < b → ltV (gt L4 k) (gt L3 t) = false := hw4.all (p := fun z => ltV z (gt L3 t) = false) fun k hk hk' => ordrV.tr hc.2 (hbl3 k hk hk' (by omega))
    refine hKn (m, b, lim, bal, par) _ ⟨by show a0 ≤ m; omega, hmb, hbb, hlim, L4, ht18.trans ht4, hw3'.trans (hw4.mono ha hbb (by rw [hw3'.len]; omega)), equal_blw ordrV hge hle ham, equal_up ordrV (hcr3.keep hw4 ha hbb) hge hle hmb⟩ (by show b - m < b - a; omega)
  refine iCndF rfl ?_
  refine iCall ?_
  refine (ok_slices_partitionCmpFunc_Si64 ht18.ow (hrw.turn hs (by decide) ht18 hw3'.perm) hat htb (by omega) (by omega)).mono fun r w22 h22 => ?_
  obtain ⟨L4, m, y', rfl, ht4, hw4, ham, hmb, hpt⟩ := h22
  have hl4 := hw4.len
  have ht22 := ht18.trans ht4
  have hw4' : SwR a0 b0 L L4 := hw3'.trans (hw4.mono ha hbb (by rw [hw3'.len]; omega))
  have hbl4 : Blw ltV a b L4 := hbl3.keep hw4 (Nat.le_refl _) (Nat.le_refl _)
  have hcr4 : Crs ltV a0 b0 a b L4 := hcr3.keep hw4 ha hbb
  refine iE20 ?_
  refine iE21 ?_
  refine iSub (by omega) ?_
  refine iSub (by omega) ?_
  refine iQuo (by omega) ?_
  refine iLt ?_
  refine iCndP (fun h5 => ?_) (fun h5 => ?_)
  · refine iLe ?_
    refine iCall ?_
    refine (ih (m - a) (by omega) (Nat.le_refl _) ht22.ow (hrw.turn hs (by decide) ht22 hw4'.perm) ham (by omega) (by omega) (hbl4.low (by omega)) hlim).mono fun _ w23 h23 => ?_
    obtain ⟨L5, ht5, hw5, hs5⟩ := h23
    have hw5' : SwR a b L4 L5 := hw5.mono (Nat.le_refl _) (by omega) (by omega)
    have hpt5 := hpt.lowS hw5
    refine iAdd (by omega) ?_
    exact hKn (m + 1, b, lim, _, y') _ ⟨by show a0 ≤ m + 1; omega, by show m + 1 ≤ b; omega, hbb, hlim, L5, ht22.trans ht5, hw4'.trans (hw5'.mono ha hbb (by rw [hw4'.len]; omega)), hpt5.blw, hpt5.up ordrV (hcr4.keep hw5' ha hbb) hs5⟩ (by show b - (m + 1) < b - a; omega)
  · refine iLe ?_
    refine iAdd (by omega) ?_
    refine iCall ?_
    refine (ih (b - (m + 1)) (by omega) (a := m + 1) (Nat.le_refl _) ht22.ow (hrw.turn hs (by decide) ht22 hw4'.perm) (by omega) (by omega) (by omega) hpt.blw hlim).mono fun _ w23 h23 => ?_
    obtain ⟨L5, ht5, hw5, hs5⟩ := h23
    have hw5' : SwR a b L4 L5 := hw5.mono (by omega) (Nat.le_refl _) (by omega)
    have hpt5 := hpt.highS hw5
    exact hKn (a, m, lim, _, y') _ ⟨ha, ham, by show m ≤ b0; omega, hlim, L5, ht22.trans ht5, hw4'.trans (hw5'.mono ha hbb (by rw [hw4'.len]; omega)), (hbl4.keep hw5' (Nat.le_refl _) (Nat.le_refl _)).low (Nat.le_of_lt hmb), hpt5.down ordrV (hcr4.keep hw5' ha hbb) hs5⟩ (by show m - a < b - a; omega)
theorem ok_slices_SortFunc_SSi64_Si64 {lo : Nat} {w : World} {v : Value} {L : List VL} (hs : Ow lo t_Si64 w v (evL L)) (hrw : RowsV t_i64 w L) (hL : L.length ≤ 1152921504606846976) :
    Cal Try.prog f_slices_SortFunc_SSi64_Si64 #[v, cmpV] w fun _ w' => ∃ L' : List VL, Ow lo t_Si64 w' v (evL L') ∧ Ch (fun c => v.ownBlock = some c) w w' ∧ List.Perm L' L ∧ L'.Pairwise fun x y => ltV y x = false := by
  apply c_slices_SortFunc_SSi64_Si64; unfold S_slices_SortFunc_SSi64_Si64
  refine iLenS hs.sl ?_
  rw [evs_len]
  refine iConvU (by omega) ?_
  refine iCall ?_
  refine (ok_math_bits_Len (by omega) w).mono fun r w1 h1 => ?_
  obtain ⟨h1, k, rfl, -, -, hk⟩ := h1
  refine iCall ?_
  refine (ok_slices_pdqsortCmpFunc_Si64 (a := 0) (b := L.length) (lim := (k : Int)) L.length (by omega) (hs.ext h1) (hrw.ext h1) (Nat.zero_le _) (Nat.le_refl _) hL (fun k _ _ h => by omega) (by omega)).mono fun _ w2 h2 => ?_
  obtain ⟨L', ht, hw, hst⟩ := h2
  rw [← hw.len] at hst
  exact ⟨L', ht.ow, (h1.ch (S := fun c => v.ownBlock = some c)).trans ht.ch fun _ e => .inl e, hw.perm, hst.pairwise⟩
end Go.Proofs.Ytfadcafacpaldaa

/- Contracts: equal neighbours dropped from slices of slices, sorted lists without doubles. Conditions: none. -/
namespace Go.Vc
section
variable {P : Program} {w : World} {lo : Nat} {e : TypeId}
theorem Ow.openV {v : Value} {xs : List Value} (hs : Ow lo e w v xs) (hne : xs ≠ []) : ∃ g cap, v = .slice (some ⟨g, 0, none⟩) xs.length cap ∧ xs.length ≤ cap ∧ cap ≤ 9223372036854775807 := by
  obtain ⟨_, ⟨_, h0⟩ | ⟨g, cap, cur, hv, _, _, h1, h2, _⟩⟩ := hs
  · exact absurd (List.length_eq_zero_iff.1 h0) hne
  · exact ⟨g, cap, hv, h1, h2⟩
theorem Ow.atV {g n cap : Nat} {xs : List Value} (hs : Ow lo e w (.slice (some ⟨g, 0, none⟩) n cap) xs) (hn : xs.length = n) {j : Nat} (hj : j < n) : w.cell? ⟨g, j, none⟩ = xs[j]? := by
  have h : w.ownsRow lo e 1 (.slice (some ⟨g, 0, none⟩) n cap) n xs := by unfold Ow at hs; rw [hn] at hs; exact hs
  exact h.cellAt j (by omega)
theorem iSlTailV {g n cap k : Nat} {ki : IntKind} {K : Value → Prop} (hk : k < n) (hc : n ≤ cap) (h : K (.slice (some ⟨g, k, none⟩) (n - k) (cap - k))) : xSl 1 (.slice (some ⟨g, 0, none⟩) n cap) (some (.int ki (k : Int))) none K := by
  refine ⟨_, _, _, k, n, rfl, rfl, ⟨ki, rfl⟩, by omega, hc, ?_⟩
  rw [if_neg (by omega), Option.map_some, addr_add, Nat.zero_add, Nat.mul_one]
  exact h
theorem iSlHeadV {g n cap k : Nat} {ki : IntKind} {K : Value → Prop} (hk : k ≤ n) (hc : n ≤ cap) (h : K (.slice (some ⟨g, 0, none⟩) k cap)) : xSl 1 (.slice (some ⟨g, 0, none⟩) n cap) none (some (.int ki (k : Int))) K := by
  refine ⟨_, _, _, 0, k, rfl, ⟨ki, rfl⟩, rfl, Nat.zero_le _, by omega, ?_⟩
  have e : (if cap = 0 then some (⟨g, 0, none⟩ : Addr) else (some (⟨g, 0, none⟩ : Addr)).map (·.add (0 * 1))) = some ⟨g, 0, none⟩ := by
    split
    · rfl
    · simp [Addr.add]
  rw [e, Nat.sub_zero, Nat.sub_zero]
  exact h
theorem iClrV {t ty : TypeId} {z : Value} {bytes g n cap k : Nat} {xs : List Value} {K : Value → World → Prop} (ht : P.underlying t = some (.slice e)) (hi : (P.info? e).map (fun i => (i.zero, i.size, i.bytes)) = some (some z, 1, bytes)) (hz : isCell z = true)
    (hs : Ow lo e w (.slice (some ⟨g, 0, none⟩) n cap) xs) (hn : xs.length = n) (hk : k < n) (h : ∀ w', Ow lo e w' (.slice (some ⟨g, 0, none⟩) k cap) (xs.take k) → Ch (fun c => c = g) w w' → K (.tuple #[]) w') :
    xOp P (Builtin.clear_ #[t] ty #[.slice (some ⟨g, k, none⟩) (n - k) (cap - k)]) w K := by
  obtain ⟨i, hi, h3⟩ := Option.map_eq_some_iff.1 hi
  simp only [Prod.mk.injEq] at h3
  obtain ⟨hz0, -, -⟩ := h3
  obtain ⟨-, ⟨hv, -⟩ | ⟨g', cap', cur, hv, hg, hh, h1, h2, h3, h4⟩⟩ := hs
  · cases hv
  · injection hv with e1 e2 e3
    injection e1 with e1
    injection e1 with e1
    subst e1
    subst e3
    rw [hn] at h1 h4
    rw [Nat.mul_one] at h3 h4
    have hzc : (Builtin.zeroCells z.cells (n - k)).toList = List.replicate (n - k) z := by
      rw [isCell_cells hz]
      simp [Builtin.zeroCells]
      apply List.ext_getElem
      · simp
      · intro i h1 h2
        simp [Nat.mod_one]
    have hrun := run_storeCells_at P g k e (List.replicate (n - k) z) 0 cur w hh (by rw [List.length_replicate]; omega) (fun v hv => isCell_one (by rw [List.eq_of_mem_replicate hv]; exact hz))
    refine ⟨_, _, ?_, h (w.setRow g (cur.toList.take (k + 0) ++ List.replicate (n - k) z ++ cur.toList.drop (k + 0 + (List.replicate (n - k) z).length)).toArray) ?_ ?_⟩
    · obtain ⟨m, hm⟩ : ∃ m, n - k = m + 1 := ⟨n - k - 1, by omega⟩
      rw [hm] at hrun hzc ⊢
      simp [Builtin.clear_, run_underlying ht, zeroValue, run_info hi, hz0, hzc, hrun]
    · refine ⟨by simp, .inr ⟨g, cap, _, ?_, hg, setRow_heap w g cur _ e (0, 0) hh, by rw [List.length_take]; omega, h2, ?_, ?_⟩⟩
      · rw [List.length_take, hn, Nat.min_eq_left (by omega)]
      · simp; omega
      · rw [List.length_take, hn, Nat.min_eq_left (by omega), Nat.mul_one, Nat.add_zero, List.take_append_of_le_length (by simp; omega), List.take_append_of_le_length (by simp; omega), List.take_take, Nat.min_self, ← h4, List.take_take, Nat.min_eq_left (by omega)]
    · exact ⟨rfl, rfl, rfl, by rw [setRow_size]; exact Nat.le_refl _, fun c _ hc => setRow_other w g c _ hc⟩
end
theorem ordL : OrdA lessB where
  o := ⟨fun {a b} h => lessB_asymm a b h, fun {a b c} h k => lessB_trans a b c h k⟩
  anti := fun {a b} h k => lessB_anti a b h k
theorem ltL_ne {a b : List Int} : (lessB a b || lessB b a) = decide (¬ a = b) := by
  rw [Bool.eq_iff_iff, Bool.or_eq_true, decide_eq_true_eq]
  constructor
  · rintro (h | h) e
    · subst e; rw [lessB_irr] at h; cases h
    · subst e; rw [lessB_irr] at h; cases h
  · intro h
    rcases ordL.tot a b with h1 | h1 | h1
    · exact .inl h1
    · exact absurd h1 h
    · exact .inr h1
abbrev ddV (L : List VL) : List VL := ddA lessB Prod.snd L
theorem ddV_take {L : List VL} {i : Nat} (h0 : 1 ≤ i) (hi : i < L.length) : ddV (L.take (i + 1)) = if (gt L i).2 = (gt L (i - 1)).2 then ddV (L.take i) else ddV (L.take i) ++ [gt L i] := by
  rw [ddV, ddA_take h0 hi, ltL_ne]
  by_cases h : (gt L i).2 = (gt L (i - 1)).2
  · rw [if_pos h, if_neg (by simp [h])]
  · rw [if_neg h, if_pos (by simpa using fun e => h e.symm)]
theorem ddV_idk {L : List VL} : ∀ k, k ≤ L.length → (∀ i, 1 ≤ i → i < k → ¬ (gt L i).2 = (gt L (i - 1)).2) → ddV (L.take k) = L.take k := by
  intro k
  induction k with
  | zero => intro _ _; rfl
  | succ k ih =>
    intro hk h
    rcases Nat.eq_zero_or_pos k with h0 | h0
    · subst h0
      rw [ddV, ddA_one (by omega), List.take_succ_eq_append_getElem (by omega), gt_eq (by omega)]; rfl
    · rw [ddV_take h0 (by omega), if_neg (h k h0 (by omega)), ih (by omega) fun i h1 h2 => h i h1 (by omega), List.take_succ_eq_append_getElem (by omega), gt_eq (by omega)]
theorem ddV_id {L : List VL} (h : ∀ i, 1 ≤ i → i < L.length → ¬ (gt L i).2 = (gt L (i - 1)).2) : ddV L = L := by
  have := ddV_idk L.length (Nat.le_refl _) h
  rwa [List.take_length] at this
theorem evs_get (L : List VL) {j : Nat} (hj : j < L.length) : (evL L)[j]? = some (encV (gt L j)) := by rw [gt_eq hj]; simp [evL, hj]
theorem evs_take (L : List VL) (k : Nat) : (evL L).take k = evL (L.take k) := by simp [evL, List.map_take]
theorem RowsV.at {e : TypeId} {w : World} {L : List VL} (h : RowsV e w L) {i : Nat} (hi : i < L.length) : SlI w (encV (gt L i)) (gt L i).2 := (h _ (by rw [gt_eq hi]; exact List.getElem_mem _)).sl
end Go.Vc
namespace Go.Proofs.Ytfadcafacpaldaa
open Go.Vc
theorem iEqV {w : World} {x y : VL} {G : Value → World → Prop} (hx : SlI w (encV x) x.2) (hy : SlI w (encV y) y.2) (h : ∀ w', Ext w w' → G (.bool (decide (x.2 = y.2))) w') : ∀ w1, Ext w w1 → callV Try.prog (.func (.func f_slices_Equal_Si64_i64) #[] #[]) [encV x, encV y] w1 fun r w2 => ∀ w3, Ext w2 w3 → G r w3 :=
  fun _ x1 => iRet (ok_slices_Equal_Si64_i64 (hx.ext x1) (hy.ext x1)) fun _ x2 _ x3 => h _ ((x1.trans x2).trans x3)
theorem iNeV {w : World} {x y : VL} {G : Value → World → Prop} (hx : SlI w (encV x) x.2) (hy : SlI w (encV y) y.2) (h : ∀ w', Ext w w' → G (.bool (decide (¬ x.2 = y.2))) w') : ∀ w1, Ext w w1 → callV Try.prog (.func (.func f_slices_Equal_Si64_i64) #[] #[]) [encV x, encV y] w1 fun r w2 => xNot r fun c => ∀ w3, Ext w2 w3 → G c w3 :=
  fun _ x1 => iRet (ok_slices_Equal_Si64_i64 (hx.ext x1) (hy.ext x1)) fun _ x2 => iNot fun _ x3 => by
    have := h _ ((x1.trans x2).trans x3)
    rwa [decide_not] at this
theorem ok_slices_CompactFunc_SSi64_Si64 {lo : Nat} {w : World} {v : Value} {L : List VL} (hs : Ow lo t_Si64 w v (evL L)) (hrw : RowsV t_i64 w L) (hL : L.length ≤ 1152921504606846976) :
    Cal Try.prog f_slices_CompactFunc_SSi64_Si64 #[v, .func (.func f_slices_Equal_Si64_i64) #[] #[]] w fun r w' => Ow lo t_Si64 w' r (evL (ddV L)) ∧ Ch (fun c => v.ownBlock = some c) w w' ∧ r.ownBlock = v.ownBlock := by
  apply c_slices_CompactFunc_SSi64_Si64; unfold S_slices_CompactFunc_SSi64_Si64
  refine iLenS hs.sl ?_
  rw [evs_len]
  refine iLt ?_
  refine iCndP (fun h => ?_) (fun h => ?_)
  · rw [ddV_id (fun i h1 h2 => by omega)]
    exact ⟨hs, (Ext.refl w).ch, by first | trivial | rfl⟩
  obtain ⟨g, cap, hv, hcap, hcm⟩ := hs.openV (by intro e; have := evs_len L; rw [e] at this; simp at this; omega)
  rw [evs_len] at hv hcap
  refine iLp (fun k : Nat => [.int .i64 (k : Int)]) (fun k w' => 1 ≤ k ∧ k ≤ L.length ∧ Ext w w' ∧ ∀ i, 1 ≤ i → i < k → ¬ (gt L i).2 = (gt L (i - 1)).2) (fun k => L.length - k) 1 rfl ⟨Nat.le_refl _, by omega, Ext.refl _, fun i h1 h2 => by omega⟩ ?_
  rintro k w2 Kn ⟨hk1, hkn, h2, hne⟩ hKn
  have hs2 := hs.ext h2
  intro _
  simp only [gx]
  refine iLenS hs2.sl ?_
  rw [evs_len]
  refine iLt ?_
  refine iCndP (fun h3 => ?_) (fun h3 => ?_)
  rotate_left
  · rw [ddV_id (fun i h1 h2 => hne i h1 (by omega))]
    exact ⟨hs2, h2.ch, by first | trivial | rfl⟩
  refine iRdO (j := k) hs2 rfl (by omega) ?_
  refine iSub (by omega) ?_
  refine iRdO (j := k - 1) hs2 (by omega) (by omega) ?_
  have hr2 := hrw.ext h2
  refine iEqV (hr2.at (by omega)) (hr2.at (by omega)) fun w3 h23 => ?_
  have hs3 := hs2.ext h23
  refine iCndP (fun h4 => ?_) (fun h4 => ?_)
  rotate_left
  · refine iAdd (by omega) ?_
    refine hKn (k + 1) _ ⟨by omega, by omega, h2.trans h23, fun i h1 h5 => ?_⟩ (by omega)
    by_cases hi : i = k
    · subst hi; exact h4
    · exact hne i h1 (by omega)
  subst hv
  refine iSlTailV (k := k) (by omega) hcap ?_
  refine iLp (fun s : Nat × Nat => [.int .i64 (s.1 : Int), .int .i64 (s.2 : Int)]) (fun s w' => k ≤ s.1 ∧ s.1 + 1 ≤ k + s.2 ∧ k + s.2 ≤ L.length ∧ ∃ M, Turn lo t_Si64 encV (.slice (some ⟨g, 0, none⟩) L.length cap) w w' M ∧ M.length = L.length ∧ M.take s.1 = ddV (L.take (k + s.2)) ∧ ∀ j, k + s.2 ≤ j + 1 → gt M j = gt L j) (fun s => L.length - s.2) (k, 1) rfl
    ⟨Nat.le_refl _, Nat.le_refl _, by show k + 1 ≤ L.length; omega, L, ⟨hs3, (h2.trans h23).ch⟩, rfl, by show L.take k = ddV (L.take (k + 1)); rw [ddV_take hk1 (by omega), if_pos h4, ddV_idk k (by omega) hne], fun _ _ => rfl⟩ ?_
  rintro ⟨kk, k2⟩ w5 Kn5 ⟨hkk, hkk2, hk2, M, ht, hM, hMt, hMe⟩ hKn5
  have hkk : k ≤ kk := hkk
  have hkk2 : kk + 1 ≤ k + k2 := hkk2
  have hk2 : k + k2 ≤ L.length := hk2
  have hMt : M.take kk = ddV (L.take (k + k2)) := hMt
  have hMe : ∀ j, k + k2 ≤ j + 1 → gt M j = gt L j := hMe
  intro _
  simp only [gx]
  refine iLenL ?_
  refine iLt ?_
  refine iCndP (fun h5 => ?_) (fun h5 => ?_)
  · refine iIaL (j := k2) (by omega) ?_
    refine iLd (ht.ow.atV (by rw [List.length_map]; exact hM) (j := k + k2) (by omega) |>.trans (evs_get M (by omega))) ?_
    refine iSub (by omega) ?_
    rw [show (k2 : Int) - 1 = ((k2 - 1 : Nat) : Int) by omega]
    refine iIaL (j := k2 - 1) (by omega) ?_
    refine iLd (ht.ow.atV (by rw [List.length_map]; exact hM) (j := k + (k2 - 1)) (by omega) |>.trans (evs_get M (by omega))) ?_
    have e1 := hMe (k + k2) (by omega)
    have e2 := hMe (k + (k2 - 1)) (by omega)
    have hr5 : RowsV t_i64 w5 L := fun y hy => (hrw y hy).ch ht.ch fun c hc hc' => (hrw y hy).ne_ow hs (by decide) hc hc'
    refine iNeV (by rw [e1]; exact hr5.at (by omega)) (by rw [e2]; exact hr5.at (by omega)) fun w6 h56 => ?_
    have ht6 := ht.ext h56
    have edd := ddV_take (L := L) (i := k + k2) (by omega) (by omega)
    rw [← e1, show k + k2 - 1 = k + (k2 - 1) by omega, ← e2] at edd
    refine iCndP (fun h6 => ?_) (fun h6 => ?_)
    · rw [if_neg h6, ← hMt] at edd
      refine iIaL (j := k2) (by omega) ?_
      refine iLd (ht6.ow.atV (by rw [List.length_map]; exact hM) (j := k + k2) (by omega) |>.trans (evs_get M (by omega))) ?_
      refine iIaOw ht6.ow (by omega) (by rw [List.length_map]; omega) fun b o hb _ _ hc hf hset => ?_
      refine iSt (hc.trans (List.getElem?_eq_getElem (by rw [List.length_map]; omega))) hf (encV_cell _) ?_
      have hset := hset (encV (gt M (k + k2)))
      rw [Int.toNat_natCast, ← List.map_set] at hset
      refine iAdd (by omega) ?_
      refine iAdd (by omega) ?_
      refine hKn5 (kk + 1, k2 + 1) _ ⟨by show k ≤ kk + 1; omega, by show kk + 1 + 1 ≤ k + (k2 + 1); omega, by show k + (k2 + 1) ≤ L.length; omega, M.set kk (gt M (k + k2)), ⟨hset, ht6.ch.trans ((Upd.setCell w6 b o _).ch (S := fun c => Value.ownBlock (.slice (some ⟨g, 0, none⟩) L.length cap) = some c) hb) fun _ e => .inl e⟩, by rw [List.length_set]; exact hM, ?_, fun j hj => ?_⟩ (by show L.length - (k2 + 1) < L.length - k2; omega)
      · show (M.set kk (gt M (k + k2))).take (kk + 1) = ddV (L.take (k + (k2 + 1)))
        rw [show k + (k2 + 1) = k + k2 + 1 by omega, edd, List.take_succ_eq_append_getElem (by rw [List.length_set]; omega), List.getElem_set_self, List.take_set_of_le (Nat.le_refl _)]
      · have hj : k + (k2 + 1) ≤ j + 1 := hj
        rw [gt_set _ (by omega), if_neg (by omega)]
        exact hMe j (by omega)
    · rw [if_pos (Classical.not_not.1 h6), ← hMt] at edd
      refine iAdd (by omega) ?_
      exact hKn5 (kk, k2 + 1) _ ⟨hkk, by show kk + 1 ≤ k + (k2 + 1); omega, by show k + (k2 + 1) ≤ L.length; omega, M, ht6, hM, edd.symm, fun j hj => hMe j (by have hj : k + (k2 + 1) ≤ j + 1 := hj; omega)⟩ (by show L.length - (k2 + 1) < L.length - k2; omega)
  · have hend : k + k2 = L.length := by omega
    rw [hend, List.take_length] at hMt
    refine iSlTailV (k := kk) (by omega) hcap ?_
    refine iClrV u_SSi64 i_SSi64 rfl ht.ow (by rw [List.length_map]; exact hM) (by omega) fun w8 h8 hc8 => ?_
    refine iSlHeadV (k := kk) (by omega) hcap ?_
    rw [show (List.map encV M).take kk = evL (M.take kk) from evs_take M kk, hMt] at h8
    exact ⟨h8, ht.ch.trans hc8 fun c hc => .inl (by rw [hc]; rfl), rfl⟩
theorem ok_impl_sortedLists {lo : Nat} {w : World} {v : Value} {L : List VL} (hs : Ow lo t_Si64 w v (evL L)) (hrw : RowsV t_i64 w L) (hL : L.length ≤ 1152921504606846976) :
    Cal Try.prog f_impl_sortedLists #[v] w fun r w' => ∃ M : List VL, Ow lo t_Si64 w' r (evL M) ∧ Ch (fun c => v.ownBlock = some c) w w' ∧ M.map Prod.snd = setA lessB (L.map Prod.snd) ∧ (∃ L', List.Perm L' L ∧ List.Sublist M L') := by
  apply c_impl_sortedLists; unfold S_impl_sortedLists
  refine iCall ((ok_slices_SortFunc_SSi64_Si64 hs hrw hL).mono ?_)
  rintro _ w1 ⟨L', ho, hch, hp, hpw⟩
  have hr1 : RowsV t_i64 w1 L' := fun y hy => (hrw y (hp.mem_iff.1 hy)).ch hch fun c hc hc' => (hrw y (hp.mem_iff.1 hy)).ne_ow hs (by decide) hc hc'
  refine iCall ((ok_slices_CompactFunc_SSi64_Si64 ho hr1 (by rw [hp.length_eq]; exact hL)).mono ?_)
  rintro r w2 ⟨h1, h2, h3⟩
  have hsp := (ddA_spec (key := Prod.snd) ordL hpw L'.length (Nat.le_refl _)).1
  rw [List.take_length] at hsp
  exact ⟨_, h1, hch.trans h2 fun c hc => .inl hc, ddA_set ordL hpw (fun a => (hp.map Prod.snd).mem_iff), L', hp, hsp⟩
end Go.Proofs.Ytfadcafacpaldaa

/- Contracts: resolvents in the reference; are all clauses. Conditions: none. -/
namespace Go.Vc
def resLK (c d : List Int) (v : Int) (k : Nat) : List Int := ((List.range k).map fun k : Nat => (k : Int)).filter fun l => decide (¬ l / 2 = v) && (decide (l ∈ c) || decide (l ∈ d))
theorem resLK_succ (c d : List Int) (v : Int) (k : Nat) : resLK c d v (k + 1) = if (decide (¬ (k : Int) / 2 = v) && (decide ((k : Int) ∈ c) || decide ((k : Int) ∈ d))) = true then resLK c d v k ++ [(k : Int)] else resLK c d v k := by
  unfold resLK
  rw [List.range_succ, List.map_append, List.filter_append]
  simp only [List.map_cons, List.map_nil, List.filter_cons, List.filter_nil]
  split
  · rfl
  · simp
theorem resLK_len (c d : List Int) (v : Int) (k : Nat) : (resLK c d v k).length ≤ k := by
  have := List.length_filter_le (fun l => decide (¬ l / 2 = v) && (decide (l ∈ c) || decide (l ∈ d))) ((List.range k).map fun k : Nat => (k : Int))
  rw [List.length_map, List.length_range] at this
  exact this
end Go.Vc
namespace Go.Proofs.Ytfadcafacpaldaa
open Go.Vc
theorem ok_spec_l04Resolve {va vb : Value} {w : World} {c d : List Int} (hs : SlI w va c) (hd : SlI w vb d) (v : Nat) (hv : v < 6) :
    Cal Try.prog f_spec_l04Resolve #[va, vb, .int .i64 (v : Int)] w fun r w' => Ext w w' ∧ ∃ u, r = .tuple #[u, .bool (resC c d v).isSome] ∧ ∀ x, resC c d v = some x → Ow w.heap.size t_i64 w' u (ints x) := by
  apply c_spec_l04Resolve; unfold S_spec_l04Resolve
  refine iJnB (!(decide (2 * (v : Int) ∈ c) && decide (2 * (v : Int) + 1 ∈ d))) w (fun J hJ => ?_) (fun w2 h2 => ?_)
  · refine iMul (by omega) ?_
    refine iRet (ok_spec_l01HasI hs _) fun w3 h3 => ?_
    refine iNot ?_
    cases h : decide (2 * (v : Int) ∈ c)
    · refine iCndT rfl ?_
      have := hJ w3 h3
      rwa [h] at this
    · refine iCndF rfl ?_
      refine iMul (by omega) ?_
      refine iAdd (by omega) ?_
      refine iRet (ok_spec_l01HasI (hd.ext h3) _) fun w4 h4 => ?_
      refine iNot ?_
      have := hJ w4 (h3.trans h4)
      rwa [h, Bool.true_and] at this
  intro _
  simp only [gx]
  cases hc : decide (2 * (v : Int) ∈ c) && decide (2 * (v : Int) + 1 ∈ d)
  · refine iCndT rfl ?_
    have hn : resC c d v = none := by
      unfold resC
      rw [if_neg]
      rintro ⟨a, b, _⟩
      rw [decide_eq_true a, decide_eq_true b] at hc
      cases hc
    rw [hn]
    exact ⟨h2, _, rfl, fun x h => by cases h⟩
  rw [Bool.and_eq_true, decide_eq_true_eq, decide_eq_true_eq] at hc
  refine iCndF rfl ?_
  refine iBs0 fun u0 w3 _ h3 hu0 => ?_
  have h23 := h2.trans h3
  refine iLp (fun s : Nat × Value => [s.2, .int .i64 (s.1 : Int)]) (fun s w' => s.1 ≤ 12 ∧ Ext w w' ∧ Ow w.heap.size t_i64 w' s.2 (ints (resLK c d v s.1))) (fun s => 12 - s.1) (0, u0) rfl ⟨Nat.zero_le _, h23, hu0.mono h2.size⟩ ?_
  rintro ⟨k, u⟩ w4 Kn ⟨hk, h4, ho⟩ hKn
  have hk : k ≤ 12 := hk
  have h4 : Ext w w4 := h4
  have ho : Ow w.heap.size t_i64 w4 u (ints (resLK c d v k)) := ho
  have hs4 := hs.ext h4
  have hd4 := hd.ext h4
  intro _
  simp only [gx]
  refine iLt ?_
  refine iCndP (fun h5 => ?_) (fun h5 => ?_)
  · have hk1 : k < 12 := by omega
    have hsu := resLK_succ c d v k
    have hll := resLK_len c d v k
    refine iJnB (decide (¬ (k : Int) / 2 = v) && (decide ((k : Int) ∈ c) || decide ((k : Int) ∈ d))) w4 (fun J hJ => ?_) (fun w6 h6 => ?_)
    · refine iQuo (by omega) ?_
      refine iNe ?_
      refine iCndP (fun h => ?_) (fun h => ?_)
      · rw [decide_eq_true h, Bool.true_and] at hJ
        refine iRet (ok_spec_l01HasI hs4 _) fun w7 h7 => ?_
        refine iCnd (fun h8 => ?_) (fun h8 => ?_)
        · rw [h8, Bool.true_or] at hJ
          exact hJ w7 h7
        · rw [h8, Bool.false_or] at hJ
          refine iRet (ok_spec_l01HasI (hd4.ext h7) _) fun w8 h8 => ?_
          exact hJ w8 (h7.trans h8)
      · rw [decide_eq_false h, Bool.false_and] at hJ
        exact hJ w4 (Ext.refl _)
    intro _
    simp only [gx]
    have ho6 := ho.ext h6
    have h46 := h4.trans h6
    refine iCnd (fun h => ?_) (fun h => ?_)
    · rw [if_pos h] at hsu
      refine iApp1 u_Si64 i_Si64 rfl ho6 rfl (by rw [ints_length]; omega) (by rw [ints_length]; omega) h46.size fun v' w8 ho' hg => ?_
      refine iAdd (by omega) ?_
      refine hKn (k + 1, v') _ ⟨by show k + 1 ≤ 12; omega, h46.grown hg (fun b hb => (ho6.blk b hb).1), ?_⟩ (by show 12 - (k + 1) < 12 - k; omega)
      show Ow _ _ _ v' (ints (resLK c d v (k + 1)))
      rw [hsu]
      simpa [ints] using ho'
    · rw [if_neg (by rw [h]; decide)] at hsu
      refine iAdd (by omega) ?_
      refine hKn (k + 1, u) _ ⟨by show k + 1 ≤ 12; omega, h46, ?_⟩ (by show 12 - (k + 1) < 12 - k; omega)
      show Ow _ _ _ u (ints (resLK c d v (k + 1)))
      rw [hsu]
      exact ho6
  · obtain rfl : k = 12 := by omega
    have ho : Ow w.heap.size t_i64 w4 u (ints (resL c d v)) := ho
    refine iRet (ok_spec_IsClause ho.sl) fun w5 h5 => ?_
    refine ⟨h4.trans h5, u, ?_, fun x hx => ?_⟩
    · unfold resC
      by_cases hok : ClOk (resL c d v)
      · rw [if_pos ⟨hc.1, hc.2, hok⟩, decide_eq_true hok]; rfl
      · rw [if_neg fun h => hok h.2.2, decide_eq_false hok]; rfl
    · unfold resC at hx
      split at hx
      · cases hx; exact ho.ext h5
      · cases hx
/-- Rows that can be read. -/
def RdRows (w : World) (v : Value) (P : List VL) : Prop := Sl w v (P.map Prod.fst) ∧ ∀ p ∈ P, SlI w p.1 p.2
theorem RdRows.ext {w w' : World} {v : Value} {P : List VL} (h : RdRows w v P) (x : Ext w w') : RdRows w' v P := ⟨h.1.ext x, fun p hp => (h.2 p hp).ext x⟩
theorem ok_spec_l04All {v : Value} {w : World} {P : List VL} (hs : RdRows w v P) : Ret Try.prog f_spec_l04All #[v] w (.bool (decide (∀ p ∈ P, ClOk p.2))) := by
  have hl := hs.1.len
  rw [List.length_map] at hl
  apply c_spec_l04All; unfold S_spec_l04All
  refine iLp (fun k : Nat => [.int .i64 (k : Int)]) (fun k w' => k ≤ P.length ∧ Ext w w' ∧ ∀ i, i < k → ClOk (gt P i).2) (fun k => P.length - k) 0 rfl ⟨Nat.zero_le _, Ext.refl _, fun i hi => by omega⟩ ?_
  rintro k w2 Kn ⟨hk, h2, hall⟩ hKn
  have hs2 := hs.ext h2
  intro _
  simp only [gx]
  refine iLenS hs2.1 ?_
  rw [List.length_map]
  refine iLt ?_
  refine iCndP (fun h3 => ?_) (fun h3 => ?_)
  · have hk1 : k < P.length := by omega
    have hm : gt P k ∈ P := by rw [gt_eq hk1]; exact List.getElem_mem hk1
    refine iIaV hs2.1 (by rw [List.length_map]; exact hk1) fun p hp => ?_
    refine iLd hp ?_
    rw [List.getElem_map, ← gt_eq hk1]
    refine iRet (ok_spec_IsClause (hs2.2 _ hm)) fun w3 h4 => ?_
    refine iNot ?_
    cases hc : decide (ClOk (gt P k).2)
    · refine iCndT rfl ?_
      rw [decide_eq_false fun h => of_decide_eq_false hc (h _ hm)]
      exact ⟨rfl, h2.trans h4⟩
    · refine iCndF rfl ?_
      refine iAdd (by omega) ?_
      refine hKn (k + 1) _ ⟨by omega, h2.trans h4, fun i hi => ?_⟩ (by omega)
      by_cases hik : i = k
      · subst hik; exact of_decide_eq_true hc
      · exact hall i (by omega)
  · rw [decide_eq_true fun p hp => ?_]
    · exact ⟨rfl, h2⟩
    · obtain ⟨i, hi, rfl⟩ := List.getElem_of_mem hp
      rw [← gt_eq hi]; exact hall i (by omega)
end Go.Proofs.Ytfadcafacpaldaa

/- Contracts: rows of rows measured, and copied. Conditions: none. -/
namespace Go.Proofs.Ytfadcafacpaldaa
open Go.Vc
theorem ok_laws_szInt64SS {v : Value} {w : World} {P : List VL} (hs : RdRows w v P) (left : Int) (h0 : 0 ≤ left ∧ left ≤ 1048576) :
    Cal Try.prog f_laws_szInt64SS #[v, .int .i64 left] w fun r w' => Ext w w' ∧ ∃ z : Int, r = .int .i64 z ∧ z ≤ left ∧ (0 ≤ z → (P.length : Int) + tot (P.map Prod.snd) ≤ left) := by
  have hl := hs.1.len
  rw [List.length_map] at hl
  apply c_laws_szInt64SS; unfold S_laws_szInt64SS
  refine iLenS hs.1 ?_
  rw [List.length_map]
  refine iSub (by omega) ?_
  refine iLt ?_
  refine iCndP (fun h => ?_) (fun h => ?_)
  · exact ⟨Ext.refl _, -1, rfl, by omega, fun h' => by omega⟩
  refine iLp (fun s : Nat × Int => [.int .i64 s.2, .int .i64 (s.1 : Int)]) (fun s w' => s.1 ≤ P.length ∧ Ext w w' ∧ 0 ≤ s.2 ∧ s.2 = left - P.length - tot ((P.map Prod.snd).take s.1)) (fun s => P.length - s.1) (0, left - P.length) rfl ⟨Nat.zero_le _, Ext.refl _, by show 0 ≤ left - P.length; omega, by show left - P.length = left - P.length - tot ([] : List (List Int)); simp [tot]⟩ ?_
  rintro ⟨k, z⟩ w2 Kn ⟨hk, h2, hz0, hz⟩ hKn
  have hk : k ≤ P.length := hk
  have h2 : Ext w w2 := h2
  have hz0 : 0 ≤ z := hz0
  have hz : z = left - P.length - tot ((P.map Prod.snd).take k) := hz
  have hs2 := hs.ext h2
  intro _
  simp only [gx]
  refine iLenS hs2.1 ?_
  rw [List.length_map]
  refine iLt ?_
  refine iCndP (fun h3 => ?_) (fun h3 => ?_)
  · have hk1 : k < P.length := by omega
    have hm : gt P k ∈ P := by rw [gt_eq hk1]; exact List.getElem_mem hk1
    have ht := tot_take_succ (P.map Prod.snd) k (by simpa using hk1)
    rw [List.getElem_map, ← gt_eq hk1] at ht
    refine iIaV hs2.1 (by rw [List.length_map]; exact hk1) fun p hp => ?_
    refine iLd hp ?_
    rw [List.getElem_map, ← gt_eq hk1]
    refine iRet (ok_laws_szInt64S (hs2.2 _ hm) z (by omega)) fun w3 h4 => ?_
    refine iLt ?_
    unfold szN
    refine iCndP (fun h5 => ?_) (fun h5 => ?_)
    · exact ⟨h2.trans h4, -1, rfl, by omega, fun h' => by omega⟩
    · split at h5
      · exact absurd (by omega) h5
      · rename_i h6
        rw [if_neg h6]
        refine iAdd (by omega) ?_
        exact hKn (k + 1, _) _ ⟨by show k + 1 ≤ P.length; omega, h2.trans h4, by show 0 ≤ z - ((gt P k).2.length : Int); omega, by show z - ((gt P k).2.length : Int) = left - P.length - tot ((P.map Prod.snd).take (k + 1)); rw [ht, hz]; omega⟩ (by show P.length - (k + 1) < P.length - k; omega)
  · obtain rfl : k = P.length := by omega
    rw [List.take_of_length_le (by simp)] at hz
    exact ⟨h2, z, rfl, by omega, fun _ => by omega⟩
theorem ok_laws_toInt64SS {v : Value} {w : World} {P : List VL} (hs : RdRows w v P) (hlen : P.length ≤ 1048576) (hPl : ∀ p ∈ P, p.2.length ≤ 1048576) :
    Cal Try.prog f_laws_toInt64SS #[v] w fun r w' => Ext w w' ∧ ∃ Q : List VL, Ow w.heap.size t_Si64 w' r (Q.map Prod.fst) ∧ OwP w.heap.size t_i64 w' Q ∧ Q.map Prod.snd = P.map Prod.snd := by
  apply c_laws_toInt64SS; unfold S_laws_toInt64SS
  refine iLenS hs.1 ?_
  rw [List.length_map]
  refine iMk (by omega) (by omega) rfl fun b w1 hb h1 hB => ?_
  have ho1 : Ow w.heap.size t_Si64 w1 (.slice (some ⟨b, 0, none⟩) P.length P.length) (([] : List VL).map Prod.fst ++ List.replicate P.length (.slice none 0 0)) := Ow.ofBlk hB (by omega) (by simp) (by omega)
  try refine iLenS hs.1 ?_
  try rw [List.length_map]
  refine iLp (fun k : Nat => [.int .i64 (k : Int)]) (fun k w' => k ≤ P.length ∧ Ext w w' ∧ ∃ Q : List VL, Q.length = k ∧ Ow w.heap.size t_Si64 w' (.slice (some ⟨b, 0, none⟩) P.length P.length) (Q.map Prod.fst ++ List.replicate (P.length - k) (.slice none 0 0)) ∧ OwP w.heap.size t_i64 w' Q ∧ Q.map Prod.snd = (P.map Prod.snd).take k) (fun k => P.length - k) 0 rfl ⟨Nat.zero_le _, h1, [], rfl, ho1, ⟨fun p hp => (by cases hp), List.Pairwise.nil⟩, rfl⟩ ?_
  rintro k w2 Kn ⟨hk, h2, Q, hQl, ho, hQ, hQs⟩ hKn
  have hs2 := hs.ext h2
  intro _
  simp only [gx]
  try refine iLenS hs2.1 ?_
  try rw [List.length_map]
  refine iLt ?_
  refine iCndP (fun h3 => ?_) (fun h3 => ?_)
  · have hk1 : k < P.length := by omega
    have hm : gt P k ∈ P := by rw [gt_eq hk1]; exact List.getElem_mem hk1
    refine iIaV hs2.1 (by rw [List.length_map]; exact hk1) fun p hp => ?_
    refine iLd hp ?_
    rw [List.getElem_map, ← gt_eq hk1]
    refine iCall ((ok_laws_toInt64S (hs2.2 _ hm) (by have := hPl _ hm; omega)).mono ?_)
    rintro nr w3 ⟨h4, hnr⟩
    have ho3 := ho.ext h4
    have hQ3 := hQ.ext h4
    have hX := h2.trans h4
    have hll : (Q.map Prod.fst ++ List.replicate (P.length - k) (Value.slice none 0 0)).length = P.length := by simp [hQl]; omega
    refine iIaOwE ho3 (by rw [hll]; exact hk1) fun bv hbv hwr => ?_
    obtain ⟨hc1, hc2, hc3⟩ := hwr w3 _ rfl ho3
    rw [List.getElem?_eq_getElem (by rw [hll]; exact hk1)] at hc1
    refine iSt hc1 hc2 hnr.cell ?_
    have ho4 := hc3 nr
    have hu := Upd.setCell w3 bv k nr
    have hX4 := hX.upd hu (ho3.blk bv hbv).1
    have hQ4 := hQ3.upd hu fun q hq e => (hQ3.1 q hq).ne_ow ho3 (by decide) e hbv
    have hnr4 := hnr.upd hu fun e => hnr.ne_ow ho3 (by decide) e hbv
    have hnew : ∀ q ∈ Q, ∀ c, q.1.ownBlock = some c → nr.ownBlock ≠ some c := fun q hq c hc hc' => by have := ((hQ.1 q hq).blk c hc).2; have := (hnr.blk c hc').1; omega
    have hset : (Q.map Prod.fst ++ List.replicate (P.length - k) (Value.slice none 0 0)).set k nr = (Q ++ [(nr, (gt P k).2)]).map Prod.fst ++ List.replicate (P.length - (k + 1)) (Value.slice none 0 0) := by
      have e1 : P.length - k = (P.length - (k + 1)) + 1 := by omega
      rw [List.set_append_right _ _ (by simp [hQl]), e1, List.replicate_succ]
      simp [hQl]
    rw [hset] at ho4
    refine iAdd (by omega) ?_
    refine hKn (k + 1) _ ⟨by omega, hX4, Q ++ [(nr, (gt P k).2)], by simp [hQl], ho4, ⟨fun q hq => ?_, List.pairwise_append.2 ⟨hQ4.2, List.pairwise_singleton _ _, fun q hq q' hq' c hc hc' => ?_⟩⟩, ?_⟩ (by omega)
    · rcases List.mem_append.1 hq with hq | hq
      · exact hQ4.1 q hq
      · simp at hq; subst hq
        exact hnr4.mono (by have := h2.size; omega)
    · simp at hq'; subst hq'
      exact hnew q hq c hc hc'
    · rw [List.map_append, hQs, List.take_succ_eq_append_getElem (by simpa using hk1), List.getElem_map, ← gt_eq hk1]; rfl
  · obtain rfl : k = P.length := by omega
    rw [Nat.sub_self, List.replicate_zero, List.append_nil] at ho
    rw [List.take_of_length_le (by simp)] at hQs
    exact ⟨h2, Q, ho, hQ, hQs⟩
theorem ok_impl_copyLists {v : Value} {w : World} {P : List VL} (hs : RdRows w v P) (hlen : P.length ≤ 1048576) (hPl : ∀ p ∈ P, p.2.length ≤ 1048576) :
    Cal Try.prog f_impl_copyLists #[v] w fun r w' => Ext w w' ∧ ∃ Q : List VL, Ow w.heap.size t_Si64 w' r (Q.map Prod.fst) ∧ OwP w.heap.size t_i64 w' Q ∧ Q.map Prod.snd = P.map Prod.snd := by
  apply c_impl_copyLists; unfold S_impl_copyLists
  refine iLenS hs.1 ?_
  rw [List.length_map]
  refine iMk (by omega) (by omega) rfl fun b w1 hb h1 hB => ?_
  have ho1 : Ow w.heap.size t_Si64 w1 (.slice (some ⟨b, 0, none⟩) P.length P.length) (([] : List VL).map Prod.fst ++ List.replicate P.length (.slice none 0 0)) := Ow.ofBlk hB (by omega) (by simp) (by omega)
  try refine iLenS hs.1 ?_
  try rw [List.length_map]
  refine iLp (fun k : Nat => [.int .i64 (k : Int)]) (fun k w' => k ≤ P.length ∧ Ext w w' ∧ ∃ Q : List VL, Q.length = k ∧ Ow w.heap.size t_Si64 w' (.slice (some ⟨b, 0, none⟩) P.length P.length) (Q.map Prod.fst ++ List.replicate (P.length - k) (.slice none 0 0)) ∧ OwP w.heap.size t_i64 w' Q ∧ Q.map Prod.snd = (P.map Prod.snd).take k) (fun k => P.length - k) 0 rfl ⟨Nat.zero_le _, h1, [], rfl, ho1, ⟨fun p hp => (by cases hp), List.Pairwise.nil⟩, rfl⟩ ?_
  rintro k w2 Kn ⟨hk, h2, Q, hQl, ho, hQ, hQs⟩ hKn
  have hs2 := hs.ext h2
  intro _
  simp only [gx]
  try refine iLenS hs2.1 ?_
  try rw [List.length_map]
  refine iLt ?_
  refine iCndP (fun h3 => ?_) (fun h3 => ?_)
  · have hk1 : k < P.length := by omega
    have hm : gt P k ∈ P := by rw [gt_eq hk1]; exact List.getElem_mem hk1
    refine iIaV hs2.1 (by rw [List.length_map]; exact hk1) fun p hp => ?_
    refine iLd hp ?_
    rw [List.getElem_map, ← gt_eq hk1]
    refine iCall ((ok_slices_Clone_Si64_i64 (hs2.2 _ hm) (by have := hPl _ hm; omega)).mono ?_)
    rintro nr w3 ⟨h4, hnr⟩
    have ho3 := ho.ext h4
    have hQ3 := hQ.ext h4
    have hX := h2.trans h4
    have hll : (Q.map Prod.fst ++ List.replicate (P.length - k) (Value.slice none 0 0)).length = P.length := by simp [hQl]; omega
    refine iIaOwE ho3 (by rw [hll]; exact hk1) fun bv hbv hwr => ?_
    obtain ⟨hc1, hc2, hc3⟩ := hwr w3 _ rfl ho3
    rw [List.getElem?_eq_getElem (by rw [hll]; exact hk1)] at hc1
    refine iSt hc1 hc2 hnr.cell ?_
    have ho4 := hc3 nr
    have hu := Upd.setCell w3 bv k nr
    have hX4 := hX.upd hu (ho3.blk bv hbv).1
    have hQ4 := hQ3.upd hu fun q hq e => (hQ3.1 q hq).ne_ow ho3 (by decide) e hbv
    have hnr4 := hnr.upd hu fun e => hnr.ne_ow ho3 (by decide) e hbv
    have hnew : ∀ q ∈ Q, ∀ c, q.1.ownBlock = some c → nr.ownBlock ≠ some c := fun q hq c hc hc' => by have := ((hQ.1 q hq).blk c hc).2; have := (hnr.blk c hc').1; omega
    have hset : (Q.map Prod.fst ++ List.replicate (P.length - k) (Value.slice none 0 0)).set k nr = (Q ++ [(nr, (gt P k).2)]).map Prod.fst ++ List.replicate (P.length - (k + 1)) (Value.slice none 0 0) := by
      have e1 : P.length - k = (P.length - (k + 1)) + 1 := by omega
      rw [List.set_append_right _ _ (by simp [hQl]), e1, List.replicate_succ]
      simp [hQl]
    rw [hset] at ho4
    refine iAdd (by omega) ?_
    refine hKn (k + 1) _ ⟨by omega, hX4, Q ++ [(nr, (gt P k).2)], by simp [hQl], ho4, ⟨fun q hq => ?_, List.pairwise_append.2 ⟨hQ4.2, List.pairwise_singleton _ _, fun q hq q' hq' c hc hc' => ?_⟩⟩, ?_⟩ (by omega)
    · rcases List.mem_append.1 hq with hq | hq
      · exact hQ4.1 q hq
      · simp at hq; subst hq
        exact hnr4.mono (by have := h2.size; omega)
    · simp at hq'; subst hq'
      exact hnew q hq c hc hc'
    · rw [List.map_append, hQs, List.take_succ_eq_append_getElem (by simpa using hk1), List.getElem_map, ← gt_eq hk1]; rfl
  · obtain rfl : k = P.length := by omega
    rw [Nat.sub_self, List.replicate_zero, List.append_nil] at ho
    rw [List.take_of_length_le (by simp)] at hQs
    exact ⟨h2, Q, ho, hQ, hQs⟩
end Go.Proofs.Ytfadcafacpaldaa

/- Contracts: short rows of int64 in order (insertion sort, slices.Sort up to twelve); clauses of a row of rows. Conditions: none. -/
namespace Go.Vc
def encI (x : Int) : Value := .int .i64 x
def ltI (a b : Int) : Bool := decide (a < b)
theorem ordrI : Ordr ltI := ⟨fun {a b} h => by unfold ltI at *; simp at h ⊢; omega, fun {a b c} h k => by unfold ltI at *; simp at h k ⊢; omega⟩
end Go.Vc
namespace Go.Proofs.Ytfadcafacpaldaa
open Go.Vc
theorem ok_cmp_Less_i64 (a b : Int) (w : World) : Ret Try.prog f_cmp_Less_i64 #[encI a, encI b] w (.bool (ltI a b)) := by
  apply c_cmp_Less_i64; unfold S_cmp_Less_i64
  refine iJnB (ltI a b) w (fun J hJ => ?_) (fun w4 h4 => ?_)
  · refine iRet (ok_cmp_isNaN_i64 a w) fun w3 h3 => ?_
    refine iCndF rfl ?_
    refine iLt ?_
    exact hJ w3 h3
  · intro _
    simp only [gx]
    exact ⟨by first | trivial | rfl, h4⟩
theorem ok_slices_insertionSortOrdered_i64 {lo : Nat} {w : World} {v : Value} {L : List Int} {a b : Nat} (hs : Ow lo t_i64 w v (L.map encI)) (hab : a ≤ b) (hb : b ≤ L.length) (hL : L.length ≤ 1152921504606846976) :
    Cal Try.prog f_slices_insertionSortOrdered_i64 #[v, .int .i64 (a : Int), .int .i64 (b : Int)] w fun _ w' => ∃ L', Turn lo t_i64 encI v w w' L' ∧ SwR a b L L' ∧ Srt ltI a b L' := by
  apply c_slices_insertionSortOrdered_i64; unfold S_slices_insertionSortOrdered_i64
  (refine iAdd (by omega) ?_)
  refine iLp (fun i : Nat => [.int .i64 (i : Int)]) (fun i w' => a + 1 ≤ i ∧ i ≤ b + 1 ∧ ∃ L', Turn lo t_i64 encI v w w' L' ∧ SwR a b L L' ∧ Srt ltI a i L') (fun i => b + 1 - i) (a + 1) (by simp) ⟨Nat.le_refl _, by omega, L, Turn.refl hs, .refl, Srt.short (Nat.le_refl _)⟩ ?_
  rintro i w2 Kn ⟨hi, hib, L1, ht1, hw1, hs1⟩ hKn
  intro _
  simp only [gx]
  refine iLt ?_
  refine iCndP (fun h => ?_) (fun h => ?_)
  · have hl1 := hw1.len
    refine iLp (fun j : Nat => [.int .i64 (j : Int)]) (fun j w' => a ≤ j ∧ j ≤ i ∧ ∃ L', Turn lo t_i64 encI v w w' L' ∧ SwR a b L L' ∧ Ins ltI a i j L') (fun j => j) i rfl ⟨by omega, Nat.le_refl _, L1, ht1, hw1, Ins.init hs1⟩ ?_
    rintro j w4 Kn2 ⟨haj, hji, L2, ht2, hw2, hin⟩ hKn2
    have hl2 := hw2.len
    intro _
    simp only [gx]
    refine iJnB (decide (a < j) && ltI (gt L2 j) (gt L2 (j - 1))) w4 (fun J hJ => ?_) (fun w6 h6 => ?_)
    · refine iLt ?_
      refine iCndP (fun h5 => ?_) (fun h5 => ?_)
      · rw [decide_eq_true (show a < j by omega), Bool.true_and] at hJ
        refine iRdO (j := j) ht2.ow rfl (by omega) ?_
        (refine iSub (by omega) ?_)
        refine iRdO (j := j - 1) ht2.ow (by omega) (by omega) ?_
        exact iRetQ (fun w' _ => ok_cmp_Less_i64 _ _ w') hJ
      · rw [decide_eq_false (show ¬ a < j by omega), Bool.false_and] at hJ
        exact hJ
    · intro _
      simp only [gx]
      have ht6 := ht2.ext h6
      cases hc : decide (a < j) && ltI (gt L2 j) (gt L2 (j - 1))
      · refine iCndF rfl ?_
        (refine iAdd (by omega) ?_)
        refine hKn (i + 1) _ ⟨by omega, by omega, L2, ht6, hw2, hin.done ordrI ?_ hji⟩ (by omega)
        rw [Bool.and_eq_false_iff, decide_eq_false_iff_not] at hc
        rcases hc with hc | hc
        · exact .inl (by omega)
        · rcases Nat.lt_or_ge a j with h' | h'
          · exact .inr ⟨h', hc⟩
          · exact .inl h'
      · rw [Bool.and_eq_true, decide_eq_true_eq] at hc
        refine iCndT rfl ?_
        (refine iSub (by omega) ?_; refine iSub (by omega) ?_)
        refine iRdO (j := j - 1) ht6.ow (by omega) (by omega) ?_
        refine iRdO (j := j) ht6.ow rfl (by omega) ?_
        refine iWr2 (i := j) (j := j - 1) (fun _ => rfl) ht6.ow rfl (by omega) (by omega) (by omega) fun w13 h13 => ?_
        (refine iSub (by omega) ?_)
        rw [show (j : Int) - 1 = ((j - 1 : Nat) : Int) by omega]
        exact hKn2 (j - 1) _ ⟨by omega, by omega, sw L2 j (j - 1), ht6.trans h13, .step hw2 (by omega) (by omega) (by omega) (by omega) hb, hin.swap ordrI hc.1 hji (by omega) hc.2⟩ (by omega)
  · exact ⟨L1, ht1, hw1, hs1.mono (Nat.le_refl _) (by omega)⟩
theorem ok_slices_SortI {lo : Nat} {w : World} {v : Value} {L : List Int} (hs : Ow lo t_i64 w v (L.map encI)) (hL : L.length ≤ 12) :
    Cal Try.prog f_slices_Sort_Si64_i64 #[v] w fun _ w' => ∃ L', Turn lo t_i64 encI v w w' L' ∧ List.Perm L' L ∧ L'.Pairwise fun x y => ltI y x = false := by
  apply c_slices_Sort_Si64_i64; unfold S_slices_Sort_Si64_i64
  refine iLenS hs.sl ?_
  rw [List.length_map]
  refine iConvU (by omega) ?_
  refine iCall ((ok_math_bits_Len (n := L.length) (by omega) w).mono ?_)
  rintro _ w1 ⟨x1, k, rfl, _, _, _⟩
  have hsort : Cal Try.prog f_slices_pdqsortOrdered_i64 #[v, .int .i64 0, .int .i64 (L.length : Int), .int .i64 (k : Int)] w1 fun _ w' => ∃ L', Turn lo t_i64 encI v w1 w' L' ∧ SwR 0 L.length L L' ∧ Srt ltI 0 L.length L' := by
    apply c_slices_pdqsortOrdered_i64; unfold S_slices_pdqsortOrdered_i64
    refine iLp (fun _ : Unit => [.int .i64 0, .int .i64 (L.length : Int), .int .i64 (k : Int), .bool true, .bool true]) (fun _ w' => w' = w1) (fun _ => 0) () rfl rfl ?_
    rintro _ w2 Kn rfl _
    intro _
    simp only [gx]
    refine iSub (by omega) ?_
    refine iLe (iCndT (by simp; omega) ?_)
    exact iCall ((ok_slices_insertionSortOrdered_i64 (a := 0) (hs.ext x1) (Nat.zero_le _) (Nat.le_refl _) (by omega)).mono fun _ w' h => h)
  refine iCall (hsort.mono ?_)
  rintro _ w2 ⟨L', ht, hw, hst⟩
  refine ⟨L', ⟨ht.ow, (x1.ch (S := fun c => v.ownBlock = some c)).trans ht.ch fun _ e => .inl e⟩, hw.perm, ?_⟩
  have hl := hw.len
  rw [← hl] at hst
  exact hst.pairwise
theorem ok_impl_areClauses {v : Value} {w : World} {P : List VL} (hs : RdRows w v P) : Ret Try.prog f_impl_areClauses #[v] w (.bool (decide (∀ p ∈ P, ClOk p.2))) := by
  have hl := hs.1.len
  rw [List.length_map] at hl
  have hone : ∀ {w' : World} {u : Value} {c : List Int}, SlI w' u c → Ret Try.prog f_impl_areClauses_1 #[u] w' (.bool (!decide (ClOk c))) := fun {w' u c} hu => by
    apply c_impl_areClauses_1; unfold S_impl_areClauses_1
    refine iRet (ok_impl_isClause hu) fun w1 h1 => ?_
    exact iNot ⟨rfl, h1⟩
  have hidx : Cal Try.prog f_slices_IndexFunc_SSi64_Si64 #[v, .func (.func f_impl_areClauses_1) #[] #[]] w fun r w' => Ext w w' ∧ ∃ z : Int, r = .int .i64 z ∧ (0 ≤ z ↔ ¬ ∀ p ∈ P, ClOk p.2) := by
    apply c_slices_IndexFunc_SSi64_Si64; unfold S_slices_IndexFunc_SSi64_Si64
    refine iLenS hs.1 ?_
    rw [List.length_map]
    refine iLp (fun k : Nat => [.int .i64 (k : Int)]) (fun k w' => k ≤ P.length ∧ Ext w w' ∧ ∀ i, i < k → ClOk (gt P i).2) (fun k => P.length - k) 0 rfl ⟨Nat.zero_le _, Ext.refl _, fun i hi => by omega⟩ ?_
    rintro k w2 Kn ⟨hk, h2, hall⟩ hKn
    have hs2 := hs.ext h2
    intro _
    simp only [gx]
    refine iLt ?_
    refine iCndP (fun h3 => ?_) (fun h3 => ?_)
    · have hk1 : k < P.length := by omega
      have hm : gt P k ∈ P := by rw [gt_eq hk1]; exact List.getElem_mem hk1
      refine iIaV hs2.1 (by rw [List.length_map]; exact hk1) fun p hp => ?_
      refine iLd hp ?_
      rw [List.getElem_map, ← gt_eq hk1]
      refine iRet (hone (hs2.2 _ hm)) fun w3 h4 => ?_
      cases hc : decide (ClOk (gt P k).2)
      · refine iCndT rfl ⟨h2.trans h4, (k : Int), rfl, fun _ h => of_decide_eq_false hc (h _ hm), fun _ => by omega⟩
      · refine iCndF rfl ?_
        refine iAdd (by omega) ?_
        refine hKn (k + 1) _ ⟨by omega, h2.trans h4, fun i hi => ?_⟩ (by omega)
        by_cases hik : i = k
        · subst hik; exact of_decide_eq_true hc
        · exact hall i (by omega)
    · refine ⟨h2, -1, rfl, fun h => by omega, fun h => absurd (fun p hp => ?_) h⟩
      obtain ⟨i, hi, rfl⟩ := List.getElem_of_mem hp
      rw [← gt_eq hi]; exact hall i (by omega)
  apply c_impl_areClauses; unfold S_impl_areClauses
  have hcon : Ret Try.prog f_slices_ContainsFunc_SSi64_Si64 #[v, .func (.func f_impl_areClauses_1) #[] #[]] w (.bool (!decide (∀ p ∈ P, ClOk p.2))) := by
    apply c_slices_ContainsFunc_SSi64_Si64; unfold S_slices_ContainsFunc_SSi64_Si64
    refine iCall (hidx.mono ?_)
    rintro _ w1 ⟨h1, z, rfl, hz⟩
    refine iLe ?_
    refine ⟨congrArg Value.bool ?_, h1⟩
    rw [← decide_not]
    exact decide_eq_decide.2 hz
  refine iRet hcon fun w1 h1 => ?_
  refine iNot ?_
  rw [Bool.not_not]
  exact ⟨rfl, h1⟩
end Go.Proofs.Ytfadcafacpaldaa

/- Plain maths of formulas and of the grammar of their texts. Conditions: none; no program in sight. -/
namespace Go.Vc

/-! ### The reader -/
end Go.Vc

/- Contracts: slices.Concat and slices.Grow; formulas as lists of nodes. Conditions: none. -/
namespace Go.Vc
section
variable {P : Program} {w : World}
/-- 'append(nil, make([]T, n)...)'. -/
theorem iAppZ {k n bytes : Nat} {t ti ty e : TypeId} {z : Value} {K : Value → World → Prop} (ht : P.underlying t = some (.slice e)) (hti : P.underlying ti = some (.int .i64)) (hi : (P.info? e).map (fun i => (i.zero, i.size, i.bytes)) = some (some z, k, bytes)) (hz : z.cells.size = k)
    (h0 : 0 < n) (hb : n * bytes ≤ 140737488355328) (hm : n ≤ 9223372036854775807)
    (h : ∀ b c w' cs, n ≤ c → c ≤ 9223372036854775807 → cs.length = c * k → Ext w w' → b = w.heap.size → Blk e w' b cs → K (.slice (some ⟨b, 0, none⟩) n c) w') : xOp P (Builtin.append_ #[t, ti] ty #[.slice none 0 0, .int .i64 (n : Int)]) w K := by
  obtain ⟨i, hi', h3⟩ := Option.map_eq_some_iff.1 hi
  clear hi
  simp only [Prod.mk.injEq] at h3
  obtain ⟨hz0, hsz, hby⟩ := h3
  subst hsz
  subst hby
  have hn : n ≠ 0 := by omega
  have hw : IntKind.i64.wrap (n : Int) = (n : Int) := IntWalk.i64_in _ (by omega)
  have h63' : ¬ (9223372036854775807 < (n : Int)) := by omega
  have h48 : ¬ ((281474976710656 : Int) < (n : Int) * (i.bytes : Int)) := by
    have : (n : Int) * (i.bytes : Int) = ((n * i.bytes : Nat) : Int) := by simp
    rw [this]; omega
  have h48' : ¬ (281474976710656 < Builtin.nextslicecap n 0 * i.bytes) := by rw [nextslicecap_zero h0]; omega
  have hneg : ¬ ((n : Int) < 0) := by omega
  have hge := grownCap_ge w n 0 e
  have hcm := grownCap_le_maxLen w n 0 e (by simpa [maxLen] using hm)
  have hrun : (Builtin.append_ #[t, ti] ty #[.slice none 0 0, .int .i64 (n : Int)]).run P w =
      .ok (.slice (some ⟨w.heap.size, 0, none⟩) n (grownCap w n 0 e)) (w.drew.alloc (.cells ((if n * i.size = 0 then #[] else Builtin.zeroCells z.cells n) ++ Builtin.zeroCells z.cells (grownCap w n 0 e - n)) e)) := by
    by_cases hk : n * i.size = 0
    · simp [Builtin.append_, run_underlying ht, run_underlying hti, sizeOf, typeInfo, zeroValue, hi', hz0, asInt, asIntOf, hw, hneg, hn, h63', h48, h48', hk, Question.forced, run_firstCells_none, newRow, grownCap]
    · simp [Builtin.append_, run_underlying ht, run_underlying hti, sizeOf, typeInfo, zeroValue, hi', hz0, asInt, asIntOf, hw, hneg, hn, h63', h48, h48', hk, Question.forced, run_firstCells_none, newRow, grownCap]
  refine ⟨_, _, hrun, ?_⟩
  have hB := Blk.new w.drew ((if n * i.size = 0 then #[] else Builtin.zeroCells z.cells n) ++ Builtin.zeroCells z.cells (grownCap w n 0 e - n)) e
  refine h _ _ _ _ hge (by simpa [maxLen] using hcm) ?_ ((Ext.drew w).trans (Ext.alloc _ _)) rfl hB
  rw [Array.length_toList, Array.size_append, size_zeroCells, hz]
  by_cases hk : n * i.size = 0
  · rw [if_pos hk]
    have : i.size = 0 := by
      rcases Nat.mul_eq_zero.1 hk with h | h
      · omega
      · exact h
    rw [this]; simp
  · rw [if_neg hk, size_zeroCells, hz, ← Nat.add_mul]
    congr 1; omega
theorem iCapL {t ty : TypeId} {e : TypeId} {a : Option Addr} {n c : Nat} {K : Value → Prop} (ht : P.underlying t = some (.slice e)) (h : K (.int .i64 (c : Int))) : xR P w (Builtin.cap_ #[t] ty #[.slice a n c]) K :=
  ⟨_, fun w' _ => by simp [Builtin.cap_, run_underlying ht, goInt], h⟩
theorem sum_take_succ (l : List Nat) {i : Nat} (h : i < l.length) : (l.take (i + 1)).sum = (l.take i).sum + l[i] := by
  rw [List.take_succ_eq_append_getElem h, List.sum_append]; simp
theorem sum_take_le (l : List Nat) (i : Nat) : (l.take i).sum ≤ l.sum := by
  have := congrArg List.sum (List.take_append_drop i l)
  rw [List.sum_append] at this; omega
end
end Go.Vc
namespace Go.Proofs.Ytfadcafacpaldaa
open Go.Vc
abbrev kk_Si64_i64 : Nat := 1
abbrev ts_Si64_i64 := t_Si64
abbrev te_Si64_i64 := t_i64
theorem uu_Si64_i64 : Try.prog.underlying ts_Si64_i64 = some (.slice te_Si64_i64) := u_Si64
theorem ii_Si64_i64 : (Try.prog.info? te_Si64_i64).map (fun i => (i.zero, i.size, i.bytes)) = some (some (.int .i64 0), kk_Si64_i64, 8) := i_Si64
theorem ok_Grow_Si64_i64 (n : Nat) (hn : n ≤ 1099511627776) (w : World) : Cal Try.prog f_slices_Grow_Si64_i64 #[.slice none 0 0, .int .i64 (n : Int)] w fun r w' => Ext w w' ∧ OwK kk_Si64_i64 w.heap.size te_Si64_i64 w' r 0 [] := by
  apply c_slices_Grow_Si64_i64; unfold S_slices_Grow_Si64_i64
  ((with_reducible refine iLt ?_; refine iJn ?_))
  refine iCndP (fun h => by omega) (fun _ => ?_)
  intro _
  refine iCapL (e := te_Si64_i64) uu_Si64_i64 ?_
  ((with_reducible refine iLenL ?_); refine iSub (by omega) ?_; refine iSub (by omega) ?_; (with_reducible refine iLt ?_))
  refine iCndP (fun h => ?_) (fun _ => ⟨Ext.refl w, OwK.nil _ _ _ _⟩)
  refine iCapL (e := te_Si64_i64) uu_Si64_i64 ?_
  refine ⟨none, 0, 0, 0, 0, rfl, ⟨_, rfl⟩, rfl, Nat.le_refl _, Nat.le_refl _, ?_⟩
  have e1 : (n : Int) - (((0 : Nat) : Int) - ((0 : Nat) : Int)) = (n : Int) := by omega
  rw [e1]
  refine iAppZ (k := kk_Si64_i64) uu_Si64_i64 (by kernel_rfl) ii_Si64_i64 rfl (by omega) (by omega) (by omega) fun b c w' cs hnc hcm hcl hX hb hB => ?_
  ((with_reducible refine iLenL ?_))
  refine ⟨some ⟨b, 0, none⟩, n, c, 0, 0, rfl, ⟨_, rfl⟩, rfl, Nat.le_refl _, Nat.zero_le _, ?_⟩
  rw [if_neg (by omega)]
  refine ⟨hX, ?_⟩
  have e2 : (some (⟨b, 0, none⟩ : Addr)).map (·.add (0 * kk_Si64_i64)) = some ⟨b, 0, none⟩ := by simp [Addr.add]
  rw [e2]
  exact ⟨rfl, .inr ⟨b, c, cs.toArray, rfl, by omega, hB, Nat.zero_le _, hcm, by simpa using hcl, by simp⟩⟩
theorem ok_Concat_Si64_i64 {v : Value} {w : World} {vs : List Value} {ps : List (Nat × List Value)} (hs : Sl w v vs) (hl : vs.length = ps.length) (hp : ∀ (i : Nat) (h1 : i < vs.length) (h2 : i < ps.length), SlK kk_Si64_i64 w vs[i] ps[i].1 ps[i].2) (hc : ∀ p ∈ ps, ∀ u ∈ p.2, isCell u = true) (hb : (ps.map Prod.fst).sum ≤ 1099511627776) :
    Cal Try.prog f_slices_Concat_Si64_i64 #[v] w fun r w' => Ext w w' ∧ OwK kk_Si64_i64 w.heap.size te_Si64_i64 w' r (ps.map Prod.fst).sum (ps.flatMap Prod.snd) := by
  apply c_slices_Concat_Si64_i64; unfold S_slices_Concat_Si64_i64
  have hlen := hs.len
  have hpl : (ps.map Prod.fst).length = ps.length := List.length_map _
  refine iLenS hs ?_
  refine iLp (fun s : Nat × Nat => [.int .i64 (s.1 : Int), .int .i64 (s.2 : Int)]) (fun s w' => s.2 ≤ vs.length ∧ w' = w ∧ s.1 = ((ps.map Prod.fst).take s.2).sum) (fun s => vs.length - s.2) (0, 0) rfl ⟨Nat.zero_le _, rfl, rfl⟩ ?_
  rintro ⟨m, i⟩ w2 Kn ⟨hi, rfl, hm⟩ hKn
  have hi : i ≤ vs.length := hi
  have hm : m = ((ps.map Prod.fst).take i).sum := hm
  have hmle := sum_take_le (ps.map Prod.fst) i
  (intro _; (try simp only [gx]); (with_reducible refine iLt ?_))
  refine iCndP (fun h1 => ?_) (fun h1 => ?_)
  · have hi1 : i < vs.length := by omega
    have hsi := hp i hi1 (by omega)
    have hst := sum_take_succ (ps.map Prod.fst) (i := i) (by omega)
    rw [List.getElem_map] at hst
    have hmle1 := sum_take_le (ps.map Prod.fst) (i + 1)
    refine iIa hs (by omega) (by omega) fun p hpc => ?_
    rw [Int.toNat_natCast, List.getElem?_eq_getElem hi1] at hpc
    refine iLd hpc ?_
    refine iLenK hsi ?_
    (refine iAdd (by omega) ?_; (with_reducible refine iLt ?_))
    refine iCndP (fun h2 => by omega) (fun _ => ?_)
    (refine iAdd (by omega) ?_)
    have e1 : (m : Int) + ((ps[i].1 : Nat) : Int) = ((m + ps[i].1 : Nat) : Int) := by omega
    rw [e1]
    exact hKn (m + ps[i].1, i + 1) _ ⟨by show i + 1 ≤ _; omega, rfl, by show m + ps[i].1 = ((ps.map Prod.fst).take (i + 1)).sum; omega⟩ (by show vs.length - (i + 1) < vs.length - i; omega)
  · have e : i = vs.length := by omega
    have hm2 : m = (ps.map Prod.fst).sum := by rw [hm, List.take_of_length_le (by omega)]
    refine iCall ((ok_Grow_Si64_i64 m (by omega) w2).mono ?_)
    rintro r w4 ⟨h4, ho4⟩
    refine iLenS hs ?_
    refine iLp (fun s : Value × Nat => [s.1, .int .i64 (s.2 : Int)]) (fun s w' => s.2 ≤ vs.length ∧ Ext w2 w' ∧ OwK kk_Si64_i64 w2.heap.size te_Si64_i64 w' s.1 ((ps.map Prod.fst).take s.2).sum ((ps.take s.2).flatMap Prod.snd)) (fun s => vs.length - s.2) (r, 0) rfl ⟨Nat.zero_le _, h4, ho4⟩ ?_
    rintro ⟨z, j⟩ w6 Kn6 ⟨hj, h6, ho6⟩ hKn6
    have hj : j ≤ vs.length := hj
    have ho6 : OwK kk_Si64_i64 w2.heap.size te_Si64_i64 w6 z ((ps.map Prod.fst).take j).sum ((ps.take j).flatMap Prod.snd) := ho6
    (intro _; (try simp only [gx]); (with_reducible refine iLt ?_))
    refine iCndP (fun h7 => ?_) (fun h7 => ?_)
    · have hj1 : j < vs.length := by omega
      have hsj := (hp j hj1 (by omega)).ext h6
      have hst := sum_take_succ (ps.map Prod.fst) (i := j) (by omega)
      rw [List.getElem_map] at hst
      have hmle1 := sum_take_le (ps.map Prod.fst) (j + 1)
      have hs6 := hs.ext h6
      refine iIa hs6 (by omega) (by omega) fun p hpc => ?_
      rw [Int.toNat_natCast, List.getElem?_eq_getElem hj1] at hpc
      refine iLd hpc ?_
      refine iAppK uu_Si64_i64 ii_Si64_i64 rfl (by decide) ho6 hsj (hc _ (List.getElem_mem _)) (by omega) (by omega) h6.size fun v' w8 ho8 hg8 _ => ?_
      (refine iAdd (by omega) ?_)
      have ef : (ps.take (j + 1)).flatMap Prod.snd = (ps.take j).flatMap Prod.snd ++ ps[j].2 := by
        rw [List.take_succ_eq_append_getElem (by omega), List.flatMap_append]; simp
      rw [← hst, ← ef] at ho8
      exact hKn6 (v', j + 1) _ ⟨by show j + 1 ≤ _; omega, h6.grown hg8 (fun c hc => (ho6.blk c hc).1), ho8⟩ (by show vs.length - (j + 1) < vs.length - j; omega)
    · have e : j = vs.length := by omega
      rw [List.take_of_length_le (by omega), List.take_of_length_le (by omega)] at ho6
      exact ⟨h6, ho6⟩
end Go.Proofs.Ytfadcafacpaldaa

/- Contracts: equal neighbours dropped from rows of int64, places in rows, a place dropped. Conditions: none. -/
namespace Go.Vc
theorem encI_get (L : List Int) {j : Nat} (hj : j < L.length) : (L.map encI)[j]? = some (encI (gt L j)) := by rw [gt_eq hj]; simp [hj]
def ddI (L : List Int) : List Int := ddA ltI id L
theorem ltI_ne (a b : Int) : (ltI a b || ltI b a) = decide (¬ a = b) := by
  unfold ltI
  rw [Bool.eq_iff_iff, Bool.or_eq_true, decide_eq_true_eq, decide_eq_true_eq, decide_eq_true_eq]
  omega
theorem ddI_take {L : List Int} {i : Nat} (h0 : 1 ≤ i) (hi : i < L.length) : ddI (L.take (i + 1)) = if gt L i = gt L (i - 1) then ddI (L.take i) else ddI (L.take i) ++ [gt L i] := by
  rw [ddI, ddA_take h0 hi, id, id, ltI_ne]
  by_cases h : gt L i = gt L (i - 1)
  · rw [if_pos h, if_neg (by simp [h])]; rfl
  · rw [if_neg h, if_pos (by simpa using fun e => h e.symm)]; rfl
theorem ddI_idk {L : List Int} : ∀ k, k ≤ L.length → (∀ i, 1 ≤ i → i < k → ¬ gt L i = gt L (i - 1)) → ddI (L.take k) = L.take k := by
  intro k
  induction k with
  | zero => intro _ _; rfl
  | succ k ih =>
    intro hk h
    rcases Nat.eq_zero_or_pos k with h0 | h0
    · subst h0
      rw [ddI, ddA_one (by omega), List.take_succ_eq_append_getElem (by omega), gt_eq (by omega)]; rfl
    · rw [ddI_take h0 (by omega), if_neg (h k h0 (by omega)), ih (by omega) fun i h1 h2 => h i h1 (by omega), List.take_succ_eq_append_getElem (by omega), gt_eq (by omega)]
theorem ddI_id {L : List Int} (h : ∀ i, 1 ≤ i → i < L.length → ¬ gt L i = gt L (i - 1)) : ddI L = L := by
  have := ddI_idk L.length (Nat.le_refl _) h
  rwa [List.take_length] at this
/-- What is in order comes out strictly in order, with the same members. -/
theorem ddI_spec {L : List Int} (h : L.Pairwise fun x y => ltI y x = false) : (ddI L).Pairwise (fun a b => a < b) ∧ ∀ a, a ∈ ddI L ↔ a ∈ L := by
  have O : OrdA ltI := ⟨ordrI, fun {a b} h k => by unfold ltI at h k; simp at h k; omega⟩
  obtain ⟨h1, h2, h3⟩ := ddA_spec (key := id) O h L.length (Nat.le_refl _)
  rw [List.take_length] at h1 h2 h3
  rw [List.map_id] at h2
  refine ⟨h2.imp fun h => by unfold ltI at h; exact of_decide_eq_true h, fun a => ⟨fun ha => h1.subset ha, fun ha => ?_⟩⟩
  have := h3 a (by rw [List.map_id]; exact ha)
  rwa [List.map_id] at this
theorem Sl.toKQ {w : World} {v : Value} {xs : List Value} (h : Sl w v xs) {n : Nat} (hn : xs.length = n) : SlK 1 w v n xs := by
  subst hn
  obtain ⟨a, c, hv, h2, h3, h4⟩ := h
  refine ⟨(Nat.mul_one _).symm, a, c, hv, h2, h3, ?_⟩
  rcases h4 with rfl | ⟨b, o, ha, hc⟩
  · exact .inl rfl
  · exact .inr ⟨b, o, ha, fun i hi => hc i (by omega)⟩
theorem Sl.cell {w : World} {v : Value} {xs : List Value} (h : Sl w v xs) : isCell v = true := by
  obtain ⟨_, _, hv, _⟩ := h
  rw [hv]; rfl
end Go.Vc
namespace Go.Proofs.Ytfadcafacpaldaa
open Go.Vc
theorem ok_slices_Compact_Si64_i64 {lo : Nat} {w : World} {v : Value} {L : List Int} (hs : Ow lo t_i64 w v (L.map encI)) (hL : L.length ≤ 1152921504606846976) :
    Cal Try.prog f_slices_Compact_Si64_i64 #[v] w fun r w' => Ow lo t_i64 w' r ((ddI L).map encI) ∧ Ch (fun c => v.ownBlock = some c) w w' ∧ r.ownBlock = v.ownBlock := by
  apply c_slices_Compact_Si64_i64; unfold S_slices_Compact_Si64_i64
  refine iLenS hs.sl ?_
  rw [List.length_map]
  refine iLt ?_
  refine iCndP (fun h => ?_) (fun h => ?_)
  · rw [ddI_id (fun i h1 h2 => by omega)]
    exact ⟨hs, (Ext.refl w).ch, by first | trivial | rfl⟩
  obtain ⟨g, cap, hv, hcap, hcm⟩ := hs.openV (by intro e; have := congrArg List.length e; rw [List.length_map, List.length_nil] at this; omega)
  rw [List.length_map] at hv hcap
  refine iLp (fun k : Nat => [.int .i64 (k : Int)]) (fun k w' => 1 ≤ k ∧ k ≤ L.length ∧ Ext w w' ∧ ∀ i, 1 ≤ i → i < k → ¬ gt L i = gt L (i - 1)) (fun k => L.length - k) 1 rfl ⟨Nat.le_refl _, by omega, Ext.refl _, fun i h1 h2 => by omega⟩ ?_
  rintro k w2 Kn ⟨hk1, hkn, h2, hne⟩ hKn
  have hs2 := hs.ext h2
  intro _
  simp only [gx]
  refine iLenS hs2.sl ?_
  rw [List.length_map]
  refine iLt ?_
  refine iCndP (fun h3 => ?_) (fun h3 => ?_)
  rotate_left
  · rw [ddI_id (fun i h1 h2 => hne i h1 (by omega))]
    exact ⟨hs2, h2.ch, by first | trivial | rfl⟩
  refine iRdO (j := k) hs2 rfl (by omega) ?_
  refine iSub (by omega) ?_
  refine iRdO (j := k - 1) hs2 (by omega) (by omega) ?_
  refine iEq ?_
  intro w3 h23
  have hs3 := hs2.ext h23
  refine iCndP (fun h4 => ?_) (fun h4 => ?_)
  rotate_left
  · refine iAdd (by omega) ?_
    refine hKn (k + 1) _ ⟨by omega, by omega, h2.trans h23, fun i h1 h5 => ?_⟩ (by omega)
    by_cases hi : i = k
    · subst hi; exact h4
    · exact hne i h1 (by omega)
  subst hv
  refine iSlTailV (k := k) (by omega) hcap ?_
  refine iLp (fun s : Nat × Nat => [.int .i64 (s.1 : Int), .int .i64 (s.2 : Int)]) (fun s w' => k ≤ s.1 ∧ s.1 + 1 ≤ k + s.2 ∧ k + s.2 ≤ L.length ∧ ∃ M, Turn lo t_i64 encI (.slice (some ⟨g, 0, none⟩) L.length cap) w w' M ∧ M.length = L.length ∧ M.take s.1 = ddI (L.take (k + s.2)) ∧ ∀ j, k + s.2 ≤ j + 1 → gt M j = gt L j) (fun s => L.length - s.2) (k, 1) rfl
    ⟨Nat.le_refl _, Nat.le_refl _, by show k + 1 ≤ L.length; omega, L, ⟨hs3, (h2.trans h23).ch⟩, rfl, by show L.take k = ddI (L.take (k + 1)); rw [ddI_take hk1 (by omega), if_pos h4, ddI_idk k (by omega) hne], fun _ _ => rfl⟩ ?_
  rintro ⟨kk, k2⟩ w5 Kn5 ⟨hkk, hkk2, hk2, M, ht, hM, hMt, hMe⟩ hKn5
  have hkk : k ≤ kk := hkk
  have hkk2 : kk + 1 ≤ k + k2 := hkk2
  have hk2 : k + k2 ≤ L.length := hk2
  have hMt : M.take kk = ddI (L.take (k + k2)) := hMt
  have hMe : ∀ j, k + k2 ≤ j + 1 → gt M j = gt L j := hMe
  intro _
  simp only [gx]
  refine iLenL ?_
  refine iLt ?_
  refine iCndP (fun h5 => ?_) (fun h5 => ?_)
  · refine iIaL (j := k2) (by omega) ?_
    refine iLd (ht.ow.atV (by rw [List.length_map]; exact hM) (j := k + k2) (by omega) |>.trans (encI_get M (by omega))) ?_
    refine iSub (by omega) ?_
    rw [show (k2 : Int) - 1 = ((k2 - 1 : Nat) : Int) by omega]
    refine iIaL (j := k2 - 1) (by omega) ?_
    refine iLd (ht.ow.atV (by rw [List.length_map]; exact hM) (j := k + (k2 - 1)) (by omega) |>.trans (encI_get M (by omega))) ?_
    refine iNe ?_
    intro w6 h56
    have ht6 := ht.ext h56
    have e1 := hMe (k + k2) (by omega)
    have e2 := hMe (k + (k2 - 1)) (by omega)
    have edd := ddI_take (L := L) (i := k + k2) (by omega) (by omega)
    rw [← e1, show k + k2 - 1 = k + (k2 - 1) by omega, ← e2] at edd
    refine iCndP (fun h6 => ?_) (fun h6 => ?_)
    · rw [if_neg h6, ← hMt] at edd
      refine iIaL (j := k2) (by omega) ?_
      refine iLd (ht6.ow.atV (by rw [List.length_map]; exact hM) (j := k + k2) (by omega) |>.trans (encI_get M (by omega))) ?_
      refine iIaOw ht6.ow (by omega) (by rw [List.length_map]; omega) fun b o hb _ _ hc hf hset => ?_
      refine iSt (hc.trans (List.getElem?_eq_getElem (by rw [List.length_map]; omega))) hf rfl ?_
      have hset := hset (encI (gt M (k + k2)))
      rw [Int.toNat_natCast, ← List.map_set] at hset
      refine iAdd (by omega) ?_
      refine iAdd (by omega) ?_
      refine hKn5 (kk + 1, k2 + 1) _ ⟨by show k ≤ kk + 1; omega, by show kk + 1 + 1 ≤ k + (k2 + 1); omega, by show k + (k2 + 1) ≤ L.length; omega, M.set kk (gt M (k + k2)), ⟨hset, ht6.ch.trans ((Upd.setCell w6 b o _).ch (S := fun c => Value.ownBlock (.slice (some ⟨g, 0, none⟩) L.length cap) = some c) hb) fun _ e => .inl e⟩, by rw [List.length_set]; exact hM, ?_, fun j hj => ?_⟩ (by show L.length - (k2 + 1) < L.length - k2; omega)
      · show (M.set kk (gt M (k + k2))).take (kk + 1) = ddI (L.take (k + (k2 + 1)))
        rw [show k + (k2 + 1) = k + k2 + 1 by omega, edd, List.take_succ_eq_append_getElem (by rw [List.length_set]; omega), List.getElem_set_self, List.take_set_of_le (Nat.le_refl _)]
      · have hj : k + (k2 + 1) ≤ j + 1 := hj
        rw [gt_set _ (by omega), if_neg (by omega)]
        exact hMe j (by omega)
    · rw [if_pos (Classical.not_not.1 h6), ← hMt] at edd
      refine iAdd (by omega) ?_
      exact hKn5 (kk, k2 + 1) _ ⟨hkk, by show kk + 1 ≤ k + (k2 + 1); omega, by show k + (k2 + 1) ≤ L.length; omega, M, ht6, hM, edd.symm, fun j hj => hMe j (by have hj : k + (k2 + 1) ≤ j + 1 := hj; omega)⟩ (by show L.length - (k2 + 1) < L.length - k2; omega)
  · have hend : k + k2 = L.length := by omega
    rw [hend, List.take_length] at hMt
    refine iSlTailV (k := kk) (by omega) hcap ?_
    refine iClrV u_Si64 i_Si64 rfl ht.ow (by rw [List.length_map]; exact hM) (by omega) fun w8 h8 hc8 => ?_
    refine iSlHeadV (k := kk) (by omega) hcap ?_
    rw [show (List.map encI M).take kk = (M.take kk).map encI from (List.map_take ..).symm, hMt] at h8
    exact ⟨h8, ht.ch.trans hc8 fun c hc => .inl (by rw [hc]; rfl), rfl⟩
theorem ok_slices_IndexI {v : Value} {w : World} {c : List Int} (hs : SlI w v c) (x : Int) : Cal Try.prog f_slices_Index_Si64_i64 #[v, .int .i64 x] w fun r w' => Ext w w' ∧ ∃ z : Int, r = .int .i64 z ∧ ((z = -1 ∧ x ∉ c) ∨ ∃ i : Nat, z = (i : Int) ∧ i < c.length ∧ c.getD i 0 = x) := by
  have hl := hs.len
  apply c_slices_Index_Si64_i64; unfold S_slices_Index_Si64_i64
  refine iLenI hs ?_
  refine iLp (fun k : Nat => [.int .i64 (k : Int)]) (fun k w' => k ≤ c.length ∧ Ext w w' ∧ ∀ i, i < k → ¬ c.getD i 0 = x) (fun k => c.length - k) 0 rfl ⟨Nat.zero_le _, Ext.refl _, fun i hi => by omega⟩ ?_
  rintro k w2 Kn ⟨hk, h2, hall⟩ hKn
  have hs2 := hs.ext h2
  intro _
  simp only [gx]
  refine iLt ?_
  refine iCndP (fun h3 => ?_) (fun h3 => ?_)
  · refine iIaI hs2 (by omega) (by omega) fun p hp => ?_
    refine iLd hp ?_
    rw [show c.getD (k : Int).toNat 0 = c.getD k 0 by rw [Int.toNat_natCast]]
    refine iEq ?_
    refine iCndP (fun h4 => ?_) (fun h4 => ?_)
    · exact ⟨h2, k, rfl, .inr ⟨k, rfl, by omega, h4.symm⟩⟩
    · refine iAdd (by omega) ?_
      refine hKn (k + 1) _ ⟨by omega, h2, fun i hi => ?_⟩ (by omega)
      by_cases hik : i = k
      · subst hik; exact fun e => h4 e.symm
      · exact hall i (by omega)
  · refine ⟨h2, -1, rfl, .inl ⟨rfl, fun hx => ?_⟩⟩
    obtain ⟨i, hi, e⟩ := List.getElem_of_mem hx
    refine hall i (by omega) ?_
    simp [List.getD_eq_getElem?_getD, hi, e]
end Go.Proofs.Ytfadcafacpaldaa

/- Contracts: resolvents in the program. Conditions: none. -/
namespace Go.Vc
theorem mem_dropped {c : List Int} (hc : c.Pairwise fun a b => a < b) {i : Nat} (hi : i < c.length) (l : Int) : l ∈ c.take i ++ c.drop (i + 1) ↔ l ∈ c ∧ l ≠ c[i] := by
  have hp := List.pairwise_iff_getElem.1 hc
  rw [List.mem_append, List.mem_take_iff_getElem, List.mem_drop_iff_getElem]
  constructor
  · rintro (⟨k, hk, rfl⟩ | ⟨k, hk, rfl⟩)
    · exact ⟨List.getElem_mem _, fun e => by have := hp k i (by omega) hi (by omega); omega⟩
    · exact ⟨List.getElem_mem _, fun e => by have := hp i (i + 1 + k) hi (by omega) (by omega); omega⟩
  · rintro ⟨h, hn⟩
    obtain ⟨k, hk, rfl⟩ := List.getElem_of_mem h
    rcases Nat.lt_trichotomy k i with h | h | h
    · exact .inl ⟨k, by omega, rfl⟩
    · subst h; exact absurd rfl hn
    · exact .inr ⟨k - (i + 1), by omega, by congr 1; omega⟩
theorem ClOk.len {c : List Int} (h : ClOk c) : c.length ≤ 6 := by
  have := nodup_bound 6 (c.map fun l => (l / 2).toNat) (by
    rw [List.nodup_iff_pairwise_ne, List.pairwise_map]
    refine List.Pairwise.imp_of_mem ?_ h.2
    intro a b ha hb hlt e
    have := (h.1 a ha).1
    have := (h.1 b hb).1
    omega) (by
    intro x hx
    obtain ⟨l, hl, rfl⟩ := List.mem_map.1 hx
    have := h.1 l hl
    omega)
  simpa using this
theorem dropped_len (c : List Int) {i : Nat} (hi : i < c.length) : (c.take i ++ c.drop (i + 1)).length + 1 = c.length := by
  rw [List.length_append, List.length_take, List.length_drop]; omega
end Go.Vc
namespace Go.Proofs.Ytfadcafacpaldaa
open Go.Vc
theorem ok_impl_dropped {v : Value} {w : World} {c : List Int} {i : Nat} (hs : SlI w v c) (hi : i < c.length) (hl : c.length ≤ 1000) :
    Cal Try.prog f_impl_dropped #[v, .int .i64 (i : Int)] w fun r w' => Ext w w' ∧ Ow w.heap.size t_i64 w' r ((c.take i ++ c.drop (i + 1)).map encI) := by
  apply c_impl_dropped; unfold S_impl_dropped
  have hll : (ints c).length = c.length := ints_length c
  refine iSlTo hs (by omega) fun x hx => ?_
  refine iAdd (by omega) ?_
  rw [show (i : Int) + 1 = ((i + 1 : Nat) : Int) by omega]
  refine iSlFrom hs (by omega) fun y hy => ?_
  intro w1 h1
  refine iBs2 rfl hx.cell hy.cell fun b w2 hb h2 hB => ?_
  have hx2 := (hx.ext h1).ext h2
  have hy2 := (hy.ext h1).ext h2
  intro w3 h3
  have hX := (h1.trans h2).trans h3
  refine iCall ((ok_Concat_Si64_i64 (vs := [x, y]) (ps := [(i, (ints c).take i), (c.length - (i + 1), (ints c).drop (i + 1))]) (Sl.ofBlk (n := 2) (hB.ext h3) rfl (by decide)) rfl (fun k g1 g2 => ?_) (fun p hp u hu => ?_) (by simp; omega)).mono ?_)
  · rcases k with _ | _ | k
    · exact (hx2.ext h3).toKQ (by show ((ints c).take i).length = i; rw [List.length_take]; omega)
    · exact (hy2.ext h3).toKQ (by show ((ints c).drop (i + 1)).length = c.length - (i + 1); rw [List.length_drop]; omega)
    · simp at g1; omega
  · simp only [List.mem_cons, List.not_mem_nil, or_false] at hp
    have hcell : ∀ u ∈ ints c, isCell u = true := fun u hu => by
      obtain ⟨z, _, rfl⟩ := List.mem_map.1 hu
      rfl
    rcases hp with rfl | rfl
    · exact hcell _ (List.mem_of_mem_take hu)
    · exact hcell _ (List.mem_of_mem_drop hu)
  · rintro r w4 ⟨h4, ho⟩
    intro w5 h5
    refine ⟨(hX.trans h4).trans h5, ?_⟩
    have := (ho.toOw.ext h5).mono (show w.heap.size ≤ _ from hX.size)
    rw [List.map_append, List.map_take, List.map_drop]
    have h9 : Ow w.heap.size t_i64 w5 r (List.take i (ints c) ++ List.drop (i + 1) (ints c)) := by simpa using this
    exact h9
theorem ok_impl_resolve {va vb : Value} {w : World} {c d : List Int} (hs : SlI w va c) (hd : SlI w vb d) (hc : ClOk c) (hdd : ClOk d) (v : Nat) (hv : v < 6) :
    Cal Try.prog f_impl_resolve #[va, vb, .int .i64 (v : Int)] w fun r w' => Ext w w' ∧ ∃ u, r = .tuple #[u, .bool (resC c d v).isSome] ∧ ∀ x, resC c d v = some x → Ow w.heap.size t_i64 w' u (ints x) := by
  apply c_impl_resolve; unfold S_impl_resolve
  have hcl := hc.len
  have hdl := hdd.len
  refine iMul (by omega) ?_
  refine iCall ((ok_slices_IndexI hs (2 * (v : Int))).mono ?_)
  rintro _ w1 ⟨h1, z1, rfl, hz1⟩
  refine iMul (by omega) ?_
  refine iAdd (by omega) ?_
  refine iCall ((ok_slices_IndexI (hd.ext h1) (2 * (v : Int) + 1)).mono ?_)
  rintro _ w2 ⟨h2, z2, rfl, hz2⟩
  have hX := h1.trans h2
  refine iJnB (decide (z1 < 0) || decide (z2 < 0)) w2 (fun J hJ => ?_) (fun w4 h4 => ?_)
  · refine iLt ?_
    refine iCndP (fun h => ?_) (fun h => ?_)
    · rw [decide_eq_true h, Bool.true_or] at hJ
      exact hJ w2 (Ext.refl _)
    · rw [decide_eq_false h, Bool.false_or] at hJ
      refine iLt ?_
      exact hJ w2 (Ext.refl _)
  intro _
  simp only [gx]
  have hX := hX.trans h4
  cases hb : decide (z1 < 0) || decide (z2 < 0)
  rotate_left
  · refine iCndT rfl ⟨hX, .slice none 0 0, ?_, fun x hx => ?_⟩
    · have : resC c d v = none := by
        unfold resC
        rw [if_neg]
        rintro ⟨a, b, _⟩
        rw [Bool.or_eq_true, decide_eq_true_eq, decide_eq_true_eq] at hb
        rcases hz1 with ⟨_, e⟩ | ⟨i, e, _⟩
        · exact e a
        · rcases hz2 with ⟨_, e'⟩ | ⟨j, e', _⟩
          · exact e' b
          · omega
      rw [this]; rfl
    · have : resC c d v = none := by
        unfold resC
        rw [if_neg]
        rintro ⟨a, b, _⟩
        rw [Bool.or_eq_true, decide_eq_true_eq, decide_eq_true_eq] at hb
        rcases hz1 with ⟨_, e⟩ | ⟨i, e, _⟩
        · exact e a
        · rcases hz2 with ⟨_, e'⟩ | ⟨j, e', _⟩
          · exact e' b
          · omega
      rw [this] at hx; cases hx
  rw [Bool.or_eq_false_iff, decide_eq_false_iff_not, decide_eq_false_iff_not] at hb
  obtain ⟨i, rfl, hi, ei⟩ : ∃ i : Nat, z1 = (i : Int) ∧ i < c.length ∧ c.getD i 0 = 2 * (v : Int) := by
    rcases hz1 with ⟨e, _⟩ | h
    · omega
    · exact h
  obtain ⟨j, rfl, hj, ej⟩ : ∃ j : Nat, z2 = (j : Int) ∧ j < d.length ∧ d.getD j 0 = 2 * (v : Int) + 1 := by
    rcases hz2 with ⟨e, _⟩ | h
    · omega
    · exact h
  have ei' : c[i] = 2 * (v : Int) := by rw [← ei]; simp [List.getD_eq_getElem?_getD, hi]
  have ej' : d[j] = 2 * (v : Int) + 1 := by rw [← ej]; simp [List.getD_eq_getElem?_getD, hj]
  refine iCndF rfl ?_
  refine iCall ((ok_impl_dropped (hs.ext hX) hi (by omega)).mono ?_)
  rintro x w5 ⟨h5, hx⟩
  have hlo4 := hX.size
  have hX5 := hX.trans h5
  refine iCall ((ok_impl_dropped (hd.ext hX5) hj (by omega)).mono ?_)
  rintro y w6 ⟨h6, hy⟩
  have hx6 := (hx.ext h6).mono hlo4
  have hX6 := hX5.trans h6
  have hl1 := dropped_len c hi
  have hl2 := dropped_len d hj
  refine iAppA u_Si64 i_Si64 rfl hx6 hy.sl (fun u hu => by obtain ⟨z, _, rfl⟩ := List.mem_map.1 hu; rfl) (by rw [List.length_map, List.length_map]; omega) (by rw [List.length_map, List.length_map]; omega) hX6.size fun o w7 ho hg _ => ?_
  have hX7 := hX6.grown hg fun b hb => (hx6.blk b hb).1
  rw [← List.map_append] at ho
  have hl3 : ((c.take i ++ c.drop (i + 1)) ++ (d.take j ++ d.drop (j + 1))).length ≤ 12 := by rw [List.length_append]; omega
  refine iCall ((ok_slices_SortI ho hl3).mono ?_)
  rintro _ w8 ⟨L', ht, hp, hpw⟩
  have hX8 := hX7.thenCh ht.ch fun b hb => (ho.blk b hb).1
  refine iCall ((ok_slices_Compact_Si64_i64 ht.ow (by rw [hp.length_eq]; omega)).mono ?_)
  rintro r w9 ⟨ho9, hch9, _⟩
  have hX9 := hX8.thenCh hch9 fun b hb => (ht.ow.blk b hb).1
  obtain ⟨hs1, hs2⟩ := ddI_spec hpw
  have hM : ddI L' = resL c d v := res_merge hc hdd (by rw [← ei']; exact List.getElem_mem hi) (by rw [← ej']; exact List.getElem_mem hj) hs1 fun l => by
    rw [hs2, hp.mem_iff, List.mem_append, mem_dropped hc.lt hi, mem_dropped hdd.lt hj, ei', ej']
  rw [hM] at ho9
  have ho9 : Ow w.heap.size t_i64 w9 r (ints (resL c d v)) := ho9
  refine iRet (ok_impl_isClause ho9.sl) fun w10 h10 => ?_
  refine ⟨hX9.trans h10, r, ?_, fun x hx => ?_⟩
  · unfold resC
    have m1 : 2 * (v : Int) ∈ c := by rw [← ei']; exact List.getElem_mem hi
    have m2 : 2 * (v : Int) + 1 ∈ d := by rw [← ej']; exact List.getElem_mem hj
    by_cases hok : ClOk (resL c d v)
    · rw [if_pos ⟨m1, m2, hok⟩, decide_eq_true hok]; rfl
    · rw [if_neg fun h => hok h.2.2, decide_eq_false hok]; rfl
  · unfold resC at hx
    split at hx
    · cases hx; exact ho9.ext h10
    · cases hx
end Go.Proofs.Ytfadcafacpaldaa

/- Contracts: rows of steps (structs of four cells), equal steps. Conditions: none. -/
namespace Go.Vc
instance : DecidableEq Rs := fun a b => decidable_of_iff (a.c = b.c ∧ a.f = b.f ∧ a.s = b.s ∧ a.v = b.v) (by cases a; cases b; simp)
/-- A step: its clause's slice, and what it is. -/
abbrev RV := Value × Rs
instance : Inhabited RV := ⟨(.slice none 0 0, default)⟩
def csQ (x : RV) : List Value := [x.1, .int .i64 x.2.f, .int .i64 x.2.s, .int .i64 x.2.v]
def valQ (x : RV) : Value := .agg #[x.1, .int .i64 x.2.f, .int .i64 x.2.s, .int .i64 x.2.v]
def cellsQ (L : List RV) : List Value := L.flatMap csQ
theorem cellsQ_at : ∀ {L : List RV} {j : Nat}, j < L.length → ∀ i, i < 4 → (cellsQ L)[j * 4 + i]? = (csQ (gt L j))[i]?
  | [], j, h, _, _ => by simp at h
  | x :: L, 0, _, i, hi => by
    show (csQ x ++ cellsQ L)[0 * 4 + i]? = (csQ x)[i]?
    rw [Nat.zero_mul, Nat.zero_add, List.getElem?_append_left (by show i < 4; exact hi)]
  | x :: L, j + 1, h, i, hi => by
    show (csQ x ++ cellsQ L)[(j + 1) * 4 + i]? = (csQ (gt L j))[i]?
    rw [List.getElem?_append_right (by show 4 ≤ (j + 1) * 4 + i; omega), ← cellsQ_at (L := L) (j := j) (by simpa using h) i hi]
    congr 1
    show (j + 1) * 4 + i - 4 = j * 4 + i
    omega
/-- Steps that can be read. -/
def RdQ (w : World) (v : Value) (L : List RV) : Prop := SlK 4 w v L.length (cellsQ L) ∧ ∀ x ∈ L, SlI w x.1 x.2.c
theorem RdQ.ext {w w' : World} {v : Value} {L : List RV} (h : RdQ w v L) (x : Ext w w') : RdQ w' v L := ⟨h.1.ext x, fun y hy => (h.2 y hy).ext x⟩
theorem iRdQ4 {w : World} {v : Value} {L : List RV} {j : Nat} {k : IntKind} {K : Value → Prop} (hs : SlK 4 w v L.length (cellsQ L)) (hj : j < L.length) (h : K (valQ (gt L j))) : xIa 4 v (.int k (j : Int)) fun p => xLdA w 4 p K := by
  refine iIaK hs hj fun b o hc => ?_
  refine ⟨_, (csQ (gt L j)).toArray, rfl, rfl, fun i hi => ?_, h⟩
  have e : (⟨b, o, none⟩ : Addr).add i = ⟨b, o + i, none⟩ := by
    simp only [Addr.add]; split
    · rename_i e; simp [e]
    · rfl
  rw [e, hc i hi, cellsQ_at hj i hi]
  simp
end Go.Vc
namespace Go.Proofs.Ytfadcafacpaldaa
open Go.Vc
theorem ok_laws_eqResolvent {x y : RV} {w : World} (hx : SlI w x.1 x.2.c) (hy : SlI w y.1 y.2.c) : Ret Try.prog f_laws_eqResolvent #[valQ x, valQ y] w (.bool (decide (x.2 = y.2))) := by
  apply c_laws_eqResolvent; unfold S_laws_eqResolvent
  refine iNew fun b1 w1 e1 h1 B1 => ?_
  refine iNew fun b2 w2 e2 h2 B2 => ?_
  have B1 := B1.ext h2
  have hX := h1.trans h2
  obtain ⟨vx, cx, fx, sx, ux⟩ := x
  obtain ⟨vy, cy, fy, sy, uy⟩ := y
  have hx : SlI w vx cx := hx
  have hy : SlI w vy cy := hy
  have B1 : Blk _ w2 b1 [vx, .int .i64 fx, .int .i64 sx, .int .i64 ux] := B1
  have B2 : Blk _ w2 b2 [vy, .int .i64 fy, .int .i64 sy, .int .i64 uy] := B2
  refine iFa (iLdB B1 (v := vx) rfl ?_)
  refine iFa (iLdB B2 (v := vy) rfl ?_)
  refine iRet (ok_laws_eqInt64S (hx.ext hX) (hy.ext hX)) fun w3 h3 => ?_
  have B1 := B1.ext h3
  have B2 := B2.ext h3
  have hX := hX.trans h3
  refine iNot ?_
  by_cases hc : cx = cy
  · rw [decide_eq_true hc]
    refine iCndF rfl ?_
    refine iFa (iLdB B1 (v := .int .i64 fx) rfl ?_)
    refine iFa (iLdB B2 (v := .int .i64 fy) rfl ?_)
    refine iNe (iCndP (fun h => ?_) (fun h => ?_))
    · exact ⟨by simp [h], hX⟩
    refine iFa (iLdB B1 (v := .int .i64 sx) rfl ?_)
    refine iFa (iLdB B2 (v := .int .i64 sy) rfl ?_)
    refine iNe (iCndP (fun h' => ?_) (fun h' => ?_))
    · exact ⟨by simp [h'], hX⟩
    refine iFa (iLdB B1 (v := .int .i64 ux) rfl ?_)
    refine iFa (iLdB B2 (v := .int .i64 uy) rfl ?_)
    refine iNe (iCndP (fun h2' => ?_) (fun h2' => ?_))
    · exact ⟨by simp [h2'], hX⟩
    · exact ⟨by simp [hc, Classical.not_not.1 h, Classical.not_not.1 h', Classical.not_not.1 h2'], hX⟩
  · rw [decide_eq_false hc]
    exact iCndT rfl ⟨by simp [hc], hX⟩
theorem ok_laws_eqResolventS {v0 v1 : Value} {A B : List RV} {w : World} (h0 : RdQ w v0 A) (h1 : RdQ w v1 B) : Ret Try.prog f_laws_eqResolventS #[v0, v1] w (.bool (decide (A.map Prod.snd = B.map Prod.snd))) := by
  apply c_laws_eqResolventS; unfold S_laws_eqResolventS
  have hA := h0.1.len
  refine iLenK h0.1 (iLenK h1.1 (iNe (iCndP (fun h => ?_) (fun h => ?_))))
  · rw [decide_eq_false (fun e => h (by have := congrArg List.length e; rw [List.length_map, List.length_map] at this; rw [this]))]
    exact ⟨by first | trivial | rfl, Ext.refl _⟩
  · have hl : A.length = B.length := by omega
    refine iLp (fun i : Nat => [.int .i64 (i : Int)]) (fun i w' => i ≤ A.length ∧ Ext w w' ∧ ∀ j, j < i → (gt A j).2 = (gt B j).2) (fun i => A.length - i) 0 rfl ⟨Nat.zero_le _, Ext.refl _, fun j hj => by omega⟩ ?_
    rintro i w2 Kn ⟨hi, h2, he⟩ hKn
    have g0 := h0.ext h2
    have g1 := h1.ext h2
    intro _
    simp only [gx]
    refine iLenK g0.1 (iLt (iCndP (fun h3 => ?_) (fun h3 => ?_)))
    · have hiA : i < A.length := by omega
      have hiB : i < B.length := by omega
      have mA : gt A i ∈ A := by rw [gt_eq hiA]; exact List.getElem_mem hiA
      have mB : gt B i ∈ B := by rw [gt_eq hiB]; exact List.getElem_mem hiB
      refine iRdQ4 g0.1 hiA ?_
      refine iRdQ4 g1.1 hiB ?_
      refine iRetQ (fun w' x => ok_laws_eqResolvent ((g0.2 _ mA).ext x) ((g1.2 _ mB).ext x)) (iNot ?_)
      intro w3 h23
      by_cases h4 : (gt A i).2 = (gt B i).2
      · rw [decide_eq_true h4]
        refine iCndF rfl (iAdd (by omega) ?_)
        refine hKn (i + 1) _ ⟨by omega, h2.trans h23, fun j hj => ?_⟩ (by omega)
        by_cases hji : j = i
        · subst hji; exact h4
        · exact he j (by omega)
      · rw [decide_eq_false h4]
        refine iCndT rfl ?_
        rw [decide_eq_false (fun e => h4 (by
          have := congrArg (fun l : List Rs => l[i]?) e
          simpa [hiA, hiB, gt_eq hiA, gt_eq hiB] using this))]
        exact ⟨by first | trivial | rfl, h2.trans h23⟩
    · rw [decide_eq_true (List.ext_getElem (by rw [List.length_map, List.length_map, hl]) fun j g1 g2 => by
        rw [List.length_map] at g1 g2
        rw [List.getElem_map, List.getElem_map, ← gt_eq g1, ← gt_eq g2]
        exact he j (by omega))]
      exact ⟨by first | trivial | rfl, h2⟩
end Go.Proofs.Ytfadcafacpaldaa

/- Contracts: steps that hold the marks laid in them. Conditions: none. -/
namespace Go.Vc
theorem iFldQ {sz f : Nat} {w : World} {v x : Value} {n : Nat} {xs : List Value} {j : Nat} {k : IntKind} {K : Value → Prop} (hs : SlK sz w v n xs) (h1 : j < n) (hf : f < sz) (hx : xs[j * sz + f]? = some x) (h : K x) : xIa sz v (.int k (j : Int)) fun p => xFa f p fun q => xLd w q K := by
  refine iIaK hs h1 fun b o hc => ?_
  exact iFa (iLd ((hc f hf).trans hx) h)
def totQ (L : List Rs) : Nat := (L.map fun x => x.c.length + 3).sum
theorem totQ_snoc (L : List Rs) (x : Rs) : totQ (L ++ [x]) = totQ L + (x.c.length + 3) := by simp [totQ]
end Go.Vc
namespace Go.Proofs.Ytfadcafacpaldaa
open Go.Vc
/-- A step with the marks from k on. -/
def mk1 (k : Nat) (x : Rs) : Rs := ⟨marks k x.c.length, ((k + x.c.length : Nat) : Int), ((k + x.c.length + 1 : Nat) : Int), ((k + x.c.length + 2 : Nat) : Int)⟩
def mkQ : Nat → List Rs → List Rs
  | _, [] => []
  | k, x :: l => mk1 k x :: mkQ (k + (x.c.length + 3)) l
theorem mkQ_len : ∀ (L : List Rs) (k : Nat), (mkQ k L).length = L.length
  | [], _ => rfl
  | x :: l, k => by simp [mkQ, mkQ_len l]
theorem mkQ_get : ∀ (L : List Rs) (k : Nat) {i : Nat}, i < L.length → gt (mkQ k L) i = mk1 (k + totQ (L.take i)) (gt L i)
  | [], _, i, h => by simp at h
  | x :: l, k, 0, _ => by simp [mkQ, gt, totQ]
  | x :: l, k, i + 1, h => by
    show gt (mkQ (k + (x.c.length + 3)) l) i = mk1 (k + totQ (x :: l.take i)) (gt l i)
    rw [mkQ_get l _ (by simpa using h)]
    congr 1
    simp only [totQ, List.map_cons, List.sum_cons]
    omega
theorem heldN_marks (k n : Nat) : heldN k (marks k n) = ((k + n : Nat) : Int) := by
  have hl : (marks k n).length = n := by simp [marks]
  unfold heldN
  rw [hl, if_pos rfl]
theorem ok_laws_heldResolventS {v : Value} {w : World} {A : List RV} {L : List Rs} (hs : RdQ w v A) (hA : A.map Prod.snd = mkQ 1 L) (hL : totQ L ≤ 1000000000) :
    Ret Try.prog f_laws_heldResolventS #[v, .int .i64 1] w (.int .i64 ((1 + totQ L : Nat) : Int)) := by
  apply c_laws_heldResolventS; unfold S_laws_heldResolventS
  have hlen : A.length = L.length := by
    have := congrArg List.length hA
    rw [List.length_map, mkQ_len] at this
    exact this
  refine iLp (fun i : Nat => [.int .i64 ((1 + totQ (L.take i) : Nat) : Int), .int .i64 (i : Int)]) (fun i w' => i ≤ L.length ∧ Ext w w') (fun i => L.length - i) 0 rfl ⟨Nat.zero_le _, Ext.refl _⟩ ?_
  rintro i w2 Kn ⟨hi, h2⟩ hKn
  have g := hs.ext h2
  intro _
  simp only [gx]
  refine iLenK g.1 (iLt (iCndP (fun h3 => ?_) (fun h3 => ?_)))
  · have hi1 : i < L.length := by omega
    have hiA : i < A.length := by omega
    have hm : gt A i ∈ A := by rw [gt_eq hiA]; exact List.getElem_mem hiA
    have hge : (gt A i).2 = mk1 (1 + totQ (L.take i)) (gt L i) := by
      have e1 : gt (A.map Prod.snd) i = (gt A i).2 := by rw [gt_eq (L := A.map Prod.snd) (by simpa using hiA), List.getElem_map, gt_eq hiA]
      rw [← e1, hA, mkQ_get L 1 hi1]
    have htk : totQ (L.take (i + 1)) = totQ (L.take i) + ((gt L i).c.length + 3) := by
      rw [List.take_succ_eq_append_getElem hi1, totQ_snoc, gt_eq hi1]
    have hle : totQ (L.take (i + 1)) ≤ totQ L := by
      have e := congrArg totQ (List.take_append_drop (i + 1) L)
      simp only [totQ, List.map_append, List.sum_append] at e ⊢
      omega
    have hat := cellsQ_at hiA
    have hcap := g.1.len
    have hcl : (gt A i).2.c = marks (1 + totQ (L.take i)) (gt L i).c.length := by rw [hge]; rfl
    have hf : (gt A i).2.f = ((1 + totQ (L.take i) + (gt L i).c.length : Nat) : Int) := by rw [hge]; rfl
    have hsx : (gt A i).2.s = ((1 + totQ (L.take i) + (gt L i).c.length + 1 : Nat) : Int) := by rw [hge]; rfl
    have hv : (gt A i).2.v = ((1 + totQ (L.take i) + (gt L i).c.length + 2 : Nat) : Int) := by rw [hge]; rfl
    have hrow := g.2 _ hm
    rw [hcl] at hrow
    refine iFldQ (f := 0) (x := (gt A i).1) g.1 hiA (by decide) (by rw [hat 0 (by decide)]; rfl) ?_
    refine iRet (ok_laws_heldInt64S hrow _ (by rw [show (marks (1 + totQ (L.take i)) (gt L i).c.length).length = (gt L i).c.length by simp [marks]]; omega)) fun w3 h23 => ?_
    have g3 := g.ext h23
    rw [heldN_marks]
    refine iLt (iCndP (fun h => by omega) (fun _ => ?_))
    refine iFldQ (f := 1) (x := .int .i64 (gt A i).2.f) g3.1 hiA (by decide) (by rw [hat 1 (by decide)]; rfl) ?_
    refine iNe (iCndP (fun h => absurd hf h) (fun _ => ?_))
    refine iAdd (by omega) ?_
    refine iFldQ (f := 2) (x := .int .i64 (gt A i).2.s) g3.1 hiA (by decide) (by rw [hat 2 (by decide)]; rfl) ?_
    refine iNe (iCndP (fun h => absurd (by rw [hsx]; omega) h) (fun _ => ?_))
    refine iAdd (by omega) ?_
    refine iFldQ (f := 3) (x := .int .i64 (gt A i).2.v) g3.1 hiA (by decide) (by rw [hat 3 (by decide)]; rfl) ?_
    refine iNe (iCndP (fun h => absurd (by rw [hv]; omega) h) (fun _ => ?_))
    refine iAdd (by omega) ?_
    refine iAdd (by omega) ?_
    have hz : ((1 + totQ (L.take i) + (gt L i).c.length : Nat) : Int) + 1 + 1 + 1 = ((1 + totQ (L.take (i + 1)) : Nat) : Int) := by rw [htk]; omega
    rw [hz]
    exact hKn (i + 1) _ ⟨by omega, h2.trans h23⟩ (by omega)
  · obtain rfl : i = L.length := by omega
    rw [List.take_length]
    exact ⟨rfl, h2⟩
end Go.Proofs.Ytfadcafacpaldaa

/- Maps from int64 to true: sets of numbers. No function in sight. Conditions: none. -/
namespace Go.Vc
/-- The map holds 'true' at these keys and nothing else. -/
def MapS (w : World) (b : Nat) (S : Int → Prop) : Prop := ∃ es clock, w.heap[b]? = some (.map es clock) ∧ (∀ x ∈ es.toList, ∃ k : Int, x.key = .int .i64 k ∧ x.val = .bool true ∧ S k) ∧ ∀ k, S k → ∃ x ∈ es.toList, x.key = .int .i64 k
theorem MapS.ext {w w' : World} {b : Nat} {S : Int → Prop} (h : MapS w b S) (x : Ext w w') : MapS w' b S := by
  obtain ⟨es, clock, hb, h⟩ := h
  exact ⟨es, clock, by rw [Go.RowKit.Below.block x b (heap_lt hb)]; exact hb, h⟩
theorem MapS.ch {D : Nat → Prop} {w w' : World} {b : Nat} {S : Int → Prop} (h : MapS w b S) (x : Ch D w w') (hn : ¬ D b) : MapS w' b S := by
  obtain ⟨es, clock, hb, h⟩ := h
  exact ⟨es, clock, by rw [x.block b (heap_lt hb) hn]; exact hb, h⟩
theorem MapS.ne_ow {w : World} {b lo k n : Nat} {S : Int → Prop} {e : TypeId} {v : Value} {xs : List Value} (h : MapS w b S) (ho : OwK k lo e w v n xs) : ∀ c, v.ownBlock = some c → ¬ c = b := by
  obtain ⟨es, clock, hb, h⟩ := h
  rintro c hc rfl
  obtain ⟨cur, h1⟩ := ho.ty hc
  rw [h1] at hb; cases hb
theorem MapS.ne_blk {w : World} {b q : Nat} {S : Int → Prop} {e : TypeId} {cs : List Value} (h : MapS w b S) (hq : Blk e w q cs) : ¬ q = b := by
  obtain ⟨es, clock, hb, h⟩ := h
  rintro rfl
  unfold Blk at hq
  rw [hq] at hb; cases hb
theorem MapS.keys {S : Int → Prop} {es : Array MapEntry} (h : ∀ x ∈ es.toList, ∃ k : Int, x.key = .int .i64 k ∧ x.val = .bool true ∧ S k) : ∀ x ∈ es.toList, MapKept.IsKey (.int .i64) x.key := fun x hx => by
  obtain ⟨t, e, _⟩ := h x hx
  rw [e]; exact rfl
section
variable {P : Program} {t k e : TypeId} {S : Int → Prop}
theorem iSetMade {w : World} {K : Value → World → Prop} (h : ∀ b w', b = w.heap.size → Ext w w' → MapS w' b (fun _ => False) → K (.map (some b)) w') : xOp P (Instr.makeMap t none) w K :=
  ⟨_, _, rfl, h _ _ rfl (Ext.alloc w _) ⟨#[], 0, heap_alloc_new w _, by simp, fun _ h => h.elim⟩⟩
theorem iSetLook {w : World} {b : Nat} {s : Int} {K : Value → Prop} (h : MapS w b S) (ht : P.underlying t = some (.map k e)) (hk : P.underlying k = some (.int .i64)) (hz : ∀ w, (zeroValue e).run P w = .ok (.bool false) w)
    (h0 : ¬ S s → K (.bool false)) (h1 : S s → K (.bool true)) : xR P w (Instr.lookup t (.map (some b)) (.int .i64 s) false) K := by
  obtain ⟨es, clock, hb, hm, hc⟩ := h
  have hb' : ∀ w', Ext w w' → w'.heap[b]? = some (.map es clock) := fun w' x => by rw [Go.RowKit.Below.block x b (heap_lt hb)]; exact hb
  rcases MapKept.findNow_spec (k := .int .i64 s) (d := .int .i64) rfl es.toList 0 (MapS.keys hm) with ⟨f1, f2⟩ | ⟨j, e0, f1, f2, f3⟩
  · refine ⟨_, fun w' x => ?_, h0 fun hs => ?_⟩
    · simp [Instr.lookup, run_underlying ht, MapKept.run_getObj_map (hb' w' x), MapKept.run_checkKey (k := .int .i64 s) hk rfl, MapKept.run_findKey hk f1, hz, Result.andThen]
    · obtain ⟨x, hx, e⟩ := hc s hs
      exact f2 x hx e
  · obtain ⟨u, e1, e2, hq⟩ := hm e0 (List.mem_of_getElem? f2)
    rw [f3] at e1
    have e1 : s = u := by injection e1
    subst e1
    refine ⟨_, fun w' x => ?_, h1 hq⟩
    simp [Instr.lookup, run_underlying ht, MapKept.run_getObj_map (hb' w' x), MapKept.run_checkKey (k := .int .i64 s) hk rfl, MapKept.run_findKey hk f1, Result.andThen, e2]
theorem iSetPut {w : World} {b : Nat} {s : Int} {K : World → Prop} (h : MapS w b S) (ht : P.underlying t = some (.map k e)) (hk : P.underlying k = some (.int .i64))
    (h1 : ∀ w', MapS w' b (fun x => S x ∨ x = s) → Ch (fun c => c = b) w w' → K w') : xOpU P (Instr.mapUpdate t (.map (some b)) (.int .i64 s) (.bool true)) w K := by
  obtain ⟨es, clock, hb, hm, hc⟩ := h
  have hset : ∀ o, ({ w with heap := w.heap.setIfInBounds b o } : World).heap[b]? = some o ∧ Ch (fun c => c = b) w { w with heap := w.heap.setIfInBounds b o } := fun o =>
    ⟨(MapKept.heap_set hb).1, rfl, rfl, rfl, by simp, fun i _ hi => (MapKept.heap_set hb).2 i hi⟩
  rcases MapKept.findNow_spec (k := .int .i64 s) (d := .int .i64) rfl es.toList 0 (MapS.keys hm) with ⟨f1, f2⟩ | ⟨j, e0, f1, f2, f3⟩
  · refine ⟨_, ?_, h1 { w with heap := w.heap.setIfInBounds b (.map (es.push ⟨.int .i64 s, .bool true, clock⟩) (clock + 1)) } ⟨_, _, (hset _).1, fun x hx => ?_, fun q hq => ?_⟩ (hset _).2⟩
    · simp [Instr.mapUpdate, run_underlying ht, MapKept.run_getObj_map hb, MapKept.run_checkKey (k := .int .i64 s) hk rfl, MapKept.run_findKey hk f1, MapKept.run_setObj_map _ hb, Result.andThen]
    · simp only [Array.toList_push, List.mem_append, List.mem_singleton] at hx
      rcases hx with hx | rfl
      · obtain ⟨q, a1, a2, a3⟩ := hm x hx
        exact ⟨q, a1, a2, .inl a3⟩
      · exact ⟨s, rfl, rfl, .inr rfl⟩
    · simp only [Array.toList_push, List.mem_append, List.mem_singleton]
      rcases hq with hq | rfl
      · obtain ⟨x, hx, e⟩ := hc q hq
        exact ⟨x, .inl hx, e⟩
      · exact ⟨_, .inr rfl, rfl⟩
  · have hj : j < es.size := by have := (List.getElem?_eq_some_iff.1 f2).1; simpa using this
    have hkey : ((es[j]?).map (·.key)).getD (.int .i64 s) = .int .i64 s := by
      have : es[j]? = some e0 := by simpa using f2
      rw [this]; exact f3
    obtain ⟨u, e1, e2, hq⟩ := hm e0 (List.mem_of_getElem? f2)
    have hu : s = u := by rw [f3] at e1; injection e1
    subst hu
    refine ⟨_, ?_, h1 { w with heap := w.heap.setIfInBounds b (.map (es.modify j fun e => { e with key := .int .i64 s, val := .bool true }) clock) } ⟨_, _, (hset _).1, fun x hx => ?_, fun q hq' => ?_⟩ (hset _).2⟩
    · simp only [Nat.zero_add] at f1
      simp [Instr.mapUpdate, run_underlying ht, MapKept.run_getObj_map hb, MapKept.run_checkKey (k := .int .i64 s) hk rfl, MapKept.run_findKey hk f1, MapKept.run_setObj_map _ hb, Result.andThen, hkey, MapKept.run_keyThatStays (k := .int .i64 s) (d := .int .i64) rfl]
    · rw [Array.toList_modify] at hx
      obtain ⟨i, hi, rfl⟩ := List.getElem_of_mem hx
      rw [List.getElem_modify]
      split
      · exact ⟨s, rfl, rfl, .inr rfl⟩
      · obtain ⟨q, a1, a2, a3⟩ := hm _ (List.getElem_mem (by simpa using hi))
        exact ⟨q, a1, a2, .inl a3⟩
    · have hq2 : S q := by
        rcases hq' with h | h
        · exact h
        · subst h; exact hq
      obtain ⟨x, hx, e⟩ := hc q hq2
      obtain ⟨i, hi, rfl⟩ := List.getElem_of_mem hx
      rw [Array.toList_modify]
      refine ⟨(es.toList.modify j fun e => { e with key := .int .i64 s, val := .bool true })[i]'(by simpa using hi), List.getElem_mem _, ?_⟩
      rw [List.getElem_modify]
      split
      · rename_i hij
        subst hij
        have : es.toList[j] = e0 := by
          have := List.getElem?_eq_getElem hi
          rw [f2] at this
          exact (Option.some.inj this).symm
        rw [this, f3] at e
        exact e
      · exact e
end
end Go.Vc

/- Contracts: a step is added to the program's refuter. Conditions: none. -/
namespace Go.Vc
theorem iBsQ {w : World} {e : TypeId} {a b c d z1 z2 z3 z4 : Value} {K : Value → World → Prop} (h : ∀ bb w', bb = w.heap.size ∧ w'.heap.size = bb + 1 → Ext w w' → Blk e w' bb [a, b, c, d] → K (.slice (some ⟨bb, 0, none⟩) 1 1) w') :
    xBs e (Value.cells (.agg #[z1, z2, z3, z4])) 4 1 [(0, .agg #[a, b, c, d])] w K := by
  refine ⟨#[a, b, c, d], ?_, h _ _ ⟨rfl, by simp⟩ (Ext.alloc w _) (Blk.new w #[a, b, c, d] e)⟩
  simp [Instr.fill, Value.cells, show Array.range 4 = #[0, 1, 2, 3] from rfl]
theorem OwP.chQ {S : Nat → Prop} {lo : Nat} {e : TypeId} {w w' : World} {P : List (Value × List Int)} (h : OwP lo e w P) (k : Ch S w w') (hn : ∀ p ∈ P, ∀ c, p.1.ownBlock = some c → ¬ S c) : OwP lo e w' P := ⟨fun p hp => (h.1 p hp).ch k (hn p hp), h.2⟩
theorem MapS.ne_owI {w : World} {b lo : Nat} {S : Int → Prop} {e : TypeId} {v : Value} {xs : List Value} (h : MapS w b S) (ho : Ow lo e w v xs) : ∀ c, v.ownBlock = some c → ¬ c = b := by
  obtain ⟨es, clock, hb, h⟩ := h
  rintro c hc rfl
  obtain ⟨cur, h1⟩ := ho.ty hc
  rw [h1] at hb; cases hb
theorem ne_owK {w : World} {lo lo' k n : Nat} {e e' : TypeId} {v v' : Value} {xs xs' : List Value} (h : Ow lo e w v xs) (h' : OwK k lo' e' w v' n xs') (hne : e ≠ e') : ∀ c, v.ownBlock = some c → v'.ownBlock ≠ some c := by
  intro c hc hc'
  obtain ⟨cur, h1⟩ := h.ty hc
  obtain ⟨cur', h2⟩ := h'.ty hc'
  rw [h1] at h2
  cases h2
  exact hne rfl
theorem SlK.cellQ {k n : Nat} {w : World} {v : Value} {xs : List Value} (h : SlK k w v n xs) : isCell v = true := by
  obtain ⟨_, _, _, hv, _⟩ := h
  rw [hv]; rfl
theorem cellsQ_app (L M : List RV) : cellsQ (L ++ M) = cellsQ L ++ cellsQ M := by simp [cellsQ]
end Go.Vc
namespace Go.Proofs.Ytfadcafacpaldaa
open Go.Vc
/-- The program's refuter holds these steps. -/
structure RfW (lo : Nat) (eR : TypeId) (w : World) (b bm : Nat) (u : Value) (st : List RV) : Prop where
  blk : Blk eR w b [u, .map (some bm)]
  row : OwK 4 lo t_impl_Resolvent w u st.length (cellsQ st)
  set : MapS w bm (fun k => ∃ x ∈ st, k = ((keyC x.2.c : Nat) : Int))
  own : OwP lo t_i64 w (st.map fun x => (x.1, x.2.c))
  lob : lo ≤ b
  lom : lo ≤ bm
theorem RfW.ext {lo : Nat} {eR : TypeId} {w w' : World} {b bm : Nat} {u : Value} {st : List RV} (h : RfW lo eR w b bm u st) (x : Ext w w') : RfW lo eR w' b bm u st :=
  ⟨h.blk.ext x, h.row.ext x, h.set.ext x, h.own.ext x, h.lob, h.lom⟩
theorem ok_impl_refuter_add {lo : Nat} {eR : TypeId} {w : World} {b bm : Nat} {u : Value} {st : List RV} {x : RV} (he1 : t_i64 ≠ eR) (he2 : t_impl_Resolvent ≠ eR) (h : RfW lo eR w b bm u st) (hx : Ow lo t_i64 w x.1 (ints x.2.c)) (hne : ∀ p ∈ st, ∀ c, p.1.ownBlock = some c → x.1.ownBlock ≠ some c) (hc : ClOk x.2.c) (hst : ∀ y ∈ st, ClOk y.2.c) (hn : st.length ≤ 1000) (hlo : lo ≤ w.heap.size) :
    Cal Try.prog f_impl_refuter_add #[.pointer (some ⟨b, 0, none⟩), valQ x] w fun r w' =>
      (x.2.c ∈ st.map (fun y => y.2.c) ∧ r = .bool false ∧ Ext w w') ∨ (x.2.c ∉ st.map (fun y => y.2.c) ∧ r = .bool x.2.c.isEmpty ∧ Ch (fun k => k = b ∨ k = bm ∨ u.ownBlock = some k) w w' ∧ ∃ u', RfW lo eR w' b bm u' (st ++ [x])) := by
  apply c_impl_refuter_add; unfold S_impl_refuter_add
  obtain ⟨xv, xc, xf, xs, xu⟩ := x
  have hx : Ow lo t_i64 w xv (ints xc) := hx
  have hc : ClOk xc := hc
  have hne : ∀ p ∈ st, ∀ c, p.1.ownBlock = some c → xv.ownBlock ≠ some c := hne
  refine iNew fun bx w1 e1 h1 BX => ?_
  have BX : Blk _ w1 bx [xv, .int .i64 xf, .int .i64 xs, .int .i64 xu] := BX
  have g := h.ext h1
  have hx1 := hx.ext h1
  refine iNil ?_
  refine iFa (iLdB g.blk (v := .map (some bm)) rfl ?_)
  refine iFa (iLdB BX (v := xv) rfl ?_)
  refine iRetQ (fun w' k => ok_impl_clauseKey (SlI.ext hx1.sl k) hc.1) ?_
  have hmem : (∃ y ∈ st, ((keyC xc : Nat) : Int) = ((keyC y.2.c : Nat) : Int)) ↔ xc ∈ st.map (fun y => y.2.c) := by
    rw [List.mem_map]
    constructor
    · rintro ⟨y, hy, e⟩
      exact ⟨y, hy, (keyC_inj hc (hst y hy) (by omega)).symm⟩
    · rintro ⟨y, hy, e⟩
      exact ⟨y, hy, by rw [e]⟩
  refine iSetLook (k := t_i64) (e := 4) g.set (by kernel_rfl) (by kernel_rfl) (fun _ => rfl) (fun hno => ?_) (fun hyes => ?_)
  rotate_left
  · intro w2 h2
    exact iCndT rfl (.inl ⟨hmem.1 hyes, rfl, h1.trans h2⟩)
  intro w2 h2
  have g := g.ext h2
  have BX := BX.ext h2
  have hx2 := hx1.ext h2
  refine iCndF rfl ?_
  have hX2 := h1.trans h2
  refine iNil ?_
  refine iFa (iLdB g.blk (v := .map (some bm)) rfl ?_)
  refine iFa (iLdB BX (v := xv) rfl ?_)
  refine iRetQ (fun w' k => ok_impl_clauseKey (SlI.ext hx2.sl k) hc.1) ?_
  intro w3 h3
  have g := g.ext h3
  have BX := BX.ext h3
  have hx3 := hx2.ext h3
  have hX3 := hX2.trans h3
  refine iSetPut (k := t_i64) (e := 4) g.set (by kernel_rfl) (by kernel_rfl) fun w4 hm4 hch4 => ?_
  have hb4 : ¬ b = bm := fun e => g.set.ne_blk g.blk e
  have hbx4 : ¬ bx = bm := fun e => g.set.ne_blk BX e
  have blk4 := g.blk.ch hch4 hb4
  have BX4 := BX.ch hch4 hbx4
  have row4 := g.row.ch hch4 fun c hc' => g.set.ne_ow g.row c hc'
  have own4 := OwP.chQ g.own hch4 fun p hp c hc' e => g.set.ne_owI (g.own.1 p hp) c hc' e
  have hx4 := hx3.ch hch4 fun c hc' e => g.set.ne_owI hx3 c hc' e
  intro w5 h5
  have blk5 := blk4.ext h5
  have BX5 := BX4.ext h5
  have row5 := row4.ext h5
  have own5 := own4.ext h5
  have hx5 := hx4.ext h5
  have hm5 := hm4.ext h5
  refine iNil ?_
  refine iFa (iLdB blk5 (v := u) rfl ?_)
  refine iLdA BX5 rfl ?_
  intro w6 h6
  refine iBsQ fun bb w7 hbb h7 hB => ?_
  refine ⟨h7, ?_⟩
  intro w8 h8
  have h58 := (h6.trans h7).trans h8
  have blk8 := blk5.ext h58
  have BX8 := BX5.ext h58
  have row8 := row5.ext h58
  have own8 := own5.ext h58
  have hx8 := hx5.ext h58
  have hm8 := hm5.ext h58
  have hsl : SlK 4 w8 (.slice (some ⟨bb, 0, none⟩) 1 1) 1 [xv, .int .i64 xf, .int .i64 xs, .int .i64 xu] := (OwK.ofBlk (k := 4) (lo := 0) (n := 1) (hB.ext h8) (Nat.zero_le _) rfl (by omega)).sl
  have hsz : w.heap.size ≤ w8.heap.size := Nat.le_trans (Nat.le_trans hX3.size hch4.size) (Nat.le_trans h5.size h58.size)
  refine iAppK u_Simpl_Resolvent i_Simpl_Resolvent rfl (by decide) row8 hsl (fun y hy => by
    simp only [List.mem_cons, List.not_mem_nil, or_false] at hy
    rcases hy with rfl | rfl | rfl | rfl
    · exact hx8.cell
    · rfl
    · rfl
    · rfl) (by omega) (by omega) (by omega) fun u' w9 ho' hg hat => ?_
  have hg9 := grown_ch (S := fun k => u.ownBlock = some k) hg fun k hk => hk
  have hubx : u.ownBlock ≠ some bx := fun e => by have := (h.row.blk bx e).2; omega
  have blk9 := blk8.grown hg (row8.ne_blk blk8 he2)
  have BX9 := BX8.grown hg hubx
  have own9 := OwP.chQ own8 hg9 fun p hp c hc' hS => ne_owK (own8.1 p hp) row8 (by decide) c hc' hS
  have hx9 := hx8.ch hg9 fun c hc' hS => ne_owK hx8 row8 (by decide) c hc' hS
  have hm9 := hm8.ch hg9 fun hS => hm8.ne_ow row8 _ hS rfl
  refine iNil ?_
  refine iFa ?_
  intro w10 h10
  have blk10 := blk9.ext h10
  have BX10 := BX9.ext h10
  have own10 := own9.ext h10
  have hx10 := hx9.ext h10
  have hm10 := hm9.ext h10
  have ho10 := ho'.ext h10
  refine iStB blk10 (by simp) ho10.sl.cellQ fun hB11 => ?_
  have hu := Upd.setCell w10 b 0 u'
  have hch11 := hu.ch (S := fun k => k = b) rfl
  have hbx : bx ≠ b := fun e => by have := h.blk.lt; omega
  have BX11 := BX10.upd hu hbx
  have own11 := OwP.chQ own10 hch11 fun p hp c hc' hS => (own10.1 p hp).ne_blk blk10 he1 (by rw [hc', hS])
  have hx11 := hx10.ch hch11 fun c hc' hS => hx10.ne_blk blk10 he1 (by rw [hc', hS])
  have hm11 := hm10.ch hch11 fun hS => hb4 hS.symm
  have ho11 := ho10.ch hch11 fun c hc' hS => ho10.ne_blk blk10 he2 (by rw [hc', hS])
  intro w12 h12
  have BX12 := BX11.ext h12
  have hx12 := hx11.ext h12
  refine iFa (iLdB BX12 (v := xv) rfl ?_)
  refine iLenI (SlI.ext hx11.sl h12) ?_
  refine iEq ?_
  refine .inr ⟨fun hm => hno (hmem.2 hm), ?_, ?_, u', hB11.ext h12, ?_, ?_, ?_, h.lob, h.lom⟩
  · show Value.bool _ = Value.bool xc.isEmpty
    congr 1
    cases xc with
    | nil => rfl
    | cons a l => simp; omega
  · have c4 := (hX3.ch (S := fun k => k = b ∨ k = bm ∨ u.ownBlock = some k)).trans hch4 fun k e => .inl (.inr (.inl e))
    have c8 := (c4.trans (h5.ch (S := fun _ => False)) fun _ e => e.elim).trans (h58.ch (S := fun _ => False)) fun _ e => e.elim
    have c9 := c8.trans hg9 fun k e => .inl (.inr (.inr e))
    have c10 := c9.trans (h10.ch (S := fun _ => False)) fun _ e => e.elim
    have c11 := c10.trans hch11 fun k e => .inl (.inl e)
    exact c11.trans (h12.ch (S := fun _ => False)) fun _ e => e.elim
  · have := ho11.ext h12
    rw [cellsQ_app, List.length_append]
    exact this
  · obtain ⟨es, clock, q1, q2, q3⟩ := hm11.ext h12
    refine ⟨es, clock, q1, fun y hy => ?_, fun k hk => ?_⟩
    · obtain ⟨k, r1, r2, r3⟩ := q2 y hy
      refine ⟨k, r1, r2, ?_⟩
      rcases r3 with ⟨z, hz, e⟩ | e
      · exact ⟨z, List.mem_append_left _ hz, e⟩
      · exact ⟨(xv, ⟨xc, xf, xs, xu⟩), by simp, e⟩
    · obtain ⟨z, hz, e⟩ := hk
      refine q3 k ?_
      rcases List.mem_append.1 hz with hz | hz
      · exact .inl ⟨z, hz, e⟩
      · simp at hz; subst hz
        exact .inr e
  · rw [List.map_append]
    refine ⟨fun p hp => ?_, List.pairwise_append.2 ⟨own11.2, List.pairwise_singleton _ _, fun p hp q hq c hc' hc2 => ?_⟩⟩
    · rcases List.mem_append.1 hp with hp | hp
      · exact ((own11.ext h12).1 p hp)
      · simp at hp; subst hp
        exact hx12
    · simp at hq; subst hq
      obtain ⟨y, hy, rfl⟩ := List.mem_map.1 hp
      exact hne y hy c hc' hc2
end Go.Proofs.Ytfadcafacpaldaa

/- Steps for pairs of numbers laid out as arrays. No function in sight. Conditions: none. -/
namespace Go.Vc
/-- An array of two numbers. -/
theorem iArr2 {P : Program} {w : World} {t t' : TypeId} {a b : Int} {K : Value → Prop} (hu : P.underlying t = some (.array 2 t')) (hi : (P.info? t).map (fun i => i.zero) = some (some (.agg #[.int .i64 0, .int .i64 0]))) (hs : (P.info? t').map (fun i => i.size) = some 1)
    (h : K (.agg #[.int .i64 a, .int .i64 b])) : xR P w (Instr.build t #[(0, .int .i64 a), (1, .int .i64 b)]) K := by
  obtain ⟨i, hi', hz⟩ := Option.map_eq_some_iff.1 hi
  obtain ⟨i2, hi2, hz2⟩ := Option.map_eq_some_iff.1 hs
  refine ⟨_, fun w' _ => ?_, h⟩
  simp [Instr.build, zeroValue, run_info hi', hz, run_underlying hu, run_size hi2, hz2, Instr.fill, Value.cells]
end Go.Vc

/- Plain law of the search for refutations, fifth part: one pair in both orders, one order after the other. No program in sight. Conditions: none. -/
namespace Go.Vc
/-- One pair in one order. -/
def hstep (a b v : Nat) (st : RfSt) : RfSt :=
  if st.2 then st else
  match resC (st.1.getD a default).c (st.1.getD b default).c v with
  | some r => addS st ⟨r, a, b, v⟩
  | none => st
theorem grew_hstep (a b v : Nat) (st : RfSt) : Grew st (hstep a b v st) := by
  unfold hstep
  split
  · exact .refl _
  · split
    · exact grew_add _ _
    · exact .refl _
theorem RInv.hstep {st : RfSt} (h : RInv st) (a b v : Nat) : RInv (hstep a b v st) := by
  unfold Go.Vc.hstep
  split
  · exact h
  · rename_i h2
    have h2 : st.2 = false := by simpa using h2
    split
    · rename_i r hr
      exact h.add h2 (resC_ok hr)
    · exact h
theorem pstep_two {st : RfSt} (h : RInv st) {i j : Nat} (hi : i < st.1.length) (hj : j < st.1.length) (v : Nat) : pstep j i v st = hstep j i v (hstep i j v st) := by
  cases h2 : st.2
  · have hci : ClOk (st.1.getD i default).c := by
      have := h.ok st.1[i] (List.getElem_mem hi)
      simpa [List.getD_eq_getElem?_getD, hi] using this
    have g := grew_hstep i j v st
    have gi := g.get i hi
    have gj := g.get j hj
    cases hr : resC (st.1.getD i default).c (st.1.getD j default).c v with
    | none =>
      have e : hstep i j v st = st := by unfold hstep; rw [h2, hr]; rfl
      rw [e]
      unfold pstep hstep
      rw [h2, hr]
      rfl
    | some r =>
      have hn := resC_one hci (show resC (st.1.getD i default).c (st.1.getD j default).c v ≠ none by rw [hr]; simp)
      have e : pstep j i v st = hstep i j v st := by
        unfold pstep hstep
        rw [h2, hr]
      rw [e]
      generalize hh : hstep i j v st = st' at *
      unfold hstep
      rw [gi, gj, hn]
      split <;> rfl
  · have e : hstep i j v st = st := by unfold hstep; rw [h2]; rfl
    rw [e]
    unfold pstep hstep
    rw [h2]; rfl
end Go.Vc

/- Contracts: the program's refuter resolves a pair of steps on every variable, in both orders. Conditions: none. -/
namespace Go.Vc
theorem iBsP2 {w : World} {e : TypeId} {a b c d z1 z2 : Value} {K : Value → World → Prop} (h : ∀ bb w', bb = w.heap.size ∧ w'.heap.size = bb + 1 → Ext w w' → Blk e w' bb [a, b, c, d] → K (.slice (some ⟨bb, 0, none⟩) 2 2) w') :
    xBs e (Value.cells (.agg #[z1, z2])) 2 2 [(0, .agg #[a, b]), (1, .agg #[c, d])] w K := by
  refine ⟨#[a, b, c, d], ?_, h _ _ ⟨rfl, by simp⟩ (Ext.alloc w _) (Blk.new w #[a, b, c, d] e)⟩
  simp [Instr.fill, Value.cells, show Array.range 4 = #[0, 1, 2, 3] from rfl]
theorem iIaAQ {len b j : Nat} {k : IntKind} {K : Value → Prop} (hj : j < len) (h : K (.pointer (some ⟨b, j, none⟩))) : xIaA len 1 (.pointer (some ⟨b, 0, none⟩)) (.int k (j : Int)) K := by
  refine ⟨_, _, _, rfl, rfl, by omega, by omega, ?_⟩
  have : (⟨b, 0, none⟩ : Addr).add ((j : Int).toNat * 1) = ⟨b, j, none⟩ := by
    simp only [Addr.add, Int.toNat_natCast, Nat.mul_one]; split
    · rename_i e; simp [e]
    · simp
  rw [this]; exact h
/-- A whole element of k cells. -/
theorem iRdAgg {sz n j : Nat} {w : World} {v : Value} {xs ys : List Value} {k : IntKind} {K : Value → Prop} (hs : SlK sz w v n xs) (hj : j < n) (hl : ys.length = sz) (hy : ∀ i, i < sz → xs[j * sz + i]? = ys[i]?) (h : K (.agg ys.toArray)) : xIa sz v (.int k (j : Int)) fun p => xLdA w sz p K := by
  refine iIaK hs hj fun b o hc => ?_
  refine ⟨_, ys.toArray, rfl, by simpa using hl, fun i hi => ?_, h⟩
  have e : (⟨b, o, none⟩ : Addr).add i = ⟨b, o + i, none⟩ := by
    simp only [Addr.add]; split
    · rename_i e; simp [e]
    · rfl
  rw [e, hc i hi, hy i hi]
  simp
theorem fillQ4 {a b c d z1 z2 z3 z4 : Value} (ha : isCell a = true) (hb : isCell b = true) (hc : isCell c = true) (hd : isCell d = true) : Instr.fill ((#[(0, 1), (1, 1), (2, 1), (3, 1)] : Array (Nat × Nat))[·]?) #[z1, z2, z3, z4] [(0, a), (1, b), (2, c), (3, d)] = some #[a, b, c, d] := by
  simp [Instr.fill, isCell_cells ha, isCell_cells hb, isCell_cells hc, isCell_cells hd]
theorem snd_getD (st : List RV) {i : Nat} (hi : i < st.length) : (st.map Prod.snd).getD i default = (gt st i).2 := by
  rw [gt_eq hi]; simp [List.getD_eq_getElem?_getD, hi]
/-- The two orders, one after the other. -/
def ord2 (i j v : Nat) (S : RfSt) : Nat → RfSt
  | 0 => S
  | 1 => hstep i j v S
  | _ => hstep j i v (hstep i j v S)
theorem ord2_next {i j v : Nat} {S : RfSt} {k : Nat} (hk : k < 2) : ord2 i j v S (k + 1) = hstep (if k = 0 then i else j) (if k = 0 then j else i) v (ord2 i j v S k) := by
  rcases k with _ | _ | k
  · rfl
  · rfl
  · omega
theorem ord2_done {i j v : Nat} {S : RfSt} {k : Nat} (hk : k < 2) (h : (ord2 i j v S (k + 1)).2 = true) : ord2 i j v S 2 = ord2 i j v S (k + 1) := by
  rcases k with _ | _ | k
  · show hstep j i v (hstep i j v S) = hstep i j v S
    have h : (hstep i j v S).2 = true := h
    generalize hstep i j v S = T at *
    unfold hstep
    rw [if_pos h]
  · rfl
  · omega
theorem ord2_inv {i j v : Nat} {S : RfSt} (h : RInv S) : ∀ k, RInv (ord2 i j v S k)
  | 0 => h
  | 1 => h.hstep i j v
  | _ + 2 => (h.hstep i j v).hstep j i v
theorem ord2_grew (i j v : Nat) (S : RfSt) : ∀ k, Grew S (ord2 i j v S k)
  | 0 => .refl S
  | 1 => grew_hstep i j v S
  | _ + 2 => (grew_hstep i j v S).trans (grew_hstep j i v _)
end Go.Vc
namespace Go.Proofs.Ytfadcafacpaldaa
open Go.Vc
theorem RfW.at {lo : Nat} {eR : TypeId} {w : World} {b bm : Nat} {u : Value} {st : List RV} (h : RfW lo eR w b bm u st) {i : Nat} (hi : i < st.length) : Ow lo t_i64 w (gt st i).1 (ints (gt st i).2.c) := by
  have hm : gt st i ∈ st := by rw [gt_eq hi]; exact List.getElem_mem hi
  exact h.own.1 ((gt st i).1, (gt st i).2.c) (List.mem_map.2 ⟨_, hm, rfl⟩)
theorem ok_impl_refuter_resolvePair {lo : Nat} {eR : TypeId} {w : World} {b bm : Nat} {u : Value} {st : List RV} {i j : Nat} (he1 : t_i64 ≠ eR) (he2 : t_impl_Resolvent ≠ eR) (he3 : 59 ≠ eR) (h : RfW lo eR w b bm u st) (hI : RInv (st.map Prod.snd, false)) (hi : i < st.length) (hj : j < st.length) (hlo : lo ≤ w.heap.size) :
    Cal Try.prog f_impl_refuter_resolvePair #[.pointer (some ⟨b, 0, none⟩), .int .i64 (i : Int), .int .i64 (j : Int)] w fun r w' => ∃ u' st' t, RfW lo eR w' b bm u' st' ∧ Ch (fun k => lo ≤ k) w w' ∧ remV j i 0 (st.map Prod.snd, false) = (st'.map Prod.snd, t) ∧ r = .bool t := by
  apply c_impl_refuter_resolvePair; unfold S_impl_refuter_resolvePair
  have hgl : ∀ {A : List RV} {t : Bool} {S : RfSt}, Grew (st.map Prod.snd, false) S → S = (A.map Prod.snd, t) → st.length ≤ A.length := fun g e => by
    have := g.len
    rw [e] at this
    simpa using this
  refine iLp (fun v : Nat => [.int .i64 (v : Int)]) (fun v w' => v ≤ 6 ∧ ∃ u' st', RfW lo eR w' b bm u' st' ∧ Ch (fun k => lo ≤ k) w w' ∧ remV j i 0 (st.map Prod.snd, false) = remV j i v (st'.map Prod.snd, false) ∧ RInv (st'.map Prod.snd, false) ∧ st.length ≤ st'.length) (fun v => 6 - v) 0 rfl ⟨Nat.zero_le _, u, st, h, (Ext.refl _).ch, rfl, hI, Nat.le_refl _⟩ ?_
  rintro v w2 Kn ⟨hv, u1, st1, h1, hc1, hr1, hI1, hl1⟩ hKn
  have hlo2 : lo ≤ w2.heap.size := Nat.le_trans hlo hc1.size
  intro _
  simp only [gx]
  refine iLt (iCndP (fun h3 => ?_) (fun h3 => ?_))
  rotate_left
  · obtain rfl : v = 6 := by omega
    exact ⟨u1, st1, false, h1, hc1, hr1, rfl⟩
  have hv6 : v < 6 := by omega
  refine iArr2 (t' := t_i64) (by kernel_rfl) (by kernel_rfl) (by kernel_rfl) ?_
  refine iArr2 (t' := t_i64) (by kernel_rfl) (by kernel_rfl) (by kernel_rfl) ?_
  refine iBsP2 fun bb w3 hbb h3x hB => ?_
  refine iLenL ?_
  have h2 := h1.ext h3x
  refine iLp (fun k : Nat => [.int .i64 (k : Int)]) (fun k w' => k ≤ 2 ∧ Blk 59 w' bb [.int .i64 (i : Int), .int .i64 (j : Int), .int .i64 (j : Int), .int .i64 (i : Int)] ∧ ∃ u' st', RfW lo eR w' b bm u' st' ∧ Ch (fun k => lo ≤ k) w w' ∧ ord2 i j v (st1.map Prod.snd, false) k = (st'.map Prod.snd, false)) (fun k => 2 - k) 0 rfl ⟨Nat.zero_le _, hB, u1, st1, h2, hc1.trans (h3x.ch (S := fun _ => False)) (fun _ e => e.elim), rfl⟩ ?_
  rintro k w4 Kn2 ⟨hk, hB4, u2, st2, h4, hc4, hr4⟩ hKn2
  have hlo4 : lo ≤ w4.heap.size := Nat.le_trans hlo hc4.size
  have hI4 : RInv (st2.map Prod.snd, false) := by rw [← hr4]; exact ord2_inv hI1 k
  have hl4 : st1.length ≤ st2.length := by
    have := (ord2_grew i j v (st1.map Prod.snd, false) k).len
    rw [hr4] at this
    simpa using this
  intro _
  simp only [gx]
  refine iLt (iCndP (fun h5 => ?_) (fun h5 => ?_))
  rotate_left
  · obtain rfl : k = 2 := by omega
    refine iAdd (by omega) ?_
    refine hKn (v + 1) _ ⟨by omega, u2, st2, h4, hc4, ?_, hI4, by omega⟩ (by omega)
    rw [hr1, remV_step hv6, pstep_two hI1 (by simp; omega) (by simp; omega), ← hr4]
    rfl
  have hk2 : k < 2 := by omega
  -- which order
  generalize hA : (if k = 0 then i else j) = A at *
  generalize hC : (if k = 0 then j else i) = C at *
  have hord := ord2_next (i := i) (j := j) (v := v) (S := (st1.map Prod.snd, false)) hk2
  rw [hA, hC, hr4] at hord
  have hAl : A < st2.length := by subst hA; split <;> omega
  have hCl : C < st2.length := by subst hC; split <;> omega
  refine iRdAgg (OwK.ofBlk (k := 2) (lo := 0) (n := 2) hB4 (Nat.zero_le _) rfl (by decide)).sl (by omega) (ys := [.int .i64 (A : Int), .int .i64 (C : Int)]) rfl (fun q hq => ?_) ?_
  · rcases k with _ | _ | k
    · subst hA; subst hC
      rcases q with _ | _ | q
      · rfl
      · rfl
      · omega
    · subst hA; subst hC
      rcases q with _ | _ | q
      · rfl
      · rfl
      · omega
    · omega
  refine iNew fun bx w5 hbx h5' BX => ?_
  have hB5 := hB4.ext h5'
  have g5 := h4.ext h5'
  refine iStAB BX rfl rfl (by intro y hy; simp at hy; rcases hy with rfl | rfl <;> rfl) fun w6 hu6 BX6 => ?_
  have hbxn : bx ≠ bb := by have := hB4.lt; omega
  have hX6 : Ext w4 w6 := h5'.upd hu6 (by omega)
  have g6 := h4.ext hX6
  have hB6 := hB4.ext hX6
  have BX6 : Blk _ w6 bx [.int .i64 (A : Int), .int .i64 (C : Int)] := BX6
  refine iNil (iFa (iLdB g6.blk (v := u2) rfl ?_))
  refine iIaAQ (j := 0) (by decide) (iLdB BX6 (v := .int .i64 (A : Int)) rfl ?_)
  refine iFldQ (f := 0) (x := (gt st2 A).1) g6.row.sl hAl (by decide) (by rw [cellsQ_at hAl 0 (by decide)]; rfl) ?_
  refine iNil (iFa (iLdB g6.blk (v := u2) rfl ?_))
  refine iIaAQ (j := 1) (by decide) (iLdB BX6 (v := .int .i64 (C : Int)) rfl ?_)
  refine iFldQ (f := 0) (x := (gt st2 C).1) g6.row.sl hCl (by decide) (by rw [cellsQ_at hCl 0 (by decide)]; rfl) ?_
  intro w7 h7
  have g7 := g6.ext h7
  have hokA : ClOk (gt st2 A).2.c := hI4.ok _ (List.mem_map.2 ⟨_, by rw [gt_eq hAl]; exact List.getElem_mem hAl, rfl⟩)
  have hokC : ClOk (gt st2 C).2.c := hI4.ok _ (List.mem_map.2 ⟨_, by rw [gt_eq hCl]; exact List.getElem_mem hCl, rfl⟩)
  refine iCall ((ok_impl_resolve (g7.at hAl).sl (g7.at hCl).sl hokA hokC v hv6).mono ?_)
  rintro _ w8 ⟨h8, uv, rfl, hres⟩
  refine iE20 (iE21 ?_)
  intro w9 h9
  have hX9 := ((hX6.trans h7).trans h8).trans h9
  have g9 := h4.ext hX9
  have hB9 := hB4.ext hX9
  have BX9 := BX6.ext ((h7.trans h8).trans h9)
  have hc9 : Ch (fun k => lo ≤ k) w w9 := hc4.trans (hX9.ch (S := fun _ => False)) fun _ e => e.elim
  have hlo9 : lo ≤ w9.heap.size := Nat.le_trans hlo hc9.size
  refine iJnPQ (fun xs w' => ∃ u' st' t, xs = [.bool t] ∧ RfW lo eR w' b bm u' st' ∧ Ch (fun k => lo ≤ k) w w' ∧ Blk 59 w' bb [.int .i64 (i : Int), .int .i64 (j : Int), .int .i64 (j : Int), .int .i64 (i : Int)] ∧ ord2 i j v (st1.map Prod.snd, false) (k + 1) = (st'.map Prod.snd, t)) (fun J hJ => ?_) (fun xs w10 hCx => ?_)
  · have hst : hstep A C v (st2.map Prod.snd, false) = match resC (gt st2 A).2.c (gt st2 C).2.c v with
      | some r => addS (st2.map Prod.snd, false) ⟨r, A, C, v⟩
      | none => (st2.map Prod.snd, false) := by
      unfold hstep
      rw [snd_getD _ hAl, snd_getD _ hCl]
      rfl
    cases hrc : resC (gt st2 A).2.c (gt st2 C).2.c v with
    | none =>
      refine iCndF rfl ?_
      refine hJ _ _ ⟨u2, st2, false, rfl, g9, hc9, hB9, ?_⟩
      rw [hord, hst, hrc]
    | some r =>
      rw [hrc] at hres
      have hres := hres r rfl
      refine iCndT rfl ?_
      refine iIaAQ (j := 0) (by decide) (iLdB BX9 (v := .int .i64 (A : Int)) rfl ?_)
      refine iIaAQ (j := 1) (by decide) (iLdB BX9 (v := .int .i64 (C : Int)) rfl ?_)
      have huo := hres.ext h9
      refine iBuild (cs := #[uv, .int .i64 (A : Int), .int .i64 (C : Int), .int .i64 (v : Int)]) (fillQ4 huo.cell rfl rfl rfl) ?_
      have hrok : ClOk r := resC_ok hrc
      have hlen2 : st2.length ≤ 729 := by have := hI4.len; simpa using this
      refine iCall ((ok_impl_refuter_add (x := (uv, ⟨r, A, C, v⟩)) he1 he2 g9 (huo.mono (by have := hX6.size; have := h7.size; omega)) (fun p hp c hc hc' => ?_) hrok (fun y hy => hI4.ok _ (List.mem_map_of_mem hy)) (by omega) hlo9).mono ?_)
      · have g := (g7.own.1 (p.1, p.2.c) (List.mem_map.2 ⟨p, hp, rfl⟩)).blk c hc
        have := (huo.blk c hc').1
        omega
      · intro z w11 hz
        rcases hz with ⟨hm, rfl, hX⟩ | ⟨hm, rfl, hch, u', g'⟩
        · refine hJ _ _ ⟨u2, st2, false, rfl, g9.ext hX, hc9.trans (hX.ch (S := fun _ => False)) (fun _ e => e.elim), hB9.ext hX, ?_⟩
          rw [hord, hst, hrc]
          show addS (st2.map Prod.snd, false) _ = _
          unfold addS
          rw [if_pos (by rw [List.map_map]; exact hm)]
        · refine hJ _ _ ⟨u', _, r.isEmpty, rfl, g', hc9.trans hch (fun c hc => ?_), hB9.ch hch (fun hc => ?_), ?_⟩
          · rcases hc with rfl | rfl | hc
            · exact .inl g9.lob
            · exact .inl g9.lom
            · exact .inl (g9.row.blk c hc).1
          · rcases hc with rfl | rfl | hc
            · exact hB9.ne_blk g9.blk he3 rfl
            · exact g9.set.ne_blk hB9 rfl
            · exact OwK.ne_blk g9.row hB9 (by decide) hc
          · rw [hord, hst, hrc]
            show addS (st2.map Prod.snd, false) _ = _
            unfold addS
            rw [if_neg (by rw [List.map_map]; exact hm), List.map_append]
            rfl
  · obtain ⟨u', st', t, rfl, g', hc', hB', hr'⟩ := hCx
    intro _
    simp only [gx]
    cases t with
    | true =>
      refine iCndT rfl ⟨u', st', true, g', hc', ?_, rfl⟩
      have hd := ord2_done (i := i) (j := j) (v := v) (S := (st1.map Prod.snd, false)) hk2 (by rw [hr'])
      rw [hr1, remV_step hv6, pstep_two hI1 (by simp; omega) (by simp; omega)]
      have : hstep j i v (hstep i j v (st1.map Prod.snd, false)) = (st'.map Prod.snd, true) := by rw [← hr', ← hd]; rfl
      rw [this]
      exact remV_done j i (v + 1) rfl
    | false =>
      refine iCndF rfl ?_
      refine iAdd (by omega) ?_
      exact hKn2 (k + 1) _ ⟨by omega, hB', u', st', g', hc', hr'⟩ (by omega)
end Go.Proofs.Ytfadcafacpaldaa

/- Plain law of the search for refutations, sixth part: each step is given or is a resolvent of two steps before it. No program in sight. Conditions: none. -/
namespace Go.Vc
def StepOk (L : List (List Int)) (st : List Rs) (k : Nat) : Prop :=
  ((st.getD k default).f = -1 ∧ (st.getD k default).s = -1 ∧ (st.getD k default).v = -1 ∧ (st.getD k default).c ∈ L) ∨
  ∃ a b v : Nat, (st.getD k default).f = (a : Int) ∧ (st.getD k default).s = (b : Int) ∧ (st.getD k default).v = (v : Int) ∧ a < k ∧ b < k ∧ v < 6 ∧ resC (st.getD a default).c (st.getD b default).c v = some (st.getD k default).c
def RGood (L : List (List Int)) (st : RfSt) : Prop := ∀ k, k < st.1.length → StepOk L st.1 k
theorem StepOk.grew {L : List (List Int)} {a b : RfSt} (g : Grew a b) {k : Nat} (hk : k < a.1.length) (h : StepOk L a.1 k) : StepOk L b.1 k := by
  unfold StepOk at *
  rw [g.get k hk]
  refine h.imp id ?_
  rintro ⟨x, y, v, h1, h2, h3, h4, h5, h6, h7⟩
  exact ⟨x, y, v, h1, h2, h3, h4, h5, h6, by rw [g.get x (by omega), g.get y (by omega)]; exact h7⟩
theorem RGood.add {L : List (List Int)} {st : RfSt} (h : RGood L st) {s : Rs} (hs : (s.f = -1 ∧ s.s = -1 ∧ s.v = -1 ∧ s.c ∈ L) ∨ ∃ a b v : Nat, s.f = (a : Int) ∧ s.s = (b : Int) ∧ s.v = (v : Int) ∧ a < st.1.length ∧ b < st.1.length ∧ v < 6 ∧ resC (st.1.getD a default).c (st.1.getD b default).c v = some s.c) : RGood L (addS st s) := by
  intro k hk
  have g := grew_add st s
  by_cases hl : k < st.1.length
  · exact StepOk.grew g hl (h k hl)
  · unfold addS at hk ⊢
    split at hk
    · omega
    · rename_i hn
      rw [if_neg hn]
      simp only [List.length_append, List.length_cons, List.length_nil] at hk
      obtain rfl : k = st.1.length := by omega
      have e : (st.1 ++ [s]).getD st.1.length default = s := by simp [List.getD_eq_getElem?_getD]
      have e2 : ∀ a, a < st.1.length → (st.1 ++ [s]).getD a default = st.1.getD a default := fun a ha => by simp [List.getD_eq_getElem?_getD, List.getElem?_append_left ha]
      unfold StepOk
      simp only [e]
      refine hs.imp id ?_
      rintro ⟨a, b, v, h1, h2, h3, h4, h5, h6, h7⟩
      exact ⟨a, b, v, h1, h2, h3, h4, h5, h6, by rw [e2 a h4, e2 b h5]; exact h7⟩
theorem RGood.pstep {L : List (List Int)} {st : RfSt} (h : RGood L st) {j i v : Nat} (hi : i < st.1.length) (hj : j < st.1.length) (hv : v < 6) : RGood L (pstep j i v st) := by
  unfold Go.Vc.pstep
  split
  · exact h
  · split
    · rename_i r hr
      exact h.add (.inr ⟨i, j, v, rfl, rfl, rfl, hi, hj, hv, hr⟩)
    · split
      · rename_i r hr
        exact h.add (.inr ⟨j, i, v, rfl, rfl, rfl, hj, hi, hv, hr⟩)
      · exact h
theorem RGood.remV {L : List (List Int)} {j i : Nat} : ∀ (n k : Nat) {st : RfSt}, RGood L st → i < st.1.length → j < st.1.length → k + n = 6 → RGood L (remV j i k st)
  | 0, k, st, h, _, _, e => by
    obtain rfl : k = 6 := by omega
    exact h
  | n + 1, k, st, h, hi, hj, e => by
    rw [remV_step (by omega)]
    have g := (grew_pstep j i k st).len
    exact RGood.remV n (k + 1) (h.pstep hi hj (by omega)) (by omega) (by omega) (by omega)
theorem RGood.remI {L : List (List Int)} {j : Nat} : ∀ (n k : Nat) {st : RfSt}, RGood L st → j < st.1.length → k + n = j → RGood L (remI j k st)
  | 0, k, st, h, _, e => by
    obtain rfl : k = j := by omega
    rw [remI_end]; exact h
  | n + 1, k, st, h, hj, e => by
    rw [remI_step (by omega)]
    have g := (grew_remV j k 0 st).len
    exact RGood.remI n (k + 1) (RGood.remV 6 0 h (by omega) hj (by omega)) (by omega) (by omega)
theorem RGood.remJ {L : List (List Int)} : ∀ (n j : Nat) {st : RfSt}, RGood L st → RGood L (remJ n j st)
  | 0, _, _, h => h
  | n + 1, j, st, h => by
    unfold Go.Vc.remJ
    split
    · exact h
    · rename_i hc
      rw [Bool.or_eq_true, decide_eq_true_eq, not_or] at hc
      exact RGood.remJ n (j + 1) (RGood.remI j 0 h (by omega) (by omega))
theorem RGood.startP {L : List (List Int)} : ∀ (M : List (List Int)) {st : RfSt}, RGood L st → (∀ c ∈ M, c ∈ L) → RGood L (startP M st)
  | [], _, h, _ => h
  | c :: M, st, h, hM => by
    unfold Go.Vc.startP
    split
    · exact h
    · exact RGood.startP M (h.add (.inl ⟨rfl, rfl, rfl, hM c List.mem_cons_self⟩)) fun d hd => hM d (List.mem_cons_of_mem _ hd)
theorem RInv.startP : ∀ (M : List (List Int)) {st : RfSt}, RInv st → (∀ c ∈ M, ClOk c) → RInv (startP M st)
  | [], _, h, _ => h
  | c :: M, st, h, hM => by
    unfold Go.Vc.startP
    split
    · exact h
    · rename_i h2
      exact RInv.startP M (h.add (by simpa using h2) (hM c List.mem_cons_self)) fun d hd => hM d (List.mem_cons_of_mem _ hd)
theorem RInv.nil : RInv ([], false) := ⟨fun _ h => (by cases h), List.nodup_nil, rfl, fun k h => by simp at h⟩
theorem RGood.nil (L : List (List Int)) : RGood L ([], false) := fun k h => by simp at h
/-- The end of the program's search. -/
def endP (L : List (List Int)) : RfSt := remJ 800 0 (startP (setA lessB L) ([], false))
theorem endP_inv {L : List (List Int)} (h : ∀ c ∈ L, ClOk c) : RInv (endP L) := by
  have O : OrdA lessB := ⟨⟨fun {a b} h => lessB_asymm a b h, fun {a b c} h k => lessB_trans a b c h k⟩, fun {a b} h k => lessB_anti a b h k⟩
  exact RInv.remJ (RInv.startP _ RInv.nil fun c hc => h c ((mem_setA O).1 hc)) 800 0
theorem endP_good (L : List (List Int)) : RGood L (endP L) := by
  have O : OrdA lessB := ⟨⟨fun {a b} h => lessB_asymm a b h, fun {a b c} h k => lessB_trans a b c h k⟩, fun {a b} h k => lessB_anti a b h k⟩
  exact RGood.remJ 800 0 (RGood.startP _ (RGood.nil L) fun c hc => (mem_setA O).1 hc)
/-- At the end nothing is left to do. -/
theorem endP_empty {L : List (List Int)} (h : ∀ c ∈ L, ClOk c) (h2 : (endP L).2 = true) : 0 < (endP L).1.length ∧ ((endP L).1.getD ((endP L).1.length - 1) default).c = [] := by
  have hI := endP_inv h
  have he := hI.em
  rw [h2] at he
  have he := of_decide_eq_true he.symm
  obtain ⟨x, hx, e⟩ := List.mem_map.1 he
  obtain ⟨i, hi, rfl⟩ := List.getElem_of_mem hx
  refine ⟨by omega, ?_⟩
  by_cases hl : i + 1 < (endP L).1.length
  · exact absurd (by simpa [List.getD_eq_getElem?_getD, hi] using e) (hI.la i hl)
  · rw [show (endP L).1.length - 1 = i by omega]
    simpa [List.getD_eq_getElem?_getD, hi] using e
end Go.Vc

/- Contracts: the program's refuter runs. Conditions: none. -/
namespace Go.Vc
theorem startP_done {L : List (List Int)} {st : RfSt} (h : st.2 = true) : startP L st = st := by
  cases L with
  | nil => rfl
  | cons c l => unfold startP; rw [if_pos h]
theorem startP_step {c : List Int} {L : List (List Int)} {st : RfSt} (h : st.2 = false) : startP (c :: L) st = startP L (addS st ⟨c, -1, -1, -1⟩) := by
  show (if st.2 then st else _) = _
  rw [h]; rfl
theorem drop_gt {α : Type} [Inhabited α] {L : List α} {k : Nat} (h : k < L.length) : L.drop k = gt L k :: L.drop (k + 1) := by
  rw [gt_eq h]; exact List.drop_eq_getElem_cons h
end Go.Vc
namespace Go.Proofs.Ytfadcafacpaldaa
open Go.Vc
theorem ok_impl_refuter_run {lo : Nat} {eR : TypeId} {w : World} {b bm : Nat} {u v : Value} {P : List VL} (he1 : t_i64 ≠ eR) (he2 : t_impl_Resolvent ≠ eR) (he3 : 59 ≠ eR) (he4 : t_Si64 ≠ eR) (h : RfW lo eR w b bm u []) (hs : RdRows w v P) (hlen : P.length ≤ 1048576) (hok : ∀ p ∈ P, ClOk p.2) (hlo : lo ≤ w.heap.size) :
    Cal Try.prog f_impl_refuter_run #[.pointer (some ⟨b, 0, none⟩), v] w fun r w' => ∃ u' st' t, RfW lo eR w' b bm u' st' ∧ Ch (fun k => lo ≤ k) w w' ∧ endP (P.map Prod.snd) = (st'.map Prod.snd, t) ∧ r = .bool t := by
  apply c_impl_refuter_run; unfold S_impl_refuter_run
  refine iCall ((ok_impl_copyLists hs hlen fun p hp => by have := (hok p hp).len; omega).mono ?_)
  rintro r1 w1 ⟨h1, Q, hQ, hQr, hQs⟩
  have hQe : evL Q = Q.map Prod.fst := List.map_congr_left fun p hp => encV_eq (hQr.1 p hp).cell
  have hQl : Q.length = P.length := by have := congrArg List.length hQs; simpa using this
  refine iCall ((ok_impl_sortedLists (L := Q) (by rw [hQe]; exact hQ) (fun p hp => by rw [encV_eq (hQr.1 p hp).cell]; exact (hQr.1 p hp).mono (Nat.zero_le _)) (by omega)).mono ?_)
  rintro r2 w2 ⟨M, hM, hch, hMs, L', hp, hsub⟩
  have hQr2 : OwP w.heap.size t_i64 w2 Q := OwP.chQ hQr hch fun p hp c hc hc' => (hQr.1 p hp).ne_ow hQ (by decide) hc hc'
  have hMr : OwP w.heap.size t_i64 w2 M := by
    have := hQr2.perm hp.symm
    exact ⟨fun p hp => this.1 p (hsub.subset hp), this.2.sublist hsub⟩
  have hMe : evL M = M.map Prod.fst := List.map_congr_left fun p hp => encV_eq (hMr.1 p hp).cell
  rw [hMe] at hM
  have hMl : M.length ≤ P.length := by
    have := hsub.length_le
    rw [hp.length_eq] at this; omega
  have hMok : ∀ p ∈ M, ClOk p.2 := fun p hp' => by
    have h1 : p.2 ∈ Q.map Prod.snd := List.mem_map_of_mem (hp.subset (hsub.subset hp'))
    rw [hQs] at h1
    obtain ⟨q, hq, e⟩ := List.mem_map.1 h1
    rw [← e]; exact hok q hq
  have hX2 : Ext w w2 := h1.thenCh hch fun c hc => (hQ.blk c hc).1
  rw [hQs] at hMs
  refine iLenS hM.sl ?_
  rw [List.length_map]
  refine iLp (fun k : Nat => [.int .i64 (k : Int)]) (fun k w' => k ≤ M.length ∧ ∃ u' st', RfW lo eR w' b bm u' st' ∧ Ch (fun k => lo ≤ k) w w' ∧ startP (M.map Prod.snd) ([], false) = startP ((M.drop k).map Prod.snd) (st'.map Prod.snd, false) ∧ RInv (st'.map Prod.snd, false) ∧ Ow w.heap.size t_Si64 w' r2 (M.map Prod.fst) ∧ (∀ p ∈ M.drop k, Ow w.heap.size t_i64 w' p.1 (ints p.2)) ∧ ∀ x ∈ st', (x.1, x.2.c) ∈ M.take k) (fun k => M.length - k) 0 rfl
    ⟨Nat.zero_le _, u, [], h.ext hX2, hX2.ch, by rw [List.drop_zero]; rfl, RInv.nil, hM, fun p hp => hMr.1 p (by simpa using hp), fun x hx => by cases hx⟩ ?_
  rintro k w3 Kn ⟨hk, u1, st1, g1, hc1, hs1, hI1, ho1, hr1, hm1⟩ hKn
  have hlo3 : lo ≤ w3.heap.size := Nat.le_trans hlo hc1.size
  intro _
  simp only [gx]
  refine iLt (iCndP (fun h3 => ?_) (fun h3 => ?_))
  · have hk1 : k < M.length := by omega
    refine iIaV ho1.sl (by rw [List.length_map]; exact hk1) fun p hp => ?_
    refine iLd hp ?_
    rw [List.getElem_map, ← gt_eq hk1]
    have hd := drop_gt hk1
    have hxr := hr1 (gt M k) (by rw [hd]; exact List.mem_cons_self)
    refine iBuild (fillQ4 hxr.cell rfl rfl rfl) ?_
    have hxm : gt M k ∈ M := by rw [gt_eq hk1]; exact List.getElem_mem hk1
    have hpw : ∀ q ∈ M.take k, ∀ c, q.1.ownBlock = some c → (gt M k).1.ownBlock ≠ some c := fun q hq => by
      have e : M = M.take k ++ M.drop k := (List.take_append_drop k M).symm
      have := hMr.2
      rw [e, List.pairwise_append] at this
      exact this.2.2 q hq _ (by rw [hd]; exact List.mem_cons_self)
    refine iCall ((ok_impl_refuter_add (x := ((gt M k).1, (⟨(gt M k).2, -1, -1, -1⟩ : Rs))) he1 he2 g1 (hxr.mono hlo) (fun p hp c hc => hpw _ (hm1 p hp) c hc) (hMok _ hxm) (fun y hy => hI1.ok _ (List.mem_map_of_mem hy)) (by have := hI1.len; simp at this; omega) hlo3).mono ?_)
    intro z w4 hz
    have hst : startP (M.map Prod.snd) ([], false) = startP ((M.drop (k + 1)).map Prod.snd) (addS (st1.map Prod.snd, false) ⟨(gt M k).2, -1, -1, -1⟩) := by
      rw [hs1, hd, List.map_cons, startP_step rfl]
    have hI' := hI1.add rfl (s := (⟨(gt M k).2, -1, -1, -1⟩ : Rs)) (hMok _ hxm)
    have hnot : ∀ c, (c = b ∨ c = bm ∨ u1.ownBlock = some c) → r2.ownBlock ≠ some c ∧ ∀ p ∈ M.drop (k + 1), p.1.ownBlock ≠ some c := by
      intro c hc
      have hmem : ∀ p ∈ M.drop (k + 1), p ∈ M.drop k := fun p hp => by rw [hd]; exact List.mem_cons_of_mem _ hp
      rcases hc with rfl | rfl | hc
      · exact ⟨fun e => ho1.ne_blk g1.blk he4 e, fun p hp e => (hr1 p (hmem p hp)).ne_blk g1.blk he1 e⟩
      · exact ⟨fun e => g1.set.ne_owI ho1 _ e rfl, fun p hp e => g1.set.ne_owI (hr1 p (hmem p hp)) _ e rfl⟩
      · exact ⟨fun e => ne_owK ho1 g1.row (by decide) _ e hc, fun p hp e => ne_owK (hr1 p (hmem p hp)) g1.row (by decide) _ e hc⟩
    rcases hz with ⟨hmm, rfl, hX⟩ | ⟨hmm, rfl, hch', u', g'⟩
    · refine iCndF rfl ?_
      refine iAdd (by omega) ?_
      have e : addS (st1.map Prod.snd, false) ⟨(gt M k).2, -1, -1, -1⟩ = (st1.map Prod.snd, false) := by
        unfold addS
        rw [if_pos (by rw [List.map_map]; exact hmm)]
      rw [e] at hst
      refine hKn (k + 1) _ ⟨by omega, u1, st1, g1.ext hX, hc1.trans (hX.ch (S := fun _ => False)) (fun _ e => e.elim), hst, hI1, ho1.ext hX, fun p hp => (hr1 p (by rw [hd]; exact List.mem_cons_of_mem _ hp)).ext hX, fun x hx => ?_⟩ (by omega)
      rw [List.take_succ_eq_append_getElem hk1]
      exact List.mem_append_left _ (hm1 x hx)
    · have e : addS (st1.map Prod.snd, false) ⟨(gt M k).2, -1, -1, -1⟩ = ((st1 ++ [((gt M k).1, (⟨(gt M k).2, -1, -1, -1⟩ : Rs))]).map Prod.snd, (gt M k).2.isEmpty) := by
        unfold addS
        rw [if_neg (by rw [List.map_map]; exact hmm), List.map_append]
        rfl
      rw [e] at hst hI'
      have hc' : Ch (fun k => lo ≤ k) w w4 := hc1.trans hch' fun c hc => by
        rcases hc with rfl | rfl | hc
        · exact .inl g1.lob
        · exact .inl g1.lom
        · exact .inl (g1.row.blk c hc).1
      cases hem : (gt M k).2.isEmpty with
      | true =>
        refine iCndT (by first | rfl | exact hem) ?_
        rw [hem] at hst
        refine ⟨u', _, true, g', hc', ?_, rfl⟩
        unfold endP
        rw [← hMs, hst, startP_done (st := (_, true)) rfl]
        exact remJ_done 800 0 (st := (_, true)) rfl
      | false =>
        refine iCndF (by first | rfl | exact hem) ?_
        refine iAdd (by omega) ?_
        rw [hem] at hst hI'
        refine hKn (k + 1) _ ⟨by omega, u', _, g', hc', hst, hI', ho1.ch hch' fun c hc hS => (hnot c hS).1 hc, fun p hp => (hr1 p (by rw [hd]; exact List.mem_cons_of_mem _ hp)).ch hch' fun c hc hS => (hnot c hS).2 p hp hc, fun x hx => ?_⟩ (by omega)
        rw [List.take_succ_eq_append_getElem hk1]
        rcases List.mem_append.1 hx with hx | hx
        · exact List.mem_append_left _ (hm1 x hx)
        · simp only [List.mem_singleton] at hx
          subst hx
          exact List.mem_append_right _ (by rw [gt_eq hk1]; simp)
  · obtain rfl : k = M.length := by omega
    rw [List.drop_length] at hs1
    have hend : endP (P.map Prod.snd) = remJ 800 0 (st1.map Prod.snd, false) := by
      unfold endP
      rw [← hMs, hs1]; rfl
    clear hKn
    refine iLp (fun j : Nat => [.int .i64 (j : Int)]) (fun j w' => ∃ u' st' n, RfW lo eR w' b bm u' st' ∧ Ch (fun k => lo ≤ k) w w' ∧ endP (P.map Prod.snd) = remJ n j (st'.map Prod.snd, false) ∧ RInv (st'.map Prod.snd, false) ∧ 729 ≤ n + j ∧ j ≤ st'.length) (fun j => 729 - j) 0 rfl ⟨u1, st1, 800, g1, hc1, hend, hI1, by omega, Nat.zero_le _⟩ ?_
    rintro j w4 Kn ⟨u2, st2, n, g2, hc2, hr2, hI2, hn2, hj2⟩ hKn
    have hl2 : st2.length ≤ 729 := by have := hI2.len; simpa using this
    intro _
    simp only [gx]
    refine iNil (iFa (iLdB g2.blk (v := u2) rfl ?_))
    refine iLenK g2.row.sl ?_
    refine iLt (iCndP (fun h4 => ?_) (fun h4 => ?_))
    rotate_left
    · refine ⟨u2, st2, false, g2, hc2, ?_, rfl⟩
      rw [hr2]
      exact remJ_end (by simp; omega)
    have hjl : j < st2.length := by omega
    obtain ⟨m, rfl, hm⟩ := remJ_fuel hI2 hn2 (by simpa using hjl)
    rw [remJ_step rfl (by simpa using hjl)] at hr2
    refine iLp (fun i : Nat => [.int .i64 (i : Int)]) (fun i w' => i ≤ j ∧ ∃ u' st', RfW lo eR w' b bm u' st' ∧ Ch (fun k => lo ≤ k) w w' ∧ endP (P.map Prod.snd) = remJ m (j + 1) (remI j i (st'.map Prod.snd, false)) ∧ RInv (st'.map Prod.snd, false) ∧ j < st'.length) (fun i => j - i) 0 rfl ⟨Nat.zero_le _, u2, st2, g2, hc2, hr2, hI2, hjl⟩ ?_
    rintro i w5 Kn2 ⟨hi, u3, st3, g3, hc3, hr3, hI3, hj3⟩ hKn2
    have hlo5 : lo ≤ w5.heap.size := Nat.le_trans hlo hc3.size
    intro _
    simp only [gx]
    refine iLt (iCndP (fun h5 => ?_) (fun h5 => ?_))
    · refine iCall ((ok_impl_refuter_resolvePair (i := i) (j := j) he1 he2 he3 g3 hI3 (by omega) hj3 hlo5).mono ?_)
      rintro _ w6 ⟨u4, st4, t, g4, hc4, hr4, rfl⟩
      have hc4' := hc3.trans hc4 fun c hc => .inl hc
      rw [remI_step (by omega), hr4] at hr3
      cases t with
      | true =>
        refine iCndT rfl ⟨u4, st4, true, g4, hc4', ?_, rfl⟩
        rw [hr3, remI_done j (i + 1) rfl]
        exact remJ_done m (j + 1) rfl
      | false =>
        refine iCndF rfl ?_
        refine iAdd (by omega) ?_
        have hI4 := hI3.remV j i 0
        have hg4 := (grew_remV j i 0 (st3.map Prod.snd, false)).len
        rw [hr4] at hI4 hg4
        simp only [List.length_map] at hg4
        exact hKn2 (i + 1) _ ⟨by omega, u4, st4, g4, hc4', hr3, hI4, by omega⟩ (by omega)
    · obtain rfl : i = j := by omega
      rw [remI_end] at hr3
      refine iAdd (by omega) ?_
      have hl3 : st3.length ≤ 729 := by have := hI3.len; simpa using this
      exact hKn (i + 1) _ ⟨u3, st3, m, g3, hc3, hr3, hI3, hm, by omega⟩ (by omega)
end Go.Proofs.Ytfadcafacpaldaa

/- Contracts: the steps that the program's refuter needs, numbered anew; RefuteClauses of the program. Conditions: none. -/
namespace Go.Vc
theorem iIaB {b n c j : Nat} {k : IntKind} {K : Value → Prop} (hj : j < n) (h : K (.pointer (some ⟨b, j, none⟩))) : xIa 1 (.slice (some ⟨b, 0, none⟩) n c) (.int k (j : Int)) K := iIaL hj (by rwa [Nat.zero_add])
def bls (l : List Bool) : List Value := l.map Value.bool
theorem bls_len (l : List Bool) : (bls l).length = l.length := by simp [bls]
theorem bls_at {l : List Bool} {j : Nat} (h : j < l.length) : (bls l)[j]? = some (.bool (l.getD j false)) := by simp [bls, List.getD_eq_getElem?_getD, h]
theorem bls_set (l : List Bool) (j : Nat) (t : Bool) : (bls l).set j (.bool t) = bls (l.set j t) := by simp [bls, List.map_set]
theorem ints_at {l : List Int} {j : Nat} (h : j < l.length) : (ints l)[j]? = some (.int .i64 (l.getD j 0)) := by simp [ints, List.getD_eq_getElem?_getD, h]
theorem ints_set (l : List Int) (j : Nat) (t : Int) : (ints l).set j (.int .i64 t) = ints (l.set j t) := by simp [ints, List.map_set]
theorem StepOk.lt {L : List (List Int)} {st : List Rs} {k : Nat} (h : StepOk L st k) (h0 : 0 ≤ (st.getD k default).f) : ∃ a b : Nat, (st.getD k default).f = (a : Int) ∧ (st.getD k default).s = (b : Int) ∧ a < k ∧ b < k := by
  rcases h with ⟨h1, _⟩ | ⟨a, b, v, h1, h2, h3, h4, h5, _⟩
  · omega
  · exact ⟨a, b, h1, h2, h4, h5⟩
theorem needK_len (st : List Rs) : ∀ (k : Nat) (n : List Bool), (needK st k n).length = n.length
  | 0, _ => rfl
  | k + 1, n => by
    rw [needK, needK_len st k]
    split
    · rw [List.length_set, List.length_set]
    · rfl
theorem numK_len (st : List Rs) (nd : List Bool) : ∀ k, (numK st nd k).1.length = st.length
  | 0 => by simp [numK]
  | k + 1 => by
    rw [numK]
    dsimp only
    split
    · rw [List.length_set]; exact numK_len st nd k
    · exact numK_len st nd k
/-- A row's key: the clause's slice and the clause. -/
def kyQ (x : RV) : VL := (x.1, x.2.c)
end Go.Vc
namespace Go.Proofs.Ytfadcafacpaldaa
open Go.Vc
theorem ok_impl_refuter_used {lo : Nat} {eR : TypeId} {w : World} {b bm : Nat} {u : Value} {st : List RV} {t : Bool} {L0 : List (List Int)} (h : RfW lo eR w b bm u st) (hG : RGood L0 (st.map Prod.snd, t)) (hl : 0 < st.length) (hl2 : st.length ≤ 100000) :
    Cal Try.prog f_impl_refuter_used #[.pointer (some ⟨b, 0, none⟩)] w fun r w' => Ext w w' ∧ ∃ L : List RV, OwK 4 w.heap.size t_impl_Resolvent w' r L.length (cellsQ L) ∧ L.map Prod.snd = usedR (st.map Prod.snd) ∧ List.Sublist (L.map kyQ) (st.map kyQ) := by
  apply c_impl_refuter_used; unfold S_impl_refuter_used
  have hG' : ∀ k, k < st.length → StepOk L0 (st.map Prod.snd) k := fun k hk => hG k (by simpa using hk)
  have hcell : ∀ k, k < st.length → isCell (gt st k).1 = true := fun k hk => (h.at hk).cell
  refine iNil (iFa (iLdB h.blk (v := u) rfl ?_))
  refine iLenK h.row.sl ?_
  refine iMk (by omega) (by omega) rfl fun b1 w1 hb1 h1 hB1 => ?_
  refine iLenL ?_
  refine iSub (by omega) ?_
  rw [show ((st.length : Nat) : Int) - 1 = ((st.length - 1 : Nat) : Int) by omega]
  refine iIaB (by omega) ?_
  have hB1 : Blk 4 w1 b1 (bls (List.replicate st.length false)) := by rw [show bls (List.replicate st.length false) = List.replicate st.length (.bool false) by simp [bls]]; exact hB1
  refine iStB hB1 (by simp [bls]; omega) rfl fun hB2 => ?_
  have hu2 := Upd.setCell w1 b1 (st.length - 1) (.bool true)
  generalize w1.setCell ⟨b1, st.length - 1, none⟩ (.bool true) = w2 at *
  rw [bls_set] at hB2
  have hX2 : Ext w w2 := h1.upd hu2 (by omega)
  have g2 := h.ext hX2
  refine iNil (iFa (iLdB g2.blk (v := u) rfl ?_))
  refine iLenK g2.row.sl ?_
  refine iSub (by omega) ?_
  refine iLp (fun s : Nat × List Bool => [.int .i64 ((s.1 : Int) - 1)]) (fun s w' => s.1 ≤ st.length ∧ s.2.length = st.length ∧ Ext w w' ∧ Blk 4 w' b1 (bls s.2) ∧ needK (st.map Prod.snd) s.1 s.2 = needed (st.map Prod.snd)) (fun s => s.1) (st.length, (List.replicate st.length false).set (st.length - 1) true) (by simp) ⟨Nat.le_refl _, by simp, hX2, hB2, by unfold needed; rw [List.length_map]⟩ ?_
  rintro ⟨j, n⟩ w3 Kn ⟨hj, hn, hX3, hB3, hnd⟩ hKn
  have hj : j ≤ st.length := hj
  have hn : n.length = st.length := hn
  have hX3 : Ext w w3 := hX3
  have hB3 : Blk 4 w3 b1 (bls n) := hB3
  have hnd : needK (st.map Prod.snd) j n = needed (st.map Prod.snd) := hnd
  have g3 := h.ext hX3
  intro _
  simp only [gx]
  refine iLe (iCndP (fun h3 => ?_) (fun h3 => ?_))
  · obtain ⟨k, rfl⟩ : ∃ k, j = k + 1 := ⟨j - 1, by omega⟩
    rw [show (((k + 1 : Nat) : Int)) - 1 = ((k : Nat) : Int) by omega]
    have hk : k < st.length := by omega
    refine iNil (iFa (iLdB g3.blk (v := u) rfl ?_))
    refine iRdQ4 g3.row.sl hk ?_
    refine iNew fun b5 w5 hb5 h5 B5 => ?_
    refine iStAB B5 rfl rfl (by
      intro y hy
      simp at hy
      rcases hy with rfl | rfl | rfl | rfl
      · exact hcell k hk
      · rfl
      · rfl
      · rfl) fun w6 hu6 B6 => ?_
    have B6 : Blk t_impl_Resolvent w6 b5 [(gt st k).1, .int .i64 (gt st k).2.f, .int .i64 (gt st k).2.s, .int .i64 (gt st k).2.v] := B6
    have h36 : Ext w3 w6 := h5.upd hu6 (by omega)
    have hB6 := hB3.ext h36
    have hX6 := hX3.trans h36
    have hne : b5 ≠ b1 := by have := hB3.lt; omega
    have hsk := snd_getD st hk
    refine iJnB (n.getD k false && decide (0 ≤ (gt st k).2.f)) w6 (fun J hJ => ?_) (fun w7 h7 => ?_)
    · refine iIaB hk ?_
      refine iLdB hB6 (bls_at (by omega)) ?_
      cases hnk : n.getD k false with
      | false =>
        refine iCndF rfl ?_
        rw [hnk] at hJ
        exact hJ w6 (Ext.refl _)
      | true =>
        refine iCndT rfl ?_
        refine iFa (iLdB B6 (v := .int .i64 (gt st k).2.f) rfl ?_)
        refine iLe ?_
        rw [hnk] at hJ
        exact hJ w6 (Ext.refl _)
    intro _
    simp only [gx]
    have B7 := B6.ext h7
    have hB7 := hB6.ext h7
    have hX7 := hX6.trans h7
    have hun : needK (st.map Prod.snd) (k + 1) n = needK (st.map Prod.snd) k (if n.getD k false && decide (0 ≤ (gt st k).2.f) then (n.set (gt st k).2.f.toNat true).set (gt st k).2.s.toNat true else n) := by
      rw [needK, hsk]
    rw [hun] at hnd
    cases hT : n.getD k false && decide (0 ≤ (gt st k).2.f) with
    | false =>
      refine iCndF rfl ?_
      refine iSub (by omega) ?_
      rw [hT] at hnd
      exact hKn (k, n) _ ⟨by show k ≤ st.length; omega, hn, hX7, hB7, hnd⟩ (by show k < k + 1; omega)
    | true =>
      refine iCndT rfl ?_
      rw [hT] at hnd
      rw [Bool.and_eq_true, decide_eq_true_eq] at hT
      obtain ⟨fa, sa, e1, e2, hfa, hsa⟩ := (hG' k hk).lt (by rw [hsk]; exact hT.2)
      rw [hsk] at e1 e2
      rw [e1, e2] at B7 hnd
      rw [Int.toNat_natCast, Int.toNat_natCast] at hnd
      refine ⟨fun c => c = b1, ?_⟩
      refine iFa (iLdB B7 (v := .int .i64 (fa : Int)) rfl ?_)
      refine iFa (iLdB B7 (v := .int .i64 (sa : Int)) rfl ⟨fun w8 h8 => iLdB (B7.ch h8 hne) (v := .int .i64 (sa : Int)) rfl rfl, ?_⟩)
      refine iIaB (by omega) ?_
      intro w8 h8
      have hB8 := hB7.ext h8
      refine iStB hB8 (by rw [bls_len]; omega) rfl fun hB9 => ?_
      have hu9 := Upd.setCell w8 b1 fa (.bool true)
      generalize w8.setCell ⟨b1, fa, none⟩ (.bool true) = w9 at *
      rw [bls_set] at hB9
      refine ⟨hu9.ch rfl, ?_⟩
      refine iIaB (by omega) ?_
      intro w10 h10
      have hB10 := hB9.ext h10
      refine iStB hB10 (by rw [bls_len, List.length_set]; omega) rfl fun hB11 => ?_
      have hu11 := Upd.setCell w10 b1 sa (.bool true)
      generalize w10.setCell ⟨b1, sa, none⟩ (.bool true) = w11 at *
      rw [bls_set] at hB11
      intro w12 h12
      refine iSub (by omega) ?_
      have hX9 := (hX7.trans h8).upd hu9 (by omega)
      have hX11 := (hX9.trans h10).upd hu11 (by omega)
      exact hKn (k, (n.set fa true).set sa true) _ ⟨by show k ≤ st.length; omega, by show ((n.set fa true).set sa true).length = _; rw [List.length_set, List.length_set]; exact hn, hX11.trans h12, hB11.ext h12, hnd⟩ (by show k < k + 1; omega)
  · obtain rfl : j = 0 := by omega
    have hnd : n = needed (st.map Prod.snd) := hnd
    subst hnd
    clear hKn
    refine iNil (iFa (iLdB g3.blk (v := u) rfl ?_))
    refine iLenK g3.row.sl ?_
    refine iMk (by omega) (by omega) rfl fun b2 w4 hb2 h4 hB4 => ?_
    have hB4 : Blk t_i64 w4 b2 (ints (List.replicate st.length 0)) := by rw [show ints (List.replicate st.length 0) = List.replicate st.length (.int .i64 0) by simp [ints]]; exact hB4
    have hX4 := hX3.trans h4
    have hne12 : b1 ≠ b2 := by have := hB3.lt; omega
    have g4 := h.ext hX4
    refine iNil (iFa (iLdB g4.blk (v := u) rfl ?_))
    refine iLenK g4.row.sl ?_
    refine iLp (fun s : Nat × Value => [s.2, .int .i64 (s.1 : Int)]) (fun s w' => s.1 ≤ st.length ∧ Ext w w' ∧ Blk 4 w' b1 (bls (needed (st.map Prod.snd))) ∧ Blk t_i64 w' b2 (ints (numK (st.map Prod.snd) (needed (st.map Prod.snd)) s.1).1) ∧ ∃ L : List RV, OwK 4 w.heap.size t_impl_Resolvent w' s.2 L.length (cellsQ L) ∧ L.map Prod.snd = (numK (st.map Prod.snd) (needed (st.map Prod.snd)) s.1).2 ∧ List.Sublist (L.map kyQ) ((st.take s.1).map kyQ)) (fun s => st.length - s.1) (0, .slice none 0 0) rfl
      ⟨Nat.zero_le _, hX4, hB3.ext h4, by show Blk t_i64 w4 b2 (ints (List.replicate (st.map Prod.snd).length 0)); rw [List.length_map]; exact hB4, [], OwK.nil 4 _ _ _, rfl, by simp⟩ ?_
    rintro ⟨k, o⟩ w5 Kn ⟨hk, hX5, hB5, hC5, L, hL, hLs, hsub⟩ hKn
    have hk : k ≤ st.length := hk
    have hX5 : Ext w w5 := hX5
    have hL : OwK 4 w.heap.size t_impl_Resolvent w5 o L.length (cellsQ L) := hL
    have hLs : L.map Prod.snd = (numK (st.map Prod.snd) (needed (st.map Prod.snd)) k).2 := hLs
    have hC5 : Blk t_i64 w5 b2 (ints (numK (st.map Prod.snd) (needed (st.map Prod.snd)) k).1) := hC5
    have hnum : numK (st.map Prod.snd) (needed (st.map Prod.snd)) (k + 1) = if (needed (st.map Prod.snd)).getD k false then ((numK (st.map Prod.snd) (needed (st.map Prod.snd)) k).1.set k (numK (st.map Prod.snd) (needed (st.map Prod.snd)) k).2.length, (numK (st.map Prod.snd) (needed (st.map Prod.snd)) k).2 ++ [if 0 ≤ ((st.map Prod.snd).getD k default).f then ⟨((st.map Prod.snd).getD k default).c, (numK (st.map Prod.snd) (needed (st.map Prod.snd)) k).1.getD ((st.map Prod.snd).getD k default).f.toNat 0, (numK (st.map Prod.snd) (needed (st.map Prod.snd)) k).1.getD ((st.map Prod.snd).getD k default).s.toNat 0, ((st.map Prod.snd).getD k default).v⟩ else (st.map Prod.snd).getD k default]) else numK (st.map Prod.snd) (needed (st.map Prod.snd)) k := rfl
    have htl := numK_len (st.map Prod.snd) (needed (st.map Prod.snd)) k
    rw [List.length_map] at htl
    have hLl : L.length ≤ k := by
      have := hsub.length_le
      simp only [List.length_map, List.length_take] at this; omega
    have hL2 : (numK (st.map Prod.snd) (needed (st.map Prod.snd)) k).2.length = L.length := by rw [← hLs, List.length_map]
    have hndl : (needed (st.map Prod.snd)).length = st.length := by unfold needed; rw [needK_len]; simp
    generalize hto : (numK (st.map Prod.snd) (needed (st.map Prod.snd)) k).1 = to at *
    intro _
    simp only [gx]
    refine iLt (iCndP (fun h5 => ?_) (fun h5 => ?_))
    rotate_left
    · obtain rfl : k = st.length := by omega
      refine ⟨hX5, L, hL, ?_, by have := hsub; rwa [show ((st.length, o) : Nat × Value).1 = st.length from rfl, List.take_length] at this⟩
      rw [hLs]; unfold usedR; rw [List.length_map]
    have hkl : k < st.length := by omega
    have g5 := h.ext hX5
    have hsk := snd_getD st hkl
    rw [hsk] at hnum
    refine iRdQ4 g5.row.sl hkl ?_
    refine iNew fun b9 w6 hb9 h6 B6 => ?_
    refine iStAB B6 rfl rfl (by
      intro y hy
      simp at hy
      rcases hy with rfl | rfl | rfl | rfl
      · exact hcell k hkl
      · rfl
      · rfl
      · rfl) fun w7 hu7 B7 => ?_
    have B7 : Blk t_impl_Resolvent w7 b9 [(gt st k).1, .int .i64 (gt st k).2.f, .int .i64 (gt st k).2.s, .int .i64 (gt st k).2.v] := B7
    have h57 : Ext w5 w7 := h6.upd hu7 (by omega)
    have hB7 := hB5.ext h57
    have hC7 := hC5.ext h57
    have hL7 := hL.ext h57
    have hX7 := hX5.trans h57
    have hne91 : b9 ≠ b1 := by have := hB5.lt; omega
    have hne92 : b9 ≠ b2 := by have := hC5.lt; omega
    refine iIaB hkl ?_
    refine iLdB hB7 (bls_at (by rw [hndl]; exact hkl)) ?_
    refine iNot ?_
    have htake : st.take (k + 1) = st.take k ++ [gt st k] := by rw [gt_eq hkl]; exact List.take_succ_eq_append_getElem hkl
    cases hnk : (needed (st.map Prod.snd)).getD k false with
    | false =>
      refine iCndT rfl ?_
      refine iAdd (by omega) ?_
      rw [hnk, if_neg (by simp)] at hnum
      refine hKn (k + 1, o) _ ⟨by show k + 1 ≤ st.length; omega, hX7, hB7, by show Blk t_i64 w7 b2 (ints (numK (st.map Prod.snd) (needed (st.map Prod.snd)) (k + 1)).1); rw [hnum, hto]; exact hC7, L, hL7, by show _ = (numK (st.map Prod.snd) (needed (st.map Prod.snd)) (k + 1)).2; rw [hnum]; exact hLs, ?_⟩ (by show st.length - (k + 1) < st.length - k; omega)
      show List.Sublist (L.map kyQ) ((st.take (k + 1)).map kyQ)
      rw [htake, List.map_append]
      exact hsub.trans (List.sublist_append_left _ _)
    | true =>
      refine iCndF rfl ?_
      rw [hnk, if_pos rfl] at hnum
      refine iLenK hL7.sl ?_
      refine iIaB hkl ?_
      refine iStB hC7 (by rw [ints_length, htl]; exact hkl) rfl fun hC8 => ?_
      have hu8 := Upd.setCell w7 b2 k (.int .i64 (L.length : Int))
      generalize w7.setCell ⟨b2, k, none⟩ (.int .i64 (L.length : Int)) = w8 at *
      rw [ints_set] at hC8
      have hX8 := hX7.upd hu8 (by have := hX3.size; omega)
      have hB8 := hB7.upd hu8 hne12
      have B8 := B7.upd hu8 hne92
      have hL8 := hL7.ch (hu8.ch (S := fun c => c = b2) rfl) fun c hc e => OwK.ne_blk hL7 hC7 (by decide) (by rw [hc, e])
      refine iFa (iLdB B8 (v := .int .i64 (gt st k).2.f) rfl ?_)
      refine iLe ?_
      refine iJnPQ (fun xs w' => xs = [] ∧ Ext w w' ∧ Blk 4 w' b1 (bls (needed (st.map Prod.snd))) ∧ Blk t_i64 w' b2 (ints (to.set k (L.length : Int))) ∧ OwK 4 w.heap.size t_impl_Resolvent w' o L.length (cellsQ L) ∧ Blk t_impl_Resolvent w' b9 (csQ ((gt st k).1, if 0 ≤ (gt st k).2.f then ⟨(gt st k).2.c, to.getD (gt st k).2.f.toNat 0, to.getD (gt st k).2.s.toNat 0, (gt st k).2.v⟩ else (gt st k).2))) (fun J hJ => ?_) (fun xs w9 hC => ?_)
      · refine iCndP (fun h0 => ?_) (fun h0 => ?_)
        · obtain ⟨fa, sa, e1, e2, hfa, hsa⟩ := (hG' k hkl).lt (by rw [hsk]; exact h0)
          rw [hsk] at e1 e2
          rw [if_pos h0, e1, e2, Int.toNat_natCast, Int.toNat_natCast] at hJ
          rw [e1, e2] at B8
          have ga : (to.set k (L.length : Int)).getD fa 0 = to.getD fa 0 := by simp [List.getD_eq_getElem?_getD, show ¬ k = fa by omega]
          have gs : (to.set k (L.length : Int)).getD sa 0 = to.getD sa 0 := by simp [List.getD_eq_getElem?_getD, show ¬ k = sa by omega]
          have hsl : (to.set k (L.length : Int)).length = st.length := by rw [List.length_set]; exact htl
          refine ⟨fun c => c = b9, ?_⟩
          refine iFa (iLdB B8 (v := .int .i64 (fa : Int)) rfl ?_)
          refine iIaB (by omega) ?_
          refine iLdB hC8 (ints_at (by omega)) ?_
          refine iFa (iLdB B8 (v := .int .i64 (sa : Int)) rfl ?_)
          refine iIaB (by omega) ?_
          refine iLdB hC8 (ints_at (by omega)) ⟨fun w9 h9 => iLdB (hC8.ch h9 hne92.symm) (ints_at (by omega)) rfl, ?_⟩
          rw [ga, gs]
          refine iFa ?_
          intro w9 h9
          have B9 := B8.ext h9
          refine iStB B9 (by simp) rfl fun B10 => ?_
          have hu10 := Upd.setCell w9 b9 1 (.int .i64 (to.getD fa 0))
          refine ⟨hu10.ch rfl, ?_⟩
          refine iFa ?_
          intro w11 h11
          have B11 := B10.ext h11
          refine iStB B11 (by simp) rfl fun B12 => ?_
          have hu12 := Upd.setCell w11 b9 2 (.int .i64 (to.getD sa 0))
          intro w13 h13
          have hX10 := (hX8.trans h9).upd hu10 (by have := hX5.size; omega)
          have hX12 := (hX10.trans h11).upd hu12 (by have := hX5.size; omega)
          have c1 := (((h9.ch (S := fun c => c = b9)).trans (hu10.ch (S := fun c => c = b9) rfl) (fun _ e => .inl e)).trans (h11.ch (S := fun c => c = b9)) (fun _ e => .inl e)).trans (hu12.ch (S := fun c => c = b9) rfl) (fun _ e => .inl e)
          have c2 := c1.trans (h13.ch (S := fun c => c = b9)) (fun _ e => .inl e)
          exact hJ [] w13 ⟨rfl, hX12.trans h13, hB8.ch c2 hne91.symm, hC8.ch c2 hne92.symm, hL8.ch c2 fun c hc e => by have := (hL.blk c hc).2; omega, B12.ext h13⟩
        · rw [if_neg h0] at hJ
          exact hJ [] w8 ⟨rfl, hX8, hB8, hC8, hL8, B8⟩
      · obtain ⟨rfl, hX9, hB9, hC9, hL9, B9⟩ := hC
        intro _
        refine iLdA B9 rfl ?_
        have hsz := hX9.size
        refine iBsQ fun bb w10 hbb h10 hB10 => ?_
        have hsl : SlK 4 w10 (.slice (some ⟨bb, 0, none⟩) 1 1) 1 (csQ ((gt st k).1, if 0 ≤ (gt st k).2.f then ⟨(gt st k).2.c, to.getD (gt st k).2.f.toNat 0, to.getD (gt st k).2.s.toNat 0, (gt st k).2.v⟩ else (gt st k).2)) := (OwK.ofBlk (k := 4) (lo := 0) (n := 1) hB10 (Nat.zero_le _) rfl (by omega)).sl
        have hL10 := hL9.ext h10
        refine iAppK u_Simpl_Resolvent i_Simpl_Resolvent rfl (by decide) hL10 hsl (fun y hy => by
          simp only [csQ, List.mem_cons, List.not_mem_nil, or_false] at hy
          rcases hy with rfl | rfl | rfl | rfl
          · exact hcell k hkl
          · rfl
          · rfl
          · rfl) (by omega) (by omega) (by have := h10.size; omega) fun o' w11 ho' hg hat => ?_
        have hg' := grown_ch (S := fun c => o.ownBlock = some c) hg fun c hc => hc
        have hX11 := (hX9.trans h10).grown hg fun c hc => (hL10.blk c hc).1
        have hB11 := (hB9.ext h10).grown hg (hL10.ne_blk (hB9.ext h10) (by decide))
        have hC11 := (hC9.ext h10).grown hg (hL10.ne_blk (hC9.ext h10) (by decide))
        refine iAdd (by omega) ?_
        refine hKn (k + 1, o') _ ⟨by show k + 1 ≤ st.length; omega, hX11, hB11, ?_, L ++ [((gt st k).1, if 0 ≤ (gt st k).2.f then ⟨(gt st k).2.c, to.getD (gt st k).2.f.toNat 0, to.getD (gt st k).2.s.toNat 0, (gt st k).2.v⟩ else (gt st k).2)], ?_, ?_, ?_⟩ (by show st.length - (k + 1) < st.length - k; omega)
        · show Blk t_i64 w11 b2 (ints (numK (st.map Prod.snd) (needed (st.map Prod.snd)) (k + 1)).1)
          rw [hnum, hL2]
          exact hC11
        · rw [cellsQ_app, List.length_append]
          have e : cellsQ [((gt st k).1, if 0 ≤ (gt st k).2.f then (⟨(gt st k).2.c, to.getD (gt st k).2.f.toNat 0, to.getD (gt st k).2.s.toNat 0, (gt st k).2.v⟩ : Rs) else (gt st k).2)] = csQ ((gt st k).1, if 0 ≤ (gt st k).2.f then (⟨(gt st k).2.c, to.getD (gt st k).2.f.toNat 0, to.getD (gt st k).2.s.toNat 0, (gt st k).2.v⟩ : Rs) else (gt st k).2) := by simp [cellsQ]
          rw [e]
          exact ho'
        · show _ = (numK (st.map Prod.snd) (needed (st.map Prod.snd)) (k + 1)).2
          rw [hnum, List.map_append, hLs]
          rfl
        · show List.Sublist _ ((st.take (k + 1)).map kyQ)
          rw [htake, List.map_append, List.map_append]
          refine List.Sublist.append hsub ?_
          have : kyQ ((gt st k).1, if 0 ≤ (gt st k).2.f then (⟨(gt st k).2.c, to.getD (gt st k).2.f.toNat 0, to.getD (gt st k).2.s.toNat 0, (gt st k).2.v⟩ : Rs) else (gt st k).2) = kyQ (gt st k) := by
            unfold kyQ
            split <;> rfl
          simp only [List.map_cons, List.map_nil, this]
          exact List.Sublist.refl _
end Go.Proofs.Ytfadcafacpaldaa

/- Plain law of the search for refutations, seventh part: the steps of the reference, with and without an end at the empty clause. No program in sight. Conditions: none. -/
namespace Go.Vc
def addL (l : List Rs) (s : Rs) : List Rs := if s.c ∈ l.map Rs.c then l else l ++ [s]
def stepL (j i v : Nat) (l : List Rs) : List Rs :=
  match resC (l.getD i default).c (l.getD j default).c v with
  | some r => addL l ⟨r, i, j, v⟩
  | none => match resC (l.getD j default).c (l.getD i default).c v with
    | some r => addL l ⟨r, j, i, v⟩
    | none => l
def doneL (whole : Bool) (l : List Rs) : Bool := !whole && decide ([] ∈ l.map Rs.c)
def stepW (whole : Bool) (j i v : Nat) (l : List Rs) : List Rs := if doneL whole l then l else stepL j i v l
def growV (whole : Bool) (j i k : Nat) (l : List Rs) : List Rs := (List.range' k (6 - k)).foldl (fun l v => stepW whole j i v l) l
def growI (whole : Bool) (j k : Nat) (l : List Rs) : List Rs := (List.range' k (j - k)).foldl (fun l i => growV whole j i 0 l) l
def growJ (whole : Bool) : Nat → Nat → List Rs → List Rs
  | 0, _, l => l
  | n + 1, j, l => if doneL whole l || decide (l.length ≤ j) then l else growJ whole n (j + 1) (growI whole j 0 l)
def gl0 (L : List (List Int)) : List Rs := (setA lessB L).map fun c => ⟨c, -1, -1, -1⟩
def grownS (whole : Bool) (L : List (List Int)) : List Rs := growJ whole 800 0 (gl0 L)
theorem foldlL_done {α : Type} {whole : Bool} {f : List Rs → α → List Rs} (hf : ∀ st a, doneL whole st = true → f st a = st) : ∀ (l : List α) (st : List Rs), doneL whole st = true → l.foldl f st = st
  | [], _, _ => rfl
  | a :: l, st, h => by rw [List.foldl_cons, hf st a h]; exact foldlL_done hf l st h
theorem stepW_done {whole : Bool} (j i v : Nat) {l : List Rs} (h : doneL whole l = true) : stepW whole j i v l = l := if_pos h
theorem growV_done {whole : Bool} (j i k : Nat) {l : List Rs} (h : doneL whole l = true) : growV whole j i k l = l := foldlL_done (fun _ v h => stepW_done j i v h) _ _ h
theorem growI_done {whole : Bool} (j k : Nat) {l : List Rs} (h : doneL whole l = true) : growI whole j k l = l := foldlL_done (fun _ i h => growV_done j i 0 h) _ _ h
theorem growJ_done {whole : Bool} (n j : Nat) {l : List Rs} (h : doneL whole l = true) : growJ whole n j l = l := by
  cases n with
  | zero => rfl
  | succ n => rw [growJ, h]; rfl
theorem growV_step {whole : Bool} {j i k : Nat} (hk : k < 6) (l : List Rs) : growV whole j i k l = growV whole j i (k + 1) (stepW whole j i k l) := by
  unfold growV
  rw [show 6 - k = (6 - (k + 1)) + 1 by omega, List.range'_succ, List.foldl_cons]
theorem growI_step {whole : Bool} {j k : Nat} (hk : k < j) (l : List Rs) : growI whole j k l = growI whole j (k + 1) (growV whole j k 0 l) := by
  unfold growI
  rw [show j - k = (j - (k + 1)) + 1 by omega, List.range'_succ, List.foldl_cons]
theorem growI_end (whole : Bool) (j : Nat) (l : List Rs) : growI whole j j l = l := by unfold growI; rw [Nat.sub_self]; rfl
theorem growJ_step {whole : Bool} {n j : Nat} {l : List Rs} (h2 : doneL whole l = false) (hj : j < l.length) : growJ whole (n + 1) j l = growJ whole n (j + 1) (growI whole j 0 l) := by
  rw [growJ, h2, if_neg (by simp; omega)]
theorem growJ_end {whole : Bool} {n j : Nat} {l : List Rs} (hj : l.length ≤ j) : growJ whole n j l = l := by
  cases n with
  | zero => rfl
  | succ n => rw [growJ, if_pos (by simp [hj])]
structure LInv (l : List Rs) : Prop where
  ok : ∀ s ∈ l, ClOk s.c
  nd : (l.map Rs.c).Nodup
theorem LInv.add {l : List Rs} (h : LInv l) {s : Rs} (hs : ClOk s.c) : LInv (addL l s) := by
  unfold addL
  split
  · exact h
  · rename_i hn
    refine ⟨fun x hx => ?_, ?_⟩
    · rcases List.mem_append.1 hx with hx | hx
      · exact h.ok x hx
      · simp at hx; subst hx; exact hs
    · rw [List.map_append, List.nodup_append]
      refine ⟨h.nd, by simp, fun a ha b hb => ?_⟩
      simp at hb; subst hb
      exact fun e => hn (e ▸ ha)
theorem LInv.len {l : List Rs} (h : LInv l) : l.length ≤ 729 := by
  have := nodup_bound 729 ((l.map Rs.c).map code3) (by
    rw [List.nodup_iff_pairwise_ne, List.pairwise_map]
    refine List.Pairwise.imp_of_mem ?_ (List.nodup_iff_pairwise_ne.1 h.nd)
    intro a b ha hb hne e
    obtain ⟨x, hx, rfl⟩ := List.mem_map.1 ha
    obtain ⟨y, hy, rfl⟩ := List.mem_map.1 hb
    exact hne (code3_inj (h.ok x hx) (h.ok y hy) e)) (by
    intro x hx
    obtain ⟨c, hc, rfl⟩ := List.mem_map.1 hx
    obtain ⟨s, hs, rfl⟩ := List.mem_map.1 hc
    exact code3_lt (h.ok s hs))
  simpa using this
theorem ordLs : OrdA lessB := ⟨⟨fun {a b} h => lessB_asymm a b h, fun {a b c} h k => lessB_trans a b c h k⟩, fun {a b} h k => lessB_anti a b h k⟩
theorem setA_nodup (L : List (List Int)) : (setA lessB L).Nodup := by
  rw [List.nodup_iff_pairwise_ne]
  refine (inc_setA ordLs L).imp fun {a b} h e => ?_
  subst e
  have := ordLs.o.asym h
  rw [h] at this; cases this
theorem gl0_map (L : List (List Int)) : (gl0 L).map Rs.c = setA lessB L := by
  unfold gl0
  rw [List.map_map]
  exact List.map_id' _
theorem gl0_inv {L : List (List Int)} (h : ∀ c ∈ L, ClOk c) : LInv (gl0 L) := by
  refine ⟨fun s hs => ?_, by rw [gl0_map]; exact setA_nodup L⟩
  obtain ⟨c, hc, rfl⟩ := List.mem_map.1 hs
  exact h c ((mem_setA ordLs).1 hc)
/-! ### Without 'whole' both searches are the same -/
theorem pstep_fst {st : RfSt} (h : RInv st) (j i v : Nat) : (pstep j i v st).1 = stepW false j i v st.1 := by
  unfold pstep stepW doneL
  have he := h.em
  rw [he]
  simp only [Bool.not_false, Bool.true_and]
  split
  · rfl
  · unfold stepL
    have ha : ∀ s, (addS st s).1 = addL st.1 s := fun s => by
      unfold addS addL
      split <;> rfl
    cases h1 : resC (st.1.getD i default).c (st.1.getD j default).c v with
    | some r => exact ha _
    | none =>
      cases h2 : resC (st.1.getD j default).c (st.1.getD i default).c v with
      | some r => exact ha _
      | none => rfl
theorem foldl_fst {α : Type} {f : RfSt → α → RfSt} {g : List Rs → α → List Rs} (hi : ∀ st a, RInv st → RInv (f st a)) (hf : ∀ st a, RInv st → (f st a).1 = g st.1 a) : ∀ (l : List α) (st : RfSt), RInv st → (l.foldl f st).1 = l.foldl g st.1
  | [], _, _ => rfl
  | a :: l, st, h => by rw [List.foldl_cons, List.foldl_cons, ← hf st a h]; exact foldl_fst hi hf l _ (hi st a h)
theorem remV_fst {st : RfSt} (h : RInv st) (j i k : Nat) : (remV j i k st).1 = growV false j i k st.1 := foldl_fst (fun _ v h => h.pstep j i v) (fun _ v h => pstep_fst h j i v) _ _ h
theorem remI_fst {st : RfSt} (h : RInv st) (j k : Nat) : (remI j k st).1 = growI false j k st.1 := foldl_fst (fun _ i h => h.remV j i 0) (fun _ i h => remV_fst h j i 0) _ _ h
theorem remJ_fst : ∀ (n j : Nat) {st : RfSt}, RInv st → (remJ n j st).1 = growJ false n j st.1
  | 0, _, _, _ => rfl
  | n + 1, j, st, h => by
    unfold remJ growJ doneL
    rw [h.em]
    simp only [Bool.not_false, Bool.true_and]
    split
    · rfl
    · rw [remJ_fst n (j + 1) (h.remI j 0), remI_fst h j 0]
/-- The last place with the empty clause, if there is one. -/
def lastE (l : List Rs) : Nat → Int
  | 0 => -1
  | k + 1 => if (l.getD k default).c = [] then (k : Int) else lastE l k
theorem lastE_none {l : List Rs} : ∀ (k : Nat), k ≤ l.length → (∀ i, i < k → ¬ (l.getD i default).c = []) → lastE l k = -1
  | 0, _, _ => rfl
  | k + 1, hk, h => by
    rw [lastE, if_neg (h k (by omega))]
    exact lastE_none k (by omega) fun i hi => h i (by omega)
theorem lastE_one {l : List Rs} {m : Nat} (hm : (l.getD m default).c = []) : ∀ (k : Nat), m < k → (∀ i, i < k → i ≠ m → ¬ (l.getD i default).c = []) → lastE l k = (m : Int)
  | 0, h, _ => by omega
  | k + 1, hk, h => by
    rw [lastE]
    by_cases e : k = m
    · subst e; rw [if_pos hm]
    · rw [if_neg (h k (by omega) e)]
      exact lastE_one hm k (by omega) fun i hi hne => h i (by omega) hne
/-- What RefuteClauses answers. -/
def rfR (L : List (List Int)) : List Rs × Int :=
  if ¬ ∀ c ∈ L, ClOk c then ([], 1) else if 40 < L.length then ([], 3) else if (endP L).2 then (usedR (endP L).1, 0) else ([], 4)
/-- The reference's answer is the program's. -/
theorem spec_end {L : List (List Int)} (hok : ∀ c ∈ L, ClOk c) :
    (if lastE (grownS false L) (grownS false L).length < 0 then (([] : List Rs), (4 : Int)) else (usedS (grownS false L) (lastE (grownS false L) (grownS false L).length).toNat, 0)) = if (endP L).2 then (usedR (endP L).1, 0) else ([], 4) := by
  have hSok : ∀ c ∈ setA lessB L, ClOk c := fun c hc => hok c ((mem_setA ordLs).1 hc)
  by_cases hE : [] ∈ setA lessB L
  · -- the empty clause is given
    obtain ⟨M, hM⟩ := setA_nil hE
    have hg : grownS false L = gl0 L := growJ_done 800 0 (by unfold doneL; rw [gl0_map]; simpa using hE)
    have hP : endP L = ([⟨[], -1, -1, -1⟩], true) := by
      unfold endP
      rw [hM, startP_E]
      exact remJ_done 800 0 (st := ([⟨[], -1, -1, -1⟩], true)) rfl
    rw [hg, hP, if_pos rfl]
    have hl0 : gl0 L = ⟨[], -1, -1, -1⟩ :: M.map fun c => ⟨c, -1, -1, -1⟩ := by unfold gl0; rw [hM]; rfl
    have hnd := setA_nodup L
    rw [hM, List.nodup_cons] at hnd
    have hlast : lastE (gl0 L) (gl0 L).length = ((0 : Nat) : Int) := by
      refine lastE_one (by rw [hl0]; rfl) _ (by rw [hl0]; simp) fun i hi hne => ?_
      rw [hl0] at hi ⊢
      obtain ⟨k, rfl⟩ : ∃ k, i = k + 1 := ⟨i - 1, by omega⟩
      simp only [List.length_cons, List.length_map] at hi
      have hk : k < M.length := by omega
      intro e
      refine hnd.1 ?_
      have : M[k] = [] := by simpa [List.getD_eq_getElem?_getD, hk] using e
      rw [← this]; exact List.getElem_mem hk
    rw [hlast, if_neg (by decide), Int.toNat_natCast]
    congr 1
    have e1 : usedR [(⟨[], -1, -1, -1⟩ : Rs)] = [⟨[], -1, -1, -1⟩] := rfl
    rw [e1]
    unfold usedS
    have hn : needK (gl0 L) (0 + 1) ((List.replicate (gl0 L).length false).set 0 true) = (List.replicate (gl0 L).length false).set 0 true := by
      rw [needK]
      have : ((gl0 L).getD 0 default).f = -1 := by rw [hl0]; rfl
      rw [this]
      simp only [show decide ((0 : Int) ≤ -1) = false by decide, Bool.and_false, Bool.false_eq_true, if_false]
      rfl
    rw [hn]
    have h0 : ((List.replicate (gl0 L).length false).set 0 true).getD 0 false = true := by rw [hl0]; rfl
    rw [numK]
    dsimp only
    rw [h0, if_pos rfl]
    have hx : (gl0 L).getD 0 default = ⟨[], -1, -1, -1⟩ := by rw [hl0]; rfl
    rw [hx]
    rfl
  · have hst : startP (setA lessB L) ([], false) = (gl0 L, false) := by
      rw [startP_noE _ _ rfl (by simpa using setA_nodup L) hE]
      rfl
    have hI0 : RInv (gl0 L, false) := by
      have := RInv.startP (setA lessB L) RInv.nil hSok
      rw [hst] at this; exact this
    have hg : grownS false L = (endP L).1 := by
      unfold grownS endP
      rw [hst, remJ_fst 800 0 hI0]
    have hI := endP_inv hok
    rw [hg]
    cases h2 : (endP L).2 with
    | true =>
      obtain ⟨hlen, hemp⟩ := endP_empty hok h2
      have hlast : lastE (endP L).1 (endP L).1.length = (((endP L).1.length - 1 : Nat) : Int) := by
        refine lastE_one hemp _ (by omega) fun i hi hne => hI.la i (by omega)
      rw [hlast, if_neg (by omega), Int.toNat_natCast, usedS_last hlen, if_pos rfl]
    | false =>
      have hno := hI.em
      rw [h2] at hno
      have hno := of_decide_eq_false hno.symm
      have hlast : lastE (endP L).1 (endP L).1.length = -1 := by
        refine lastE_none _ (Nat.le_refl _) fun i hi e => hno (List.mem_map.2 ⟨(endP L).1[i], List.getElem_mem hi, ?_⟩)
        simpa [List.getD_eq_getElem?_getD, hi] using e
      rw [hlast, if_pos (by decide), if_neg (by simp)]
theorem grownS_good {L : List (List Int)} (hok : ∀ c ∈ L, ClOk c) : ∀ k, k < (grownS false L).length → StepOk L (grownS false L) k := by
  have hSok : ∀ c ∈ setA lessB L, ClOk c := fun c hc => hok c ((mem_setA ordLs).1 hc)
  by_cases hE : [] ∈ setA lessB L
  · have hg : grownS false L = gl0 L := growJ_done 800 0 (by unfold doneL; rw [gl0_map]; simpa using hE)
    rw [hg]
    intro k hk
    have hk' : k < (setA lessB L).length := by simpa [gl0] using hk
    have e : (gl0 L).getD k default = ⟨(setA lessB L)[k], -1, -1, -1⟩ := by simp [gl0, List.getD_eq_getElem?_getD, hk']
    refine .inl ⟨by rw [e], by rw [e], by rw [e], ?_⟩
    rw [e]
    exact (mem_setA ordLs).1 (List.getElem_mem hk')
  · have hst : startP (setA lessB L) ([], false) = (gl0 L, false) := by
      rw [startP_noE _ _ rfl (by simpa using setA_nodup L) hE]
      rfl
    have hI0 : RInv (gl0 L, false) := by
      have := RInv.startP (setA lessB L) RInv.nil hSok
      rw [hst] at this; exact this
    have hg : grownS false L = (endP L).1 := by
      unfold grownS endP
      rw [hst, remJ_fst 800 0 hI0]
    rw [hg]
    exact endP_good L
end Go.Vc

/- Contracts: RefuteClauses of the program. Conditions: none. -/
namespace Go.Proofs.Ytfadcafacpaldaa
open Go.Vc
/-- A row of steps of the call's own, each with a row of its own. -/
def OwQ (lo : Nat) (w : World) (v : Value) (M : List Rs) : Prop := ∃ L : List RV, OwK 4 lo t_impl_Resolvent w v L.length (cellsQ L) ∧ OwP lo t_i64 w (L.map kyQ) ∧ L.map Prod.snd = M
theorem OwQ.nil (lo : Nat) (w : World) : OwQ lo w (.slice none 0 0) [] := ⟨[], OwK.nil _ _ _ _, ⟨fun p hp => (by cases hp), List.Pairwise.nil⟩, rfl⟩
theorem OwQ.ext {lo : Nat} {w w' : World} {v : Value} {M : List Rs} (h : OwQ lo w v M) (x : Ext w w') : OwQ lo w' v M := let ⟨L, a, b, c⟩ := h; ⟨L, a.ext x, b.ext x, c⟩
theorem OwQ.rd {lo : Nat} {w : World} {v : Value} {M : List Rs} (h : OwQ lo w v M) : ∃ L : List RV, RdQ w v L ∧ L.map Prod.snd = M := let ⟨L, a, b, c⟩ := h; ⟨L, ⟨a.sl, fun x hx => (b.1 (kyQ x) (List.mem_map_of_mem hx)).sl⟩, c⟩
theorem ok_impl_RefuteClauses {v : Value} {w : World} {P : List VL} (hs : RdRows w v P) :
    Cal Try.prog f_impl_RefuteClauses #[v] w fun r w' => Ext w w' ∧ ∃ u, r = .tuple #[u, .int .i64 (rfR (P.map Prod.snd)).2] ∧ OwQ w.heap.size w' u (rfR (P.map Prod.snd)).1 := by
  apply c_impl_RefuteClauses; unfold S_impl_RefuteClauses
  have hall : (∀ c ∈ P.map Prod.snd, ClOk c) ↔ ∀ p ∈ P, ClOk p.2 := ⟨fun h p hp => h _ (List.mem_map_of_mem hp), fun h c hc => by obtain ⟨p, hp, rfl⟩ := List.mem_map.1 hc; exact h p hp⟩
  refine iRet (ok_impl_areClauses hs) fun w1 h1 => ?_
  refine iNot ?_
  by_cases hok : ∀ p ∈ P, ClOk p.2
  rotate_left
  · rw [decide_eq_false hok]
    refine iCndT rfl ?_
    have e : rfR (P.map Prod.snd) = ([], 1) := if_pos fun h => hok (hall.1 h)
    rw [e]
    exact ⟨h1, _, rfl, OwQ.nil _ _⟩
  rw [decide_eq_true hok]
  refine iCndF rfl ?_
  have g1 := hs.ext h1
  refine iLenS g1.1 ?_
  rw [List.length_map]
  refine iLt (iCndP (fun h => ?_) (fun h => ?_))
  · have e : rfR (P.map Prod.snd) = ([], 3) := by
      unfold rfR
      rw [if_neg (not_not_intro (hall.2 hok)), if_pos (by rw [List.length_map]; omega)]
    rw [e]
    exact ⟨h1, _, rfl, OwQ.nil _ _⟩
  have hrf : rfR (P.map Prod.snd) = if (endP (P.map Prod.snd)).2 then (usedR (endP (P.map Prod.snd)).1, 0) else ([], 4) := by
    unfold rfR
    rw [if_neg (not_not_intro (hall.2 hok)), if_neg (by rw [List.length_map]; omega)]
  refine iSetMade fun bm w2 hbm h2 hM => ?_
  refine iBuild (cs := #[.slice none 0 0, .map (some bm)]) (by simp [Instr.fill, Value.cells]) ?_
  refine iNew fun b w3 hb h3 hB => ?_
  have hB : Blk _ w3 b [.slice none 0 0, .map (some bm)] := hB
  have hX3 := (h1.trans h2).trans h3
  have g3 := hs.ext hX3
  have hM3 := hM.ext h3
  have hR : RfW w.heap.size 42 w3 b bm (.slice none 0 0) [] := by
    refine ⟨hB, OwK.nil _ _ _ _, ?_, ⟨fun p hp => (by cases hp), List.Pairwise.nil⟩, ?_, ?_⟩
    · obtain ⟨es, clock, q1, q2, q3⟩ := hM3
      refine ⟨es, clock, q1, fun y hy => ?_, fun k hk => ?_⟩
      · obtain ⟨_, _, _, hF⟩ := q2 y hy
        exact hF.elim
      · obtain ⟨x, hx, _⟩ := hk
        cases hx
    · have := h1.size; have := h2.size; omega
    · have := h1.size; omega
  refine iCall ((ok_impl_refuter_run (by decide) (by decide) (by decide) (by decide) hR g3 (by omega) hok hX3.size).mono ?_)
  rintro _ w4 ⟨u', st', t, g4, hc4, he, rfl⟩
  have hX4 : Ext w w4 := hX3.thenCh hc4 fun c hc => hc
  refine iNot ?_
  rw [hrf, he]
  cases t with
  | false =>
    refine iCndT rfl ?_
    exact ⟨hX4, _, rfl, OwQ.nil _ _⟩
  | true =>
    refine iCndF rfl ?_
    have hen := endP_empty (L := P.map Prod.snd) (hall.2 hok) (by rw [he])
    have hin := (endP_inv (L := P.map Prod.snd) (hall.2 hok)).len
    rw [he] at hen hin
    simp only [List.length_map] at hen hin
    have hgd := endP_good (P.map Prod.snd)
    rw [he] at hgd
    refine iCall ((ok_impl_refuter_used g4 hgd hen.1 (by omega)).mono ?_)
    rintro u5 w5 ⟨h5, L, hL, hLs, hsub⟩
    refine ⟨hX4.trans h5, u5, rfl, L, hL.mono hX4.size, ?_, hLs⟩
    have hown := g4.own.ext h5
    exact ⟨fun p hp => hown.1 p (hsub.subset hp), hown.2.sublist hsub⟩
end Go.Proofs.Ytfadcafacpaldaa

/- Contracts: rows of rows in order without doubles, in the reference. Conditions: none. -/
namespace Go.Vc
section
universe u
variable {α : Type u} {enc : α → Value} {w : World}
theorem iRdS [Inhabited α] {v : Value} {L : List α} {j : Nat} {k : IntKind} {K : Value → Prop} (hs : Sl w v (L.map enc)) (hj : j < L.length) (h : K (enc (gt L j))) : xIa 1 v (.int k (j : Int)) fun p => xLd w p K :=
  iIaV hs (by rw [List.length_map]; exact hj) fun p hc => iLd hc (by rw [List.getElem_map, ← gt_eq hj]; exact h)
end
end Go.Vc
namespace Go.Proofs.Ytfadcafacpaldaa
open Go.Vc
theorem ok_spec_l01Same {va vb : Value} {w : World} {a b : List Int} (ha : SlI w va a) (hb : SlI w vb b) : Ret Try.prog f_spec_l01Same #[va, vb] w (.bool (decide (a = b))) := by
  apply c_spec_l01Same; unfold S_spec_l01Same
  have hal := ha.len
  have hbl := hb.len
  ((with_reducible refine iLenI (by assumption) ?_; refine iLenI (by assumption) ?_; refine iNe ?_))
  refine iCndP (fun h => ?_) (fun h => ?_)
  · rw [decide_eq_false (fun e => h (by rw [e]))]
    exact ⟨rfl, Ext.refl _⟩
  have hlen : a.length = b.length := by omega
  refine iLp (fun k : Nat => [.int .i64 (k : Int)]) (fun k w' => k ≤ a.length ∧ Ext w w' ∧ ∀ i, i < k → a[i]? = b[i]?) (fun k => a.length - k) 0 rfl ⟨Nat.zero_le _, Ext.refl _, fun i hi => by omega⟩ ?_
  rintro k w2 Kn ⟨hka, h2, heq⟩ hKn
  have ha2 := ha.ext h2
  have hb2 := hb.ext h2
  (intro _; (try simp only [gx]); (with_reducible refine iLenI (by assumption) ?_; refine iLt ?_))
  refine iCndP (fun h5 => ?_) (fun h5 => ?_)
  · have h5a : k < a.length := by omega
    have h5b : k < b.length := by omega
    have ea : a.getD k 0 = a[k] := by simp [List.getD_eq_getElem?_getD, h5a]
    have eb : b.getD k 0 = b[k] := by simp [List.getD_eq_getElem?_getD, h5b]
    ((with_reducible refine iIaN (by assumption) ?_ (fun pa_ hpa_ => ?_)); omega; (with_reducible refine iLd (by assumption) ?_); (with_reducible refine iIaN (by assumption) ?_ (fun pa_ hpa_ => ?_)); omega; (with_reducible refine iLd (by assumption) ?_; refine iNe ?_))
    rw [ea, eb]
    intro w3 h3
    refine iCndP (fun h7 => ?_) (fun h7 => ?_)
    · rw [decide_eq_false (fun e => h7 (by subst e; rfl))]
      exact ⟨rfl, h2.trans h3⟩
    · (refine iAdd (by omega) ?_)
      refine hKn (k + 1) _ ⟨by omega, h2.trans h3, fun i hi => ?_⟩ (by omega)
      by_cases hik : i = k
      · subst hik
        rw [List.getElem?_eq_getElem h5a, List.getElem?_eq_getElem h5b, Classical.not_not.1 h7]
      · exact heq i (by omega)
  · rw [decide_eq_true (List.ext_getElem? fun i => ?_)]
    · exact ⟨rfl, h2⟩
    rcases Nat.lt_or_ge i k with h | h
    · exact heq i h
    · rw [List.getElem?_eq_none (by omega), List.getElem?_eq_none (by omega)]
theorem ok_spec_l04Sorted {w : World} {v : Value} {P : List VL} (hv : Sl w v (P.map Prod.fst)) (hP : ∀ p ∈ P, SlI w p.1 p.2) (hPl : ∀ p ∈ P, p.2.length ≤ 1000000) (hlen : P.length ≤ 1000000) :
    Cal Try.prog f_spec_l04Sorted #[v] w fun r w' => Ext w w' ∧ RdLL w.heap.size w' r (setA lessB (P.map Prod.snd)) := by
  apply c_spec_l04Sorted; unfold S_spec_l04Sorted
  refine iBs0 fun u0 w1 _ h1 hu0 => ?_
  refine iLp (fun s : Nat × Value => [s.2, .int .i64 (s.1 : Int)]) (fun s w' => s.1 ≤ P.length ∧ Ext w w' ∧ ∃ Q : List VL, Ow w.heap.size t_Si64 w' s.2 (Q.map Prod.fst) ∧ OwP w.heap.size t_i64 w' Q ∧ Q.map Prod.snd = setA lessB ((P.map Prod.snd).take s.1)) (fun s => P.length - s.1) (0, u0) rfl ⟨Nat.zero_le _, h1, [], hu0, ⟨fun p hp => (by cases hp), List.Pairwise.nil⟩, rfl⟩ ?_
  rintro ⟨i, u⟩ w2 Kn ⟨hi, h2, Q, ho, hQ, hQs⟩ hKn
  have hi : i ≤ P.length := hi
  have h2 : Ext w w2 := h2
  have ho : Ow w.heap.size t_Si64 w2 u (Q.map Prod.fst) := ho
  have hQs : Q.map Prod.snd = setA lessB ((P.map Prod.snd).take i) := hQs
  have hQl : Q.length ≤ i := by
    have e := congrArg List.length hQs
    rw [List.length_map] at e
    have := setA_len (lt := lessB) ((P.map Prod.snd).take i)
    rw [List.length_take] at this
    omega
  have hv2 := hv.ext h2
  intro _
  simp only [gx]
  refine iLenS hv2 ?_
  rw [List.length_map]
  refine iLt ?_
  refine iCndP (fun h3 => ?_) (fun h3 => ?_)
  rotate_left
  · obtain rfl : i = P.length := by omega
    rw [List.take_of_length_le (by simp)] at hQs
    exact ⟨h2, Q.map Prod.fst, ho, by rw [← hQs]; exact hQ.to⟩
  have hi1 : i < P.length := by omega
  have hxm : gt P i ∈ P := by rw [gt_eq hi1]; exact List.getElem_mem _
  have etk : (P.map Prod.snd).take (i + 1) = (P.map Prod.snd).take i ++ [(gt P i).2] := by
    rw [List.take_succ_eq_append_getElem (by simpa using hi1), List.getElem_map, gt_eq hi1]
  have hset : setA lessB ((P.map Prod.snd).take (i + 1)) = insA lessB (gt P i).2 (Q.map Prod.snd) := by rw [etk, setA_snoc, ← hQs]
  generalize hx : (gt P i).2 = x at *
  have hxw : SlI w (gt P i).1 x := by rw [← hx]; exact hP _ hxm
  have hxl : x.length ≤ 1000000 := by rw [← hx]; exact hPl _ hxm
  have hgq : ∀ k, k < Q.length → gt (Q.map Prod.snd) k = (gt Q k).2 := fun k hk => by
    rw [gt_eq (by simpa using hk), gt_eq hk, List.getElem_map]
  have hqs : ∀ {w'}, Ext w2 w' → ∀ k, k < Q.length → SlI w' (gt Q k).1 (gt Q k).2 := fun h k hk => ((hQ.1 _ (by rw [gt_eq hk]; exact List.getElem_mem _)).ext h).sl
  refine iLp (fun k : Nat => [.int .i64 (k : Int)]) (fun k w' => k ≤ Q.length ∧ Ext w2 w' ∧ ∀ j, j < k → lessB (gt (Q.map Prod.snd) j) x = true) (fun k => Q.length - k) 0 rfl ⟨Nat.zero_le _, Ext.refl _, fun j hj => by omega⟩ ?_
  rintro k w3 Kn3 ⟨hk, h23, hlt⟩ hKn3
  have ho3 := ho.ext h23
  have hv3 := hv2.ext h23
  intro _
  simp only [gx]
  refine iJnB (decide (k < Q.length) && lessB (gt Q k).2 x) w3 (fun J hJ => ?_) (fun w4 h4 => ?_)
  · refine iLenS ho3.sl ?_
    rw [List.length_map]
    refine iLt ?_
    refine iCndP (fun h => ?_) (fun h => ?_)
    · rw [decide_eq_true (show k < Q.length by omega), Bool.true_and] at hJ
      refine iRdO (j := k) ho3 rfl (by omega) ?_
      refine iRdS (j := i) hv3 hi1 ?_
      refine iRetQ (fun w' h' => ok_spec_l01Less (hqs (h23.trans h') k (by omega)) (((hxw.ext h2).ext h23).ext h')) ?_
      exact hJ
    · rw [decide_eq_false (show ¬ k < Q.length by omega), Bool.false_and] at hJ
      exact hJ
  intro _
  simp only [gx]
  have ho4 := ho3.ext h4
  have hv4 := hv3.ext h4
  have h24 := h23.trans h4
  cases hc : decide (k < Q.length) && lessB (gt Q k).2 x
  rotate_left
  · rw [Bool.and_eq_true, decide_eq_true_eq] at hc
    refine iCndT rfl ?_
    refine iAdd (by omega) ?_
    refine hKn3 (k + 1) _ ⟨by omega, h24, fun j hj => ?_⟩ (by omega)
    by_cases hjk : j = k
    · subst hjk; rw [hgq j hc.1]; exact hc.2
    · exact hlt j (by omega)
  refine iCndF rfl ?_
  have hsp := insA_split (t := x) (l := Q.map Prod.snd) (k := k) (by simpa using hk) hlt
  refine iJnB (decide (k < Q.length) && decide ((gt Q k).2 = x)) w4 (fun J hJ => ?_) (fun w6 h6 => ?_)
  · refine iLenS ho4.sl ?_
    rw [List.length_map]
    refine iLt ?_
    refine iCndP (fun h => ?_) (fun h => ?_)
    · rw [decide_eq_true (show k < Q.length by omega), Bool.true_and] at hJ
      refine iRdO (j := k) ho4 rfl (by omega) ?_
      refine iRdS (j := i) hv4 hi1 ?_
      refine iRetQ (fun w' h' => ok_spec_l01Same (hqs (h24.trans h') k (by omega)) (((hxw.ext h2).ext h24).ext h')) ?_
      exact hJ
    · rw [decide_eq_false (show ¬ k < Q.length by omega), Bool.false_and] at hJ
      exact hJ
  intro _
  simp only [gx]
  have ho6 := ho4.ext h6
  have hv6 := hv4.ext h6
  have h26 := h24.trans h6
  have hX6 := h2.trans h26
  have hQ6 := hQ.ext h26
  cases hc2 : decide (k < Q.length) && decide ((gt Q k).2 = x)
  rotate_left
  · rw [Bool.and_eq_true, decide_eq_true_eq, decide_eq_true_eq] at hc2
    refine iCndT rfl ?_
    refine iAdd (by omega) ?_
    refine hKn (i + 1, u) _ ⟨by show i + 1 ≤ P.length; omega, hX6, Q, ho6, hQ6, ?_⟩ (by show P.length - (i + 1) < P.length - i; omega)
    show Q.map Prod.snd = setA lessB ((P.map Prod.snd).take (i + 1))
    have hkm : k < (Q.map Prod.snd).length := by simpa using hc2.1
    have hgk : (Q.map Prod.snd)[k] = x := by rw [← gt_eq hkm, hgq k hc2.1]; exact hc2.2
    rw [hset, hsp, List.drop_eq_getElem_cons hkm, hgk, insA, lessB_irr, if_neg (by decide), if_neg (by decide)]
    have := List.take_append_drop k (Q.map Prod.snd)
    rw [List.drop_eq_getElem_cons hkm, hgk] at this
    exact this.symm
  · refine iCndF rfl ?_
    have hres : insA lessB x (Q.map Prod.snd) = (Q.map Prod.snd).take k ++ [x] ++ (Q.map Prod.snd).drop k := by
      rw [hsp]
      rcases Nat.lt_or_ge k Q.length with h | h
      · rw [decide_eq_true h, Bool.true_and] at hc hc2
        have hkm : k < (Q.map Prod.snd).length := by simpa using h
        have hgk : (Q.map Prod.snd)[k] = (gt Q k).2 := by rw [← gt_eq hkm, hgq k h]
        rw [List.drop_eq_getElem_cons hkm, hgk, insA, hc, if_neg (by decide)]
        rcases ordL.tot (gt Q k).2 x with h' | h' | h'
        · rw [hc] at h'; cases h'
        · exact absurd h' (of_decide_eq_false hc2)
        · rw [if_pos h']; simp
      · rw [List.drop_of_length_le (by simpa using h)]; simp [insA]
    have hcell : ∀ y ∈ Q.map Prod.fst, isCell y = true := fun y hy => by
      obtain ⟨p, hp, rfl⟩ := List.mem_map.1 hy
      exact (hQ.1 p hp).cell
    have hml : (Q.map Prod.fst).length = Q.length := List.length_map _
    refine iBs0 fun v7 w7 hw7 h7 ho7 => ?_
    have ho67 := ho6.ext h7
    refine iSlTo ho67.sl (by rw [hml]; exact hk) fun y hy => ?_
    refine iAppA u_SSi64 i_SSi64 rfl ho7 hy (fun z hz => hcell z (List.mem_of_mem_take hz)) (by rw [List.length_take, List.length_nil]; omega) (by rw [List.length_take, List.length_nil]; omega) (by omega) fun v8 w8 ho8 hg8 _ => ?_
    have hX8 := h7.grown hg8 fun b hb => (ho7.blk b hb).1
    have hX8' := hX6.trans hX8
    refine iRdS (j := i) (hv6.ext hX8) hi1 ?_
    refine iCall ((ok_spec_l01Own (hxw.ext hX8') (by omega)).mono ?_)
    rintro nr w9 ⟨h9, hnr⟩
    have ho9 := ho8.ext h9
    have hX9 := hX8.trans h9
    have hll : ([] ++ List.take k (Q.map Prod.fst)).length = k := by simp; omega
    refine iApp1A u_SSi64 i_SSi64 rfl ho9 hnr.cell (by rw [hll]; omega) (by rw [hll]; omega) (by have := hX9.size; omega) fun v10 w10 ho10 hg10 _ => ?_
    have hX10 := hX9.grown hg10 fun b hb => (ho9.blk b hb).1
    have ho610 := ho6.ext hX10
    have hnr10 := hnr.ch (grown_ch (S := fun c => v8.ownBlock = some c) hg10 fun c hc => hc) fun c hc he => hnr.ne_ow ho9 (by decide) hc he
    refine iSlFrom ho610.sl (by rw [hml]; exact hk) fun y' hy' => ?_
    have hll2 : (([] ++ List.take k (Q.map Prod.fst)) ++ [nr]).length = k + 1 := by rw [List.length_append, hll]; rfl
    refine iAppA u_SSi64 i_SSi64 rfl ho10 hy' (fun z hz => hcell z (List.mem_of_mem_drop hz)) (by rw [hll2, List.length_drop, hml]; omega) (by rw [hll2, List.length_drop, hml]; omega) (by have := hX10.size; omega) fun v11 w11 ho11 hg11 _ => ?_
    have hX11 := hX10.grown hg11 fun b hb => (ho10.blk b hb).1
    have hnr11 := hnr10.ch (grown_ch (S := fun c => v10.ownBlock = some c) hg11 fun c hc => hc) fun c hc he => hnr10.ne_ow ho10 (by decide) hc he
    refine iAdd (by omega) ?_
    have hlo6 := hX6.size
    have hQ11 := hQ6.ext hX11
    refine hKn (i + 1, v11) _ ⟨by show i + 1 ≤ P.length; omega, hX6.trans hX11, Q.take k ++ (nr, x) :: Q.drop k, ?_, ?_, ?_⟩ (by show P.length - (i + 1) < P.length - i; omega)
    · have e : (Q.take k ++ (nr, x) :: Q.drop k).map Prod.fst = [] ++ List.take k (Q.map Prod.fst) ++ [nr] ++ List.drop k (Q.map Prod.fst) := by
        rw [List.map_append, List.map_cons, List.map_take, List.map_drop]; simp
      show Ow _ _ _ v11 _
      rw [e]
      exact ho11.mono hlo6
    · refine OwP.perm (P := (nr, x) :: Q) ⟨fun p hp => ?_, List.pairwise_cons.2 ⟨fun p hp c hc hc' => ?_, hQ11.2⟩⟩ ?_
      · rcases List.mem_cons.1 hp with rfl | hp
        · exact hnr11.mono (by have := hX8.size; omega)
        · exact hQ11.1 p hp
      · have a1 := (hnr.blk c hc).1
        have a2 := ((hQ6.1 p hp).blk c hc').2
        have := hX8.size
        omega
      · have := (List.perm_middle (a := (nr, x)) (l₁ := Q.take k) (l₂ := Q.drop k)).symm
        rwa [List.take_append_drop] at this
    · show (Q.take k ++ (nr, x) :: Q.drop k).map Prod.snd = setA lessB ((P.map Prod.snd).take (i + 1))
      rw [hset, hres, List.map_append, List.map_cons, List.map_take, List.map_drop]; simp
end Go.Proofs.Ytfadcafacpaldaa

/- Contracts: the steps that the reference finds. Conditions: none. -/
namespace Go.Vc
theorem iBs0Q {w : World} {e : TypeId} {z0 z1 z2 z3 : Value} {K : Value → World → Prop} (h : ∀ v w', Ext w w' → OwK 4 w.heap.size e w' v 0 [] → K v w') : xBs e (Value.cells (.agg #[z0, z1, z2, z3])) 4 0 [] w K := by
  refine ⟨#[], ?_, h _ _ (Ext.alloc w _) (OwK.ofBlk (k := 4) (n := 0) (Blk.new w #[] e) (Nat.le_refl _) rfl (by omega))⟩
  simp [Instr.fill]
/-- The marks of the clauses that are known. -/
def KnOk (kn : List Bool) (l : List Rs) : Prop := kn.length = 729 ∧ ∀ c, ClOk c → kn.getD (code3 c) false = decide (c ∈ l.map Rs.c)
theorem KnOk.add {kn : List Bool} {l : List Rs} (h : KnOk kn l) {s : Rs} (hs : ClOk s.c) : KnOk (kn.set (code3 s.c) true) (l ++ [s]) := by
  refine ⟨by rw [List.length_set]; exact h.1, fun c hc => ?_⟩
  have hlt := code3_lt hs
  have h0 := h.2 c hc
  by_cases e : c = s.c
  · subst e
    rw [decide_eq_true (by simp)]
    simp [List.getD_eq_getElem?_getD, h.1, hlt]
  · have hne : ¬ code3 s.c = code3 c := fun e' => e (code3_inj hc hs e'.symm)
    have : (kn.set (code3 s.c) true).getD (code3 c) false = kn.getD (code3 c) false := by simp [List.getD_eq_getElem?_getD, hne]
    rw [this, h0]
    refine decide_eq_decide.2 ⟨fun h => by rw [List.map_append]; exact List.mem_append_left _ h, fun h => ?_⟩
    rw [List.map_append] at h
    rcases List.mem_append.1 h with h | h
    · exact h
    · simp at h; exact absurd h e
theorem KnOk.zero {kn : List Bool} {l : List Rs} (h : KnOk kn l) (whole : Bool) : (!whole && kn.getD 0 false) = doneL whole l := by
  have := h.2 [] ⟨fun _ h => (by cases h), List.Pairwise.nil⟩
  unfold doneL
  rw [← this]; rfl
theorem KnOk.init {n : Nat} (hn : n = 729) : KnOk (List.replicate n false) [] := ⟨by rw [List.length_replicate]; exact hn, fun c hc => by
  have : (List.replicate n false).getD (code3 c) false = false := by
    rw [List.getD_eq_getElem?_getD, List.getElem?_replicate]
    split <;> rfl
  rw [this]; rfl⟩
theorem bls_rep (n : Nat) : bls (List.replicate n false) = List.replicate n (.bool false) := by simp [bls]
theorem stepL_none {j i v : Nat} {l : List Rs} (h1 : resC (l.getD i default).c (l.getD j default).c v = none) (h2 : resC (l.getD j default).c (l.getD i default).c v = none) : stepL j i v l = l := by unfold stepL; rw [h1]; dsimp only; rw [h2]
theorem stepL_one {j i v : Nat} {l : List Rs} {r : List Int} (h1 : resC (l.getD i default).c (l.getD j default).c v = some r) : stepL j i v l = addL l ⟨r, i, j, v⟩ := by unfold stepL; rw [h1]
theorem stepL_two {j i v : Nat} {l : List Rs} {r : List Int} (h1 : resC (l.getD i default).c (l.getD j default).c v = none) (h2 : resC (l.getD j default).c (l.getD i default).c v = some r) : stepL j i v l = addL l ⟨r, j, i, v⟩ := by unfold stepL; rw [h1]; dsimp only; rw [h2]
end Go.Vc
namespace Go.Proofs.Ytfadcafacpaldaa
open Go.Vc
/-- What the reference holds: the marks (of the clauses of mk), and the steps. -/
structure GrW (w0 w : World) (bk : Nat) (o : Value) (st : List RV) (mk : List Rs) : Prop where
  ext : Ext w0 w
  kn : ∃ kn, Blk 4 w bk (bls kn) ∧ KnOk kn mk
  row : OwK 4 w0.heap.size t_impl_Resolvent w o st.length (cellsQ st)
  own : ∀ x ∈ st, Ow w0.heap.size t_i64 w x.1 (ints x.2.c)
  lob : w0.heap.size ≤ bk
  inv : LInv (st.map Prod.snd)
theorem GrW.to {w0 w w' : World} {bk : Nat} {o : Value} {st : List RV} {mk : List Rs} (h : GrW w0 w bk o st mk) (x : Ext w w') : GrW w0 w' bk o st mk :=
  ⟨h.ext.trans x, let ⟨kn, a, b⟩ := h.kn; ⟨kn, a.ext x, b⟩, h.row.ext x, fun y hy => (h.own y hy).ext x, h.lob, h.inv⟩
/-- A clause is marked. -/
theorem GrW.mark {w0 w : World} {bk : Nat} {o : Value} {st : List RV} {mk : List Rs} {s : Rs} {K : World → Prop} (h : GrW w0 w bk o st mk) (hc : ClOk s.c) (hK : ∀ w', GrW w0 w' bk o st (mk ++ [s]) → Ch (fun c => c = bk) w w' → K w') : xSt w (.pointer (some ⟨bk, code3 s.c, none⟩)) (.bool true) K := by
  obtain ⟨kn, hB, hkn⟩ := h.kn
  have hlt := code3_lt hc
  refine iStB hB (by rw [bls_len, hkn.1]; exact hlt) rfl fun hB2 => ?_
  have hu := Upd.setCell w bk (code3 s.c) (.bool true)
  generalize w.setCell ⟨bk, code3 s.c, none⟩ (.bool true) = w1 at *
  rw [bls_set] at hB2
  exact hK w1 ⟨h.ext.upd hu h.lob, ⟨_, hB2, hkn.add hc⟩, h.row.ch (hu.ch (S := fun c => c = bk) rfl) fun c hc' e => OwK.ne_blk h.row hB (by decide) (by rw [hc', e]), fun y hy => (h.own y hy).upd hu ((h.own y hy).ne_blk hB (by decide)), h.lob, h.inv⟩ (hu.ch rfl)
/-- A step is laid behind. -/
theorem GrW.app {w0 w : World} {bk : Nat} {o : Value} {st : List RV} {x : RV} {t : TypeId} {z : Value} {bytes : Nat} {K : Value → World → Prop} (ht : Try.prog.underlying t = some (.slice t_impl_Resolvent)) (hi : (Try.prog.info? t_impl_Resolvent).map (fun i => (i.zero, i.size, i.bytes)) = some (some z, 4, bytes)) (hz : z.cells.size = 4) (hby : bytes ≤ 1000)
    (h : GrW w0 w bk o st (st.map Prod.snd ++ [x.2])) (hx : Ow w0.heap.size t_i64 w x.1 (ints x.2.c)) (hc : ClOk x.2.c) (hn : x.2.c ∉ (st.map Prod.snd).map Rs.c) {z1 z2 z3 z4 : Value}
    (hK : ∀ o' w', GrW w0 w' bk o' (st ++ [x]) ((st ++ [x]).map Prod.snd) → Ch (fun c => o.ownBlock = some c) w w' → K o' w') : xBs t_impl_Resolvent (Value.cells (.agg #[z1, z2, z3, z4])) 4 1 [(0, .agg #[x.1, .int .i64 x.2.f, .int .i64 x.2.s, .int .i64 x.2.v])] w fun y w2 => xOp Try.prog (Builtin.append_ #[t, t] t #[o, y]) w2 K := by
  obtain ⟨kn, hB, hkn⟩ := h.kn
  refine iBsQ fun bb w2 hbb h2 hBB => ?_
  have hsl : SlK 4 w2 (.slice (some ⟨bb, 0, none⟩) 1 1) 1 (csQ x) := (OwK.ofBlk (k := 4) (lo := 0) (n := 1) hBB (Nat.zero_le _) rfl (by omega)).sl
  have hrow2 := h.row.ext h2
  have hlen := h.inv.len
  rw [List.length_map] at hlen
  refine iAppK ht hi hz (by decide) hrow2 hsl (fun y hy => by
    simp only [csQ, List.mem_cons, List.not_mem_nil, or_false] at hy
    rcases hy with rfl | rfl | rfl | rfl
    · exact hx.cell
    · rfl
    · rfl
    · rfl) (by have := Nat.mul_le_mul (show st.length + 1 ≤ 1000 by omega) hby; omega) (by omega) (by have := h.ext.size; have := h2.size; omega) fun o' w3 ho' hg hat => ?_
  have hch := grown_ch (S := fun c => o.ownBlock = some c) hg fun c hc => hc
  refine hK o' w3 ⟨(h.ext.trans h2).grown hg fun c hc => (hrow2.blk c hc).1, ⟨_, (hB.ext h2).grown hg (hrow2.ne_blk (hB.ext h2) (by decide)), by rw [List.map_append]; exact hkn⟩, ?_, fun y hy => ?_, h.lob, ?_⟩ ((h2.ch (S := fun c => o.ownBlock = some c)).trans hch fun c hc => .inl hc)
  · rw [cellsQ_app, List.length_append]
    have e : cellsQ [x] = csQ x := by simp [cellsQ]
    rw [e]; exact ho'
  · rcases List.mem_append.1 hy with hy | hy
    · exact ((h.own y hy).ext h2).ch hch fun c hc' hS => ne_owK ((h.own y hy).ext h2) hrow2 (by decide) c hc' hS
    · simp only [List.mem_singleton] at hy
      subst hy
      exact (hx.ext h2).ch hch fun c hc' hS => ne_owK (hx.ext h2) hrow2 (by decide) c hc' hS
  · have := h.inv.add (s := x.2) hc
    unfold addL at this
    rw [if_neg hn] at this
    rw [List.map_append]; exact this
/-- The test ahead of each round: is there more to do? -/
theorem iMore {w0 w : World} {bk : Nat} {o : Value} {st : List RV} {mk : List Rs} {whole : Bool} {ki : IntKind} {G : Bool} {J : List Value → World → Prop} (h : GrW w0 w bk o st mk) (hJ : J [.bool (G && !doneL whole mk)] w) :
    cnd (.bool G) (cnd (.bool whole) (J [.bool true] w) (xIa 1 (.slice (some ⟨bk, 0, none⟩) 729 729) (.int ki ((0 : Nat) : Int)) fun v => xLd w v fun v => xNot v fun v => J [v] w)) (J [.bool false] w) := by
  cases G with
  | false => exact iCndF rfl hJ
  | true =>
    refine iCndT rfl ?_
    rw [Bool.true_and] at hJ
    obtain ⟨kn, hB, hkn⟩ := h.kn
    have hz := hkn.zero whole
    cases whole with
    | true => exact iCndT rfl hJ
    | false =>
      refine iCndF rfl ?_
      refine iIaB (by decide) ?_
      refine iLdB hB (bls_at (by rw [hkn.1]; decide)) ?_
      refine iNot ?_
      rw [Bool.not_false, Bool.true_and] at hz
      rw [hz]; exact hJ
theorem ok_spec_l04Grown {v : Value} {w : World} {P : List VL} (hs : RdRows w v P) (hlen : P.length ≤ 1000000) (hok : ∀ p ∈ P, ClOk p.2) (whole : Bool) :
    Cal Try.prog f_spec_l04Grown #[v, .bool whole] w fun r w' => ∃ bk st, GrW w w' bk r st (st.map Prod.snd) ∧ st.map Prod.snd = grownS whole (P.map Prod.snd) := by
  apply c_spec_l04Grown; unfold S_spec_l04Grown
  refine iMk (n := 729) (by omega) (by omega) rfl fun bk w1 hbk h1 hB1 => ?_
  have hB1 : Blk 4 w1 bk (bls (List.replicate 729 false)) := by rw [bls_rep]; exact hB1
  have hk0 := KnOk.init (n := 729) rfl
  generalize List.replicate 729 false = kn0 at *
  refine iBs0Q fun o0 w2 h2 ho2 => ?_
  have hX2 := h1.trans h2
  have g2 := hs.ext hX2
  refine iCall ((ok_spec_l04Sorted g2.1 g2.2 (fun p hp => by have := (hok p hp).len; omega) hlen).mono ?_)
  rintro r3 w3 ⟨h3, vs, hr3, hl3⟩
  have hX3 := hX2.trans h3
  have hokL : ∀ c ∈ P.map Prod.snd, ClOk c := fun c hc => by obtain ⟨p, hp, rfl⟩ := List.mem_map.1 hc; exact hok p hp
  have hokS : ∀ c ∈ setA lessB (P.map Prod.snd), ClOk c := fun c hc => hokL c ((mem_setA ordLs).1 hc)
  have hvl : vs.length = (setA lessB (P.map Prod.snd)).length := by have := hl3.1; simpa using this
  have hG0 : GrW w w3 bk o0 [] [] := ⟨hX3, ⟨_, hB1.ext (h2.trans h3), hk0⟩, (ho2.ext h3).mono h1.size, fun x hx => (by cases hx), by omega, ⟨fun x hx => (by cases hx), List.nodup_nil⟩⟩
  have hglen : (setA lessB (P.map Prod.snd)).length ≤ 729 := by
    have := (gl0_inv hokL).len
    simpa [gl0] using this
  have hnd := setA_nodup (P.map Prod.snd)
  have hgl : grownS whole (P.map Prod.snd) = growJ whole 800 0 ((setA lessB (P.map Prod.snd)).map fun c => ⟨c, -1, -1, -1⟩) := rfl
  have hrl : ∀ i (g : i < vs.length) (g' : i < (setA lessB (P.map Prod.snd)).length), Ow w.heap.size t_i64 w3 vs[i] (ints (setA lessB (P.map Prod.snd))[i]) := fun i g g' => by
    have := hl3.at (i := i) g (by simpa using g')
    rw [List.getElem_map] at this
    exact this.mono hX2.size
  have hr3 := hr3.mono hX2.size
  generalize setA lessB (P.map Prod.snd) = S at *
  refine iLp (fun s : Nat × Value => [s.2, .int .i64 (s.1 : Int)]) (fun s w' => s.1 ≤ S.length ∧ Ow w.heap.size t_Si64 w' r3 vs ∧ (∀ i (g : i < vs.length) (g' : i < S.length), Ow w.heap.size t_i64 w' vs[i] (ints S[i])) ∧ ∃ st, GrW w w' bk s.2 st (st.map Prod.snd) ∧ st.map Prod.snd = (S.take s.1).map fun c => ⟨c, -1, -1, -1⟩) (fun s => S.length - s.1) (0, o0) rfl ⟨Nat.zero_le _, hr3, hrl, [], hG0, rfl⟩ ?_
  rintro ⟨i, o⟩ w4 Kn ⟨hi, hr4, hrl4, st, hG, hst⟩ hKn
  have hi : i ≤ S.length := hi
  have hG : GrW w w4 bk o st (st.map Prod.snd) := hG
  have hst : st.map Prod.snd = (S.take i).map fun c => ⟨c, -1, -1, -1⟩ := hst
  intro _
  simp only [gx]
  refine iLenS hr4.sl ?_
  refine iLt (iCndP (fun h5 => ?_) (fun h5 => ?_))
  · have hiv : i < vs.length := by omega
    have hiS : i < S.length := by omega
    have hx4 := hrl4 i hiv hiS
    have hcok := hokS _ (List.getElem_mem hiS)
    refine iIaV hr4.sl hiv fun p hp => ?_
    refine iLd hp ?_
    refine iRet (ok_spec_l04Code3 hx4.sl hcok) fun w5 h45 => ?_
    have G5 := hG.to h45
    refine iIaB (code3_lt hcok) ?_
    refine GrW.mark (s := ⟨S[i], -1, -1, -1⟩) G5 hcok fun w6 G6 hc6 => ?_
    have hne6 : ∀ {e : TypeId} {v : Value} {xs : List Value}, Ow w.heap.size e w5 v xs → e ≠ 4 → Ow w.heap.size e w6 v xs := fun ho hne => ho.ch hc6 fun c hc e => by
      obtain ⟨kn, hB, _⟩ := G5.kn
      exact ho.ne_blk hB hne (by rw [hc, e])
    have hr6 := hne6 (hr4.ext h45) (by decide)
    have hrl6 : ∀ k (g : k < vs.length) (g' : k < S.length), Ow w.heap.size t_i64 w6 vs[k] (ints S[k]) := fun k g g' => hne6 ((hrl4 k g g').ext h45) (by decide)
    refine iIaV hr6.sl hiv fun p hp => ?_
    refine iLd hp ?_
    refine iBuild (fillQ4 (hrl6 i hiv hiS).cell rfl rfl rfl) ?_
    refine GrW.app (x := (vs[i], (⟨S[i], -1, -1, -1⟩ : Rs))) u_Simpl_Resolvent i_Simpl_Resolvent rfl (by decide) G6 (hrl6 i hiv hiS) hcok (fun hm => ?_) fun o' w7 G7 hc7 => ?_
    · rw [hst, List.map_map] at hm
      obtain ⟨c0, hc0, e0⟩ := List.mem_map.1 hm
      have e0 : c0 = S[i] := e0
      have hm : S[i] ∈ S.take i := by rw [← e0]; exact hc0
      obtain ⟨k, hk, e⟩ := List.getElem_of_mem hm
      rw [List.length_take] at hk
      rw [List.getElem_take] at e
      exact (List.pairwise_iff_getElem.1 (List.nodup_iff_pairwise_ne.1 hnd)) k i (by omega) hiS (by omega) e
    · have hne7 : ∀ {e : TypeId} {v : Value} {xs : List Value}, Ow w.heap.size e w6 v xs → e ≠ t_impl_Resolvent → Ow w.heap.size e w7 v xs := fun ho hne => ho.ch hc7 fun c hc e => ne_owK ho G6.row hne c hc e
      refine iAdd (by omega) ?_
      refine hKn (i + 1, o') _ ⟨by show i + 1 ≤ S.length; omega, hne7 hr6 (by decide), fun k g g' => hne7 (hrl6 k g g') (by decide), _, G7, ?_⟩ (by show S.length - (i + 1) < S.length - i; omega)
      show (st ++ [_]).map Prod.snd = (S.take (i + 1)).map _
      rw [List.map_append, hst, List.take_succ_eq_append_getElem hiS, List.map_append]
      rfl
  · obtain rfl : i = S.length := by omega
    rw [List.take_length] at hst
    rw [← hst] at hgl
    clear hKn hrl4 hr4
    refine iLp (fun s : Nat × Value => [s.2, .int .i64 (s.1 : Int)]) (fun s w' => ∃ st n, GrW w w' bk s.2 st (st.map Prod.snd) ∧ grownS whole (P.map Prod.snd) = growJ whole n s.1 (st.map Prod.snd) ∧ 729 ≤ n + s.1) (fun s => 729 - s.1) (0, o) rfl ⟨st, 800, hG, hgl, by omega⟩ ?_
    rintro ⟨j, o2⟩ w5 Kn ⟨st2, n2, G2, hg2, hn2⟩ hKn
    have G2 : GrW w w5 bk o2 st2 (st2.map Prod.snd) := G2
    have hg2 : grownS whole (P.map Prod.snd) = growJ whole n2 j (st2.map Prod.snd) := hg2
    have hn2 : 729 ≤ n2 + j := hn2
    have hl2 : st2.length ≤ 729 := by have := G2.inv.len; simpa using this
    intro _
    simp only [gx]
    refine iJnPQ (fun xs w' => xs = [.bool (decide ((j : Int) < ((st2.length : Nat) : Int)) && !doneL whole (st2.map Prod.snd))] ∧ w' = w5) (fun J hJ => ?_) (fun xs w6 hC => ?_)
    · refine iLenK G2.row.sl (iLt ?_)
      exact iMore (ki := .i64) G2 (hJ _ _ ⟨rfl, rfl⟩)
    obtain ⟨rfl, rfl⟩ := hC
    intro _
    simp only [gx]
    refine iCnd (fun hT => ?_) (fun hT => ?_)
    rotate_left
    · refine ⟨bk, st2, G2, ?_⟩
      rw [hg2]
      rw [Bool.and_eq_false_iff, decide_eq_false_iff_not, Bool.not_eq_false'] at hT
      rcases hT with h | h
      · exact (growJ_end (by rw [List.length_map]; omega)).symm
      · exact (growJ_done n2 j h).symm
    rw [Bool.and_eq_true, decide_eq_true_eq, Bool.not_eq_true'] at hT
    have hj2 : j < st2.length := by omega
    obtain ⟨m, rfl⟩ : ∃ m, n2 = m + 1 := ⟨n2 - 1, by omega⟩
    rw [growJ_step hT.2 (by rw [List.length_map]; exact hj2)] at hg2
    refine iLp (fun s : Nat × Value => [s.2, .int .i64 (s.1 : Int)]) (fun s w' => s.1 ≤ j ∧ ∃ st, GrW w w' bk s.2 st (st.map Prod.snd) ∧ grownS whole (P.map Prod.snd) = growJ whole m (j + 1) (growI whole j s.1 (st.map Prod.snd)) ∧ j < st.length) (fun s => j - s.1) (0, o2) rfl ⟨Nat.zero_le _, st2, G2, hg2, hj2⟩ ?_
    rintro ⟨i, o3⟩ w7 Kn3 ⟨hij, st3, G3, hg3, hj3⟩ hKn3
    have hij : i ≤ j := hij
    have G3 : GrW w w7 bk o3 st3 (st3.map Prod.snd) := G3
    have hg3 : grownS whole (P.map Prod.snd) = growJ whole m (j + 1) (growI whole j i (st3.map Prod.snd)) := hg3
    intro _
    simp only [gx]
    refine iJnPQ (fun xs w' => xs = [.bool (decide ((i : Int) < (j : Int)) && !doneL whole (st3.map Prod.snd))] ∧ w' = w7) (fun J hJ => ?_) (fun xs w6 hC => ?_)
    · refine iLt ?_
      exact iMore (ki := .i64) G3 (hJ _ _ ⟨rfl, rfl⟩)
    obtain ⟨rfl, rfl⟩ := hC
    intro _
    simp only [gx]
    refine iCnd (fun hT3 => ?_) (fun hT3 => ?_)
    rotate_left
    · refine iAdd (by omega) ?_
      refine hKn (j + 1, o3) _ ⟨st3, m, G3, ?_, by show 729 ≤ m + (j + 1); omega⟩ (by show 729 - (j + 1) < 729 - j; omega)
      show grownS whole (P.map Prod.snd) = growJ whole m (j + 1) (st3.map Prod.snd)
      rw [hg3]
      rw [Bool.and_eq_false_iff, decide_eq_false_iff_not, Bool.not_eq_false'] at hT3
      rcases hT3 with h | h
      · obtain rfl : i = j := by omega
        rw [growI_end]
      · rw [growI_done j i h]
    rw [Bool.and_eq_true, decide_eq_true_eq, Bool.not_eq_true'] at hT3
    have hij3 : i < j := by omega
    rw [growI_step hij3] at hg3
    refine iLp (fun s : Nat × Value => [s.2, .int .i64 (s.1 : Int)]) (fun s w' => s.1 ≤ 6 ∧ ∃ st, GrW w w' bk s.2 st (st.map Prod.snd) ∧ grownS whole (P.map Prod.snd) = growJ whole m (j + 1) (growI whole j (i + 1) (growV whole j i s.1 (st.map Prod.snd))) ∧ j < st.length) (fun s => 6 - s.1) (0, o3) rfl ⟨Nat.zero_le _, st3, G3, hg3, hj3⟩ ?_
    rintro ⟨v, o4⟩ w8 Kn4 ⟨hv, st4, G4, hg4, hj4⟩ hKn4
    have hv : v ≤ 6 := hv
    have G4 : GrW w w8 bk o4 st4 (st4.map Prod.snd) := G4
    have hg4 : grownS whole (P.map Prod.snd) = growJ whole m (j + 1) (growI whole j (i + 1) (growV whole j i v (st4.map Prod.snd))) := hg4
    have hl4 : st4.length ≤ 729 := by have := G4.inv.len; simpa using this
    intro _
    simp only [gx]
    refine iJnPQ (fun xs w' => xs = [.bool (decide ((v : Int) < 6) && !doneL whole (st4.map Prod.snd))] ∧ w' = w8) (fun J hJ => ?_) (fun xs w6 hC => ?_)
    · refine iLt ?_
      exact iMore (ki := .i64) G4 (hJ _ _ ⟨rfl, rfl⟩)
    obtain ⟨rfl, rfl⟩ := hC
    intro _
    simp only [gx]
    refine iCnd (fun hT4 => ?_) (fun hT4 => ?_)
    rotate_left
    · refine iAdd (by omega) ?_
      refine hKn3 (i + 1, o4) _ ⟨by show i + 1 ≤ j; omega, st4, G4, ?_, hj4⟩ (by show j - (i + 1) < j - i; omega)
      show grownS whole (P.map Prod.snd) = growJ whole m (j + 1) (growI whole j (i + 1) (st4.map Prod.snd))
      rw [hg4]
      rw [Bool.and_eq_false_iff, decide_eq_false_iff_not, Bool.not_eq_false'] at hT4
      rcases hT4 with h | h
      · obtain rfl : v = 6 := by omega
        rfl
      · rw [growV_done j i v h]
    rw [Bool.and_eq_true, decide_eq_true_eq, Bool.not_eq_true'] at hT4
    have hv6 : v < 6 := by omega
    have hi4 : i < st4.length := by omega
    rw [growV_step hv6, show stepW whole j i v (st4.map Prod.snd) = stepL j i v (st4.map Prod.snd) from if_neg (by rw [hT4.2]; simp)] at hg4
    have hmi : gt st4 i ∈ st4 := by rw [gt_eq hi4]; exact List.getElem_mem hi4
    have hmj : gt st4 j ∈ st4 := by rw [gt_eq hj4]; exact List.getElem_mem hj4
    have hsi := snd_getD st4 hi4
    have hsj := snd_getD st4 hj4
    refine iFldQ (f := 0) (x := (gt st4 i).1) G4.row.sl hi4 (by decide) (by rw [cellsQ_at hi4 0 (by decide)]; rfl) ?_
    refine iFldQ (f := 0) (x := (gt st4 j).1) G4.row.sl hj4 (by decide) (by rw [cellsQ_at hj4 0 (by decide)]; rfl) ?_
    intro w9 h9
    have G9 := G4.to h9
    refine iCall ((ok_spec_l04Resolve (G9.own _ hmi).sl (G9.own _ hmj).sl v hv6).mono ?_)
    rintro _ w10 ⟨h10, ua, rfl, hua⟩
    refine iE20 (iE21 ?_)
    intro w11 h11
    have G11 := (G9.to h10).to h11
    refine iNot ?_
    refine iJnPQ (fun xs w' => Ext w11 w' ∧ ∃ (a b : Nat) (rv : Value) (ok : Bool), xs = [.int .i64 (a : Int), .int .i64 (b : Int), rv, .bool ok] ∧ ((ok = false ∧ stepL j i v (st4.map Prod.snd) = st4.map Prod.snd) ∨ (ok = true ∧ ∃ r, Ow w.heap.size t_i64 w' rv (ints r) ∧ ClOk r ∧ stepL j i v (st4.map Prod.snd) = addL (st4.map Prod.snd) ⟨r, a, b, v⟩))) (fun J hJ => ?_) (fun xs w12 hC => ?_)
    · cases hr1 : resC (gt st4 i).2.c (gt st4 j).2.c v with
      | some r =>
        refine iCndF rfl ?_
        rw [hr1] at hua
        exact hJ _ _ ⟨Ext.refl _, i, j, ua, true, rfl, .inr ⟨rfl, r, ((hua r rfl).ext h11).mono (by have := G9.ext.size; omega), resC_ok hr1, stepL_one (by rw [hsi, hsj]; exact hr1)⟩⟩
      | none =>
        refine iCndT rfl ?_
        refine iFldQ (f := 0) (x := (gt st4 j).1) G11.row.sl hj4 (by decide) (by rw [cellsQ_at hj4 0 (by decide)]; rfl) ?_
        refine iFldQ (f := 0) (x := (gt st4 i).1) G11.row.sl hi4 (by decide) (by rw [cellsQ_at hi4 0 (by decide)]; rfl) ?_
        intro w12 h12
        have G12 := G11.to h12
        refine iCall ((ok_spec_l04Resolve (G12.own _ hmj).sl (G12.own _ hmi).sl v hv6).mono ?_)
        rintro _ w13 ⟨h13, ub, rfl, hub⟩
        refine iE20 (iE21 ?_)
        intro w14 h14
        have hX := (h12.trans h13).trans h14
        cases hr2 : resC (gt st4 j).2.c (gt st4 i).2.c v with
        | some r =>
          rw [hr2] at hub
          exact hJ _ _ ⟨hX, j, i, ub, true, rfl, .inr ⟨rfl, r, ((hub r rfl).ext h14).mono (by have := G12.ext.size; omega), resC_ok hr2, stepL_two (by rw [hsi, hsj]; exact hr1) (by rw [hsi, hsj]; exact hr2)⟩⟩
        | none => exact hJ _ _ ⟨hX, j, i, ub, false, rfl, .inl ⟨rfl, stepL_none (by rw [hsi, hsj]; exact hr1) (by rw [hsi, hsj]; exact hr2)⟩⟩
    obtain ⟨hX12, a, b, rv, ok, rfl, hcase⟩ := hC
    have G12 := G11.to hX12
    intro _
    simp only [gx]
    rcases hcase with ⟨rfl, hstep⟩ | ⟨rfl, r, hro, hrok, hstep⟩
    · rw [hstep] at hg4
      refine iJnPQ (fun xs w' => xs = [.bool false] ∧ w' = w12) (fun J hJ => iCndF rfl (hJ _ _ ⟨rfl, rfl⟩)) (fun xs w13 hC => ?_)
      obtain ⟨rfl, rfl⟩ := hC
      intro _
      simp only [gx]
      refine iCndF rfl ?_
      refine iAdd (by omega) ?_
      exact hKn4 (v + 1, o4) _ ⟨by show v + 1 ≤ 6; omega, st4, G12, hg4, hj4⟩ (by show 6 - (v + 1) < 6 - v; omega)
    · refine iJnPQ (fun xs w' => Ext w12 w' ∧ xs = [.bool (!decide (r ∈ (st4.map Prod.snd).map Rs.c))]) (fun J hJ => ?_) (fun xs w13 hC => ?_)
      · refine iCndT rfl ?_
        refine iRet (ok_spec_l04Code3 hro.sl hrok) fun w13 h13 => ?_
        obtain ⟨kn, hB, hkn⟩ := (G12.to h13).kn
        refine iIaB (code3_lt hrok) ?_
        refine iLdB hB (bls_at (by rw [hkn.1]; exact code3_lt hrok)) ?_
        refine iNot ?_
        rw [hkn.2 r hrok]
        exact hJ _ _ ⟨h13, rfl⟩
      obtain ⟨h13, rfl⟩ := hC
      have G13 := G12.to h13
      have hro13 := hro.ext h13
      intro _
      simp only [gx]
      by_cases hm : r ∈ (st4.map Prod.snd).map Rs.c
      · rw [decide_eq_true hm]
        refine iCndF rfl ?_
        refine iAdd (by omega) ?_
        rw [hstep, show addL (st4.map Prod.snd) ⟨r, a, b, v⟩ = st4.map Prod.snd from if_pos hm] at hg4
        exact hKn4 (v + 1, o4) _ ⟨by show v + 1 ≤ 6; omega, st4, G13, hg4, hj4⟩ (by show 6 - (v + 1) < 6 - v; omega)
      · rw [decide_eq_false hm]
        refine iCndT rfl ?_
        refine iRet (ok_spec_l04Code3 hro13.sl hrok) fun w14 h14 => ?_
        have G14 := G13.to h14
        have hro14 := hro13.ext h14
        refine iIaB (code3_lt hrok) ?_
        refine GrW.mark (s := ⟨r, a, b, v⟩) G14 hrok fun w15 G15 hc15 => ?_
        have hro15 : Ow w.heap.size t_i64 w15 rv (ints r) := hro14.ch hc15 fun c hc e => by
          obtain ⟨kn, hB, _⟩ := G14.kn
          exact hro14.ne_blk hB (by decide) (by rw [hc, e])
        refine iBuild (fillQ4 hro15.cell rfl rfl rfl) ?_
        refine GrW.app (x := (rv, (⟨r, a, b, v⟩ : Rs))) u_Simpl_Resolvent i_Simpl_Resolvent rfl (by decide) G15 hro15 hrok hm fun o' w16 G16 hc16 => ?_
        refine iAdd (by omega) ?_
        rw [hstep, show addL (st4.map Prod.snd) ⟨r, a, b, v⟩ = (st4 ++ [(rv, (⟨r, a, b, v⟩ : Rs))]).map Prod.snd by unfold addL; rw [if_neg hm, List.map_append]; rfl] at hg4
        exact hKn4 (v + 1, o') _ ⟨by show v + 1 ≤ 6; omega, _, G16, hg4, by rw [List.length_append]; omega⟩ (by show 6 - (v + 1) < 6 - v; omega)
end Go.Proofs.Ytfadcafacpaldaa

/- Contracts: RefuteClauses of the reference. Conditions: none. -/
namespace Go.Vc
theorem OwP.snocQ {lo : Nat} {e : TypeId} {w : World} {P : List VL} {x : VL} (h : OwP lo e w P) (hx : Ow lo e w x.1 (ints x.2)) (hne : ∀ p ∈ P, ∀ c, p.1.ownBlock = some c → x.1.ownBlock ≠ some c) : OwP lo e w (P ++ [x]) := by
  refine ⟨fun p hp => ?_, List.pairwise_append.2 ⟨h.2, List.pairwise_singleton _ _, fun p hp q hq c hc hc' => ?_⟩⟩
  · rcases List.mem_append.1 hp with hp | hp
    · exact h.1 p hp
    · simp at hp; subst hp; exact hx
  · simp at hq; subst hq
    exact hne p hp c hc hc'
end Go.Vc
namespace Go.Proofs.Ytfadcafacpaldaa
open Go.Vc
theorem ok_spec_RefuteClauses {v : Value} {w : World} {P : List VL} (hs : RdRows w v P) :
    Cal Try.prog f_spec_RefuteClauses #[v] w fun r w' => Ext w w' ∧ ∃ u, r = .tuple #[u, .int .i64 (rfR (P.map Prod.snd)).2] ∧ OwQ w.heap.size w' u (rfR (P.map Prod.snd)).1 := by
  apply c_spec_RefuteClauses; unfold S_spec_RefuteClauses
  have hall : (∀ c ∈ P.map Prod.snd, ClOk c) ↔ ∀ p ∈ P, ClOk p.2 := ⟨fun h p hp => h _ (List.mem_map_of_mem hp), fun h c hc => by obtain ⟨p, hp, rfl⟩ := List.mem_map.1 hc; exact h p hp⟩
  refine iRet (ok_spec_l04All hs) fun w1 h1 => ?_
  refine iNot ?_
  by_cases hok : ∀ p ∈ P, ClOk p.2
  rotate_left
  · rw [decide_eq_false hok]
    refine iCndT rfl ?_
    have e : rfR (P.map Prod.snd) = ([], 1) := if_pos fun h => hok (hall.1 h)
    rw [e]
    exact ⟨h1, _, rfl, OwQ.nil _ _⟩
  rw [decide_eq_true hok]
  refine iCndF rfl ?_
  have g1 := hs.ext h1
  refine iLenS g1.1 ?_
  rw [List.length_map]
  refine iLt (iCndP (fun h => ?_) (fun h => ?_))
  · have e : rfR (P.map Prod.snd) = ([], 3) := by
      unfold rfR
      rw [if_neg (not_not_intro (hall.2 hok)), if_pos (by rw [List.length_map]; omega)]
    rw [e]
    exact ⟨h1, _, rfl, OwQ.nil _ _⟩
  have hrf : rfR (P.map Prod.snd) = if (endP (P.map Prod.snd)).2 then (usedR (endP (P.map Prod.snd)).1, 0) else ([], 4) := by
    unfold rfR
    rw [if_neg (not_not_intro (hall.2 hok)), if_neg (by rw [List.length_map]; omega)]
  rw [← spec_end (hall.2 hok)] at hrf
  have hgood := grownS_good (hall.2 hok)
  refine iCall ((ok_spec_l04Grown g1 (by omega) hok false).mono ?_)
  rintro o w2 ⟨bk, st, hG, hst⟩
  have hX2 := h1.trans hG.ext
  have hll : (st.map Prod.snd).length ≤ 729 := hG.inv.len
  rw [List.length_map] at hll
  rw [← hst] at hrf hgood
  rw [List.length_map] at hrf
  have hgood : ∀ k, k < st.length → StepOk (P.map Prod.snd) (st.map Prod.snd) k := fun k hk => hgood k (by rw [List.length_map]; exact hk)
  have hrow := hG.row
  have hown := hG.own
  clear hG
  generalize hl : st.map Prod.snd = l at *
  have hst' : ∀ k, k < st.length → l.getD k default = (gt st k).2 := fun k hk => by rw [← hl]; exact snd_getD st hk
  have hmem : ∀ k, k < st.length → gt st k ∈ st := fun k hk => by rw [gt_eq hk]; exact List.getElem_mem hk
  refine iLp (fun i : Nat => [.int .i64 (lastE l i), .int .i64 (i : Int)]) (fun i w' => i ≤ st.length ∧ w' = w2) (fun i => st.length - i) 0 rfl ⟨Nat.zero_le _, rfl⟩ ?_
  rintro i w3 Kn ⟨hi, e⟩ hKn
  have e := e.symm
  subst e
  intro _
  simp only [gx]
  refine iLenK hrow.sl ?_
  refine iLt (iCndP (fun h3 => ?_) (fun h3 => ?_))
  · have hi1 : i < st.length := by omega
    have hun : lastE l (i + 1) = if (gt st i).2.c = [] then (i : Int) else lastE l i := by rw [lastE, hst' i hi1]
    refine iFldQ (f := 0) (x := (gt st i).1) hrow.sl hi1 (by decide) (by rw [cellsQ_at hi1 0 (by decide)]; rfl) ?_
    refine iLenI (hown _ (hmem i hi1)).sl ?_
    refine iEq (iCndP (fun h4 => ?_) (fun h4 => ?_))
    · refine iAdd (by omega) ?_
      rw [if_pos (List.length_eq_zero_iff.1 (by omega))] at hun
      have := hKn (i + 1) _ ⟨by omega, rfl⟩ (by omega)
      rw [hun] at this
      exact this
    · refine iAdd (by omega) ?_
      rw [if_neg (fun e => h4 (by rw [e]; rfl))] at hun
      have := hKn (i + 1) _ ⟨by omega, rfl⟩ (by omega)
      rw [hun] at this
      exact this
  obtain rfl : i = st.length := by omega
  clear hKn
  have hlast : ∀ k, k ≤ st.length → lastE l k = -1 ∨ ∃ m : Nat, lastE l k = (m : Int) ∧ m < k := by
    intro k
    induction k with
    | zero => intro _; exact .inl rfl
    | succ k ih =>
      intro hk
      rw [lastE]
      split
      · exact .inr ⟨k, rfl, by omega⟩
      · rcases ih (by omega) with h | ⟨m, h, hm⟩
        · exact .inl h
        · exact .inr ⟨m, h, by omega⟩
  refine iLt (iCndP (fun h4 => ?_) (fun h4 => ?_))
  · rw [if_pos h4] at hrf
    rw [hrf]
    exact ⟨hX2, _, rfl, OwQ.nil _ _⟩
  rw [if_neg h4] at hrf
  obtain ⟨m, hm, hml⟩ : ∃ m : Nat, lastE l st.length = (m : Int) ∧ m < st.length := (hlast st.length (Nat.le_refl _)).resolve_left (by omega)
  rw [hm, Int.toNat_natCast] at hrf
  rw [hm]
  refine iLenK hrow.sl ?_
  refine iMk (by omega) (by omega) rfl fun b1 w3 hb1 h3 hB3 => ?_
  have hB3 : Blk 4 w3 b1 (bls (List.replicate st.length false)) := by rw [bls_rep]; exact hB3
  refine iIaB hml ?_
  refine iStB hB3 (by rw [bls_len, List.length_replicate]; exact hml) rfl fun hB4 => ?_
  have hu4 := Upd.setCell w3 b1 m (.bool true)
  generalize w3.setCell ⟨b1, m, none⟩ (.bool true) = w4 at *
  rw [bls_set] at hB4
  have hX24 : Ext w2 w4 := h3.upd hu4 (by omega)
  have hlen0 : l.length = st.length := by rw [← hl, List.length_map]
  refine iLp (fun s : Nat × List Bool => [.int .i64 ((s.1 : Int) - 1)]) (fun s w' => s.1 ≤ m + 1 ∧ s.2.length = st.length ∧ Ext w2 w' ∧ Blk 4 w' b1 (bls s.2) ∧ needK l s.1 s.2 = needK l (m + 1) ((List.replicate l.length false).set m true)) (fun s => s.1) (m + 1, (List.replicate st.length false).set m true) (by simp) ⟨Nat.le_refl _, by simp, hX24, hB4, by rw [hlen0]⟩ ?_
  rintro ⟨j, n⟩ w5 Kn ⟨hj, hn, hX5, hB5, hnd⟩ hKn
  have hj : j ≤ m + 1 := hj
  have hn : n.length = st.length := hn
  have hX5 : Ext w2 w5 := hX5
  have hB5 : Blk 4 w5 b1 (bls n) := hB5
  have hnd : needK l j n = needK l (m + 1) ((List.replicate l.length false).set m true) := hnd
  have hrow5 := hrow.ext hX5
  intro _
  simp only [gx]
  refine iLe (iCndP (fun h5 => ?_) (fun h5 => ?_))
  · obtain ⟨k, rfl⟩ : ∃ k, j = k + 1 := ⟨j - 1, by omega⟩
    rw [show (((k + 1 : Nat) : Int)) - 1 = ((k : Nat) : Int) by omega]
    have hk : k < st.length := by omega
    refine iJnPQ (fun xs w' => xs = [.bool (n.getD k false && decide (0 ≤ (gt st k).2.f))] ∧ w' = w5) (fun J hJ => ?_) (fun xs w7 hC => ?_)
    · refine iIaB hk ?_
      refine iLdB hB5 (bls_at (by omega)) ?_
      cases hnk : n.getD k false with
      | false =>
        refine iCndF rfl ?_
        rw [hnk] at hJ
        exact hJ _ _ ⟨rfl, rfl⟩
      | true =>
        refine iCndT rfl ?_
        refine iFldQ (f := 1) (x := .int .i64 (gt st k).2.f) hrow5.sl hk (by decide) (by rw [cellsQ_at hk 1 (by decide)]; rfl) ?_
        refine iLe ?_
        rw [hnk] at hJ
        exact hJ _ _ ⟨rfl, rfl⟩
    obtain ⟨rfl, rfl⟩ := hC
    intro _
    simp only [gx]
    have hun : needK l (k + 1) n = needK l k (if n.getD k false && decide (0 ≤ (gt st k).2.f) then (n.set (gt st k).2.f.toNat true).set (gt st k).2.s.toNat true else n) := by
      rw [needK, hst' k hk]
    rw [hun] at hnd
    cases hT : n.getD k false && decide (0 ≤ (gt st k).2.f) with
    | false =>
      refine iCndF rfl ?_
      refine iSub (by omega) ?_
      rw [hT] at hnd
      exact hKn (k, n) _ ⟨by show k ≤ m + 1; omega, hn, hX5, hB5, hnd⟩ (by show k < k + 1; omega)
    | true =>
      refine iCndT rfl ?_
      rw [hT] at hnd
      rw [Bool.and_eq_true, decide_eq_true_eq] at hT
      obtain ⟨fa, sa, e1, e2, hfa, hsa⟩ := (hgood k hk).lt (by rw [hst' k hk]; exact hT.2)
      rw [hst' k hk] at e1 e2
      rw [e1, e2, Int.toNat_natCast, Int.toNat_natCast] at hnd
      refine iFldQ (f := 1) (x := .int .i64 (fa : Int)) hrow5.sl hk (by decide) (by rw [cellsQ_at hk 1 (by decide)]; show some (Value.int .i64 (gt st k).2.f) = _; rw [e1]) ?_
      refine iIaB (by omega) ?_
      refine iStB hB5 (by rw [bls_len]; omega) rfl fun hB6 => ?_
      have hu6 := Upd.setCell w7 b1 fa (.bool true)
      generalize w7.setCell ⟨b1, fa, none⟩ (.bool true) = w6 at *
      rw [bls_set] at hB6
      have hX6 := hX5.upd hu6 (by omega)
      refine iFldQ (f := 2) (x := .int .i64 (sa : Int)) (hrow.ext hX6).sl hk (by decide) (by rw [cellsQ_at hk 2 (by decide)]; show some (Value.int .i64 (gt st k).2.s) = _; rw [e2]) ?_
      refine iIaB (by omega) ?_
      refine iStB hB6 (by rw [bls_len, List.length_set]; omega) rfl fun hB7 => ?_
      have hu7 := Upd.setCell w6 b1 sa (.bool true)
      generalize w6.setCell ⟨b1, sa, none⟩ (.bool true) = w8 at *
      rw [bls_set] at hB7
      refine iSub (by omega) ?_
      exact hKn (k, (n.set fa true).set sa true) _ ⟨by show k ≤ m + 1; omega, by show ((n.set fa true).set sa true).length = _; rw [List.length_set, List.length_set]; exact hn, hX6.upd hu7 (by omega), hB7, hnd⟩ (by show k < k + 1; omega)
  obtain rfl : j = 0 := by omega
  have hnd : n = needK l (m + 1) ((List.replicate l.length false).set m true) := hnd
  clear hKn
  have hus : usedS l m = (numK l n (m + 1)).2 := by rw [hnd]; rfl
  rw [hus] at hrf
  clear hnd hus
  refine iLenK hrow5.sl ?_
  refine iMk (by omega) (by omega) rfl fun b2 w6 hb2 h6 hB6 => ?_
  have hB6 : Blk t_i64 w6 b2 (ints (List.replicate st.length 0)) := by rw [show ints (List.replicate st.length 0) = List.replicate st.length (.int .i64 0) by simp [ints]]; exact hB6
  have hX6 := hX5.trans h6
  have hne12 : b1 ≠ b2 := by have := hB5.lt; omega
  refine iBs0Q fun o0 w7 h7 ho7 => ?_
  have hX7 := hX6.trans h7
  refine iLp (fun s : Nat × Value => [s.2, .int .i64 (s.1 : Int)]) (fun s w' => s.1 ≤ m + 1 ∧ Ext w2 w' ∧ Blk 4 w' b1 (bls n) ∧ Blk t_i64 w' b2 (ints (numK l n s.1).1) ∧ ∃ L : List RV, OwK 4 w6.heap.size t_impl_Resolvent w' s.2 L.length (cellsQ L) ∧ L.map Prod.snd = (numK l n s.1).2 ∧ OwP w7.heap.size t_i64 w' (L.map kyQ) ∧ L.length ≤ s.1 ∧ w7.heap.size ≤ w'.heap.size) (fun s => m + 1 - s.1) (0, o0) rfl
    ⟨Nat.zero_le _, hX7, (hB5.ext h6).ext h7, by show Blk t_i64 w7 b2 (ints (List.replicate l.length 0)); rw [hlen0]; exact hB6.ext h7, [], ho7, rfl, ⟨fun p hp => (by cases hp), List.Pairwise.nil⟩, Nat.le_refl _, Nat.le_refl _⟩ ?_
  rintro ⟨k, o8⟩ w8 Kn ⟨hk, hX8, hB8, hC8, L, hL, hLs, hLo, hLl, hsz8⟩ hKn
  have hk : k ≤ m + 1 := hk
  have hX8 : Ext w2 w8 := hX8
  have hL : OwK 4 w6.heap.size t_impl_Resolvent w8 o8 L.length (cellsQ L) := hL
  have hLs : L.map Prod.snd = (numK l n k).2 := hLs
  have hLl : L.length ≤ k := hLl
  have hC8 : Blk t_i64 w8 b2 (ints (numK l n k).1) := hC8
  have hnum : numK l n (k + 1) = if n.getD k false then ((numK l n k).1.set k (numK l n k).2.length, (numK l n k).2 ++ [if 0 ≤ (l.getD k default).f then ⟨(l.getD k default).c, (numK l n k).1.getD (l.getD k default).f.toNat 0, (numK l n k).1.getD (l.getD k default).s.toNat 0, (l.getD k default).v⟩ else l.getD k default]) else numK l n k := rfl
  have htl := numK_len l n k
  rw [hlen0] at htl
  have hL2 : (numK l n k).2.length = L.length := by rw [← hLs, List.length_map]
  generalize hto : (numK l n k).1 = to at *
  have hrow8 := hrow.ext hX8
  intro _
  simp only [gx]
  refine iLe (iCndP (fun h8 => ?_) (fun h8 => ?_))
  rotate_left
  · obtain rfl : k = m + 1 := by omega
    rw [hrf]
    exact ⟨hX2.trans hX8, _, rfl, L, hL.mono (hX2.trans hX6).size, ⟨fun p hp => (hLo.1 p hp).mono (hX2.trans hX7).size, hLo.2⟩, hLs⟩
  have hkl : k < st.length := by omega
  rw [hst' k hkl] at hnum
  refine iIaB hkl ?_
  refine iLdB hB8 (bls_at (by omega)) ?_
  refine iNot ?_
  cases hnk : n.getD k false with
  | false =>
    refine iCndT rfl ?_
    refine iAdd (by omega) ?_
    rw [hnk, if_neg (by simp)] at hnum
    exact hKn (k + 1, o8) _ ⟨by show k + 1 ≤ m + 1; omega, hX8, hB8, by show Blk t_i64 w8 b2 (ints (numK l n (k + 1)).1); rw [hnum, hto]; exact hC8, L, hL, by show _ = (numK l n (k + 1)).2; rw [hnum]; exact hLs, hLo, by show L.length ≤ k + 1; omega, hsz8⟩ (by show m + 1 - (k + 1) < m + 1 - k; omega)
  | true =>
    refine iCndF rfl ?_
    rw [hnk, if_pos rfl] at hnum
    refine iFldQ (f := 0) (x := (gt st k).1) hrow8.sl hkl (by decide) (by rw [cellsQ_at hkl 0 (by decide)]; rfl) ?_
    refine iFldQ (f := 3) (x := .int .i64 (gt st k).2.v) hrow8.sl hkl (by decide) (by rw [cellsQ_at hkl 3 (by decide)]; rfl) ?_
    have hcl : (gt st k).2.c.length ≤ 6 := (hgood k hkl |> fun _ => (by
      have := hall
      exact ClOk.len (by
        rcases hgood k hkl with ⟨_, _, _, h⟩ | ⟨a, b, v, _, _, _, _, _, _, h⟩
        · rw [hst' k hkl] at h; exact hall.2 hok _ h
        · rw [hst' k hkl] at h; exact resC_ok h)))
    intro w9 h9
    refine ⟨?ga, ?gb⟩
    case' ga =>
      refine iCall ((ok_spec_l01Own ((hown _ (hmem k hkl)).ext (hX8.trans h9)).sl (by omega)).mono ?_)
      rintro uv w10 ⟨h10, huv⟩
      refine ⟨h10, ?_⟩
      refine iBuild (fillQ4 huv.cell rfl rfl rfl) ?_
      intro w11 h11
      refine iNew fun b9 w12 hb9 h12 B12 => ?_
      refine ⟨h12, ?_⟩
      intro w13 h13
      refine iStAB (B12.ext h13) rfl rfl (by
        intro y hy
        have hy : y ∈ [uv, .int .i64 (-1), .int .i64 (-1), .int .i64 (gt st k).2.v] := hy
        simp only [List.mem_cons, List.not_mem_nil, or_false] at hy
        rcases hy with rfl | rfl | rfl | rfl
        · exact huv.cell
        · rfl
        · rfl
        · rfl) fun w14 hu14 B14 => ?_
      have B14 : Blk t_impl_Resolvent w14 b9 (csQ (uv, ⟨(gt st k).2.c, -1, -1, (gt st k).2.v⟩)) := B14
      have hX814 : Ext w8 w14 := (((((h9.trans h10).trans h11).trans h12).trans h13)).upd hu14 (by have := h9.size; have := h10.size; have := h11.size; omega)
      have huv14 : Ow w8.heap.size t_i64 w14 uv (ints (gt st k).2.c) := ((((huv.ext h11).ext h12).ext h13).upd hu14 (by have := fun c hc => (huv.blk c hc).2; intro e; have := this b9 e; have := h11.size; omega)).mono h9.size
      have hb9n : w8.heap.size ≤ b9 := by have := h9.size; have := h10.size; have := h11.size; omega
      have hne9 : uv.ownBlock ≠ some b9 := fun e => by have := (huv.blk b9 e).2; have := h11.size; omega
    case' gb =>
      refine iNew fun b9 w12 hb9 h12 B12 => ?_
      refine ⟨h12, ?_⟩
      intro w10 h10
      refine iCall ((ok_spec_l01Own ((hown _ (hmem k hkl)).ext (((hX8.trans h9).trans h12).trans h10)).sl (by omega)).mono ?_)
      rintro uv w11 ⟨h11, huv⟩
      refine ⟨h11, ?_⟩
      refine iBuild (fillQ4 huv.cell rfl rfl rfl) ?_
      intro w13 h13
      refine iStAB (((B12.ext h10).ext h11).ext h13) rfl rfl (by
        intro y hy
        have hy : y ∈ [uv, .int .i64 (-1), .int .i64 (-1), .int .i64 (gt st k).2.v] := hy
        simp only [List.mem_cons, List.not_mem_nil, or_false] at hy
        rcases hy with rfl | rfl | rfl | rfl
        · exact huv.cell
        · rfl
        · rfl
        · rfl) fun w14 hu14 B14 => ?_
      have B14 : Blk t_impl_Resolvent w14 b9 (csQ (uv, ⟨(gt st k).2.c, -1, -1, (gt st k).2.v⟩)) := B14
      have hb9n : w8.heap.size ≤ b9 := by have := h9.size; omega
      have hX814 : Ext w8 w14 := (((((h9.trans h12).trans h10).trans h11).trans h13)).upd hu14 hb9n
      have hne9 : uv.ownBlock ≠ some b9 := fun e => by have := (huv.blk b9 e).1; have := h10.size; omega
      have huv14 : Ow w8.heap.size t_i64 w14 uv (ints (gt st k).2.c) := ((huv.ext h13).upd hu14 hne9).mono (by have := h9.size; have := h10.size; omega)
    all_goals
      intro w15 h15
      have B15 := B14.ext h15
      have huv15 := huv14.ext h15
      have hX15 := hX814.trans h15
      have hrow15 := hrow8.ext hX15
      have hB15 := hB8.ext hX15
      have hC15 := hC8.ext hX15
      have hL15 := hL.ext hX15
      have hLo15 := hLo.ext hX15
      have hn1 : b9 ≠ b1 := by have := hB8.lt; omega
      have hn2 : b9 ≠ b2 := by have := hC8.lt; omega
      have hl8 : ∀ c, o8.ownBlock = some c → c < w8.heap.size := fun c hc => (hL.blk c hc).2
      have hlo8 : ∀ p ∈ L.map kyQ, ∀ c, p.1.ownBlock = some c → c < w8.heap.size := fun p hp c hc => ((hLo.1 p hp).blk c hc).2
      refine iFldQ (f := 1) (x := .int .i64 (gt st k).2.f) hrow15.sl hkl (by decide) (by rw [cellsQ_at hkl 1 (by decide)]; rfl) ?_
      refine iLe ?_
      refine iJnPQ (fun xs w' => xs = [] ∧ Ch (fun c => c = b9) w15 w' ∧ Blk t_impl_Resolvent w' b9 (csQ (uv, if 0 ≤ (gt st k).2.f then ⟨(gt st k).2.c, to.getD (gt st k).2.f.toNat 0, to.getD (gt st k).2.s.toNat 0, (gt st k).2.v⟩ else (gt st k).2))) (fun J hJ => ?_) (fun xs w16 hC => ?_)
      · refine iCndP (fun h0 => ?_) (fun h0 => ?_)
        · obtain ⟨fa, sa, e1, e2, hfa, hsa⟩ := (hgood k hkl).lt (by rw [hst' k hkl]; exact h0)
          rw [hst' k hkl] at e1 e2
          rw [if_pos h0, e1, e2, Int.toNat_natCast, Int.toNat_natCast] at hJ
          refine iFldQ (f := 1) (x := .int .i64 (fa : Int)) hrow15.sl hkl (by decide) (by rw [cellsQ_at hkl 1 (by decide)]; show some (Value.int .i64 (gt st k).2.f) = _; rw [e1]) ?_
          refine iIaB (by omega) ?_
          refine iLdB hC15 (ints_at (by omega)) ?_
          refine iFa ?_
          refine iStB B15 (by show 1 < 4; omega) rfl fun B16 => ?_
          have hu16 := Upd.setCell w15 b9 1 (.int .i64 (to.getD fa 0))
          generalize w15.setCell ⟨b9, 1, none⟩ (.int .i64 (to.getD fa 0)) = w16 at *
          have c16 := hu16.ch (S := fun c => c = b9) rfl
          have hrow16 := hrow15.ch c16 fun c hc e => by have := (hrow8.blk c hc).2; omega
          refine iFldQ (f := 2) (x := .int .i64 (sa : Int)) hrow16.sl hkl (by decide) (by rw [cellsQ_at hkl 2 (by decide)]; show some (Value.int .i64 (gt st k).2.s) = _; rw [e2]) ?_
          refine iIaB (by omega) ?_
          refine iLdB (hC15.ch c16 hn2.symm) (ints_at (by omega)) ?_
          refine iFa ?_
          refine iStB B16 (by rw [List.length_set]; show 2 < 4; omega) rfl fun B17 => ?_
          have hu17 := Upd.setCell w16 b9 2 (.int .i64 (to.getD sa 0))
          exact hJ [] _ ⟨rfl, c16.trans (hu17.ch (S := fun c => c = b9) rfl) fun c e => .inl e, B17⟩
        · rw [if_neg h0] at hJ
          have hbad : (gt st k).2.f = -1 ∧ (gt st k).2.s = -1 := by
            rcases hgood k hkl with ⟨q1, q2, _⟩ | ⟨a, b, _, q1, _⟩
            · rw [hst' k hkl] at q1 q2; exact ⟨q1, q2⟩
            · rw [hst' k hkl] at q1; omega
          refine hJ [] w15 ⟨rfl, (Ext.refl _).ch, ?_⟩
          have : (⟨(gt st k).2.c, -1, -1, (gt st k).2.v⟩ : Rs) = (gt st k).2 := by rw [← hbad.1]; rw [show (gt st k).2.f = (gt st k).2.s by rw [hbad.1, hbad.2]]; cases h9 : (gt st k).2; rw [h9] at hbad; simp at hbad; simp [hbad.1, hbad.2]
          rw [← this]; exact B15
      · obtain ⟨rfl, c16, B16⟩ := hC
        intro _
        have hB16 := hB15.ch c16 hn1.symm
        have hC16 := hC15.ch c16 hn2.symm
        have hL16 := hL15.ch c16 fun c hc e => by have := hl8 c hc; omega
        have hLo16 := OwP.chQ hLo15 c16 fun p hp c hc e => by have := hlo8 p hp c hc; omega
        have huv16 := huv15.ch c16 fun c hc e => hne9 (by rw [hc, e])
        have hX16 : Ext w8 w16 := hX15.thenCh c16 fun c e => by omega
        refine iLenK hL16.sl ?_
        refine iIaB hkl ?_
        refine iStB hC16 (by rw [ints_length, htl]; exact hkl) rfl fun hC17 => ?_
        have hu17 := Upd.setCell w16 b2 k (.int .i64 (L.length : Int))
        generalize w16.setCell ⟨b2, k, none⟩ (.int .i64 (L.length : Int)) = w17 at *
        rw [ints_set] at hC17
        have c17 := hu17.ch (S := fun c => c = b2) rfl
        have hL17 := hL16.ch c17 fun c hc e => OwK.ne_blk hL16 hC16 (by decide) (by rw [hc, e])
        have hX817 : Ext w2 w17 := (hX8.trans hX16).upd hu17 (by have := hX5.size; omega)
        have B17 := B16.upd hu17 hn2
        have hB17 := hB16.upd hu17 hne12
        have huv17 := huv16.upd hu17 (fun e => by have := (huv16.blk b2 e).1; have := hC8.lt; omega)
        have hLo17 := OwP.chQ hLo16 c17 fun p hp c hc e => by
          have := ((hLo16.1 p hp).blk c hc).1
          have := hB6.lt
          have := h7.size
          omega
        refine iLdA B17 rfl ?_
        refine iBsQ fun bb w18 hbb h18 hBB => ?_
        generalize hXx : ((uv, if 0 ≤ (gt st k).2.f then (⟨(gt st k).2.c, to.getD (gt st k).2.f.toNat 0, to.getD (gt st k).2.s.toNat 0, (gt st k).2.v⟩ : Rs) else (gt st k).2) : RV) = X at *
        have hX1 : X.1 = uv := by rw [← hXx]
        have hXc : X.2.c = (gt st k).2.c := by rw [← hXx]; dsimp only; split <;> rfl
        have hBB : Blk t_impl_Resolvent w18 bb (csQ X) := hBB
        have hsl : SlK 4 w18 (.slice (some ⟨bb, 0, none⟩) 1 1) 1 (csQ X) := (OwK.ofBlk (k := 4) (lo := 0) (n := 1) hBB (Nat.zero_le _) rfl (by omega)).sl
        have hL18 := hL17.ext h18
        refine iAppK u_Simpl_Resolvent i_Simpl_Resolvent rfl (by decide) hL18 hsl (fun y hy => by
          simp only [csQ, List.mem_cons, List.not_mem_nil, or_false] at hy
          rcases hy with rfl | rfl | rfl | rfl
          · rw [hX1]; exact huv17.cell
          · rfl
          · rfl
          · rfl) (by omega) (by omega) (by have := h7.size; have := hX16.size; have := hu17.size; have := h18.size; omega) fun o' w19 ho' hg hat => ?_
        have hch := grown_ch (S := fun c => o8.ownBlock = some c) hg fun c hc => hc
        have hX19 : Ext w2 w19 := (hX817.trans h18).thenCh hch fun c hc => by have := (hL18.blk c hc).1; have := hX6.size; omega
        refine iAdd (by omega) ?_
        refine hKn (k + 1, o') _ ⟨by show k + 1 ≤ m + 1; omega, hX19, (hB17.ext h18).grown hg (hL18.ne_blk (hB17.ext h18) (by decide)), ?_, L ++ [X], ?_, ?_, ?_, ?_, ?_⟩ (by show m + 1 - (k + 1) < m + 1 - k; omega)
        · show Blk t_i64 w19 b2 (ints (numK l n (k + 1)).1)
          rw [hnum, hL2]
          exact (hC17.ext h18).grown hg (hL18.ne_blk (hC17.ext h18) (by decide))
        · rw [cellsQ_app, List.length_append]
          have e : cellsQ [X] = csQ X := by simp [cellsQ]
          rw [e]
          exact ho'
        · show _ = (numK l n (k + 1)).2
          rw [hnum, List.map_append, hLs, ← hXx]
          rfl
        · rw [List.map_append]
          refine OwP.snocQ (OwP.chQ (OwP.ext hLo17 h18) hch fun p hp c hc hS => ne_owK ((OwP.ext hLo17 h18).1 p hp) hL18 (by decide) c hc hS) ?_ fun p hp c hc hc' => ?_
          · show Ow w7.heap.size t_i64 w19 X.1 (ints X.2.c)
            rw [hX1, hXc]
            exact ((huv17.ext h18).ch hch fun c hc hS => ne_owK (huv17.ext h18) hL18 (by decide) c hc hS).mono hsz8
          · have h1 := hlo8 p hp c hc
            have hc' : X.1.ownBlock = some c := hc'
            rw [hX1] at hc'
            have := (huv17.blk c hc').1
            omega
        · rw [List.length_append]; show L.length + 1 ≤ k + 1; omega
        · have := hX16.size; have := hu17.size; have := h18.size; have := hg.size; omega
end Go.Proofs.Ytfadcafacpaldaa

/- Contracts: marks laid in steps; the law on RefuteClauses. Conditions: none. -/
namespace Go.Vc
theorem cellsQ_set : ∀ {L : List RV} {i : Nat} (c : List Int) (a b d : Int), i < L.length → (((cellsQ L).set (i * 4 + 1) (.int .i64 a)).set (i * 4 + 2) (.int .i64 b)).set (i * 4 + 3) (.int .i64 d) = cellsQ (L.set i ((gt L i).1, ⟨c, a, b, d⟩))
  | [], _, _, _, _, _, h => by simp at h
  | x :: L, 0, c, a, b, d, _ => rfl
  | x :: L, i + 1, c, a, b, d, h => by
    have := cellsQ_set (L := L) (i := i) c a b d (by simpa using h)
    have e : ∀ (k : Nat) (u : Value) (M : List Value), (csQ x ++ M).set ((i + 1) * 4 + k) u = csQ x ++ M.set (i * 4 + k) u := fun k u M => by
      rw [List.set_append_right _ _ (by show 4 ≤ (i + 1) * 4 + k; omega)]
      congr 2
      show (i + 1) * 4 + k - 4 = i * 4 + k
      omega
    show (((csQ x ++ cellsQ L).set ((i + 1) * 4 + 1) _).set ((i + 1) * 4 + 2) _).set ((i + 1) * 4 + 3) _ = csQ x ++ cellsQ (L.set i ((gt L i).1, ⟨c, a, b, d⟩))
    rw [e, e, e, this]
theorem iStQ {lo : Nat} {e : TypeId} {w : World} {v x : Value} {n : Nat} {xs : List Value} {j f : Nat} {k : IntKind} {K : World → Prop} (hs : OwK 4 lo e w v n xs) (hj : j < n) (hf : f < 4) (hx : isCell x = true)
    (h : ∀ w', OwK 4 lo e w' v n (xs.set (j * 4 + f) x) → Ch (fun c => v.ownBlock = some c) w w' → K w') : xIa 4 v (.int k (j : Int)) fun p => xFa f p fun q => xSt w q x K := by
  obtain ⟨hl, ⟨-, h0⟩ | ⟨g, cap, cur, hv, hg, hh, h1, h2, h3, h4⟩⟩ := hs
  · omega
  · subst hv
    have hs : w.ownsRow lo e 4 (.slice (some ⟨g, 0, none⟩) n cap) n xs := ⟨hl, .inr ⟨g, cap, cur, rfl, hg, hh, h1, h2, h3, h4⟩⟩
    refine ⟨_, _, _, _, _, rfl, rfl, by omega, by omega, ?_⟩
    rw [Int.toNat_natCast, addr_add]
    refine ⟨_, rfl, ?_⟩
    rw [addr_add, Nat.zero_add]
    have hjf : j * 4 + f < xs.length := by omega
    refine iSt ((hs.cellAt (j * 4 + f) (by omega)).trans (List.getElem?_eq_getElem hjf)) (hs.frozenAt _) hx ?_
    exact h _ (hs.stored (j * 4 + f) x).1 ((Upd.setCell w g _ x).ch rfl)
theorem OwP.setQ {lo : Nat} {e : TypeId} {w w' : World} {P : List VL} {i : Nat} {l : List Int} (h : OwP lo e w P) (hi : i < P.length) (hc : Ch (fun c => P[i].1.ownBlock = some c) w w') (ho : Ow lo e w' P[i].1 (ints l)) : OwP lo e w' (P.set i (P[i].1, l)) := by
  have hne : ∀ j (hj : j < P.length), j ≠ i → ∀ c, P[j].1.ownBlock = some c → ¬ P[i].1.ownBlock = some c := fun j hj hne c hc hc' => by
    rcases Nat.lt_or_ge j i with h1 | h1
    · exact (List.pairwise_iff_getElem.1 h.2) j i hj hi h1 c hc hc'
    · exact (List.pairwise_iff_getElem.1 h.2) i j hi hj (by omega) c hc' hc
  refine ⟨fun p hp => ?_, ?_⟩
  · obtain ⟨j, hj, rfl⟩ := List.getElem_of_mem hp
    rw [List.length_set] at hj
    by_cases hji : j = i
    · subst hji
      rw [List.getElem_set_self]
      exact ho
    · rw [List.getElem_set_ne (fun e => hji e.symm)]
      exact (h.1 _ (List.getElem_mem hj)).ch hc (hne j hj hji)
  · rw [List.pairwise_iff_getElem]
    intro a b ha hb hab
    rw [List.length_set] at ha hb
    have e : ∀ j (hj : j < P.length) (hj' : j < (P.set i (P[i].1, l)).length), (P.set i (P[i].1, l))[j].1 = P[j].1 := fun j hj hj' => by
      rw [List.getElem_set]
      split
      · rename_i h; subst h; rfl
      · rfl
    rw [e a ha, e b hb]
    exact (List.pairwise_iff_getElem.1 h.2) a b ha hb hab
end Go.Vc
namespace Go.Proofs.Ytfadcafacpaldaa
open Go.Vc
/-- The same, and its blocks lie below hi. -/
def OwB (lo hi : Nat) (w : World) (v : Value) (M : List Rs) : Prop := ∃ L : List RV, OwK 4 lo t_impl_Resolvent w v L.length (cellsQ L) ∧ OwP lo t_i64 w (L.map kyQ) ∧ L.map Prod.snd = M ∧ (∀ c, v.ownBlock = some c → c < hi) ∧ ∀ p ∈ L.map kyQ, ∀ c, p.1.ownBlock = some c → c < hi
theorem OwQ.bnd {lo : Nat} {w : World} {v : Value} {M : List Rs} (h : OwQ lo w v M) : OwB lo w.heap.size w v M := let ⟨L, a, b, c⟩ := h; ⟨L, a, b, c, fun c hc => (a.blk c hc).2, fun p hp c hc => ((b.1 p hp).blk c hc).2⟩
theorem OwB.toQ {lo hi : Nat} {w : World} {v : Value} {M : List Rs} (h : OwB lo hi w v M) : OwQ lo w v M := let ⟨L, a, b, c, _, _⟩ := h; ⟨L, a, b, c⟩
theorem OwB.ext {lo hi : Nat} {w w' : World} {v : Value} {M : List Rs} (h : OwB lo hi w v M) (x : Ext w w') : OwB lo hi w' v M := let ⟨L, a, b, c, d, e⟩ := h; ⟨L, a.ext x, b.ext x, c, d, e⟩
theorem OwB.ch {S : Nat → Prop} {lo hi : Nat} {w w' : World} {v : Value} {M : List Rs} (h : OwB lo hi w v M) (k : Ch S w w') (hn : ∀ c, S c → hi ≤ c ∨ c < lo) : OwB lo hi w' v M := by
  obtain ⟨L, a, b, c, d, e⟩ := h
  refine ⟨L, a.ch k fun c hc hS => ?_, OwP.chQ b k fun p hp c hc hS => ?_, c, d, e⟩
  · have := a.blk c hc
    have := d c hc
    rcases hn c hS with h | h <;> omega
  · have := (b.1 p hp).blk c hc
    have := e p hp c hc
    rcases hn c hS with h | h <;> omega
theorem mkQ_snoc (x : Rs) : ∀ (L : List Rs) (k : Nat), mkQ k (L ++ [x]) = mkQ k L ++ [mk1 (k + totQ L) x]
  | [], k => by simp [mkQ, totQ]
  | y :: L, k => by
    rw [List.cons_append, mkQ, mkQ_snoc x L, mkQ]
    have : k + (y.c.length + 3) + totQ L = k + totQ (y :: L) := by simp only [totQ, List.map_cons, List.sum_cons]; omega
    rw [this]; rfl
theorem ok_laws_markResolventS {lo : Nat} {w : World} {v : Value} {M : List Rs} (h : OwQ lo w v M) (hM : totQ M ≤ 1000000000) :
    Cal Try.prog f_laws_markResolventS #[v, .int .i64 1] w fun r w' => r = .int .i64 ((1 + totQ M : Nat) : Int) ∧ OwQ lo w' v (mkQ 1 M) ∧ Ch (fun c => lo ≤ c) w w' := by
  apply c_laws_markResolventS; unfold S_laws_markResolventS
  have hcap : M.length ≤ 9223372036854775807 := by
    obtain ⟨L, a, _, e⟩ := h
    have := a.sl.len
    rw [← e, List.length_map]; exact this
  have h0 : OwQ lo w v (mkQ 1 (M.take 0) ++ M.drop 0) := by simpa [mkQ] using h
  refine iLp (fun i : Nat => [.int .i64 ((1 + totQ (M.take i) : Nat) : Int), .int .i64 (i : Int)]) (fun i w' => i ≤ M.length ∧ Ch (fun c => lo ≤ c) w w' ∧ OwQ lo w' v (mkQ 1 (M.take i) ++ M.drop i)) (fun i => M.length - i) 0 (by simp [totQ]) ⟨Nat.zero_le _, (Ext.refl w).ch, h0⟩ ?_
  clear h h0
  rintro i w2 Kn ⟨hi, hch, L, hL, hLo, hLs⟩ hKn
  have hLl : L.length = M.length := by
    have := congrArg List.length hLs
    rw [List.length_map, List.length_append, mkQ_len, List.length_take, List.length_drop] at this
    omega
  intro _
  simp only [gx]
  refine iLenK hL.sl ?_
  refine iLt (iCndP (fun h3 => ?_) (fun h3 => ?_))
  · have hiL : i < L.length := by omega
    have hiM : i < M.length := by omega
    have hx : (gt L i).2 = gt M i := by
      have e1 : (L.map Prod.snd)[i]'(by rw [List.length_map]; exact hiL) = (gt L i).2 := by rw [List.getElem_map, gt_eq hiL]
      rw [← e1]
      have : (L.map Prod.snd)[i]'(by rw [List.length_map]; exact hiL) = (mkQ 1 (M.take i) ++ M.drop i)[i]'(by rw [List.length_append, mkQ_len, List.length_take, List.length_drop]; omega) := by congr 1
      rw [this, List.getElem_append_right (by rw [mkQ_len, List.length_take]; omega)]
      simp [mkQ_len, gt_eq hiM, show min i M.length = i by omega]
    have htk : totQ (M.take (i + 1)) = totQ (M.take i) + ((gt M i).c.length + 3) := by
      rw [List.take_succ_eq_append_getElem hiM, totQ_snoc, gt_eq hiM]
    have hle : totQ (M.take (i + 1)) ≤ totQ M := by
      have e := congrArg totQ (List.take_append_drop (i + 1) M)
      simp only [totQ, List.map_append, List.sum_append] at e ⊢
      omega
    have hky : (L.map kyQ)[i]'(by rw [List.length_map]; exact hiL) = ((gt L i).1, (gt M i).c) := by rw [List.getElem_map, ← gt_eq hiL]; unfold kyQ; rw [hx]
    have hrow : Ow lo t_i64 w2 (gt L i).1 (ints (gt M i).c) := by
      have := hLo.1 _ (List.getElem_mem (show i < (L.map kyQ).length by rw [List.length_map]; exact hiL))
      rwa [hky] at this
    refine iFldQ (f := 0) (x := (gt L i).1) hL.sl hiL (by decide) (by rw [cellsQ_at hiL 0 (by decide)]; rfl) ?_
    refine iCall ((ok_laws_markInt64S hrow _ (by omega)).mono ?_)
    rintro _ w3 ⟨rfl, hm, hg⟩
    have c3 := grown_ch (S := fun c => (gt L i).1.ownBlock = some c) hg fun c hc => hc
    have hL3 := hL.ch c3 fun c hc hS => ne_owK hrow hL (by decide) c hS hc
    have hLo3 : OwP lo t_i64 w3 ((L.map kyQ).set i ((gt L i).1, marks (1 + totQ (M.take i)) (gt M i).c.length)) := by
      have := OwP.setQ (l := marks (1 + totQ (M.take i)) (gt M i).c.length) hLo (i := i) (by rw [List.length_map]; exact hiL) (by rw [hky]; exact c3) (by rw [hky]; exact hm)
      rw [hky] at this; exact this
    refine iStQ (f := 1) hL3 hiL (by decide) rfl fun w4 hL4 c4 => ?_
    refine iAdd (by omega) ?_
    refine iStQ (f := 2) hL4 hiL (by decide) rfl fun w5 hL5 c5 => ?_
    refine iAdd (by omega) ?_
    refine iStQ (f := 3) hL5 hiL (by decide) rfl fun w6 hL6 c6 => ?_
    refine iAdd (by omega) ?_
    refine iAdd (by omega) ?_
    have c36 := (c4.trans c5 fun c hc => .inl hc).trans c6 fun c hc => .inl hc
    have hLo6 := OwP.chQ hLo3 c36 fun p hp c hc hS => ne_owK (hLo3.1 p hp) hL3 (by decide) c hc hS
    have hz : ((1 + totQ (M.take i) + (gt M i).c.length : Nat) : Int) + 1 + 1 + 1 = ((1 + totQ (M.take (i + 1)) : Nat) : Int) := by rw [htk]; omega
    rw [hz]
    refine hKn (i + 1) _ ⟨by omega, ((hch.trans c3 fun c hc => .inl (hrow.blk c hc).1)).trans c36 fun c hc => .inl (hL3.blk c hc).1, L.set i ((gt L i).1, mk1 (1 + totQ (M.take i)) (gt M i)), ?_, ?_, ?_⟩ (by omega)
    · rw [List.length_set, show mk1 (1 + totQ (M.take i)) (gt M i) = ⟨marks (1 + totQ (M.take i)) (gt M i).c.length, ((1 + totQ (M.take i) + (gt M i).c.length : Nat) : Int), ((1 + totQ (M.take i) + (gt M i).c.length + 1 : Nat) : Int), ((1 + totQ (M.take i) + (gt M i).c.length + 2 : Nat) : Int)⟩ from rfl, ← cellsQ_set _ _ _ _ hiL]
      have e1 : ((1 + totQ (M.take i) + (gt M i).c.length : Nat) : Int) + 1 = ((1 + totQ (M.take i) + (gt M i).c.length + 1 : Nat) : Int) := by omega
      have e2 : ((1 + totQ (M.take i) + (gt M i).c.length : Nat) : Int) + 1 + 1 = ((1 + totQ (M.take i) + (gt M i).c.length + 2 : Nat) : Int) := by omega
      rw [e2, e1] at hL6
      exact hL6
    · rw [List.map_set]; exact hLo6
    · have hml : (mkQ 1 (M.take i)).length = i := by rw [mkQ_len, List.length_take]; omega
      rw [List.map_set, hLs, List.take_succ_eq_append_getElem hiM, mkQ_snoc, ← gt_eq hiM, List.set_append_right _ _ (by omega), hml, Nat.sub_self, List.drop_eq_getElem_cons hiM, List.set_cons_zero, List.append_assoc]
      rfl
  · obtain rfl : i = M.length := by omega
    rw [List.take_length, List.drop_length, List.append_nil] at hLs
    rw [List.take_length]
    exact ⟨rfl, ⟨L, hL, hLo, hLs⟩, hch⟩
theorem ok_laws_markInt64SSQ {lo : Nat} {v : Value} {w : World} {x : List (List Int)} {vs : List Value} (h1 : Ow lo t_Si64 w v vs) (h2 : OwL lo t_i64 w vs (x.map ints)) (hx : tot x ≤ 1000000000) :
    Cal Try.prog f_laws_markInt64SS #[v, .int .i64 1] w fun r w' => r = .int .i64 ((1 + tot x : Nat) : Int) ∧ Ch (fun c => ∃ u ∈ vs, u.ownBlock = some c) w w' := by
  have hl1 : vs.length = x.length := by have := h2.1; rwa [List.length_map] at this
  have hcap := h1.sl.len
  apply c_laws_markInt64SS; unfold S_laws_markInt64SS
  refine iLp (fun k : Nat => [.int .i64 ((1 + tot (x.take k) : Nat) : Int), .int .i64 (k : Int)]) (fun k w' => k ≤ x.length ∧ Ch (fun c => ∃ u ∈ vs, u.ownBlock = some c) w w' ∧ Ow lo t_Si64 w' v vs ∧ OwL lo t_i64 w' vs ((marksL 1 (x.take k) ++ x.drop k).map ints)) (fun k => x.length - k) 0 (by simp [tot]) ⟨Nat.zero_le _, (Ext.refl w).ch, h1, by simpa [marksL] using h2⟩ ?_
  rintro k w2 Kn ⟨hk, hch, h1, h2⟩ hKn
  have hs := h1.sl
  (intro _; (try simp only [gx]); (with_reducible refine iLenS (by assumption) ?_; refine iLt ?_))
  refine iCndP (fun h4 => ?_) (fun h4 => ?_)
  · have hkx : k < x.length := by omega
    have hk1 : k < vs.length := by omega
    refine iIaV hs hk1 fun p hp => ?_
    refine iLd hp ?_
    have o1 := h2.at hk1 (by simp [marksL_length]; omega)
    have e1 : ((marksL 1 (x.take k) ++ x.drop k).map ints)[k]'(by simp [marksL_length]; omega) = ints x[k] := by
      have hml : (marksL 1 (x.take k)).length = k := by rw [marksL_length, List.length_take]; omega
      rw [List.getElem_map, List.getElem_append_right (by omega)]
      simp [hml]
    rw [e1] at o1
    have ht := tot_take_succ x k hkx
    have htl := tot_take_le x (k + 1)
    refine iCall ((ok_laws_markInt64S o1 (1 + tot (x.take k)) (by omega)).mono ?_)
    rintro _ w3 ⟨rfl, g1, g2⟩
    have hc3 : Ch (fun c => vs[k].ownBlock = some c) w2 w3 := grown_ch g2 fun c hc => hc
    (refine iAdd (by omega) ?_)
    have e2 : ((1 + tot (x.take k) + x[k].length : Nat) : Int) = ((1 + tot (x.take (k + 1)) : Nat) : Int) := by rw [ht]; omega
    rw [e2]
    refine hKn (k + 1) _ ⟨by omega, hch.trans hc3 (fun c hc => .inl ⟨vs[k], List.getElem_mem hk1, hc⟩), h1.ch hc3 (fun c hc he => o1.ne_ow h1 (by decide) he hc), ?_⟩ (by omega)
    have := h2.set hk1 hc3 g1
    have e3 : ((marksL 1 (x.take k) ++ x.drop k).map ints).set k (ints (marks (1 + tot (x.take k)) x[k].length)) = (marksL 1 (x.take (k + 1)) ++ x.drop (k + 1)).map ints := by
      have hml : (marksL 1 (x.take k)).length = k := by rw [marksL_length, List.length_take]; omega
      rw [List.map_append, List.set_append_right _ _ (by rw [List.length_map]; omega), List.length_map, hml, Nat.sub_self, List.drop_eq_getElem_cons hkx, List.map_cons, List.set_cons_zero, List.take_succ_eq_append_getElem hkx, marksL_append]
      simp [marksL]
    rwa [e3] at this
  · obtain rfl : k = x.length := by omega
    rw [List.take_length]
    exact ⟨rfl, hch⟩
end Go.Proofs.Ytfadcafacpaldaa

/- The law on RefuteClauses: what its body answers. Conditions: none. -/
namespace Go.Vc
theorem len_le_tot {l : List Int} : ∀ {x : List (List Int)}, l ∈ x → l.length ≤ tot x
  | [], h => by cases h
  | y :: x, h => by
    have := tot_append [y] x
    rw [List.singleton_append] at this
    have h1 : tot [y] = y.length := by simp [tot]
    rcases List.mem_cons.1 h with rfl | h
    · omega
    · have := len_le_tot h
      omega
theorem numK_ok {st : List Rs} (nd : List Bool) (hok : ∀ k, k < st.length → (st.getD k default).c.length ≤ 6) : ∀ k, k ≤ st.length → (numK st nd k).2.length ≤ k ∧ ∀ s ∈ (numK st nd k).2, s.c.length ≤ 6
  | 0, _ => ⟨Nat.le_refl _, fun s hs => by simp [numK] at hs⟩
  | k + 1, hk => by
    obtain ⟨h1, h2⟩ := numK_ok nd hok k (by omega)
    rw [numK]
    dsimp only
    split
    · refine ⟨by rw [List.length_append]; show _ + 1 ≤ _; omega, fun s hs => ?_⟩
      rcases List.mem_append.1 hs with hs | hs
      · exact h2 s hs
      · simp only [List.mem_singleton] at hs
        have := hok k (by omega)
        subst hs
        split <;> exact this
    · exact ⟨by omega, h2⟩
theorem totQ_le {L : List Rs} (h : ∀ s ∈ L, s.c.length ≤ 6) : totQ L ≤ 9 * L.length := by
  induction L with
  | nil => simp [totQ]
  | cons x L ih =>
    have := ih fun s hs => h s (List.mem_cons_of_mem _ hs)
    have h1 := h x List.mem_cons_self
    have e : totQ (x :: L) = x.c.length + 3 + totQ L := by simp [totQ]
    rw [e, List.length_cons]; omega
theorem rfR_tot (L : List (List Int)) : totQ (rfR L).1 ≤ 1000000 := by
  unfold rfR
  split
  · simp [totQ]
  · rename_i hok
    have hok := Classical.not_not.1 hok
    split
    · simp [totQ]
    · split
      · have hI := endP_inv hok
        have hl := hI.len
        obtain ⟨h1, h2⟩ := numK_ok (needed (endP L).1) (st := (endP L).1) (fun k hk => (hI.ok _ (by rw [List.getD_eq_getElem?_getD, List.getElem?_eq_getElem hk]; exact List.getElem_mem hk)).len) (endP L).1.length (Nat.le_refl _)
        have := totQ_le h2
        show totQ (usedR (endP L).1) ≤ _
        unfold usedR
        omega
      · simp [totQ]
end Go.Vc
namespace Go.Proofs.Ytfadcafacpaldaa
open Go.Vc
theorem ok_laws_FnExactRefuteClauses {w : World} {v : Value} {P : List VL} (hs : RdRows w v P) : Ret Try.prog f_laws_FnExactRefuteClauses #[v] w (.bool true) := by
  apply c_laws_FnExactRefuteClauses; unfold S_laws_FnExactRefuteClauses
  refine iCall ((ok_laws_szInt64SS hs 1048576 (by omega)).mono ?_)
  rintro _ w1 ⟨h1, z, rfl, hz1, hz⟩
  refine iLt (iCndP (fun h => ⟨rfl, h1⟩) (fun h => ?_))
  have hsz := hz (by omega)
  have hlen : P.length ≤ 1048576 := by omega
  have hPl : ∀ p ∈ P, p.2.length ≤ 1048576 := fun p hp => by
    have := len_le_tot (List.mem_map_of_mem (f := Prod.snd) hp)
    omega
  have htot : tot (P.map Prod.snd) ≤ 1000000000 := by omega
  have rdq : ∀ {lo : Nat} {w : World} {v : Value} {Q : List VL}, Ow lo t_Si64 w v (Q.map Prod.fst) → OwP lo t_i64 w Q → RdRows w v Q := fun a b => ⟨a.sl, fun p hp => (b.1 p hp).sl⟩
  have eqQ : ∀ {lo lo' : Nat} {w : World} {a b : Value} {M : List Rs}, OwQ lo w a M → OwQ lo' w b M → Ret Try.prog f_laws_eqResolventS #[a, b] w (.bool true) := fun {lo lo' w a b M} ha hb => by
    obtain ⟨A, hA, eA⟩ := ha.rd
    obtain ⟨B, hB, eB⟩ := hb.rd
    have := ok_laws_eqResolventS hA hB
    rwa [eA, eB, decide_eq_true rfl] at this
  have gs := hs.ext h1
  refine iCall ((ok_laws_toInt64SS gs hlen hPl).mono ?_)
  rintro r1 w2 ⟨h2, Q1, o1, q1, e1⟩
  refine iCall ((ok_spec_RefuteClauses (rdq o1 q1)).mono ?_)
  rintro _ w3 ⟨h3, u0, rfl, hu0⟩
  rw [e1] at hu0 
  have hM := rfR_tot (P.map Prod.snd)
  refine iE20 (iE21 ?_)
  have hX3 := (h1.trans h2).trans h3
  have gs := hs.ext hX3
  refine iCall ((ok_laws_toInt64SS gs hlen hPl).mono ?_)
  rintro x0 w4 ⟨h4, Q2, o2, q2, e2⟩
  refine iCall ((ok_impl_RefuteClauses (rdq o2 q2)).mono ?_)
  rintro _ w5 ⟨h5, g0, rfl, hg0⟩
  rw [e2] at hg0
  rw [e1, e2]
  generalize hR : rfR (P.map Prod.snd) = R at *
  have hX5 := (hX3.trans h4).trans h5
  refine iE20 (iE21 ?_)
  refine iJnPQ (fun xs w' => xs = [.bool false] ∧ Ext w5 w') (fun J hJ => ?_) (fun xs w6 hC => ?_)
  · refine iRet (eqQ hg0 (hu0.ext (h4.trans h5))) fun w6 h6 => ?_
    refine iNot (iCndF rfl ?_)
    refine iNe ?_
    exact hJ _ _ ⟨by simp, h6⟩
  obtain ⟨rfl, h56⟩ := hC
  intro _
  simp only [gx]
  refine iCndF rfl ?_
  have gs := hs.ext (hX5.trans h56)
  refine iCall ((ok_laws_toInt64SS gs hlen hPl).mono ?_)
  rintro x1 w7 ⟨h7, Q3, o3, q3, e3⟩
  have h57 := h56.trans h7
  have o2' := (o2.ext h5).ext h57
  have q2' := (OwP.ext q2 h5).ext h57
  refine iRet (ok_laws_eqInt64SS (x := P.map Prod.snd) ⟨Q2.map Prod.fst, o2', by rw [← e2]; exact OwP.to q2'⟩ ⟨Q3.map Prod.fst, o3, by rw [← e3]; exact OwP.to q3⟩) fun w8 h8 => ?_
  refine iNot (iCndF rfl ?_)
  have h58 := h57.trans h8
  have o8 := o2'.ext h8
  have q8 := OwP.ext q2' h8
  have q8' := OwP.to q8
  rw [e2] at q8'
  refine iCall ((ok_laws_markInt64SSQ o8 q8' htot).mono ?_)
  rintro _ w9 ⟨rfl, c9⟩
  have hX9 : Ext w w9 := (hX5.trans h58).thenCh c9 fun c ⟨u, hu, hc⟩ => by
    obtain ⟨p, hp, rfl⟩ := List.mem_map.1 hu
    have := ((q2.1 p hp).blk c hc).1
    have := hX3.size; omega
  have hgB := hg0.bnd
  have huB := hu0.bnd
  have hg9 := (hgB.ext h58).ch c9 fun c ⟨u, hu, hc⟩ => .inr (by
    obtain ⟨p, hp, rfl⟩ := List.mem_map.1 hu
    exact ((q2.1 p hp).blk c hc).2)
  have hu9 := (huB.ext ((h4.trans h5).trans h58)).ch c9 fun c ⟨u, hu, hc⟩ => .inl (by
    obtain ⟨p, hp, rfl⟩ := List.mem_map.1 hu
    exact ((q2.1 p hp).blk c hc).1)
  refine iJnPQ (fun xs w' => xs = [.bool false] ∧ Ext w9 w') (fun J hJ => ?_) (fun xs w10 hC => ?_)
  · refine iLt (iCndP (fun h => absurd h (by omega)) (fun _ => ?_))
    refine iRet (eqQ hg9.toQ hu9.toQ) fun w6 h6 => ?_
    refine iNot (iCndF rfl ?_)
    refine iNe ?_
    exact hJ _ _ ⟨by simp, h6⟩
  obtain ⟨rfl, h10⟩ := hC
  intro _
  simp only [gx]
  refine iCndF rfl ?_
  refine iCall ((ok_laws_markResolventS (hg9.toQ.ext h10) (by omega)).mono ?_)
  rintro _ w11 ⟨rfl, hg11, c11⟩
  have hX11 : Ext w w11 := (hX9.trans h10).thenCh c11 fun c hc => by have := hX3.size; have := h4.size; omega
  have hu11 := (hu9.ext h10).ch c11 fun c hc => .inl (by have := h4.size; omega)
  have held : ∀ {lo : Nat} {w : World}, OwQ lo w g0 (mkQ 1 R.1) → Ret Try.prog f_laws_heldResolventS #[g0, .int .i64 1] w (.int .i64 ((1 + totQ R.1 : Nat) : Int)) := fun {lo w} h => by
    obtain ⟨A, hA, eA⟩ := h.rd
    exact ok_laws_heldResolventS hA eA (by omega)
  refine iRet (held hg11) fun w12 h12 => ?_
  refine iLt (iCndP (fun h => absurd h (by omega)) (fun _ => ?_))
  refine iNe (iCndP (fun h => absurd rfl h) (fun _ => ?_))
  have hX12 := hX11.trans h12
  have gs := hs.ext hX12
  refine iCall ((ok_laws_toInt64SS gs hlen hPl).mono ?_)
  rintro x5 w13 ⟨h13, Q5, o5, q5, e5⟩
  have himp := ok_impl_RefuteClauses (rdq o5 q5)
  rw [e5, hR] at himp
  refine iCall (himp.mono ?_)
  rintro _ w14 ⟨h14, h0, rfl, hh0⟩
  refine iE20 (iE21 ?_)
  have h1214 := (h12.trans h13).trans h14
  refine iJnPQ (fun xs w' => xs = [.bool false] ∧ Ext w14 w') (fun J hJ => ?_) (fun xs w15 hC => ?_)
  · refine iRet (eqQ hh0 (hu11.ext h1214).toQ) fun w6 h6 => ?_
    refine iNot (iCndF rfl ?_)
    refine iNe ?_
    exact hJ _ _ ⟨by simp, h6⟩
  obtain ⟨rfl, h15⟩ := hC
  intro _
  simp only [gx]
  refine iCndF rfl ?_
  have h1115 := h1214.trans h15
  refine iRet (held (hg11.ext h1115)) fun w16 h16 => ?_
  refine iLt (iCndP (fun h => absurd h (by omega)) (fun _ => ?_))
  refine iNe (iCndP (fun h => absurd rfl h) (fun _ => ?_))
  exact ⟨by first | trivial | rfl, (hX11.trans h1115).trans h16⟩
end Go.Proofs.Ytfadcafacpaldaa
