/- The proof of FnModalHomomorphisms, part 4 of 5. Conditions: none. -/
import Derived.Test.YtfadcafacpaldaaGreatKR27c
import Derived.ChangeKeysEq
import Derived.Laws.StructEq
import Derived.Laws.Entries
/- Contracts: partition, the trial of insertion and pdqsort itself, on strings. Conditions: none. -/
namespace Go.Vc
theorem part_end {L : List VL} {a b j : Nat} {pv : VL} (haj : a ≤ j) (hjb : j < b) (hb : b ≤ L.length) (he : gt L a = pv) (h1 : ∀ k, a + 1 ≤ k → k ≤ j → ltV (gt L k) pv = true) (h2 : ∀ k, j < k → k < b → ltV (gt L k) pv = false) : Parted ltV a b j (sw L j a) := by
  have e : ∀ k, gt (sw L j a) k = if k = a then gt L j else if k = j then gt L a else gt L k := gt_sw (by omega) (by omega)
  have ej : gt (sw L j a) j = pv := by
    rw [e]
    split
    · rename_i h; rw [h]; exact he
    · rw [if_pos rfl]; exact he
  refine ⟨fun k hk hk' => ?_, fun k hk hk' => ?_⟩
  · rw [ej, e]
    by_cases hka : k = a
    · rw [if_pos hka]; exact h1 j (by omega) (Nat.le_refl _)
    · rw [if_neg hka, if_neg (by omega)]; exact h1 k (by omega) (by omega)
  · rw [ej, e, if_neg (by omega), if_neg (by omega)]; exact h2 k hk hk'
end Go.Vc
namespace Go.Proofs.YtfadcafacpaldaaGreat
open Go.Vc
theorem ok_slices_partitionCmpFunc_Si64 {lo : Nat} {w : World} {v : Value} {L : List VL} {a b t : Nat} (hs : Ow lo t_Si64 w v (evL L)) (hrw : RowsV t_i64 w L) (hat : a ≤ t) (htb : t < b) (hb : b ≤ L.length) (hL : L.length ≤ 1152921504606846976) :
    Cal Tryz.prog f_slices_partitionCmpFunc_Si64 #[v, .int .i64 (a : Int), .int .i64 (b : Int), .int .i64 (t : Int), cmpV] w fun r w' => ∃ L' : List VL, ∃ m : Nat, ∃ y : Bool, r = .tuple #[.int .i64 (m : Int), .bool y] ∧ Turn lo t_Si64 encV v w w' L' ∧ SwR a b L L' ∧ a ≤ m ∧ m < b ∧ Parted ltV a b m L' := by
  apply c_slices_partitionCmpFunc_Si64; unfold S_slices_partitionCmpFunc_Si64
  refine iRdO (j := t) hs rfl (by omega) ?_
  refine iRdO (j := a) hs rfl (by omega) ?_
  refine iWr2 (i := a) (j := t) encV_cell hs rfl rfl (by omega) (by omega) fun w7 h5 => ?_
  have h5 : Turn lo t_Si64 encV v w w7 (sw L a t) := h5
  have e0 : gt (sw L a t) a = gt L t := by rw [gt_sw (by omega) (by omega)]; split <;> simp_all
  have hw0 : SwR a b L (sw L a t) := .one (Nat.le_refl _) (by omega) hat htb hb
  have hl0 := hw0.len
  generalize sw L a t = L0 at h5 e0 hw0 hl0
  (refine iAdd (by omega) ?_; refine iSub (by omega) ?_)
  obtain ⟨i0, hi0⟩ : ∃ i0, i0 = a + 1 := ⟨_, rfl⟩
  obtain ⟨j0, hj0⟩ : ∃ j0 : Int, j0 = (b : Int) - 1 := ⟨_, rfl⟩
  rw [show (a : Int) + 1 = (i0 : Int) by omega, ← hj0]
  refine iLp (fun i : Nat => [.int .i64 (i : Int)]) (fun i w' => i0 ≤ i ∧ (i : Int) ≤ j0 + 1 ∧ Ext w7 w' ∧ ∀ k, a + 1 ≤ k → k < i → ltV (gt L0 k) (gt L t) = true) (fun i => b - i) i0 rfl ⟨Nat.le_refl _, by omega, Ext.refl _, fun k h1 h2 => by omega⟩ ?_
  rintro i w9 Kn9 ⟨hi, hij, h9, hq⟩ hKn9
  intro _
  simp only [gx]
  have ht9 := h5.ext h9
  refine iJnB (decide ((i : Int) ≤ j0) && ltV (gt L0 i) (gt L0 a)) w9 (fun J hJ => ?_) (fun w11 h11 => ?_)
  · refine iLe ?_
    refine iCndP (fun h => ?_) (fun h => ?_)
    · rw [decide_eq_true h, Bool.true_and] at hJ
      refine iRdO (j := i) ht9.ow rfl (by omega) ?_
      refine iRdO (j := a) ht9.ow rfl (by omega) ?_
      exact iCm (hrw.turn hs (by decide) ht9 hw0.perm) (by omega) (by omega) hJ
    · rw [decide_eq_false h, Bool.false_and] at hJ
      exact fun _ x8 _ x9 => hJ _ (x8.trans x9)
  intro _
  simp only [gx]
  have h9' := h9.trans h11
  cases hc : decide ((i : Int) ≤ j0) && ltV (gt L0 i) (gt L0 a)
  rotate_left
  · rw [Bool.and_eq_true, decide_eq_true_eq] at hc
    refine iCndT rfl ?_
    (refine iAdd (by omega) ?_)
    refine hKn9 (i + 1) _ ⟨by omega, by omega, h9', fun k h1 h2 => ?_⟩ (by omega)
    by_cases hk : k = i
    · rw [hk, ← e0]; exact hc.2
    · exact hq k h1 (by omega)
  refine iCndF rfl ?_
  refine iLp (fun j : Int => [.int .i64 j]) (fun j w' => j ≤ j0 ∧ (i : Int) ≤ j + 1 ∧ Ext w7 w' ∧ ∀ k : Nat, j < k → k < b → ltV (gt L0 k) (gt L t) = false) (fun j => (j + 2).toNat) j0 rfl ⟨Int.le_refl _, hij, h9', fun k h1 h2 => by omega⟩ ?_
  rintro j w15 Kn15 ⟨hjj, hij2, h15, hq2⟩ hKn15
  intro _
  simp only [gx]
  have ht15 := h5.ext h15
  refine iJnB (decide ((i : Int) ≤ j) && !ltV (gt L0 j.toNat) (gt L0 a)) w15 (fun J hJ => ?_) (fun w17 h17 => ?_)
  · refine iLe ?_
    refine iCndP (fun h => ?_) (fun h => ?_)
    · rw [decide_eq_true h, Bool.true_and] at hJ
      refine iRdO (j := j.toNat) ht15.ow (by omega) (by omega) ?_
      refine iRdO (j := a) ht15.ow rfl (by omega) ?_
      exact iCmN (hrw.turn hs (by decide) ht15 hw0.perm) (by omega) (by omega) hJ
    · rw [decide_eq_false h, Bool.false_and] at hJ
      exact fun _ x8 _ x9 => hJ _ (x8.trans x9)
  intro _
  simp only [gx]
  have ht17 := ht15.ext h17
  cases hc2 : decide ((i : Int) ≤ j) && !ltV (gt L0 j.toNat) (gt L0 a)
  rotate_left
  · rw [Bool.and_eq_true, decide_eq_true_eq, Bool.not_eq_true'] at hc2
    refine iCndT rfl ?_
    refine iSub (by omega) ?_
    refine hKn15 (j - 1) _ ⟨by omega, by omega, h15.trans h17, fun k h1 h2 => ?_⟩ (by omega)
    by_cases hk : (k : Int) = j
    · rw [show k = j.toNat by omega, ← e0]; exact hc2.2
    · exact hq2 k (by omega) h2
  refine iCndF rfl ?_
  refine iLt ?_
  refine iCndP (fun h => ?_) (fun h => ?_)
  · refine iRdO (j := a) ht17.ow rfl (by omega) ?_
    refine iRdO (j := j.toNat) ht17.ow (by omega) (by omega) ?_
    refine iWr2 (i := j.toNat) (j := a) encV_cell ht17.ow (by omega) rfl (by omega) (by omega) fun w22 h22 => ?_
    exact ⟨sw L0 j.toNat a, j.toNat, true, by rw [Int.toNat_of_nonneg (by omega)], ht17.trans h22, .step hw0 (by omega) (by omega) (Nat.le_refl _) (by omega) hb, by omega, by omega, part_end (by omega) (by omega) (by omega) e0 (fun k h1 h2 => hq k h1 (by omega)) (fun k h1 h2 => hq2 k (by omega) h2)⟩
  have hlt1 : ltV (gt L0 i) (gt L t) = false := by
    rw [decide_eq_true (show (i : Int) ≤ j0 by omega), Bool.true_and, e0] at hc; exact hc
  have hlt2 : ltV (gt L0 j.toNat) (gt L t) = true := by
    rw [decide_eq_true (show (i : Int) ≤ j by omega), Bool.true_and, Bool.not_eq_false', e0] at hc2; exact hc2
  have hne : i ≠ j.toNat := fun e => by rw [e, hlt2] at hlt1; cases hlt1
  refine iRdO (j := j.toNat) ht17.ow (by omega) (by omega) ?_
  refine iRdO (j := i) ht17.ow rfl (by omega) ?_
  refine iWr2 (i := i) (j := j.toNat) encV_cell ht17.ow rfl (by omega) (by omega) (by omega) fun w24 h24 => ?_
  refine iAdd (by omega) ?_
  refine iSub (by omega) ?_
  have eS : ∀ k, gt (sw L0 i j.toNat) k = if k = j.toNat then gt L0 i else if k = i then gt L0 j.toNat else gt L0 k := gt_sw (by omega) (by omega)
  have nx1 : ∀ k, a + 1 ≤ k → k < i + 1 → ltV (gt (sw L0 i j.toNat) k) (gt L t) = true := fun k h1 h2 => by
    rw [eS, if_neg (by omega)]
    by_cases hk : k = i
    · rw [if_pos hk]; exact hlt2
    · rw [if_neg hk]; exact hq k h1 (by omega)
  have nx2 : ∀ k : Nat, j - 1 < k → k < b → ltV (gt (sw L0 i j.toNat) k) (gt L t) = false := fun k h1 h2 => by
    rw [eS]
    by_cases hk : k = j.toNat
    · rw [if_pos hk]; exact hlt1
    · rw [if_neg hk, if_neg (by omega)]; exact hq2 k (by omega) h2
  have nxe : gt (sw L0 i j.toNat) a = gt L t := by rw [eS, if_neg (by omega), if_neg (by omega)]; exact e0
  refine iLp (fun s : Nat × Int => [.int .i64 (s.1 : Int), .int .i64 s.2]) (fun s w' => a + 1 ≤ s.1 ∧ (s.1 : Int) ≤ s.2 + 1 ∧ s.2 < b ∧ ∃ L', Turn lo t_Si64 encV v w w' L' ∧ SwR a b L L' ∧ gt L' a = gt L t ∧ (∀ k, a + 1 ≤ k → k < s.1 → ltV (gt L' k) (gt L t) = true) ∧ ∀ k : Nat, s.2 < k → k < b → ltV (gt L' k) (gt L t) = false) (fun s => b - s.1) (i + 1, j - 1) rfl
    ⟨by show a + 1 ≤ i + 1; omega, by show ((i + 1 : Nat) : Int) ≤ j - 1 + 1; omega, by show j - 1 < b; omega, sw L0 i j.toNat, ht17.trans h24, .step hw0 (by omega) (by omega) (by omega) (by omega) hb, nxe, nx1, nx2⟩ ?_
  clear hKn9 hKn15 nxe nx1 nx2 eS hq hq2
  rintro ⟨i1, j1⟩ w29 Kn ⟨hi1, hij1, hjb1, L1, ht1, hw1, he1, hq1, hq21⟩ hKn
  have hi1 : a + 1 ≤ i1 := hi1
  have hij1 : (i1 : Int) ≤ j1 + 1 := hij1
  have hjb1 : j1 < b := hjb1
  have hl1 := hw1.len
  intro _
  simp only [gx]
  refine iLp (fun i : Nat => [.int .i64 (i : Int)]) (fun i w' => i1 ≤ i ∧ (i : Int) ≤ j1 + 1 ∧ Ext w29 w' ∧ ∀ k, a + 1 ≤ k → k < i → ltV (gt L1 k) (gt L t) = true) (fun i => b - i) i1 rfl ⟨Nat.le_refl _, by omega, Ext.refl _, hq1⟩ ?_
  rintro i w9 Kn9 ⟨hi, hij, h9, hq⟩ hKn9
  intro _
  simp only [gx]
  have ht9 := ht1.ext h9
  refine iJnB (decide ((i : Int) ≤ j1) && ltV (gt L1 i) (gt L1 a)) w9 (fun J hJ => ?_) (fun w11 h11 => ?_)
  · refine iLe ?_
    refine iCndP (fun h => ?_) (fun h => ?_)
    · rw [decide_eq_true h, Bool.true_and] at hJ
      refine iRdO (j := i) ht9.ow rfl (by omega) ?_
      refine iRdO (j := a) ht9.ow rfl (by omega) ?_
      exact iCm (hrw.turn hs (by decide) ht9 hw1.perm) (by omega) (by omega) hJ
    · rw [decide_eq_false h, Bool.false_and] at hJ
      exact fun _ x8 _ x9 => hJ _ (x8.trans x9)
  intro _
  simp only [gx]
  have h9' := h9.trans h11
  cases hc : decide ((i : Int) ≤ j1) && ltV (gt L1 i) (gt L1 a)
  rotate_left
  · rw [Bool.and_eq_true, decide_eq_true_eq] at hc
    refine iCndT rfl ?_
    (refine iAdd (by omega) ?_)
    refine hKn9 (i + 1) _ ⟨by omega, by omega, h9', fun k h1 h2 => ?_⟩ (by omega)
    by_cases hk : k = i
    · rw [hk, ← he1]; exact hc.2
    · exact hq k h1 (by omega)
  refine iCndF rfl ?_
  refine iLp (fun j : Int => [.int .i64 j]) (fun j w' => j ≤ j1 ∧ (i : Int) ≤ j + 1 ∧ Ext w29 w' ∧ ∀ k : Nat, j < k → k < b → ltV (gt L1 k) (gt L t) = false) (fun j => (j + 2).toNat) j1 rfl ⟨Int.le_refl _, hij, h9', hq21⟩ ?_
  rintro j w15 Kn15 ⟨hjj, hij2, h15, hq2⟩ hKn15
  intro _
  simp only [gx]
  have ht15 := ht1.ext h15
  refine iJnB (decide ((i : Int) ≤ j) && !ltV (gt L1 j.toNat) (gt L1 a)) w15 (fun J hJ => ?_) (fun w17 h17 => ?_)
  · refine iLe ?_
    refine iCndP (fun h => ?_) (fun h => ?_)
    · rw [decide_eq_true h, Bool.true_and] at hJ
      refine iRdO (j := j.toNat) ht15.ow (by omega) (by omega) ?_
      refine iRdO (j := a) ht15.ow rfl (by omega) ?_
      exact iCmN (hrw.turn hs (by decide) ht15 hw1.perm) (by omega) (by omega) hJ
    · rw [decide_eq_false h, Bool.false_and] at hJ
      exact fun _ x8 _ x9 => hJ _ (x8.trans x9)
  intro _
  simp only [gx]
  have ht17 := ht15.ext h17
  cases hc2 : decide ((i : Int) ≤ j) && !ltV (gt L1 j.toNat) (gt L1 a)
  rotate_left
  · rw [Bool.and_eq_true, decide_eq_true_eq, Bool.not_eq_true'] at hc2
    refine iCndT rfl ?_
    refine iSub (by omega) ?_
    refine hKn15 (j - 1) _ ⟨by omega, by omega, h15.trans h17, fun k h1 h2 => ?_⟩ (by omega)
    by_cases hk : (k : Int) = j
    · rw [show k = j.toNat by omega, ← he1]; exact hc2.2
    · exact hq2 k (by omega) h2
  refine iCndF rfl ?_
  refine iLt ?_
  refine iCndP (fun h => ?_) (fun h => ?_)
  · refine iRdO (j := a) ht17.ow rfl (by omega) ?_
    refine iRdO (j := j.toNat) ht17.ow (by omega) (by omega) ?_
    refine iWr2 (i := j.toNat) (j := a) encV_cell ht17.ow (by omega) rfl (by omega) (by omega) fun w22 h22 => ?_
    exact ⟨sw L1 j.toNat a, j.toNat, false, by rw [Int.toNat_of_nonneg (by omega)], ht17.trans h22, .step hw1 (by omega) (by omega) (Nat.le_refl _) (by omega) hb, by omega, by omega, part_end (by omega) (by omega) (by omega) he1 (fun k h1 h2 => hq k h1 (by omega)) (fun k h1 h2 => hq2 k (by omega) h2)⟩
  have hlt1 : ltV (gt L1 i) (gt L t) = false := by
    rw [decide_eq_true (show (i : Int) ≤ j1 by omega), Bool.true_and, he1] at hc; exact hc
  have hlt2 : ltV (gt L1 j.toNat) (gt L t) = true := by
    rw [decide_eq_true (show (i : Int) ≤ j by omega), Bool.true_and, Bool.not_eq_false', he1] at hc2; exact hc2
  have hne : i ≠ j.toNat := fun e => by rw [e, hlt2] at hlt1; cases hlt1
  refine iRdO (j := j.toNat) ht17.ow (by omega) (by omega) ?_
  refine iRdO (j := i) ht17.ow rfl (by omega) ?_
  refine iWr2 (i := i) (j := j.toNat) encV_cell ht17.ow rfl (by omega) (by omega) (by omega) fun w24 h24 => ?_
  refine iAdd (by omega) ?_
  refine iSub (by omega) ?_
  have eS : ∀ k, gt (sw L1 i j.toNat) k = if k = j.toNat then gt L1 i else if k = i then gt L1 j.toNat else gt L1 k := gt_sw (by omega) (by omega)
  have nx1 : ∀ k, a + 1 ≤ k → k < i + 1 → ltV (gt (sw L1 i j.toNat) k) (gt L t) = true := fun k h1 h2 => by
    rw [eS, if_neg (by omega)]
    by_cases hk : k = i
    · rw [if_pos hk]; exact hlt2
    · rw [if_neg hk]; exact hq k h1 (by omega)
  have nx2 : ∀ k : Nat, j - 1 < k → k < b → ltV (gt (sw L1 i j.toNat) k) (gt L t) = false := fun k h1 h2 => by
    rw [eS]
    by_cases hk : k = j.toNat
    · rw [if_pos hk]; exact hlt1
    · rw [if_neg hk, if_neg (by omega)]; exact hq2 k (by omega) h2
  have nxe : gt (sw L1 i j.toNat) a = gt L t := by rw [eS, if_neg (by omega), if_neg (by omega)]; exact he1
  exact hKn (i + 1, j - 1) _ ⟨by show a + 1 ≤ i + 1; omega, by show ((i + 1 : Nat) : Int) ≤ j - 1 + 1; omega, by show j - 1 < b; omega, sw L1 i j.toNat, ht17.trans h24, .step hw1 (by omega) (by omega) (by omega) (by omega) hb, nxe, nx1, nx2⟩ (by show b - (i + 1) < b - i1; omega)
theorem ok_slices_partialInsertionSortCmpFunc_Si64 {lo : Nat} {w : World} {v : Value} {L : List VL} {a b : Nat} (hs : Ow lo t_Si64 w v (evL L)) (hrw : RowsV t_i64 w L) (hab : a < b) (hb : b ≤ L.length) (hL : L.length ≤ 1152921504606846976) (hbl : Blw ltV a b L) :
    Cal Tryz.prog f_slices_partialInsertionSortCmpFunc_Si64 #[v, .int .i64 (a : Int), .int .i64 (b : Int), cmpV] w fun r w' => ∃ y : Bool, ∃ L' : List VL, r = .bool y ∧ Turn lo t_Si64 encV v w w' L' ∧ SwR a b L L' ∧ (y = true → Srt ltV a b L') := by
  apply c_slices_partialInsertionSortCmpFunc_Si64; unfold S_slices_partialInsertionSortCmpFunc_Si64
  (refine iAdd (by omega) ?_)
  refine iLp (fun s : Nat × Nat => [.int .i64 (s.1 : Int), .int .i64 (s.2 : Int)]) (fun s w' => a + 1 ≤ s.1 ∧ s.1 ≤ b ∧ s.2 ≤ 5 ∧ ∃ L', Turn lo t_Si64 encV v w w' L' ∧ SwR a b L L' ∧ Srt ltV a s.1 L') (fun s => 5 - s.2) (a + 1, 0) rfl ⟨Nat.le_refl _, by show a + 1 ≤ b; omega, Nat.zero_le _, L, Turn.refl hs, .refl, Srt.short (Nat.le_refl _)⟩ ?_
  rintro ⟨i0, r⟩ w2 Kn ⟨hi0, hib0, hr, L1, ht1, hw1, hs1⟩ hKn
  have hi0 : a + 1 ≤ i0 := hi0
  have hib0 : i0 ≤ b := hib0
  have hr : r ≤ 5 := hr
  have hs1 : Srt ltV a i0 L1 := hs1
  have hl1 := hw1.len
  intro _
  simp only [gx]
  refine iLt ?_
  refine iCndP (fun h5 => ?_) (fun h5 => ?_)
  rotate_left
  · exact ⟨false, L1, rfl, ht1, hw1, fun h => by cases h⟩
  refine iLp (fun i : Nat => [.int .i64 (i : Int)]) (fun i w' => i0 ≤ i ∧ i ≤ b ∧ Ext w2 w' ∧ Srt ltV a i L1) (fun i => b - i) i0 rfl ⟨Nat.le_refl _, hib0, Ext.refl _, hs1⟩ ?_
  rintro i w4 Kn4 ⟨hi, hib, h4, hsi⟩ hKn4
  intro _
  simp only [gx]
  have ht4 := ht1.ext h4
  refine iJnB (decide (i < b) && !ltV (gt L1 i) (gt L1 (i - 1))) w4 (fun J hJ => ?_) (fun w6 h6 => ?_)
  · refine iLt ?_
    refine iCndP (fun h => ?_) (fun h => ?_)
    · rw [decide_eq_true (show i < b by omega), Bool.true_and] at hJ
      refine iRdO (j := i) ht4.ow rfl (by omega) ?_
      refine iSub (by omega) ?_
      refine iRdO (j := i - 1) ht4.ow (by omega) (by omega) ?_
      exact iCmN (hrw.turn hs (by decide) ht4 hw1.perm) (by omega) (by omega) hJ
    · rw [decide_eq_false (show ¬ i < b by omega), Bool.false_and] at hJ
      exact fun _ x8 _ x9 => hJ _ (x8.trans x9)
  intro _
  simp only [gx]
  have ht6 := ht4.ext h6
  cases hc : decide (i < b) && !ltV (gt L1 i) (gt L1 (i - 1))
  rotate_left
  · rw [Bool.and_eq_true, decide_eq_true_eq, Bool.not_eq_true'] at hc
    refine iCndT rfl ?_
    refine iAdd (by omega) ?_
    refine hKn4 (i + 1) _ ⟨by omega, by omega, h4.trans h6, fun p q g1 g2 g3 => ?_⟩ (by omega)
    by_cases hq : q = i
    · subst hq
      by_cases hp : p = q - 1
      · rw [hp]; exact hc.2
      · exact ordrV.tr (hsi p (q - 1) g1 (by omega) (by omega)) hc.2
    · exact hsi p q g1 g2 (by omega)
  refine iCndF rfl ?_
  refine iEq ?_
  refine iCndP (fun h => ?_) (fun h => ?_)
  · have : i = b := by omega
    subst this
    exact ⟨true, L1, rfl, ht6, hw1, fun _ => hsi⟩
  have hlt : ltV (gt L1 i) (gt L1 (i - 1)) = true := by
    rw [decide_eq_true (show i < b by omega), Bool.true_and, Bool.not_eq_false'] at hc; exact hc
  refine iSub (by omega) ?_
  refine iLt ?_
  refine iCndP (fun h7 => ?_) (fun h7 => ?_)
  · exact ⟨false, L1, rfl, ht6, hw1, fun h => by cases h⟩
  refine iSub (by omega) ?_
  refine iSub (by omega) ?_
  refine iRdO (j := i - 1) ht6.ow (by omega) (by omega) ?_
  refine iRdO (j := i) ht6.ow rfl (by omega) ?_
  refine iWr2 (i := i) (j := i - 1) encV_cell ht6.ow rfl (by omega) (by omega) (by omega) fun w13 h13 => ?_
  have h13 : Turn lo t_Si64 encV v w6 w13 (sw L1 i (i - 1)) := h13
  have hw2 : SwR a b L1 (sw L1 i (i - 1)) := .one (by omega) (by omega) (by omega) (by omega) (by omega)
  have hs2 : Srt ltV a (i - 1) (sw L1 i (i - 1)) := (hsi.mono (Nat.le_refl _) (by omega)).out (SwR.one (a := i - 1) (b := b) (by omega) (by omega) (by omega) (by omega) (by omega)) (.inr (Nat.le_refl _))
  have ht13 := ht6.trans h13
  have hw13 := hw1.trans hw2
  generalize sw L1 i (i - 1) = L2 at h13 hw2 hs2 ht13 hw13
  have hl2 := hw13.len
  have hbl2 : Blw ltV a b L2 := hbl.keep hw13 (Nat.le_refl _) (Nat.le_refl _)
  refine iSub (by omega) ?_
  refine iLe ?_
  refine iJnX (fun _ w' => ∃ L', Turn lo t_Si64 encV v w w' L' ∧ SwR a b L L' ∧ Srt ltV a i L') (fun J hJ => ?_) ?_
  · refine iCndP (fun h8 => ?_) (fun h8 => ?_)
    · refine iSub (by omega) ?_
      refine iLp (fun j : Nat => [.int .i64 (j : Int)]) (fun j w' => a ≤ j ∧ j ≤ i - 1 ∧ ∃ L', Turn lo t_Si64 encV v w w' L' ∧ SwR a b L L' ∧ Blw ltV a b L' ∧ Ins ltV a (i - 1) j L') (fun j => j) (i - 1) (by congr 2; omega) ⟨by omega, Nat.le_refl _, L2, ht13, hw13, hbl2, Ins.init hs2⟩ ?_
      rintro j w17 Kn17 ⟨haj, hji, L3, ht3, hw3, hbl3, hin⟩ hKn17
      have hl3 := hw3.len
      intro _
      simp only [gx]
      refine iLe ?_
      refine iCndP (fun h9 => ?_) (fun h9 => ?_)
      · refine iRdO (j := j) ht3.ow rfl (by omega) ?_
        refine iSub (by omega) ?_
        refine iRdO (j := j - 1) ht3.ow (by omega) (by omega) ?_
        refine iCmN (hrw.turn hs (by decide) ht3 hw3.perm) (by omega) (by omega) fun w18 h18 => ?_
        have ht18 := ht3.ext h18
        refine iCnd (fun h10 => ?_) (fun h10 => ?_)
        · have h10 : ltV (gt L3 j) (gt L3 (j - 1)) = false := by simpa using h10
          refine hJ _ _ ⟨L3, ht18, hw3, ?_⟩
          have := hin.done ordrV (by rcases Nat.lt_or_ge a j with h' | h'; exact .inr ⟨h', h10⟩; exact .inl h') hji
          rwa [show i - 1 + 1 = i by omega] at this
        · have h10 : ltV (gt L3 j) (gt L3 (j - 1)) = true := by simpa using h10
          have haj' : a < j := by
            rcases Nat.lt_or_ge a j with h' | h'
            · exact h'
            · have e : j = a := by omega
              subst e
              have := hbl3 j (Nat.le_refl _) (by omega) (by omega)
              rw [h10] at this; cases this
          refine iSub (by omega) ?_
          refine iSub (by omega) ?_
          refine iRdO (j := j - 1) ht18.ow (by omega) (by omega) ?_
          refine iRdO (j := j) ht18.ow rfl (by omega) ?_
          refine iWr2 (i := j) (j := j - 1) encV_cell ht18.ow rfl (by omega) (by omega) (by omega) fun w23 h23 => ?_
          refine iSub (by omega) ?_
          rw [show (j : Int) - 1 = ((j - 1 : Nat) : Int) by omega]
          have hw4 : SwR a b L3 (sw L3 j (j - 1)) := .one (by omega) (by omega) (by omega) (by omega) (by omega)
          exact hKn17 (j - 1) _ ⟨by omega, by omega, sw L3 j (j - 1), ht18.trans h23, hw3.trans hw4, hbl3.keep hw4 (Nat.le_refl _) (Nat.le_refl _), hin.swap ordrV haj' hji (by omega) h10⟩ (by omega)
      · refine hJ _ _ ⟨L3, ht3, hw3, ?_⟩
        have := hin.done ordrV (.inl (by omega)) hji
        rwa [show i - 1 + 1 = i by omega] at this
    · exact hJ _ _ ⟨L2, ht13, hw13, Srt.short (by omega)⟩
  rintro xs w15 ⟨L3, ht3, hw3, hs3⟩
  have hl3 := hw3.len
  intro _
  refine iSub (by omega) ?_
  refine iLe ?_
  refine iCndP (fun h8 => ?_) (fun h8 => ?_)
  · refine iAdd (by omega) ?_
    refine iLp (fun j : Nat => [.int .i64 (j : Int)]) (fun j w' => i + 1 ≤ j ∧ j ≤ b ∧ ∃ L', Turn lo t_Si64 encV v w w' L' ∧ SwR a b L L' ∧ Srt ltV a i L') (fun j => b - j) (i + 1) rfl ⟨Nat.le_refl _, by omega, L3, ht3, hw3, hs3⟩ ?_
    rintro j w25 Kn25 ⟨hij, hjb, L4, ht4, hw4, hs4⟩ hKn25
    have hl4 := hw4.len
    intro _
    simp only [gx]
    refine iLt ?_
    refine iCndP (fun h9 => ?_) (fun h9 => ?_)
    · refine iRdO (j := j) ht4.ow rfl (by omega) ?_
      refine iSub (by omega) ?_
      refine iRdO (j := j - 1) ht4.ow (by omega) (by omega) ?_
      refine iCmN (hrw.turn hs (by decide) ht4 hw4.perm) (by omega) (by omega) fun w26 h26 => ?_
      have ht26 := ht4.ext h26
      refine iCnd (fun h10 => ?_) (fun h10 => ?_)
      · refine iAdd (by omega) ?_
        exact hKn (i, r + 1) _ ⟨by show a + 1 ≤ i; omega, hib, by show r + 1 ≤ 5; omega, L4, ht26, hw4, hs4⟩ (by show 5 - (r + 1) < 5 - r; omega)
      · refine iSub (by omega) ?_
        refine iSub (by omega) ?_
        refine iRdO (j := j - 1) ht26.ow (by omega) (by omega) ?_
        refine iRdO (j := j) ht26.ow rfl (by omega) ?_
        refine iWr2 (i := j) (j := j - 1) encV_cell ht26.ow rfl (by omega) (by omega) (by omega) fun w31 h31 => ?_
        refine iAdd (by omega) ?_
        exact hKn25 (j + 1) _ ⟨by omega, by omega, sw L4 j (j - 1), ht26.trans h31, .step hw4 (by omega) (by omega) (by omega) (by omega) hb, hs4.out (SwR.one (a := i) (b := b) (by omega) (by omega) (by omega) (by omega) (by omega)) (.inr (Nat.le_refl _))⟩ (by omega)
    · refine iAdd (by omega) ?_
      exact hKn (i, r + 1) _ ⟨by show a + 1 ≤ i; omega, hib, by show r + 1 ≤ 5; omega, L4, ht4, hw4, hs4⟩ (by show 5 - (r + 1) < 5 - r; omega)
  · refine iAdd (by omega) ?_
    exact hKn (i, r + 1) _ ⟨by show a + 1 ≤ i; omega, hib, by show r + 1 ≤ 5; omega, L3, ht3, hw3, hs3⟩ (by show 5 - (r + 1) < 5 - r; omega)
theorem ok_slices_pdqsortCmpFunc_Si64 {lo : Nat} {v : Value} : ∀ (n : Nat) {w : World} {L : List VL} {a b : Nat} {lim : Int}, b - a ≤ n → Ow lo t_Si64 w v (evL L) → RowsV t_i64 w L → a ≤ b → b ≤ L.length → L.length ≤ 1152921504606846976 → Blw ltV a b L → 0 ≤ lim ∧ lim ≤ 64 →
    Cal Tryz.prog f_slices_pdqsortCmpFunc_Si64 #[v, .int .i64 (a : Int), .int .i64 (b : Int), .int .i64 lim, cmpV] w fun _ w' => ∃ L', Turn lo t_Si64 encV v w w' L' ∧ SwR a b L L' ∧ Srt ltV a b L' := by
  intro n
  induction n using Nat.strongRecOn with
  | ind n ih =>
  intro w L a0 b0 lim0 hn hs hrw hab hb hL hbl hlim
  apply c_slices_pdqsortCmpFunc_Si64; unfold S_slices_pdqsortCmpFunc_Si64
  refine iLp (fun s : Nat × Nat × Int × Bool × Bool => [.int .i64 (s.1 : Int), .int .i64 (s.2.1 : Int), .int .i64 s.2.2.1, .bool s.2.2.2.1, .bool s.2.2.2.2]) (fun s w' => a0 ≤ s.1 ∧ s.1 ≤ s.2.1 ∧ s.2.1 ≤ b0 ∧ (0 ≤ s.2.2.1 ∧ s.2.2.1 ≤ 64) ∧ ∃ L', Turn lo t_Si64 encV v w w' L' ∧ SwR a0 b0 L L' ∧ Blw ltV s.1 s.2.1 L' ∧ Crs ltV a0 b0 s.1 s.2.1 L') (fun s => s.2.1 - s.1) (a0, b0, lim0, true, true) rfl
    ⟨Nat.le_refl _, hab, Nat.le_refl _, hlim, L, Turn.refl hs, .refl, hbl, Crs.all⟩ ?_
  rintro ⟨a, b, lim, bal, par⟩ w2 Kn ⟨ha, hab, hbb, hlim, L1, ht1, hw1, hbl1, hcr1⟩ hKn
  have ha : a0 ≤ a := ha
  have hab : a ≤ b := hab
  have hbb : b ≤ b0 := hbb
  have hlim : 0 ≤ lim ∧ lim ≤ 64 := hlim
  have hbl1 : Blw ltV a b L1 := hbl1
  have hcr1 : Crs ltV a0 b0 a b L1 := hcr1
  have hl1 := hw1.len
  intro _
  simp only [gx]
  -- a sorted window closes the work
  have fin : ∀ {L' L'' : List VL} {w' : World} {a b : Nat}, Turn lo t_Si64 encV v w w' L'' → SwR a0 b0 L L' → SwR a b L' L'' → a0 ≤ a → b ≤ b0 → Crs ltV a0 b0 a b L' → Srt ltV a b L'' → ∃ L', Turn lo t_Si64 encV v w w' L' ∧ SwR a0 b0 L L' ∧ Srt ltV a0 b0 L' :=
    fun {L' L'' w' a b} h1 h2 h3 h4 h5 h6 h7 => ⟨L'', h1, h2.trans (h3.mono h4 h5 (by rw [h2.len]; exact hb)), h6.done h3 h4 h5 h7⟩
  refine iSub (by omega) ?_
  refine iLe ?_
  refine iCndP (fun h => ?_) (fun h => ?_)
  · refine iCall ?_
    refine (ok_slices_insertionSortV ht1.ow (hrw.turn hs (by decide) ht1 hw1.perm) hab (by omega) (by omega)).mono fun _ w3 h3 => ?_
    obtain ⟨L2, ht2, hw2, hs2⟩ := h3
    exact fin (ht1.trans ht2) hw1 hw2 ha hbb hcr1 hs2
  refine iEq ?_
  refine iCndP (fun h0 => ?_) (fun h0 => ?_)
  · refine iCall ?_
    refine (ok_slices_heapSortCmpFunc_Si64 ht1.ow (hrw.turn hs (by decide) ht1 hw1.perm) (by omega) (by omega) (by omega)).mono fun _ w3 h3 => ?_
    obtain ⟨L2, ht2, hw2, hs2⟩ := h3
    exact fin (ht1.trans ht2) hw1 hw2 ha hbb hcr1 hs2
  refine iNot ?_
  refine iJnX (fun xs w' => ∃ l2 : Int, ∃ L', xs = [.int .i64 l2] ∧ (0 ≤ l2 ∧ l2 ≤ 64) ∧ Turn lo t_Si64 encV v w w' L' ∧ SwR a b L1 L') (fun J hJ => ?_) ?_
  · refine iCnd (fun _ => ?_) (fun _ => ?_)
    · refine iCall ?_
      refine (ok_slices_breakPatternsCmpFunc_Si64 ht1.ow hab (by omega) (by omega)).mono fun _ w3 h3 => ?_
      obtain ⟨L2, ht2, hw2⟩ := h3
      refine iSub (by omega) ?_
      exact hJ _ _ ⟨lim - 1, L2, rfl, by omega, ht1.trans ht2, hw2⟩
    · exact hJ _ _ ⟨lim, L1, rfl, hlim, ht1, .refl⟩
  rintro xs w6 ⟨lim, L2, rfl, hlim, ht2, hw2⟩
  have hl2 := hw2.len
  intro _
  simp only [gx]
  refine iCall ?_
  refine (ok_slices_choosePivotCmpFunc_Si64 ht2.ow (hrw.turn hs (by decide) ht2 (hw2.perm.trans hw1.perm)) (by omega) (by omega) (by omega)).mono fun r w8 h8 => ?_
  obtain ⟨h8, t, x, rfl, hat, htb⟩ := h8
  have ht8 := ht2.ext h8
  refine iE20 ?_
  refine iE21 ?_
  refine iEq ?_
  refine iJnX (fun xs w' => ∃ t : Nat, ∃ x : Int, ∃ L', xs = [.int .i64 (t : Int), .int .i64 x] ∧ a ≤ t ∧ t < b ∧ Turn lo t_Si64 encV v w w' L' ∧ SwR a b L1 L') (fun J hJ => ?_) ?_
  · refine iCndP (fun _ => ?_) (fun _ => ?_)
    · refine iCall ?_
      refine (ok_slices_reverseRangeCmpFunc_Si64 ht8.ow hab (by omega) (by omega)).mono fun _ w3 h3 => ?_
      obtain ⟨L3, ht3, hw3⟩ := h3
      refine iSub (by omega) ?_
      refine iSub (by omega) ?_
      refine iSub (by omega) ?_
      exact hJ _ _ ⟨b - 1 - (t - a), 1, L3, by congr 2; omega, by omega, by omega, ht8.trans ht3, hw2.trans hw3⟩
    · exact hJ _ _ ⟨t, x, L2, rfl, hat, htb, ht8, hw2⟩
  clear hat htb
  rintro xs w10 ⟨t, x, L3, rfl, hat, htb, ht3, hw3⟩
  intro _
  simp only [gx]
  refine iJnX (fun xs w' => ∃ y : Bool, xs = [.bool y] ∧ Ext w10 w') (fun J hJ => ?_) ?_
  · refine iCnd (fun _ => ?_) (fun _ => ?_)
    · refine iCnd (fun _ => ?_) (fun _ => ?_)
      · refine iEq ?_
        exact hJ _ _ ⟨_, rfl, Ext.refl _⟩
      · exact hJ _ _ ⟨false, rfl, Ext.refl _⟩
    · exact hJ _ _ ⟨false, rfl, Ext.refl _⟩
  rintro xs w13 ⟨y, rfl, h13⟩
  intro _
  simp only [gx]
  have ht13 := ht3.ext h13
  have hl3 := hw3.len
  refine iJnX (fun _ w' => ∃ L', Turn lo t_Si64 encV v w w' L' ∧ SwR a b L1 L') (fun J hJ => ?_) ?_
  · refine iCnd (fun _ => ?_) (fun _ => ?_)
    · refine iCall ?_
      refine (ok_slices_partialInsertionSortCmpFunc_Si64 ht13.ow (hrw.turn hs (by decide) ht13 (hw3.perm.trans hw1.perm)) (by omega) (by omega) (by omega) (hbl1.keep hw3 (Nat.le_refl _) (Nat.le_refl _))).mono fun r w3 h3 => ?_
      obtain ⟨y', L4, rfl, ht4, hw4, hs4⟩ := h3
      refine iCnd (fun hy => ?_) (fun hy => ?_)
      · exact fin (ht13.trans ht4) hw1 (hw3.trans hw4) ha hbb hcr1 (hs4 hy)
      · exact hJ _ _ ⟨L4, ht13.trans ht4, hw3.trans hw4⟩
    · exact hJ _ _ ⟨L3, ht13, hw3⟩
  clear ht3 hw3 ht13 ht8 ht2 hw2 hl2 hl3
  rintro xs w15 ⟨L3, ht3, hw3⟩
  have hl3 := hw3.len
  have hw3' : SwR a0 b0 L L3 := hw1.trans (hw3.mono ha hbb (by omega))
  have hbl3 : Blw ltV a b L3 := hbl1.keep hw3 (Nat.le_refl _) (Nat.le_refl _)
  have hcr3 : Crs ltV a0 b0 a b L3 := hcr1.keep hw3 ha hbb
  intro _
  refine iJnB (decide (0 < a) && !ltV (gt L3 (a - 1)) (gt L3 t)) w15 (fun J hJ => ?_) (fun w18 h18 => ?_)
  · refine iLt ?_
    refine iCndP (fun h5 => ?_) (fun h5 => ?_)
    · rw [decide_eq_true (show 0 < a by omega), Bool.true_and] at hJ
      refine iSub (by omega) ?_
      refine iRdO (j := a - 1) ht3.ow (by omega) (by omega) ?_
      refine iRdO (j := t) ht3.ow rfl (by omega) ?_
      exact iCmN (hrw.turn hs (by decide) ht3 hw3'.perm) (by omega) (by omega) hJ
    · rw [decide_eq_false (show ¬ 0 < a by omega), Bool.false_and] at hJ
      exact fun _ x8 _ x9 => hJ _ (x8.trans x9)
  intro _
  simp only [gx]
  have ht18 := ht3.ext h18
  cases hc : decide (0 < a) && !ltV (gt L3 (a - 1)) (gt L3 t)
  rotate_left
  · rw [Bool.and_eq_true, decide_eq_true_eq, Bool.not_eq_true'] at hc
    refine iCndT rfl ?_
    refine iCall ?_
    refine (ok_slices_partitionEqualCmpFunc_Si64 ht18.ow (hrw.turn hs (by decide) ht18 hw3'.perm) hat htb (by omega) (by omega)).mono fun r w21 h21 => ?_
    obtain ⟨L4, m, rfl, ht4, hw4, ham, hmb, hle⟩ := h21
    have hge : ∀ k, a ≤ k → k < b → ltV (gt L4 k) (gt L3 t) = false := hw4.all (p := fun z => ltV z (gt L3 t) = false) fun k hk hk' => ordrV.tr hc.2 (hbl3 k hk hk' (by omega))
    refine hKn (m, b, lim, bal, par) _ ⟨by show a0 ≤ m; omega, hmb, hbb, hlim, L4, ht18.trans ht4, hw3'.trans (hw4.mono ha hbb (by rw [hw3'.len]; omega)), equal_blw ordrV hge hle ham, equal_up ordrV (hcr3.keep hw4 ha hbb) hge hle hmb⟩ (by show b - m < b - a; omega)
  refine iCndF rfl ?_
  refine iCall ?_
  refine (ok_slices_partitionCmpFunc_Si64 ht18.ow (hrw.turn hs (by decide) ht18 hw3'.perm) hat htb (by omega) (by omega)).mono fun r w22 h22 => ?_
  obtain ⟨L4, m, y', rfl, ht4, hw4, ham, hmb, hpt⟩ := h22
  have hl4 := hw4.len
  have ht22 := ht18.trans ht4
  have hw4' : SwR a0 b0 L L4 := hw3'.trans (hw4.mono ha hbb (by rw [hw3'.len]; omega))
  have hbl4 : Blw ltV a b L4 := hbl3.keep hw4 (Nat.le_refl _) (Nat.le_refl _)
  have hcr4 : Crs ltV a0 b0 a b L4 := hcr3.keep hw4 ha hbb
  refine iE20 ?_
  refine iE21 ?_
  refine iSub (by omega) ?_
  refine iSub (by omega) ?_
  refine iQuo (by omega) ?_
  refine iLt ?_
  refine iCndP (fun h5 => ?_) (fun h5 => ?_)
  · refine iLe ?_
    refine iCall ?_
    refine (ih (m - a) (by omega) (Nat.le_refl _) ht22.ow (hrw.turn hs (by decide) ht22 hw4'.perm) ham (by omega) (by omega) (hbl4.low (by omega)) hlim).mono fun _ w23 h23 => ?_
    obtain ⟨L5, ht5, hw5, hs5⟩ := h23
    have hw5' : SwR a b L4 L5 := hw5.mono (Nat.le_refl _) (by omega) (by omega)
    have hpt5 := hpt.lowS hw5
    refine iAdd (by omega) ?_
    exact hKn (m + 1, b, lim, _, y') _ ⟨by show a0 ≤ m + 1; omega, by show m + 1 ≤ b; omega, hbb, hlim, L5, ht22.trans ht5, hw4'.trans (hw5'.mono ha hbb (by rw [hw4'.len]; omega)), hpt5.blw, hpt5.up ordrV (hcr4.keep hw5' ha hbb) hs5⟩ (by show b - (m + 1) < b - a; omega)
  · refine iLe ?_
    refine iAdd (by omega) ?_
    refine iCall ?_
    refine (ih (b - (m + 1)) (by omega) (a := m + 1) (Nat.le_refl _) ht22.ow (hrw.turn hs (by decide) ht22 hw4'.perm) (by omega) (by omega) (by omega) hpt.blw hlim).mono fun _ w23 h23 => ?_
    obtain ⟨L5, ht5, hw5, hs5⟩ := h23
    have hw5' : SwR a b L4 L5 := hw5.mono (by omega) (Nat.le_refl _) (by omega)
    have hpt5 := hpt.highS hw5
    exact hKn (a, m, lim, _, y') _ ⟨ha, ham, by show m ≤ b0; omega, hlim, L5, ht22.trans ht5, hw4'.trans (hw5'.mono ha hbb (by rw [hw4'.len]; omega)), (hbl4.keep hw5' (Nat.le_refl _) (Nat.le_refl _)).low (Nat.le_of_lt hmb), hpt5.down ordrV (hcr4.keep hw5' ha hbb) hs5⟩ (by show m - a < b - a; omega)
theorem ok_slices_SortFunc_SSi64_Si64 {lo : Nat} {w : World} {v : Value} {L : List VL} (hs : Ow lo t_Si64 w v (evL L)) (hrw : RowsV t_i64 w L) (hL : L.length ≤ 1152921504606846976) :
    Cal Tryz.prog f_slices_SortFunc_SSi64_Si64 #[v, cmpV] w fun _ w' => ∃ L' : List VL, Ow lo t_Si64 w' v (evL L') ∧ Ch (fun c => v.ownBlock = some c) w w' ∧ List.Perm L' L ∧ L'.Pairwise fun x y => ltV y x = false := by
  apply c_slices_SortFunc_SSi64_Si64; unfold S_slices_SortFunc_SSi64_Si64
  refine iLenS hs.sl ?_
  rw [evs_len]
  refine iConvU (by omega) ?_
  refine iCall ?_
  refine (ok_math_bits_Len (by omega) w).mono fun r w1 h1 => ?_
  obtain ⟨h1, k, rfl, -, -, hk⟩ := h1
  refine iCall ?_
  refine (ok_slices_pdqsortCmpFunc_Si64 (a := 0) (b := L.length) (lim := (k : Int)) L.length (by omega) (hs.ext h1) (hrw.ext h1) (Nat.zero_le _) (Nat.le_refl _) hL (fun k _ _ h => by omega) (by omega)).mono fun _ w2 h2 => ?_
  obtain ⟨L', ht, hw, hst⟩ := h2
  rw [← hw.len] at hst
  exact ⟨L', ht.ow, (h1.ch (S := fun c => v.ownBlock = some c)).trans ht.ch fun _ e => .inl e, hw.perm, hst.pairwise⟩
end Go.Proofs.YtfadcafacpaldaaGreat

/- Plain facts on lists in order without doubles: insertion, equal neighbours dropped, one list for each set; posets in order. No program in sight. Conditions: none. -/
namespace Go.Vc
section
variable {α : Type} {lt : α → α → Bool}
/-- A total order that tells all apart. -/
structure OrdA (lt : α → α → Bool) : Prop where
  o : Ordr lt
  anti : ∀ {a b}, lt a b = false → lt b a = false → a = b
theorem OrdA.tot (O : OrdA lt) (a b : α) : lt a b = true ∨ a = b ∨ lt b a = true := by
  cases h1 : lt a b
  · cases h2 : lt b a
    · exact .inr (.inl (O.anti h1 h2))
    · exact .inr (.inr rfl)
  · exact .inl rfl
theorem OrdA.trans (O : OrdA lt) {a b c : α} (h : lt a b = true) (k : lt b c = true) : lt a c = true := O.o.lt_le h (O.o.asym k)
abbrev IncA (lt : α → α → Bool) (L : List α) : Prop := L.Pairwise fun x y => lt x y = true
/-- Two lists in order with the same members are the same. -/
theorem incA_ext (O : OrdA lt) : ∀ {A B : List α}, IncA lt A → IncA lt B → (∀ x, x ∈ A ↔ x ∈ B) → A = B
  | [], [], _, _, _ => rfl
  | [], y :: B, _, _, h => by have := (h y).2 List.mem_cons_self; cases this
  | x :: A, [], _, _, h => by have := (h x).1 List.mem_cons_self; cases this
  | x :: A, y :: B, hA, hB, h => by
    rw [IncA, List.pairwise_cons] at hA hB
    have irr : ∀ z, lt z z = false := O.o.rfl
    have e : x = y := by
      rcases List.mem_cons.1 ((h x).1 List.mem_cons_self) with e | e
      · exact e
      · rcases List.mem_cons.1 ((h y).2 List.mem_cons_self) with e' | e'
        · exact e'.symm
        · have h1 := hB.1 x e
          have h2 := hA.1 y e'
          rw [O.o.asym h1] at h2; cases h2
    subst e
    rw [incA_ext O hA.2 hB.2 fun z => ?_]
    have hz := h z
    simp only [List.mem_cons] at hz
    constructor
    · intro hm
      rcases hz.1 (.inr hm) with e | e
      · subst e; have := hA.1 z hm; rw [irr] at this; cases this
      · exact e
    · intro hm
      rcases hz.2 (.inr hm) with e | e
      · subst e; have := hB.1 z hm; rw [irr] at this; cases this
      · exact e
/-- Laid into a list in order, if it is not there. -/
def insA (lt : α → α → Bool) (t : α) : List α → List α
  | [] => [t]
  | x :: l => if lt x t then x :: insA lt t l else if lt t x then t :: x :: l else x :: l
theorem mem_insA (O : OrdA lt) {t x : α} : ∀ {l : List α}, x ∈ insA lt t l ↔ x = t ∨ x ∈ l
  | [] => by simp [insA]
  | y :: l => by
    unfold insA
    split
    · rw [List.mem_cons, mem_insA O, List.mem_cons]
      constructor
      · rintro (h | h | h)
        · exact .inr (.inl h)
        · exact .inl h
        · exact .inr (.inr h)
      · rintro (h | h | h)
        · exact .inr (.inl h)
        · exact .inl h
        · exact .inr (.inr h)
    · rename_i h1
      split
      · simp
      · rename_i h2
        have := O.anti (by simpa using h1) (by simpa using h2)
        subst this; simp
theorem inc_insA (O : OrdA lt) {t : α} : ∀ {l : List α}, IncA lt l → IncA lt (insA lt t l)
  | [], _ => by simp [insA, IncA]
  | y :: l, h => by
    have h' := List.pairwise_cons.1 h
    unfold insA
    split
    · rename_i hy
      refine List.pairwise_cons.2 ⟨fun z hz => ?_, inc_insA O h'.2⟩
      rcases (mem_insA O).1 hz with e | e
      · subst e; exact hy
      · exact h'.1 z e
    · split
      · rename_i hty
        refine List.pairwise_cons.2 ⟨fun z hz => ?_, h⟩
        rcases List.mem_cons.1 hz with e | e
        · subst e; exact hty
        · exact O.trans hty (h'.1 z e)
      · exact h
theorem insA_split {t : α} [Inhabited α] : ∀ {l : List α} {k : Nat}, k ≤ l.length → (∀ i, i < k → lt (gt l i) t = true) → insA lt t l = l.take k ++ insA lt t (l.drop k)
  | _, 0, _, _ => rfl
  | [], k + 1, hk, _ => by simp at hk
  | x :: l, k + 1, hk, h => by
    have h0 : lt x t = true := h 0 (by omega)
    have := insA_split (t := t) (l := l) (k := k) (by simpa using hk) fun i hi => h (i + 1) (by omega)
    rw [insA, if_pos h0, this]
    rfl
theorem insA_len (t : α) : ∀ l : List α, (insA lt t l).length ≤ l.length + 1
  | [] => by simp [insA]
  | x :: l => by
    have := insA_len t l
    unfold insA
    split <;> (try split) <;> simp [List.length_cons] <;> omega
/-- The set of a list's members, in order. -/
def setA (lt : α → α → Bool) (l : List α) : List α := l.foldl (fun a x => insA lt x a) []
theorem setA_snoc (l : List α) (x : α) : setA lt (l ++ [x]) = insA lt x (setA lt l) := by simp [setA]
theorem inc_setA (O : OrdA lt) (l : List α) : IncA lt (setA lt l) := by
  unfold setA
  suffices h : ∀ (l a : List α), IncA lt a → IncA lt (l.foldl (fun a x => insA lt x a) a) from h l [] List.Pairwise.nil
  intro l
  induction l with
  | nil => intro a h; exact h
  | cons x l ih => intro a h; exact ih _ (inc_insA O h)
theorem mem_setA (O : OrdA lt) {x : α} {l : List α} : x ∈ setA lt l ↔ x ∈ l := by
  unfold setA
  suffices h : ∀ (l a : List α), x ∈ l.foldl (fun a x => insA lt x a) a ↔ x ∈ l ∨ x ∈ a by simpa using h l []
  intro l
  induction l with
  | nil => intro a; simp
  | cons y l ih =>
    intro a
    rw [List.foldl_cons, ih, mem_insA O, List.mem_cons]
    constructor
    · rintro (h | h | h)
      · exact .inl (.inr h)
      · exact .inl (.inl h)
      · exact .inr h
    · rintro ((h | h) | h)
      · exact .inr (.inl h)
      · exact .inl h
      · exact .inr (.inr h)
theorem setA_len (l : List α) : (setA lt l).length ≤ l.length := by
  suffices h : ∀ (l a : List α), (l.foldl (fun a x => insA lt x a) a).length ≤ a.length + l.length by simpa [setA] using h l []
  intro l
  induction l with
  | nil => intro a; simp
  | cons y l ih =>
    intro a
    have := ih (insA lt y a)
    have := insA_len (lt := lt) y a
    rw [List.foldl_cons, List.length_cons]; omega
variable {β : Type} {key : β → α}
/-- Those whose key is not the key of the one before. -/
def ddA (lt : α → α → Bool) (key : β → α) : List β → List β
  | [] => []
  | x :: l => go x l [x]
 where go (x : β) : List β → List β → List β
  | [], acc => acc
  | y :: l, acc => if lt (key x) (key y) || lt (key y) (key x) then go y l (acc ++ [y]) else go y l acc
theorem ddA_go_snoc (x : β) : ∀ (l acc : List β) (y : β), ddA.go lt key x (l ++ [y]) acc = if lt (key ((x :: l).getLastD x)) (key y) || lt (key y) (key ((x :: l).getLastD x)) then ddA.go lt key x l acc ++ [y] else ddA.go lt key x l acc
  | [], acc, y => by simp [ddA.go]
  | z :: l, acc, y => by
    simp only [List.cons_append, ddA.go]
    have e : (x :: z :: l).getLastD x = (z :: l).getLastD z := by simp [List.getLastD]
    rw [e]
    split <;> exact ddA_go_snoc z l _ y
theorem ddA_take [Inhabited β] {l : List β} {i : Nat} (h0 : 1 ≤ i) (hi : i < l.length) : ddA lt key (l.take (i + 1)) = if lt (key (gt l (i - 1))) (key (gt l i)) || lt (key (gt l i)) (key (gt l (i - 1))) then ddA lt key (l.take i) ++ [gt l i] else ddA lt key (l.take i) := by
  match l, hi with
  | x :: l, hi =>
    obtain ⟨k, rfl⟩ : ∃ k, i = k + 1 := ⟨i - 1, by omega⟩
    have hk : k < l.length := by simpa using hi
    have e2 : (x :: l).take (k + 1 + 1) = x :: (l.take k ++ [gt l k]) := by rw [List.take_succ_cons, List.take_succ_eq_append_getElem hk, gt_eq hk]
    have e3 : gt (x :: l) (k + 1) = gt l k := rfl
    have e4 : (x :: l.take k).getLastD x = gt (x :: l) (k + 1 - 1) := by
      cases k with
      | zero => simp [gt]
      | succ k =>
        rw [List.take_succ_eq_append_getElem (by omega), ← List.cons_append, List.getLastD_concat]
        show l[k] = gt l k
        rw [gt_eq (by omega)]
    rw [e2, List.take_succ_cons]
    show ddA.go lt key x (l.take k ++ [gt l k]) [x] = _
    rw [ddA_go_snoc, e4, e3]
    rfl
theorem ddA_one [Inhabited β] {l : List β} (h : 0 < l.length) : ddA lt key (l.take 1) = [gt l 0] := by
  cases l with
  | nil => simp at h
  | cons x l => rfl
theorem ddA_spec [Inhabited β] (O : OrdA lt) {l : List β} (hs : l.Pairwise fun x y => lt (key y) (key x) = false) : ∀ k, k ≤ l.length → List.Sublist (ddA lt key (l.take k)) (l.take k) ∧ IncA lt ((ddA lt key (l.take k)).map key) ∧ (∀ a, a ∈ (l.take k).map key → a ∈ (ddA lt key (l.take k)).map key) := by
  intro k
  induction k with
  | zero => intro _; simp [ddA]
  | succ k ih =>
    intro hk
    obtain ⟨h1, h2, h3⟩ := ih (by omega)
    rcases Nat.eq_zero_or_pos k with h0 | h0
    · subst h0
      rw [ddA_one (by omega)]
      cases l with
      | nil => simp at hk
      | cons x l => simp [gt, IncA]
    have et : l.take (k + 1) = l.take k ++ [gt l k] := by rw [List.take_succ_eq_append_getElem hk, gt_eq hk]
    have hpre : gt l (k - 1) ∈ l.take k := by
      rw [gt_eq (by omega), List.mem_take_iff_getElem]
      exact ⟨k - 1, by omega, rfl⟩
    rw [ddA_take h0 hk]
    have hall : ∀ b ∈ l.take k, lt (key (gt l k)) (key b) = false := by
      have := List.Pairwise.sublist (List.take_sublist (k + 1) l) hs
      rw [et, List.pairwise_append] at this
      exact fun b hb => this.2.2 b hb _ (by simp)
    split
    · rename_i hlt
      rw [hall _ hpre, Bool.or_false] at hlt
      refine ⟨?_, ?_, ?_⟩
      · rw [et]; exact h1.append (List.Sublist.refl _)
      · rw [List.map_append]
        refine List.pairwise_append.2 ⟨h2, by simp, fun a ha b hb => ?_⟩
        simp only [List.map_cons, List.map_nil, List.mem_singleton] at hb
        subst hb
        obtain ⟨c, hc, rfl⟩ := List.mem_map.1 ha
        have hc' := h1.subset hc
        -- c stands at or before k - 1
        have hle : lt (key (gt l (k - 1))) (key c) = false := by
          rw [List.mem_take_iff_getElem] at hc'
          obtain ⟨i, hi, rfl⟩ := hc'
          rcases Nat.lt_or_ge i (k - 1) with h | h
          · rw [gt_eq (by omega)]
            exact (List.pairwise_iff_getElem.1 hs) i (k - 1) (by omega) (by omega) h
          · have : i = k - 1 := by omega
            subst this
            rw [gt_eq (by omega)]
            exact O.o.rfl _
        exact O.o.le_lt hle hlt
      · intro a ha
        rw [et, List.map_append, List.mem_append] at ha
        rw [List.map_append, List.mem_append]
        rcases ha with ha | ha
        · exact .inl (h3 a ha)
        · exact .inr ha
    · rename_i hlt
      rw [Bool.or_eq_true, not_or] at hlt
      have e : key (gt l (k - 1)) = key (gt l k) := O.anti (by simpa using hlt.1) (by simpa using hlt.2)
      refine ⟨?_, h2, ?_⟩
      · rw [et]; exact h1.trans (List.sublist_append_left _ _)
      · intro a ha
        rw [et, List.map_append, List.mem_append] at ha
        rcases ha with ha | ha
        · exact h3 a ha
        · simp only [List.map_cons, List.map_nil, List.mem_singleton] at ha
          subst ha
          rw [← e]
          exact h3 _ (List.mem_map_of_mem hpre)
theorem ddA_set [Inhabited β] (O : OrdA lt) {l : List β} {m : List α} (hs : l.Pairwise fun x y => lt (key y) (key x) = false) (hp : ∀ a, a ∈ l.map key ↔ a ∈ m) : (ddA lt key l).map key = setA lt m := by
  obtain ⟨h1, h2, h3⟩ := ddA_spec O hs l.length (Nat.le_refl _)
  rw [List.take_length] at h1 h2 h3
  refine incA_ext O h2 (inc_setA O m) fun x => ?_
  rw [mem_setA O, ← hp]
  exact ⟨fun h => (h1.map key).subset h, h3 x⟩
end
end Go.Vc

/- Contracts: equal neighbours dropped from slices of slices, sorted lists without doubles. Conditions: none. -/
namespace Go.Vc
section
variable {P : Program} {w : World} {lo : Nat} {e : TypeId}
theorem Ow.openV {v : Value} {xs : List Value} (hs : Ow lo e w v xs) (hne : xs ≠ []) : ∃ g cap, v = .slice (some ⟨g, 0, none⟩) xs.length cap ∧ xs.length ≤ cap ∧ cap ≤ 9223372036854775807 := by
  obtain ⟨_, ⟨_, h0⟩ | ⟨g, cap, cur, hv, _, _, h1, h2, _⟩⟩ := hs
  · exact absurd (List.length_eq_zero_iff.1 h0) hne
  · exact ⟨g, cap, hv, h1, h2⟩
theorem Ow.atV {g n cap : Nat} {xs : List Value} (hs : Ow lo e w (.slice (some ⟨g, 0, none⟩) n cap) xs) (hn : xs.length = n) {j : Nat} (hj : j < n) : w.cell? ⟨g, j, none⟩ = xs[j]? := by
  have h : w.ownsRow lo e 1 (.slice (some ⟨g, 0, none⟩) n cap) n xs := by unfold Ow at hs; rw [hn] at hs; exact hs
  exact h.cellAt j (by omega)
theorem iSlTailV {g n cap k : Nat} {ki : IntKind} {K : Value → Prop} (hk : k < n) (hc : n ≤ cap) (h : K (.slice (some ⟨g, k, none⟩) (n - k) (cap - k))) : xSl 1 (.slice (some ⟨g, 0, none⟩) n cap) (some (.int ki (k : Int))) none K := by
  refine ⟨_, _, _, k, n, rfl, rfl, ⟨ki, rfl⟩, by omega, hc, ?_⟩
  rw [if_neg (by omega), Option.map_some, addr_add, Nat.zero_add, Nat.mul_one]
  exact h
theorem iSlHeadV {g n cap k : Nat} {ki : IntKind} {K : Value → Prop} (hk : k ≤ n) (hc : n ≤ cap) (h : K (.slice (some ⟨g, 0, none⟩) k cap)) : xSl 1 (.slice (some ⟨g, 0, none⟩) n cap) none (some (.int ki (k : Int))) K := by
  refine ⟨_, _, _, 0, k, rfl, ⟨ki, rfl⟩, rfl, Nat.zero_le _, by omega, ?_⟩
  have e : (if cap = 0 then some (⟨g, 0, none⟩ : Addr) else (some (⟨g, 0, none⟩ : Addr)).map (·.add (0 * 1))) = some ⟨g, 0, none⟩ := by
    split
    · rfl
    · simp [Addr.add]
  rw [e, Nat.sub_zero, Nat.sub_zero]
  exact h
theorem iClrV {t ty : TypeId} {z : Value} {bytes g n cap k : Nat} {xs : List Value} {K : Value → World → Prop} (ht : P.underlying t = some (.slice e)) (hi : (P.info? e).map (fun i => (i.zero, i.size, i.bytes)) = some (some z, 1, bytes)) (hz : isCell z = true)
    (hs : Ow lo e w (.slice (some ⟨g, 0, none⟩) n cap) xs) (hn : xs.length = n) (hk : k < n) (h : ∀ w', Ow lo e w' (.slice (some ⟨g, 0, none⟩) k cap) (xs.take k) → Ch (fun c => c = g) w w' → K (.tuple #[]) w') :
    xOp P (Builtin.clear_ #[t] ty #[.slice (some ⟨g, k, none⟩) (n - k) (cap - k)]) w K := by
  obtain ⟨i, hi, h3⟩ := Option.map_eq_some_iff.1 hi
  simp only [Prod.mk.injEq] at h3
  obtain ⟨hz0, -, -⟩ := h3
  obtain ⟨-, ⟨hv, -⟩ | ⟨g', cap', cur, hv, hg, hh, h1, h2, h3, h4⟩⟩ := hs
  · cases hv
  · injection hv with e1 e2 e3
    injection e1 with e1
    injection e1 with e1
    subst e1
    subst e3
    rw [hn] at h1 h4
    rw [Nat.mul_one] at h3 h4
    have hzc : (Builtin.zeroCells z.cells (n - k)).toList = List.replicate (n - k) z := by
      rw [isCell_cells hz]
      simp [Builtin.zeroCells]
      apply List.ext_getElem
      · simp
      · intro i h1 h2
        simp [Nat.mod_one]
    have hrun := run_storeCells_at P g k e (List.replicate (n - k) z) 0 cur w hh (by rw [List.length_replicate]; omega) (fun v hv => isCell_one (by rw [List.eq_of_mem_replicate hv]; exact hz))
    refine ⟨_, _, ?_, h (w.setRow g (cur.toList.take (k + 0) ++ List.replicate (n - k) z ++ cur.toList.drop (k + 0 + (List.replicate (n - k) z).length)).toArray) ?_ ?_⟩
    · obtain ⟨m, hm⟩ : ∃ m, n - k = m + 1 := ⟨n - k - 1, by omega⟩
      rw [hm] at hrun hzc ⊢
      simp [Builtin.clear_, run_underlying ht, zeroValue, run_info hi, hz0, hzc, hrun]
    · refine ⟨by simp, .inr ⟨g, cap, _, ?_, hg, setRow_heap w g cur _ e (0, 0) hh, by rw [List.length_take]; omega, h2, ?_, ?_⟩⟩
      · rw [List.length_take, hn, Nat.min_eq_left (by omega)]
      · simp; omega
      · rw [List.length_take, hn, Nat.min_eq_left (by omega), Nat.mul_one, Nat.add_zero, List.take_append_of_le_length (by simp; omega), List.take_append_of_le_length (by simp; omega), List.take_take, Nat.min_self, ← h4, List.take_take, Nat.min_eq_left (by omega)]
    · exact ⟨rfl, rfl, rfl, by rw [setRow_size]; exact Nat.le_refl _, fun c _ hc => setRow_other w g c _ hc⟩
end
theorem ordL : OrdA lessB where
  o := ⟨fun {a b} h => lessB_asymm a b h, fun {a b c} h k => lessB_trans a b c h k⟩
  anti := fun {a b} h k => lessB_anti a b h k
theorem ltL_ne {a b : List Int} : (lessB a b || lessB b a) = decide (¬ a = b) := by
  rw [Bool.eq_iff_iff, Bool.or_eq_true, decide_eq_true_eq]
  constructor
  · rintro (h | h) e
    · subst e; rw [lessB_irr] at h; cases h
    · subst e; rw [lessB_irr] at h; cases h
  · intro h
    rcases ordL.tot a b with h1 | h1 | h1
    · exact .inl h1
    · exact absurd h1 h
    · exact .inr h1
abbrev ddV (L : List VL) : List VL := ddA lessB Prod.snd L
theorem ddV_take {L : List VL} {i : Nat} (h0 : 1 ≤ i) (hi : i < L.length) : ddV (L.take (i + 1)) = if (gt L i).2 = (gt L (i - 1)).2 then ddV (L.take i) else ddV (L.take i) ++ [gt L i] := by
  rw [ddV, ddA_take h0 hi, ltL_ne]
  by_cases h : (gt L i).2 = (gt L (i - 1)).2
  · rw [if_pos h, if_neg (by simp [h])]
  · rw [if_neg h, if_pos (by simpa using fun e => h e.symm)]
theorem ddV_idk {L : List VL} : ∀ k, k ≤ L.length → (∀ i, 1 ≤ i → i < k → ¬ (gt L i).2 = (gt L (i - 1)).2) → ddV (L.take k) = L.take k := by
  intro k
  induction k with
  | zero => intro _ _; rfl
  | succ k ih =>
    intro hk h
    rcases Nat.eq_zero_or_pos k with h0 | h0
    · subst h0
      rw [ddV, ddA_one (by omega), List.take_succ_eq_append_getElem (by omega), gt_eq (by omega)]; rfl
    · rw [ddV_take h0 (by omega), if_neg (h k h0 (by omega)), ih (by omega) fun i h1 h2 => h i h1 (by omega), List.take_succ_eq_append_getElem (by omega), gt_eq (by omega)]
theorem ddV_id {L : List VL} (h : ∀ i, 1 ≤ i → i < L.length → ¬ (gt L i).2 = (gt L (i - 1)).2) : ddV L = L := by
  have := ddV_idk L.length (Nat.le_refl _) h
  rwa [List.take_length] at this
theorem evs_get (L : List VL) {j : Nat} (hj : j < L.length) : (evL L)[j]? = some (encV (gt L j)) := by rw [gt_eq hj]; simp [evL, hj]
theorem evs_take (L : List VL) (k : Nat) : (evL L).take k = evL (L.take k) := by simp [evL, List.map_take]
theorem RowsV.at {e : TypeId} {w : World} {L : List VL} (h : RowsV e w L) {i : Nat} (hi : i < L.length) : SlI w (encV (gt L i)) (gt L i).2 := (h _ (by rw [gt_eq hi]; exact List.getElem_mem _)).sl
end Go.Vc
namespace Go.Proofs.YtfadcafacpaldaaGreat
open Go.Vc
theorem iEqV {w : World} {x y : VL} {G : Value → World → Prop} (hx : SlI w (encV x) x.2) (hy : SlI w (encV y) y.2) (h : ∀ w', Ext w w' → G (.bool (decide (x.2 = y.2))) w') : ∀ w1, Ext w w1 → callV Tryz.prog (.func (.func f_slices_Equal_Si64_i64) #[] #[]) [encV x, encV y] w1 fun r w2 => ∀ w3, Ext w2 w3 → G r w3 :=
  fun _ x1 => iRet (ok_slices_Equal_Si64_i64 (hx.ext x1) (hy.ext x1)) fun _ x2 _ x3 => h _ ((x1.trans x2).trans x3)
theorem iNeV {w : World} {x y : VL} {G : Value → World → Prop} (hx : SlI w (encV x) x.2) (hy : SlI w (encV y) y.2) (h : ∀ w', Ext w w' → G (.bool (decide (¬ x.2 = y.2))) w') : ∀ w1, Ext w w1 → callV Tryz.prog (.func (.func f_slices_Equal_Si64_i64) #[] #[]) [encV x, encV y] w1 fun r w2 => xNot r fun c => ∀ w3, Ext w2 w3 → G c w3 :=
  fun _ x1 => iRet (ok_slices_Equal_Si64_i64 (hx.ext x1) (hy.ext x1)) fun _ x2 => iNot fun _ x3 => by
    have := h _ ((x1.trans x2).trans x3)
    rwa [decide_not] at this
theorem ok_slices_CompactFunc_SSi64_Si64 {lo : Nat} {w : World} {v : Value} {L : List VL} (hs : Ow lo t_Si64 w v (evL L)) (hrw : RowsV t_i64 w L) (hL : L.length ≤ 1152921504606846976) :
    Cal Tryz.prog f_slices_CompactFunc_SSi64_Si64 #[v, .func (.func f_slices_Equal_Si64_i64) #[] #[]] w fun r w' => Ow lo t_Si64 w' r (evL (ddV L)) ∧ Ch (fun c => v.ownBlock = some c) w w' ∧ r.ownBlock = v.ownBlock := by
  apply c_slices_CompactFunc_SSi64_Si64; unfold S_slices_CompactFunc_SSi64_Si64
  refine iLenS hs.sl ?_
  rw [evs_len]
  refine iLt ?_
  refine iCndP (fun h => ?_) (fun h => ?_)
  · rw [ddV_id (fun i h1 h2 => by omega)]
    exact ⟨hs, (Ext.refl w).ch, by first | trivial | rfl⟩
  obtain ⟨g, cap, hv, hcap, hcm⟩ := hs.openV (by intro e; have := evs_len L; rw [e] at this; simp at this; omega)
  rw [evs_len] at hv hcap
  refine iLp (fun k : Nat => [.int .i64 (k : Int)]) (fun k w' => 1 ≤ k ∧ k ≤ L.length ∧ Ext w w' ∧ ∀ i, 1 ≤ i → i < k → ¬ (gt L i).2 = (gt L (i - 1)).2) (fun k => L.length - k) 1 rfl ⟨Nat.le_refl _, by omega, Ext.refl _, fun i h1 h2 => by omega⟩ ?_
  rintro k w2 Kn ⟨hk1, hkn, h2, hne⟩ hKn
  have hs2 := hs.ext h2
  intro _
  simp only [gx]
  refine iLenS hs2.sl ?_
  rw [evs_len]
  refine iLt ?_
  refine iCndP (fun h3 => ?_) (fun h3 => ?_)
  rotate_left
  · rw [ddV_id (fun i h1 h2 => hne i h1 (by omega))]
    exact ⟨hs2, h2.ch, by first | trivial | rfl⟩
  refine iRdO (j := k) hs2 rfl (by omega) ?_
  refine iSub (by omega) ?_
  refine iRdO (j := k - 1) hs2 (by omega) (by omega) ?_
  have hr2 := hrw.ext h2
  refine iEqV (hr2.at (by omega)) (hr2.at (by omega)) fun w3 h23 => ?_
  have hs3 := hs2.ext h23
  refine iCndP (fun h4 => ?_) (fun h4 => ?_)
  rotate_left
  · refine iAdd (by omega) ?_
    refine hKn (k + 1) _ ⟨by omega, by omega, h2.trans h23, fun i h1 h5 => ?_⟩ (by omega)
    by_cases hi : i = k
    · subst hi; exact h4
    · exact hne i h1 (by omega)
  subst hv
  refine iSlTailV (k := k) (by omega) hcap ?_
  refine iLp (fun s : Nat × Nat => [.int .i64 (s.1 : Int), .int .i64 (s.2 : Int)]) (fun s w' => k ≤ s.1 ∧ s.1 + 1 ≤ k + s.2 ∧ k + s.2 ≤ L.length ∧ ∃ M, Turn lo t_Si64 encV (.slice (some ⟨g, 0, none⟩) L.length cap) w w' M ∧ M.length = L.length ∧ M.take s.1 = ddV (L.take (k + s.2)) ∧ ∀ j, k + s.2 ≤ j + 1 → gt M j = gt L j) (fun s => L.length - s.2) (k, 1) rfl
    ⟨Nat.le_refl _, Nat.le_refl _, by show k + 1 ≤ L.length; omega, L, ⟨hs3, (h2.trans h23).ch⟩, rfl, by show L.take k = ddV (L.take (k + 1)); rw [ddV_take hk1 (by omega), if_pos h4, ddV_idk k (by omega) hne], fun _ _ => rfl⟩ ?_
  rintro ⟨kk, k2⟩ w5 Kn5 ⟨hkk, hkk2, hk2, M, ht, hM, hMt, hMe⟩ hKn5
  have hkk : k ≤ kk := hkk
  have hkk2 : kk + 1 ≤ k + k2 := hkk2
  have hk2 : k + k2 ≤ L.length := hk2
  have hMt : M.take kk = ddV (L.take (k + k2)) := hMt
  have hMe : ∀ j, k + k2 ≤ j + 1 → gt M j = gt L j := hMe
  intro _
  simp only [gx]
  refine iLenL ?_
  refine iLt ?_
  refine iCndP (fun h5 => ?_) (fun h5 => ?_)
  · refine iIaL (j := k2) (by omega) ?_
    refine iLd (ht.ow.atV (by rw [List.length_map]; exact hM) (j := k + k2) (by omega) |>.trans (evs_get M (by omega))) ?_
    refine iSub (by omega) ?_
    rw [show (k2 : Int) - 1 = ((k2 - 1 : Nat) : Int) by omega]
    refine iIaL (j := k2 - 1) (by omega) ?_
    refine iLd (ht.ow.atV (by rw [List.length_map]; exact hM) (j := k + (k2 - 1)) (by omega) |>.trans (evs_get M (by omega))) ?_
    have e1 := hMe (k + k2) (by omega)
    have e2 := hMe (k + (k2 - 1)) (by omega)
    have hr5 : RowsV t_i64 w5 L := fun y hy => (hrw y hy).ch ht.ch fun c hc hc' => (hrw y hy).ne_ow hs (by decide) hc hc'
    refine iNeV (by rw [e1]; exact hr5.at (by omega)) (by rw [e2]; exact hr5.at (by omega)) fun w6 h56 => ?_
    have ht6 := ht.ext h56
    have edd := ddV_take (L := L) (i := k + k2) (by omega) (by omega)
    rw [← e1, show k + k2 - 1 = k + (k2 - 1) by omega, ← e2] at edd
    refine iCndP (fun h6 => ?_) (fun h6 => ?_)
    · rw [if_neg h6, ← hMt] at edd
      refine iIaL (j := k2) (by omega) ?_
      refine iLd (ht6.ow.atV (by rw [List.length_map]; exact hM) (j := k + k2) (by omega) |>.trans (evs_get M (by omega))) ?_
      refine iIaOw ht6.ow (by omega) (by rw [List.length_map]; omega) fun b o hb _ _ hc hf hset => ?_
      refine iSt (hc.trans (List.getElem?_eq_getElem (by rw [List.length_map]; omega))) hf (encV_cell _) ?_
      have hset := hset (encV (gt M (k + k2)))
      rw [Int.toNat_natCast, ← List.map_set] at hset
      refine iAdd (by omega) ?_
      refine iAdd (by omega) ?_
      refine hKn5 (kk + 1, k2 + 1) _ ⟨by show k ≤ kk + 1; omega, by show kk + 1 + 1 ≤ k + (k2 + 1); omega, by show k + (k2 + 1) ≤ L.length; omega, M.set kk (gt M (k + k2)), ⟨hset, ht6.ch.trans ((Upd.setCell w6 b o _).ch (S := fun c => Value.ownBlock (.slice (some ⟨g, 0, none⟩) L.length cap) = some c) hb) fun _ e => .inl e⟩, by rw [List.length_set]; exact hM, ?_, fun j hj => ?_⟩ (by show L.length - (k2 + 1) < L.length - k2; omega)
      · show (M.set kk (gt M (k + k2))).take (kk + 1) = ddV (L.take (k + (k2 + 1)))
        rw [show k + (k2 + 1) = k + k2 + 1 by omega, edd, List.take_succ_eq_append_getElem (by rw [List.length_set]; omega), List.getElem_set_self, List.take_set_of_le (Nat.le_refl _)]
      · have hj : k + (k2 + 1) ≤ j + 1 := hj
        rw [gt_set _ (by omega), if_neg (by omega)]
        exact hMe j (by omega)
    · rw [if_pos (Classical.not_not.1 h6), ← hMt] at edd
      refine iAdd (by omega) ?_
      exact hKn5 (kk, k2 + 1) _ ⟨hkk, by show kk + 1 ≤ k + (k2 + 1); omega, by show k + (k2 + 1) ≤ L.length; omega, M, ht6, hM, edd.symm, fun j hj => hMe j (by have hj : k + (k2 + 1) ≤ j + 1 := hj; omega)⟩ (by show L.length - (k2 + 1) < L.length - k2; omega)
  · have hend : k + k2 = L.length := by omega
    rw [hend, List.take_length] at hMt
    refine iSlTailV (k := kk) (by omega) hcap ?_
    refine iClrV u_SSi64 i_SSi64 rfl ht.ow (by rw [List.length_map]; exact hM) (by omega) fun w8 h8 hc8 => ?_
    refine iSlHeadV (k := kk) (by omega) hcap ?_
    rw [show (List.map encV M).take kk = evL (M.take kk) from evs_take M kk, hMt] at h8
    exact ⟨h8, ht.ch.trans hc8 fun c hc => .inl (by rw [hc]; rfl), rfl⟩
theorem ok_impl_sortedLists {lo : Nat} {w : World} {v : Value} {L : List VL} (hs : Ow lo t_Si64 w v (evL L)) (hrw : RowsV t_i64 w L) (hL : L.length ≤ 1152921504606846976) :
    Cal Tryz.prog f_impl_sortedLists #[v] w fun r w' => ∃ M : List VL, Ow lo t_Si64 w' r (evL M) ∧ Ch (fun c => v.ownBlock = some c) w w' ∧ M.map Prod.snd = setA lessB (L.map Prod.snd) ∧ (∃ L', List.Perm L' L ∧ List.Sublist M L') := by
  apply c_impl_sortedLists; unfold S_impl_sortedLists
  refine iCall ((ok_slices_SortFunc_SSi64_Si64 hs hrw hL).mono ?_)
  rintro _ w1 ⟨L', ho, hch, hp, hpw⟩
  have hr1 : RowsV t_i64 w1 L' := fun y hy => (hrw y (hp.mem_iff.1 hy)).ch hch fun c hc hc' => (hrw y (hp.mem_iff.1 hy)).ne_ow hs (by decide) hc hc'
  refine iCall ((ok_slices_CompactFunc_SSi64_Si64 ho hr1 (by rw [hp.length_eq]; exact hL)).mono ?_)
  rintro r w2 ⟨h1, h2, h3⟩
  have hsp := (ddA_spec (key := Prod.snd) ordL hpw L'.length (Nat.le_refl _)).1
  rw [List.take_length] at hsp
  exact ⟨_, h1, hch.trans h2 fun c hc => .inl hc, ddA_set ordL hpw (fun a => (hp.map Prod.snd).mem_iff), L', hp, hsp⟩
end Go.Proofs.YtfadcafacpaldaaGreat

/- Contracts: rows of rows in order without doubles, in the reference. Conditions: none. -/
namespace Go.Vc
section
universe u
variable {α : Type u} {enc : α → Value} {w : World}
theorem iRdS [Inhabited α] {v : Value} {L : List α} {j : Nat} {k : IntKind} {K : Value → Prop} (hs : Sl w v (L.map enc)) (hj : j < L.length) (h : K (enc (gt L j))) : xIa 1 v (.int k (j : Int)) fun p => xLd w p K :=
  iIaV hs (by rw [List.length_map]; exact hj) fun p hc => iLd hc (by rw [List.getElem_map, ← gt_eq hj]; exact h)
end
end Go.Vc
namespace Go.Proofs.YtfadcafacpaldaaGreat
open Go.Vc
theorem ok_spec_l01Same {va vb : Value} {w : World} {a b : List Int} (ha : SlI w va a) (hb : SlI w vb b) : Ret Tryz.prog f_spec_l01Same #[va, vb] w (.bool (decide (a = b))) := by
  apply c_spec_l01Same; unfold S_spec_l01Same
  have hal := ha.len
  have hbl := hb.len
  ((with_reducible refine iLenI (by assumption) ?_; refine iLenI (by assumption) ?_; refine iNe ?_))
  refine iCndP (fun h => ?_) (fun h => ?_)
  · rw [decide_eq_false (fun e => h (by rw [e]))]
    exact ⟨rfl, Ext.refl _⟩
  have hlen : a.length = b.length := by omega
  refine iLp (fun k : Nat => [.int .i64 (k : Int)]) (fun k w' => k ≤ a.length ∧ Ext w w' ∧ ∀ i, i < k → a[i]? = b[i]?) (fun k => a.length - k) 0 rfl ⟨Nat.zero_le _, Ext.refl _, fun i hi => by omega⟩ ?_
  rintro k w2 Kn ⟨hka, h2, heq⟩ hKn
  have ha2 := ha.ext h2
  have hb2 := hb.ext h2
  (intro _; (try simp only [gx]); (with_reducible refine iLenI (by assumption) ?_; refine iLt ?_))
  refine iCndP (fun h5 => ?_) (fun h5 => ?_)
  · have h5a : k < a.length := by omega
    have h5b : k < b.length := by omega
    have ea : a.getD k 0 = a[k] := by simp [List.getD_eq_getElem?_getD, h5a]
    have eb : b.getD k 0 = b[k] := by simp [List.getD_eq_getElem?_getD, h5b]
    ((with_reducible refine iIaN (by assumption) ?_ (fun pa_ hpa_ => ?_)); omega; (with_reducible refine iLd (by assumption) ?_); (with_reducible refine iIaN (by assumption) ?_ (fun pa_ hpa_ => ?_)); omega; (with_reducible refine iLd (by assumption) ?_; refine iNe ?_))
    rw [ea, eb]
    intro w3 h3
    refine iCndP (fun h7 => ?_) (fun h7 => ?_)
    · rw [decide_eq_false (fun e => h7 (by subst e; rfl))]
      exact ⟨rfl, h2.trans h3⟩
    · (refine iAdd (by omega) ?_)
      refine hKn (k + 1) _ ⟨by omega, h2.trans h3, fun i hi => ?_⟩ (by omega)
      by_cases hik : i = k
      · subst hik
        rw [List.getElem?_eq_getElem h5a, List.getElem?_eq_getElem h5b, Classical.not_not.1 h7]
      · exact heq i (by omega)
  · rw [decide_eq_true (List.ext_getElem? fun i => ?_)]
    · exact ⟨rfl, h2⟩
    rcases Nat.lt_or_ge i k with h | h
    · exact heq i h
    · rw [List.getElem?_eq_none (by omega), List.getElem?_eq_none (by omega)]
theorem ok_spec_l04Sorted {w : World} {v : Value} {P : List VL} (hv : Sl w v (P.map Prod.fst)) (hP : ∀ p ∈ P, SlI w p.1 p.2) (hPl : ∀ p ∈ P, p.2.length ≤ 1000000) (hlen : P.length ≤ 1000000) :
    Cal Tryz.prog f_spec_l04Sorted #[v] w fun r w' => Ext w w' ∧ RdLL w.heap.size w' r (setA lessB (P.map Prod.snd)) := by
  apply c_spec_l04Sorted; unfold S_spec_l04Sorted
  refine iBs0 fun u0 w1 _ h1 hu0 => ?_
  refine iLp (fun s : Nat × Value => [s.2, .int .i64 (s.1 : Int)]) (fun s w' => s.1 ≤ P.length ∧ Ext w w' ∧ ∃ Q : List VL, Ow w.heap.size t_Si64 w' s.2 (Q.map Prod.fst) ∧ OwP w.heap.size t_i64 w' Q ∧ Q.map Prod.snd = setA lessB ((P.map Prod.snd).take s.1)) (fun s => P.length - s.1) (0, u0) rfl ⟨Nat.zero_le _, h1, [], hu0, ⟨fun p hp => (by cases hp), List.Pairwise.nil⟩, rfl⟩ ?_
  rintro ⟨i, u⟩ w2 Kn ⟨hi, h2, Q, ho, hQ, hQs⟩ hKn
  have hi : i ≤ P.length := hi
  have h2 : Ext w w2 := h2
  have ho : Ow w.heap.size t_Si64 w2 u (Q.map Prod.fst) := ho
  have hQs : Q.map Prod.snd = setA lessB ((P.map Prod.snd).take i) := hQs
  have hQl : Q.length ≤ i := by
    have e := congrArg List.length hQs
    rw [List.length_map] at e
    have := setA_len (lt := lessB) ((P.map Prod.snd).take i)
    rw [List.length_take] at this
    omega
  have hv2 := hv.ext h2
  intro _
  simp only [gx]
  refine iLenS hv2 ?_
  rw [List.length_map]
  refine iLt ?_
  refine iCndP (fun h3 => ?_) (fun h3 => ?_)
  rotate_left
  · obtain rfl : i = P.length := by omega
    rw [List.take_of_length_le (by simp)] at hQs
    exact ⟨h2, Q.map Prod.fst, ho, by rw [← hQs]; exact hQ.to⟩
  have hi1 : i < P.length := by omega
  have hxm : gt P i ∈ P := by rw [gt_eq hi1]; exact List.getElem_mem _
  have etk : (P.map Prod.snd).take (i + 1) = (P.map Prod.snd).take i ++ [(gt P i).2] := by
    rw [List.take_succ_eq_append_getElem (by simpa using hi1), List.getElem_map, gt_eq hi1]
  have hset : setA lessB ((P.map Prod.snd).take (i + 1)) = insA lessB (gt P i).2 (Q.map Prod.snd) := by rw [etk, setA_snoc, ← hQs]
  generalize hx : (gt P i).2 = x at *
  have hxw : SlI w (gt P i).1 x := by rw [← hx]; exact hP _ hxm
  have hxl : x.length ≤ 1000000 := by rw [← hx]; exact hPl _ hxm
  have hgq : ∀ k, k < Q.length → gt (Q.map Prod.snd) k = (gt Q k).2 := fun k hk => by
    rw [gt_eq (by simpa using hk), gt_eq hk, List.getElem_map]
  have hqs : ∀ {w'}, Ext w2 w' → ∀ k, k < Q.length → SlI w' (gt Q k).1 (gt Q k).2 := fun h k hk => ((hQ.1 _ (by rw [gt_eq hk]; exact List.getElem_mem _)).ext h).sl
  refine iLp (fun k : Nat => [.int .i64 (k : Int)]) (fun k w' => k ≤ Q.length ∧ Ext w2 w' ∧ ∀ j, j < k → lessB (gt (Q.map Prod.snd) j) x = true) (fun k => Q.length - k) 0 rfl ⟨Nat.zero_le _, Ext.refl _, fun j hj => by omega⟩ ?_
  rintro k w3 Kn3 ⟨hk, h23, hlt⟩ hKn3
  have ho3 := ho.ext h23
  have hv3 := hv2.ext h23
  intro _
  simp only [gx]
  refine iJnB (decide (k < Q.length) && lessB (gt Q k).2 x) w3 (fun J hJ => ?_) (fun w4 h4 => ?_)
  · refine iLenS ho3.sl ?_
    rw [List.length_map]
    refine iLt ?_
    refine iCndP (fun h => ?_) (fun h => ?_)
    · rw [decide_eq_true (show k < Q.length by omega), Bool.true_and] at hJ
      refine iRdO (j := k) ho3 rfl (by omega) ?_
      refine iRdS (j := i) hv3 hi1 ?_
      refine iRetQ (fun w' h' => ok_spec_l01Less (hqs (h23.trans h') k (by omega)) (((hxw.ext h2).ext h23).ext h')) ?_
      exact hJ
    · rw [decide_eq_false (show ¬ k < Q.length by omega), Bool.false_and] at hJ
      exact hJ
  intro _
  simp only [gx]
  have ho4 := ho3.ext h4
  have hv4 := hv3.ext h4
  have h24 := h23.trans h4
  cases hc : decide (k < Q.length) && lessB (gt Q k).2 x
  rotate_left
  · rw [Bool.and_eq_true, decide_eq_true_eq] at hc
    refine iCndT rfl ?_
    refine iAdd (by omega) ?_
    refine hKn3 (k + 1) _ ⟨by omega, h24, fun j hj => ?_⟩ (by omega)
    by_cases hjk : j = k
    · subst hjk; rw [hgq j hc.1]; exact hc.2
    · exact hlt j (by omega)
  refine iCndF rfl ?_
  have hsp := insA_split (t := x) (l := Q.map Prod.snd) (k := k) (by simpa using hk) hlt
  refine iJnB (decide (k < Q.length) && decide ((gt Q k).2 = x)) w4 (fun J hJ => ?_) (fun w6 h6 => ?_)
  · refine iLenS ho4.sl ?_
    rw [List.length_map]
    refine iLt ?_
    refine iCndP (fun h => ?_) (fun h => ?_)
    · rw [decide_eq_true (show k < Q.length by omega), Bool.true_and] at hJ
      refine iRdO (j := k) ho4 rfl (by omega) ?_
      refine iRdS (j := i) hv4 hi1 ?_
      refine iRetQ (fun w' h' => ok_spec_l01Same (hqs (h24.trans h') k (by omega)) (((hxw.ext h2).ext h24).ext h')) ?_
      exact hJ
    · rw [decide_eq_false (show ¬ k < Q.length by omega), Bool.false_and] at hJ
      exact hJ
  intro _
  simp only [gx]
  have ho6 := ho4.ext h6
  have hv6 := hv4.ext h6
  have h26 := h24.trans h6
  have hX6 := h2.trans h26
  have hQ6 := hQ.ext h26
  cases hc2 : decide (k < Q.length) && decide ((gt Q k).2 = x)
  rotate_left
  · rw [Bool.and_eq_true, decide_eq_true_eq, decide_eq_true_eq] at hc2
    refine iCndT rfl ?_
    refine iAdd (by omega) ?_
    refine hKn (i + 1, u) _ ⟨by show i + 1 ≤ P.length; omega, hX6, Q, ho6, hQ6, ?_⟩ (by show P.length - (i + 1) < P.length - i; omega)
    show Q.map Prod.snd = setA lessB ((P.map Prod.snd).take (i + 1))
    have hkm : k < (Q.map Prod.snd).length := by simpa using hc2.1
    have hgk : (Q.map Prod.snd)[k] = x := by rw [← gt_eq hkm, hgq k hc2.1]; exact hc2.2
    rw [hset, hsp, List.drop_eq_getElem_cons hkm, hgk, insA, lessB_irr, if_neg (by decide), if_neg (by decide)]
    have := List.take_append_drop k (Q.map Prod.snd)
    rw [List.drop_eq_getElem_cons hkm, hgk] at this
    exact this.symm
  · refine iCndF rfl ?_
    have hres : insA lessB x (Q.map Prod.snd) = (Q.map Prod.snd).take k ++ [x] ++ (Q.map Prod.snd).drop k := by
      rw [hsp]
      rcases Nat.lt_or_ge k Q.length with h | h
      · rw [decide_eq_true h, Bool.true_and] at hc hc2
        have hkm : k < (Q.map Prod.snd).length := by simpa using h
        have hgk : (Q.map Prod.snd)[k] = (gt Q k).2 := by rw [← gt_eq hkm, hgq k h]
        rw [List.drop_eq_getElem_cons hkm, hgk, insA, hc, if_neg (by decide)]
        rcases ordL.tot (gt Q k).2 x with h' | h' | h'
        · rw [hc] at h'; cases h'
        · exact absurd h' (of_decide_eq_false hc2)
        · rw [if_pos h']; simp
      · rw [List.drop_of_length_le (by simpa using h)]; simp [insA]
    have hcell : ∀ y ∈ Q.map Prod.fst, isCell y = true := fun y hy => by
      obtain ⟨p, hp, rfl⟩ := List.mem_map.1 hy
      exact (hQ.1 p hp).cell
    have hml : (Q.map Prod.fst).length = Q.length := List.length_map _
    refine iBs0 fun v7 w7 hw7 h7 ho7 => ?_
    have ho67 := ho6.ext h7
    refine iSlTo ho67.sl (by rw [hml]; exact hk) fun y hy => ?_
    refine iAppA u_SSi64 i_SSi64 rfl ho7 hy (fun z hz => hcell z (List.mem_of_mem_take hz)) (by rw [List.length_take, List.length_nil]; omega) (by rw [List.length_take, List.length_nil]; omega) (by omega) fun v8 w8 ho8 hg8 _ => ?_
    have hX8 := h7.grown hg8 fun b hb => (ho7.blk b hb).1
    have hX8' := hX6.trans hX8
    refine iRdS (j := i) (hv6.ext hX8) hi1 ?_
    refine iCall ((ok_spec_l01Own (hxw.ext hX8') (by omega)).mono ?_)
    rintro nr w9 ⟨h9, hnr⟩
    have ho9 := ho8.ext h9
    have hX9 := hX8.trans h9
    have hll : ([] ++ List.take k (Q.map Prod.fst)).length = k := by simp; omega
    refine iApp1A u_SSi64 i_SSi64 rfl ho9 hnr.cell (by rw [hll]; omega) (by rw [hll]; omega) (by have := hX9.size; omega) fun v10 w10 ho10 hg10 _ => ?_
    have hX10 := hX9.grown hg10 fun b hb => (ho9.blk b hb).1
    have ho610 := ho6.ext hX10
    have hnr10 := hnr.ch (grown_ch (S := fun c => v8.ownBlock = some c) hg10 fun c hc => hc) fun c hc he => hnr.ne_ow ho9 (by decide) hc he
    refine iSlFrom ho610.sl (by rw [hml]; exact hk) fun y' hy' => ?_
    have hll2 : (([] ++ List.take k (Q.map Prod.fst)) ++ [nr]).length = k + 1 := by rw [List.length_append, hll]; rfl
    refine iAppA u_SSi64 i_SSi64 rfl ho10 hy' (fun z hz => hcell z (List.mem_of_mem_drop hz)) (by rw [hll2, List.length_drop, hml]; omega) (by rw [hll2, List.length_drop, hml]; omega) (by have := hX10.size; omega) fun v11 w11 ho11 hg11 _ => ?_
    have hX11 := hX10.grown hg11 fun b hb => (ho10.blk b hb).1
    have hnr11 := hnr10.ch (grown_ch (S := fun c => v10.ownBlock = some c) hg11 fun c hc => hc) fun c hc he => hnr10.ne_ow ho10 (by decide) hc he
    refine iAdd (by omega) ?_
    have hlo6 := hX6.size
    have hQ11 := hQ6.ext hX11
    refine hKn (i + 1, v11) _ ⟨by show i + 1 ≤ P.length; omega, hX6.trans hX11, Q.take k ++ (nr, x) :: Q.drop k, ?_, ?_, ?_⟩ (by show P.length - (i + 1) < P.length - i; omega)
    · have e : (Q.take k ++ (nr, x) :: Q.drop k).map Prod.fst = [] ++ List.take k (Q.map Prod.fst) ++ [nr] ++ List.drop k (Q.map Prod.fst) := by
        rw [List.map_append, List.map_cons, List.map_take, List.map_drop]; simp
      show Ow _ _ _ v11 _
      rw [e]
      exact ho11.mono hlo6
    · refine OwP.perm (P := (nr, x) :: Q) ⟨fun p hp => ?_, List.pairwise_cons.2 ⟨fun p hp c hc hc' => ?_, hQ11.2⟩⟩ ?_
      · rcases List.mem_cons.1 hp with rfl | hp
        · exact hnr11.mono (by have := hX8.size; omega)
        · exact hQ11.1 p hp
      · have a1 := (hnr.blk c hc).1
        have a2 := ((hQ6.1 p hp).blk c hc').2
        have := hX8.size
        omega
      · have := (List.perm_middle (a := (nr, x)) (l₁ := Q.take k) (l₂ := Q.drop k)).symm
        rwa [List.take_append_drop] at this
    · show (Q.take k ++ (nr, x) :: Q.drop k).map Prod.snd = setA lessB ((P.map Prod.snd).take (i + 1))
      rw [hset, hres, List.map_append, List.map_cons, List.map_take, List.map_drop]; simp
end Go.Proofs.YtfadcafacpaldaaGreat

/- Plain facts on duals of maps: they tell the maps apart; as many as the maps. No program in sight. Conditions: none. -/
namespace Go.Vc
/-- Which of the first k elements go into a mask. -/
def pullK (im : List Nat) (mask k : Nat) : Nat := setOf ((List.range k).filter fun x => mask.testBit (im.getD x 0))
def pullN (im : List Nat) (mask : Nat) : Nat := pullK im mask im.length
theorem pullK_succ (im : List Nat) (mask k : Nat) : pullK im mask (k + 1) = if mask.testBit (im.getD k 0) then pullK im mask k ||| 2 ^ k else pullK im mask k := by
  unfold pullK
  rw [List.range_succ, List.filter_append]
  cases h : mask.testBit (im.getD k 0)
  · simp only [List.filter_cons, List.filter_nil, h]
    simp
  · simp only [List.filter_cons, List.filter_nil, h, if_true]
    rw [setOf_snoc]
theorem pullK_lt (im : List Nat) (mask k : Nat) : pullK im mask k < 2 ^ k := setOf_lt fun _ hy => List.mem_range.1 (List.mem_filter.1 hy).1
theorem pullN_testBit (im : List Nat) (mask x : Nat) (hx : x < im.length) : (pullN im mask).testBit x = mask.testBit (im.getD x 0) := by
  unfold pullN pullK
  rw [setOf_testBit, List.contains_eq_mem, Bool.eq_iff_iff, decide_eq_true_eq, List.mem_filter, List.mem_range]
  exact ⟨fun h => h.2, fun h => ⟨hx, h⟩⟩
/-- The dual of a map into n elements. -/
def dualK (im : List Nat) (k : Nat) : List Nat := (List.range k).map (pullN im)
def dualN (n : Nat) (im : List Nat) : List Nat := dualK im (2 ^ n)
theorem dualK_succ (im : List Nat) (k : Nat) : dualK im (k + 1) = dualK im k ++ [pullN im k] := by simp [dualK, List.range_succ]
theorem dualK_len (im : List Nat) (k : Nat) : (dualK im k).length = k := by simp [dualK]
theorem dualN_inj {n : Nat} {im im' : List Nat} (hl : im.length = im'.length) (h : ∀ y ∈ im, y < n) (e : dualN n im = dualN n im') : im = im' := by
  refine List.ext_getElem hl fun x h1 h2 => ?_
  have hy : im[x] < n := h _ (List.getElem_mem h1)
  have hp : 2 ^ im[x] < 2 ^ n := Nat.pow_lt_pow_right (by omega) hy
  have e1 : pullN im (2 ^ im[x]) = pullN im' (2 ^ im[x]) := by
    have := congrArg (fun l : List Nat => l[2 ^ im[x]]?) e
    simpa [dualN, dualK, hp] using this
  have e2 := congrArg (fun m : Nat => m.testBit x) e1
  simp only [pullN_testBit _ _ _ h1, pullN_testBit _ _ _ h2] at e2
  have g1 : im.getD x 0 = im[x] := by simp [List.getD_eq_getElem?_getD, h1]
  have g2 : im'.getD x 0 = im'[x] := by simp [List.getD_eq_getElem?_getD, h2]
  rw [g1, g2, Nat.testBit_two_pow_self] at e2
  rw [Nat.testBit_two_pow] at e2
  exact of_decide_eq_true e2.symm
section
variable {α : Type} {lt : α → α → Bool}
theorem insA_new {t : α} (O : OrdA lt) : ∀ {l : List α}, t ∉ l → (insA lt t l).length = l.length + 1
  | [], _ => by simp [insA]
  | x :: l, h => by
    rw [List.mem_cons, not_or] at h
    unfold insA
    split
    · simp [insA_new O h.2]
    · rename_i h1
      split
      · simp
      · rename_i h2
        exact absurd (O.anti (by simpa using h1) (by simpa using h2)).symm h.1
theorem setA_new (O : OrdA lt) {l : List α} (h : l.Nodup) : (setA lt l).length = l.length := by
  suffices H : ∀ k, k ≤ l.length → (setA lt (l.take k)).length = k by
    have := H l.length (Nat.le_refl _)
    rwa [List.take_length] at this
  intro k
  induction k with
  | zero => intro _; rfl
  | succ k ih =>
    intro hk
    have hk' : k < l.length := by omega
    rw [List.take_succ_eq_append_getElem hk', setA_snoc, insA_new O, ih (by omega)]
    rw [mem_setA O, List.mem_take_iff_getElem]
    rintro ⟨i, hi, he⟩
    have := (List.nodup_iff_pairwise_ne.1 h)
    have := (List.pairwise_iff_getElem.1 this) i k (by omega) hk' (by omega)
    exact this he
end
theorem ints_inj : ∀ {a b : List Nat}, nats a = nats b → a = b
  | [], [], _ => rfl
  | [], y :: b, h => by simp [nats] at h
  | x :: a, [], h => by simp [nats] at h
  | x :: a, y :: b, h => by
    simp only [nats, List.map_cons, List.cons.injEq] at h
    rw [ints_inj (a := a) (b := b) h.2, Int.ofNat.inj h.1]
/-- The duals of maps, in order. -/
def homL (n : Nat) (L : List (List Nat)) : List (List Int) := setA lessB (L.map fun im => nats (dualN n im))
theorem homL_len {n d : Nat} {L : List (List Nat)} (hn : L.Nodup) (h : ∀ im ∈ L, im.length = d ∧ ∀ y ∈ im, y < n) : (homL n L).length = L.length := by
  have ord : OrdA lessB := ⟨⟨fun {a b} h => lessB_asymm a b h, fun {a b c} h k => lessB_trans a b c h k⟩, fun {a b} h k => lessB_anti a b h k⟩
  unfold homL
  rw [setA_new ord, List.length_map]
  rw [List.nodup_iff_pairwise_ne, List.pairwise_map]
  refine List.Pairwise.imp_of_mem ?_ (List.nodup_iff_pairwise_ne.1 hn)
  intro a b ha hb hne e
  exact hne (dualN_inj ((h a ha).1.trans (h b hb).1.symm) (h a ha).2 (ints_inj e))
theorem homL_take {n d : Nat} {L : List (List Nat)} (hn : L.Nodup) (h : ∀ im ∈ L, im.length = d ∧ ∀ y ∈ im, y < n) :
    (if 200 < (homL n (L.take 201)).length then (([], 3) : List (List Int) × Int) else (homL n (L.take 201), 0)) = if 200 < (homL n L).length then ([], 3) else (homL n L, 0) := by
  rw [homL_len hn h, homL_len (d := d) (hn.sublist (List.take_sublist _ _)) fun im hi => h im (List.mem_of_mem_take hi), List.length_take]
  by_cases hl : 200 < L.length
  · rw [if_pos hl, if_pos (by omega)]
  · rw [if_neg hl, if_neg (by omega), List.take_of_length_le (by omega)]
end Go.Vc

/- Contracts: the frame of an algebra in the program; isomorphic algebras. Conditions: none. -/
namespace Go.Proofs.YtfadcafacpaldaaGreat
open Go.Vc
/-- The masks while world w is under way with seen world v. -/
def algRow (a : List Nat) (m v w : Nat) : List Nat := (List.range m).map fun x => algMask a m x (if x < w then v + 1 else v)
theorem algRow_zero (a : List Nat) (m v : Nat) : algRow a m v 0 = (List.range m).map fun x => algMask a m x v := by
  unfold algRow
  exact List.map_congr_left fun x _ => by rw [if_neg (by omega)]
theorem algRow_full (a : List Nat) (m v : Nat) : algRow a m v m = algRow a m (v + 1) 0 := by
  rw [algRow_zero]
  unfold algRow
  exact List.map_congr_left fun x hx => by rw [if_pos (List.mem_range.1 hx)]
theorem algRow_get (a : List Nat) (m v w : Nat) (hw : w < m) : (algRow a m v w)[w]'(by simp [algRow]; exact hw) = algMask a m w v := by
  simp [algRow]
theorem algRow_step (a : List Nat) (m v w : Nat) (_hw : w < m) : (algRow a m v w).set w (algMask a m w (v + 1)) = algRow a m v (w + 1) := by
  apply List.ext_getElem
  · simp [algRow]
  · intro i h1 h2
    have hi : i < m := by simpa [algRow] using h2
    rw [List.getElem_set]
    split
    · rename_i h; subst h; simp [algRow]
    · rename_i h
      simp only [algRow, List.getElem_map, List.getElem_range]
      congr 1
      split <;> split <;> omega
theorem algRow_same (a : List Nat) (m v w : Nat) (hw : w < m) (h : algMask a m w (v + 1) = algMask a m w v) : algRow a m v (w + 1) = algRow a m v w := by
  rw [← algRow_step a m v w hw, h]
  apply List.ext_getElem
  · simp
  · intro i h1 h2
    rw [List.getElem_set]
    split
    · rename_i h; subst h; exact (algRow_get a m v w hw).symm
    · rfl
theorem ok_impl_ModalAlgebra_frameO {v : Value} {w : World} {a : List Nat} {m : Nat} (hs : SlN w v a) (hm5 : m ≤ 5) (hal : a.length = 2 ^ m) (hlt : ∀ x ∈ a, x < 2 ^ m) : Cal Tryz.prog f_impl_ModalAlgebra_frame #[.agg #[.int .i64 (m : Int), v]] w fun r w' => Ext w w' ∧ ∃ v', r = .agg #[.int .i64 (m : Int), v'] ∧ Ow w.heap.size t_i64 w' v' (ints (nats (algFr m a).a)) := by
  apply c_impl_ModalAlgebra_frame; unfold S_impl_ModalAlgebra_frame
  have hX := Ext.refl w
  have hs0 := hs
  have h32 : 2 ^ m ≤ 32 := Nat.pow_le_pow_right (n := 2) (by omega) hm5
  have hp := Nat.two_pow_pos m
  have hget : ∀ i, a.getD i 0 < 32 := fun i => Nat.lt_of_lt_of_le (getD_lt_all hlt hp i) h32
  refine iNew fun b1 w1 hb1 h hB1 => ?_
  have hX := hX.trans h
  refine iNew fun b2 w2 hb2 h hB2 => ?_
  have hlb2 : w.heap.size ≤ b2 := by have := hX.size; omega
  have hX := hX.trans h
  have hB1 := hB1.ext h
  ((with_reducible refine iFa ?_); refine iLdB (by assumption) (by first | rfl | simp) ?_)
  refine iMk (n := m) (by omega) (by omega) rfl fun c w3 hc h hC => ?_
  have hlc : w.heap.size ≤ c := by have := hX.size; omega
  have hb1c : b1 ≠ c := by have := hB1.lt; omega
  have hb2c : b2 ≠ c := by have := hB2.lt; omega
  have hX := hX.trans h
  have hB1 := hB1.ext h
  have hB2 := hB2.ext h
  ((with_reducible refine iFa ?_); refine iLdB (by assumption) (by first | rfl | simp) ?_)
  have hrow0 : List.replicate m (Value.int .i64 0) = ints (nats (algRow a m 0 0)) := by
    rw [algRow_zero]
    apply List.ext_getElem
    · simp [ints, nats]
    · intro i h1 h2
      simp [ints, nats, algMask, setOf]
  rw [hrow0] at hC
  have hrl : ∀ x y, (algRow a m x y).length = m := fun x y => by simp [algRow]
  refine iLp (fun k : Nat => [.int .i64 (k : Int)]) (fun k w' => k ≤ m ∧ Ext w w' ∧ Blk _ w' b1 _ ∧ Blk _ w' b2 _ ∧ Blk t_i64 w' c (ints (nats (algRow a m k 0)))) (fun k => m - k) 0 rfl ⟨Nat.zero_le _, hX, hB1, hB2, hC⟩ ?_
  rintro k w5 Kn ⟨hk, hX, hB1, hB2, hC⟩ hKn
  (intro _; (try simp only [gx]); (with_reducible refine iLt ?_))
  refine iCndP (fun h4 => ?_) (fun h4 => ?_)
  · have hk1 : k < m := by omega
    ((with_reducible refine iFa ?_); refine iLdB (by assumption) (by first | rfl | simp) ?_)
    refine iLp (fun j : Nat => [.int .i64 (j : Int)]) (fun j w' => j ≤ m ∧ Ext w w' ∧ Blk _ w' b1 _ ∧ Blk _ w' b2 _ ∧ Blk t_i64 w' c (ints (nats (algRow a m k j)))) (fun j => m - j) 0 rfl ⟨Nat.zero_le _, hX, hB1, hB2, hC⟩ ?_
    rintro j w7 Kn2 ⟨hj, hX, hB1, hB2, hC⟩ hKn2
    have hs := hs0.ext hX
    (intro _; (try simp only [gx]); (with_reducible refine iLt ?_))
    refine iCndP (fun h5 => ?_) (fun h5 => ?_)
    · have hj1 : j < m := by omega
      have hpk := two_pow_add_le hk1
      have hpk2 := Nat.two_pow_pos k
      ((with_reducible refine iFa ?_); refine iLdB (by assumption) (by first | rfl | simp) ?_; (with_reducible refine iLdA (by assumption) ?_ ?_); rfl)
      refine iRetQ (fun w' _ => ok_impl_ModalAlgebra_full m (by omega) w') ?_
      refine iShlOne (by omega) ?_
      refine iBAndNot (by omega) (by omega) ?_
      rw [sdiff_full hk1]
      ((with_reducible refine iIaNN (by assumption) ?_ (fun pa_ hpa_ => ?_)); omega; (with_reducible refine iLd (by assumption) ?_))
      have hg := hget (2 ^ m - 1 - 2 ^ k)
      refine iRetQ (fun w' _ => ok_impl_has (a.getD (2 ^ m - 1 - 2 ^ k) 0) j (by omega) (by omega) w') ?_
      ((with_reducible refine iNot ?_))
      intro w8 h
      have hX := hX.trans h
      have hB1 := hB1.ext h
      have hB2 := hB2.ext h
      have hC := hC.ext h
      have hsu := algMask_succ a m j k
      have hm32 : algMask a m j k < 2 ^ 5 := Nat.lt_of_lt_of_le (algMask_lt a m j k) (Nat.pow_le_pow_right (by omega) (by omega))
      cases hbit : (a.getD (2 ^ m - 1 - 2 ^ k) 0).testBit j
      · rw [hbit, if_neg (by simp)] at hsu
        refine iCndT rfl ?_
        refine iIaL hj1 ?_
        refine iLdB hC (v := .int .i64 ((algMask a m j k : Nat) : Int)) ?_ ?_
        · simp [ints, nats, algRow, hj1]
        refine iShlOne (by omega) ?_
        have h2k : 2 ^ k < 2 ^ 5 := Nat.pow_lt_pow_right (by omega) (by omega)
        refine iBOr (by omega) (by omega) ?_
        rw [← hsu]
        refine iIaL hj1 ?_
        intro w9 h
        have hX := hX.trans h
        have hB1 := hB1.ext h
        have hB2 := hB2.ext h
        have hC := hC.ext h
        refine iStB hC (by simp [ints, nats, algRow, hj1]) rfl fun hC' => ?_
        have hu := Upd.setCell w9 c (0 + j) (.int .i64 ((algMask a m j (k + 1) : Nat) : Int))
        have hX := hX.upd hu hlc
        have hB1 := hB1.upd hu hb1c
        have hB2 := hB2.upd hu hb2c
        have e1 : (ints (nats (algRow a m k j))).set (0 + j) (.int .i64 ((algMask a m j (k + 1) : Nat) : Int)) = ints (nats (algRow a m k (j + 1))) := by
          rw [Nat.zero_add, ← algRow_step a m k j hj1]
          simp [ints, nats, List.map_set]
        rw [e1] at hC'
        intro w11 h
        have hC := hC'.ext h
        have hX := hX.trans h
        have hB1 := hB1.ext h
        have hB2 := hB2.ext h
        (refine iAdd (by omega) ?_)
        exact hKn2 (j + 1) _ ⟨by omega, hX, hB1, hB2, hC⟩ (by omega)
      · rw [hbit, if_pos rfl] at hsu
        refine iCndF rfl ?_
        (refine iAdd (by omega) ?_)
        refine hKn2 (j + 1) _ ⟨by omega, hX, hB1, hB2, ?_⟩ (by omega)
        rw [algRow_same a m k j hj1 hsu]; exact hC
    · obtain rfl : j = m := by omega
      (refine iAdd (by omega) ?_)
      rw [algRow_full] at hC
      exact hKn (k + 1) _ ⟨by omega, hX, hB1, hB2, hC⟩ (by omega)
  · obtain rfl : k = m := by omega
    have ho : Ow w.heap.size t_i64 w5 (.slice (some ⟨c, 0, none⟩) k k) (ints (nats (algRow a k k 0))) := Ow.ofBlk hC hlc (by rw [ints_length, nats_length, hrl]) (by omega)
    refine iCall ((ok_impl_frameOf ho).mono ?_)
    rintro _ w12 ⟨h12, v', rfl, ho12⟩
    have hB212 := hB2.ext h12
    have hne : v'.ownBlock ≠ some b2 := ho12.ne_blk hB212 (by decide)
    refine iStAB hB212 rfl rfl (ho12.pair _) fun w13 hu hB13 => ?_
    have ho13 := ho12.upd hu hne
    have hlm : (nats (algRow a k k 0)).length = k := by rw [nats_length, hrl]
    ((with_reducible refine iLdA (by assumption) ?_ ?_); rfl)
    refine ⟨(hX.trans h12).upd hu hlb2, v', ?_, ?_⟩
    · rw [hlm]
    · have := ho13
      rw [algRow_zero] at this
      exact this
theorem ok_impl_ModalAlgebra_frame {v : Value} {w : World} {a : List Nat} {m : Nat} (hs : SlN w v a) (hm5 : m ≤ 5) (hal : a.length = 2 ^ m) (hlt : ∀ x ∈ a, x < 2 ^ m) : Cal Tryz.prog f_impl_ModalAlgebra_frame #[.agg #[.int .i64 (m : Int), v]] w fun r w' => Ext w w' ∧ ∃ v', r = .agg #[.int .i64 (m : Int), v'] ∧ SlN w' v' (algFr m a).a :=
  (ok_impl_ModalAlgebra_frameO hs hm5 hal hlt).mono fun _ _ ⟨h, v', e, ho⟩ => ⟨h, v', e, ho.sl⟩
def algOut (n0 : Int) (l0 : List Int) (n1 : Int) (l1 : List Int) : Bool × Int :=
  if algOk n0 l0 && algOk n1 l1 then (!(leaves (fitsB (algFr n1.toNat (l1.map Int.toNat)) (algFr n0.toNat (l0.map Int.toNat)) true true) n0.toNat n1.toNat []).isEmpty, 0) else (false, 1)
theorem algOk_of {n : Int} {l : List Int} (h : algOk n l = true) : ∃ (m : Nat) (a : List Nat), n = (m : Int) ∧ l = nats a ∧ m ≤ 5 ∧ a.length = 2 ^ m ∧ (∀ x ∈ a, x < 2 ^ m) ∧ n.toNat = m ∧ l.map Int.toNat = a := by
  unfold algOk at h
  rw [Bool.and_eq_true, Bool.and_eq_true, Bool.and_eq_true, decide_eq_true_eq, decide_eq_true_eq] at h
  obtain ⟨hn, hlen, hall, _⟩ := h
  obtain ⟨m, rfl⟩ := Int.eq_ofNat_of_zero_le hn.1
  rw [Int.toNat_natCast] at hlen hall
  obtain ⟨hl, hlt⟩ := masks_nats hall
  refine ⟨m, l.map Int.toNat, rfl, hl, by omega, by rw [List.length_map]; omega, hlt, Int.toNat_natCast m, rfl⟩
theorem ok_impl_AreIsomorphicAlgebras {w : World} {v0 v1 : Value} {l0 l1 : List Int} (hs0 : SlI w v0 l0) (hs1 : SlI w v1 l1) (n0 n1 : Int) : Ret Tryz.prog f_impl_AreIsomorphicAlgebras #[.agg #[.int .i64 n0, v0], .agg #[.int .i64 n1, v1]] w (.tuple #[.bool (algOut n0 l0 n1 l1).1, .int .i64 (algOut n0 l0 n1 l1).2]) := by
  apply c_impl_AreIsomorphicAlgebras; unfold S_impl_AreIsomorphicAlgebras
  have hX := Ext.refl w
  refine iNew fun b2 w1 hb2 h hB2 => ?_
  have hX := hX.trans h
  refine iNew fun b3 w2 hb3 h hB3 => ?_
  have hX := hX.trans h
  have hB2 := hB2.ext h
  refine iJnB (!(algOk n0 l0 && algOk n1 l1)) w2 (fun J hJ => ?_) (fun w4 h => ?_)
  · ((with_reducible refine iLdA (by assumption) ?_ ?_); rfl)
    refine iRet (ok_impl_isModalAlgebra (hs0.ext hX) n0) fun w5 h => ?_
    have hB3 := hB3.ext h
    ((with_reducible refine iNot ?_))
    cases h0 : algOk n0 l0
    · refine iCndT rfl ?_
      have := hJ w5 h
      rwa [h0] at this
    · refine iCndF rfl ?_
      ((with_reducible refine iLdA (by assumption) ?_ ?_); rfl)
      refine iRet (ok_impl_isModalAlgebra (hs1.ext (hX.trans h)) n1) fun w6 h6 => ?_
      ((with_reducible refine iNot ?_))
      have := hJ w6 (h.trans h6)
      rwa [h0, Bool.true_and] at this
  have hX := hX.trans h
  have hB2 := hB2.ext h
  have hB3 := hB3.ext h
  (intro _; (try simp only [gx]))
  unfold algOut
  cases hfr : algOk n0 l0 && algOk n1 l1
  · refine iCndT rfl ?_
    exact ⟨rfl, hX⟩
  · refine iCndF rfl ?_
    rw [Bool.and_eq_true] at hfr
    obtain ⟨m0, a0, rfl, rfl, hm0, hl0, hlt0, e1, e2⟩ := algOk_of hfr.1
    obtain ⟨m1, a1, rfl, rfl, hm1, hl1, hlt1, e3, e4⟩ := algOk_of hfr.2
    rw [e1, e2, e3, e4]
    ((with_reducible refine iLdA (by assumption) ?_ ?_); rfl; (with_reducible refine iLdA (by assumption) ?_ ?_); rfl)
    intro w7 h
    have hX := hX.trans h
    refine iCall ((ok_impl_ModalAlgebra_frame (hs1.ext hX) hm1 hl1 hlt1).mono ?_)
    rintro _ w8 ⟨h, u1, rfl, hu1⟩
    (try refine ⟨h, ?_⟩)
    have hX := hX.trans h
    intro w9 h
    have hX := hX.trans h
    have hu1 := hu1.ext h
    refine iCall ((ok_impl_ModalAlgebra_frame (hs0.ext hX) hm0 hl0 hlt0).mono ?_)
    rintro _ w10 ⟨h, u0, rfl, hu0⟩
    (try refine ⟨h, ?_⟩)
    have hX := hX.trans h
    have hu1 := hu1.ext h
    intro w11 h
    have hX := hX.trans h
    have hu1 := hu1.ext h
    have hu0 := hu0.ext h
    refine iCall ((ok_impl_firstMorphism (algFr_ok a1 (show m1 ≤ 8 by omega)) (algFr_ok a0 (show m0 ≤ 8 by omega)) (onto := true) (one := true) hu1 hu0).mono ?_)
    rintro _ w12 ⟨h, u, rfl, _⟩
    (try refine ⟨h, ?_⟩)
    have hX := hX.trans h
    ((with_reducible refine iE20 ?_; refine iE21 ?_))
    intro w13 h
    have hX := hX.trans h
    exact ⟨rfl, hX⟩
end Go.Proofs.YtfadcafacpaldaaGreat

/- Contracts: duals of maps in the program and in the reference. Conditions: none. -/
namespace Go.Proofs.YtfadcafacpaldaaGreat
open Go.Vc
theorem ok_impl_pull {v : Value} {w : World} {im : List Nat} (hs : SlN w v im) (hl : im.length ≤ 60) (hy : ∀ y ∈ im, y ≤ 60) (m : Nat) (hm : m < 2 ^ 62) : Ret Tryz.prog f_impl_pull #[v, .int .i64 (m : Int)] w (.int .i64 ((pullN im m : Nat) : Int)) := by
  apply c_impl_pull; unfold S_impl_pull
  ((with_reducible refine iLenN (by assumption) ?_))
  refine iLp (fun k : Nat => [.int .i64 ((pullK im m k : Nat) : Int), .int .i64 (k : Int)]) (fun k w' => k ≤ im.length ∧ Ext w w') (fun k => im.length - k) 0 rfl ⟨Nat.zero_le _, Ext.refl _⟩ ?_
  rintro k w2 Kn ⟨hk, h2⟩ hKn
  have hs2 := hs.ext h2
  (intro _; (try simp only [gx]); (with_reducible refine iLt ?_))
  refine iCndP (fun h3 => ?_) (fun h3 => ?_)
  · have hk1 : k < im.length := by omega
    have hsu := pullK_succ im m k
    have hx : im.getD k 0 ≤ 60 := by rw [getD_of_lt hk1]; exact hy _ (List.getElem_mem hk1)
    have hlt := Nat.lt_of_lt_of_le (pullK_lt im m k) (Nat.pow_le_pow_right (by omega) (show k ≤ 62 by omega) : 2 ^ k ≤ 2 ^ 62)
    have h2k : 2 ^ k < 2 ^ 62 := Nat.pow_lt_pow_right (by omega) (by omega)
    ((with_reducible refine iIaNN (by assumption) ?_ (fun pa_ hpa_ => ?_)); omega; (with_reducible refine iLd (by assumption) ?_))
    refine iRet (ok_impl_has m _ (by omega) (by omega) w2) fun w3 h4 => ?_
    refine iCnd (fun h5 => ?_) (fun h5 => ?_)
    · rw [h5, if_pos rfl] at hsu
      refine iShlOne (by omega) ?_
      refine iBOr (by omega) (by omega) ?_
      rw [← hsu]
      (refine iAdd (by omega) ?_)
      exact hKn (k + 1) _ ⟨by omega, h2.trans h4⟩ (by omega)
    · rw [h5, if_neg (by simp)] at hsu
      (refine iAdd (by omega) ?_)
      rw [← hsu]
      exact hKn (k + 1) _ ⟨by omega, h2.trans h4⟩ (by omega)
  · obtain rfl : k = im.length := by omega
    exact ⟨rfl, h2⟩
theorem ok_impl_dualOf {v : Value} {w : World} {im : List Nat} (hs : SlN w v im) (hl : im.length ≤ 60) (n : Nat) (hn : n ≤ 5) (hy : ∀ y ∈ im, y < n) : Cal Tryz.prog f_impl_dualOf #[v, .int .i64 (n : Int)] w fun r w' => Ext w w' ∧ Ow w.heap.size t_i64 w' r (ints (nats (dualN n im))) := by
  apply c_impl_dualOf; unfold S_impl_dualOf
  refine iShlOne (by omega) ?_
  have h32 : 2 ^ n ≤ 32 := Nat.pow_le_pow_right (i := n) (j := 5) (by omega) hn
  unfold dualN
  refine iLp (fun s : Nat × Value => [s.2, .int .i64 (s.1 : Int)]) (fun s w' => s.1 ≤ 2 ^ n ∧ Ext w w' ∧ Ow w.heap.size t_i64 w' s.2 (ints (nats (dualK im s.1)))) (fun s => 2 ^ n - s.1) (0, .slice none 0 0) rfl ⟨Nat.zero_le _, Ext.refl _, Ow.nil _ _ _⟩ ?_
  rintro ⟨k, u⟩ w2 Kn ⟨hk, h2, ho⟩ hKn
  have hk : k ≤ 2 ^ n := hk
  have h2 : Ext w w2 := h2
  have ho : Ow w.heap.size t_i64 w2 u (ints (nats (dualK im k))) := ho
  have hs2 := hs.ext h2
  (intro _; (try simp only [gx]); (with_reducible refine iLt ?_))
  refine iCndP (fun h3 => ?_) (fun h3 => ?_)
  · have hk1 : k < 2 ^ n := by omega
    refine iRet (ok_impl_pull hs2 hl (fun y hy' => by have := hy y hy'; omega) k (by omega)) fun w3 h4 => ?_
    have ho := ho.ext h4
    have hX := h2.trans h4
    have hlk := dualK_len im k
    refine iApp1 u_Si64 i_Si64 rfl ho rfl (by rw [ints_length, nats_length]; omega) (by rw [ints_length, nats_length]; omega) hX.size fun v' w4 ho' hg => ?_
    (refine iAdd (by omega) ?_)
    refine hKn (k + 1, v') _ ⟨by show k + 1 ≤ 2 ^ n; omega, hX.grown hg (fun b hb => (ho.blk b hb).1), ?_⟩ (by show 2 ^ n - (k + 1) < 2 ^ n - k; omega)
    show Ow _ _ _ v' (ints (nats (dualK im (k + 1))))
    rw [dualK_succ]
    simpa [ints, nats] using ho'
  · obtain rfl : k = 2 ^ n := by omega
    exact ⟨h2, ho⟩
theorem ok_spec_l08Pull {v vv : Value} {w : World} {im ms : List Nat} (hs : SlN w v im) (hv : SlN w vv ms) (hl : im.length ≤ 60) (hy : ∀ y ∈ im, y ≤ 60) (hm : ∀ m ∈ ms, m < 2 ^ 62) (hml : ms.length ≤ 1000) : Cal Tryz.prog f_spec_l08Pull #[v, vv] w fun r w' => Ext w w' ∧ Ow w.heap.size t_i64 w' r (ints (nats (ms.map (pullN im)))) := by
  apply c_spec_l08Pull; unfold S_spec_l08Pull
  refine iBs0 fun u0 w1 _ h1 hu0 => ?_
  have hX1 := h1.size
  refine iLp (fun s : Nat × Value => [s.2, .int .i64 (s.1 : Int)]) (fun s w' => s.1 ≤ ms.length ∧ Ext w w' ∧ Ow w.heap.size t_i64 w' s.2 (ints (nats ((ms.take s.1).map (pullN im))))) (fun s => ms.length - s.1) (0, u0) rfl ⟨Nat.zero_le _, h1, hu0⟩ ?_
  rintro ⟨k, u⟩ w2 Kn ⟨hk, h2, ho⟩ hKn
  have hk : k ≤ ms.length := hk
  have h2 : Ext w w2 := h2
  have ho : Ow w.heap.size t_i64 w2 u (ints (nats ((ms.take k).map (pullN im)))) := ho
  have hs2 := hs.ext h2
  have hv2 := hv.ext h2
  (intro _; (try simp only [gx]); (with_reducible refine iLenN (by assumption) ?_; refine iLt ?_))
  refine iCndP (fun h3 => ?_) (fun h3 => ?_)
  · have hk1 : k < ms.length := by omega
    have em : ms.getD k 0 = ms[k] := getD_of_lt hk1
    have hmk : ms.getD k 0 < 2 ^ 62 := by rw [em]; exact hm _ (List.getElem_mem hk1)
    refine iLp (fun x : Nat => [.int .i64 ((pullK im (ms.getD k 0) x : Nat) : Int), .int .i64 (x : Int)]) (fun x w' => x ≤ im.length ∧ Ext w2 w') (fun x => im.length - x) 0 (by simp [pullK, setOf]) ⟨Nat.zero_le _, Ext.refl _⟩ ?_
    rintro x w3 Kn2 ⟨hx, h23⟩ hKn2
    have hs3 := hs2.ext h23
    have hv3 := hv2.ext h23
    have ho3 := ho.ext h23
    (intro _; (try simp only [gx]); (with_reducible refine iLenN (by assumption) ?_; refine iLt ?_))
    refine iCndP (fun h5 => ?_) (fun h5 => ?_)
    · have hx1 : x < im.length := by omega
      have hsu := pullK_succ im (ms.getD k 0) x
      have hxi : im.getD x 0 ≤ 60 := by rw [getD_of_lt hx1]; exact hy _ (List.getElem_mem hx1)
      have hlt := Nat.lt_of_lt_of_le (pullK_lt im (ms.getD k 0) x) (Nat.pow_le_pow_right (by omega) (show x ≤ 62 by omega) : 2 ^ x ≤ 2 ^ 62)
      have h2k : 2 ^ x < 2 ^ 62 := Nat.pow_lt_pow_right (by omega) (by omega)
      ((with_reducible refine iIaNN (by assumption) ?_ (fun pa_ hpa_ => ?_)); omega; (with_reducible refine iLd (by assumption) ?_); (with_reducible refine iIaNN (by assumption) ?_ (fun pa_ hpa_ => ?_)); omega; (with_reducible refine iLd (by assumption) ?_))
      refine iRetQ (fun w' _ => ok_spec_l01Bit (ms.getD k 0) _ (by omega) (by omega) w') ?_
      intro w4 h4
      refine iCnd (fun h6 => ?_) (fun h6 => ?_)
      · rw [h6, if_pos rfl] at hsu
        refine iRet (ok_spec_l01One x (by omega) w4) fun w5 h45 => ?_
        refine iBOr (by omega) (by omega) ?_
        rw [← hsu]
        (refine iAdd (by omega) ?_)
        exact hKn2 (x + 1) _ ⟨by omega, h23.trans (h4.trans h45)⟩ (by omega)
      · rw [h6, if_neg (by simp)] at hsu
        (refine iAdd (by omega) ?_)
        rw [← hsu]
        exact hKn2 (x + 1) _ ⟨by omega, h23.trans h4⟩ (by omega)
    · obtain rfl : x = im.length := by omega
      have hX := h2.trans h23
      have hlk : ((ms.take k).map (pullN im)).length = k := by simp; omega
      refine iApp1 u_Si64 i_Si64 rfl ho3 rfl (by rw [ints_length, nats_length]; omega) (by rw [ints_length, nats_length]; omega) hX.size fun v' w4 ho' hg => ?_
      (refine iAdd (by omega) ?_)
      refine hKn (k + 1, v') _ ⟨by show k + 1 ≤ ms.length; omega, hX.grown hg (fun b hb => (ho3.blk b hb).1), ?_⟩ (by show ms.length - (k + 1) < ms.length - k; omega)
      show Ow _ _ _ v' (ints (nats ((ms.take (k + 1)).map (pullN im))))
      rw [List.take_succ_eq_append_getElem hk1, List.map_append, ← em]
      simpa [ints, nats, pullN] using ho'
  · obtain rfl : k = ms.length := by omega
    rw [List.take_length] at ho
    exact ⟨h2, ho⟩
theorem ok_spec_l15Dual {lo : Nat} {v u : Value} {w : World} {im : List Nat} (hs : SlN w v im) (hl : im.length ≤ 60) (n : Nat) (hn : n ≤ 5) (hy : ∀ y ∈ im, y < n) (hlo : lo ≤ w.heap.size) : Cal Tryz.prog f_spec_l15Dual #[.agg #[.int .i64 (n : Int), u], v] w fun r w' => Ext w w' ∧ Ow lo t_i64 w' r (ints (nats (dualN n im))) := by
  apply c_spec_l15Dual; unfold S_spec_l15Dual
  have h32 : 2 ^ n ≤ 32 := Nat.pow_le_pow_right (i := n) (j := 5) (by omega) hn
  have h1p := Nat.two_pow_pos n
  have hX := Ext.refl w
  refine iNew fun b2 w1 hb2 h hB2 => ?_
  have hX := hX.trans h
  refine iBs0 fun u0 w2 _ h hu0 => ?_
  have hX := hX.trans h
  have hB2 := hB2.ext h
  have hsz := hX.size
  have hu0 := hu0.mono (show w.heap.size ≤ _ by omega)
  refine iLp (fun s : Nat × Value => [s.2, .int .i64 (s.1 : Int)]) (fun s w' => s.1 ≤ 2 ^ n ∧ Ext w w' ∧ Blk 34 w' b2 [.int .i64 (n : Int), u] ∧ Ow w.heap.size t_i64 w' s.2 (ints (nats (List.range s.1)))) (fun s => 2 ^ n - s.1) (0, u0) rfl ⟨Nat.zero_le _, hX, hB2, hu0⟩ ?_
  rintro ⟨k, u1⟩ w3 Kn ⟨hk, h3, hB3, ho⟩ hKn
  have hk : k ≤ 2 ^ n := hk
  have h3 : Ext w w3 := h3
  have ho : Ow w.heap.size t_i64 w3 u1 (ints (nats (List.range k))) := ho
  have hs3 := hs.ext h3
  (intro _; (try simp only [gx]); (with_reducible refine iFa ?_); refine iLdB (by assumption) (by first | rfl | simp) ?_)
  refine iRet (ok_spec_l01Full n (by omega) w3) fun w4 h4 => ?_
  have ho := ho.ext h4
  have hB3 := hB3.ext h4
  have hX4 := h3.trans h4
  ((with_reducible refine iLe ?_))
  refine iCndP (fun h5 => ?_) (fun h5 => ?_)
  · have hk1 : k < 2 ^ n := by omega
    refine iApp1 u_Si64 i_Si64 rfl ho rfl (by rw [ints_length, nats_length, List.length_range]; omega) (by rw [ints_length, nats_length, List.length_range]; omega) hX4.size fun v' w5 ho' hg => ?_
    (refine iAdd (by omega) ?_)
    refine hKn (k + 1, v') _ ⟨by show k + 1 ≤ 2 ^ n; omega, hX4.grown hg (fun b hb => (ho.blk b hb).1), hB3.grown hg (ho.ne_blk hB3 (by decide)), ?_⟩ (by show 2 ^ n - (k + 1) < 2 ^ n - k; omega)
    show Ow _ _ _ v' (ints (nats (List.range (k + 1))))
    rw [List.range_succ]
    simpa [ints, nats] using ho'
  · obtain rfl : k = 2 ^ n := by omega
    refine iCall ((ok_spec_l08Pull (hs3.ext h4) ho.sl hl (fun y hy' => by have := hy y hy'; omega) (fun m hm => by have := List.mem_range.1 hm; omega) (by rw [List.length_range]; omega)).mono ?_)
    rintro r w6 ⟨h6, ho6⟩
    exact ⟨hX4.trans h6, ho6.mono (by have := hX4.size; omega)⟩
end Go.Proofs.YtfadcafacpaldaaGreat

/- Contracts: the program's search where the visitor's blocks are older than the frames; all homomorphisms in the program. Conditions: none. -/
namespace Go.Vc
/-- The state of the search. -/
structure RunZ {P : Program} {ti : TypeId} {vis : Value} {n m : Nat} {cont : List (List Nat) → Bool} (V : Visitor P ti vis n m cont) (f g : Fr) (onto one : Bool) (e : TypeId) (Z : Nat → Prop) (w0 : World) (fa ga : Value) (b : Nat) (w : World) (im : List Nat) (vim : Value) (S : Nat → Prop) (vl : List (List Nat)) : Prop where
  ext : Ch Z w0 w
  blk : Blk e w b [.int .i64 (f.n : Int), fa, .int .i64 (g.n : Int), ga, vim, vis, .bool onto, .bool one]
  ow : Ow w0.heap.size ti w vim (ints (nats im))
  j : V.J S vl w
  sb : ¬ S b
  sv : ∀ c, vim.ownBlock = some c → ¬ S c
  s0 : ∀ k, S k → Z k ∨ w0.heap.size ≤ k
theorem RunZ.later {P : Program} {ti : TypeId} {vis : Value} {n m : Nat} {cont : List (List Nat) → Bool} {V : Visitor P ti vis n m cont} {f g : Fr} {onto one : Bool} {e : TypeId} {Z : Nat → Prop} {w0 : World} {fa ga : Value} {b : Nat} {w w' : World} {im : List Nat} {vim : Value} {S : Nat → Prop} {vl : List (List Nat)}
    (h : RunZ V f g onto one e Z w0 fa ga b w im vim S vl) (he : Ext w w') : RunZ V f g onto one e Z w0 fa ga b w' im vim S vl :=
  ⟨h.ext.trans (he.ch (S := fun _ => False)) (fun _ h => h.elim), h.blk.ext he, h.ow.ext he, V.keep h.j he.size fun k hk => he.block k (V.below h.j k hk), h.sb, h.sv, h.s0⟩
theorem OwP.ch {S : Nat → Prop} {lo : Nat} {e : TypeId} {w w' : World} {P : List (Value × List Int)} (h : OwP lo e w P) (k : Ch S w w') (hn : ∀ p ∈ P, ∀ c, p.1.ownBlock = some c → ¬ S c) : OwP lo e w' P := ⟨fun p hp => (h.1 p hp).ch k (hn p hp), h.2⟩
theorem OwP.sub {lo : Nat} {e : TypeId} {w : World} {P Q : List (Value × List Int)} (h : OwP lo e w P) (k : List.Sublist Q P) : OwP lo e w Q := ⟨fun p hp => h.1 p (k.subset hp), h.2.sublist k⟩
theorem OwP.enc {lo : Nat} {e : TypeId} {w : World} {P : List VL} (h : OwP lo e w P) : evL P = P.map Prod.fst := List.map_congr_left fun p hp => encV_eq (h.1 p hp).cell
end Go.Vc
namespace Go.Proofs.YtfadcafacpaldaaGreat
open Go.Vc
/-- All homomorphisms, as the search finds their maps. -/
def homM (m0 m1 : Nat) (a0 a1 : List Nat) : List (List Nat) := leaves (fitsB (algFr m1 a1) (algFr m0 a0) false false) m0 m1 []
def homOut (n0 : Int) (l0 : List Int) (n1 : Int) (l1 : List Int) : List (List Int) × Int :=
  if algOk n0 l0 && algOk n1 l1 then
    if 200 < (homL n0.toNat (homM n0.toNat n1.toNat (l0.map Int.toNat) (l1.map Int.toNat))).length then ([], 3) else (homL n0.toNat (homM n0.toNat n1.toNat (l0.map Int.toNat) (l1.map Int.toNat)), 0)
  else ([], 1)
theorem ok_impl_morphismSearch_runZ {f g : Fr} (hf : f.ok) (hg : g.ok) {onto one : Bool} {e : TypeId} (he1 : t_i64 ≠ e) {vis : Value} {cont : List (List Nat) → Bool} (V : Visitor Tryz.prog t_i64 vis f.n g.n cont) {Z : Nat → Prop} {w0 : World} {fa ga : Value} (hfa : ∀ w', Ch Z w0 w' → SlN w' fa f.a) (hga : ∀ w', Ch Z w0 w' → SlN w' ga g.a) {b : Nat} (hb : w0.heap.size ≤ b) :
    ∀ (d : Nat) (im : List Nat) (w : World) (vim : Value) (S : Nat → Prop) (vl : List (List Nat)), im.length + d = f.n → (∀ y ∈ im, y < g.n) → (vl = [] ∨ cont vl = true) → vl.length + g.n ^ d ≤ 100000000 →
      RunZ V f g onto one e Z w0 fa ga b w im vim S vl →
      Cal Tryz.prog f_impl_morphismSearch_run #[.pointer (some ⟨b, 0, none⟩)] w fun v w' => v = .bool (visitAll cont vl (leaves (fitsB f g onto one) g.n d im)).2 ∧ ∃ vim' S',
        RunZ V f g onto one e Z w0 fa ga b w' im vim' S' (visitAll cont vl (leaves (fitsB f g onto one) g.n d im)).1 := by
  have hf8 := hf.1
  have hg8 := hg.1
  intro d
  induction d with
  | zero =>
    intro im w vim S vl hlen hm hvl hcap hst
    apply c_impl_morphismSearch_run; unfold S_impl_morphismSearch_run
    refine iRet (ok_impl_morphismSearch_fits hf hg (by omega) hm hst.blk (hfa _ hst.ext) (hga _ hst.ext) hst.ow.sl) fun w1 h1 => ?_
    have hst := hst.later h1
    ((with_reducible refine iNot ?_))
    cases hfit : fitsB f g onto one im
    · refine iCndT rfl ?_
      unfold leaves
      rw [hfit]
      exact ⟨rfl, vim, S, hst⟩
    · refine iCndF rfl ?_
      have hB := hst.blk
      have hsl : SlN w1 vim im := hst.ow.sl
      ((with_reducible refine iNil ?_; refine iFa ?_); refine iLdB (by assumption) (by first | rfl | simp) ?_; (with_reducible refine iLenN (by assumption) ?_; refine iNil ?_; refine iFa ?_; refine iFa ?_); refine iLdB (by assumption) (by first | rfl | simp) ?_; (with_reducible refine iEq ?_))
      intro w2 h2
      have hst := hst.later h2
      have hB := hst.blk
      refine iCndP (fun h3 => ?_) (fun h3 => absurd (show (im.length : Int) = f.n by omega) h3)
      ((with_reducible refine iNil ?_; refine iFa ?_); refine iLdB (by assumption) (by first | rfl | simp) ?_; (with_reducible refine iNil ?_; refine iFa ?_); refine iLdB (by assumption) (by first | rfl | simp) ?_)
      intro w3 h3
      have hst := hst.later h3
      refine callV.mono (V.visit hst.j hvl (by simp at hcap; omega) hst.ow (by omega) hm hst.sv) ?_
      rintro _ w4 ⟨rfl, S', hj, hch, hS'⟩
      intro w5 h5
      have hL : visitAll cont vl (leaves (fitsB f g onto one) g.n 0 im) = (vl ++ [im], cont (vl ++ [im])) := by
        unfold leaves
        rw [hfit, if_pos rfl]
        simp only [dfs, visitAll]
        cases cont (vl ++ [im]) <;> simp
      rw [hL]
      have hB3 := hst.blk
      refine ⟨rfl, vim, S', RunZ.later ⟨hst.ext.trans hch hst.s0, hB3.ch hch hst.sb, hst.ow.ch hch hst.sv, hj, fun h => ?_, fun c hc h => ?_, fun k hk => ?_⟩ h5⟩
      · rcases hS' _ h with h | h
        · exact hst.sb h
        · have := hB3.lt; omega
      · rcases hS' _ h with h | h
        · exact hst.sv c hc h
        · have := (hst.ow.blk c hc).2; omega
      · rcases hS' _ hk with h | h
        · exact hst.s0 k h
        · exact .inr (by have := hst.ext.size; omega)
  | succ d ih =>
    intro im w vim S vl hlen hm hvl hcap hst
    apply c_impl_morphismSearch_run; unfold S_impl_morphismSearch_run
    refine iRet (ok_impl_morphismSearch_fits hf hg (by omega) hm hst.blk (hfa _ hst.ext) (hga _ hst.ext) hst.ow.sl) fun w1 h1 => ?_
    have hst := hst.later h1
    ((with_reducible refine iNot ?_))
    cases hfit : fitsB f g onto one im
    · refine iCndT rfl ?_
      unfold leaves
      rw [hfit]
      exact ⟨rfl, vim, S, hst⟩
    · refine iCndF rfl ?_
      have hB := hst.blk
      have hsl : SlN w1 vim im := hst.ow.sl
      ((with_reducible refine iNil ?_; refine iFa ?_); refine iLdB (by assumption) (by first | rfl | simp) ?_; (with_reducible refine iLenN (by assumption) ?_; refine iNil ?_; refine iFa ?_; refine iFa ?_); refine iLdB (by assumption) (by first | rfl | simp) ?_; (with_reducible refine iEq ?_))
      intro w2 h2
      have hst := hst.later h2
      have hB := hst.blk
      refine iCndP (fun h3 => absurd h3 (by omega)) (fun h3 => ?_)
      have hL : leaves (fitsB f g onto one) g.n (d + 1) im = (List.range g.n).flatMap fun y => leaves (fitsB f g onto one) g.n d (im ++ [y]) := by
        rw [leaves, hfit, if_pos rfl, dfs_succ]; rfl
      rw [hL]
      ((with_reducible refine iNil ?_; refine iFa ?_; refine iFa ?_); refine iLdB (by assumption) (by first | rfl | simp) ?_)
      refine iLp (fun k : Nat => [.int .i64 (k : Int)]) (fun k w' => k ≤ g.n ∧ ∃ vim' S' vl', RunZ V f g onto one e Z w0 fa ga b w' im vim' S' vl' ∧
          visitAll cont vl ((List.range k).flatMap fun y => leaves (fitsB f g onto one) g.n d (im ++ [y])) = (vl', true)) (fun k => g.n - k) 0 rfl ⟨Nat.zero_le _, vim, S, vl, hst, by simp [visitAll]⟩ ?_
      rintro k w7 Kn ⟨hk, vim', S', vl', hst', hvis⟩ hKn
      have hB7 := hst'.blk
      have hvl' : vl' = [] ∨ cont vl' = true := by
        have := visitAll_cont cont ((List.range k).flatMap fun y => leaves (fitsB f g onto one) g.n d (im ++ [y])) vl hvl (by rw [hvis])
        rwa [hvis] at this
      have hlen' : vl'.length ≤ vl.length + k * g.n ^ d := by
        have h1 := visitAll_len cont ((List.range k).flatMap fun y => leaves (fitsB f g onto one) g.n d (im ++ [y])) vl
        rw [hvis] at h1
        have h2 := flat_length (fitsB f g onto one) g.n d im k
        simp only at h1
        omega
      (intro _; (try simp only [gx]); (with_reducible refine iLt ?_))
      refine iCndP (fun h4 => ?_) (fun h4 => ?_)
      · have hk1 : k < g.n := by omega
        have hcap' : vl'.length + g.n ^ d ≤ 100000000 := by
          have h1 : (k + 1) * g.n ^ d ≤ g.n * g.n ^ d := Nat.mul_le_mul_right _ hk1
          rw [Nat.succ_mul] at h1
          rw [Nat.pow_succ, Nat.mul_comm] at hcap
          omega
        ((with_reducible refine iNil ?_; refine iFa ?_); refine iLdB (by assumption) (by first | rfl | simp) ?_)
        have hil : (ints (nats im)).length = im.length := by rw [ints_length, nats_length]
        refine iApp1A u_Si64 i_Si64 rfl hst'.ow rfl (by omega) (by omega) hst'.ext.size fun v' w9 ho hgr hat => ?_
        rw [ints_snoc] at ho
        have hvb : vim'.ownBlock ≠ some b := hst'.ow.ne_blk hB7 (fun h => he1 h)
        have hB9 := hB7.grown hgr hvb
        ((with_reducible refine iNil ?_; refine iFa ?_))
        refine iStB hB9 (by simp) ho.cell fun hB10 => ?_
        have hu := Upd.setCell w9 b 4 v'
        have hv'b : v'.ownBlock ≠ some b := ho.ne_blk hB9 (fun h => he1 h)
        have hch : Ch (fun c => c = b ∨ vim'.ownBlock = some c) w7 (w9.setCell ⟨b, 4, none⟩ v') := (grown_ch hgr (fun c hc => .inr hc)).trans (hu.ch (S := fun c => c = b) rfl) (fun c hc => .inl (.inl hc))
        have hst10 : RunZ V f g onto one e Z w0 fa ga b (w9.setCell ⟨b, 4, none⟩ v') (im ++ [k]) v' S' vl' := by
          refine ⟨hst'.ext.trans hch (fun c hc => .inr ?_), hB10, ho.upd hu hv'b, V.keep hst'.j hch.size (fun c hc => hch.block c (V.below hst'.j c hc) ?_), hst'.sb, fun c hc h => ?_, hst'.s0⟩
          · rcases hc with rfl | hc
            · exact hb
            · exact (hst'.ow.blk c hc).1
          · rintro (rfl | h)
            · exact hst'.sb hc
            · exact hst'.sv c h hc
          · rcases hat with h1 | ⟨c', h1, h2⟩
            · exact hst'.sv c (by rw [← h1]; exact hc) h
            · rw [h1] at hc; cases hc
              have := V.below hst'.j _ h
              omega
        have hm' : ∀ y ∈ im ++ [k], y < g.n := fun y hy => by
          simp at hy
          rcases hy with hy | rfl
          · exact hm y hy
          · omega
        refine iCall ((ih (im ++ [k]) _ v' S' vl' (by simp; omega) hm' hvl' hcap' hst10).mono ?_)
        rintro _ w11 ⟨rfl, vim2, S2, hst11⟩
        have hB11 := hst11.blk
        have hl11 : (im ++ [k]).length = im.length + 1 := by simp
        have hsl11 : SlN w11 vim2 (im ++ [k]) := hst11.ow.sl
        ((with_reducible refine iNil ?_; refine iFa ?_); refine iLdB (by assumption) (by first | rfl | simp) ?_; (with_reducible refine iNil ?_; refine iFa ?_); refine iLdB (by assumption) (by first | rfl | simp) ?_; (with_reducible refine iLenN (by assumption) ?_); refine iSub (by omega) ?_)
        have hln : ((im ++ [k]).length : Int) - 1 = ((ints (nats im)).length : Nat) := by rw [hil]; simp
        rw [hln]
        refine iSlDown (by rw [ints_snoc]; exact hst11.ow) fun vim3 hv3 ho3 => ?_
        ((with_reducible refine iNil ?_; refine iFa ?_))
        intro w12 h12
        have hst12 := hst11.later h12
        have hB12 := hst12.blk
        have ho12 := ho3.ext h12
        refine iStB hB12 (by simp) ho3.cell fun hB13 => ?_
        have hu13 := Upd.setCell w12 b 4 vim3
        intro w14 h14
        have hv3b : vim3.ownBlock ≠ some b := by rw [hv3]; exact hst12.ow.ne_blk hB12 (fun h => he1 h)
        have hst14 : RunZ V f g onto one e Z w0 fa ga b w14 im vim3 S2 (visitAll cont vl' (leaves (fitsB f g onto one) g.n d (im ++ [k]))).1 := by
          refine RunZ.later (w := w12.setCell ⟨b, 4, none⟩ vim3) ⟨hst12.ext.trans (hu13.ch (S := fun c => c = b) rfl) (fun c hc => .inr (by subst hc; exact hb)), hB13, ho12.upd hu13 hv3b, V.keep hst12.j (by rw [hu13.size]; exact Nat.le_refl _) (fun c hc => hu13.block c fun h => hst12.sb (h ▸ hc)), hst12.sb, fun c hc => hst12.sv c (by rw [← hv3]; exact hc), hst12.s0⟩ h14
        have hstep : visitAll cont vl ((List.range (k + 1)).flatMap fun y => leaves (fitsB f g onto one) g.n d (im ++ [y])) = visitAll cont vl' (leaves (fitsB f g onto one) g.n d (im ++ [k])) := by
          rw [List.range_succ, List.flatMap_append, visitAll_append, hvis, if_pos rfl]; simp
        ((with_reducible refine iNot ?_))
        cases hr : (visitAll cont vl' (leaves (fitsB f g onto one) g.n d (im ++ [k]))).2
        · refine iCndT rfl ?_
          obtain ⟨j, hj⟩ : ∃ j, g.n = (k + 1) + j := ⟨g.n - (k + 1), by omega⟩
          have hrg : List.range g.n = List.range (k + 1) ++ (List.range j).map (k + 1 + ·) := by rw [hj, List.range_add]
          have hall : visitAll cont vl ((List.range g.n).flatMap fun y => leaves (fitsB f g onto one) g.n d (im ++ [y])) = ((visitAll cont vl' (leaves (fitsB f g onto one) g.n d (im ++ [k]))).1, false) := by
            rw [hrg, List.flatMap_append, visitAll_append, hstep, hr, if_neg (by simp)]
          rw [hall]
          exact ⟨rfl, vim3, S2, hst14⟩
        · refine iCndF rfl ?_
          (refine iAdd (by omega) ?_)
          refine hKn (k + 1) _ ⟨by omega, vim3, S2, _, hst14, ?_⟩ (by omega)
          rw [hstep, ← hr]
      · obtain rfl : k = g.n := by omega
        rw [hvis]
        exact ⟨rfl, vim', S', hst'⟩
theorem ok_impl_homomorphisms_1 {lo : Nat} {v fv bx : Value} {w : World} {c ca : Nat} {e1 e2 : TypeId} (he1 : t_Si64 ≠ e1) (he2 : t_i64 ≠ e1) {vs : List Value} {L : List (List Value)} {im : List Nat} {n : Nat} (hs : SlN w v im) (hl : im.length ≤ 60) (hn5 : n ≤ 5) (hy : ∀ y ∈ im, y < n) (hc : Blk e1 w c [fv]) (ha : Blk e2 w ca [.int .i64 (n : Int), bx]) (hf : Ow lo t_Si64 w fv vs) (hL : OwL lo t_i64 w vs L) (hn : vs.length ≤ 1000000000) (hlo : lo ≤ w.heap.size) :
    Cal Tryz.prog f_impl_homomorphisms_1 #[v, .pointer (some ⟨c, 0, none⟩), .pointer (some ⟨ca, 0, none⟩)] w fun r w' => r = .bool true ∧ ∃ fv' v', Blk e1 w' c [fv'] ∧ Ow lo t_Si64 w' fv' (vs ++ [v']) ∧ OwL lo t_i64 w' (vs ++ [v']) (L ++ [ints (nats (dualN n im))]) ∧ Ch (fun k => k = c ∨ fv.ownBlock = some k) w w' ∧
      (fv'.ownBlock = fv.ownBlock ∨ ∃ k, fv'.ownBlock = some k ∧ w.heap.size ≤ k) ∧ ∀ k, v'.ownBlock = some k → w.heap.size ≤ k := by
  apply c_impl_homomorphisms_1; unfold S_impl_homomorphisms_1
  have hX := Ext.refl w
  (refine iLdB (by assumption) (by first | rfl | simp) ?_; (with_reducible refine iFa ?_); refine iLdB (by assumption) (by first | rfl | simp) ?_)
  intro w1 h
  have hX := hX.trans h
  have hs := hs.ext h
  have hc := hc.ext h
  have hf := hf.ext h
  have hL := hL.ext h
  have hlo1 := hX.size
  refine iCall ((ok_impl_dualOf hs hl n hn5 hy).mono ?_)
  rintro v' w2 ⟨h, ho⟩
  (try refine ⟨h, ?_⟩)
  have hnew : ∀ u ∈ vs, ∀ k, u.ownBlock = some k → v'.ownBlock ≠ some k := fun u hu k hk e => by have := (hL.lt hu hk).2; have := (ho.blk k e).1; omega
  have hX := hX.trans h
  have hc := hc.ext h
  have hf := hf.ext h
  have hL := hL.ext h
  intro w3 h
  have hX := hX.trans h
  have hc := hc.ext h
  have hf := hf.ext h
  have hL := hL.ext h
  have ho := ho.ext h
  refine iBs1 rfl ho.cell fun bb w4 hbb h hB => ?_
  (try refine ⟨h, ?_⟩)
  have hX := hX.trans h
  have hc := hc.ext h
  have hf := hf.ext h
  have hL := hL.ext h
  have ho := ho.ext h
  intro w5 h
  have hX := hX.trans h
  have hc := hc.ext h
  have hf := hf.ext h
  have hL := hL.ext h
  have ho := ho.ext h
  have hB := hB.ext h
  have hlo5 := hX.size
  refine iAppA u_SSi64 i_SSi64 rfl hf (Sl.ofBlk hB rfl (by omega)) (fun u hu => by simp at hu; subst hu; exact ho.cell) (by simp; omega) (by simp; omega) (by omega) fun fv' w6 hf' hg hat => ?_
  have hfc : fv.ownBlock ≠ some c := hf.ne_blk hc he1
  have hc6 := hc.grown hg hfc
  have hch6 : Ch (fun k => k = c ∨ fv.ownBlock = some k) w w6 := (hX.ch (S := fun k => k = c ∨ fv.ownBlock = some k)).trans (grown_ch (S := fun k => fv.ownBlock = some k) hg fun k hk => hk) fun k hk => .inl (.inr hk)
  have hg6 := grown_ch (S := fun k => fv.ownBlock = some k) hg fun k hk => hk
  have hL6 := hL.ch hg6 fun u hu k hk he => by
    obtain ⟨x, hx⟩ := hL.ow hu
    exact hx.ne_ow hf (by decide) hk he
  have ho6 := ho.ch hg6 fun k hk he => ho.ne_ow hf (by decide) hk he
  intro w7 h7
  have hc7 := hc6.ext h7
  have hf7 := hf'.ext h7
  have hL7 := hL6.ext h7
  have ho7 := ho6.ext h7
  refine iStB hc7 (by simp) hf'.cell fun hc8 => ?_
  have hu := Upd.setCell w7 c 0 fv'
  have hf8 := hf7.upd hu (hf7.ne_blk hc7 he1)
  have hL8 := hL7.ch (hu.ch (S := fun k => k = c) rfl) fun u hu k hk he => by
    obtain ⟨x, hx⟩ := hL7.ow hu
    exact hx.ne_blk hc7 he2 (by rw [hk, he])
  have ho8 := ho7.upd hu (ho7.ne_blk hc7 he2)
  intro w9 h9
  have hc9 := hc8.ext h9
  have hf9 := hf8.ext h9
  have hs9 := hf9.sl
  refine ⟨rfl, fv', v', hc9, hf9, (hL8.ext h9).snoc ((ho8.ext h9).mono (by omega)) hnew, ?_, hat.imp id (fun ⟨k, e, hk⟩ => ⟨k, e, by omega⟩), fun k hk => ?_⟩
  · exact ((hch6.trans (h7.ch (S := fun _ => False)) (fun _ h => h.elim)).trans (hu.ch (S := fun k => k = c) rfl) (fun k hk => .inl (.inl hk))).trans (h9.ch (S := fun _ => False)) (fun _ h => h.elim)
  · have := (ho.blk k hk).1; omega
end Go.Proofs.YtfadcafacpaldaaGreat

/- Contracts: all homomorphisms between two modal algebras, in the program. Conditions: none. -/
namespace Go.Proofs.YtfadcafacpaldaaGreat
open Go.Vc
def visHom (c ca lo : Nat) (hlo : lo ≤ c) (e1 e2 : TypeId) (he1 : t_Si64 ≠ e1) (he2 : t_i64 ≠ e1) (bx : Value) (n m : Nat) (hn : n ≤ 8) (hm : m ≤ 5) : Visitor Tryz.prog t_i64 (.func (.func f_impl_homomorphisms_1) #[] #[.pointer (some ⟨c, 0, none⟩), .pointer (some ⟨ca, 0, none⟩)]) n m (fun _ => true) where
  J S l w := ∃ fv vs, S = (fun k => k = c ∨ k = ca ∨ fv.ownBlock = some k ∨ ∃ v ∈ vs, v.ownBlock = some k) ∧ Blk e1 w c [fv] ∧ Blk e2 w ca [.int .i64 (m : Int), bx] ∧ Ow lo t_Si64 w fv vs ∧ OwL lo t_i64 w vs (l.map fun x => ints (nats (dualN m x))) ∧ ca ≠ c ∧ fv.ownBlock ≠ some ca
  below := by
    rintro S l w ⟨fv, vs, rfl, h1, h0, h2, h3, _⟩ k (rfl | rfl | hk | ⟨v, hv, hk⟩)
    · exact h1.lt
    · exact h0.lt
    · exact (h2.blk k hk).2
    · exact (h3.lt hv hk).2
  keep := by
    rintro S l w w' ⟨fv, vs, rfl, h1, h0, h2, h3, h4⟩ _ hk
    exact ⟨fv, vs, rfl, h1.same (hk c (.inl rfl)), h0.same (hk ca (.inr (.inl rfl))), h2.same fun k hb => hk k (.inr (.inr (.inl hb))), h3.same fun v hv k hb => hk k (.inr (.inr (.inr ⟨v, hv, hb⟩))), h4⟩
  visit := by
    rintro S l w u lo' im ⟨fv, vs, rfl, h1, h0, h2, h3, h4, h5⟩ _ hl ho hlen hy _
    have hvl : vs.length = l.length := by simpa using h3.1
    refine iClo rfl ((ok_impl_homomorphisms_1 (im := im) he1 he2 ho.sl (by omega) hm hy h1 h0 h2 h3 (by omega) (by have := h1.lt; omega)).mono ?_)
    rintro r w' ⟨rfl, fv', v', g1, g2, g3, g4, g5, g6⟩
    refine ⟨rfl, _, ⟨fv', vs ++ [v'], rfl, g1, ?_, g2, by simpa using g3, h4, ?_⟩, g4.mono (fun k hk => ?_), fun k hk => ?_⟩
    · refine h0.ch g4 ?_
      rintro (h | h)
      · exact h4 h
      · exact h5 h
    · rcases g5 with h | ⟨k, h, hk⟩
      · rw [h]; exact h5
      · rw [h]; intro e; cases e; have := h0.lt; omega
    · rcases hk with rfl | hk
      · exact .inl rfl
      · exact .inr (.inr (.inl hk))
    · rcases hk with rfl | rfl | hk | ⟨v, hv, hk⟩
      · exact .inl (.inl rfl)
      · exact .inl (.inr (.inl rfl))
      · rcases g5 with h | ⟨k', h, hk'⟩
        · exact .inl (.inr (.inr (.inl (by rw [← h]; exact hk))))
        · rw [h] at hk; cases hk; exact .inr hk'
      · rcases List.mem_append.1 hv with hv | hv
        · exact .inl (.inr (.inr (.inr ⟨v, hv, hk⟩)))
        · simp at hv; subst hv
          exact .inr (g6 k hk)
theorem homM_mem {m0 m1 : Nat} {a0 a1 : List Nat} : ∀ im ∈ homM m0 m1 a0 a1, im.length = m1 ∧ ∀ y ∈ im, y < m0 := fun _ h => leaves_mem (f := algFr m1 a1) (g := algFr m0 a0) h
theorem homM_nodup {m0 m1 : Nat} {a0 a1 : List Nat} : (homM m0 m1 a0 a1).Nodup := nodup_of_sorted (leaves_sorted _ _ _ _)
theorem pow55 {a b : Nat} (ha : a ≤ 5) (hb : b ≤ 5) : a ^ b ≤ 3125 :=
  Nat.le_trans (Nat.pow_le_pow_left ha b) (Nat.pow_le_pow_right (n := 5) (by omega) hb)
theorem homM_len {m0 m1 : Nat} {a0 a1 : List Nat} (h0 : m0 ≤ 5) (h1 : m1 ≤ 5) : (homM m0 m1 a0 a1).length ≤ 3125 := Nat.le_trans (leaves_length _ _ _ _) (pow55 h0 h1)
theorem ok_impl_homomorphisms {w : World} {v0 v1 : Value} {m0 m1 : Nat} {a0 a1 : List Nat} (hs0 : SlN w v0 a0) (hs1 : SlN w v1 a1) (hm0 : m0 ≤ 5) (hl0 : a0.length = 2 ^ m0) (hlt0 : ∀ x ∈ a0, x < 2 ^ m0) (hm1 : m1 ≤ 5) (hl1 : a1.length = 2 ^ m1) (hlt1 : ∀ x ∈ a1, x < 2 ^ m1) :
    Cal Tryz.prog f_impl_homomorphisms #[.agg #[.int .i64 (m0 : Int), v0], .agg #[.int .i64 (m1 : Int), v1]] w fun r w' => Ext w w' ∧ RdLL w.heap.size w' r (homL m0 (homM m0 m1 a0 a1)) := by
  apply c_impl_homomorphisms; unfold S_impl_homomorphisms
  have hX := Ext.refl w
  refine iNew fun ca w1 hca h hA => ?_
  have hlca : w.heap.size ≤ ca := by omega
  have hX := hX.trans h
  refine iNew fun b3 w2 hb3 h hB3 => ?_
  have hX := hX.trans h
  have hA := hA.ext h
  refine iNew fun c w3 hc h hC => ?_
  have hlc : w.heap.size ≤ c := by have := hX.size; omega
  have hcac : ca ≠ c := by have := hA.lt; omega
  have hX := hX.trans h
  have hA := hA.ext h
  have hB3 := hB3.ext h
  ((with_reducible refine iLdA (by assumption) ?_ ?_); rfl; (with_reducible refine iLdA (by assumption) ?_ ?_); rfl)
  intro w4 h
  have hX := hX.trans h
  have hA := hA.ext h
  have hC := hC.ext h
  refine iCall ((ok_impl_ModalAlgebra_frameO (hs1.ext hX) hm1 hl1 hlt1).mono ?_)
  rintro _ w5 ⟨h, u1, rfl, hu1⟩
  (try refine ⟨h, ?_⟩)
  have hX := hX.trans h
  have hA := hA.ext h
  have hC := hC.ext h
  intro w6 h
  have hX := hX.trans h
  have hA := hA.ext h
  have hC := hC.ext h
  have hu1 := hu1.ext h
  refine iCall ((ok_impl_ModalAlgebra_frameO (hs0.ext hX) hm0 hl0 hlt0).mono ?_)
  rintro _ w7 ⟨h, u0, rfl, hu0⟩
  (try refine ⟨h, ?_⟩)
  have hX := hX.trans h
  have hA := hA.ext h
  have hC := hC.ext h
  have hu1 := hu1.ext h
  refine iBuild (cs := #[.int .i64 (m1 : Int), u1, .int .i64 (m0 : Int), u0, .slice none 0 0, .func (.func f_impl_homomorphisms_1) #[] #[.pointer (some ⟨c, 0, none⟩), .pointer (some ⟨ca, 0, none⟩)], .bool false, .bool false]) (by simp [Instr.fill, Value.cells]) ?_
  intro w8 h
  have hX := hX.trans h
  have hA := hA.ext h
  have hC := hC.ext h
  have hu1 := hu1.ext h
  have hu0 := hu0.ext h
  have hX8 := hX
  have hsz8 := hX.size
  have hC8 := hC
  have hA8 := hA
  refine iNew fun b w9 hb h hB => ?_
  have hbc : b ≠ c := by have := hC.lt; omega
  have hbca : b ≠ ca := by have := hA.lt; omega
  have hX := hX.trans h
  have hA := hA.ext h
  have hC := hC.ext h
  intro w10 h10
  have hB := hB.ext h10
  have h810 := h.trans h10
  have hX := hX.trans h10
  have hA := hA.ext h10
  have hC := hC.ext h10
  have hst : RunZ (visHom c ca w.heap.size hlc t_SSi64 26 (by decide) (by decide) v0 m1 m0 (show m1 ≤ 8 by omega) hm0) (algFr m1 a1) (algFr m0 a0) false false _ (fun k => k = c ∨ k = ca) w8 _ _ b w10 [] (.slice none 0 0) _ [] :=
    ⟨h810.ch, hB, Ow.nil _ _ _, ⟨.slice none 0 0, [], rfl, hC, hA, Ow.nil _ _ _, OwL.nil _ _ _, hcac, (fun e => by cases e)⟩, (by
      rintro (h | h | h | ⟨v, h, _⟩)
      · exact hbc h
      · exact hbca h
      · cases h
      · cases h), (fun c hc => by cases hc), (by
      rintro k (h | h | h | ⟨v, h, _⟩)
      · exact .inl (.inl h)
      · exact .inl (.inr h)
      · cases h
      · cases h)⟩
  have hfa : ∀ w', Ch (fun k => k = c ∨ k = ca) w8 w' → SlN w' u1 (algFr m1 a1).a := fun w' k => (hu1.ch k fun d hd hz => by
    rcases hz with rfl | rfl
    · exact hu1.ne_blk hC8 (by decide) hd
    · exact hu1.ne_blk hA8 (by decide) hd).sl
  have hga : ∀ w', Ch (fun k => k = c ∨ k = ca) w8 w' → SlN w' u0 (algFr m0 a0).a := fun w' k => (hu0.ch k fun d hd hz => by
    rcases hz with rfl | rfl
    · exact hu0.ne_blk hC8 (by decide) hd
    · exact hu0.ne_blk hA8 (by decide) hd).sl
  have hcap : ([] : List (List Nat)).length + m0 ^ m1 ≤ 100000000 := by have := pow55 hm0 hm1; simp; omega
  refine iCall ((ok_impl_morphismSearch_runZ (algFr_ok a1 (show m1 ≤ 8 by omega)) (algFr_ok a0 (show m0 ≤ 8 by omega)) (by decide) _ hfa hga (show w8.heap.size ≤ b by omega) m1 [] w10 _ _ [] (by simp [algFr]) (fun y hy => by cases hy) (.inl rfl) hcap hst).mono ?_)
  rintro _ w11 ⟨rfl, vim', S', hst'⟩
  rw [visitAll_true, List.nil_append] at hst'
  obtain ⟨fv, vs, _, hC', _, ho, hol, _⟩ := hst'.j
  have hXe : Ext w w11 := hX8.thenCh hst'.ext (by
    rintro k (rfl | rfl)
    · exact hlc
    · exact hlca)
  have hlen : (homM m0 m1 a0 a1).length ≤ 3125 := homM_len hm0 hm1
  have hol : OwL w.heap.size t_i64 w11 vs (((homM m0 m1 a0 a1).map fun im => nats (dualN m0 im)).map ints) := by rw [List.map_map]; exact hol
  clear hst' hst hfa hga
  (refine iLdB (by assumption) (by first | rfl | simp) ?_)
  obtain ⟨hP, e1, e2⟩ := OwP.of hol
  have hvl := hol.1
  rw [List.length_map, List.length_map] at hvl
  have e2l := congrArg List.length e2
  rw [List.length_map, List.length_map] at e2l
  generalize vs.zip ((homM m0 m1 a0 a1).map fun im => nats (dualN m0 im)) = L at *
  have hevl : evL L = vs := by rw [hP.enc, e1]
  have ho' : Ow w.heap.size t_Si64 w11 fv (evL L) := by rw [hevl]; exact ho
  refine iCall ((ok_impl_sortedLists ho' (fun x hx => by rw [encV_eq (hP.1 x hx).cell]; exact (hP.1 x hx).mono (Nat.zero_le _)) (by omega)).mono ?_)
  rintro r w12 ⟨M, hM, hch, hMs, L', hp, hsub⟩
  have hP12 : OwP w.heap.size t_i64 w12 L := hP.ch hch fun p hp' k hk hk' => (hP.1 p hp').ne_ow ho' (by decide) hk hk'
  have hPM := (hP12.perm hp.symm).sub hsub
  refine ⟨hXe.thenCh hch (fun k hk => (ho'.blk k hk).1), M.map Prod.fst, by rw [← hPM.enc]; exact hM, ?_⟩
  have := hPM.to
  rw [hMs, e2] at this
  exact this
end Go.Proofs.YtfadcafacpaldaaGreat

/- Contracts: all homomorphisms between two modal algebras, in the reference. Conditions: none. -/
namespace Go.Vc
theorem iJnP {F : (List Value → World → Prop) → Prop} {K : List Value → World → Prop} (C : List Value → World → Prop) (h : ∀ J : List Value → World → Prop, (∀ xs w, C xs w → J xs w) → F J) (hK : ∀ xs w, C xs w → K xs w) : jn F K := h K hK
/-- What stands after some of the operations: two structs of one's own, two frames, an empty slice. -/
structure LS (eF tI tS : TypeId) (w0 : World) (L1 L0 : List Value) (w : World) (x1 x2 : Option (Nat × List Value)) (q1 q0 q2 : Option Value) : Prop where
  ext : Ext w0 w
  b1 : ∀ b cs, x1 = some (b, cs) → Blk eF w b cs ∧ cs.length = 2 ∧ w0.heap.size ≤ b
  b2 : ∀ b cs, x2 = some (b, cs) → Blk eF w b cs ∧ cs.length = 2 ∧ w0.heap.size ≤ b
  ne : ∀ b cs b' cs', x1 = some (b, cs) → x2 = some (b', cs') → b ≠ b'
  r1 : ∀ u, q1 = some u → Ow w0.heap.size tI w u L1
  r0 : ∀ u, q0 = some u → Ow w0.heap.size tI w u L0
  r2 : ∀ u, q2 = some u → Ow w0.heap.size tS w u []
section
variable {eF tI tS : TypeId} {w0 w : World} {L1 L0 : List Value} {x1 x2 : Option (Nat × List Value)} {q1 q0 q2 : Option Value} {P : Program}
theorem LS.later (h : LS eF tI tS w0 L1 L0 w x1 x2 q1 q0 q2) {w' : World} (x : Ext w w') : LS eF tI tS w0 L1 L0 w' x1 x2 q1 q0 q2 :=
  ⟨h.ext.trans x, fun b cs e => ⟨(h.b1 b cs e).1.ext x, (h.b1 b cs e).2⟩, fun b cs e => ⟨(h.b2 b cs e).1.ext x, (h.b2 b cs e).2⟩, h.ne, fun u e => (h.r1 u e).ext x, fun u e => (h.r0 u e).ext x, fun u e => (h.r2 u e).ext x⟩
theorem LS.all {G : World → Prop} (h : LS eF tI tS w0 L1 L0 w x1 x2 q1 q0 q2) (k : ∀ w', LS eF tI tS w0 L1 L0 w' x1 x2 q1 q0 q2 → G w') : ∀ w', Ext w w' → G w' := fun w' x => k w' (h.later x)
theorem LS.newA {z1 z2 : Value} {K : Value → World → Prop} (h : LS eF tI tS w0 L1 L0 w none none q1 q0 q2) (k : ∀ b w', Ext w w' → LS eF tI tS w0 L1 L0 w' (some (b, (Value.cells (.agg #[z1, z2])).toList)) none q1 q0 q2 → K (.pointer (some ⟨b, 0, none⟩)) w') : xNew (Value.cells (.agg #[z1, z2])) eF w K :=
  iNew fun b w' hb x hB => k b w' x ⟨h.ext.trans x, fun b' cs' e => (by cases e; exact ⟨hB, rfl, by have := h.ext.size; omega⟩), fun b' cs' e => (by cases e), fun _ _ _ _ _ e => by (cases e), fun u e => (h.r1 u e).ext x, fun u e => (h.r0 u e).ext x, fun u e => (h.r2 u e).ext x⟩
theorem LS.newB {y : Nat × List Value} {z1 z2 : Value} {K : Value → World → Prop} (h : LS eF tI tS w0 L1 L0 w (some y) none q1 q0 q2) (k : ∀ b w', Ext w w' → LS eF tI tS w0 L1 L0 w' (some y) (some (b, (Value.cells (.agg #[z1, z2])).toList)) q1 q0 q2 → K (.pointer (some ⟨b, 0, none⟩)) w') : xNew (Value.cells (.agg #[z1, z2])) eF w K :=
  iNew fun b w' hb x hB => k b w' x ⟨h.ext.trans x, fun b' cs' e => ⟨(h.b1 b' cs' e).1.ext x, (h.b1 b' cs' e).2⟩, fun b' cs' e => (by cases e; exact ⟨hB, rfl, by have := h.ext.size; omega⟩), fun b' cs' b2 cs2 e e' => (by
    cases e'
    have := (h.b1 _ _ e).1.lt
    omega), fun u e => (h.r1 u e).ext x, fun u e => (h.r0 u e).ext x, fun u e => (h.r2 u e).ext x⟩
theorem LS.bs {z : Value} {K : Value → World → Prop} (h : LS eF tI tS w0 L1 L0 w x1 x2 q1 q0 none) (k : ∀ u w', Ext w w' → LS eF tI tS w0 L1 L0 w' x1 x2 q1 q0 (some u) → K u w') : xBs tS (Value.cells z) 1 0 [] w K :=
  iBs0 fun u w' _ x hu => k u w' x ⟨(h.later x).ext, (h.later x).b1, (h.later x).b2, h.ne, (h.later x).r1, (h.later x).r0, fun u' e => (by cases e; exact hu.mono h.ext.size)⟩
theorem LS.stA {b : Nat} {cs : List Value} {a : Array Value} {K : World → Prop} (hIF : tI ≠ eF) (hSF : tS ≠ eF) (h : LS eF tI tS w0 L1 L0 w (some (b, cs)) x2 q1 q0 q2) (ha : a.size = 2) (hc : ∀ v ∈ a.toList, isCell v = true) (k : ∀ w', LS eF tI tS w0 L1 L0 w' (some (b, a.toList)) x2 q1 q0 q2 → K w') : xStA P w 2 (.pointer (some ⟨b, 0, none⟩)) (.agg a) K := by
  obtain ⟨g1, g2, g3⟩ := h.b1 b cs rfl
  refine iStAB g1 g2 ha hc fun w' hu hB => k w' ⟨h.ext.upd hu g3, fun b' cs' e => ?_, fun b' cs' e => ?_, fun b1 c1 b2 c2 e e' => ?_, fun u e => ?_, fun u e => ?_, fun u e => ?_⟩
  · cases e; exact ⟨hB, by simpa using ha, g3⟩
  · exact ⟨(h.b2 _ _ e).1.upd hu (fun e' => h.ne _ _ _ _ rfl e e'.symm), (h.b2 _ _ e).2⟩
  · cases e; exact h.ne _ _ _ _ rfl e'
  · exact (h.r1 u e).upd hu ((h.r1 u e).ne_blk g1 hIF)
  · exact (h.r0 u e).upd hu ((h.r0 u e).ne_blk g1 hIF)
  · exact (h.r2 u e).upd hu ((h.r2 u e).ne_blk g1 hSF)
theorem LS.stB {b : Nat} {cs : List Value} {a : Array Value} {K : World → Prop} (hIF : tI ≠ eF) (hSF : tS ≠ eF) (h : LS eF tI tS w0 L1 L0 w x1 (some (b, cs)) q1 q0 q2) (ha : a.size = 2) (hc : ∀ v ∈ a.toList, isCell v = true) (k : ∀ w', LS eF tI tS w0 L1 L0 w' x1 (some (b, a.toList)) q1 q0 q2 → K w') : xStA P w 2 (.pointer (some ⟨b, 0, none⟩)) (.agg a) K := by
  obtain ⟨g1, g2, g3⟩ := h.b2 b cs rfl
  refine iStAB g1 g2 ha hc fun w' hu hB => k w' ⟨h.ext.upd hu g3, fun b' cs' e => ?_, fun b' cs' e => ?_, fun b1 c1 b2 c2 e e' => ?_, fun u e => ?_, fun u e => ?_, fun u e => ?_⟩
  · exact ⟨(h.b1 _ _ e).1.upd hu (fun e' => h.ne _ _ _ _ e rfl e'), (h.b1 _ _ e).2⟩
  · cases e; exact ⟨hB, by simpa using ha, g3⟩
  · cases e'; exact h.ne _ _ _ _ e rfl
  · exact (h.r1 u e).upd hu ((h.r1 u e).ne_blk g1 hIF)
  · exact (h.r0 u e).upd hu ((h.r0 u e).ne_blk g1 hIF)
  · exact (h.r2 u e).upd hu ((h.r2 u e).ne_blk g1 hSF)
theorem LS.stA1 {b : Nat} {cs : List Value} {u : Value} {n : Int} {K : World → Prop} (hIF : tI ≠ eF) (hSF : tS ≠ eF) (h : LS eF tI tS w0 L1 L0 w (some (b, cs)) x2 (some u) q0 q2) (k : ∀ w', LS eF tI tS w0 L1 L0 w' (some (b, [.int .i64 n, u])) x2 (some u) q0 q2 → K w') : xStA P w 2 (.pointer (some ⟨b, 0, none⟩)) (.agg #[.int .i64 n, u]) K :=
  h.stA hIF hSF rfl ((h.r1 u rfl).pair n) k
theorem LS.stA0 {b : Nat} {cs : List Value} {u : Value} {n : Int} {K : World → Prop} (hIF : tI ≠ eF) (hSF : tS ≠ eF) (h : LS eF tI tS w0 L1 L0 w (some (b, cs)) x2 q1 (some u) q2) (k : ∀ w', LS eF tI tS w0 L1 L0 w' (some (b, [.int .i64 n, u])) x2 q1 (some u) q2 → K w') : xStA P w 2 (.pointer (some ⟨b, 0, none⟩)) (.agg #[.int .i64 n, u]) K :=
  h.stA hIF hSF rfl ((h.r0 u rfl).pair n) k
theorem LS.stB1 {b : Nat} {cs : List Value} {u : Value} {n : Int} {K : World → Prop} (hIF : tI ≠ eF) (hSF : tS ≠ eF) (h : LS eF tI tS w0 L1 L0 w x1 (some (b, cs)) (some u) q0 q2) (k : ∀ w', LS eF tI tS w0 L1 L0 w' x1 (some (b, [.int .i64 n, u])) (some u) q0 q2 → K w') : xStA P w 2 (.pointer (some ⟨b, 0, none⟩)) (.agg #[.int .i64 n, u]) K :=
  h.stB hIF hSF rfl ((h.r1 u rfl).pair n) k
theorem LS.stB0 {b : Nat} {cs : List Value} {u : Value} {n : Int} {K : World → Prop} (hIF : tI ≠ eF) (hSF : tS ≠ eF) (h : LS eF tI tS w0 L1 L0 w x1 (some (b, cs)) q1 (some u) q2) (k : ∀ w', LS eF tI tS w0 L1 L0 w' x1 (some (b, [.int .i64 n, u])) q1 (some u) q2 → K w') : xStA P w 2 (.pointer (some ⟨b, 0, none⟩)) (.agg #[.int .i64 n, u]) K :=
  h.stB hIF hSF rfl ((h.r0 u rfl).pair n) k
theorem LS.put1 (h : LS eF tI tS w0 L1 L0 w x1 x2 none q0 q2) {u : Value} {w' : World} (x : Ext w w') (ho : Ow w.heap.size tI w' u L1) : LS eF tI tS w0 L1 L0 w' x1 x2 (some u) q0 q2 :=
  ⟨(h.later x).ext, (h.later x).b1, (h.later x).b2, h.ne, fun _ e => (by cases e; exact ho.mono h.ext.size), (h.later x).r0, (h.later x).r2⟩
theorem LS.put0 (h : LS eF tI tS w0 L1 L0 w x1 x2 q1 none q2) {u : Value} {w' : World} (x : Ext w w') (ho : Ow w.heap.size tI w' u L0) : LS eF tI tS w0 L1 L0 w' x1 x2 q1 (some u) q2 :=
  ⟨(h.later x).ext, (h.later x).b1, (h.later x).b2, h.ne, (h.later x).r1, fun _ e => (by cases e; exact ho.mono h.ext.size), (h.later x).r2⟩
/-- What stands at the end. -/
def LSd (eF tI tS : TypeId) (w0 : World) (L1 L0 : List Value) (n1 n0 : Int) (xs : List Value) (w : World) : Prop := ∃ (b1 b0 : Nat) (u1 u0 u2 : Value), xs = [.pointer (some ⟨b1, 0, none⟩), .pointer (some ⟨b0, 0, none⟩), u2] ∧ Ext w0 w ∧ Blk eF w b1 [.int .i64 n1, u1] ∧ Blk eF w b0 [.int .i64 n0, u0] ∧ Ow w0.heap.size tI w u1 L1 ∧ Ow w0.heap.size tI w u0 L0 ∧ Ow w0.heap.size tS w u2 []
theorem LS.doneA {b b' : Nat} {u1 u0 u2 : Value} {n1 n0 : Int} (h : LS eF tI tS w0 L1 L0 w (some (b, [.int .i64 n1, u1])) (some (b', [.int .i64 n0, u0])) (some u1) (some u0) (some u2)) : LSd eF tI tS w0 L1 L0 n1 n0 [.pointer (some ⟨b, 0, none⟩), .pointer (some ⟨b', 0, none⟩), u2] w :=
  ⟨b, b', u1, u0, u2, rfl, h.ext, (h.b1 _ _ rfl).1, (h.b2 _ _ rfl).1, h.r1 _ rfl, h.r0 _ rfl, h.r2 _ rfl⟩
theorem LS.doneB {b b' : Nat} {u1 u0 u2 : Value} {n1 n0 : Int} (h : LS eF tI tS w0 L1 L0 w (some (b, [.int .i64 n0, u0])) (some (b', [.int .i64 n1, u1])) (some u1) (some u0) (some u2)) : LSd eF tI tS w0 L1 L0 n1 n0 [.pointer (some ⟨b', 0, none⟩), .pointer (some ⟨b, 0, none⟩), u2] w :=
  ⟨b', b, u1, u0, u2, rfl, h.ext, (h.b2 _ _ rfl).1, (h.b1 _ _ rfl).1, h.r1 _ rfl, h.r0 _ rfl, h.r2 _ rfl⟩
theorem iLdAx {e : TypeId} {b n : Nat} {cs : List Value} {a : Array Value} {K : Value → Prop} (hb : Blk e w b cs) (hn : cs.length = n) (ha : a = cs.toArray) (h : ∀ x, x = Value.agg a → K x) : xLdA w n (.pointer (some ⟨b, 0, none⟩)) K := iLdA hb hn (h _ (by rw [ha]))
end
end Go.Vc
namespace Go.Proofs.YtfadcafacpaldaaGreat
open Go.Vc
theorem ok_spec_l15All {w : World} {v0 v1 : Value} {m0 m1 : Nat} {a0 a1 : List Nat} (hs0 : SlN w v0 a0) (hs1 : SlN w v1 a1) (hm0 : m0 ≤ 5) (hl0 : a0.length = 2 ^ m0) (hlt0 : ∀ x ∈ a0, x < 2 ^ m0) (hm1 : m1 ≤ 5) (hl1 : a1.length = 2 ^ m1) (hlt1 : ∀ x ∈ a1, x < 2 ^ m1) :
    Cal Tryz.prog f_spec_l15All #[.agg #[.int .i64 (m0 : Int), v0], .agg #[.int .i64 (m1 : Int), v1], .int .i64 201] w fun r w' => Ext w w' ∧ RdLL w.heap.size w' r (homL m0 ((homM m0 m1 a0 a1).take 201)) := by
  apply c_spec_l15All; unfold S_spec_l15All
  refine iNew fun b3 w1 hb3 h1 hB3 => ?_
  refine iNew fun b4 w2 hb4 h2 hB4 => ?_
  have hB3 := hB3.ext h2
  have hX2 := h1.trans h2
  have hlo2 := hX2.size
  refine iJnP (LSd 34 t_i64 t_Si64 w2 (ints (nats (algFr m1 a1).a)) (ints (nats (algFr m0 a0).a)) (m1 : Int) (m0 : Int)) (fun J hJ => ?_) (fun xs w4 hC => ?_)
  · refine iLdAx (a := #[.int .i64 (m1 : Int), v1]) hB4 rfl rfl fun x12 hx12 => ?_
    refine iLdAx (a := #[.int .i64 (m0 : Int), v0]) hB3 rfl rfl fun x14 hx14 => ?_
    have hIF : t_i64 ≠ 34 := by decide
    have hSF : t_Si64 ≠ 34 := by decide
    have call1 : ∀ {w5 : World} {y1 y2 : Option (Nat × List Value)} {q0 q2 : Option Value} {K : Value → World → Prop}, LS 34 t_i64 t_Si64 w2 (ints (nats (algFr m1 a1).a)) (ints (nats (algFr m0 a0).a)) w5 y1 y2 none q0 q2 → (∀ u w', Ext w5 w' → LS 34 t_i64 t_Si64 w2 (ints (nats (algFr m1 a1).a)) (ints (nats (algFr m0 a0).a)) w' y1 y2 (some u) q0 q2 → K (.agg #[.int .i64 (m1 : Int), u]) w') → callV Tryz.prog (.func (.func f_spec_l15Frame) #[] #[]) [x12] w5 K := by
      intro w5 y1 y2 q0 q2 K h k
      subst hx12
      refine iCall ((ok_spec_l15FrameO ((hs1.ext hX2).ext h.ext) hm1 hl1 hlt1).mono ?_)
      rintro _ w6 ⟨x, u, rfl, ho⟩
      exact k u w6 x (h.put1 x ho)
    have call0 : ∀ {w5 : World} {y1 y2 : Option (Nat × List Value)} {q1 q2 : Option Value} {K : Value → World → Prop}, LS 34 t_i64 t_Si64 w2 (ints (nats (algFr m1 a1).a)) (ints (nats (algFr m0 a0).a)) w5 y1 y2 q1 none q2 → (∀ u w', Ext w5 w' → LS 34 t_i64 t_Si64 w2 (ints (nats (algFr m1 a1).a)) (ints (nats (algFr m0 a0).a)) w' y1 y2 q1 (some u) q2 → K (.agg #[.int .i64 (m0 : Int), u]) w') → callV Tryz.prog (.func (.func f_spec_l15Frame) #[] #[]) [x14] w5 K := by
      intro w5 y1 y2 q1 q2 K h k
      subst hx14
      refine iCall ((ok_spec_l15FrameO ((hs0.ext hX2).ext h.ext) hm0 hl0 hlt0).mono ?_)
      rintro _ w6 ⟨x, u, rfl, ho⟩
      exact k u w6 x (h.put0 x ho)
    clear hs0 hs1 hl0 hl1 hlt0 hlt1 hB3 hB4
    have hLS : LS 34 t_i64 t_Si64 w2 (ints (nats (algFr m1 a1).a)) (ints (nats (algFr m0 a0).a)) w2 none none none none none :=
      ⟨Ext.refl _, fun _ _ e => (by cases e), fun _ _ e => (by cases e), fun _ _ _ _ e => (by cases e), fun _ e => (by cases e), fun _ e => (by cases e), fun _ e => (by cases e)⟩
    repeat' with_reducible first
      | refine LS.all (by assumption) fun _ _ => ?_
      | refine ⟨(by assumption), ?_⟩
      | refine And.intro ?_ ?_
      | refine call1 (by assumption) fun _ _ _ _ => ?_
      | refine call0 (by assumption) fun _ _ _ _ => ?_
      | refine LS.bs (by assumption) fun _ _ _ _ => ?_
      | refine LS.newA (by assumption) fun _ _ _ _ => ?_
      | refine LS.newB (by assumption) fun _ _ _ _ => ?_
      | refine LS.stA1 hIF hSF (by assumption) fun _ _ => ?_
      | refine LS.stA0 hIF hSF (by assumption) fun _ _ => ?_
      | refine LS.stB1 hIF hSF (by assumption) fun _ _ => ?_
      | refine LS.stB0 hIF hSF (by assumption) fun _ _ => ?_
      | exact hJ _ _ (LS.doneA (by assumption))
      | exact hJ _ _ (LS.doneB (by assumption))
  · obtain ⟨b7, b8, u1, u0, u2, rfl, hX4, hB7, hB8, ho1, ho0, ho2⟩ := hC
    intro _
    simp only [gx]
    have hX := hX2.trans hX4
    have hfa : SlN w4 u1 (algFr m1 a1).a := ho1.sl
    have hga : SlN w4 u0 (algFr m0 a0).a := ho0.sl
    have ho2 := ho2.mono hlo2
    ((with_reducible refine iLdA (by assumption) ?_ ?_); rfl; (with_reducible refine iLdA (by assumption) ?_ ?_); rfl)
    refine iCall ((ok_spec_l08Find (algFr_ok a1 (show m1 ≤ 8 by omega)) (algFr_ok a0 (show m0 ≤ 8 by omega)) (onto := false) (one := false) hfa hga (most := 201) (by omega) (by omega)).mono ?_)
    rintro v w5 ⟨h, vs, ho, hol⟩
    have hlo4 := hX.size
    rw [ref_eq (algFr_ok a1 (show m1 ≤ 8 by omega)) (algFr_ok a0 (show m0 ≤ 8 by omega)) (fun h => by cases h)] at hol
    have hne2 : ∀ c, u2.ownBlock = some c → v.ownBlock ≠ some c := fun c hc hc' => by have := (ho2.blk c hc).2; have := (ho.blk c hc').1; omega
    have ho2 := ho2.ext h
    have hB8 := hB8.ext h
    have hX := hX.trans h
    generalize hL : (leaves (fitsB (algFr m1 a1) (algFr m0 a0) false false) (algFr m0 a0).n (algFr m1 a1).n []).take 201 = L at *
    have hLh : (homM m0 m1 a0 a1).take 201 = L := hL
    have hLm : ∀ im ∈ L, im.length = m1 ∧ ∀ y ∈ im, y < m0 := fun im hi => homM_mem (a0 := a0) (a1 := a1) im (List.mem_of_mem_take (by rw [hLh]; exact hi))
    have hLl : L.length ≤ 201 := by rw [← hL, List.length_take]; omega
    have hvl := hol.1
    rw [List.length_map] at hvl
    clear hX4 hB7 ho1 ho0 hfa hga hX2 hB3 hB4 h1 h2 hs0 hs1
    refine iLp (fun s : Nat × Value => [s.2, .int .i64 (s.1 : Int)]) (fun s w' => s.1 ≤ L.length ∧ Ext w w' ∧ Blk 34 w' b8 [.int .i64 (m0 : Int), u0] ∧ Ow w4.heap.size t_Si64 w' v vs ∧ OwL w4.heap.size t_i64 w' vs (L.map fun l => ints (nats l)) ∧ (∀ c, s.2.ownBlock = some c → v.ownBlock ≠ some c) ∧ ∃ P : List VL, Ow w.heap.size t_Si64 w' s.2 (P.map Prod.fst) ∧ OwP w.heap.size t_i64 w' P ∧ P.map Prod.snd = (L.take s.1).map fun im => nats (dualN m0 im)) (fun s => L.length - s.1) (0, u2) rfl ⟨Nat.zero_le _, hX, hB8, ho, hol, hne2, [], ho2, ⟨fun p hp => (by cases hp), List.Pairwise.nil⟩, rfl⟩ ?_
    rintro ⟨i, o⟩ w6 Kn ⟨hi, hX, hB6, hv6, hl6, hn6, P, hP, hQ, hPs⟩ hKn
    have hi : i ≤ L.length := hi
    have hn6 : ∀ c, o.ownBlock = some c → v.ownBlock ≠ some c := hn6
    have hP : Ow w.heap.size t_Si64 w6 o (P.map Prod.fst) := hP
    have hPs : P.map Prod.snd = (L.take i).map fun im => nats (dualN m0 im) := hPs
    have hPl : P.length = i := by
      have := congrArg List.length hPs
      rw [List.length_map, List.length_map, List.length_take] at this
      omega
    intro _
    simp only [gx]
    refine iLenS hv6.sl ?_
    rw [hvl]
    refine iLt ?_
    refine iCndP (fun h3 => ?_) (fun h3 => ?_)
    · have hi1 : i < L.length := by omega
      have hiv : i < vs.length := by omega
      have him := hLm L[i] (List.getElem_mem hi1)
      have hrow : SlN w6 vs[i] L[i] := by
        have := (hl6.at hiv (by simpa using hi1)).sl
        rw [List.getElem_map] at this
        exact this
      ((with_reducible refine iJn ?_); (with_reducible refine iLdA (by assumption) ?_ ?_); rfl)
      refine iIaV hv6.sl hiv fun p hp => ?_
      refine iLd hp ?_
      intro w7 h
      have hrow := hrow.ext h
      have hX := hX.trans h
      have hB6 := hB6.ext h
      have hv6 := hv6.ext h
      have hl6 := hl6.ext h
      have hP := hP.ext h
      have hQ := hQ.ext h
      refine iCall ((ok_spec_l15Dual (lo := w7.heap.size) hrow (by omega) m0 hm0 him.2 (Nat.le_refl _)).mono ?_)
      rintro nr w8 ⟨h, hnr⟩
      (try refine ⟨h, ?_⟩)
      have hnew : ∀ q ∈ P, ∀ c, nr.ownBlock = some c → q.1.ownBlock ≠ some c := fun q hq c hc hc' => by have := ((hQ.1 q hq).blk c hc').2; have := (hnr.blk c hc).1; omega
      have hsz7 := hX.size
      have hX := hX.trans h
      have hB6 := hB6.ext h
      have hv6 := hv6.ext h
      have hl6 := hl6.ext h
      have hP := hP.ext h
      have hQ := hQ.ext h
      intro w9 h
      have hX := hX.trans h
      have hB6 := hB6.ext h
      have hv6 := hv6.ext h
      have hl6 := hl6.ext h
      have hP := hP.ext h
      have hQ := hQ.ext h
      have hnr := hnr.ext h
      refine iBs1 rfl hnr.cell fun bb w10 hbb h hB => ?_
      (try refine ⟨h, ?_⟩)
      have hX := hX.trans h
      have hB6 := hB6.ext h
      have hv6 := hv6.ext h
      have hl6 := hl6.ext h
      have hP := hP.ext h
      have hQ := hQ.ext h
      have hnr := hnr.ext h
      intro w11 h
      have hX := hX.trans h
      have hB6 := hB6.ext h
      have hv6 := hv6.ext h
      have hl6 := hl6.ext h
      have hP := hP.ext h
      have hQ := hQ.ext h
      have hnr := hnr.ext h
      have hB := hB.ext h
      have hsz11 := hX.size
      have hml : (P.map Prod.fst).length = i := by rw [List.length_map, hPl]
      refine iAppA u_SSi64 i_SSi64 rfl hP (Sl.ofBlk hB rfl (by omega)) (fun u hu => by simp at hu; subst hu; exact hnr.cell) (by rw [hml]; simp; omega) (by rw [hml]; simp; omega) (by omega) fun o' w12 ho' hg hat => ?_
      have hg6 := grown_ch (S := fun k => o.ownBlock = some k) hg fun k hk => hk
      have hX12 := hX.grown hg fun c hc => (hP.blk c hc).1
      have hB12 := hB6.grown hg (hP.ne_blk hB6 (by decide))
      have hv12 := hv6.ch hg6 fun k hk he => hn6 k he hk
      have hl12 := hl6.ch hg6 fun u hu k hk he => by
        obtain ⟨x, hx⟩ := hl6.ow hu
        exact hx.ne_ow hP (by decide) hk he
      have hQ12 := hQ.ch hg6 fun q hq k hk he => (hQ.1 q hq).ne_ow hP (by decide) hk he
      have hnr12 := hnr.ch hg6 fun k hk he => hnr.ne_ow hP (by decide) hk he
      have hn12 : ∀ c, o'.ownBlock = some c → v.ownBlock ≠ some c := fun c hc hc' => by
        rcases hat with e | ⟨c', e, hc2⟩
        · exact hn6 c (by rw [← e]; exact hc) hc'
        · rw [e] at hc; cases hc
          have := (hv6.blk c hc').2; omega
      intro w13 h13
      intro _
      simp only [gx]
      refine iAdd (by omega) ?_
      refine hKn (i + 1, o') _ ⟨by show i + 1 ≤ L.length; omega, hX12.trans h13, hB12.ext h13, hv12.ext h13, hl12.ext h13, hn12, P ++ [(nr, nats (dualN m0 L[i]))], ?_, ?_, ?_⟩ (by show L.length - (i + 1) < L.length - i; omega)
      · have := ho'.ext h13
        simpa using this
      · have hQ13 := hQ12.ext h13
        refine ⟨fun q hq => ?_, List.pairwise_append.2 ⟨hQ13.2, List.pairwise_singleton _ _, fun q hq q' hq' c hc hc' => ?_⟩⟩
        · rcases List.mem_append.1 hq with hq | hq
          · exact hQ13.1 q hq
          · simp at hq; subst hq
            exact (hnr12.ext h13).mono (by omega)
        · simp at hq'; subst hq'
          exact hnew q hq c hc' hc
      · show (P ++ [(nr, nats (dualN m0 L[i]))]).map Prod.snd = (L.take (i + 1)).map fun im => nats (dualN m0 im)
        rw [List.map_append, hPs, List.take_succ_eq_append_getElem hi1, List.map_append]; rfl
    · obtain rfl : i = L.length := by omega
      rw [List.take_length] at hPs
      have h32 : 2 ^ m0 ≤ 32 := Nat.pow_le_pow_right (i := m0) (j := 5) (by omega) hm0
      refine iCall ((ok_spec_l04Sorted hP.sl (fun q hq => (hQ.1 q hq).sl) (fun q hq => ?_) (by omega)).mono ?_)
      · have : q.2 ∈ P.map Prod.snd := List.mem_map_of_mem hq
        rw [hPs] at this
        obtain ⟨im, _, e⟩ := List.mem_map.1 this
        rw [← e, nats_length]
        unfold dualN
        rw [dualK_len]; omega
      · rintro r w7 ⟨h7, hr⟩
        rw [hPs] at hr
        rw [hLh]
        exact ⟨hX.trans h7, hr.mono hX.size⟩
end Go.Proofs.YtfadcafacpaldaaGreat

/- Contracts: AllHomomorphisms in the program and in the reference. Conditions: none. -/
namespace Go.Proofs.YtfadcafacpaldaaGreat
open Go.Vc
theorem ok_impl_AllHomomorphisms {w : World} {v0 v1 : Value} {l0 l1 : List Int} (hs0 : SlI w v0 l0) (hs1 : SlI w v1 l1) (n0 n1 : Int) : Cal Tryz.prog f_impl_AllHomomorphisms #[.agg #[.int .i64 n0, v0], .agg #[.int .i64 n1, v1]] w fun r w' => Ext w w' ∧ ∃ v, r = .tuple #[v, .int .i64 (homOut n0 l0 n1 l1).2] ∧ RdLL w.heap.size w' v (homOut n0 l0 n1 l1).1 := by
  apply c_impl_AllHomomorphisms; unfold S_impl_AllHomomorphisms
  have hX := Ext.refl w
  refine iNew fun b2 w1 hb2 h hB2 => ?_
  have hX := hX.trans h
  refine iNew fun b3 w2 hb3 h hB3 => ?_
  have hX := hX.trans h
  have hB2 := hB2.ext h
  refine iJnB (!(algOk n0 l0 && algOk n1 l1)) w2 (fun J hJ => ?_) (fun w4 h => ?_)
  · ((with_reducible refine iLdA (by assumption) ?_ ?_); rfl)
    refine iRet (ok_impl_isModalAlgebra (hs0.ext hX) n0) fun w5 h => ?_
    have hB3 := hB3.ext h
    ((with_reducible refine iNot ?_))
    cases h0 : algOk n0 l0
    · refine iCndT rfl ?_
      have := hJ w5 h
      rwa [h0] at this
    · refine iCndF rfl ?_
      ((with_reducible refine iLdA (by assumption) ?_ ?_); rfl)
      refine iRet (ok_impl_isModalAlgebra (hs1.ext (hX.trans h)) n1) fun w6 h6 => ?_
      ((with_reducible refine iNot ?_))
      have := hJ w6 (h.trans h6)
      rwa [h0, Bool.true_and] at this
  have hX := hX.trans h
  have hB2 := hB2.ext h
  have hB3 := hB3.ext h
  (intro _; (try simp only [gx]))
  unfold homOut
  cases hfr : algOk n0 l0 && algOk n1 l1
  · refine iCndT rfl ?_
    exact ⟨hX, _, rfl, [], Ow.nil _ _ _, OwL.nil _ _ _⟩
  · refine iCndF rfl ?_
    rw [Bool.and_eq_true] at hfr
    obtain ⟨m0, a0, rfl, rfl, hm0, hl0, hlt0, e1, e2⟩ := algOk_of hfr.1
    obtain ⟨m1, a1, rfl, rfl, hm1, hl1, hlt1, e3, e4⟩ := algOk_of hfr.2
    rw [e1, e2, e3, e4]
    ((with_reducible refine iLdA (by assumption) ?_ ?_); rfl; (with_reducible refine iLdA (by assumption) ?_ ?_); rfl)
    refine iCall ((ok_impl_homomorphisms (hs0.ext hX) (hs1.ext hX) hm0 hl0 hlt0 hm1 hl1 hlt1).mono ?_)
    rintro r w5 ⟨h, vs, ho, hol⟩
    have hlo := hX.size
    have hX := hX.trans h
    have hvl := hol.1
    rw [List.length_map] at hvl
    have hsl := ho.sl
    generalize homL m0 (homM m0 m1 a0 a1) = L at *
    refine iLenS hsl ?_
    rw [hvl]
    ((with_reducible refine iLt ?_))
    refine iCndP (fun h => ?_) (fun h => ?_)
    · rw [if_pos rfl, if_pos (show 200 < L.length by omega)]
      exact ⟨hX, _, rfl, [], Ow.nil _ _ _, OwL.nil _ _ _⟩
    · rw [if_pos rfl, if_neg (show ¬ 200 < L.length by omega)]
      exact ⟨hX, _, rfl, vs, ho.mono hlo, hol.mono hlo⟩
theorem ok_spec_AllHomomorphisms {w : World} {v0 v1 : Value} {l0 l1 : List Int} (hs0 : SlI w v0 l0) (hs1 : SlI w v1 l1) (n0 n1 : Int) : Cal Tryz.prog f_spec_AllHomomorphisms #[.agg #[.int .i64 n0, v0], .agg #[.int .i64 n1, v1]] w fun r w' => Ext w w' ∧ ∃ v, r = .tuple #[v, .int .i64 (homOut n0 l0 n1 l1).2] ∧ RdLL w.heap.size w' v (homOut n0 l0 n1 l1).1 := by
  apply c_spec_AllHomomorphisms; unfold S_spec_AllHomomorphisms
  have hX := Ext.refl w
  refine iNew fun b2 w1 hb2 h hB2 => ?_
  have hX := hX.trans h
  refine iNew fun b3 w2 hb3 h hB3 => ?_
  have hX := hX.trans h
  have hB2 := hB2.ext h
  refine iJnB (!(algOk n0 l0 && algOk n1 l1)) w2 (fun J hJ => ?_) (fun w4 h => ?_)
  · ((with_reducible refine iLdA (by assumption) ?_ ?_); rfl)
    refine iRet (ok_spec_l15Is (hs0.ext hX) n0) fun w5 h => ?_
    have hB3 := hB3.ext h
    ((with_reducible refine iNot ?_))
    cases h0 : algOk n0 l0
    · refine iCndT rfl ?_
      have := hJ w5 h
      rwa [h0] at this
    · refine iCndF rfl ?_
      ((with_reducible refine iLdA (by assumption) ?_ ?_); rfl)
      refine iRet (ok_spec_l15Is (hs1.ext (hX.trans h)) n1) fun w6 h6 => ?_
      ((with_reducible refine iNot ?_))
      have := hJ w6 (h.trans h6)
      rwa [h0, Bool.true_and] at this
  have hX := hX.trans h
  have hB2 := hB2.ext h
  have hB3 := hB3.ext h
  (intro _; (try simp only [gx]))
  unfold homOut
  cases hfr : algOk n0 l0 && algOk n1 l1
  · refine iCndT rfl ?_
    exact ⟨hX, _, rfl, [], Ow.nil _ _ _, OwL.nil _ _ _⟩
  · refine iCndF rfl ?_
    rw [Bool.and_eq_true] at hfr
    obtain ⟨m0, a0, rfl, rfl, hm0, hl0, hlt0, e1, e2⟩ := algOk_of hfr.1
    obtain ⟨m1, a1, rfl, rfl, hm1, hl1, hlt1, e3, e4⟩ := algOk_of hfr.2
    rw [e1, e2, e3, e4]
    ((with_reducible refine iLdA (by assumption) ?_ ?_); rfl; (with_reducible refine iLdA (by assumption) ?_ ?_); rfl)
    refine iCall ((ok_spec_l15All (hs0.ext hX) (hs1.ext hX) hm0 hl0 hlt0 hm1 hl1 hlt1).mono ?_)
    rintro r w5 ⟨h, vs, ho, hol⟩
    have hlo := hX.size
    have hX := hX.trans h
    have hvl := hol.1
    rw [List.length_map] at hvl
    have hsl := ho.sl
    have htk := homL_take (n := m0) (homM_nodup (m0 := m0) (m1 := m1) (a0 := a0) (a1 := a1)) homM_mem
    rw [if_pos rfl, ← htk]
    generalize homL m0 ((homM m0 m1 a0 a1).take 201) = L at *
    refine iLenS hsl ?_
    rw [hvl]
    ((with_reducible refine iLt ?_))
    refine iCndP (fun h => ?_) (fun h => ?_)
    · rw [if_pos (show 200 < L.length by omega)]
      exact ⟨hX, _, rfl, [], Ow.nil _ _ _, OwL.nil _ _ _⟩
    · rw [if_neg (show ¬ 200 < L.length by omega)]
      exact ⟨hX, _, rfl, vs, ho.mono hlo, hol.mono hlo⟩
end Go.Proofs.YtfadcafacpaldaaGreat

/- Plain law of duals: the dual of a morphism between the frames of two algebras is a homomorphism. No program in sight. Conditions: none. -/
namespace Go.Vc
theorem algMask_testBit (a : List Nat) (n w u : Nat) (hu : u < n) : (algMask a n w n).testBit u = !(a.getD (2 ^ n - 1 - 2 ^ u) 0).testBit w := by
  unfold algMask
  rw [setOf_testBit]
  cases h : (a.getD (2 ^ n - 1 - 2 ^ u) 0).testBit w
  · rw [Bool.not_false, List.contains_iff_mem, List.mem_filter]
    exact ⟨List.mem_range.2 hu, by rw [h]; rfl⟩
  · rw [Bool.not_true, ← Bool.not_eq_true, List.contains_iff_mem, List.mem_filter]
    rintro ⟨_, h'⟩
    rw [h] at h'; cases h'
theorem alg_meet {a : List Nat} (h : algIn a = true) {x y : Nat} (hx : x < a.length) (hy : y < a.length) : a.getD (x &&& y) 0 = a.getD x 0 &&& a.getD y 0 := by
  unfold algIn at h
  rw [Bool.and_eq_true, List.all_eq_true] at h
  have key : ∀ x y, x < a.length → y < x → a.getD (x &&& y) 0 = a.getD x 0 &&& a.getD y 0 := fun x y hx hy => by
    have := h.2 x (List.mem_range.2 hx)
    rw [List.all_eq_true] at this
    have := this y (List.mem_range.2 hy)
    unfold pairB at this
    exact of_decide_eq_true this
  rcases Nat.lt_trichotomy x y with h1 | h1 | h1
  · rw [Nat.and_comm x y, Nat.and_comm (a.getD x 0)]
    exact key y x hy h1
  · subst h1; rw [Nat.and_self, Nat.and_self]
  · exact key x y hx h1
theorem alg_full {a : List Nat} {n : Nat} (h : algIn a = true) (hl : a.length = 2 ^ n) : a.getD (2 ^ n - 1) 0 = 2 ^ n - 1 := by
  unfold algIn at h
  rw [Bool.and_eq_true, decide_eq_true_eq, hl] at h
  exact h.1
/-- All but those of the first k that x has not. -/
def upTo (n x : Nat) : Nat → Nat
  | 0 => 2 ^ n - 1
  | k + 1 => if x.testBit k then upTo n x k else upTo n x k &&& (2 ^ n - 1 - 2 ^ k)
theorem upTo_testBit {n x : Nat} : ∀ (k : Nat), k ≤ n → ∀ i, (upTo n x k).testBit i = (decide (i < n) && (x.testBit i || decide (k ≤ i)))
  | 0, _, i => by
    show (2 ^ n - 1).testBit i = _
    rw [full_testBit]
    cases x.testBit i <;> simp
  | k + 1, hk, i => by
    unfold upTo
    have ih := upTo_testBit (n := n) (x := x) k (by omega) i
    by_cases hb : x.testBit k = true
    · rw [if_pos hb, ih]
      by_cases hik : i = k
      · subst hik; rw [hb]; simp
      · rw [show decide (k + 1 ≤ i) = decide (k ≤ i) from decide_eq_decide.2 (by omega)]
    · rw [if_neg hb, Nat.testBit_and, ih, ← sdiff_full (show k < n by omega), testBit_sdiff, full_testBit, Nat.testBit_two_pow]
      by_cases hik : i = k
      · subst hik
        have hb : x.testBit i = false := by simpa using hb
        rw [hb]; simp
      · rw [decide_eq_false (show ¬ k = i by omega), show decide (k + 1 ≤ i) = decide (k ≤ i) from decide_eq_decide.2 (by omega)]
        cases decide (i < n) <;> simp
theorem upTo_lt {n x k : Nat} (hk : k ≤ n) : upTo n x k < 2 ^ n := by
  refine Nat.lt_pow_two_of_testBit _ fun i hi => ?_
  rw [upTo_testBit k hk, decide_eq_false (by omega)]; rfl
theorem upTo_end {n x : Nat} (hx : x < 2 ^ n) : upTo n x n = x := by
  apply Nat.eq_of_testBit_eq
  intro i
  rw [upTo_testBit n (Nat.le_refl _)]
  by_cases hi : i < n
  · rw [decide_eq_true hi, decide_eq_false (show ¬ n ≤ i by omega)]; simp
  · rw [decide_eq_false hi, Nat.testBit_lt_two_pow (Nat.lt_of_lt_of_le hx (Nat.pow_le_pow_right (by omega) (by omega)))]; rfl
/-- An algebra's operation: where all that is seen lies in x. -/
theorem alg_box {a : List Nat} {n : Nat} (h : algIn a = true) (hl : a.length = 2 ^ n) {x w : Nat} (hx : x < 2 ^ n) (hw : w < n) : (a.getD x 0).testBit w = true ↔ ∀ u, u < n → (algMask a n w n).testBit u = true → x.testBit u = true := by
  have key : ∀ k, k ≤ n → ((a.getD (upTo n x k) 0).testBit w = true ↔ ∀ u, u < k → (algMask a n w n).testBit u = true → x.testBit u = true) := by
    intro k
    induction k with
    | zero =>
      intro _
      rw [show upTo n x 0 = 2 ^ n - 1 from rfl, alg_full h hl, full_testBit]
      exact ⟨fun _ u hu => by omega, fun _ => decide_eq_true hw⟩
    | succ k ih =>
      intro hk
      have ih := ih (by omega)
      have hkn : k < n := by omega
      unfold upTo
      by_cases hb : x.testBit k = true
      · rw [if_pos hb, ih]
        constructor
        · intro hh u hu hm
          by_cases e : u = k
          · rw [e]; exact hb
          · exact hh u (by omega) hm
        · exact fun hh u hu hm => hh u (by omega) hm
      · rw [if_neg hb, alg_meet h (x := upTo n x k) (y := 2 ^ n - 1 - 2 ^ k) (by rw [hl]; exact upTo_lt (n := n) (x := x) (k := k) (by omega)) (by rw [hl]; exact Nat.lt_of_le_of_lt (Nat.sub_le _ _) (Nat.sub_lt (Nat.two_pow_pos n) (by decide))), Nat.testBit_and, Bool.and_eq_true, ih]
        have hm := algMask_testBit a n w k hkn
        constructor
        · rintro ⟨hh, h2⟩ u hu hmu
          by_cases e : u = k
          · subst e
            rw [hm, h2] at hmu; cases hmu
          · exact hh u (by omega) hmu
        · intro hh
          refine ⟨fun u hu hmu => hh u (by omega) hmu, ?_⟩
          cases hc : (a.getD (2 ^ n - 1 - 2 ^ k) 0).testBit w with
          | true => rfl
          | false =>
            rw [hc] at hm
            exact absurd (hh k (by omega) hm) hb
  have := key n (Nat.le_refl _)
  rwa [upTo_end hx] at this
theorem dualN_get {n : Nat} {im : List Nat} {x : Nat} (hx : x < 2 ^ n) : (dualN n im).getD x 0 = pullN im x := by
  unfold dualN dualK
  simp [List.getD_eq_getElem?_getD, hx]
theorem pullN_lt (im : List Nat) (m : Nat) : pullN im m < 2 ^ im.length := pullK_lt im m im.length
theorem pullN_and (im : List Nat) (x y : Nat) : pullN im (x &&& y) = pullN im x &&& pullN im y := by
  apply Nat.eq_of_testBit_eq
  intro i
  rw [Nat.testBit_and]
  by_cases hi : i < im.length
  · rw [pullN_testBit _ _ _ hi, pullN_testBit _ _ _ hi, pullN_testBit _ _ _ hi, Nat.testBit_and]
  · have h2 : 2 ^ im.length ≤ 2 ^ i := Nat.pow_le_pow_right (by omega) (by omega)
    rw [Nat.testBit_lt_two_pow (Nat.lt_of_lt_of_le (pullN_lt im _) h2), Nat.testBit_lt_two_pow (Nat.lt_of_lt_of_le (pullN_lt im x) h2)]; rfl
theorem pullN_not {im : List Nat} {n : Nat} (hy : ∀ y ∈ im, y < n) (x : Nat) : pullN im (sdiff (2 ^ n - 1) x) = sdiff (2 ^ im.length - 1) (pullN im x) := by
  apply Nat.eq_of_testBit_eq
  intro i
  rw [testBit_sdiff, full_testBit]
  by_cases hi : i < im.length
  · rw [pullN_testBit _ _ _ hi, pullN_testBit _ _ _ hi, testBit_sdiff, full_testBit, decide_eq_true hi, decide_eq_true (getD_lt hy hi)]
  · have h2 : 2 ^ im.length ≤ 2 ^ i := Nat.pow_le_pow_right (by omega) (by omega)
    rw [Nat.testBit_lt_two_pow (Nat.lt_of_lt_of_le (pullN_lt im _) h2), decide_eq_false hi]; rfl
/-- The dual keeps the operation. -/
theorem pullN_box {a0 a1 : List Nat} {m0 m1 : Nat} {im : List Nat} (h0 : algIn a0 = true) (hl0 : a0.length = 2 ^ m0) (h1 : algIn a1 = true) (hl1 : a1.length = 2 ^ m1) (hlt1 : ∀ x ∈ a1, x < 2 ^ m1) (hl : im.length = m1) (hy : ∀ y ∈ im, y < m0)
    (hf : ∀ x, x < m1 → img im ((algFr m1 a1).a.getD x 0) = (algFr m0 a0).a.getD (im.getD x 0) 0) {x : Nat} (hx : x < 2 ^ m0) : pullN im (a0.getD x 0) = a1.getD (pullN im x) 0 := by
  have fr : ∀ {n : Nat} (a : List Nat) {w : Nat}, w < n → (algFr n a).a.getD w 0 = algMask a n w n := fun {n} a {w} hw => by simp [algFr, List.getD_eq_getElem?_getD, hw]
  have hp : pullN im x < 2 ^ m1 := by have := pullN_lt im x; rwa [hl] at this
  have ha1 : a1.getD (pullN im x) 0 < 2 ^ m1 := getD_lt hlt1 (by rw [hl1]; exact hp)
  apply Nat.eq_of_testBit_eq
  intro w
  by_cases hw : w < m1
  · rw [pullN_testBit _ _ _ (by omega), Bool.eq_iff_iff, alg_box h0 hl0 hx (getD_lt hy (by omega)), alg_box h1 hl1 hp hw]
    have e := hf w hw
    rw [fr a1 hw, fr a0 (getD_lt hy (by omega))] at e
    rw [← e]
    constructor
    · intro hh v hv hm
      rw [pullN_testBit _ _ _ (by omega)]
      exact hh _ (getD_lt hy (by omega)) ((img_testBit _ _ _).2 ⟨v, by omega, hm, rfl⟩)
    · intro hh u _ hm
      obtain ⟨v, hv, hv2, rfl⟩ := (img_testBit _ _ _).1 hm
      have := hh v (by omega) hv2
      rwa [pullN_testBit _ _ _ hv] at this
  · have h2 : 2 ^ m1 ≤ 2 ^ w := Nat.pow_le_pow_right (by omega) (by omega)
    rw [Nat.testBit_lt_two_pow (Nat.lt_of_lt_of_le (by have := pullN_lt im (a0.getD x 0); rwa [hl] at this) h2), Nat.testBit_lt_two_pow (Nat.lt_of_lt_of_le ha1 h2)]
end Go.Vc

/- The laws' helpers: sizes of codes, equal lists and frames. Conditions: none. -/
namespace Go.Vc
end Go.Vc
namespace Go.Proofs.YtfadcafacpaldaaGreat
open Go.Vc
theorem ok_laws_big {vc : Value} {w : World} {bs : List Nat} (hc : SlB w vc bs) : Ret Tryz.prog f_laws_big #[vc] w (.bool (decide ((4096 : Int) < (bs.length : Nat)))) := by
  apply c_laws_big; unfold S_laws_big
  refine iLenB hc ?_
  refine iLt ?_
  exact ⟨rfl, Ext.refl _⟩
theorem ok_laws_likeInts {v v' : Value} {w : World} {l l' : List Int} (hs : SlI w v l) (hs' : SlI w v' l') : Ret Tryz.prog f_laws_likeInts #[v, v'] w (.bool (decide (l = l'))) := by
  apply c_laws_likeInts; unfold S_laws_likeInts
  have hl := hs.len
  have hl' := hs'.len
  ((with_reducible refine iLenI (by assumption) ?_; refine iLenI (by assumption) ?_; refine iNe ?_))
  refine iCndP (fun h => ?_) (fun h => ?_)
  · rw [decide_eq_false (fun e => h (by rw [e]))]
    exact ⟨rfl, Ext.refl _⟩
  · have h : l.length = l'.length := by omega
    refine iLp (fun k : Nat => [.int .i64 (k : Int)]) (fun k w' => k ≤ l.length ∧ Ext w w' ∧ l.take k = l'.take k) (fun k => l.length - k) 0 rfl ⟨Nat.zero_le _, Ext.refl _, by simp⟩ ?_
    rintro k w2 Kn ⟨hk, h2, he⟩ hKn
    have hs2 := hs.ext h2
    have hs2' := hs'.ext h2
    (intro _; (try simp only [gx]); (with_reducible refine iLenI (by assumption) ?_; refine iLt ?_))
    refine iCndP (fun h3 => ?_) (fun h3 => ?_)
    · have hk1 : k < l.length := by omega
      have hk2 : k < l'.length := by omega
      have e1 : l.getD k 0 = l[k] := by simp [List.getD_eq_getElem?_getD, hk1]
      have e2 : l'.getD k 0 = l'[k] := by simp [List.getD_eq_getElem?_getD, hk2]
      ((with_reducible refine iIaN (by assumption) ?_ (fun pa_ hpa_ => ?_)); omega; (with_reducible refine iLd (by assumption) ?_); (with_reducible refine iIaN (by assumption) ?_ (fun pa_ hpa_ => ?_)); omega; (with_reducible refine iLd (by assumption) ?_; refine iNe ?_))
      rw [e1, e2]
      intro w3 h4
      refine iCndP (fun h5 => ?_) (fun h5 => ?_)
      · rw [decide_eq_false (fun e => by subst e; exact h5 rfl)]
        exact ⟨rfl, h2.trans h4⟩
      · (refine iAdd (by omega) ?_)
        refine hKn (k + 1) _ ⟨by omega, h2.trans h4, ?_⟩ (by omega)
        rw [List.take_succ_eq_append_getElem hk1, List.take_succ_eq_append_getElem hk2, he]
        congr 2
        exact Classical.not_not.1 h5
    · obtain rfl : k = l.length := by omega
      rw [List.take_length, h, List.take_length] at he
      rw [decide_eq_true he]
      exact ⟨rfl, h2⟩
end Go.Proofs.YtfadcafacpaldaaGreat

/- Contracts: maps between frames, their duals, what a homomorphism is, rows of rows compared. Conditions: none. -/
namespace Go.Vc
theorem nats_any_not {l : List Nat} {p : Int → Bool} (h : ∀ y ∈ l, p (y : Int) = true) : (nats l).any (fun y => !p y) = false := by
  rw [List.any_eq_false]
  intro y hy
  obtain ⟨x, hx, rfl⟩ := List.mem_map.1 hy
  have := h x hx
  show ¬ (!p (Int.ofNat x)) = true
  rw [show p (Int.ofNat x) = true from this]; simp
theorem sdiff_le_full {m x : Nat} (_h : x < 2 ^ m) : sdiff (2 ^ m - 1) x < 2 ^ m := by
  have := Nat.two_pow_pos m
  exact sdiff_lt (by omega)
end Go.Vc
namespace Go.Proofs.YtfadcafacpaldaaGreat
open Go.Vc
/-- A frame without faults. -/
theorem frameOk_of {f : Fr} (hf : f.ok) : frameOk (f.n : Int) (nats f.a) = true := by
  obtain ⟨h1, h2, h3⟩ := hf
  unfold frameOk
  rw [Bool.and_eq_true, Bool.and_eq_true, decide_eq_true_eq, decide_eq_true_eq, List.all_eq_true, Int.toNat_natCast, nats_length]
  refine ⟨⟨by omega, by omega⟩, fun x hx => ?_⟩
  obtain ⟨y, hy, rfl⟩ := List.mem_map.1 hx
  have := h3 y hy
  unfold maskB
  rw [decide_eq_true_eq]
  show 0 ≤ ((y : Nat) : Int) ∧ ((y : Nat) : Int) ≤ _
  omega
theorem ok_impl_Frame_hasWorld {v : Value} (n x : Int) (hn : -1000 ≤ n ∧ n ≤ 1000) (w : World) : Ret Tryz.prog f_impl_Frame_hasWorld #[.agg #[.int .i64 n, v], .int .i64 x] w (.bool (decide (0 ≤ x ∧ x ≤ n - 1))) := by
  apply c_impl_Frame_hasWorld; unfold S_impl_Frame_hasWorld
  refine iNew fun b w1 hb h1 hB => ?_
  have hB : Blk _ w1 b [.int .i64 n, v] := hB
  refine iFa (iLdB hB (v := .int .i64 n) rfl ?_)
  refine iSub (by omega) ?_
  exact iRet (ok_impl_inRange _ _ _ w1) fun w2 h2 => ⟨rfl, h1.trans h2⟩
theorem ok_impl_isMap_good {v0 v1 v : Value} {w : World} {im : List Nat} {n0 n1 : Nat} (hs : SlN w v im) (hl : im.length = n0) (hy : ∀ y ∈ im, y < n1) (hn : n0 ≤ 1000 ∧ n1 ≤ 1000) : Ret Tryz.prog f_impl_isMap #[.agg #[.int .i64 (n0 : Int), v0], .agg #[.int .i64 (n1 : Int), v1], v] w (.bool true) := by
  apply c_impl_isMap; unfold S_impl_isMap
  refine iNew fun b w1 hb h1 hB => ?_
  refine iNew fun b2 w2 hb2 h2 hB2 => ?_
  have hX := h1.trans h2
  have hB : Blk _ w2 b [.int .i64 (n0 : Int), v0] := hB.ext h2
  have hB2 : Blk _ w2 b2 [.int .i64 (n1 : Int), v1] := hB2
  have hs2 : SlI w2 v (nats im) := hs.ext hX
  refine iJnB true w2 (fun J hJ => ?_) (fun w4 h4 => fun _ => ⟨rfl, hX.trans h4⟩)
  refine iRetQ (fun w' x => ok_impl_size_i64 (Sl.ext hs2 x)) ?_
  rw [ints_length, nats_length]
  refine iFa (iLdB hB (v := .int .i64 (n0 : Int)) rfl ?_)
  refine iEq (iCndP (fun _ => ?_) (fun h => absurd (by omega) h))
  have hp : ∀ y ∈ im, decide (0 ≤ (y : Int) ∧ (y : Int) ≤ (n1 : Int) - 1) = true := fun y h => decide_eq_true ⟨by omega, by have := hy y h; omega⟩
  refine iRetQ (fun w' x => ok_slices_ContainsFunc_Si64_i64 (hs2.ext x) (fun y => !decide (0 ≤ y ∧ y ≤ (n1 : Int) - 1)) (fun w3 x3 y hy' => ?_)) ?_
  · refine iClo rfl ?_
    refine c_impl_isMap_1 ?_
    unfold S_impl_isMap_1
    refine iLdA ((hB2.ext x).ext x3) rfl ?_
    refine iRet (ok_impl_Frame_hasWorld _ _ (by omega) w3) fun w4 h4 => ?_
    exact iNot ⟨rfl, h4⟩
  · rw [nats_any_not (p := fun y => decide (0 ≤ y ∧ y ≤ (n1 : Int) - 1)) hp]
    refine iNot ?_
    intro w5 h5
    exact hJ w5 h5
theorem ok_impl_mapCode_good {v0 v1 v : Value} {w : World} {im : List Nat} {f g : Fr} (hf : f.ok) (hg : g.ok) (h0 : SlN w v0 f.a) (h1 : SlN w v1 g.a) (hs : SlN w v im) (hl : im.length = f.n) (hy : ∀ y ∈ im, y < g.n) : Ret Tryz.prog f_impl_mapCode #[.agg #[.int .i64 (f.n : Int), v0], .agg #[.int .i64 (g.n : Int), v1], v] w (.int .i64 0) := by
  apply c_impl_mapCode; unfold S_impl_mapCode
  have hf8 := hf.1
  have hg8 := hg.1
  refine iNew fun b w1 hb x1 hB => ?_
  refine iNew fun b2 w2 hb2 x2 hB2 => ?_
  have hX := x1.trans x2
  have hB := hB.ext x2
  refine iJnB false w2 (fun J hJ => ?_) (fun w4 h4 => fun _ => iCndF rfl ⟨rfl, hX.trans h4⟩)
  refine iLdA hB rfl ?_
  have e0 := ok_impl_isFrame (SlI.ext h0 hX) (f.n : Int)
  rw [frameOk_of hf] at e0
  refine iRet e0 fun w3 x3 => ?_
  refine iNot (iCndF rfl ?_)
  refine iLdA (hB2.ext x3) rfl ?_
  have e1 := ok_impl_isFrame (SlI.ext h1 (hX.trans x3)) (g.n : Int)
  rw [frameOk_of hg] at e1
  refine iRet e1 fun w4 x4 => ?_
  refine iNot (iCndF rfl ?_)
  have x34 := x3.trans x4
  refine iLdA (hB.ext x34) rfl ?_
  refine iLdA (hB2.ext x34) rfl ?_
  refine iRet (ok_impl_isMap_good (hs.ext (hX.trans x34)) hl hy (by omega)) fun w5 x5 => ?_
  exact iNot (hJ w5 (x34.trans x5))
theorem ok_impl_DualHomomorphism_good {v0 v1 v : Value} {w : World} {im : List Nat} {f g : Fr} (hf : f.ok) (hg : g.ok) (h0 : SlN w v0 f.a) (h1 : SlN w v1 g.a) (hs : SlN w v im) (hl : im.length = f.n) (hy : ∀ y ∈ im, y < g.n) (hg5 : g.n ≤ 5) : Cal Tryz.prog f_impl_DualHomomorphism #[.agg #[.int .i64 (f.n : Int), v0], .agg #[.int .i64 (g.n : Int), v1], v] w fun r w' => Ext w w' ∧ ∃ u, r = .tuple #[u, .int .i64 0] ∧ Ow w.heap.size t_i64 w' u (ints (nats (dualN g.n im))) := by
  apply c_impl_DualHomomorphism; unfold S_impl_DualHomomorphism
  have hf8 := hf.1
  refine iNew fun b w1 hb x1 hB => ?_
  refine iNew fun b2 w2 hb2 x2 hB2 => ?_
  have hX := x1.trans x2
  have hB2 : Blk _ w2 b2 [.int .i64 (g.n : Int), v1] := hB2
  refine iLdA (hB.ext x2) rfl ?_
  refine iLdA hB2 rfl ?_
  refine iRet (ok_impl_mapCode_good hf hg (h0.ext hX) (h1.ext hX) (hs.ext hX) hl hy) fun w3 x3 => ?_
  refine iNe (iCndP (fun h => absurd rfl h) (fun _ => ?_))
  refine iFa (iLdB (hB2.ext x3) (v := .int .i64 (g.n : Int)) rfl ?_)
  refine iLt (iCndP (fun h => absurd h (by omega)) (fun _ => ?_))
  refine iFa (iLdB (hB2.ext x3) (v := .int .i64 (g.n : Int)) rfl ?_)
  have hX3 := hX.trans x3
  refine iCall ((ok_impl_dualOf (hs.ext hX3) (by omega) g.n hg5 hy).mono ?_)
  rintro u w4 ⟨x4, ho⟩
  exact ⟨hX3.trans x4, u, rfl, ho.mono hX3.size⟩
theorem ok_spec_l05World {v : Value} (n x : Int) (hn : -1000 ≤ n ∧ n ≤ 1000) (w : World) : Ret Tryz.prog f_spec_l05World #[.agg #[.int .i64 n, v], .int .i64 x] w (.bool (decide (0 ≤ x ∧ x ≤ n - 1))) := by
  apply c_spec_l05World; unfold S_spec_l05World
  refine iNew fun b w1 hb h1 hB => ?_
  have hB : Blk _ w1 b [.int .i64 n, v] := hB
  refine iFa (iLdB hB (v := .int .i64 n) rfl ?_)
  refine iSub (by omega) ?_
  exact iRet (ok_spec_l01In _ _ _ w1) fun w2 h2 => ⟨rfl, h1.trans h2⟩
theorem ok_spec_l08Map_good {v0 v1 v : Value} {w : World} {im : List Nat} {n0 n1 : Nat} (hs : SlN w v im) (hl : im.length = n0) (hy : ∀ y ∈ im, y < n1) (hn : n0 ≤ 1000 ∧ n1 ≤ 1000) : Ret Tryz.prog f_spec_l08Map #[.agg #[.int .i64 (n0 : Int), v0], .agg #[.int .i64 (n1 : Int), v1], v] w (.bool true) := by
  apply c_spec_l08Map; unfold S_spec_l08Map
  refine iNew fun b w1 hb h1 hB => ?_
  refine iNew fun b2 w2 hb2 h2 hB2 => ?_
  have hX := h1.trans h2
  have hB : Blk _ w2 b [.int .i64 (n0 : Int), v0] := hB.ext h2
  have hs2 : SlN w2 v im := hs.ext hX
  refine iLenN hs2 ?_
  refine iFa (iLdB hB (v := .int .i64 (n0 : Int)) rfl ?_)
  refine iNe (iCndP (fun h => absurd (by omega) h) (fun _ => ?_))
  refine iLp (fun k : Nat => [.int .i64 (k : Int)]) (fun k w' => k ≤ im.length ∧ Ext w2 w') (fun k => im.length - k) 0 rfl ⟨Nat.zero_le _, Ext.refl _⟩ ?_
  rintro k w3 Kn ⟨hk, h3⟩ hKn
  have hs3 := hs2.ext h3
  intro _
  simp only [gx]
  refine iLenN hs3 ?_
  refine iLt (iCndP (fun h4 => ?_) (fun _ => ⟨by first | trivial | rfl, hX.trans h3⟩))
  have hk1 : k < im.length := by omega
  refine iLdA (hB2.ext h3) rfl ?_
  refine iIaNN hs3 hk1 fun p hp => ?_
  refine iLd hp ?_
  refine iRetQ (fun w' _ => ok_spec_l05World _ _ (by omega) w') ?_
  refine iNot ?_
  intro w4 h4
  rw [decide_eq_true ⟨by omega, by have := getD_lt hy hk1; omega⟩]
  refine iCndF rfl ?_
  refine iAdd (by omega) ?_
  exact hKn (k + 1) _ ⟨by omega, h3.trans h4⟩ (by omega)
theorem ok_spec_l08Code_good {v0 v1 v : Value} {w : World} {im : List Nat} {f g : Fr} (hf : f.ok) (hg : g.ok) (h0 : SlN w v0 f.a) (h1 : SlN w v1 g.a) (hs : SlN w v im) (hl : im.length = f.n) (hy : ∀ y ∈ im, y < g.n) : Ret Tryz.prog f_spec_l08Code #[.agg #[.int .i64 (f.n : Int), v0], .agg #[.int .i64 (g.n : Int), v1], v] w (.int .i64 0) := by
  apply c_spec_l08Code; unfold S_spec_l08Code
  have hf8 := hf.1
  have hg8 := hg.1
  refine iNew fun b w1 hb x1 hB => ?_
  refine iNew fun b2 w2 hb2 x2 hB2 => ?_
  have hX := x1.trans x2
  have hB := hB.ext x2
  refine iJnB false w2 (fun J hJ => ?_) (fun w4 h4 => fun _ => iCndF rfl ⟨rfl, hX.trans h4⟩)
  refine iLdA hB rfl ?_
  have e0 := ok_spec_l05Is (SlI.ext h0 hX) (f.n : Int)
  rw [frameOk_of hf] at e0
  refine iRet e0 fun w3 x3 => ?_
  refine iNot (iCndF rfl ?_)
  refine iLdA (hB2.ext x3) rfl ?_
  have e1 := ok_spec_l05Is (SlI.ext h1 (hX.trans x3)) (g.n : Int)
  rw [frameOk_of hg] at e1
  refine iRet e1 fun w4 x4 => ?_
  refine iNot (iCndF rfl ?_)
  have x34 := x3.trans x4
  refine iLdA (hB.ext x34) rfl ?_
  refine iLdA (hB2.ext x34) rfl ?_
  refine iRet (ok_spec_l08Map_good (hs.ext (hX.trans x34)) hl hy (by omega)) fun w5 x5 => ?_
  exact iNot (hJ w5 (x34.trans x5))
theorem ok_spec_DualHomomorphism_good {v0 v1 v : Value} {w : World} {im : List Nat} {f g : Fr} (hf : f.ok) (hg : g.ok) (h0 : SlN w v0 f.a) (h1 : SlN w v1 g.a) (hs : SlN w v im) (hl : im.length = f.n) (hy : ∀ y ∈ im, y < g.n) (hg5 : g.n ≤ 5) : Cal Tryz.prog f_spec_DualHomomorphism #[.agg #[.int .i64 (f.n : Int), v0], .agg #[.int .i64 (g.n : Int), v1], v] w fun r w' => Ext w w' ∧ ∃ u, r = .tuple #[u, .int .i64 0] ∧ Ow w.heap.size t_i64 w' u (ints (nats (dualN g.n im))) := by
  apply c_spec_DualHomomorphism; unfold S_spec_DualHomomorphism
  have hf8 := hf.1
  refine iNew fun b w1 hb x1 hB => ?_
  refine iNew fun b2 w2 hb2 x2 hB2 => ?_
  have hX := x1.trans x2
  have hB2 : Blk _ w2 b2 [.int .i64 (g.n : Int), v1] := hB2
  refine iLdA (hB.ext x2) rfl ?_
  refine iLdA hB2 rfl ?_
  refine iRet (ok_spec_l08Code_good hf hg (h0.ext hX) (h1.ext hX) (hs.ext hX) hl hy) fun w3 x3 => ?_
  refine iNe (iCndP (fun h => absurd rfl h) (fun _ => ?_))
  refine iFa (iLdB (hB2.ext x3) (v := .int .i64 (g.n : Int)) rfl ?_)
  refine iLt (iCndP (fun h => absurd h (by omega)) (fun _ => ?_))
  refine iLdA (hB2.ext x3) rfl ?_
  have hX3 := hX.trans x3
  refine iCall ((ok_spec_l15Dual (lo := w.heap.size) (hs.ext hX3) (by omega) g.n hg5 hy hX3.size).mono ?_)
  rintro u w4 ⟨x4, ho⟩
  exact ⟨hX3.trans x4, u, rfl, ho⟩
theorem ok_impl_areElements_good {v0 v : Value} {w : World} {l : List Nat} {m : Nat} (hm : m ≤ 5) (hs : SlN w v l) (hy : ∀ y ∈ l, y < 2 ^ m) : Ret Tryz.prog f_impl_ModalAlgebra_areElements #[.agg #[.int .i64 (m : Int), v0], v] w (.bool true) := by
  apply c_impl_ModalAlgebra_areElements; unfold S_impl_ModalAlgebra_areElements
  refine iNew fun b w1 hb h1 hB => ?_
  have hs1 : SlI w1 v (nats l) := hs.ext h1
  have hp : ∀ y ∈ l, maskB m (y : Int) = true := fun y h => by
    have := hy y h
    unfold maskB
    rw [decide_eq_true_eq]; omega
  refine iRet (ok_slices_ContainsFunc_Si64_i64 hs1 (fun y => !maskB m y) (fun w3 x3 y hy' => ?_)) fun w4 h4 => ?_
  · refine iClo rfl ?_
    refine c_impl_ModalAlgebra_areElements_1 ?_
    unfold S_impl_ModalAlgebra_areElements_1
    refine iLdA (hB.ext x3) rfl ?_
    refine iRet (ok_impl_ModalAlgebra_isElement m (by omega) y w3) fun w4 h4 => ?_
    exact iNot ⟨rfl, h4⟩
  · rw [nats_any_not (p := maskB m) hp]
    exact iNot ⟨rfl, h1.trans h4⟩
theorem ok_impl_isHomomorphism_good {v0 v1 v : Value} {w : World} {a0 a1 D : List Nat} {m0 m1 : Nat} (hm0 : m0 ≤ 5) (hm1 : m1 ≤ 5) (h0 : SlN w v0 a0) (h1 : SlN w v1 a1) (hs : SlN w v D) (hl0 : a0.length = 2 ^ m0) (hl1 : a1.length = 2 ^ m1) (hlt0 : ∀ x ∈ a0, x < 2 ^ m0) (_hlt1 : ∀ x ∈ a1, x < 2 ^ m1) (hD : D.length = 2 ^ m0) (hDl : ∀ y ∈ D, y < 2 ^ m1)
    (hn : ∀ x, x < 2 ^ m0 → D.getD (sdiff (2 ^ m0 - 1) x) 0 = sdiff (2 ^ m1 - 1) (D.getD x 0)) (hb : ∀ x, x < 2 ^ m0 → D.getD (a0.getD x 0) 0 = a1.getD (D.getD x 0) 0) (ha : ∀ x y, x < 2 ^ m0 → y < 2 ^ m0 → D.getD (x &&& y) 0 = D.getD x 0 &&& D.getD y 0) :
    Ret Tryz.prog f_impl_isHomomorphism #[.agg #[.int .i64 (m0 : Int), v0], .agg #[.int .i64 (m1 : Int), v1], v] w (.bool true) := by
  apply c_impl_isHomomorphism; unfold S_impl_isHomomorphism
  have p0 : 2 ^ m0 ≤ 2 ^ 5 := Nat.pow_le_pow_right (by omega) hm0
  have p1 : 2 ^ m1 ≤ 2 ^ 5 := Nat.pow_le_pow_right (by omega) hm1
  have q0 := Nat.two_pow_pos m0
  have q1 := Nat.two_pow_pos m1
  refine iNew fun b w1 hb1 x1 hB => ?_
  refine iNew fun b2 w2 hb2 x2 hB2 => ?_
  have hX := x1.trans x2
  have hB : Blk _ w2 b [.int .i64 (m0 : Int), v0] := hB.ext x2
  have hB2 : Blk _ w2 b2 [.int .i64 (m1 : Int), v1] := hB2
  have h0 := h0.ext hX
  have h1 := h1.ext hX
  have hs := hs.ext hX
  refine iLenN hs ?_
  refine iLp (fun k : Nat => [.int .i64 (k : Int)]) (fun k w' => k ≤ D.length ∧ Ext w2 w') (fun k => D.length - k) 0 rfl ⟨Nat.zero_le _, Ext.refl _⟩ ?_
  rintro k w3 Kn ⟨hk, x3⟩ hKn
  intro _
  simp only [gx]
  refine iLt (iCndP (fun h4 => ?_) (fun _ => ⟨by first | trivial | rfl, hX.trans x3⟩))
  have hk1 : k < D.length := by omega
  have hk2 : k < 2 ^ m0 := by omega
  have hDk := getD_lt hDl hk1
  have hsd := sdiff_le_full hk2
  have h03 := h0.ext x3
  have h13 := h1.ext x3
  have hs3 := hs.ext x3
  have hB3 := hB.ext x3
  have hB23 := hB2.ext x3
  refine iIaNN hs3 hk1 fun p hp => ?_
  refine iLd hp ?_
  refine iJnB false w3 (fun J hJ => ?_) (fun w4 x4 => ?_)
  · refine iLdA hB3 rfl ?_
    refine iRetQ (fun w' _ => ok_impl_ModalAlgebra_full m0 (by omega) w') ?_
    refine iBAndNot (by omega) (by omega) ?_
    refine iIaNN hs3 (by omega) fun p hp => ?_
    refine iLd hp ?_
    refine iLdA hB23 rfl ?_
    refine iRetQ (fun w' _ => ok_impl_ModalAlgebra_full m1 (by omega) w') ?_
    refine iBAndNot (by omega) (by omega) ?_
    refine iNe (iCndP (fun h => absurd (by rw [hn k hk2]) h) (fun _ => ?_))
    refine iFa (iLdB hB3 (v := v0) rfl ?_)
    refine iIaNN h03 (by omega) fun p hp => ?_
    refine iLd hp ?_
    have := getD_lt hlt0 (show k < a0.length by omega)
    refine iIaNN hs3 (by omega) fun p hp => ?_
    refine iLd hp ?_
    refine iFa (iLdB hB23 (v := v1) rfl ?_)
    refine iIaNN h13 (by omega) fun p hp => ?_
    refine iLd hp ?_
    refine iNe ?_
    intro w5 x5
    have := hJ w5 x5
    rwa [show false = decide (¬ ((D.getD (a0.getD k 0) 0 : Nat) : Int) = ((a1.getD (D.getD k 0) 0 : Nat) : Int)) by rw [hb k hk2]; simp] at this
  intro _
  simp only [gx]
  refine iCndF rfl ?_
  have x34 := x3.trans x4
  refine iLp (fun j : Nat => [.int .i64 (j : Int)]) (fun j w' => j ≤ k ∧ Ext w2 w') (fun j => k - j) 0 rfl ⟨Nat.zero_le _, x34⟩ ?_
  rintro j w5 Kn5 ⟨hj, x5⟩ hKn5
  have hs5 := hs.ext x5
  intro _
  simp only [gx]
  refine iLt (iCndP (fun h5 => ?_) (fun h5 => ?_))
  · have hj1 : j < k := by omega
    refine iBAnd (by omega) (by omega) ?_
    have : k &&& j < 2 ^ m0 := Nat.lt_of_le_of_lt Nat.and_le_left hk2
    refine iIaNN hs5 (by omega) fun p hp => ?_
    refine iLd hp ?_
    refine iIaNN hs5 (by omega) fun p hp => ?_
    refine iLd hp ?_
    have hDj := getD_lt hDl (show j < D.length by omega)
    refine iBAnd (by omega) (by omega) ?_
    refine iNe ?_
    intro w6 x6
    rw [ha k j hk2 (by omega)]
    refine iCndP (fun h => absurd rfl h) (fun _ => ?_)
    refine iAdd (by omega) ?_
    exact hKn5 (j + 1) _ ⟨by omega, x5.trans x6⟩ (by omega)
  · refine iAdd (by omega) ?_
    exact hKn (k + 1) _ ⟨by omega, x5⟩ (by omega)
theorem ok_impl_IsHomomorphism_good {v0 v1 v : Value} {w : World} {a0 a1 D : List Nat} {m0 m1 : Nat} (hm0 : m0 ≤ 5) (hm1 : m1 ≤ 5) (k0 : algOk (m0 : Int) (nats a0) = true) (k1 : algOk (m1 : Int) (nats a1) = true) (h0 : SlN w v0 a0) (h1 : SlN w v1 a1) (hs : SlN w v D) (hl0 : a0.length = 2 ^ m0) (hl1 : a1.length = 2 ^ m1) (hlt0 : ∀ x ∈ a0, x < 2 ^ m0) (hlt1 : ∀ x ∈ a1, x < 2 ^ m1) (hD : D.length = 2 ^ m0) (hDl : ∀ y ∈ D, y < 2 ^ m1)
    (hn : ∀ x, x < 2 ^ m0 → D.getD (sdiff (2 ^ m0 - 1) x) 0 = sdiff (2 ^ m1 - 1) (D.getD x 0)) (hb : ∀ x, x < 2 ^ m0 → D.getD (a0.getD x 0) 0 = a1.getD (D.getD x 0) 0) (ha : ∀ x y, x < 2 ^ m0 → y < 2 ^ m0 → D.getD (x &&& y) 0 = D.getD x 0 &&& D.getD y 0) :
    Ret Tryz.prog f_impl_IsHomomorphism #[.agg #[.int .i64 (m0 : Int), v0], .agg #[.int .i64 (m1 : Int), v1], v] w (.tuple #[.bool true, .int .i64 0]) := by
  apply c_impl_IsHomomorphism; unfold S_impl_IsHomomorphism
  have p0 : 2 ^ m0 ≤ 2 ^ 5 := Nat.pow_le_pow_right (by omega) hm0
  refine iNew fun b w1 hb1 x1 hB => ?_
  refine iNew fun b2 w2 hb2 x2 hB2 => ?_
  have hX := x1.trans x2
  have hB : Blk _ w2 b [.int .i64 (m0 : Int), v0] := hB.ext x2
  refine iJnB false w2 (fun J hJ => ?_) (fun w4 x4 => ?_)
  · refine iLdA hB rfl ?_
    have e0 := ok_impl_isModalAlgebra (SlI.ext h0 hX) (m0 : Int)
    rw [k0] at e0
    refine iRet e0 fun w3 x3 => ?_
    refine iNot (iCndF rfl ?_)
    refine iLdA (hB2.ext x3) rfl ?_
    have e1 := ok_impl_isModalAlgebra (SlI.ext h1 (hX.trans x3)) (m1 : Int)
    rw [k1] at e1
    refine iRet e1 fun w4 x4 => ?_
    refine iNot (iCndF rfl ?_)
    have x34 := x3.trans x4
    have hX4 := hX.trans x34
    refine iLenN (hs.ext hX4) ?_
    refine iFa (iLdB (hB.ext x34) (v := v0) rfl ?_)
    refine iLenN (h0.ext hX4) ?_
    refine iNe (iCndP (fun h => absurd (by omega) h) (fun _ => ?_))
    refine iLdA (hB2.ext x34) rfl ?_
    refine iRet (ok_impl_areElements_good hm1 (hs.ext hX4) hDl) fun w5 x5 => ?_
    exact iNot (hJ w5 (x34.trans x5))
  intro _
  simp only [gx]
  refine iCndF rfl ?_
  have hX4 := hX.trans x4
  refine iLdA (hB.ext x4) rfl ?_
  refine iLdA (hB2.ext x4) rfl ?_
  refine iRet (ok_impl_isHomomorphism_good hm0 hm1 (h0.ext hX4) (h1.ext hX4) (hs.ext hX4) hl0 hl1 hlt0 hlt1 hD hDl hn hb ha) fun w5 x5 => ?_
  exact ⟨rfl, hX4.trans x5⟩
theorem ok_laws_likeRows5 {lo lo' : Nat} {v v' : Value} {w : World} {x : List (List Int)} (h : RdLL lo w v x) (h' : RdLL lo' w v' x) : Ret Tryz.prog f_laws_likeRows5 #[v, v'] w (.bool true) := by
  obtain ⟨vs, h1, h2⟩ := h
  obtain ⟨vs', h1', h2'⟩ := h'
  have hl1 : vs.length = x.length := by have := h2.1; rwa [List.length_map] at this
  have hl2 : vs'.length = x.length := by have := h2'.1; rwa [List.length_map] at this
  have hcap := h1.sl.len
  apply c_laws_likeRows5; unfold S_laws_likeRows5
  refine iLenS h1.sl (iLenS h1'.sl ?_)
  refine iNe (iCndP (fun h => absurd (by omega) h) (fun _ => ?_))
  refine iLp (fun k : Nat => [.int .i64 (k : Int)]) (fun k w' => k ≤ x.length ∧ Ext w w') (fun k => x.length - k) 0 rfl ⟨Nat.zero_le _, Ext.refl _⟩ ?_
  rintro k w2 Kn ⟨hk, x2⟩ hKn
  intro _
  simp only [gx]
  refine iLenS (h1.ext x2).sl ?_
  refine iLt (iCndP (fun h3 => ?_) (fun _ => ⟨by first | trivial | rfl, x2⟩))
  have hkx : k < x.length := by omega
  have hk1 : k < vs.length := by omega
  have hk2 : k < vs'.length := by omega
  refine iIaV (h1.ext x2).sl hk1 fun p hp => ?_
  refine iLd hp ?_
  refine iIaV (h1'.ext x2).sl hk2 fun p hp => ?_
  refine iLd hp ?_
  have r1 := (h2.ext x2).at hk1 (by rw [List.length_map]; exact hkx)
  have r2 := (h2'.ext x2).at hk2 (by rw [List.length_map]; exact hkx)
  rw [List.getElem_map] at r1 r2
  refine iRetQ (fun w' x' => ok_laws_likeInts (SlI.ext r1.sl x') (SlI.ext r2.sl x')) ?_
  refine iNot ?_
  intro w3 x3
  rw [decide_eq_true rfl]
  refine iCndF rfl ?_
  refine iAdd (by omega) ?_
  exact hKn (k + 1) _ ⟨by omega, x2.trans x3⟩ (by omega)
end Go.Proofs.YtfadcafacpaldaaGreat

/- Contracts: algebras of frames; partitions, congruences, quotients of frames. Conditions: none. -/
namespace Go.Vc
theorem fillP2 {a b z1 z2 : Value} (ha : isCell a = true) (hb : isCell b = true) : Instr.fill ((#[(0, 1), (1, 1)] : Array (Nat × Nat))[·]?) #[z1, z2] [(0, a), (1, b)] = some #[a, b] := by
  simp [Instr.fill, isCell_cells ha, isCell_cells hb]
def boxKV (a : List Nat) (m k : Nat) : Nat := setOf ((List.range k).filter fun i => decide (sdiff (a.getD i 0) m = 0))
theorem boxKV_succ (a : List Nat) (m k : Nat) : boxKV a m (k + 1) = if sdiff (a.getD k 0) m = 0 then boxKV a m k ||| 2 ^ k else boxKV a m k := by
  unfold boxKV
  rw [List.range_succ, List.filter_append]
  by_cases h : sdiff (a.getD k 0) m = 0
  · rw [if_pos h, ← setOf_snoc, List.filter_cons, if_pos (decide_eq_true h), List.filter_nil]
  · rw [if_neg h, List.filter_cons, if_neg (by rw [decide_eq_true_eq]; exact h), List.filter_nil, List.append_nil]
theorem boxKV_lt (a : List Nat) (m k : Nat) : boxKV a m k < 2 ^ k := setOf_lt fun _ hy => List.mem_range.1 (List.mem_filter.1 hy).1
theorem and_subV {x m : Nat} : sdiff x m = 0 ↔ x &&& m = x := by
  rw [sdiff_eq_zero]
  constructor
  · intro h
    apply Nat.eq_of_testBit_eq
    intro i
    rw [Nat.testBit_and]
    cases hx : x.testBit i
    · rfl
    · rw [h i hx]; rfl
  · intro h i hi
    rw [← h, Nat.testBit_and, Bool.and_eq_true] at hi
    exact hi.2
/-- Partitions in order, as the reference lists them. -/
def partsL : Nat → List Nat → Nat → List (List Nat)
  | 0, cl, _ => [cl]
  | d + 1, cl, top => (List.range (top + 1)).flatMap fun k => partsL d (cl ++ [k]) (max top (k + 1))
theorem partsL_mem : ∀ (d : Nat) (cl : List Nat) (top : Nat), (∀ y ∈ cl, y < top) → ∀ r ∈ partsL d cl top, r.length = cl.length + d ∧ ∀ y ∈ r, y < top + d
  | 0, cl, top, h, r, hr => by
    simp only [partsL, List.mem_singleton] at hr
    subst hr
    exact ⟨rfl, fun y hy => by have := h y hy; omega⟩
  | d + 1, cl, top, h, r, hr => by
    obtain ⟨k, hk, hr⟩ := List.mem_flatMap.1 hr
    have hk := List.mem_range.1 hk
    obtain ⟨h1, h2⟩ := partsL_mem d (cl ++ [k]) (max top (k + 1)) (fun y hy => by
      rcases List.mem_append.1 hy with hy | hy
      · have := h y hy; omega
      · simp at hy; omega) r hr
    refine ⟨by rw [h1, List.length_append]; simp; omega, fun y hy => ?_⟩
    have := h2 y hy
    omega
/-- The finest one is among them. -/
theorem partsL_fine : ∀ (d n : Nat), List.range (n + d) ∈ partsL d (List.range n) n
  | 0, n => by simp [partsL]
  | d + 1, n => by
    refine List.mem_flatMap.2 ⟨n, List.mem_range.2 (by omega), ?_⟩
    have := partsL_fine d (n + 1)
    rw [List.range_succ] at this
    rw [show max n (n + 1) = n + 1 by omega, show n + (d + 1) = n + 1 + d by omega]
    exact this
def topK (cl : List Nat) : Nat → Nat
  | 0 => 0
  | k + 1 => if cl.getD k 0 = topK cl k then topK cl k + 1 else topK cl k
theorem topK_le (cl : List Nat) : ∀ k, topK cl k ≤ k
  | 0 => Nat.le_refl _
  | k + 1 => by
    have := topK_le cl k
    unfold topK
    split <;> omega
/-- A congruence of f, as the reference tests it. -/
def congB (f : Fr) (cl : List Nat) : Bool := (decide (cl.length = f.n) && (List.range cl.length).all fun k => decide (cl.getD k 0 ≤ topK cl k)) && (List.range cl.length).all fun x => (List.range x).all fun y => !(decide (cl.getD x 0 = cl.getD y 0) && decide (¬ img cl (f.a.getD x 0) = img cl (f.a.getD y 0)))
theorem topK_fine (n : Nat) : ∀ k, k ≤ n → topK (List.range n) k = k
  | 0, _ => rfl
  | k + 1, hk => by
    have hg : (List.range n).getD k 0 = k := by simp [List.getD_eq_getElem?_getD, show k < n by omega]
    unfold topK
    rw [topK_fine n k (by omega), hg, if_pos rfl]
theorem congB_fine (f : Fr) : congB f (List.range f.n) = true := by
  have hg : ∀ k, k < f.n → (List.range f.n).getD k 0 = k := fun k hk => by simp [List.getD_eq_getElem?_getD, hk]
  unfold congB
  rw [Bool.and_eq_true, Bool.and_eq_true, List.length_range, decide_eq_true_eq, List.all_eq_true, List.all_eq_true]
  refine ⟨⟨rfl, fun k hk => ?_⟩, fun x hx => ?_⟩
  · have hk := List.mem_range.1 hk
    rw [decide_eq_true_eq, hg k hk, topK_fine f.n k (by omega)]; omega
  · have hx := List.mem_range.1 hx
    rw [List.all_eq_true]
    intro y hy
    have hy := List.mem_range.1 hy
    rw [hg x hx, hg y (by omega), decide_eq_false (show ¬ x = y by omega)]; rfl
def congL (f : Fr) : List (List Nat) := (partsL f.n [] 0).filter (congB f)
theorem congL_pos (f : Fr) : 0 < (congL f).length := by
  have : List.range f.n ∈ congL f := List.mem_filter.2 ⟨by have := partsL_fine f.n 0; simpa using this, congB_fine f⟩
  exact List.length_pos_of_mem this
theorem congL_mem {f : Fr} {r : List Nat} (h : r ∈ congL f) : r.length = f.n ∧ ∀ y ∈ r, y < f.n := by
  have := partsL_mem f.n [] 0 (fun y hy => by cases hy) r (List.mem_filter.1 h).1
  simpa using this
/-- How many classes. -/
def cntK (cl : List Nat) : Nat → Nat
  | 0 => 0
  | k + 1 => max (cntK cl k) (cl.getD k 0 + 1)
theorem cntK_lt (cl : List Nat) : ∀ k i, i < k → cl.getD i 0 < cntK cl k
  | 0, i, h => by omega
  | k + 1, i, h => by
    unfold cntK
    by_cases e : i = k
    · subst e; omega
    · have := cntK_lt cl k i (by omega); omega
theorem cntK_le {cl : List Nat} {m : Nat} (h : ∀ y ∈ cl, y < m) : ∀ k, k ≤ cl.length → cntK cl k ≤ m
  | 0, _ => Nat.zero_le _
  | k + 1, hk => by
    have := cntK_le h k (by omega)
    have := getD_lt h (show k < cl.length by omega)
    unfold cntK; omega
end Go.Vc
namespace Go.Proofs.YtfadcafacpaldaaGreat
open Go.Vc
theorem ok_spec_l01BoxV {v : Value} {w : World} {a : List Nat} (hs : SlN w v a) (hl : a.length ≤ 8) (ha : ∀ x ∈ a, x < 2 ^ 8) (m : Nat) (hm : m < 2 ^ 63) : Ret Tryz.prog f_spec_l01Box #[v, .int .i64 (m : Int)] w (.int .i64 ((boxKV a m a.length : Nat) : Int)) := by
  apply c_spec_l01Box; unfold S_spec_l01Box
  refine iLp (fun k : Nat => [.int .i64 ((boxKV a m k : Nat) : Int), .int .i64 (k : Int)]) (fun k w' => k ≤ a.length ∧ Ext w w') (fun k => a.length - k) 0 rfl ⟨Nat.zero_le _, Ext.refl w⟩ ?_
  rintro k w2 Kn ⟨hk, h2⟩ hKn
  have hs2 := hs.ext h2
  (intro _; (try simp only [gx]); (with_reducible refine iLenN (by assumption) ?_; refine iLt ?_))
  refine iCndP (fun h3 => ?_) (fun h3 => ?_)
  · have hk1 : k < a.length := by omega
    have hak : a.getD k 0 < 2 ^ 8 := getD_lt ha hk1
    have hb8 : boxKV a m k < 2 ^ 8 := Nat.lt_of_lt_of_le (boxKV_lt a m k) (Nat.pow_le_pow_right (by omega) (by omega))
    have hbs := boxKV_succ a m k
    ((with_reducible refine iIaNN (by assumption) ?_ (fun pa_ hpa_ => ?_)); omega; (with_reducible refine iLd (by assumption) ?_))
    refine iBAnd (by omega) hm ?_
    ((with_reducible refine iIaNN (by assumption) ?_ (fun pa_ hpa_ => ?_)); omega; (with_reducible refine iLd (by assumption) ?_; refine iEq ?_))
    intro w3 h4
    refine iCndP (fun h5 => ?_) (fun h5 => ?_)
    · have h5 : a.getD k 0 &&& m = a.getD k 0 := by exact_mod_cast h5
      rw [if_pos (and_subV.2 h5)] at hbs
      have h2k : 2 ^ k < 2 ^ 63 := Nat.pow_lt_pow_right (by omega) (by omega)
      refine iRet (ok_spec_l01One k (by omega) w3) fun w4 h6 => ?_
      refine iBOr (by omega) h2k ?_
      rw [← hbs]
      (refine iAdd (by omega) ?_)
      exact hKn (k + 1) _ ⟨by omega, (h2.trans h4).trans h6⟩ (by omega)
    · have h5 : ¬ a.getD k 0 &&& m = a.getD k 0 := fun e => h5 (by exact_mod_cast e)
      rw [if_neg (fun e => h5 (and_subV.1 e))] at hbs
      rw [← hbs]
      (refine iAdd (by omega) ?_)
      exact hKn (k + 1) _ ⟨by omega, h2.trans h4⟩ (by omega)
  · obtain rfl : k = a.length := by omega
    exact ⟨rfl, h2⟩
theorem ok_spec_l15Of {v : Value} {w : World} {n : Nat} {a : List Nat} (hn : n ≤ 8) (ha : RelOk n a) (hs : SlN w v a) : Cal Tryz.prog f_spec_l15Of #[.agg #[.int .i64 (n : Int), v]] w fun r w' => Ext w w' ∧ ∃ (u : Value) (l : List Int), r = .agg #[.int .i64 (n : Int), u] ∧ Ow w.heap.size t_i64 w' u (ints l) ∧ l.length = 2 ^ n := by
  apply c_spec_l15Of; unfold S_spec_l15Of
  have p8 : 2 ^ n ≤ 2 ^ 8 := Nat.pow_le_pow_right (by omega) hn
  have q := Nat.two_pow_pos n
  refine iNew fun b1 w1 hb1 x1 hB1 => ?_
  refine iNew fun b2 w2 hb2 x2 hB2 => ?_
  have hB1 : Blk 34 w2 b1 [.int .i64 (n : Int), v] := hB1.ext x2
  refine iFa (iLdB hB1 (v := .int .i64 (n : Int)) rfl ?_)
  refine iBs0 fun u0 w3 _ x3 ho3 => ?_
  refine iBuild (cs := #[.int .i64 (n : Int), u0]) (fillP2 rfl ho3.cell) ?_
  refine iNew fun b3 w4 hb3 x4 hB3 => ?_
  have hX2 := x1.trans x2
  have hX3 := hX2.trans x3
  have hB2 := (hB2.ext x3).ext x4
  have hB1 := (hB1.ext x3).ext x4
  have ho4 := (ho3.ext x4).mono hX2.size
  have hn1 : b1 ≠ b3 := by have := hB1.lt; have := x2.size; have := x3.size; omega
  have hn2 : b2 ≠ b3 := by have := x3.size; omega
  refine iStAB hB3 rfl rfl (ho4.pair _) fun w5 hu5 hB5 => ?_
  have hB5 : Blk 26 w5 b3 [.int .i64 (n : Int), u0] := hB5
  have hX5 : Ext w w5 := (hX3.trans x4).upd hu5 (by have := hX3.size; omega)
  have ho5 := ho4.upd hu5 fun e => by have := (ho3.blk b3 e).2; omega
  refine iLp (fun k : Nat => [.int .i64 (k : Int)]) (fun k w' => k ≤ 2 ^ n ∧ Ext w w' ∧ Blk 34 w' b1 [.int .i64 (n : Int), v] ∧ Blk 26 w' b2 [.int .i64 0, .slice none 0 0] ∧ ∃ (u : Value) (l : List Int), Blk 26 w' b3 [.int .i64 (n : Int), u] ∧ Ow w.heap.size t_i64 w' u (ints l) ∧ l.length = k) (fun k => 2 ^ n - k) 0 rfl ⟨Nat.zero_le _, hX5, hB1.upd hu5 hn1, hB2.upd hu5 hn2, u0, [], hB5, ho5, rfl⟩ ?_
  rintro k w6 Kn ⟨hk, hX6, g1, g2, u, l, g3, ho, hl⟩ hKn
  intro _
  simp only [gx]
  refine iFa (iLdB g1 (v := .int .i64 (n : Int)) rfl ?_)
  refine iRet (ok_spec_l01Full n (by omega) w6) fun w7 x7 => ?_
  have hX7 := hX6.trans x7
  refine iLe (iCndP (fun h7 => ?_) (fun h7 => ?_))
  · have g1 := g1.ext x7
    have g2 := g2.ext x7
    have g3 := g3.ext x7
    have ho := ho.ext x7
    have hk1 : k < 2 ^ n := by omega
    refine iFa (iLdB g3 (v := u) rfl ?_)
    refine iFa (iLdB g1 (v := v) rfl ?_)
    refine iRetQ (fun w' x => ok_spec_l01BoxV (a := a) (hs.ext (hX7.trans x)) (by rw [ha.1]; exact hn) (fun y hy => Nat.lt_of_lt_of_le (ha.2 y hy) p8) k (by omega)) ?_
    intro w8 x8
    refine iBs1 rfl rfl fun bb w9 hbb x9 hBb => ?_
    refine ⟨x9, ?_⟩
    intro w10 x10
    have x810 := (x8.trans x9).trans x10
    have ho10 := ho.ext x810
    have hlow := (hX7.trans x810).size
    refine iApp u_Si64 i_Si64 rfl ho10 (Sl.ofBlk (n := 1) (hBb.ext x10) rfl (by omega)) (fun y hy => by simp at hy; subst hy; rfl) (by rw [ints_length, hl]; simp; omega) (by rw [ints_length, hl]; simp; omega) hlow fun u' w11 ho' hg => ?_
    refine iFa ?_
    intro w12 x12
    have nu : ∀ {e : TypeId} {b : Nat} {cs : List Value}, Blk e w10 b cs → t_i64 ≠ e → Blk e w12 b cs := fun hB hne => (hB.grown hg (ho10.ne_blk hB hne)).ext x12
    have g1' := nu (g1.ext x810) (by decide)
    have g2' := nu (g2.ext x810) (by decide)
    have g3' := nu (g3.ext x810) (by decide)
    have ho12 := ho'.ext x12
    refine iStB g3' (by simp) ho12.cell fun hB13 => ?_
    have hu := Upd.setCell w12 b3 1 u'
    intro w14 x14
    refine iAdd (by omega) ?_
    have hX12 : Ext w w12 := ((hX7.trans x810).grown hg fun c hc => (ho10.blk c hc).1).trans x12
    refine hKn (k + 1) _ ⟨by omega, (hX12.upd hu (by have := hX3.size; omega)).trans x14, (g1'.upd hu hn1).ext x14, (g2'.upd hu hn2).ext x14, u', l ++ [((boxKV a k a.length : Nat) : Int)], hB13.ext x14, ?_, by rw [List.length_append, hl]; rfl⟩ (by omega)
    have e : ints (l ++ [((boxKV a k a.length : Nat) : Int)]) = ints l ++ [.int .i64 ((boxKV a k a.length : Nat) : Int)] := by simp [ints]
    rw [e]
    exact (ho12.upd hu (ho12.ne_blk g3' (by decide))).ext x14
  · have ek : k = 2 ^ n := by omega
    refine iLdA (g3.ext x7) rfl ?_
    have ho7 := ho.ext x7
    refine iStAB (g2.ext x7) rfl rfl (ho7.pair _) fun w8 hu8 hB8 => ?_
    refine iLdA hB8 rfl ?_
    exact ⟨hX7.upd hu8 (by have := hX2.size; omega), u, l, rfl, ho7.upd hu8 (ho7.ne_blk (g2.ext x7) (by decide)), by omega⟩
theorem ok_spec_l08Ordered {v0 v : Value} {w : World} {n : Nat} {cl : List Nat} (hs : SlN w v cl) (hl : cl.length ≤ 1000) : Ret Tryz.prog f_spec_l08Ordered #[.agg #[.int .i64 (n : Int), v0], v] w (.bool (decide (cl.length = n) && (List.range cl.length).all fun k => decide (cl.getD k 0 ≤ topK cl k))) := by
  apply c_spec_l08Ordered; unfold S_spec_l08Ordered
  refine iNew fun b w1 hb x1 hB => ?_
  have hB : Blk _ w1 b [.int .i64 (n : Int), v0] := hB
  have hs1 := hs.ext x1
  refine iLenN hs1 ?_
  refine iFa (iLdB hB (v := .int .i64 (n : Int)) rfl ?_)
  refine iNe (iCndP (fun h => ?_) (fun h => ?_))
  · rw [decide_eq_false (show ¬ cl.length = n by omega)]
    exact ⟨rfl, x1⟩
  rw [decide_eq_true (show cl.length = n by omega), Bool.true_and]
  refine iLp (fun k : Nat => [.int .i64 ((topK cl k : Nat) : Int), .int .i64 (k : Int)]) (fun k w' => k ≤ cl.length ∧ Ext w1 w' ∧ ∀ i, i < k → cl.getD i 0 ≤ topK cl i) (fun k => cl.length - k) 0 rfl ⟨Nat.zero_le _, Ext.refl _, fun i hi => by omega⟩ ?_
  rintro k w2 Kn ⟨hk, x2, hall⟩ hKn
  have hs2 := hs1.ext x2
  have htk := topK_le cl k
  intro _
  simp only [gx]
  refine iLenN hs2 ?_
  refine iLt (iCndP (fun h3 => ?_) (fun h3 => ?_))
  · have hk1 : k < cl.length := by omega
    refine iIaNN hs2 hk1 fun p hp => ?_
    refine iLd hp ?_
    refine iRet (ok_spec_l01In _ _ _ w2) fun w3 x3 => ?_
    refine iNot ?_
    by_cases hle : cl.getD k 0 ≤ topK cl k
    · rw [decide_eq_true (show (0 : Int) ≤ ((cl.getD k 0 : Nat) : Int) ∧ ((cl.getD k 0 : Nat) : Int) ≤ ((topK cl k : Nat) : Int) by omega)]
      refine iCndF rfl ?_
      refine iIaNN (hs2.ext x3) hk1 fun p hp => ?_
      refine iLd hp ?_
      have hall' : ∀ i, i < k + 1 → cl.getD i 0 ≤ topK cl i := fun i hi => by
        by_cases e : i = k
        · subst e; exact hle
        · exact hall i (by omega)
      have hstep : topK cl (k + 1) = if cl.getD k 0 = topK cl k then topK cl k + 1 else topK cl k := rfl
      refine iEq (iCndP (fun h4 => ?_) (fun h4 => ?_))
      · refine iAdd (by omega) ?_
        refine iAdd (by omega) ?_
        rw [if_pos (show cl.getD k 0 = topK cl k by omega)] at hstep
        have := hKn (k + 1) _ ⟨by omega, x2.trans x3, hall'⟩ (by omega)
        rw [hstep] at this
        exact this
      · refine iAdd (by omega) ?_
        rw [if_neg (show ¬ cl.getD k 0 = topK cl k by omega)] at hstep
        have := hKn (k + 1) _ ⟨by omega, x2.trans x3, hall'⟩ (by omega)
        rw [hstep] at this
        exact this
    · rw [decide_eq_false (show ¬ ((0 : Int) ≤ ((cl.getD k 0 : Nat) : Int) ∧ ((cl.getD k 0 : Nat) : Int) ≤ ((topK cl k : Nat) : Int)) by omega)]
      refine iCndT rfl ⟨?_, (x1.trans x2).trans x3⟩
      congr 1
      symm
      rw [← Bool.not_eq_true, List.all_eq_true]
      exact fun h => hle (of_decide_eq_true (h k (List.mem_range.2 hk1)))
  · refine ⟨?_, x1.trans x2⟩
    congr 1
    symm
    rw [List.all_eq_true]
    exact fun i hi => decide_eq_true (hall i (by have := List.mem_range.1 hi; omega))
theorem ok_spec_l08Congruence {f : Fr} (hf : f.ok) {v0 v : Value} {w : World} {cl : List Nat} (h0 : SlN w v0 f.a) (hs : SlN w v cl) (hl : cl.length ≤ 60) (hy : ∀ y ∈ cl, y < 60) : Ret Tryz.prog f_spec_l08Congruence #[.agg #[.int .i64 (f.n : Int), v0], v] w (.bool (congB f cl)) := by
  apply c_spec_l08Congruence; unfold S_spec_l08Congruence
  have hf8 := hf.1
  refine iNew fun b w1 hb x1 hB => ?_
  have hB : Blk _ w1 b [.int .i64 (f.n : Int), v0] := hB
  refine iLdA hB rfl ?_
  refine iRet (ok_spec_l08Ordered (hs.ext x1) (by omega)) fun w2 x2 => ?_
  unfold congB
  refine iNot ?_
  cases ho : decide (cl.length = f.n) && (List.range cl.length).all fun k => decide (cl.getD k 0 ≤ topK cl k) with
  | false => exact iCndT rfl ⟨rfl, x1.trans x2⟩
  | true =>
    rw [Bool.true_and]
    rw [Bool.and_eq_true, decide_eq_true_eq] at ho
    have hln := ho.1
    refine iCndF rfl ?_
    have hB2 := hB.ext x2
    have hX2 := x1.trans x2
    have h02 := h0.ext hX2
    have hs2 := hs.ext hX2
    refine iLp (fun k : Nat => [.int .i64 (k : Int)]) (fun k w' => k ≤ cl.length ∧ Ext w2 w' ∧ ∀ x, x < k → (List.range x).all (fun y => !(decide (cl.getD x 0 = cl.getD y 0) && decide (¬ img cl (f.a.getD x 0) = img cl (f.a.getD y 0)))) = true) (fun k => cl.length - k) 0 rfl ⟨Nat.zero_le _, Ext.refl _, fun i hi => by omega⟩ ?_
    rintro k w3 Kn ⟨hk, x3, hall⟩ hKn
    have hs3 := hs2.ext x3
    intro _
    simp only [gx]
    refine iLenN hs3 ?_
    refine iLt (iCndP (fun h3 => ?_) (fun h3 => ?_))
    rotate_left
    · refine ⟨?_, hX2.trans x3⟩
      congr 1
      symm
      rw [List.all_eq_true]
      exact fun i hi => hall i (by have := List.mem_range.1 hi; omega)
    have hk1 : k < cl.length := by omega
    refine iLp (fun j : Nat => [.int .i64 (j : Int)]) (fun j w' => j ≤ k ∧ Ext w2 w' ∧ ∀ y, y < j → (!(decide (cl.getD k 0 = cl.getD y 0) && decide (¬ img cl (f.a.getD k 0) = img cl (f.a.getD y 0)))) = true) (fun j => k - j) 0 rfl ⟨Nat.zero_le _, x3, fun i hi => by omega⟩ ?_
    rintro j w4 Kn4 ⟨hj, x4, hal4⟩ hKn4
    have hs4 := hs2.ext x4
    have h04 := h02.ext x4
    have hB4 := hB2.ext x4
    intro _
    simp only [gx]
    refine iLt (iCndP (fun h5 => ?_) (fun h5 => ?_))
    rotate_left
    · refine iAdd (by omega) ?_
      refine hKn (k + 1) _ ⟨by omega, x4, fun x hx => ?_⟩ (by omega)
      by_cases e : x = k
      · subst e
        rw [List.all_eq_true]
        exact fun y hy => hal4 y (by have := List.mem_range.1 hy; omega)
      · exact hall x (by omega)
    have hj1 : j < k := by omega
    refine iJnB (decide (cl.getD k 0 = cl.getD j 0) && decide (¬ img cl (f.a.getD k 0) = img cl (f.a.getD j 0))) w4 (fun J hJ => ?_) (fun w5 x5 => ?_)
    · refine iIaNN hs4 hk1 fun p hp => ?_
      refine iLd hp ?_
      refine iIaNN hs4 (by omega) fun p hp => ?_
      refine iLd hp ?_
      refine iEq ?_
      by_cases he : cl.getD k 0 = cl.getD j 0
      · rw [decide_eq_true he, Bool.true_and] at hJ
        rw [decide_eq_true (show ((cl.getD k 0 : Nat) : Int) = ((cl.getD j 0 : Nat) : Int) by omega)]
        refine iCndT rfl ?_
        have ak := hf.lt (show k < f.n by omega)
        have aj := hf.lt (show j < f.n by omega)
        have p8 : 2 ^ f.n ≤ 2 ^ 8 := Nat.pow_le_pow_right (by omega) hf8
        refine iFa (iLdB hB4 (v := v0) rfl ?_)
        refine iIaNN h04 (by rw [hf.2.1]; omega) fun p hp => ?_
        refine iLd hp ?_
        refine iRetQ (fun w' x => ok_spec_l08Image (hs4.ext x) (fun y h => by have := hy y h; omega) (by omega) _ (by omega)) ?_
        refine iFa (iLdB hB4 (v := v0) rfl ?_)
        refine iIaNN h04 (by rw [hf.2.1]; omega) fun p hp => ?_
        refine iLd hp ?_
        refine iRetQ (fun w' x => ok_spec_l08Image (hs4.ext x) (fun y h => by have := hy y h; omega) (by omega) _ (by omega)) ?_
        refine iNe ?_
        intro w5 x5
        have := hJ w5 x5
        rwa [show decide (¬ img cl (f.a.getD k 0) = img cl (f.a.getD j 0)) = decide (¬ ((img cl (f.a.getD k 0) : Nat) : Int) = ((img cl (f.a.getD j 0) : Nat) : Int)) from decide_eq_decide.2 (by omega)] at this
      · rw [decide_eq_false he, Bool.false_and] at hJ
        rw [decide_eq_false (show ¬ ((cl.getD k 0 : Nat) : Int) = ((cl.getD j 0 : Nat) : Int) by omega)]
        refine iCndF rfl ?_
        intro w5 x5
        exact hJ w5 x5
    intro _
    simp only [gx]
    cases hT : decide (cl.getD k 0 = cl.getD j 0) && decide (¬ img cl (f.a.getD k 0) = img cl (f.a.getD j 0)) with
    | true =>
      refine iCndT rfl ⟨?_, (hX2.trans x4).trans x5⟩
      congr 1
      symm
      rw [← Bool.not_eq_true, List.all_eq_true]
      intro h
      have := h k (List.mem_range.2 hk1)
      rw [List.all_eq_true] at this
      have := this j (List.mem_range.2 hj1)
      rw [hT] at this; cases this
    | false =>
      refine iCndF rfl ?_
      refine iAdd (by omega) ?_
      refine hKn4 (j + 1) _ ⟨by omega, x4.trans x5, fun y hy => ?_⟩ (by omega)
      by_cases e : y = j
      · subst e; rw [hT]; rfl
      · exact hal4 y (by omega)
end Go.Proofs.YtfadcafacpaldaaGreat

/- Contracts: the reference lists partitions and congruences; quotients. Conditions: none. -/
namespace Go.Vc
theorem partsL_len : ∀ (d : Nat) (cl : List Nat) (top : Nat), top + d ≤ 5 → (partsL d cl top).length ≤ 6 ^ d
  | 0, _, _, _ => by simp [partsL]
  | d + 1, cl, top, h => by
    have key : ∀ k, k ≤ top + 1 → ((List.range k).flatMap fun k => partsL d (cl ++ [k]) (max top (k + 1))).length ≤ k * 6 ^ d := by
      intro k
      induction k with
      | zero => intro _; simp
      | succ k ih =>
        intro hk
        have := partsL_len d (cl ++ [k]) (max top (k + 1)) (by omega)
        have := ih (by omega)
        rw [List.range_succ, List.flatMap_append, List.length_append, Nat.succ_mul]
        simp only [List.flatMap_cons, List.flatMap_nil, List.append_nil]
        omega
    have := key (top + 1) (Nat.le_refl _)
    show ((List.range (top + 1)).flatMap _).length ≤ _
    rw [Nat.pow_succ, Nat.mul_comm]
    exact Nat.le_trans this (Nat.mul_le_mul_right _ (by omega))
theorem iMaxV {a b : Nat} {k : IntKind} {K : Value → Prop} (h : K (.int k ((max a b : Nat) : Int))) : xMax (.int k (a : Int)) (.int k (b : Int)) K := by
  refine ⟨_, _, _, _, rfl, rfl, ?_⟩
  have e : (if (b : Int) > (a : Int) then (b : Int) else (a : Int)) = ((max a b : Nat) : Int) := by split <;> omega
  rw [e]; exact h
/-- The part of a row of partitions that the first k choices make. -/
def partsK (d : Nat) (cl : List Nat) (top k : Nat) : List (List Nat) := (List.range k).flatMap fun k => partsL d (cl ++ [k]) (max top (k + 1))
theorem partsK_succ (d : Nat) (cl : List Nat) (top k : Nat) : partsK d cl top (k + 1) = partsK d cl top k ++ partsL d (cl ++ [k]) (max top (k + 1)) := by
  unfold partsK
  rw [List.range_succ, List.flatMap_append]
  simp
theorem partsK_len2 {d : Nat} {cl : List Nat} {top : Nat} (h : top + d + 1 ≤ 5) : ∀ k, k ≤ top + 1 → (partsK d cl top k).length ≤ k * 6 ^ d
  | 0, _ => by simp [partsK]
  | k + 1, hk => by
    have := partsL_len d (cl ++ [k]) (max top (k + 1)) (by omega)
    have := partsK_len2 h (cl := cl) k (by omega)
    rw [partsK_succ, List.length_append, Nat.succ_mul]
    omega
theorem partsK_len {d : Nat} {cl : List Nat} {top k : Nat} (h : top + d + 1 ≤ 5) (hk : k ≤ top + 1) : (partsK d cl top k).length ≤ 6 * 6 ^ d := by
  have key := partsK_len2 (cl := cl) h
  exact Nat.le_trans (key k hk) (Nat.mul_le_mul_right _ (by omega))
end Go.Vc
namespace Go.Proofs.YtfadcafacpaldaaGreat
open Go.Vc
/-- Rows of numbers, each the call's own. -/
def RdO (lo : Nat) (w : World) (v : Value) (L : List (List Nat)) : Prop := ∃ P : List VL, Ow lo t_Si64 w v (P.map Prod.fst) ∧ (∀ p ∈ P, Ow lo t_i64 w p.1 (ints p.2)) ∧ P.map Prod.snd = L.map nats
theorem RdO.ext {lo : Nat} {w w' : World} {v : Value} {L : List (List Nat)} (h : RdO lo w v L) (x : Ext w w') : RdO lo w' v L := let ⟨P, a, b, c⟩ := h; ⟨P, a.ext x, fun p hp => (b p hp).ext x, c⟩
theorem RdO.at {lo : Nat} {w : World} {v : Value} {L : List (List Nat)} (h : RdO lo w v L) {k : Nat} (hk : k < L.length) {ki : IntKind} {K : Value → Prop} (hK : ∀ u, Ow lo t_i64 w u (ints (nats L[k])) → K u) : xIa 1 v (.int ki (k : Int)) fun p => xLd w p K := by
  obtain ⟨P, a, b, c⟩ := h
  have hl : P.length = L.length := by have := congrArg List.length c; simpa using this
  refine iIaV a.sl (by rw [List.length_map]; omega) fun p hp => ?_
  refine iLd hp ?_
  rw [List.getElem_map]
  have e : (P.map Prod.snd)[k]'(by rw [List.length_map]; omega) = (L.map nats)[k]'(by rw [List.length_map]; exact hk) := by congr 1
  rw [List.getElem_map, List.getElem_map] at e
  have := b _ (List.getElem_mem (show k < P.length by omega))
  rw [e] at this
  exact hK _ this
/-- A row is laid behind. -/
theorem RdO.app {lo : Nat} {w : World} {v u : Value} {L : List (List Nat)} {r : List Nat} {K : Value → World → Prop} (h : RdO lo w v L) (hu : Ow lo t_i64 w u (ints (nats r))) (hn : L.length ≤ 100000) (hlo : lo ≤ w.heap.size)
    (hK : ∀ v' w', RdO lo w' v' (L ++ [r]) → Ch (fun c => v.ownBlock = some c) w w' → (∀ c, v'.ownBlock = some c → v.ownBlock = some c ∨ w.heap.size ≤ c) → K v' w') :
    xBs t_Si64 (Value.cells (.slice none 0 0)) 1 1 [(0, u)] w fun y w1 => xOp Tryz.prog (Builtin.append_ #[t_SSi64, t_SSi64] t_SSi64 #[v, y]) w1 K := by
  obtain ⟨P, a, b, c⟩ := h
  have hl : P.length = L.length := by have := congrArg List.length c; simpa using this
  refine iApp1A u_SSi64 i_SSi64 rfl a hu.cell (by rw [List.length_map]; omega) (by rw [List.length_map]; omega) hlo fun v' w' ho hg hat => ?_
  have hch := grown_ch (S := fun c => v.ownBlock = some c) hg fun c hc => hc
  have keep : ∀ {u : Value} {xs : List Value}, Ow lo t_i64 w u xs → Ow lo t_i64 w' u xs := fun ho => ho.ch hch fun c hc hc' => ho.ne_ow a (by decide) hc hc'
  refine hK v' w' ⟨P ++ [(u, nats r)], by rw [List.map_append]; exact ho, fun p hp => ?_, by rw [List.map_append, List.map_append, c]; rfl⟩ hch fun c hc => ?_
  · rcases List.mem_append.1 hp with hp | hp
    · exact keep (b p hp)
    · simp at hp; subst hp; exact keep hu
  · rcases hat with e | ⟨d, e, hd⟩
    · exact .inl (by rw [← e]; exact hc)
    · rw [hc] at e
      injection e with e
      subst e
      exact .inr hd
theorem ok_spec_l08Parts : ∀ (d : Nat) {lo : Nat} {w : World} {v1 v3 : Value} {cl : List Nat} {top : Nat} {L : List (List Nat)}, top + d ≤ 5 → cl.length + d ≤ 5 → Ow lo t_i64 w v1 (ints (nats cl)) → RdO lo w v3 L → L.length + 6 ^ d ≤ 50000 → lo ≤ w.heap.size →
    Cal Tryz.prog f_spec_l08Parts #[.int .i64 ((cl.length + d : Nat) : Int), v1, .int .i64 (top : Int), v3] w fun r w' => RdO lo w' r (L ++ partsL d cl top) ∧ Ch (fun c => v3.ownBlock = some c) w w' ∧ ∀ c, r.ownBlock = some c → v3.ownBlock = some c ∨ w.heap.size ≤ c := by
  intro d
  induction d with
  | zero =>
    intro lo w v1 v3 cl top L ht hc h1 h3 hL hlo
    apply c_spec_l08Parts; unfold S_spec_l08Parts
    refine iLenN (l := cl) h1.sl ?_
    refine iEq (iCndP (fun _ => ?_) (fun h => absurd (by omega) h))
    refine RdO.app h3 h1 (by omega) hlo fun v' w' hr hch hat => ?_
    exact ⟨hr, hch, hat⟩
  | succ d ih =>
    intro lo w v1 v3 cl top L ht hc h1 h3 hL hlo
    apply c_spec_l08Parts; unfold S_spec_l08Parts
    have hp6 : 6 ^ (d + 1) = 6 * 6 ^ d := by rw [Nat.pow_succ, Nat.mul_comm]
    refine iLenN (l := cl) h1.sl ?_
    refine iEq (iCndP (fun h => absurd h (by omega)) (fun _ => ?_))
    refine iLp (fun s : Nat × Value => [s.2, .int .i64 (s.1 : Int)]) (fun s w' => s.1 ≤ top + 1 ∧ RdO lo w' s.2 (L ++ partsK d cl top s.1) ∧ Ch (fun c => v3.ownBlock = some c) w w' ∧ (∀ c, s.2.ownBlock = some c → v3.ownBlock = some c ∨ w.heap.size ≤ c) ∧ Ow lo t_i64 w' v1 (ints (nats cl))) (fun s => top + 1 - s.1) (0, v3) rfl
      ⟨Nat.zero_le _, by simpa [partsK] using h3, (Ext.refl _).ch, fun c hc => .inl hc, h1⟩ ?_
    rintro ⟨k, u⟩ w2 Kn ⟨hk, hr, hch, hat, hv1⟩ hKn
    have hk : k ≤ top + 1 := hk
    have hr : RdO lo w2 u (L ++ partsK d cl top k) := hr
    have hat : ∀ c, u.ownBlock = some c → v3.ownBlock = some c ∨ w.heap.size ≤ c := hat
    have hlo2 : lo ≤ w2.heap.size := Nat.le_trans hlo hch.size
    intro _
    simp only [gx]
    refine iLe (iCndP (fun h3 => ?_) (fun h3 => ?_))
    · have hk1 : k < top + 1 := by omega
      refine iCall ((ok_spec_l01Own (l := nats cl) hv1.sl (by rw [nats_length]; omega)).mono ?_)
      rintro u5 w5 ⟨x5, ho5⟩
      refine iApp1A u_Si64 i_Si64 rfl ho5 rfl (by rw [ints_length, nats_length]; omega) (by rw [ints_length, nats_length]; omega) x5.size fun u6 w6 ho6 hg6 hat6 => ?_
      rw [ints_snoc] at ho6
      have x6 : Ext w2 w6 := x5.grown hg6 fun c hc => (ho5.blk c hc).1
      have hr6 := hr.ext x6
      have hv6 := hv1.ext x6
      have hlo6 := Nat.le_trans hlo2 x6.size
      refine iAdd (by omega) ?_
      rw [show (k : Int) + 1 = ((k + 1 : Nat) : Int) by omega]
      refine iMaxV ?_
      have hlen := partsK_len (d := d) (cl := cl) (top := top) (k := k) (by omega) (by omega)
      have hsub : (partsK d cl top k).length + 6 ^ d ≤ 6 * 6 ^ d := by
        have h2 := partsK_len2 (d := d) (cl := cl) (top := top) (by omega) k (by omega)
        have := Nat.mul_le_mul_right (6 ^ d) (show k + 1 ≤ 6 by omega)
        rw [Nat.add_mul, Nat.one_mul] at this
        omega
      have hrec := ih (lo := lo) (w := w6) (v1 := u6) (v3 := u) (cl := cl ++ [k]) (top := max top (k + 1)) (L := L ++ partsK d cl top k) (by omega) (by rw [List.length_append]; simp; omega) (ho6.mono hlo2) hr6 (by rw [List.length_append]; omega) hlo6
      rw [show (cl ++ [k]).length + d = cl.length + (d + 1) by rw [List.length_append]; simp; omega, List.append_assoc, ← partsK_succ] at hrec
      refine iCall (hrec.mono ?_)
      rintro r7 w7 ⟨hr7, hch7, hat7⟩
      have hv7 : Ow lo t_i64 w7 v1 (ints (nats cl)) := hv6.ch hch7 fun c hc hc' => by
        obtain ⟨P, a, _, _⟩ := hr6
        exact hv6.ne_ow a (by decide) hc hc'
      refine iAdd (by omega) ?_
      refine hKn (k + 1, r7) _ ⟨by show k + 1 ≤ top + 1; omega, hr7, (hch.trans (x6.ch (S := fun _ => False)) fun _ e => e.elim).trans hch7 fun c hc => (hat c hc).imp id id, fun c hc => ?_, hv7⟩ (by show top + 1 - (k + 1) < top + 1 - k; omega)
      rcases hat7 c hc with h | h
      · exact hat c h
      · exact .inr (by have := hch.size; have := x6.size; omega)
    · obtain rfl : k = top + 1 := by omega
      exact ⟨hr, hch, hat⟩
theorem ok_spec_l08Congruences {f : Fr} (hf : f.ok) (hf5 : f.n ≤ 5) {v : Value} {w : World} (hs : SlN w v f.a) : Cal Tryz.prog f_spec_l08Congruences #[.agg #[.int .i64 (f.n : Int), v]] w fun r w' => Ext w w' ∧ RdO w.heap.size w' r (congL f) := by
  apply c_spec_l08Congruences; unfold S_spec_l08Congruences
  refine iNew fun b w1 hb x1 hB => ?_
  have hB : Blk _ w1 b [.int .i64 (f.n : Int), v] := hB
  refine iFa (iLdB hB (v := .int .i64 (f.n : Int)) rfl ?_)
  refine iBs0 fun u0 w2 _ x2 ho2 => ?_
  refine iBs0 fun u1 w3 _ x3 ho3 => ?_
  have p6 : 6 ^ f.n ≤ 6 ^ 5 := Nat.pow_le_pow_right (by omega) hf5
  have hrec := ok_spec_l08Parts f.n (lo := w.heap.size) (w := w3) (v1 := u0) (v3 := u1) (cl := []) (top := 0) (L := []) (by omega) (by simp; omega) ((ho2.ext x3).mono x1.size) ⟨[], ho3.mono (x1.trans x2).size, fun p hp => (by cases hp), rfl⟩ (by simp; omega) ((x1.trans x2).trans x3).size
  rw [List.length_nil, Nat.zero_add, List.nil_append] at hrec
  refine iCall (hrec.mono ?_)
  rintro r4 w4 ⟨hr4, hch4, _⟩
  have hX4 : Ext w w4 := ((x1.trans x2).trans x3).thenCh hch4 fun c hc => Nat.le_trans (x1.trans x2).size (ho3.blk c hc).1
  have hB4 := ((hB.ext x2).ext x3).ch hch4 fun hc => by have := (ho3.blk b hc).1; have := x2.size; have := hB.lt; omega
  have hlen := partsL_len f.n [] 0 (by omega)
  have hmem := partsL_mem f.n [] 0 (fun y hy => by cases hy)
  unfold congL
  generalize partsL f.n [] 0 = A at *
  refine iBs0 fun u5 w5 _ x5 ho5 => ?_
  have hr4l : ∀ c, r4.ownBlock = some c → c < w4.heap.size := fun c hc => by obtain ⟨P, a, _, _⟩ := hr4; exact (a.blk c hc).2
  have hw4 := hX4.size
  refine iLp (fun s : Nat × Value => [s.2, .int .i64 (s.1 : Int)]) (fun s w' => s.1 ≤ A.length ∧ Ext w w' ∧ Blk 34 w' b [.int .i64 (f.n : Int), v] ∧ RdO w.heap.size w' r4 A ∧ RdO w.heap.size w' s.2 ((A.take s.1).filter (congB f)) ∧ (∀ c, s.2.ownBlock = some c → w4.heap.size ≤ c) ∧ w4.heap.size ≤ w'.heap.size) (fun s => A.length - s.1) (0, u5) rfl
    ⟨Nat.zero_le _, hX4.trans x5, hB4.ext x5, hr4.ext x5, ⟨[], ho5.mono hw4, fun p hp => (by cases hp), by simp⟩, fun c hc => (ho5.blk c hc).1, x5.size⟩ ?_
  rintro ⟨k, u⟩ w6 Kn ⟨hk, hX6, hB6, hA6, hu6, hul, h46⟩ hKn
  have hk : k ≤ A.length := hk
  have hX6 : Ext w w6 := hX6
  have hu6 : RdO w.heap.size w6 u ((A.take k).filter (congB f)) := hu6
  have hul : ∀ c, u.ownBlock = some c → w4.heap.size ≤ c := hul
  intro _
  simp only [gx]
  have hAl : ∃ vs : List Value, Sl w6 r4 vs ∧ vs.length = A.length := by
    obtain ⟨P, a, _, c⟩ := hA6
    have := congrArg List.length c
    exact ⟨_, a.sl, by simpa using this⟩
  obtain ⟨vs, hvs, hvl⟩ := hAl
  refine iLenS hvs ?_
  rw [hvl]
  refine iLt (iCndP (fun h7 => ?_) (fun h7 => ?_))
  · have hk1 : k < A.length := by omega
    obtain ⟨hml, hmy⟩ := hmem A[k] (List.getElem_mem hk1)
    refine iLdA hB6 rfl ?_
    refine hA6.at hk1 fun c0 hc0 => ?_
    refine iRetQ (fun w' x => ok_spec_l08Congruence hf (hs.ext (hX6.trans x)) (cl := A[k]) (SlI.ext hc0.sl x) (by rw [hml]; simp; omega) (fun y hy => by have := hmy y hy; omega)) ?_
    intro w7 x7
    have htk : (A.take (k + 1)).filter (congB f) = (A.take k).filter (congB f) ++ if congB f A[k] then [A[k]] else [] := by
      rw [List.take_succ_eq_append_getElem hk1, List.filter_append, List.filter_cons, List.filter_nil]
    have hA7 := hA6.ext x7
    have hu7 := hu6.ext x7
    cases hcg : congB f A[k] with
    | true =>
      rw [hcg, if_pos rfl] at htk
      refine iCndT rfl ?_
      refine hA7.at hk1 fun c1 hc1 => ?_
      have hfl : ((A.take k).filter (congB f)).length ≤ 7776 := Nat.le_trans (List.length_filter_le _ _) (by rw [List.length_take]; omega)
      refine RdO.app hu7 hc1 (by omega) (hX6.trans x7).size fun u' w8 hu8 hch8 hat8 => ?_
      have hA8 : RdO w.heap.size w8 r4 A := by
        obtain ⟨Q, qa, _, _⟩ := hu7
        obtain ⟨P, a, b, c⟩ := hA7
        exact ⟨P, a.ch hch8 fun c hc hc' => by have := hr4l c hc; have := hul c hc'; omega, fun p hp => (b p hp).ch hch8 fun c hc hc' => (b p hp).ne_ow qa (by decide) hc hc', c⟩
      refine iAdd (by omega) ?_
      refine hKn (k + 1, u') _ ⟨by show k + 1 ≤ A.length; omega, (hX6.trans x7).thenCh hch8 fun c hc => by have := hul c hc; omega, (hB6.ext x7).ch hch8 fun hc => ?_, hA8, by show RdO _ _ u' ((A.take (k + 1)).filter _); rw [htk]; exact hu8, fun c hc => ?_, by have := x7.size; have := hch8.size; omega⟩ (by show A.length - (k + 1) < A.length - k; omega)
      · have := hul b hc; have := hB4.lt; omega
      · rcases hat8 c hc with h | h
        · exact hul c h
        · have := x7.size; omega
    | false =>
      rw [hcg] at htk
      refine iCndF rfl ?_
      refine iAdd (by omega) ?_
      refine hKn (k + 1, u) _ ⟨by show k + 1 ≤ A.length; omega, hX6.trans x7, hB6.ext x7, hA7, ?_, hul, by have := x7.size; omega⟩ (by show A.length - (k + 1) < A.length - k; omega)
      show RdO _ _ u ((A.take (k + 1)).filter _)
      rw [htk]
      simpa using hu7
  · obtain rfl : k = A.length := by omega
    have hu6 : RdO w.heap.size w6 u ((A.take A.length).filter (congB f)) := hu6
    rw [List.take_length] at hu6
    exact ⟨hX6, hu6⟩
end Go.Proofs.YtfadcafacpaldaaGreat

/- Contracts: quotients of frames; drawn algebras; the frame of an algebra. Conditions: none. -/
namespace Go.Vc
theorem iBs3V {w : World} {e : TypeId} {a b c : Int} {K : Value → World → Prop} (h : ∀ bb w', bb = w.heap.size ∧ w'.heap.size = bb + 1 → Ext w w' → Blk e w' bb (ints [a, b, c]) → K (.slice (some ⟨bb, 0, none⟩) 3 3) w') :
    xBs e (Value.cells (.int .i64 0)) 1 3 [(0, .int .i64 a), (1, .int .i64 b), (2, .int .i64 c)] w K := by
  refine ⟨#[.int .i64 a, .int .i64 b, .int .i64 c], ?_, h _ _ ⟨rfl, by simp⟩ (Ext.alloc w _) (Blk.new w #[.int .i64 a, .int .i64 b, .int .i64 c] e)⟩
  simp [Instr.fill, Value.cells, show Array.range 3 = #[0, 1, 2] from rfl]
end Go.Vc
namespace Go.Proofs.YtfadcafacpaldaaGreat
open Go.Vc
theorem ok_spec_l08Quotient {f : Fr} (hf : f.ok) (hf5 : f.n ≤ 5) {v0 v : Value} {w : World} {cl : List Nat} (h0 : SlN w v0 f.a) (hs : SlN w v cl) (hl : cl.length = f.n) (hy : ∀ y ∈ cl, y < f.n) :
    Cal Tryz.prog f_spec_l08Quotient #[.agg #[.int .i64 (f.n : Int), v0], v] w fun r w' => Ext w w' ∧ ∃ (n : Nat) (a : List Nat) (u : Value), r = .agg #[.int .i64 (n : Int), u] ∧ n ≤ 5 ∧ RelOk n a ∧ Ow w.heap.size t_i64 w' u (ints (nats a)) := by
  apply c_spec_l08Quotient; unfold S_spec_l08Quotient
  have p8 : 2 ^ f.n ≤ 2 ^ 5 := Nat.pow_le_pow_right (by omega) hf5
  refine iNew fun b w1 hb x1 hB => ?_
  have hB : Blk 34 w1 b [.int .i64 (f.n : Int), v0] := hB
  refine iNew fun b2 w2 hb2 x2 hB2 => ?_
  have hX2 := x1.trans x2
  have hB := hB.ext x2
  refine iLp (fun k : Nat => [.int .i64 ((cntK cl k : Nat) : Int), .int .i64 (k : Int)]) (fun k w' => k ≤ cl.length ∧ Ext w2 w') (fun k => cl.length - k) 0 rfl ⟨Nat.zero_le _, Ext.refl _⟩ ?_
  rintro k w3 Kn ⟨hk, x3⟩ hKn
  have hs3 := hs.ext (hX2.trans x3)
  intro _
  simp only [gx]
  refine iLenN hs3 ?_
  refine iLt (iCndP (fun h3 => ?_) (fun h3 => ?_))
  · have hk1 : k < cl.length := by omega
    have := getD_lt hy hk1
    refine iIaNN hs3 hk1 fun p hp => ?_
    refine iLd hp ?_
    refine iAdd (by omega) ?_
    rw [show ((cl.getD k 0 : Nat) : Int) + 1 = ((cl.getD k 0 + 1 : Nat) : Int) by omega]
    refine iMaxV ?_
    refine iAdd (by omega) ?_
    exact hKn (k + 1) _ ⟨by omega, x3⟩ (by omega)
  obtain rfl : k = cl.length := by omega
  clear hKn
  have hcl := cntK_le hy cl.length (Nat.le_refl _)
  have hyc : ∀ y ∈ cl, y < cntK cl cl.length := fun y hy' => by
    obtain ⟨i, hi, rfl⟩ := List.getElem_of_mem hy'
    have := cntK_lt cl cl.length i hi
    simpa [List.getD_eq_getElem?_getD, hi] using this
  generalize cntK cl cl.length = n at *
  refine iMk (by omega) (by omega) rfl fun b4 w4 hb4 x4 hB4 => ?_
  have hX4 := (hX2.trans x3).trans x4
  have ez : ints (nats (List.replicate n 0)) = List.replicate n (.int .i64 0) := by simp [ints, nats]
  rw [← ez] at hB4
  have hB4 : Ow w.heap.size t_i64 w4 (.slice (some ⟨b4, 0, none⟩) n n) (ints (nats (List.replicate n 0))) := Ow.ofBlk hB4 (by have := hX2.size; have := x3.size; omega) (by simp [ints, nats]) (by omega)
  refine iLp (fun k : Nat => [.int .i64 (k : Int)]) (fun k w' => k ≤ cl.length ∧ Ext w w' ∧ Blk 34 w' b [.int .i64 (f.n : Int), v0] ∧ Blk 34 w' b2 [.int .i64 0, .slice none 0 0] ∧ ∃ a, RelOk n a ∧ Ow w.heap.size t_i64 w' (.slice (some ⟨b4, 0, none⟩) n n) (ints (nats a))) (fun k => cl.length - k) 0 rfl
    ⟨Nat.zero_le _, hX4, (hB.ext x3).ext x4, (hB2.ext x3).ext x4, _, ⟨by simp, fun y hy => by rw [List.eq_of_mem_replicate hy]; exact Nat.two_pow_pos n⟩, hB4⟩ ?_
  rintro k w5 Kn ⟨hk, hX5, g1, g2, a, ha, ho⟩ hKn
  have hs5 := hs.ext hX5
  have h05 := h0.ext hX5
  intro _
  simp only [gx]
  refine iLenN hs5 ?_
  refine iLt (iCndP (fun h5 => ?_) (fun h5 => ?_))
  · have hk1 : k < cl.length := by omega
    have hck := getD_lt hyc hk1
    have hfa := hf.lt (show k < f.n by omega)
    refine iIaNN hs5 hk1 fun p hp => ?_
    refine iLd hp ?_
    refine iFa (iLdB g1 (v := v0) rfl ?_)
    refine iIaNN h05 (by rw [hf.2.1]; omega) fun p hp => ?_
    refine iLd hp ?_
    refine iRetQ (fun w' x => ok_spec_l08Image (hs5.ext x) (fun y h => by have := hy y h; omega) (by omega) _ (by omega)) ?_
    have hal : (ints (nats a)).length = n := by rw [ints_length, nats_length]; exact ha.1
    refine iIaOwE ho (by rw [hal]; exact hck) fun q hq hst => ?_
    intro w6 x6
    obtain ⟨hc1, hc2, hc3⟩ := hst w6 _ rfl (ho.ext x6)
    rw [List.getElem?_eq_getElem (by rw [hal]; exact hck)] at hc1
    refine iSt hc1 hc2 rfl ?_
    have ho7 := hc3 (.int .i64 ((img cl (f.a.getD k 0) : Nat) : Int))
    have hqb := (ho.blk q hq).1
    have hu7 := Upd.setCell w6 q (cl.getD k 0) (.int .i64 ((img cl (f.a.getD k 0) : Nat) : Int))
    generalize w6.setCell ⟨q, cl.getD k 0, none⟩ (.int .i64 ((img cl (f.a.getD k 0) : Nat) : Int)) = w7 at *
    intro w8 x8
    refine iAdd (by omega) ?_
    have hqe : q = b4 := by simp only [Value.ownBlock, Option.some.injEq] at hq; exact hq.symm
    have hbq : b ≠ q := by rw [hqe]; have := hB.lt; have := x3.size; omega
    have hb2q : b2 ≠ q := by rw [hqe]; have := hB2.lt; have := x3.size; omega
    refine hKn (k + 1) _ ⟨by omega, ((hX5.trans x6).upd hu7 hqb).trans x8, ((g1.ext x6).upd hu7 hbq).ext x8, ((g2.ext x6).upd hu7 hb2q).ext x8, a.set (cl.getD k 0) (img cl (f.a.getD k 0)), ha.set _ _ (img_lt hyc _), ?_⟩ (by omega)
    have e : (ints (nats a)).set (cl.getD k 0) (.int .i64 ((img cl (f.a.getD k 0) : Nat) : Int)) = ints (nats (a.set (cl.getD k 0) (img cl (f.a.getD k 0)))) := by simp [ints, nats, List.map_set]
    rw [e] at ho7
    exact ho7.ext x8
  · refine iBuild (cs := #[.int .i64 (n : Int), .slice (some ⟨b4, 0, none⟩) n n]) (fillP2 rfl rfl) ?_
    refine iStAB g2 rfl rfl (ho.pair _) fun w6 hu6 hB6 => ?_
    refine iLdA hB6 rfl ?_
    exact ⟨hX5.upd hu6 (by have := x1.size; omega), n, a, _, rfl, by omega, ha, ho.upd hu6 (ho.ne_blk g2 (by decide))⟩
theorem ok_spec_l15Some {e : TypeId} (hne : t_i64 ≠ e) {w0 : World} {vc : Value} {bs : List Nat} (hc : SlB w0 vc bs) {b : Nat} {w : World} (hS : Src e w0 vc b w) (atoms : Nat) (hw : atoms ≤ 8) :
    Drw Tryz.prog f_spec_l15Some #[.pointer (some ⟨b, 0, none⟩), .int .i64 (atoms : Int)] e w0 vc b w fun r w' => ∃ (n : Nat) (u : Value) (l : List Int), r = .agg #[.int .i64 (n : Int), u] ∧ n ≤ atoms ∧ Ow w.heap.size t_i64 w' u (ints l) ∧ l.length = 2 ^ n := by
  apply c_spec_l15Some; unfold S_spec_l15Some
  have hlow := hS.ext.size
  refine iNew fun b4 w1 hb4 x1 hB4 => ?_
  have hS1 := hS.later x1
  have hb4b : b4 ≠ b := by have := hS.lt; omega
  refine iCall ((ok_spec_l05Some hne hc hS1 atoms (by omega)).mono ?_)
  rintro _ w2 ⟨⟨n, a, v, rfl, hn, ha, ho⟩, hS2, hch2⟩
  have hB4 := hB4.ch hch2 hb4b
  have hC2 : Ch (fun c => c = b) w w2 := ch_self (x1.ch (S := fun c => c = b)) hch2
  refine iNew fun b5 w3 hb5 x3 hB5 => ?_
  have ho3 := ho.ext x3
  refine iStAB hB5 rfl rfl (ho3.pair _) fun w4 hu4 hB5 => ?_
  have hB5 : Blk _ w4 b5 [.int .i64 (n : Int), v] := hB5
  have hb5n : b5 ≠ b := by have := hS2.lt; omega
  have ho4 := ho3.upd hu4 fun e => by have := (ho.blk b5 e).2; omega
  have hw2 := hC2.size
  have hb45 : b4 ≠ b5 := by have := hB4.lt; omega
  have hB4 := (hB4.ext x3).upd hu4 hb45
  have hS4 := (hS2.later x3).upd hu4 (fun e => hb5n e.symm) (by omega)
  have hC4 : Ch (fun c => c = b) w w4 := (ch_ext hC2 x3).trans (hu4.ch (S := fun c => c = b5) rfl) fun c hc => .inr (by omega)
  refine iFa (iLdB hB5 (v := .int .i64 (n : Int)) rfl ?_)
  refine iLt (iCndP (fun h => absurd h (by omega)) (fun _ => ?_))
  refine iLdA hB5 rfl ?_
  refine iCall ((ok_spec_l15Of (by omega) ha ho4.sl).mono ?_)
  rintro _ w5 ⟨x5, u, l, rfl, hu, hlen⟩
  have hw4 := hC4.size
  have hu' := hu.mono hw4
  refine iStAB (hB4.ext x5) rfl rfl (hu'.pair _) fun w6 hu6 hB6 => ?_
  refine iLdA hB6 rfl ?_
  refine ⟨⟨n, u, l, rfl, hn, hu'.upd hu6 (hu'.ne_blk (hB4.ext x5) (by decide)), hlen⟩, (hS4.later x5).upd hu6 (fun e => hb4b e.symm) (by omega), ?_⟩
  exact (ch_ext hC4 x5).trans (hu6.ch (S := fun c => c = b4) rfl) fun c hc => .inr (by omega)
theorem ok_spec_l15Draw {e : TypeId} (hne : t_i64 ≠ e) {w0 : World} {vc : Value} {bs : List Nat} (hc : SlB w0 vc bs) {b : Nat} {w : World} (hS : Src e w0 vc b w) (atoms : Nat) (hw : atoms ≤ 8) :
    Drw Tryz.prog f_spec_l15Draw #[.pointer (some ⟨b, 0, none⟩), .int .i64 (atoms : Int)] e w0 vc b w fun r w' => ∃ (n : Int) (u : Value) (l : List Int), r = .agg #[.int .i64 n, u] ∧ Ow w.heap.size t_i64 w' u (ints l) := by
  apply c_spec_l15Draw; unfold S_spec_l15Draw
  have hlow := hS.ext.size
  refine iNew fun b4 w1 hb4 x1 hB4 => ?_
  have hS1 := hS.later x1
  have hb4b : b4 ≠ b := by have := hS.lt; omega
  refine iCall ((ok_spec_l15Some hne hc hS1 atoms hw).mono ?_)
  rintro _ w2 ⟨⟨n, u, l, rfl, hn, ho, hlen⟩, hS2, hch2⟩
  have hB4 := hB4.ch hch2 hb4b
  have hC2 : Ch (fun c => c = b) w w2 := ch_self (x1.ch (S := fun c => c = b)) hch2
  have ho := ho.mono x1.size
  have hl1 : l.length = 2 ^ n := hlen
  have hl0 : 0 < l.length := by rw [hl1]; exact Nat.two_pow_pos n
  have hl256 : l.length ≤ 256 := by rw [hl1]; exact Nat.pow_le_pow_right (n := 2) (j := 8) (by omega) (by omega)
  refine iNew fun b5 w3 hb5 x3 hB5 => ?_
  have ho3 := ho.ext x3
  refine iStAB hB5 rfl rfl (ho3.pair _) fun w4 hu4 hB5 => ?_
  have hB5 : Blk 26 w4 b5 [.int .i64 (n : Int), u] := hB5
  have hb5n : b5 ≠ b := by have := hS2.lt; omega
  have ho4 := ho3.upd hu4 fun e => by have := (ho.blk b5 e).2; omega
  have hw2 := hC2.size
  have hb45 : b4 ≠ b5 := by have := hB4.lt; omega
  have hB4 := (hB4.ext x3).upd hu4 hb45
  have hS4 := (hS2.later x3).upd hu4 (fun e => hb5n e.symm) (by omega)
  have hC4 : Ch (fun c => c = b) w w4 := (ch_ext hC2 x3).trans (hu4.ch (S := fun c => c = b5) rfl) fun c hc => .inr (by omega)
  -- the end
  have fin : ∀ (m : Int) (l' : List Int) (w' : World), Blk 26 w' b5 [.int .i64 m, u] → Blk 26 w' b4 [.int .i64 0, .slice none 0 0] → Ow w.heap.size t_i64 w' u (ints l') → Src e w0 vc b w' → Ch (fun c => c = b) w w' →
      xLdA w' 2 (.pointer (some ⟨b5, 0, none⟩)) fun v29 => xStA Tryz.prog w' 2 (.pointer (some ⟨b4, 0, none⟩)) v29 fun w16 => xLdA w16 2 (.pointer (some ⟨b4, 0, none⟩)) fun r17 => (∃ (n : Int) (u : Value) (l : List Int), r17 = .agg #[.int .i64 n, u] ∧ Ow w.heap.size t_i64 w16 u (ints l)) ∧ Src e w0 vc b w16 ∧ Ch (fun c => c = b) w w16 := by
    intro m l' w' g5 g4 go gS gC
    refine iLdA g5 rfl ?_
    refine iStAB g4 rfl rfl (go.pair _) fun w6 hu6 hB6 => ?_
    refine iLdA hB6 rfl ?_
    exact ⟨⟨m, u, l', rfl, go.upd hu6 (go.ne_blk g4 (by decide))⟩, gS.upd hu6 (fun e => hb4b e.symm) (by omega), gC.trans (hu6.ch (S := fun c => c = b4) rfl) fun c hc => .inr (by omega)⟩
  refine iCall ((ok_spec_l01Next hc hS4 20).mono ?_)
  rintro _ w5 ⟨⟨z, rfl, _, _⟩, hS5, hch5⟩
  have hC5 := ch_self hC4 hch5
  have hB4 := hB4.ch hch5 hb4b
  have hB5 := hB5.ch hch5 hb5n
  have ho5 := ho4.ch hch5 fun c hc e => hS4.neOw ho4 hne (by rw [hc, e])
  refine iEq (iCndP (fun _ => ?_) (fun _ => ?_))
  · refine ⟨fun c => c = b, ?_⟩
    refine iFa (iLdB hB5 (v := u) rfl ⟨fun w7 h7 => iLdB (hB5.ch h7 hb5n) (v := u) rfl rfl, ?_⟩)
    refine iFa (iLdB hB5 (v := u) rfl ⟨fun w7 h7 => iLdB (hB5.ch h7 hb5n) (v := u) rfl rfl, ?_⟩)
    refine iLenI ho5.sl ?_
    intro w9 x9
    have hS9 := hS5.later x9
    refine iCall ((ok_spec_l01Next hc hS9 (l.length : Nat)).mono ?_)
    rintro _ w10 ⟨⟨q, rfl, hq, _⟩, hS10, hch10⟩
    have hq := hq (by omega)
    refine ⟨hch10, ?_⟩
    intro w11 x11
    have hS11 := hS10.later x11
    refine iCall ((ok_spec_l01Next hc hS11 4).mono ?_)
    rintro _ w12 ⟨⟨y, rfl, _, _⟩, hS12, hch12⟩
    refine ⟨hch12, ?_⟩
    have c512 : Ch (fun c => c = b) w5 w12 := ch_self (ch_ext (ch_self (x9.ch (S := fun c => c = b)) hch10) x11) hch12
    have ho12 := ho5.ch c512 fun c hc e => hS5.neOw ho5 hne (by rw [hc, e])
    have hC12 := ch_self hC5 c512
    refine iIaOwE ho12 (by rw [ints_length]; omega) fun p hp hst => ?_
    intro w13 x13
    obtain ⟨hc1, hc2, hc3⟩ := hst w13 _ rfl (ho12.ext x13)
    rw [List.getElem?_eq_getElem (by rw [ints_length]; omega)] at hc1
    refine iSt hc1 hc2 rfl ?_
    have ho14 := hc3 (.int .i64 (y : Int))
    have hu14 := Upd.setCell w13 p q (.int .i64 (y : Int))
    generalize w13.setCell ⟨p, q, none⟩ (.int .i64 (y : Int)) = w14 at *
    have hpb := ho12.blk p hp
    have hpS : b ≠ p := fun e => hS12.neOw ho12 hne (by rw [hp, e])
    have hp5 : b5 ≠ p := fun e => ho12.ne_blk (hB5.ch c512 hb5n) (by decide) (by rw [hp, e])
    have hp4 : b4 ≠ p := fun e => ho12.ne_blk (hB4.ch c512 hb4b) (by decide) (by rw [hp, e])
    intro w15 x15
    have e1 : (ints l).set q (.int .i64 (y : Int)) = ints (l.set q (y : Int)) := by simp [ints, List.map_set]
    rw [e1] at ho14
    exact fin n _ w15 ((((hB5.ch c512 hb5n).ext x13).upd hu14 hp5).ext x15) ((((hB4.ch c512 hb4b).ext x13).upd hu14 hp4).ext x15) (ho14.ext x15) (((hS12.later x13).upd hu14 hpS (by omega)).later x15) (ch_ext ((ch_ext hC12 x13).trans (hu14.ch (S := fun c => c = p) rfl) fun c hc => .inr (by omega)) x15)
  · refine iEq (iCndP (fun _ => ?_) (fun _ => ?_))
    · refine iBs3V fun bb w6 hbb x6 hBb => ?_
      have hS6 := hS5.later x6
      refine iCall ((ok_spec_l01Pick (l := [-1, 6, 2]) hc hS6 rfl hBb (by have := hS5.lt; omega) (by decide) (by decide)).mono ?_)
      rintro _ w7 ⟨⟨x, rfl, _⟩, hS7, hch7⟩
      have g5 := (hB5.ext x6).ch hch7 hb5n
      have g4 := (hB4.ext x6).ch hch7 hb4b
      have go := (ho5.ext x6).ch hch7 fun c hc e => hS6.neOw (ho5.ext x6) hne (by rw [hc, e])
      refine iFa ?_
      refine iStB g5 (by simp) rfl fun hB8 => ?_
      have hu8 := Upd.setCell w7 b5 0 (.int .i64 x)
      have hC7 := ch_self (ch_ext hC5 x6) hch7
      exact fin x l _ hB8 (g4.upd hu8 hb45) (go.upd hu8 (go.ne_blk g5 (by decide))) (hS7.upd hu8 (fun e => hb5n e.symm) (by omega)) (hC7.trans (hu8.ch (S := fun c => c = b5) rfl) fun c hc => .inr (by omega))
    · exact fin n l w5 hB5 hB4 ho5 hS5 hC5
end Go.Proofs.YtfadcafacpaldaaGreat

/- Contracts: two drawn algebras; the frame of an algebra in the reference. Conditions: none. -/
namespace Go.Vc
theorem iJnPV {F : (List Value → World → Prop) → Prop} {K : List Value → World → Prop} (C : List Value → World → Prop) (h : ∀ J : List Value → World → Prop, (∀ xs w, C xs w → J xs w) → F J) (hK : ∀ xs w, C xs w → K xs w) : jn F K := h K hK
end Go.Vc
namespace Go.Proofs.YtfadcafacpaldaaGreat
open Go.Vc
theorem ok_spec_FrameOfAlgebra_good {v : Value} {w : World} {m : Nat} {a : List Nat} (hs : SlN w v a) (hok : algOk (m : Int) (nats a) = true) (hm5 : m ≤ 5) (hal : a.length = 2 ^ m) (hlt : ∀ x ∈ a, x < 2 ^ m) :
    Cal Tryz.prog f_spec_FrameOfAlgebra #[.agg #[.int .i64 (m : Int), v]] w fun r w' => Ext w w' ∧ ∃ u, r = .tuple #[.agg #[.int .i64 (m : Int), u], .int .i64 0] ∧ Ow w.heap.size t_i64 w' u (ints (nats (algFr m a).a)) := by
  apply c_spec_FrameOfAlgebra; unfold S_spec_FrameOfAlgebra
  refine iNew fun b w1 hb x1 hB => ?_
  refine iNew fun b2 w2 hb2 x2 hB2 => ?_
  have hX := x1.trans x2
  refine iLdA (hB.ext x2) rfl ?_
  have e0 := ok_spec_l15Is (SlI.ext hs hX) (m : Int)
  rw [hok] at e0
  refine iRet e0 fun w3 x3 => ?_
  refine iNot (iCndF rfl ?_)
  refine iLdA ((hB.ext x2).ext x3) rfl ?_
  have hX3 := hX.trans x3
  refine iCall ((ok_spec_l15FrameO (hs.ext hX3) hm5 hal hlt).mono ?_)
  rintro _ w4 ⟨x4, u, rfl, ho⟩
  have ho := ho.mono hX3.size
  have g2 := (hB2.ext x3).ext x4
  refine iStAB g2 rfl rfl (ho.pair _) fun w5 hu5 hB5 => ?_
  refine iLdA hB5 rfl ?_
  exact ⟨(hX3.trans x4).upd hu5 (by have := x1.size; omega), u, rfl, ho.upd hu5 (ho.ne_blk g2 (by decide))⟩
theorem ok_spec_l15Two {e : TypeId} (hne : t_i64 ≠ e) (hneS : t_Si64 ≠ e) {w0 : World} {vc : Value} {bs : List Nat} (hc : SlB w0 vc bs) {b : Nat} {w : World} (hS : Src e w0 vc b w) :
    Drw Tryz.prog f_spec_l15Two #[.pointer (some ⟨b, 0, none⟩)] e w0 vc b w fun r w' => ∃ (n0 : Int) (l0 : List Int) (u0 : Value) (n1 : Int) (l1 : List Int) (u1 : Value), r = .tuple #[.agg #[.int .i64 n0, u0], .agg #[.int .i64 n1, u1]] ∧ Ow w.heap.size t_i64 w' u0 (ints l0) ∧ Ow w.heap.size t_i64 w' u1 (ints l1) := by
  apply c_spec_l15Two; unfold S_spec_l15Two
  have hlow := hS.ext.size
  have hbl := hS.lt
  refine iNew fun b2 w1 hb2 x1 hB2 => ?_
  refine iNew fun b3 w2 hb3 x2 hB3 => ?_
  have hX2 := x1.trans x2
  have hB2 : Blk 26 w2 b2 [.int .i64 0, .slice none 0 0] := hB2.ext x2
  have hB3 : Blk 26 w2 b3 [.int .i64 0, .slice none 0 0] := hB3
  have hS2 := hS.later hX2
  have n2 : b2 ≠ b := by omega
  have n3 : b3 ≠ b := by omega
  have n23 : b2 ≠ b3 := by omega
  refine iCall ((ok_spec_l01Next hc hS2 4).mono ?_)
  rintro _ w3 ⟨⟨z, rfl, hz, _⟩, hS3, hch3⟩
  have hz := hz (by omega)
  refine iAdd (by omega) ?_
  rw [show (1 : Int) + (z : Int) = ((1 + z : Nat) : Int) by omega]
  refine iCall ((ok_spec_l15Draw hne hc hS3 (1 + z) (by omega)).mono ?_)
  rintro _ w4 ⟨⟨n, u, l, rfl, ho⟩, hS4, hch4⟩
  have c24 := ch_self hch3 hch4
  have hC4 : Ch (fun c => c = b) w w4 := ch_self (hX2.ch (S := fun c => c = b)) c24
  have hB2 := hB2.ch c24 n2
  have hB3 := hB3.ch c24 n3
  have hs3 : w.heap.size ≤ w3.heap.size := Nat.le_trans hX2.size hch3.size
  have ho := ho.mono hs3
  have hw4 := hC4.size
  refine iNew fun b4 w5 hb4 x5 hB4 => ?_
  have n4 : b4 ≠ b := by have := hS4.lt; omega
  have n24 : b2 ≠ b4 := by have := hB2.lt; omega
  have n34 : b3 ≠ b4 := by have := hB3.lt; omega
  have ho5 := ho.ext x5
  refine iStAB hB4 rfl rfl (ho5.pair _) fun w6 hu6 hB4 => ?_
  have hB4 : Blk 26 w6 b4 [.int .i64 n, u] := hB4
  have hB2 := (hB2.ext x5).upd hu6 n24
  have hB3 := (hB3.ext x5).upd hu6 n34
  have ho6 := ho5.upd hu6 fun e => by have := (ho.blk b4 e).2; omega
  have hS6 := (hS4.later x5).upd hu6 (fun e => n4 e.symm) (by omega)
  have hC6 : Ch (fun c => c = b) w w6 := (ch_ext hC4 x5).trans (hu6.ch (S := fun c => c = b4) rfl) fun c hc => .inr (by omega)
  refine iJnPV (fun xs w' => ∃ T : Bool, xs = [.bool T] ∧ Src e w0 vc b w' ∧ Ch (fun c => c = b) w6 w' ∧ (T = false → algOk n l = true)) (fun J hJ => ?_) (fun xs w8 hC => ?_)
  · refine iLdA hB4 rfl ?_
    refine iRet (ok_spec_l15Is ho6.sl n) fun w9 x9 => ?_
    have hS9 := hS6.later x9
    refine iNot ?_
    cases hok : algOk n l with
    | false => exact iCndT rfl (hJ _ _ ⟨true, rfl, hS9, x9.ch, fun h => by cases h⟩)
    | true =>
      refine iCndF rfl ?_
      refine iCall ((ok_spec_l01Next hc hS9 3).mono ?_)
      rintro _ w10 ⟨⟨y, rfl, _, _⟩, hS10, hch10⟩
      refine iEq ?_
      exact hJ _ _ ⟨_, rfl, hS10, ch_self x9.ch hch10, fun _ => hok⟩
  obtain ⟨T, rfl, hS8, c68, hT⟩ := hC
  intro _
  simp only [gx]
  have hB2 := hB2.ch c68 n2
  have hB3 := hB3.ch c68 n3
  have hB4 := hB4.ch c68 n4
  have ho8 := ho6.ch c68 fun c hc e => hS6.neOw ho6 hne (by rw [hc, e])
  have hC8 := ch_self hC6 c68
  have hw8 := hC8.size
  -- both are laid down and handed back
  cases T with
  | true =>
    refine iCndT rfl ?_
    refine ⟨fun c => c = b ∨ c = b2, ?_⟩
    refine iLdA hB4 rfl ⟨fun w12 h12 => iLdA (hB4.ch h12 (by rintro (h | h) <;> omega)) rfl rfl, ?_⟩
    intro w13 x13
    have hS13 := hS8.later x13
    refine iCall ((ok_spec_l15Draw hne hc hS13 3 (by omega)).mono ?_)
    rintro _ w14 ⟨⟨n', u', l', rfl, ho'⟩, hS14, hch14⟩
    refine ⟨hch14.mono fun c h => .inl h, ?_⟩
    intro w15 x15
    have c815 : Ch (fun c => c = b) w8 w15 := ch_ext (ch_self x13.ch hch14) x15
    have hS15 := hS14.later x15
    have g2 := hB2.ch c815 n2
    have g3 := hB3.ch c815 n3
    have go := ho8.ch c815 fun c hc e => hS8.neOw ho8 hne (by rw [hc, e])
    have go' := (ho'.ext x15).mono (show w.heap.size ≤ w13.heap.size from Nat.le_trans hw8 x13.size)
    refine iStAB g2 rfl rfl (go'.pair _) fun w16 hu16 h2 => ?_
    refine ⟨hu16.ch (.inr rfl), ?_⟩
    intro w17 x17
    have g3' := (g3.upd hu16 n23.symm).ext x17
    have go16 := (go.upd hu16 (go.ne_blk g2 (by decide))).ext x17
    have go16' := (go'.upd hu16 (go'.ne_blk g2 (by decide))).ext x17
    refine iStAB g3' rfl rfl (go16.pair _) fun w18 hu18 h3 => ?_
    intro w19 x19
    refine iLdA (((h2.ext x17).upd hu18 n23).ext x19) rfl ?_
    refine iLdA (h3.ext x19) rfl ?_
    have hSa := (hS15.upd hu16 (fun e => n2 e.symm) (by omega)).later x17
    refine ⟨⟨n', l', u', n, l, u, rfl, (go16'.upd hu18 (go16'.ne_blk g3' (by decide))).ext x19, (go16.upd hu18 (go16.ne_blk g3' (by decide))).ext x19⟩, (hSa.upd hu18 (fun e => n3 e.symm) (by omega)).later x19, ?_⟩
    have hCa := (ch_self hC8 c815).trans (hu16.ch (S := fun c => c = b2) rfl) fun c hc => .inr (by omega)
    exact ch_ext ((ch_ext hCa x17).trans (hu18.ch (S := fun c => c = b3) rfl) fun c hc => .inr (by omega)) x19
  | false =>
    refine iCndF rfl ?_
    have hok := hT rfl
    obtain ⟨m, a, rfl, rfl, hm5, hal, hlt, _, _⟩ := algOk_of hok
    refine iLdA hB4 rfl ?_
    refine iCall ((ok_spec_l15FrameO (a := a) ho8.sl hm5 hal hlt).mono ?_)
    rintro _ w9 ⟨x9, uf, rfl, hof⟩
    refine iNew fun b5 w10 hb5 x10 hB5 => ?_
    have hof10 := hof.ext x10
    refine iStAB hB5 rfl rfl (hof10.pair _) fun w11 hu11 hB5 => ?_
    have hB5 : Blk 34 w11 b5 [.int .i64 (m : Int), uf] := hB5
    have hx9 := x9.size
    have hx10 := x10.size
    have n5 : b5 ≠ b := by have := hS8.lt; omega
    have n25 : b2 ≠ b5 := by have := hB2.lt; omega
    have n35 : b3 ≠ b5 := by have := hB3.lt; omega
    have n45 : b4 ≠ b5 := by have := hB4.lt; omega
    have x811 : Ext w8 w11 := (x9.trans x10).upd hu11 (by omega)
    have hof11 := hof10.upd hu11 fun e => by have := (hof.blk b5 e).2; omega
    have hfo := algFr_ok a (show m ≤ 8 by omega)
    refine iLdA hB5 rfl ?_
    refine iCall ((ok_spec_l08Congruences (f := algFr m a) hfo hm5 hof11.sl).mono ?_)
    rintro r12 w12 ⟨x12, hr12⟩
    have hcp := congL_pos (algFr m a)
    have hcm := fun r h => congL_mem (f := algFr m a) (r := r) h
    generalize congL (algFr m a) = L at *
    have x812 := x811.trans x12
    have g5 := hB5.ext x12
    have g4 := hB4.ext x812
    have hof12 := hof11.ext x12
    obtain ⟨P, pa, pb, pc⟩ := hr12
    have hPl : P.length = L.length := by have := congrArg List.length pc; simpa using this
    refine ⟨fun c => c = b ∨ c = b2, ?_⟩
    have hnD : ∀ c, c ≠ b → c ≠ b2 → ¬ (c = b ∨ c = b2) := fun c h1 h2 h => by rcases h with h | h <;> omega
    refine iLdA g5 rfl ⟨fun w' h' => iLdA (g5.ch h' (hnD _ n5 n25.symm)) rfl rfl, ?_⟩
    refine iLenS pa.sl ?_
    rw [List.length_map, hPl]
    refine iLdA g4 rfl ⟨fun w' h' => iLdA (g4.ch h' (hnD _ n4 n24.symm)) rfl rfl, ?_⟩
    intro w13 x13
    have hS13 := (hS8.later x812).later x13
    refine iCall ((ok_spec_l01Next hc hS13 (L.length : Nat)).mono ?_)
    rintro _ w14 ⟨⟨q, rfl, hq, _⟩, hS14, hch14⟩
    have hq := hq (by omega)
    refine ⟨hch14.mono fun c h => .inl h, ?_⟩
    have c1214 : Ch (fun c => c = b) w12 w14 := ch_self x13.ch hch14
    have hSx := (hS8.later x812)
    have pa14 := pa.ch c1214 fun c hc e => hSx.neOw pa hneS (by rw [hc, e])
    have hqP : q < P.length := by omega
    have hmq : P[q] ∈ P := List.getElem_mem hqP
    have hrow := pb _ hmq
    have hrow14 := hrow.ch c1214 fun c hc e => hSx.neOw hrow hne (by rw [hc, e])
    have heq : P[q].2 = nats (L[q]'(by omega)) := by
      have e : (P.map Prod.snd)[q]'(by rw [List.length_map]; omega) = (L.map nats)[q]'(by rw [List.length_map]; omega) := by congr 1
      rw [List.getElem_map, List.getElem_map] at e
      exact e
    obtain ⟨hql, hqy⟩ := hcm _ (List.getElem_mem (show q < L.length by omega))
    rw [heq] at hrow14
    have g2w : Blk 26 w14 b2 [.int .i64 0, .slice none 0 0] := (hB2.ext x812).ch c1214 n2
    refine iIaOwE pa14 (by rw [List.length_map]; exact hqP) fun pb' hpb hst => ?_
    have hcell := (hst w14 _ rfl pa14).1
    rw [List.getElem?_eq_getElem (by rw [List.length_map]; exact hqP), List.getElem_map] at hcell
    refine iLd hcell ⟨fun w31 h31 => ?_, ?_⟩
    · have pa31 := pa14.ch h31 fun c hc h => by
        rcases h with h | h
        · exact hS14.neOw pa14 hneS (by rw [hc, h])
        · exact pa14.ne_blk g2w (by decide) (by rw [hc, h])
      have := (hst w31 _ rfl pa31).1
      rw [List.getElem?_eq_getElem (by rw [List.length_map]; exact hqP), List.getElem_map] at this
      exact iLd this rfl
    intro w32 x32
    have hof14 := hof12.ch c1214 fun c hc e => hSx.neOw hof12 hne (by rw [hc, e])
    refine iCall ((ok_spec_l08Quotient hfo hm5 (hof14.ext x32).sl (cl := L[q]'(by omega)) (hrow14.ext x32).sl hql hqy).mono ?_)
    rintro _ w33 ⟨x33, n', a', uq, rfl, hn', ha', hoq⟩
    refine ⟨x33.ch, ?_⟩
    intro w34 x34
    refine iCall ((ok_spec_l15Of (show n' ≤ 8 by omega) ha' (hoq.ext x34).sl).mono ?_)
    rintro _ w35 ⟨x35, ua, la, rfl, hoa, _⟩
    refine ⟨x35.ch, ?_⟩
    intro w36 x36
    have x1436 := (((x32.trans x33).trans x34).trans x35).trans x36
    have g2 := g2w.ext x1436
    have g3 := ((hB3.ext x812).ch c1214 n3).ext x1436
    have hS36 := hS14.later x1436
    have hC14 := ch_self (ch_ext hC8 x812) c1214
    have hC36 := ch_ext hC14 x1436
    have hw14 := hC14.size
    have hoa36 := (hoa.ext x36).mono (show w.heap.size ≤ w34.heap.size by have := x32.size; have := x33.size; have := x34.size; omega)
    have ho36 := ((ho8.ext x812).ch c1214 fun c hc e => hSx.neOw (ho8.ext x812) hne (by rw [hc, e])).ext x1436
    refine iStAB g2 rfl rfl (hoa36.pair _) fun w37 hu37 h2 => ?_
    refine ⟨hu37.ch (.inr rfl), ?_⟩
    intro w38 x38
    have g3' := (g3.upd hu37 n23.symm).ext x38
    have ho38 := (ho36.upd hu37 (ho36.ne_blk g2 (by decide))).ext x38
    have hoa38 := (hoa36.upd hu37 (hoa36.ne_blk g2 (by decide))).ext x38
    refine iStAB g3' rfl rfl (ho38.pair _) fun w39 hu39 h3 => ?_
    intro w40 x40
    refine iLdA (((h2.ext x38).upd hu39 n23).ext x40) rfl ?_
    refine iLdA (h3.ext x40) rfl ?_
    have hSa := (hS36.upd hu37 (fun e => n2 e.symm) (by omega)).later x38
    refine ⟨⟨_, la, ua, _, nats a, u, rfl, (hoa38.upd hu39 (hoa38.ne_blk g3' (by decide))).ext x40, (ho38.upd hu39 (ho38.ne_blk g3' (by decide))).ext x40⟩, (hSa.upd hu39 (fun e => n3 e.symm) (by omega)).later x40, ?_⟩
    have hCa := hC36.trans (hu37.ch (S := fun c => c = b2) rfl) fun c hc => .inr (by omega)
    exact ch_ext ((ch_ext hCa x38).trans (hu39.ch (S := fun c => c = b3) rfl) fun c hc => .inr (by omega)) x40
theorem ok_spec_DrawAllHomomorphisms {vc : Value} {w : World} {bs : List Nat} (hc : SlB w vc bs) : Cal Tryz.prog f_spec_DrawAllHomomorphisms #[vc] w fun r w' => Ext w w' ∧ ∃ (n0 : Int) (l0 : List Int) (v0 : Value) (n1 : Int) (l1 : List Int) (v1 : Value),
    r = .tuple #[.agg #[.int .i64 n0, v0], .agg #[.int .i64 n1, v1]] ∧ Ow w.heap.size t_i64 w' v0 (ints l0) ∧ Ow w.heap.size t_i64 w' v1 (ints l1) := by
  apply c_spec_DrawAllHomomorphisms; unfold S_spec_DrawAllHomomorphisms
  refine iNew fun b2 w1 hb2 x1 hB2 => ?_
  refine iNew fun b3 w2 hb3 x2 hB3 => ?_
  have hX2 := x1.trans x2
  have hc2 := hc.ext hX2
  have n23 : b2 ≠ b3 := by have := hB2.lt; omega
  refine iCall ((ok_spec_l01From hc2).mono ?_)
  rintro _ w3 ⟨e, b, hne, hneS, rfl, hS3⟩
  have x3 := hS3.ext
  have hlo := hS3.lo
  refine iCall ((ok_spec_l15Two hne hneS hc2 hS3).mono ?_)
  rintro _ w4 ⟨⟨n0, l0, u0, n1, l1, u1, rfl, h0, h1⟩, hS4, hch4⟩
  refine iE20 (iE21 ?_)
  have hX3 := hX2.trans x3
  have g2 : Blk 26 w4 b2 [.int .i64 0, .slice none 0 0] := ((hB2.ext x2).ext x3).ch hch4 (by omega)
  have g3 : Blk 26 w4 b3 [.int .i64 0, .slice none 0 0] := (hB3.ext x3).ch hch4 (by omega)
  have hX4 : Ext w w4 := hX3.thenCh hch4 fun c e => by have := hX2.size; omega
  have h0 := h0.mono hX3.size
  have h1 := h1.mono hX3.size
  refine iStAB g2 rfl rfl (h0.pair _) fun w5 hu5 k2 => ?_
  have g3' := g3.upd hu5 n23.symm
  have h15 := h1.upd hu5 (h1.ne_blk g2 (by decide))
  have h05 := h0.upd hu5 (h0.ne_blk g2 (by decide))
  refine iStAB g3' rfl rfl (h15.pair _) fun w6 hu6 k3 => ?_
  refine iLdA (k2.upd hu6 n23) rfl ?_
  refine iLdA k3 rfl ?_
  exact ⟨(hX4.upd hu5 (by omega)).upd hu6 (by have := x1.size; omega), n0, l0, u0, n1, l1, u1, rfl, h05.upd hu6 (h05.ne_blk g3' (by decide)), h15.upd hu6 (h15.ne_blk g3' (by decide))⟩
end Go.Proofs.YtfadcafacpaldaaGreat

/- Plain facts: the properties of frames, and that isomorphic frames have the same. No program in sight. Conditions: none. -/
namespace Go.Vc
end Go.Vc

/- Contracts: drawn frames, two of them (l05Draw, l05Renumber, DrawFindFrameIsomorphism). Conditions: none. -/
namespace Go.Vc
/-- A relation with its elements numbered anew. -/
def rnb (a o : List Nat) : List Nat := o.map fun x => sqz o (a.getD x 0)
end Go.Vc
namespace Go.Proofs.YtfadcafacpaldaaGreat
open Go.Vc
end Go.Proofs.YtfadcafacpaldaaGreat

/- Plain facts: least forms of relations. No program in sight. Conditions: none. -/
namespace Go.Vc
/-- All orders, level by level, and as the program goes through them. -/
def freeL (n : Nat) (l : List Nat) : List Nat := (List.range n).filter fun v => !l.contains v
def lev (n : Nat) : Nat → List (List Nat)
  | 0 => [[]]
  | k + 1 => (lev n k).flatMap fun l => (freeL n l).map fun v => l ++ [v]
theorem mem_lev {n : Nat} : ∀ {k : Nat} {l : List Nat}, l ∈ lev n k ↔ l.length = k ∧ (∀ x ∈ l, x < n) ∧ l.Nodup
  | 0, l => by
    simp only [lev, List.mem_singleton]
    exact ⟨fun h => by subst h; simp, fun h => List.length_eq_zero_iff.1 h.1⟩
  | k + 1, l => by
    simp only [lev, List.mem_flatMap, List.mem_map]
    constructor
    · rintro ⟨l', hl', v, hv, rfl⟩
      obtain ⟨h1, h2, h3⟩ := mem_lev.1 hl'
      obtain ⟨hv1, hv2⟩ := List.mem_filter.1 hv
      have hv2 : ¬ v ∈ l' := by simpa using hv2
      refine ⟨by simp [h1], fun x hx => ?_, ?_⟩
      · rcases List.mem_append.1 hx with hx | hx
        · exact h2 x hx
        · simp at hx; subst hx; exact List.mem_range.1 hv1
      · rw [List.nodup_append]
        exact ⟨h3, by simp, fun a ha b hb => by simp at hb; subst hb; exact fun e => hv2 (e ▸ ha)⟩
    · rintro ⟨h1, h2, h3⟩
      have hne : l ≠ [] := fun h => by subst h; simp at h1
      have e := List.dropLast_concat_getLast hne
      refine ⟨l.dropLast, mem_lev.2 ⟨by rw [List.length_dropLast, h1]; rfl, fun x hx => h2 x ((List.dropLast_sublist l).subset hx), ?_⟩, l.getLast hne, ?_, e⟩
      · rw [← e, List.nodup_append] at h3; exact h3.1
      · refine List.mem_filter.2 ⟨List.mem_range.2 (h2 _ (List.getLast_mem hne)), ?_⟩
        rw [← e, List.nodup_append] at h3
        have : ¬ l.getLast hne ∈ l.dropLast := fun hm => h3.2.2 _ hm _ (by simp) rfl
        simpa using this
/-- The orders of n elements. -/
def isOrd (n : Nat) (o : List Nat) : Prop := o.length = n ∧ (∀ x ∈ o, x < n) ∧ o.Nodup
def updB (a best o : List Nat) : List Nat := if lessB (nats (rnb a o)) (nats best) then rnb a o else best
def least (a : List Nat) : List Nat := (lev a.length a.length).foldl (updB a) a
theorem foldl_upd (a : List Nat) : ∀ (L : List (List Nat)) (b : List Nat), ((L.foldl (updB a) b = b ∨ ∃ o ∈ L, L.foldl (updB a) b = rnb a o)) ∧ lessB (nats b) (nats (L.foldl (updB a) b)) = false ∧ ∀ o ∈ L, lessB (nats (rnb a o)) (nats (L.foldl (updB a) b)) = false
  | [], b => ⟨.inl rfl, lessB_irr _, fun o h => by cases h⟩
  | o :: L, b => by
    rw [List.foldl_cons]
    obtain ⟨h1, h2, h3⟩ := foldl_upd a L (updB a b o)
    have hb : lessB (nats b) (nats (updB a b o)) = false ∧ lessB (nats (rnb a o)) (nats (updB a b o)) = false ∧ (updB a b o = b ∨ updB a b o = rnb a o) := by
      unfold updB
      split
      · rename_i h
        exact ⟨lessB_asymm _ _ h, lessB_irr _, .inr rfl⟩
      · rename_i h
        exact ⟨lessB_irr _, by simpa using h, .inl rfl⟩
    refine ⟨?_, lessB_trans _ _ _ h2 hb.1, fun o' ho' => ?_⟩
    · rcases h1 with h1 | ⟨o', ho', h1⟩
      · rcases hb.2.2 with e | e
        · exact .inl (h1.trans e)
        · exact .inr ⟨o, by simp, h1.trans e⟩
      · exact .inr ⟨o', by simp [ho'], h1⟩
    · rcases List.mem_cons.1 ho' with rfl | ho'
      · exact lessB_trans _ _ _ h2 hb.2.1
      · exact h3 o' ho'
section
variable {a : List Nat}
theorem rnb_bit (o : List Nat) (i j : Nat) : ((rnb a o).getD i 0).testBit j = true ↔ i < o.length ∧ j < o.length ∧ (a.getD (o.getD i 0) 0).testBit (o.getD j 0) = true := by
  unfold rnb
  by_cases hi : i < o.length
  · have e : (o.map fun x => sqz o (a.getD x 0)).getD i 0 = sqz o (a.getD (o.getD i 0) 0) := by simp [List.getD_eq_getElem?_getD, hi]
    rw [e, sqz_bit, Bool.and_eq_true, decide_eq_true_eq]
    exact ⟨fun h => ⟨hi, h⟩, fun h => h.2⟩
  · have e : (o.map fun x => sqz o (a.getD x 0)).getD i 0 = 0 := by simp [List.getD_eq_getElem?_getD, hi]
    rw [e, Nat.zero_testBit]
    exact ⟨fun h => absurd h (by simp), fun h => absurd h.1 hi⟩
theorem rnb_len (o : List Nat) : (rnb a o).length = o.length := by simp [rnb]
theorem rnb_eq {b : List Nat} {o p : List Nat} (hl : o.length = p.length) (h : ∀ i j, i < o.length → j < o.length → ((a.getD (o.getD i 0) 0).testBit (o.getD j 0) = true ↔ (b.getD (p.getD i 0) 0).testBit (p.getD j 0) = true)) : rnb a o = rnb b p := by
  apply List.ext_getElem (by rw [rnb_len, rnb_len, hl])
  intro i h1 h2
  apply Nat.eq_of_testBit_eq
  intro j
  have e1 : (rnb a o).getD i 0 = (rnb a o)[i] := by simp [List.getD_eq_getElem?_getD, h1]
  have e2 : (rnb b p).getD i 0 = (rnb b p)[i] := by simp [List.getD_eq_getElem?_getD, h2]
  rw [← e1, ← e2, Bool.eq_iff_iff, rnb_bit, rnb_bit]
  rw [rnb_len] at h1
  constructor
  · rintro ⟨x1, x2, x3⟩; exact ⟨by omega, by omega, (h i j x1 x2).1 x3⟩
  · rintro ⟨x1, x2, x3⟩; exact ⟨by omega, by omega, (h i j (by omega) (by omega)).2 x3⟩
theorem range_ord (n : Nat) : isOrd n (List.range n) := ⟨List.length_range, fun _ hx => List.mem_range.1 hx, List.nodup_range⟩
theorem rnb_id {f : Fr} (hf : f.ok) : rnb f.a (List.range f.n) = f.a := by
  apply List.ext_getElem (by rw [rnb_len, List.length_range, hf.2.1])
  intro i h1 h2
  apply Nat.eq_of_testBit_eq
  intro j
  have hi : i < f.n := by rw [rnb_len, List.length_range] at h1; exact h1
  have e1 : (rnb f.a (List.range f.n)).getD i 0 = (rnb f.a (List.range f.n))[i] := by simp [List.getD_eq_getElem?_getD, h1]
  have e2 : f.a.getD i 0 = f.a[i] := by simp [List.getD_eq_getElem?_getD, h2]
  rw [← e1, ← e2, Bool.eq_iff_iff, rnb_bit, List.length_range]
  constructor
  · rintro ⟨_, hj, h⟩
    rwa [getD_range hi, getD_range hj] at h
  · intro h
    have hj := (fr_bit_lt hf h).2
    exact ⟨hi, hj, by rwa [getD_range hi, getD_range hj]⟩
end
/-- The least form is that of some order, and no order has a smaller one. -/
theorem least_spec {f : Fr} (hf : f.ok) : (∃ o, isOrd f.n o ∧ least f.a = rnb f.a o) ∧ ∀ o, isOrd f.n o → lessB (nats (rnb f.a o)) (nats (least f.a)) = false := by
  unfold least
  have hfl := hf.2.1
  rw [hfl]
  obtain ⟨h1, _, h3⟩ := foldl_upd f.a (lev f.n f.n) f.a
  refine ⟨?_, fun o ho => h3 o (mem_lev.2 ho)⟩
  rcases h1 with h1 | ⟨o, ho, h1⟩
  · exact ⟨List.range f.n, range_ord _, by rw [h1, rnb_id hf]⟩
  · exact ⟨o, mem_lev.1 ho, h1⟩
section
variable {f g : Fr}
theorem ord_get {n : Nat} {o : List Nat} (h : isOrd n o) {i : Nat} (hi : i < n) : o.getD i 0 < n := getD_lt h.2.1 (by rw [h.1]; exact hi)
theorem ord_mem {n : Nat} (hn : n ≤ 62) {o : List Nat} (h : isOrd n o) {x : Nat} (hx : x < n) : x ∈ o := by
  obtain ⟨h1, h2, h3⟩ := h
  have hle := (popc_setOf_nodup _ o rfl (fun y hy => by have := h2 y hy; omega)).2 h3
  apply Classical.byContradiction
  intro hno
  have hb : (setOf o).testBit x = false := by
    rw [setOf_testBit, Bool.eq_false_iff]
    exact fun h => hno (List.contains_iff_mem.1 h)
  have h5 := popc_or_one (setOf o) x (by omega)
  rw [hb] at h5
  simp only [Bool.false_eq_true, if_false] at h5
  have h6 : setOf o ||| 2 ^ x < 2 ^ n := Nat.or_lt_two_pow (setOf_lt h2) (Nat.pow_lt_pow_right (by omega) hx)
  have := popc_full (m := n) (by omega) h6
  omega
theorem ord_idx {n : Nat} (hn : n ≤ 62) {o : List Nat} (h : isOrd n o) {x : Nat} (hx : x < n) : o.idxOf x < n ∧ o.getD (o.idxOf x) 0 = x := by
  have hm := ord_mem hn h hx
  have hl := List.idxOf_lt_length_of_mem hm
  refine ⟨by rw [← h.1]; exact hl, ?_⟩
  simp [List.getD_eq_getElem?_getD, hl]
theorem ord_inj {n : Nat} {o : List Nat} (h : isOrd n o) {i j : Nat} (hi : i < n) (hj : j < n) (he : o.getD i 0 = o.getD j 0) : i = j := by
  obtain ⟨h1, _, h3⟩ := h
  rw [List.getD_eq_getElem?_getD, List.getD_eq_getElem?_getD, List.getElem?_eq_getElem (by omega), List.getElem?_eq_getElem (by omega), Option.getD_some, Option.getD_some] at he
  exact (List.getElem_inj h3).1 he
/-- A map that the search finds is an order that keeps the arrows, and the other way. -/
theorem full_iff (hf : f.ok) (hg : g.ok) (hn : f.n = g.n) {F : List Nat} : (F.length = f.n ∧ (∀ y ∈ F, y < g.n) ∧ fullB f g true true F) ↔ isOrd f.n F ∧ ∀ x y, x < f.n → y < f.n → ((f.a.getD x 0).testBit y = true ↔ (g.a.getD (F.getD x 0) 0).testBit (F.getD y 0) = true) := by
  have hf8 := hf.1
  constructor
  · rintro ⟨h1, h2, h3⟩
    have hord : isOrd f.n F := ⟨h1, fun x hx => by have := h2 x hx; omega, h3.2.2 rfl⟩
    refine ⟨hord, fun x y hx hy => ?_⟩
    rw [← h3.1 x hx, img_testBit]
    constructor
    · intro h; exact ⟨y, by omega, h, rfl⟩
    · rintro ⟨z, hz, h4, h5⟩
      rwa [ord_inj hord (by omega) hy h5] at h4
  · rintro ⟨hord, hrel⟩
    obtain ⟨h1, h2, h3⟩ := id hord
    refine ⟨h1, fun y hy => by have := h2 y hy; omega, fun x hx => ?_, fun _ => ?_, fun _ => h3⟩
    · apply Nat.eq_of_testBit_eq
      intro j
      rw [Bool.eq_iff_iff, img_testBit]
      constructor
      · rintro ⟨z, hz, h4, rfl⟩
        exact (hrel x z hx (by omega)).1 h4
      · intro h
        have hj : j < f.n := by have := (fr_bit_lt hg h).2; omega
        obtain ⟨i1, i2⟩ := ord_idx (by omega) hord hj
        exact ⟨F.idxOf j, by omega, (hrel x _ hx i1).2 (by rw [i2]; exact h), i2⟩
    · have := (popc_setOf_nodup _ F rfl (fun y hy => by have := h2 y hy; omega)).2 h3
      omega
def cmpL (F o : List Nat) : List Nat := o.map fun x => F.getD x 0
theorem cmp_get {F o : List Nat} {n i : Nat} (ho : isOrd n o) (hi : i < n) : (cmpL F o).getD i 0 = F.getD (o.getD i 0) 0 := by
  have : i < o.length := by rw [ho.1]; exact hi
  simp [cmpL, List.getD_eq_getElem?_getD, this]
theorem cmp_ord {n : Nat} {F o : List Nat} (hF : isOrd n F) (ho : isOrd n o) : isOrd n (cmpL F o) := by
  refine ⟨by rw [cmpL, List.length_map, ho.1], fun x hx => ?_, ?_⟩
  · obtain ⟨y, hy, rfl⟩ := List.mem_map.1 hx
    exact ord_get hF (ho.2.1 y hy)
  · unfold cmpL List.Nodup
    rw [List.pairwise_map]
    exact ho.2.2.imp_of_mem fun {a b} ha hb hne he => hne (ord_inj hF (ho.2.1 a ha) (ho.2.1 b hb) he)
theorem inv_ord {n : Nat} (hn : n ≤ 62) {o : List Nat} (ho : isOrd n o) : isOrd n ((List.range n).map fun x => o.idxOf x) := by
  refine ⟨by simp, fun x hx => ?_, ?_⟩
  · obtain ⟨y, hy, rfl⟩ := List.mem_map.1 hx
    exact (ord_idx hn ho (List.mem_range.1 hy)).1
  · unfold List.Nodup
    rw [List.pairwise_map]
    exact List.nodup_range.imp_of_mem fun {a b} ha hb hne he => hne (by
      rw [← (ord_idx hn ho (List.mem_range.1 ha)).2, ← (ord_idx hn ho (List.mem_range.1 hb)).2, he])
theorem inv_get' {n : Nat} {o : List Nat} {x : Nat} (hx : x < n) : ((List.range n).map fun x => o.idxOf x).getD x 0 = o.idxOf x := by simp [hx]
/-- Equal least forms: an isomorphism; and the other way. -/
theorem least_iff (hf : f.ok) (hg : g.ok) : (f.n = g.n ∧ least f.a = least g.a) ↔ f.n = g.n ∧ leaves (fitsB f g true true) g.n f.n [] ≠ [] := by
  have hf8 := hf.1
  constructor
  · rintro ⟨hn, h⟩
    refine ⟨hn, fun hnil => ?_⟩
    obtain ⟨⟨o, ho, eo⟩, _⟩ := least_spec hf
    obtain ⟨⟨p, hp, ep⟩, _⟩ := least_spec hg
    rw [← hn] at hp
    have hinv := inv_ord (by omega) ho
    have hF := cmp_ord hp hinv
    have hFg : ∀ x, x < f.n → (cmpL p ((List.range f.n).map fun x => o.idxOf x)).getD x 0 = p.getD (o.idxOf x) 0 := fun x hx => by rw [cmp_get hinv hx, inv_get' hx]
    have hm := (full_iff hf hg hn).2 ⟨hF, fun x y hx hy => by
      rw [hFg x hx, hFg y hy]
      obtain ⟨x1, x2⟩ := ord_idx (by omega) ho hx
      obtain ⟨y1, y2⟩ := ord_idx (by omega) ho hy
      have e := congrArg (fun l => (l.getD (o.idxOf x) 0).testBit (o.idxOf y)) (eo.symm.trans (h.trans ep))
      have e : ((rnb f.a o).getD (o.idxOf x) 0).testBit (o.idxOf y) = ((rnb g.a p).getD (o.idxOf x) 0).testBit (o.idxOf y) := e
      rw [Bool.eq_iff_iff, rnb_bit, rnb_bit, x2, y2] at e
      exact ⟨fun h => (e.1 ⟨by rw [ho.1]; exact x1, by rw [ho.1]; exact y1, h⟩).2.2, fun h => (e.2 ⟨by rw [hp.1]; exact x1, by rw [hp.1]; exact y1, h⟩).2.2⟩⟩
    have := (mem_leaves (onto := true) (one := true) hf hg).2 hm
    rw [hnil] at this; cases this
  · rintro ⟨hn, h⟩
    refine ⟨hn, ?_⟩
    obtain ⟨F, hF⟩ := List.exists_mem_of_ne_nil _ h
    obtain ⟨hord, hrel⟩ := (full_iff hf hg hn).1 ((mem_leaves hf hg).1 hF)
    have hfg : ∀ o, isOrd f.n o → rnb f.a o = rnb g.a (cmpL F o) := fun o ho => rnb_eq (by rw [ho.1, (cmp_ord hord ho).1]) fun i j hi hj => by
      have hi : i < f.n := by rw [← ho.1]; exact hi
      have hj : j < f.n := by rw [← ho.1]; exact hj
      rw [cmp_get ho hi, cmp_get ho hj]
      exact hrel _ _ (ord_get ho hi) (ord_get ho hj)
    have hgf : ∀ p, isOrd f.n p → rnb g.a p = rnb f.a (cmpL ((List.range f.n).map fun x => F.idxOf x) p) := fun p hp => by
      have hinv := inv_ord (by omega) hord
      rw [hfg _ (cmp_ord hinv hp)]
      refine rnb_eq (by rw [hp.1, (cmp_ord hord (cmp_ord hinv hp)).1]) fun i j hi hj => ?_
      have hi : i < f.n := by rw [← hp.1]; exact hi
      have hj : j < f.n := by rw [← hp.1]; exact hj
      have e : ∀ i, i < f.n → (cmpL F (cmpL ((List.range f.n).map fun x => F.idxOf x) p)).getD i 0 = p.getD i 0 := fun i hi => by
        rw [cmp_get (cmp_ord hinv hp) hi, cmp_get hp hi, inv_get' (ord_get hp hi)]
        exact (ord_idx (by omega) hord (ord_get hp hi)).2
      rw [e i hi, e j hj]
    obtain ⟨⟨o, ho, eo⟩, hmin⟩ := least_spec hf
    obtain ⟨⟨p, hp, ep⟩, hmin'⟩ := least_spec hg
    rw [← hn] at hp hmin'
    have h1 : lessB (nats (least g.a)) (nats (least f.a)) = false := by
      rw [ep, hgf p hp]; exact hmin _ (cmp_ord (inv_ord (by omega) hord) hp)
    have h2 : lessB (nats (least f.a)) (nats (least g.a)) = false := by
      rw [eo, hfg o ho]; exact hmin' _ (cmp_ord hord ho)
    exact nats_inj (lessB_anti _ _ h2 h1)
end
end Go.Vc

/- Contracts: all properties of a frame in the program (everyPair, hasFlag). Conditions: none. -/
namespace Go.Proofs.YtfadcafacpaldaaGreat
open Go.Vc
end Go.Proofs.YtfadcafacpaldaaGreat

/- Contracts: the flags of a frame and FindFrameIsomorphism, in the program and the reference. Conditions: none. -/
namespace Go.Vc
section
variable {P : Program}
end
end Go.Vc
namespace Go.Proofs.YtfadcafacpaldaaGreat
open Go.Vc
theorem ok_spec_FindFrameIsomorphism {w : World} {v0 v1 : Value} {l0 l1 : List Int} (hs0 : SlI w v0 l0) (hs1 : SlI w v1 l1) (n0 n1 : Int) : Cal Tryz.prog f_spec_FindFrameIsomorphism #[.agg #[.int .i64 n0, v0], .agg #[.int .i64 n1, v1]] w fun r w' => Ext w w' ∧ ∃ v, r = .tuple #[v, .int .i64 (firstOut true true n0 l0 n1 l1).2] ∧ Ow w.heap.size t_i64 w' v (ints (firstOut true true n0 l0 n1 l1).1) := by
  apply c_spec_FindFrameIsomorphism; unfold S_spec_FindFrameIsomorphism
  have hX := Ext.refl w
  refine iNew fun b2 w1 hb2 h hB2 => ?_
  have hX := hX.trans h
  refine iNew fun b3 w2 hb3 h hB3 => ?_
  have hX := hX.trans h
  have hB2 := hB2.ext h
  refine iJnB (!(frameOk n0 l0 && frameOk n1 l1)) w2 (fun J hJ => ?_) (fun w4 h => ?_)
  · ((with_reducible refine iLdA (by assumption) ?_ ?_); rfl)
    refine iRet (ok_spec_l05Is (hs0.ext hX) n0) fun w5 h => ?_
    have hB3 := hB3.ext h
    ((with_reducible refine iNot ?_))
    cases h0 : frameOk n0 l0
    · refine iCndT rfl ?_
      have := hJ w5 h
      rwa [h0] at this
    · refine iCndF rfl ?_
      ((with_reducible refine iLdA (by assumption) ?_ ?_); rfl)
      refine iRet (ok_spec_l05Is (hs1.ext (hX.trans h)) n1) fun w6 h6 => ?_
      ((with_reducible refine iNot ?_))
      have := hJ w6 (h.trans h6)
      rwa [h0, Bool.true_and] at this
  have hX := hX.trans h
  have hB2 := hB2.ext h
  have hB3 := hB3.ext h
  (intro _; (try simp only [gx]))
  unfold firstOut
  cases hfr : frameOk n0 l0 && frameOk n1 l1
  · refine iCndT rfl ?_
    exact ⟨hX, _, rfl, Ow.nil _ _ _⟩
  · refine iCndF rfl ?_
    rw [Bool.and_eq_true] at hfr
    obtain ⟨hf, hn0, hl0⟩ := frameOk_fr hfr.1
    obtain ⟨hg, hn1, hl1⟩ := frameOk_fr hfr.2
    generalize frOf n0 l0 = f at *
    generalize frOf n1 l1 = g at *
    subst hn0; subst hl0; subst hn1; subst hl1
    ((with_reducible refine iLdA (by assumption) ?_ ?_); rfl; (with_reducible refine iLdA (by assumption) ?_ ?_); rfl)
    refine iCall ((ok_spec_l08Find hf hg (onto := true) (one := true) (hs0.ext hX) (hs1.ext hX) (most := 1) (by omega) (by omega)).mono ?_)
    rintro v w7 ⟨h, vs, ho, hol⟩
    have hlo := hX.size
    have hX := hX.trans h
    rw [ref_eq hf hg (fun _ => rfl)] at hol
    have hvl := hol.1
    have hsl := ho.sl
    rw [List.length_map] at hvl
    ((with_reducible refine iLenS (by assumption) ?_; refine iEq ?_))
    cases hL : leaves (fitsB f g true true) g.n f.n [] with
    | nil =>
      rw [hL] at hvl
      refine iCndP (fun _ => ?_) (fun h => absurd (show (vs.length : Int) = 0 by rw [hvl]; rfl) h)
      exact ⟨hX, _, rfl, Ow.nil _ _ _⟩
    | cons m ms =>
      rw [hL] at hvl hol
      have hv1 : vs.length = 1 := by rw [hvl]; simp
      refine iCndP (fun h => absurd h (by omega)) (fun _ => ?_)
      obtain ⟨v0, rfl⟩ : ∃ v0, vs = [v0] := by
        match vs, hv1 with
        | [v0], _ => exact ⟨v0, rfl⟩
      refine iIa hsl (by omega) (by simp) fun p hp => ?_
      refine iLd hp ?_
      exact ⟨hX, v0, rfl, (hol.2.1 0 v0 _ rfl (by simp)).mono hlo⟩
end Go.Proofs.YtfadcafacpaldaaGreat

/- The law on homomorphisms of modal algebras: what its body answers. Conditions: none. -/
namespace Go.Vc
theorem leaves_nV {f g : Fr} (hf : f.ok) (hg : g.ok) (h : leaves (fitsB f g true true) g.n f.n [] ≠ []) : f.n = g.n := by
  obtain ⟨F, hF⟩ := List.exists_mem_of_ne_nil _ h
  obtain ⟨h1, h2, h3⟩ := (mem_leaves hf hg).1 hF
  have e1 := (popc_setOf_nodup _ F rfl (fun y hy => by have := h2 y hy; have := hg.1; omega)).2 (h3.2.2 rfl)
  have e2 := h3.2.1 rfl
  omega
/-- Isomorphic the one way, isomorphic the other. -/
theorem leaves_symm {f g : Fr} (hf : f.ok) (hg : g.ok) (h : leaves (fitsB f g true true) g.n f.n [] ≠ []) : leaves (fitsB g f true true) f.n g.n [] ≠ [] := by
  have hn := leaves_nV hf hg h
  have h1 := (least_iff hf hg).2 ⟨hn, h⟩
  exact ((least_iff hg hf).1 ⟨h1.1.symm, h1.2.symm⟩).2
theorem frOf_nats (f : Fr) : frOf (f.n : Int) (nats f.a) = f := by
  have : (nats f.a).map Int.toNat = f.a := by
    unfold nats
    rw [List.map_map]
    conv => rhs; rw [← List.map_id f.a]
    exact List.map_congr_left fun x _ => by simp
  unfold frOf
  rw [this, Int.toNat_natCast]
end Go.Vc
namespace Go.Proofs.YtfadcafacpaldaaGreat
open Go.Vc
/-- The rows of morphisms that are handed back, and the code. -/
theorem hom_all {m0 m1 : Nat} {a0 a1 : List Nat} (h0 : m0 ≤ 5) (h1 : m1 ≤ 5) (k0 : algOk (m0 : Int) (nats a0) = true) (k1 : algOk (m1 : Int) (nats a1) = true) (e0 : (nats a0).map Int.toNat = a0) (e1 : (nats a1).map Int.toNat = a1) :
    ∃ (D : List (List Nat)) (M : List (List Int)) (c : Int), homOut (m0 : Int) (nats a0) (m1 : Int) (nats a1) = (M, c) ∧ allOut (m1 : Int) (nats (algFr m1 a1).a) (m0 : Int) (nats (algFr m0 a0).a) = (D.map nats, c) ∧ ¬ c = 1 ∧ D.length = M.length ∧ D.length ≤ 200 ∧
      (∀ im ∈ D, (im.length = m1 ∧ ∀ y ∈ im, y < m0) ∧ (∀ x, x < m1 → img im ((algFr m1 a1).a.getD x 0) = (algFr m0 a0).a.getD (im.getD x 0) 0) ∧ nats (dualN m0 im) ∈ M) := by
  have f0 := algFr_ok a0 (show m0 ≤ 8 by omega)
  have f1 := algFr_ok a1 (show m1 ≤ 8 by omega)
  have hfo0 : frameOk (m0 : Int) (nats (algFr m0 a0).a) = true := frameOk_of f0
  have hfo1 : frameOk (m1 : Int) (nats (algFr m1 a1).a) = true := frameOk_of f1
  have hfr0 : frOf (m0 : Int) (nats (algFr m0 a0).a) = algFr m0 a0 := frOf_nats (algFr m0 a0)
  have hfr1 : frOf (m1 : Int) (nats (algFr m1 a1).a) = algFr m1 a1 := frOf_nats (algFr m1 a1)
  have hall : allOut (m1 : Int) (nats (algFr m1 a1).a) (m0 : Int) (nats (algFr m0 a0).a) = if 200 < ((homM m0 m1 a0 a1).take 201).length then ([], 3) else (((homM m0 m1 a0 a1).take 201).map nats, 0) := by
    unfold allOut
    rw [hfo0, hfo1, hfr0, hfr1]
    rfl
  have hhom : homOut (m0 : Int) (nats a0) (m1 : Int) (nats a1) = if 200 < (homL m0 (homM m0 m1 a0 a1)).length then ([], 3) else (homL m0 (homM m0 m1 a0 a1), 0) := by
    unfold homOut
    rw [k0, k1, e0, e1, Int.toNat_natCast, Int.toNat_natCast]
    rfl
  have hlen := homL_len (n := m0) (d := m1) (homM_nodup (m0 := m0) (m1 := m1) (a0 := a0) (a1 := a1)) homM_mem
  rw [hall, hhom, hlen, List.length_take]
  by_cases hl : 200 < (homM m0 m1 a0 a1).length
  · rw [if_pos hl, if_pos (by omega)]
    exact ⟨[], [], 3, rfl, rfl, by decide, rfl, by decide, fun im him => by cases him⟩
  · rw [if_neg hl, if_neg (by omega), List.take_of_length_le (by omega)]
    refine ⟨homM m0 m1 a0 a1, _, 0, rfl, rfl, by decide, hlen.symm, by omega, fun im him => ⟨homM_mem im him, ((mem_leaves f1 f0).1 him).2.2.1, ?_⟩⟩
    unfold homL
    rw [mem_setA ordL]
    exact List.mem_map.2 ⟨im, him, rfl⟩
theorem ok_laws_FnModalHomomorphisms {w : World} {vc : Value} {bs : List Nat} (hc : SlB w vc bs) : Ret Tryz.prog f_laws_FnModalHomomorphisms #[vc] w (.bool true) := by
  apply c_laws_FnModalHomomorphisms; unfold S_laws_FnModalHomomorphisms
  refine iRet (ok_laws_big hc) fun w1 x1 => ?_
  refine iCndP (fun _ => ⟨rfl, x1⟩) (fun _ => ?_)
  refine iCall ((ok_spec_DrawAllHomomorphisms (hc.ext x1)).mono ?_)
  rintro _ w2 ⟨x2, n0, l0, v0, n1, l1, v1, rfl, ho0, ho1⟩
  refine iE20 (iE21 ?_)
  have hX2 := x1.trans x2
  refine iNew fun b3 w3 hb3 x3 hB3 => ?_
  refine iNew fun b4 w4 hb4 x4 hB4 => ?_
  have n34 : b3 ≠ b4 := by have := hB3.lt; omega
  have ho0 := (ho0.ext x3).ext x4
  have ho1 := (ho1.ext x3).ext x4
  have hX4 := (hX2.trans x3).trans x4
  have hB3 : Blk 26 w4 b3 [.int .i64 0, .slice none 0 0] := hB3.ext x4
  refine iStAB hB3 rfl rfl (ho0.pair _) fun w5 hu5 g3 => ?_
  have g4 := hB4.upd hu5 n34.symm
  have ho1 := ho1.upd hu5 (ho1.ne_blk hB3 (by decide))
  have ho0 := ho0.upd hu5 (ho0.ne_blk hB3 (by decide))
  have hX5 := hX4.upd hu5 (by have := hX2.size; omega)
  have g4 : Blk 26 w5 b4 [.int .i64 0, .slice none 0 0] := g4
  refine iStAB g4 rfl rfl (ho1.pair _) fun w6 hu6 k4 => ?_
  have g3 : Blk 26 w6 b3 [.int .i64 n0, v0] := Blk.upd g3 hu6 n34
  have g4' : Blk 26 w6 b4 [.int .i64 n1, v1] := k4
  have hs0 : SlI w6 v0 l0 := (ho0.upd hu6 (ho0.ne_blk g4 (by decide))).sl
  have hs1 : SlI w6 v1 l1 := (ho1.upd hu6 (ho1.ne_blk g4 (by decide))).sl
  have hX6 := hX5.upd hu6 (by have := (hX2.trans x3).size; omega)
  clear k4 g4 hB3 hB4 ho0 ho1 hX5 hX4
  refine iLdA g3 rfl ?_
  refine iLdA g4' rfl ?_
  refine iCall ((ok_impl_AllHomomorphisms hs0 hs1 n0 n1).mono ?_)
  rintro _ w7 ⟨x7, vl, rfl, hl⟩
  refine iE20 (iE21 ?_)
  refine iLdA (g3.ext x7) rfl ?_
  refine iLdA (g4'.ext x7) rfl ?_
  refine iCall ((ok_spec_AllHomomorphisms (hs0.ext x7) (hs1.ext x7) n0 n1).mono ?_)
  rintro _ w8 ⟨x8, vm, rfl, hm⟩
  refine iE20 (iE21 ?_)
  have x68 := x7.trans x8
  have hl := hl.ext x8
  refine iJnPV (fun xs w' => xs = [.bool false] ∧ Ext w8 w') (fun J hJ => ?_) (fun xs w9 hC => ?_)
  · refine iNe (iCndP (fun h => absurd rfl h) (fun _ => ?_))
    refine iRet (ok_laws_likeRows5 hl hm) fun w9 x9 => ?_
    exact iNot (hJ _ _ ⟨rfl, x9⟩)
  obtain ⟨rfl, x9⟩ := hC
  intro _
  simp only [gx]
  refine iCndF rfl ?_
  have x69 := x68.trans x9
  have hX9 := hX6.trans x69
  refine iEq (iCndP (fun _ => ⟨by first | trivial | rfl, hX9⟩) (fun hne1 => ?_))
  have hoks : algOk n0 l0 = true ∧ algOk n1 l1 = true := by
    rw [← Bool.and_eq_true]
    refine Classical.byContradiction fun h => hne1 ?_
    unfold homOut
    rw [if_neg h]
  obtain ⟨k0, k1⟩ := hoks
  obtain ⟨m0, a0, rfl, rfl, hm0, hl0, hlt0, _, e0⟩ := algOk_of k0
  obtain ⟨m1, a1, rfl, rfl, hm1, hl1, hlt1, _, e1⟩ := algOk_of k1
  have f0 := algFr_ok a0 (show m0 ≤ 8 by omega)
  have f1 := algFr_ok a1 (show m1 ≤ 8 by omega)
  obtain ⟨D, M, c, hho, hao, hc1, hDM, hD2, hDall⟩ := hom_all hm0 hm1 k0 k1 e0 e1
  rw [hho] at hl hm
  rw [hho]
  refine iLdA (g3.ext x69) rfl ?_
  refine iCall ((ok_spec_FrameOfAlgebra_good (a := a0) (hs0.ext x69) k0 hm0 hl0 hlt0).mono ?_)
  rintro _ w12 ⟨x12, uf, rfl, hof⟩
  refine iE20 (iE21 ?_)
  refine iNew fun b9 w13 hb9 x13 hB9 => ?_
  have hof13 := hof.ext x13
  refine iStAB hB9 rfl rfl (hof13.pair _) fun w14 hu14 hB9 => ?_
  have hB9 : Blk 34 w14 b9 [.int .i64 (m0 : Int), uf] := hB9
  have x912 := x12.size
  have x914 : Ext w9 w14 := (x12.trans x13).upd hu14 (by omega)
  have hof14 := hof13.upd hu14 fun e => by have := (hof.blk b9 e).2; omega
  have x614 := x69.trans x914
  refine iLdA (g4'.ext x614) rfl ?_
  refine iCall ((ok_spec_FrameOfAlgebra_good (a := a1) (hs1.ext x614) k1 hm1 hl1 hlt1).mono ?_)
  rintro _ w15 ⟨x15, ug, rfl, hog⟩
  refine iE20 (iE21 ?_)
  refine iNew fun b11 w16 hb11 x16 hB11 => ?_
  have hog16 := hog.ext x16
  refine iStAB hB11 rfl rfl (hog16.pair _) fun w17 hu17 hB11 => ?_
  have hB11 : Blk 34 w17 b11 [.int .i64 (m1 : Int), ug] := hB11
  have x1415 := x15.size
  have x1417 : Ext w14 w17 := (x15.trans x16).upd hu17 (by omega)
  have hog17 := hog16.upd hu17 fun e => by have := (hog.blk b11 e).2; omega
  have hsf : SlN w17 uf (algFr m0 a0).a := (hof14.ext x1417).sl
  have hsg : SlN w17 ug (algFr m1 a1).a := hog17.sl
  have hB9 := hB9.ext x1417
  have x617 := x614.trans x1417
  refine iLdA hB11 rfl ?_
  refine iLdA hB9 rfl ?_
  have hal := ok_impl_AllMorphisms (w := w17) hsg hsf (m1 : Int) (m0 : Int)
  rw [hao] at hal
  refine iCall (hal.mono ?_)
  rintro _ w18 ⟨x18, vp, rfl, hp⟩
  refine iE20 (iE21 ?_)
  refine iLdA (hB11.ext x18) rfl ?_
  refine iLdA (hB9.ext x18) rfl ?_
  have hal2 := ok_spec_AllMorphisms (w := w18) (SlI.ext hsg x18) (SlI.ext hsf x18) (m1 : Int) (m0 : Int)
  rw [hao] at hal2
  refine iCall (hal2.mono ?_)
  rintro _ w19 ⟨x19, vd, rfl, hd⟩
  refine iE20 (iE21 ?_)
  have x1719 := x18.trans x19
  have x619 := x617.trans x1719
  have hX19 := hX6.trans x619
  have x819 : Ext w8 w19 := x9.trans ((x914.trans x1417).trans x1719)
  have hp := hp.ext x19
  have hm := hm.ext x819
  obtain ⟨vs, d1, d2⟩ := hd
  have hvl : vs.length = D.length := by have := d2.1; simpa using this
  obtain ⟨us, t1, t2⟩ := hm
  have hul : us.length = M.length := by have := t2.1; simpa using this
  refine iJnPV (fun xs w' => xs = [.bool false] ∧ Ext w19 w') (fun J hJ => ?_) (fun xs w20 hC => ?_)
  · refine iNe (iCndP (fun h => absurd rfl h) (fun _ => ?_))
    refine iRet (ok_laws_likeRows5 hp ⟨vs, d1, d2⟩) fun w20 x20 => ?_
    refine iNot (iCndF rfl ?_)
    refine iNe (iCndP (fun h => absurd rfl h) (fun _ => ?_))
    refine iLenS (d1.ext x20).sl ?_
    refine iLenS (t1.ext x20).sl ?_
    refine iNe ?_
    exact hJ _ _ ⟨by rw [decide_eq_false (not_not_intro (by omega))], x20⟩
  obtain ⟨rfl, x20⟩ := hC
  intro _
  simp only [gx]
  refine iCndF rfl ?_
  refine iLp (fun i : Nat => [.int .i64 (i : Int)]) (fun i w' => i ≤ D.length ∧ Ext w19 w') (fun i => D.length - i) 0 rfl ⟨Nat.zero_le _, x20⟩ ?_
  rintro i w21 Kn ⟨hi, x21⟩ hKn
  have x621 := x619.trans x21
  have x1721 := x1719.trans x21
  intro _
  simp only [gx]
  refine iLenS (d1.ext x21).sl ?_
  refine iLt (iCndP (fun h3 => ?_) (fun h3 => ?_))
  · have hiD : i < D.length := by omega
    have hiv : i < vs.length := by omega
    obtain ⟨⟨him, hiy⟩, hif, hiM⟩ := hDall _ (List.getElem_mem hiD)
    have hrow := d2.at hiv (by rw [List.length_map, List.length_map]; omega)
    rw [List.getElem_map, List.getElem_map] at hrow
    have hrow : Ow w18.heap.size t_i64 w19 vs[i] (ints (nats D[i])) := hrow
    generalize D[i] = im at *
    refine iLdA (hB11.ext x1721) rfl ?_
    refine iLdA (hB9.ext x1721) rfl ?_
    refine iIaV (d1.ext x21).sl hiv fun p hp => ?_
    refine iLd hp ?_
    intro w25 x25
    have x1725 := x1721.trans x25
    refine iCall ((ok_impl_DualHomomorphism_good (f := algFr m1 a1) (g := algFr m0 a0) f1 f0 (hsg.ext x1725) (hsf.ext x1725) (im := im) ((hrow.ext x21).ext x25).sl him hiy hm0).mono ?_)
    rintro _ w26 ⟨x26, ud, rfl, hud⟩
    refine iE20 (iE21 ?_)
    intro w27 x27
    have x2127 := (x25.trans x26).trans x27
    have x1727 := x1721.trans x2127
    refine iLdA (hB11.ext x1727) rfl ?_
    refine iLdA (hB9.ext x1727) rfl ?_
    refine iIaV ((d1.ext x21).ext x2127).sl hiv fun p hp => ?_
    refine iLd hp ?_
    intro w28 x28
    have x1728 := x1727.trans x28
    refine iCall ((ok_spec_DualHomomorphism_good (f := algFr m1 a1) (g := algFr m0 a0) f1 f0 (hsg.ext x1728) (hsf.ext x1728) (im := im) (((hrow.ext x21).ext x2127).ext x28).sl him hiy hm0).mono ?_)
    rintro _ w29 ⟨x29, uq, rfl, huq⟩
    refine iE20 (iE21 ?_)
    intro w30 x30
    have x2730 := (x28.trans x29).trans x30
    have x2130 := x2127.trans x2730
    have x630 := x621.trans x2130
    have hud30 : SlI w30 ud (nats (dualN m0 im)) := ((hud.ext x27).ext x2730).sl
    have huq30 : SlI w30 uq (nats (dualN m0 im)) := (huq.ext x30).sl
    refine iLdA (g3.ext x630) rfl ?_
    refine iLdA (g4'.ext x630) rfl ?_
    have dl : (dualN m0 im).length = 2 ^ m0 := dualK_len _ _
    have hDl : ∀ y ∈ dualN m0 im, y < 2 ^ m1 := fun y hy => by
      obtain ⟨x, _, rfl⟩ := List.mem_map.1 hy
      have := pullN_lt im x
      rwa [him] at this
    have a0in : algIn a0 = true := by
      have := k0
      unfold algOk at this
      rw [e0] at this
      simp only [Bool.and_eq_true] at this
      exact this.2.2.2
    have a1in : algIn a1 = true := by
      have := k1
      unfold algOk at this
      rw [e1] at this
      simp only [Bool.and_eq_true] at this
      exact this.2.2.2
    refine iRet (ok_impl_IsHomomorphism_good (a0 := a0) (a1 := a1) (D := dualN m0 im) hm0 hm1 k0 k1 (SlI.ext hs0 x630) (SlI.ext hs1 x630) huq30 hl0 hl1 hlt0 hlt1 dl hDl (fun x hx => ?_) (fun x hx => ?_) (fun x y hx hy => ?_)) fun w31 x31 => ?_
    · rw [dualN_get (sdiff_le_full hx), dualN_get hx, pullN_not hiy, him]
    · rw [dualN_get (getD_lt hlt0 (by rw [hl0]; exact hx)), dualN_get hx]
      exact pullN_box a0in hl0 a1in hl1 hlt1 him hiy hif hx
    · rw [dualN_get (Nat.lt_of_le_of_lt Nat.and_le_left hx), dualN_get hx, dualN_get hy, pullN_and]
    refine iE20 (iE21 ?_)
    have x2131 := x2130.trans x31
    have x1931 := x21.trans x2131
    generalize hdd : nats (dualN m0 im) = dd at *
    have hud31 := hud30.ext x31
    have huq31 := huq30.ext x31
    refine iLp (fun s : Nat × Bool => [.bool s.2, .int .i64 (s.1 : Int)]) (fun s w' => s.1 ≤ M.length ∧ Ext w31 w' ∧ s.2 = decide (dd ∈ M.take s.1)) (fun s => M.length - s.1) (0, false) rfl ⟨Nat.zero_le _, Ext.refl _, by simp⟩ ?_
    rintro ⟨k, T⟩ w33 Kn33 ⟨hk, x33, hT⟩ hKn33
    have hk : k ≤ M.length := hk
    have x33 : Ext w31 w33 := x33
    have hT : T = decide (dd ∈ M.take k) := hT
    have x1933 := x1931.trans x33
    intro _
    simp only [gx]
    refine iLenS (t1.ext x1933).sl ?_
    refine iLt (iCndP (fun h5 => ?_) (fun h5 => ?_))
    · have hkM : k < M.length := by omega
      have hku : k < us.length := by omega
      have htk : decide (dd ∈ M.take (k + 1)) = (T || decide (M[k] = dd)) := by
        rw [hT, List.take_succ_eq_append_getElem hkM, Bool.eq_iff_iff, Bool.or_eq_true, decide_eq_true_eq, decide_eq_true_eq, decide_eq_true_eq, List.mem_append, List.mem_singleton]
        exact or_congr Iff.rfl ⟨fun h => h.symm, fun h => h.symm⟩
      refine iJnPV (fun xs w' => xs = [.bool (decide (dd ∈ M.take (k + 1)))] ∧ Ext w33 w') (fun J hJ => ?_) (fun xs w35 hC => ?_)
      · rw [htk] at hJ
        cases T with
        | true => exact iCndT rfl (hJ _ _ ⟨rfl, Ext.refl _⟩)
        | false =>
          refine iCndF rfl ?_
          refine iIaV (t1.ext x1933).sl hku fun p hp => ?_
          refine iLd hp ?_
          have hmr := (t2.ext x1933).at hku (by rw [List.length_map]; exact hkM)
          rw [List.getElem_map] at hmr
          refine iRet (ok_laws_likeInts hmr.sl (huq31.ext x33)) fun w36 x36 => ?_
          rw [Bool.false_or] at hJ
          exact hJ _ _ ⟨rfl, x36⟩
      obtain ⟨rfl, x35⟩ := hC
      intro _
      simp only [gx]
      refine iAdd (by omega) ?_
      exact hKn33 (k + 1, _) _ ⟨by show k + 1 ≤ M.length; omega, x33.trans x35, rfl⟩ (by show M.length - (k + 1) < M.length - k; omega)
    · obtain rfl : k = M.length := by omega
      rw [List.take_length, decide_eq_true hiM] at hT
      subst hT
      refine iJnPV (fun xs w' => xs = [.bool false] ∧ Ext w33 w') (fun J hJ => ?_) (fun xs w38 hC => ?_)
      · refine iNe (iCndP (fun h => absurd rfl h) (fun _ => ?_))
        refine iNe (iCndP (fun h => absurd rfl h) (fun _ => ?_))
        refine iRet (ok_laws_likeInts (hud31.ext x33) (huq31.ext x33)) fun w39 x39 => ?_
        rw [decide_eq_true rfl]
        refine iNot (iCndF rfl ?_)
        refine iNe (iCndP (fun h => absurd rfl h) (fun _ => ?_))
        refine iNot (iCndF rfl ?_)
        exact iNot (hJ _ _ ⟨rfl, x39⟩)
      obtain ⟨rfl, x38⟩ := hC
      intro _
      simp only [gx]
      refine iCndF rfl ?_
      refine iAdd (by omega) ?_
      exact hKn (i + 1) _ ⟨by omega, (x1931.trans x33).trans x38⟩ (by omega)
  · refine iLdA (g3.ext x621) rfl ?_
    refine iLdA (g4'.ext x621) rfl ?_
    refine iRet (ok_impl_AreIsomorphicAlgebras (SlI.ext hs0 x621) (SlI.ext hs1 x621) (m0 : Int) (m1 : Int)) fun w40 x40 => ?_
    refine iE20 (iE21 ?_)
    have x1740 := x1721.trans x40
    refine iLdA (hB9.ext x1740) rfl ?_
    refine iLdA (hB11.ext x1740) rfl ?_
    refine iCall ((ok_spec_FindFrameIsomorphism (w := w40) (SlI.ext hsf x1740) (SlI.ext hsg x1740) (m0 : Int) (m1 : Int)).mono ?_)
    rintro _ w41 ⟨x41, uz, rfl, _⟩
    refine iE20 (iE21 ?_)
    have hX41 := (hX6.trans x621).trans (x40.trans x41)
    have ealg : algOut (m0 : Int) (nats a0) (m1 : Int) (nats a1) = (!(leaves (fitsB (algFr m1 a1) (algFr m0 a0) true true) m0 m1 []).isEmpty, 0) := by
      unfold algOut
      rw [k0, k1, e0, e1, Int.toNat_natCast, Int.toNat_natCast]
      rfl
    have hfo0 : frameOk (m0 : Int) (nats (algFr m0 a0).a) = true := frameOk_of f0
    have hfo1 : frameOk (m1 : Int) (nats (algFr m1 a1).a) = true := frameOk_of f1
    have hfr0 : frOf (m0 : Int) (nats (algFr m0 a0).a) = algFr m0 a0 := frOf_nats (algFr m0 a0)
    have hfr1 : frOf (m1 : Int) (nats (algFr m1 a1).a) = algFr m1 a1 := frOf_nats (algFr m1 a1)
    have efst : (firstOut true true (m0 : Int) (nats (algFr m0 a0).a) (m1 : Int) (nats (algFr m1 a1).a)).2 = if leaves (fitsB (algFr m0 a0) (algFr m1 a1) true true) m1 m0 [] = [] then 4 else 0 := by
      unfold firstOut
      rw [hfo0, hfo1, hfr0, hfr1]
      show (match leaves (fitsB (algFr m0 a0) (algFr m1 a1) true true) m1 m0 [] with | [] => (([] : List Int), (4 : Int)) | m :: _ => (nats m, 0)).2 = _
      cases leaves (fitsB (algFr m0 a0) (algFr m1 a1) true true) m1 m0 [] with
      | nil => rfl
      | cons x l => rfl
    rw [ealg, efst]
    have hiff : leaves (fitsB (algFr m1 a1) (algFr m0 a0) true true) m0 m1 [] = [] ↔ leaves (fitsB (algFr m0 a0) (algFr m1 a1) true true) m1 m0 [] = [] :=
      ⟨fun h => Classical.byContradiction fun h' => leaves_symm (f := algFr m0 a0) (g := algFr m1 a1) f0 f1 h' h, fun h => Classical.byContradiction fun h' => leaves_symm (f := algFr m1 a1) (g := algFr m0 a0) f1 f0 h' h⟩
    refine iJnPV (fun xs w' => xs = [.bool true] ∧ Ext w41 w') (fun J hJ => ?_) (fun xs w43 hC => ?_)
    · refine iEq (iCndP (fun _ => ?_) (fun h => absurd rfl h))
      refine iEq ?_
      refine ⟨_, _, rfl, rfl, ?_⟩
      refine hJ _ _ ⟨?_, Ext.refl _⟩
      by_cases hE : leaves (fitsB (algFr m0 a0) (algFr m1 a1) true true) m1 m0 [] = []
      · rw [hiff.2 hE, hE]; rfl
      · have hE1 : (leaves (fitsB (algFr m1 a1) (algFr m0 a0) true true) m0 m1 []).isEmpty = false := by
          rw [← Bool.not_eq_true, List.isEmpty_iff]
          exact fun h => hE (hiff.1 h)
        rw [hE1, if_neg hE]; rfl
    obtain ⟨rfl, x43⟩ := hC
    intro _
    exact ⟨rfl, hX41.trans x43⟩
end Go.Proofs.YtfadcafacpaldaaGreat
