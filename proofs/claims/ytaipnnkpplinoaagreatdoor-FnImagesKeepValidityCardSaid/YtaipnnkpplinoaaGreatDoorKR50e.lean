/- The proof of FnImagesKeepValidityCard, part 5 of 7. Conditions: none. -/
import Derived.Test.YtaipnnkpplinoaaGreatDoorKR50d
import Derived.RangeFuncNested
import Derived.RangeFuncCalls
import Derived.RangeFuncLeaves
import Derived.RangeFuncRecord
import Derived.Sort.LoopGhostIn
import Derived.TacticsIn
import Derived.OrdersIn
namespace Go.Proofs.YtaipnnkpplinoaaGreatDoor
open Go.Vc
theorem part_endF {L : List PR} {a b j : Nat} {pv : PR} (haj : a ≤ j) (hjb : j < b) (hb : b ≤ L.length) (he : gt L a = pv) (h1 : ∀ k, a + 1 ≤ k → k ≤ j → ltR (gt L k) pv = true) (h2 : ∀ k, j < k → k < b → ltR (gt L k) pv = false) : Parted ltR a b j (sw L j a) := by
  have e : ∀ k, gt (sw L j a) k = if k = a then gt L j else if k = j then gt L a else gt L k := gt_sw (by omega) (by omega)
  have ej : gt (sw L j a) j = pv := by
    rw [e]
    split
    · rename_i h; rw [h]; exact he
    · rw [if_pos rfl]; exact he
  refine ⟨fun k hk hk' => ?_, fun k hk hk' => ?_⟩
  · rw [ej, e]
    by_cases hka : k = a
    · rw [if_pos hka]; exact h1 j (by omega) (Nat.le_refl _)
    · rw [if_neg hka, if_neg (by omega)]; exact h1 k (by omega) (by omega)
  · rw [ej, e, if_neg (by omega), if_neg (by omega)]; exact h2 k hk hk'
theorem ok_slices_partitionCmpFunc_impl_Frame {lo : Nat} {w : World} {v : Value} {L : List PR} {a b t : Nat} (hs : RowF lo t_impl_Frame w v L) (hrw : RowsF t_i64 w L) (hat : a ≤ t) (htb : t < b) (hb : b ≤ L.length) (hL : L.length ≤ 1152921504606846976) :
    Cal Tryz.prog f_slices_partitionCmpFunc_impl_Frame #[v, .int .i64 (a : Int), .int .i64 (b : Int), .int .i64 (t : Int), cmpF] w fun r w' => ∃ L' : List PR, ∃ m : Nat, ∃ y : Bool, r = .tuple #[.int .i64 (m : Int), .bool y] ∧ TurnF lo t_impl_Frame v w w' L' ∧ SwR a b L L' ∧ a ≤ m ∧ m < b ∧ Parted ltR a b m L' := by
  apply c_slices_partitionCmpFunc_impl_Frame; unfold S_slices_partitionCmpFunc_impl_Frame
  refine iRdFr (j := t) hs rfl (by omega) ?_
  refine iRdFr (j := a) hs rfl (by omega) ?_
  refine iWrF (i := a) (j := t) hs rfl rfl (by omega) (by omega) fun w7 h5 => ?_
  have h5 : TurnF lo t_impl_Frame v w w7 (sw L a t) := h5
  have e0 : gt (sw L a t) a = gt L t := by rw [gt_sw (by omega) (by omega)]; split <;> simp_all
  have hw0 : SwR a b L (sw L a t) := .one (Nat.le_refl _) (by omega) hat htb hb
  have hl0 := hw0.len
  generalize sw L a t = L0 at h5 e0 hw0 hl0
  (refine iAdd (by omega) ?_; refine iSub (by omega) ?_)
  obtain ⟨i0, hi0⟩ : ∃ i0, i0 = a + 1 := ⟨_, rfl⟩
  obtain ⟨j0, hj0⟩ : ∃ j0 : Int, j0 = (b : Int) - 1 := ⟨_, rfl⟩
  rw [show (a : Int) + 1 = (i0 : Int) by omega, ← hj0]
  refine iLp (fun i : Nat => [.int .i64 (i : Int)]) (fun i w' => i0 ≤ i ∧ (i : Int) ≤ j0 + 1 ∧ Ext w7 w' ∧ ∀ k, a + 1 ≤ k → k < i → ltR (gt L0 k) (gt L t) = true) (fun i => b - i) i0 rfl ⟨Nat.le_refl _, by omega, Ext.refl _, fun k h1 h2 => by omega⟩ ?_
  rintro i w9 Kn9 ⟨hi, hij, h9, hq⟩ hKn9
  intro _
  simp only [gx]
  have ht9 := h5.ext h9
  refine iJnB (decide ((i : Int) ≤ j0) && ltR (gt L0 i) (gt L0 a)) w9 (fun J hJ => ?_) (fun w11 h11 => ?_)
  · refine iLe ?_
    refine iCndP (fun h => ?_) (fun h => ?_)
    · rw [decide_eq_true h, Bool.true_and] at hJ
      refine iRdFr (j := i) ht9.ow rfl (by omega) ?_
      refine iRdFr (j := a) ht9.ow rfl (by omega) ?_
      exact iCmF (hrw.turn hs (by decide) ht9 hw0.perm) (by omega) (by omega) hJ
    · rw [decide_eq_false h, Bool.false_and] at hJ
      exact fun _ x8 _ x9 => hJ _ (x8.trans x9)
  intro _
  simp only [gx]
  have h9' := h9.trans h11
  cases hc : decide ((i : Int) ≤ j0) && ltR (gt L0 i) (gt L0 a)
  rotate_left
  · rw [Bool.and_eq_true, decide_eq_true_eq] at hc
    refine iCndT rfl ?_
    (refine iAdd (by omega) ?_)
    refine hKn9 (i + 1) _ ⟨by omega, by omega, h9', fun k h1 h2 => ?_⟩ (by omega)
    by_cases hk : k = i
    · rw [hk, ← e0]; exact hc.2
    · exact hq k h1 (by omega)
  refine iCndF rfl ?_
  refine iLp (fun j : Int => [.int .i64 j]) (fun j w' => j ≤ j0 ∧ (i : Int) ≤ j + 1 ∧ Ext w7 w' ∧ ∀ k : Nat, j < k → k < b → ltR (gt L0 k) (gt L t) = false) (fun j => (j + 2).toNat) j0 rfl ⟨Int.le_refl _, hij, h9', fun k h1 h2 => by omega⟩ ?_
  rintro j w15 Kn15 ⟨hjj, hij2, h15, hq2⟩ hKn15
  intro _
  simp only [gx]
  have ht15 := h5.ext h15
  refine iJnB (decide ((i : Int) ≤ j) && !ltR (gt L0 j.toNat) (gt L0 a)) w15 (fun J hJ => ?_) (fun w17 h17 => ?_)
  · refine iLe ?_
    refine iCndP (fun h => ?_) (fun h => ?_)
    · rw [decide_eq_true h, Bool.true_and] at hJ
      refine iRdFr (j := j.toNat) ht15.ow (by omega) (by omega) ?_
      refine iRdFr (j := a) ht15.ow rfl (by omega) ?_
      exact iCmNF (hrw.turn hs (by decide) ht15 hw0.perm) (by omega) (by omega) hJ
    · rw [decide_eq_false h, Bool.false_and] at hJ
      exact fun _ x8 _ x9 => hJ _ (x8.trans x9)
  intro _
  simp only [gx]
  have ht17 := ht15.ext h17
  cases hc2 : decide ((i : Int) ≤ j) && !ltR (gt L0 j.toNat) (gt L0 a)
  rotate_left
  · rw [Bool.and_eq_true, decide_eq_true_eq, Bool.not_eq_true'] at hc2
    refine iCndT rfl ?_
    refine iSub (by omega) ?_
    refine hKn15 (j - 1) _ ⟨by omega, by omega, h15.trans h17, fun k h1 h2 => ?_⟩ (by omega)
    by_cases hk : (k : Int) = j
    · rw [show k = j.toNat by omega, ← e0]; exact hc2.2
    · exact hq2 k (by omega) h2
  refine iCndF rfl ?_
  refine iLt ?_
  refine iCndP (fun h => ?_) (fun h => ?_)
  · refine iRdFr (j := a) ht17.ow rfl (by omega) ?_
    refine iRdFr (j := j.toNat) ht17.ow (by omega) (by omega) ?_
    refine iWrF (i := j.toNat) (j := a) ht17.ow (by omega) rfl (by omega) (by omega) fun w22 h22 => ?_
    exact ⟨sw L0 j.toNat a, j.toNat, true, by rw [Int.toNat_of_nonneg (by omega)], ht17.trans h22, .step hw0 (by omega) (by omega) (Nat.le_refl _) (by omega) hb, by omega, by omega, part_endF (by omega) (by omega) (by omega) e0 (fun k h1 h2 => hq k h1 (by omega)) (fun k h1 h2 => hq2 k (by omega) h2)⟩
  have hlt1 : ltR (gt L0 i) (gt L t) = false := by
    rw [decide_eq_true (show (i : Int) ≤ j0 by omega), Bool.true_and, e0] at hc; exact hc
  have hlt2 : ltR (gt L0 j.toNat) (gt L t) = true := by
    rw [decide_eq_true (show (i : Int) ≤ j by omega), Bool.true_and, Bool.not_eq_false', e0] at hc2; exact hc2
  have hne : i ≠ j.toNat := fun e => by rw [e, hlt2] at hlt1; cases hlt1
  refine iRdFr (j := j.toNat) ht17.ow (by omega) (by omega) ?_
  refine iRdFr (j := i) ht17.ow rfl (by omega) ?_
  refine iWrF (i := i) (j := j.toNat) ht17.ow rfl (by omega) (by omega) (by omega) fun w24 h24 => ?_
  refine iAdd (by omega) ?_
  refine iSub (by omega) ?_
  have eS : ∀ k, gt (sw L0 i j.toNat) k = if k = j.toNat then gt L0 i else if k = i then gt L0 j.toNat else gt L0 k := gt_sw (by omega) (by omega)
  have nx1 : ∀ k, a + 1 ≤ k → k < i + 1 → ltR (gt (sw L0 i j.toNat) k) (gt L t) = true := fun k h1 h2 => by
    rw [eS, if_neg (by omega)]
    by_cases hk : k = i
    · rw [if_pos hk]; exact hlt2
    · rw [if_neg hk]; exact hq k h1 (by omega)
  have nx2 : ∀ k : Nat, j - 1 < k → k < b → ltR (gt (sw L0 i j.toNat) k) (gt L t) = false := fun k h1 h2 => by
    rw [eS]
    by_cases hk : k = j.toNat
    · rw [if_pos hk]; exact hlt1
    · rw [if_neg hk, if_neg (by omega)]; exact hq2 k (by omega) h2
  have nxe : gt (sw L0 i j.toNat) a = gt L t := by rw [eS, if_neg (by omega), if_neg (by omega)]; exact e0
  refine iLp (fun s : Nat × Int => [.int .i64 (s.1 : Int), .int .i64 s.2]) (fun s w' => a + 1 ≤ s.1 ∧ (s.1 : Int) ≤ s.2 + 1 ∧ s.2 < b ∧ ∃ L', TurnF lo t_impl_Frame v w w' L' ∧ SwR a b L L' ∧ gt L' a = gt L t ∧ (∀ k, a + 1 ≤ k → k < s.1 → ltR (gt L' k) (gt L t) = true) ∧ ∀ k : Nat, s.2 < k → k < b → ltR (gt L' k) (gt L t) = false) (fun s => b - s.1) (i + 1, j - 1) rfl
    ⟨by show a + 1 ≤ i + 1; omega, by show ((i + 1 : Nat) : Int) ≤ j - 1 + 1; omega, by show j - 1 < b; omega, sw L0 i j.toNat, ht17.trans h24, .step hw0 (by omega) (by omega) (by omega) (by omega) hb, nxe, nx1, nx2⟩ ?_
  clear hKn9 hKn15 nxe nx1 nx2 eS hq hq2
  rintro ⟨i1, j1⟩ w29 Kn ⟨hi1, hij1, hjb1, L1, ht1, hw1, he1, hq1, hq21⟩ hKn
  have hi1 : a + 1 ≤ i1 := hi1
  have hij1 : (i1 : Int) ≤ j1 + 1 := hij1
  have hjb1 : j1 < b := hjb1
  have hl1 := hw1.len
  intro _
  simp only [gx]
  refine iLp (fun i : Nat => [.int .i64 (i : Int)]) (fun i w' => i1 ≤ i ∧ (i : Int) ≤ j1 + 1 ∧ Ext w29 w' ∧ ∀ k, a + 1 ≤ k → k < i → ltR (gt L1 k) (gt L t) = true) (fun i => b - i) i1 rfl ⟨Nat.le_refl _, by omega, Ext.refl _, hq1⟩ ?_
  rintro i w9 Kn9 ⟨hi, hij, h9, hq⟩ hKn9
  intro _
  simp only [gx]
  have ht9 := ht1.ext h9
  refine iJnB (decide ((i : Int) ≤ j1) && ltR (gt L1 i) (gt L1 a)) w9 (fun J hJ => ?_) (fun w11 h11 => ?_)
  · refine iLe ?_
    refine iCndP (fun h => ?_) (fun h => ?_)
    · rw [decide_eq_true h, Bool.true_and] at hJ
      refine iRdFr (j := i) ht9.ow rfl (by omega) ?_
      refine iRdFr (j := a) ht9.ow rfl (by omega) ?_
      exact iCmF (hrw.turn hs (by decide) ht9 hw1.perm) (by omega) (by omega) hJ
    · rw [decide_eq_false h, Bool.false_and] at hJ
      exact fun _ x8 _ x9 => hJ _ (x8.trans x9)
  intro _
  simp only [gx]
  have h9' := h9.trans h11
  cases hc : decide ((i : Int) ≤ j1) && ltR (gt L1 i) (gt L1 a)
  rotate_left
  · rw [Bool.and_eq_true, decide_eq_true_eq] at hc
    refine iCndT rfl ?_
    (refine iAdd (by omega) ?_)
    refine hKn9 (i + 1) _ ⟨by omega, by omega, h9', fun k h1 h2 => ?_⟩ (by omega)
    by_cases hk : k = i
    · rw [hk, ← he1]; exact hc.2
    · exact hq k h1 (by omega)
  refine iCndF rfl ?_
  refine iLp (fun j : Int => [.int .i64 j]) (fun j w' => j ≤ j1 ∧ (i : Int) ≤ j + 1 ∧ Ext w29 w' ∧ ∀ k : Nat, j < k → k < b → ltR (gt L1 k) (gt L t) = false) (fun j => (j + 2).toNat) j1 rfl ⟨Int.le_refl _, hij, h9', hq21⟩ ?_
  rintro j w15 Kn15 ⟨hjj, hij2, h15, hq2⟩ hKn15
  intro _
  simp only [gx]
  have ht15 := ht1.ext h15
  refine iJnB (decide ((i : Int) ≤ j) && !ltR (gt L1 j.toNat) (gt L1 a)) w15 (fun J hJ => ?_) (fun w17 h17 => ?_)
  · refine iLe ?_
    refine iCndP (fun h => ?_) (fun h => ?_)
    · rw [decide_eq_true h, Bool.true_and] at hJ
      refine iRdFr (j := j.toNat) ht15.ow (by omega) (by omega) ?_
      refine iRdFr (j := a) ht15.ow rfl (by omega) ?_
      exact iCmNF (hrw.turn hs (by decide) ht15 hw1.perm) (by omega) (by omega) hJ
    · rw [decide_eq_false h, Bool.false_and] at hJ
      exact fun _ x8 _ x9 => hJ _ (x8.trans x9)
  intro _
  simp only [gx]
  have ht17 := ht15.ext h17
  cases hc2 : decide ((i : Int) ≤ j) && !ltR (gt L1 j.toNat) (gt L1 a)
  rotate_left
  · rw [Bool.and_eq_true, decide_eq_true_eq, Bool.not_eq_true'] at hc2
    refine iCndT rfl ?_
    refine iSub (by omega) ?_
    refine hKn15 (j - 1) _ ⟨by omega, by omega, h15.trans h17, fun k h1 h2 => ?_⟩ (by omega)
    by_cases hk : (k : Int) = j
    · rw [show k = j.toNat by omega, ← he1]; exact hc2.2
    · exact hq2 k (by omega) h2
  refine iCndF rfl ?_
  refine iLt ?_
  refine iCndP (fun h => ?_) (fun h => ?_)
  · refine iRdFr (j := a) ht17.ow rfl (by omega) ?_
    refine iRdFr (j := j.toNat) ht17.ow (by omega) (by omega) ?_
    refine iWrF (i := j.toNat) (j := a) ht17.ow (by omega) rfl (by omega) (by omega) fun w22 h22 => ?_
    exact ⟨sw L1 j.toNat a, j.toNat, false, by rw [Int.toNat_of_nonneg (by omega)], ht17.trans h22, .step hw1 (by omega) (by omega) (Nat.le_refl _) (by omega) hb, by omega, by omega, part_endF (by omega) (by omega) (by omega) he1 (fun k h1 h2 => hq k h1 (by omega)) (fun k h1 h2 => hq2 k (by omega) h2)⟩
  have hlt1 : ltR (gt L1 i) (gt L t) = false := by
    rw [decide_eq_true (show (i : Int) ≤ j1 by omega), Bool.true_and, he1] at hc; exact hc
  have hlt2 : ltR (gt L1 j.toNat) (gt L t) = true := by
    rw [decide_eq_true (show (i : Int) ≤ j by omega), Bool.true_and, Bool.not_eq_false', he1] at hc2; exact hc2
  have hne : i ≠ j.toNat := fun e => by rw [e, hlt2] at hlt1; cases hlt1
  refine iRdFr (j := j.toNat) ht17.ow (by omega) (by omega) ?_
  refine iRdFr (j := i) ht17.ow rfl (by omega) ?_
  refine iWrF (i := i) (j := j.toNat) ht17.ow rfl (by omega) (by omega) (by omega) fun w24 h24 => ?_
  refine iAdd (by omega) ?_
  refine iSub (by omega) ?_
  have eS : ∀ k, gt (sw L1 i j.toNat) k = if k = j.toNat then gt L1 i else if k = i then gt L1 j.toNat else gt L1 k := gt_sw (by omega) (by omega)
  have nx1 : ∀ k, a + 1 ≤ k → k < i + 1 → ltR (gt (sw L1 i j.toNat) k) (gt L t) = true := fun k h1 h2 => by
    rw [eS, if_neg (by omega)]
    by_cases hk : k = i
    · rw [if_pos hk]; exact hlt2
    · rw [if_neg hk]; exact hq k h1 (by omega)
  have nx2 : ∀ k : Nat, j - 1 < k → k < b → ltR (gt (sw L1 i j.toNat) k) (gt L t) = false := fun k h1 h2 => by
    rw [eS]
    by_cases hk : k = j.toNat
    · rw [if_pos hk]; exact hlt1
    · rw [if_neg hk, if_neg (by omega)]; exact hq2 k (by omega) h2
  have nxe : gt (sw L1 i j.toNat) a = gt L t := by rw [eS, if_neg (by omega), if_neg (by omega)]; exact he1
  exact hKn (i + 1, j - 1) _ ⟨by show a + 1 ≤ i + 1; omega, by show ((i + 1 : Nat) : Int) ≤ j - 1 + 1; omega, by show j - 1 < b; omega, sw L1 i j.toNat, ht17.trans h24, .step hw1 (by omega) (by omega) (by omega) (by omega) hb, nxe, nx1, nx2⟩ (by show b - (i + 1) < b - i1; omega)
theorem ok_slices_partialInsertionSortCmpFunc_impl_Frame {lo : Nat} {w : World} {v : Value} {L : List PR} {a b : Nat} (hs : RowF lo t_impl_Frame w v L) (hrw : RowsF t_i64 w L) (hab : a < b) (hb : b ≤ L.length) (hL : L.length ≤ 1152921504606846976) (hbl : Blw ltR a b L) :
    Cal Tryz.prog f_slices_partialInsertionSortCmpFunc_impl_Frame #[v, .int .i64 (a : Int), .int .i64 (b : Int), cmpF] w fun r w' => ∃ y : Bool, ∃ L' : List PR, r = .bool y ∧ TurnF lo t_impl_Frame v w w' L' ∧ SwR a b L L' ∧ (y = true → Srt ltR a b L') := by
  apply c_slices_partialInsertionSortCmpFunc_impl_Frame; unfold S_slices_partialInsertionSortCmpFunc_impl_Frame
  (refine iAdd (by omega) ?_)
  refine iLp (fun s : Nat × Nat => [.int .i64 (s.1 : Int), .int .i64 (s.2 : Int)]) (fun s w' => a + 1 ≤ s.1 ∧ s.1 ≤ b ∧ s.2 ≤ 5 ∧ ∃ L', TurnF lo t_impl_Frame v w w' L' ∧ SwR a b L L' ∧ Srt ltR a s.1 L') (fun s => 5 - s.2) (a + 1, 0) rfl ⟨Nat.le_refl _, by show a + 1 ≤ b; omega, Nat.zero_le _, L, TurnF.refl hs, .refl, Srt.short (Nat.le_refl _)⟩ ?_
  rintro ⟨i0, r⟩ w2 Kn ⟨hi0, hib0, hr, L1, ht1, hw1, hs1⟩ hKn
  have hi0 : a + 1 ≤ i0 := hi0
  have hib0 : i0 ≤ b := hib0
  have hr : r ≤ 5 := hr
  have hs1 : Srt ltR a i0 L1 := hs1
  have hl1 := hw1.len
  intro _
  simp only [gx]
  refine iLt ?_
  refine iCndP (fun h5 => ?_) (fun h5 => ?_)
  rotate_left
  · exact ⟨false, L1, rfl, ht1, hw1, fun h => by cases h⟩
  refine iLp (fun i : Nat => [.int .i64 (i : Int)]) (fun i w' => i0 ≤ i ∧ i ≤ b ∧ Ext w2 w' ∧ Srt ltR a i L1) (fun i => b - i) i0 rfl ⟨Nat.le_refl _, hib0, Ext.refl _, hs1⟩ ?_
  rintro i w4 Kn4 ⟨hi, hib, h4, hsi⟩ hKn4
  intro _
  simp only [gx]
  have ht4 := ht1.ext h4
  refine iJnB (decide (i < b) && !ltR (gt L1 i) (gt L1 (i - 1))) w4 (fun J hJ => ?_) (fun w6 h6 => ?_)
  · refine iLt ?_
    refine iCndP (fun h => ?_) (fun h => ?_)
    · rw [decide_eq_true (show i < b by omega), Bool.true_and] at hJ
      refine iRdFr (j := i) ht4.ow rfl (by omega) ?_
      refine iSub (by omega) ?_
      refine iRdFr (j := i - 1) ht4.ow (by omega) (by omega) ?_
      exact iCmNF (hrw.turn hs (by decide) ht4 hw1.perm) (by omega) (by omega) hJ
    · rw [decide_eq_false (show ¬ i < b by omega), Bool.false_and] at hJ
      exact fun _ x8 _ x9 => hJ _ (x8.trans x9)
  intro _
  simp only [gx]
  have ht6 := ht4.ext h6
  cases hc : decide (i < b) && !ltR (gt L1 i) (gt L1 (i - 1))
  rotate_left
  · rw [Bool.and_eq_true, decide_eq_true_eq, Bool.not_eq_true'] at hc
    refine iCndT rfl ?_
    refine iAdd (by omega) ?_
    refine hKn4 (i + 1) _ ⟨by omega, by omega, h4.trans h6, fun p q g1 g2 g3 => ?_⟩ (by omega)
    by_cases hq : q = i
    · subst hq
      by_cases hp : p = q - 1
      · rw [hp]; exact hc.2
      · exact ordrR.tr (hsi p (q - 1) g1 (by omega) (by omega)) hc.2
    · exact hsi p q g1 g2 (by omega)
  refine iCndF rfl ?_
  refine iEq ?_
  refine iCndP (fun h => ?_) (fun h => ?_)
  · have : i = b := by omega
    subst this
    exact ⟨true, L1, rfl, ht6, hw1, fun _ => hsi⟩
  have hlt : ltR (gt L1 i) (gt L1 (i - 1)) = true := by
    rw [decide_eq_true (show i < b by omega), Bool.true_and, Bool.not_eq_false'] at hc; exact hc
  refine iSub (by omega) ?_
  refine iLt ?_
  refine iCndP (fun h7 => ?_) (fun h7 => ?_)
  · exact ⟨false, L1, rfl, ht6, hw1, fun h => by cases h⟩
  refine iSub (by omega) ?_
  refine iSub (by omega) ?_
  refine iRdFr (j := i - 1) ht6.ow (by omega) (by omega) ?_
  refine iRdFr (j := i) ht6.ow rfl (by omega) ?_
  refine iWrF (i := i) (j := i - 1) ht6.ow rfl (by omega) (by omega) (by omega) fun w13 h13 => ?_
  have h13 : TurnF lo t_impl_Frame v w6 w13 (sw L1 i (i - 1)) := h13
  have hw2 : SwR a b L1 (sw L1 i (i - 1)) := .one (by omega) (by omega) (by omega) (by omega) (by omega)
  have hs2 : Srt ltR a (i - 1) (sw L1 i (i - 1)) := (hsi.mono (Nat.le_refl _) (by omega)).out (SwR.one (a := i - 1) (b := b) (by omega) (by omega) (by omega) (by omega) (by omega)) (.inr (Nat.le_refl _))
  have ht13 := ht6.trans h13
  have hw13 := hw1.trans hw2
  generalize sw L1 i (i - 1) = L2 at h13 hw2 hs2 ht13 hw13
  have hl2 := hw13.len
  have hbl2 : Blw ltR a b L2 := hbl.keep hw13 (Nat.le_refl _) (Nat.le_refl _)
  refine iSub (by omega) ?_
  refine iLe ?_
  refine iJnX (fun _ w' => ∃ L', TurnF lo t_impl_Frame v w w' L' ∧ SwR a b L L' ∧ Srt ltR a i L') (fun J hJ => ?_) ?_
  · refine iCndP (fun h8 => ?_) (fun h8 => ?_)
    · refine iSub (by omega) ?_
      refine iLp (fun j : Nat => [.int .i64 (j : Int)]) (fun j w' => a ≤ j ∧ j ≤ i - 1 ∧ ∃ L', TurnF lo t_impl_Frame v w w' L' ∧ SwR a b L L' ∧ Blw ltR a b L' ∧ Ins ltR a (i - 1) j L') (fun j => j) (i - 1) (by congr 2; omega) ⟨by omega, Nat.le_refl _, L2, ht13, hw13, hbl2, Ins.init hs2⟩ ?_
      rintro j w17 Kn17 ⟨haj, hji, L3, ht3, hw3, hbl3, hin⟩ hKn17
      have hl3 := hw3.len
      intro _
      simp only [gx]
      refine iLe ?_
      refine iCndP (fun h9 => ?_) (fun h9 => ?_)
      · refine iRdFr (j := j) ht3.ow rfl (by omega) ?_
        refine iSub (by omega) ?_
        refine iRdFr (j := j - 1) ht3.ow (by omega) (by omega) ?_
        refine iCmNF (hrw.turn hs (by decide) ht3 hw3.perm) (by omega) (by omega) fun w18 h18 => ?_
        have ht18 := ht3.ext h18
        refine iCnd (fun h10 => ?_) (fun h10 => ?_)
        · have h10 : ltR (gt L3 j) (gt L3 (j - 1)) = false := by simpa using h10
          refine hJ _ _ ⟨L3, ht18, hw3, ?_⟩
          have := hin.done ordrR (by rcases Nat.lt_or_ge a j with h' | h'; exact .inr ⟨h', h10⟩; exact .inl h') hji
          rwa [show i - 1 + 1 = i by omega] at this
        · have h10 : ltR (gt L3 j) (gt L3 (j - 1)) = true := by simpa using h10
          have haj' : a < j := by
            rcases Nat.lt_or_ge a j with h' | h'
            · exact h'
            · have e : j = a := by omega
              subst e
              have := hbl3 j (Nat.le_refl _) (by omega) (by omega)
              rw [h10] at this; cases this
          refine iSub (by omega) ?_
          refine iSub (by omega) ?_
          refine iRdFr (j := j - 1) ht18.ow (by omega) (by omega) ?_
          refine iRdFr (j := j) ht18.ow rfl (by omega) ?_
          refine iWrF (i := j) (j := j - 1) ht18.ow rfl (by omega) (by omega) (by omega) fun w23 h23 => ?_
          refine iSub (by omega) ?_
          rw [show (j : Int) - 1 = ((j - 1 : Nat) : Int) by omega]
          have hw4 : SwR a b L3 (sw L3 j (j - 1)) := .one (by omega) (by omega) (by omega) (by omega) (by omega)
          exact hKn17 (j - 1) _ ⟨by omega, by omega, sw L3 j (j - 1), ht18.trans h23, hw3.trans hw4, hbl3.keep hw4 (Nat.le_refl _) (Nat.le_refl _), hin.swap ordrR haj' hji (by omega) h10⟩ (by omega)
      · refine hJ _ _ ⟨L3, ht3, hw3, ?_⟩
        have := hin.done ordrR (.inl (by omega)) hji
        rwa [show i - 1 + 1 = i by omega] at this
    · exact hJ _ _ ⟨L2, ht13, hw13, Srt.short (by omega)⟩
  rintro xs w15 ⟨L3, ht3, hw3, hs3⟩
  have hl3 := hw3.len
  intro _
  refine iSub (by omega) ?_
  refine iLe ?_
  refine iCndP (fun h8 => ?_) (fun h8 => ?_)
  · refine iAdd (by omega) ?_
    refine iLp (fun j : Nat => [.int .i64 (j : Int)]) (fun j w' => i + 1 ≤ j ∧ j ≤ b ∧ ∃ L', TurnF lo t_impl_Frame v w w' L' ∧ SwR a b L L' ∧ Srt ltR a i L') (fun j => b - j) (i + 1) rfl ⟨Nat.le_refl _, by omega, L3, ht3, hw3, hs3⟩ ?_
    rintro j w25 Kn25 ⟨hij, hjb, L4, ht4, hw4, hs4⟩ hKn25
    have hl4 := hw4.len
    intro _
    simp only [gx]
    refine iLt ?_
    refine iCndP (fun h9 => ?_) (fun h9 => ?_)
    · refine iRdFr (j := j) ht4.ow rfl (by omega) ?_
      refine iSub (by omega) ?_
      refine iRdFr (j := j - 1) ht4.ow (by omega) (by omega) ?_
      refine iCmNF (hrw.turn hs (by decide) ht4 hw4.perm) (by omega) (by omega) fun w26 h26 => ?_
      have ht26 := ht4.ext h26
      refine iCnd (fun h10 => ?_) (fun h10 => ?_)
      · refine iAdd (by omega) ?_
        exact hKn (i, r + 1) _ ⟨by show a + 1 ≤ i; omega, hib, by show r + 1 ≤ 5; omega, L4, ht26, hw4, hs4⟩ (by show 5 - (r + 1) < 5 - r; omega)
      · refine iSub (by omega) ?_
        refine iSub (by omega) ?_
        refine iRdFr (j := j - 1) ht26.ow (by omega) (by omega) ?_
        refine iRdFr (j := j) ht26.ow rfl (by omega) ?_
        refine iWrF (i := j) (j := j - 1) ht26.ow rfl (by omega) (by omega) (by omega) fun w31 h31 => ?_
        refine iAdd (by omega) ?_
        exact hKn25 (j + 1) _ ⟨by omega, by omega, sw L4 j (j - 1), ht26.trans h31, .step hw4 (by omega) (by omega) (by omega) (by omega) hb, hs4.out (SwR.one (a := i) (b := b) (by omega) (by omega) (by omega) (by omega) (by omega)) (.inr (Nat.le_refl _))⟩ (by omega)
    · refine iAdd (by omega) ?_
      exact hKn (i, r + 1) _ ⟨by show a + 1 ≤ i; omega, hib, by show r + 1 ≤ 5; omega, L4, ht4, hw4, hs4⟩ (by show 5 - (r + 1) < 5 - r; omega)
  · refine iAdd (by omega) ?_
    exact hKn (i, r + 1) _ ⟨by show a + 1 ≤ i; omega, hib, by show r + 1 ≤ 5; omega, L3, ht3, hw3, hs3⟩ (by show 5 - (r + 1) < 5 - r; omega)
theorem ok_slices_pdqsortCmpFunc_impl_Frame {lo : Nat} {v : Value} : ∀ (n : Nat) {w : World} {L : List PR} {a b : Nat} {lim : Int}, b - a ≤ n → RowF lo t_impl_Frame w v L → RowsF t_i64 w L → a ≤ b → b ≤ L.length → L.length ≤ 1152921504606846976 → Blw ltR a b L → 0 ≤ lim ∧ lim ≤ 64 →
    Cal Tryz.prog f_slices_pdqsortCmpFunc_impl_Frame #[v, .int .i64 (a : Int), .int .i64 (b : Int), .int .i64 lim, cmpF] w fun _ w' => ∃ L', TurnF lo t_impl_Frame v w w' L' ∧ SwR a b L L' ∧ Srt ltR a b L' := by
  intro n
  induction n using Nat.strongRecOn with
  | ind n ih =>
  intro w L a0 b0 lim0 hn hs hrw hab hb hL hbl hlim
  apply c_slices_pdqsortCmpFunc_impl_Frame; unfold S_slices_pdqsortCmpFunc_impl_Frame
  refine iLp (fun s : Nat × Nat × Int × Bool × Bool => [.int .i64 (s.1 : Int), .int .i64 (s.2.1 : Int), .int .i64 s.2.2.1, .bool s.2.2.2.1, .bool s.2.2.2.2]) (fun s w' => a0 ≤ s.1 ∧ s.1 ≤ s.2.1 ∧ s.2.1 ≤ b0 ∧ (0 ≤ s.2.2.1 ∧ s.2.2.1 ≤ 64) ∧ ∃ L', TurnF lo t_impl_Frame v w w' L' ∧ SwR a0 b0 L L' ∧ Blw ltR s.1 s.2.1 L' ∧ Crs ltR a0 b0 s.1 s.2.1 L') (fun s => s.2.1 - s.1) (a0, b0, lim0, true, true) rfl
    ⟨Nat.le_refl _, hab, Nat.le_refl _, hlim, L, TurnF.refl hs, .refl, hbl, Crs.all⟩ ?_
  rintro ⟨a, b, lim, bal, par⟩ w2 Kn ⟨ha, hab, hbb, hlim, L1, ht1, hw1, hbl1, hcr1⟩ hKn
  have ha : a0 ≤ a := ha
  have hab : a ≤ b := hab
  have hbb : b ≤ b0 := hbb
  have hlim : 0 ≤ lim ∧ lim ≤ 64 := hlim
  have hbl1 : Blw ltR a b L1 := hbl1
  have hcr1 : Crs ltR a0 b0 a b L1 := hcr1
  have hl1 := hw1.len
  intro _
  simp only [gx]
  -- a sorted window closes the work
  have fin : ∀ {L' L'' : List PR} {w' : World} {a b : Nat}, TurnF lo t_impl_Frame v w w' L'' → SwR a0 b0 L L' → SwR a b L' L'' → a0 ≤ a → b ≤ b0 → Crs ltR a0 b0 a b L' → Srt ltR a b L'' → ∃ L', TurnF lo t_impl_Frame v w w' L' ∧ SwR a0 b0 L L' ∧ Srt ltR a0 b0 L' :=
    fun {L' L'' w' a b} h1 h2 h3 h4 h5 h6 h7 => ⟨L'', h1, h2.trans (h3.mono h4 h5 (by rw [h2.len]; exact hb)), h6.done h3 h4 h5 h7⟩
  refine iSub (by omega) ?_
  refine iLe ?_
  refine iCndP (fun h => ?_) (fun h => ?_)
  · refine iCall ?_
    refine (ok_slices_insertionSortPF ht1.ow (hrw.turn hs (by decide) ht1 hw1.perm) hab (by omega) (by omega)).mono fun _ w3 h3 => ?_
    obtain ⟨L2, ht2, hw2, hs2⟩ := h3
    exact fin (ht1.trans ht2) hw1 hw2 ha hbb hcr1 hs2
  refine iEq ?_
  refine iCndP (fun h0 => ?_) (fun h0 => ?_)
  · refine iCall ?_
    refine (ok_slices_heapSortCmpFunc_impl_Frame ht1.ow (hrw.turn hs (by decide) ht1 hw1.perm) (by omega) (by omega) (by omega)).mono fun _ w3 h3 => ?_
    obtain ⟨L2, ht2, hw2, hs2⟩ := h3
    exact fin (ht1.trans ht2) hw1 hw2 ha hbb hcr1 hs2
  refine iNot ?_
  refine iJnX (fun xs w' => ∃ l2 : Int, ∃ L', xs = [.int .i64 l2] ∧ (0 ≤ l2 ∧ l2 ≤ 64) ∧ TurnF lo t_impl_Frame v w w' L' ∧ SwR a b L1 L') (fun J hJ => ?_) ?_
  · refine iCnd (fun _ => ?_) (fun _ => ?_)
    · refine iCall ?_
      refine (ok_slices_breakPatternsCmpFunc_impl_Frame ht1.ow hab (by omega) (by omega)).mono fun _ w3 h3 => ?_
      obtain ⟨L2, ht2, hw2⟩ := h3
      refine iSub (by omega) ?_
      exact hJ _ _ ⟨lim - 1, L2, rfl, by omega, ht1.trans ht2, hw2⟩
    · exact hJ _ _ ⟨lim, L1, rfl, hlim, ht1, .refl⟩
  rintro xs w6 ⟨lim, L2, rfl, hlim, ht2, hw2⟩
  have hl2 := hw2.len
  intro _
  simp only [gx]
  refine iCall ?_
  refine (ok_slices_choosePivotCmpFunc_impl_Frame ht2.ow (hrw.turn hs (by decide) ht2 (hw2.perm.trans hw1.perm)) (by omega) (by omega) (by omega)).mono fun r w8 h8 => ?_
  obtain ⟨h8, t, x, rfl, hat, htb⟩ := h8
  have ht8 := ht2.ext h8
  refine iE20 ?_
  refine iE21 ?_
  refine iEq ?_
  refine iJnX (fun xs w' => ∃ t : Nat, ∃ x : Int, ∃ L', xs = [.int .i64 (t : Int), .int .i64 x] ∧ a ≤ t ∧ t < b ∧ TurnF lo t_impl_Frame v w w' L' ∧ SwR a b L1 L') (fun J hJ => ?_) ?_
  · refine iCndP (fun _ => ?_) (fun _ => ?_)
    · refine iCall ?_
      refine (ok_slices_reverseRangeCmpFunc_impl_Frame ht8.ow hab (by omega) (by omega)).mono fun _ w3 h3 => ?_
      obtain ⟨L3, ht3, hw3⟩ := h3
      refine iSub (by omega) ?_
      refine iSub (by omega) ?_
      refine iSub (by omega) ?_
      exact hJ _ _ ⟨b - 1 - (t - a), 1, L3, by congr 2; omega, by omega, by omega, ht8.trans ht3, hw2.trans hw3⟩
    · exact hJ _ _ ⟨t, x, L2, rfl, hat, htb, ht8, hw2⟩
  clear hat htb
  rintro xs w10 ⟨t, x, L3, rfl, hat, htb, ht3, hw3⟩
  intro _
  simp only [gx]
  refine iJnX (fun xs w' => ∃ y : Bool, xs = [.bool y] ∧ Ext w10 w') (fun J hJ => ?_) ?_
  · refine iCnd (fun _ => ?_) (fun _ => ?_)
    · refine iCnd (fun _ => ?_) (fun _ => ?_)
      · refine iEq ?_
        exact hJ _ _ ⟨_, rfl, Ext.refl _⟩
      · exact hJ _ _ ⟨false, rfl, Ext.refl _⟩
    · exact hJ _ _ ⟨false, rfl, Ext.refl _⟩
  rintro xs w13 ⟨y, rfl, h13⟩
  intro _
  simp only [gx]
  have ht13 := ht3.ext h13
  have hl3 := hw3.len
  refine iJnX (fun _ w' => ∃ L', TurnF lo t_impl_Frame v w w' L' ∧ SwR a b L1 L') (fun J hJ => ?_) ?_
  · refine iCnd (fun _ => ?_) (fun _ => ?_)
    · refine iCall ?_
      refine (ok_slices_partialInsertionSortCmpFunc_impl_Frame ht13.ow (hrw.turn hs (by decide) ht13 (hw3.perm.trans hw1.perm)) (by omega) (by omega) (by omega) (hbl1.keep hw3 (Nat.le_refl _) (Nat.le_refl _))).mono fun r w3 h3 => ?_
      obtain ⟨y', L4, rfl, ht4, hw4, hs4⟩ := h3
      refine iCnd (fun hy => ?_) (fun hy => ?_)
      · exact fin (ht13.trans ht4) hw1 (hw3.trans hw4) ha hbb hcr1 (hs4 hy)
      · exact hJ _ _ ⟨L4, ht13.trans ht4, hw3.trans hw4⟩
    · exact hJ _ _ ⟨L3, ht13, hw3⟩
  clear ht3 hw3 ht13 ht8 ht2 hw2 hl2 hl3
  rintro xs w15 ⟨L3, ht3, hw3⟩
  have hl3 := hw3.len
  have hw3' : SwR a0 b0 L L3 := hw1.trans (hw3.mono ha hbb (by omega))
  have hbl3 : Blw ltR a b L3 := hbl1.keep hw3 (Nat.le_refl _) (Nat.le_refl _)
  have hcr3 : Crs ltR a0 b0 a b L3 := hcr1.keep hw3 ha hbb
  intro _
  refine iJnB (decide (0 < a) && !ltR (gt L3 (a - 1)) (gt L3 t)) w15 (fun J hJ => ?_) (fun w18 h18 => ?_)
  · refine iLt ?_
    refine iCndP (fun h5 => ?_) (fun h5 => ?_)
    · rw [decide_eq_true (show 0 < a by omega), Bool.true_and] at hJ
      refine iSub (by omega) ?_
      refine iRdFr (j := a - 1) ht3.ow (by omega) (by omega) ?_
      refine iRdFr (j := t) ht3.ow rfl (by omega) ?_
      exact iCmNF (hrw.turn hs (by decide) ht3 hw3'.perm) (by omega) (by omega) hJ
    · rw [decide_eq_false (show ¬ 0 < a by omega), Bool.false_and] at hJ
      exact fun _ x8 _ x9 => hJ _ (x8.trans x9)
  intro _
  simp only [gx]
  have ht18 := ht3.ext h18
  cases hc : decide (0 < a) && !ltR (gt L3 (a - 1)) (gt L3 t)
  rotate_left
  · rw [Bool.and_eq_true, decide_eq_true_eq, Bool.not_eq_true'] at hc
    refine iCndT rfl ?_
    refine iCall ?_
    refine (ok_slices_partitionEqualCmpFunc_impl_Frame ht18.ow (hrw.turn hs (by decide) ht18 hw3'.perm) hat htb (by omega) (by omega)).mono fun r w21 h21 => ?_
    obtain ⟨L4, m, rfl, ht4, hw4, ham, hmb, hle⟩ := h21
    have hge : ∀ k, a ≤ k → k < b → ltR (gt L4 k) (gt L3 t) = false := hw4.all (p := fun z => ltR z (gt L3 t) = false) fun k hk hk' => ordrR.tr hc.2 (hbl3 k hk hk' (by omega))
    refine hKn (m, b, lim, bal, par) _ ⟨by show a0 ≤ m; omega, hmb, hbb, hlim, L4, ht18.trans ht4, hw3'.trans (hw4.mono ha hbb (by rw [hw3'.len]; omega)), equal_blw ordrR hge hle ham, equal_up ordrR (hcr3.keep hw4 ha hbb) hge hle hmb⟩ (by show b - m < b - a; omega)
  refine iCndF rfl ?_
  refine iCall ?_
  refine (ok_slices_partitionCmpFunc_impl_Frame ht18.ow (hrw.turn hs (by decide) ht18 hw3'.perm) hat htb (by omega) (by omega)).mono fun r w22 h22 => ?_
  obtain ⟨L4, m, y', rfl, ht4, hw4, ham, hmb, hpt⟩ := h22
  have hl4 := hw4.len
  have ht22 := ht18.trans ht4
  have hw4' : SwR a0 b0 L L4 := hw3'.trans (hw4.mono ha hbb (by rw [hw3'.len]; omega))
  have hbl4 : Blw ltR a b L4 := hbl3.keep hw4 (Nat.le_refl _) (Nat.le_refl _)
  have hcr4 : Crs ltR a0 b0 a b L4 := hcr3.keep hw4 ha hbb
  refine iE20 ?_
  refine iE21 ?_
  refine iSub (by omega) ?_
  refine iSub (by omega) ?_
  refine iQuo (by omega) ?_
  refine iLt ?_
  refine iCndP (fun h5 => ?_) (fun h5 => ?_)
  · refine iLe ?_
    refine iCall ?_
    refine (ih (m - a) (by omega) (Nat.le_refl _) ht22.ow (hrw.turn hs (by decide) ht22 hw4'.perm) ham (by omega) (by omega) (hbl4.low (by omega)) hlim).mono fun _ w23 h23 => ?_
    obtain ⟨L5, ht5, hw5, hs5⟩ := h23
    have hw5' : SwR a b L4 L5 := hw5.mono (Nat.le_refl _) (by omega) (by omega)
    have hpt5 := hpt.lowS hw5
    refine iAdd (by omega) ?_
    exact hKn (m + 1, b, lim, _, y') _ ⟨by show a0 ≤ m + 1; omega, by show m + 1 ≤ b; omega, hbb, hlim, L5, ht22.trans ht5, hw4'.trans (hw5'.mono ha hbb (by rw [hw4'.len]; omega)), hpt5.blw, hpt5.up ordrR (hcr4.keep hw5' ha hbb) hs5⟩ (by show b - (m + 1) < b - a; omega)
  · refine iLe ?_
    refine iAdd (by omega) ?_
    refine iCall ?_
    refine (ih (b - (m + 1)) (by omega) (a := m + 1) (Nat.le_refl _) ht22.ow (hrw.turn hs (by decide) ht22 hw4'.perm) (by omega) (by omega) (by omega) hpt.blw hlim).mono fun _ w23 h23 => ?_
    obtain ⟨L5, ht5, hw5, hs5⟩ := h23
    have hw5' : SwR a b L4 L5 := hw5.mono (by omega) (Nat.le_refl _) (by omega)
    have hpt5 := hpt.highS hw5
    exact hKn (a, m, lim, _, y') _ ⟨ha, ham, by show m ≤ b0; omega, hlim, L5, ht22.trans ht5, hw4'.trans (hw5'.mono ha hbb (by rw [hw4'.len]; omega)), (hbl4.keep hw5' (Nat.le_refl _) (Nat.le_refl _)).low (Nat.le_of_lt hmb), hpt5.down ordrR (hcr4.keep hw5' ha hbb) hs5⟩ (by show m - a < b - a; omega)
theorem ok_slices_SortFunc_Simpl_Frame_impl_Frame {lo : Nat} {w : World} {v : Value} {L : List PR} (hs : RowF lo t_impl_Frame w v L) (hrw : RowsF t_i64 w L) (hL : L.length ≤ 1152921504606846976) :
    Cal Tryz.prog f_slices_SortFunc_Simpl_Frame_impl_Frame #[v, cmpF] w fun _ w' => ∃ L' : List PR, RowF lo t_impl_Frame w' v L' ∧ Ch (fun c => v.ownBlock = some c) w w' ∧ List.Perm L' L ∧ L'.Pairwise fun x y => ltR y x = false := by
  apply c_slices_SortFunc_Simpl_Frame_impl_Frame; unfold S_slices_SortFunc_Simpl_Frame_impl_Frame
  refine iLenK hs.row.sl ?_
  refine iConvU (by omega) ?_
  refine iCall ?_
  refine (ok_math_bits_Len (by omega) w).mono fun r w1 h1 => ?_
  obtain ⟨h1, k, rfl, -, -, hk⟩ := h1
  refine iCall ?_
  refine (ok_slices_pdqsortCmpFunc_impl_Frame (a := 0) (b := L.length) (lim := (k : Int)) L.length (by omega) (hs.ext h1) (hrw.ext h1) (Nat.zero_le _) (Nat.le_refl _) hL (fun k _ _ h => by omega) (by omega)).mono fun _ w2 h2 => ?_
  obtain ⟨L', ht, hw, hst⟩ := h2
  rw [← hw.len] at hst
  exact ⟨L', ht.ow, (h1.ch (S := fun c => v.ownBlock = some c)).trans ht.ch fun _ e => .inl e, hw.perm, hst.pairwise⟩
end Go.Proofs.YtaipnnkpplinoaaGreatDoor

namespace Go.Vc
abbrev ddR (L : List PR) : List PR := ddA ltP keyR L
theorem ltP_ne {a b : Int × List Int} : (ltP a b || ltP b a) = decide (¬ b = a) := by
  have irr : ∀ a, ltP a a = false := fun a => Bool.eq_false_iff.2 fun h => by
    have := ordP.o.asym h
    rw [h] at this; cases this
  rw [Bool.eq_iff_iff, Bool.or_eq_true, decide_eq_true_eq]
  constructor
  · rintro (h | h) e
    · subst e; rw [irr] at h; cases h
    · subst e; rw [irr] at h; cases h
  · intro h
    rcases ordP.tot a b with h1 | h1 | h1
    · exact .inl h1
    · exact absurd h1.symm h
    · exact .inr h1
theorem ddR_take {L : List PR} {i : Nat} (h0 : 1 ≤ i) (hi : i < L.length) : ddR (L.take (i + 1)) = if keyR (gt L i) = keyR (gt L (i - 1)) then ddR (L.take i) else ddR (L.take i) ++ [gt L i] := by
  rw [ddR, ddA_take h0 hi, ltP_ne]
  by_cases h : keyR (gt L i) = keyR (gt L (i - 1))
  · rw [if_pos h, if_neg (by simp [h])]
  · rw [if_neg h, if_pos (by simpa using h)]
theorem ddR_idk {L : List PR} : ∀ k, k ≤ L.length → (∀ i, 1 ≤ i → i < k → ¬ keyR (gt L i) = keyR (gt L (i - 1))) → ddR (L.take k) = L.take k := by
  intro k
  induction k with
  | zero => intro _ _; rfl
  | succ k ih =>
    intro hk h
    rcases Nat.eq_zero_or_pos k with h0 | h0
    · subst h0
      rw [ddR, ddA_one (by omega), List.take_succ_eq_append_getElem (by omega), gt_eq (by omega)]; rfl
    · rw [ddR_take h0 (by omega), if_neg (h k h0 (by omega)), ih (by omega) fun i h1 h2 => h i h1 (by omega), List.take_succ_eq_append_getElem (by omega), gt_eq (by omega)]
theorem ddR_id {L : List PR} (h : ∀ i, 1 ≤ i → i < L.length → ¬ keyR (gt L i) = keyR (gt L (i - 1))) : ddR L = L := by
  have := ddR_idk L.length (Nat.le_refl _) h
  rwa [List.take_length] at this
theorem gt_drop {α : Type} [Inhabited α] (L : List α) {k j : Nat} (h : k + j < L.length) : gt (L.drop k) j = gt L (k + j) := by
  rw [gt_eq h, gt_eq (by rw [List.length_drop]; omega), List.getElem_drop]
theorem RowF.at {e : TypeId} {w : World} {L : List PR} (h : RowsF e w L) {i : Nat} (hi : i < L.length) : SlI w (gt L i).2.1 (gt L i).2.2 := (h _ (by rw [gt_eq hi]; exact List.getElem_mem _)).sl
theorem RowF.tail {lo : Nat} {e : TypeId} {w : World} {g n cap k : Nat} {M : List PR} (h : RowF lo e w (.slice (some ⟨g, 0, none⟩) n cap) M) (hn : M.length = n) (hk : k < n) (hc : n ≤ cap) : SlK 2 w (.slice (some ⟨g, 0 + k * 2, none⟩) (n - k) (cap - k)) (M.drop k).length (cellsR (M.drop k)) := by
  subst hn
  obtain ⟨g', cap', cur, e1, hg, hcap, hR, hx⟩ := OwK.rx h.row (by omega)
  injection e1 with e1 e2 e3
  injection e1 with e1
  injection e1 with e1
  subst e1
  subst e3
  have hcm := hR.2.2
  have := hR.sl (l := k) (m := M.length - k) (c := cap - k) (o := 0 + k * 2) (fun _ => by omega) (by omega) (by omega) (by omega)
  rw [List.length_drop]
  have e : (cur.drop (k * 2)).take ((M.length - k) * 2) = cellsR (M.drop k) := by
    rw [← cellsR_drop, ← hx, List.drop_take]
    congr 1; omega
  rwa [e] at this
theorem iStX0 {P : Program} {lo : Nat} {e : TypeId} {w : World} {v : Value} {L : List PR} {r : PR} {z : Int} {j : Nat} {k : IntKind} {K : World → Prop} (hs : RowR lo e w v L) (hz : z = (j : Int)) (hj : j < L.length) (hr : isCell r.2.1 = true)
    (h : ∀ w', RowR lo e w' v (L.set j r) → Ch (fun c => v.ownBlock = some c) w w' → K w') : xIa 2 v (.int k z) fun p => xStA P w 2 p (valR r) K := by
  obtain ⟨ad, n, c, k, j, h1, h2, h3, h4, h5⟩ := iStX (P := P) hs hz hj hr h
  exact ⟨ad, n, c, k, j, h1, h2, h3, h4, h5 w (Ext.refl w)⟩
end Go.Vc
namespace Go.Proofs.YtaipnnkpplinoaaGreatDoor
open Go.Vc
theorem ok_slices_CompactFuncF {lo : Nat} {w : World} {v eqf : Value} {L : List PR} (hs : RowF lo t_impl_Frame w v L) (hrw : RowsF t_i64 w L) (hL : L.length ≤ 1152921504606846976)
    (heq : ∀ {w' : World} {x y : PR}, SlI w' x.2.1 x.2.2 → SlI w' y.2.1 y.2.2 → callV Tryz.prog eqf [valR x, valR y] w' fun r w'' => r = .bool (decide (keyR x = keyR y)) ∧ Ext w' w'') :
    Cal Tryz.prog f_slices_CompactFunc_Simpl_Frame_impl_Frame #[v, eqf] w fun r w' => RowF lo t_impl_Frame w' r (ddR L) ∧ Ch (fun c => v.ownBlock = some c) w w' ∧ r.ownBlock = v.ownBlock := by
  apply c_slices_CompactFunc_Simpl_Frame_impl_Frame; unfold S_slices_CompactFunc_Simpl_Frame_impl_Frame
  refine iLenK hs.row.sl ?_
  refine iLt (iCndP (fun h => ?_) (fun h => ?_))
  · rw [ddR_id (fun i h1 h2 => by omega)]
    exact ⟨hs, (Ext.refl w).ch, rfl⟩
  obtain ⟨g, cap, cur, hv, hg, hcap, hR, hx⟩ := OwK.rx hs.row (by omega)
  have hcm := hR.2.2
  refine iLp (fun k : Nat => [.int .i64 (k : Int)]) (fun k w' => 1 ≤ k ∧ k ≤ L.length ∧ Ext w w' ∧ ∀ i, 1 ≤ i → i < k → ¬ keyR (gt L i) = keyR (gt L (i - 1))) (fun k => L.length - k) 1 rfl ⟨Nat.le_refl _, by omega, Ext.refl _, fun i h1 h2 => by omega⟩ ?_
  rintro k w2 Kn ⟨hk1, hkn, h2, hne⟩ hKn
  have hs2 := hs.ext h2
  intro _
  simp only [gx]
  refine iLenK hs2.row.sl ?_
  refine iLt (iCndP (fun h3 => ?_) (fun h3 => ?_))
  rotate_left
  · rw [ddR_id (fun i h1 h2 => hne i h1 (by omega))]
    exact ⟨hs2, h2.ch, by first | trivial | rfl⟩
  refine iRdFr (j := k) hs2 rfl (by omega) ?_
  refine iSub (by omega) ?_
  refine iRdFr (j := k - 1) hs2 (by omega) (by omega) ?_
  have hr2 := hrw.ext h2
  intro w3 x3
  refine (heq ((RowF.at hr2 (by omega)).ext x3) ((RowF.at hr2 (by omega)).ext x3)).mono ?_
  rintro _ w4 ⟨rfl, x4⟩ w5 x5
  have h25 := (x3.trans x4).trans x5
  have hs5 := hs2.ext h25
  refine iCndP (fun h4 => ?_) (fun h4 => ?_)
  rotate_left
  · refine iAdd (by omega) ?_
    refine hKn (k + 1) _ ⟨by omega, by omega, h2.trans h25, fun i h1 h5 => ?_⟩ (by omega)
    by_cases hi : i = k
    · subst hi; exact h4
    · exact hne i h1 (by omega)
  subst hv
  refine iTX (l := k) (by omega) hcap fun o' ho' => ?_
  have ho' := ho' (by omega)
  subst ho'
  refine iLp (fun s : Nat × Nat => [.int .i64 (s.1 : Int), .int .i64 (s.2 : Int)]) (fun s w' => k ≤ s.1 ∧ s.1 + 1 ≤ k + s.2 ∧ k + s.2 ≤ L.length ∧ ∃ M, TurnF lo t_impl_Frame (.slice (some ⟨g, 0, none⟩) L.length cap) w w' M ∧ M.length = L.length ∧ M.take s.1 = ddR (L.take (k + s.2)) ∧ ∀ j, k + s.2 ≤ j + 1 → gt M j = gt L j) (fun s => L.length - s.2) (k, 1) rfl
    ⟨Nat.le_refl _, Nat.le_refl _, by show k + 1 ≤ L.length; omega, L, ⟨hs5, (h2.trans h25).ch⟩, rfl, by show L.take k = ddR (L.take (k + 1)); rw [ddR_take hk1 (by omega), if_pos h4, ddR_idk k (by omega) hne], fun _ _ => rfl⟩ ?_
  rintro ⟨kk, k2⟩ w5' Kn5 ⟨hkk, hkk2, hk2, M, ht, hM, hMt, hMe⟩ hKn5
  have hkk : k ≤ kk := hkk
  have hkk2 : kk + 1 ≤ k + k2 := hkk2
  have hk2 : k + k2 ≤ L.length := hk2
  have hMt : M.take kk = ddR (L.take (k + k2)) := hMt
  have hMe : ∀ j, k + k2 ≤ j + 1 → gt M j = gt L j := hMe
  intro _
  simp only [gx]
  refine iLenL ?_
  refine iLt (iCndP (fun h5 => ?_) (fun h5 => ?_))
  · have htl := ht.ow.tail hM (k := k) (by omega) hcap
    refine iRdX (j := k2) htl rfl (by rw [List.length_drop]; omega) ?_
    rw [gt_drop M (by omega)]
    refine iSub (by omega) ?_
    refine iRdX (j := k2 - 1) htl (by omega) (by rw [List.length_drop]; omega) ?_
    rw [gt_drop M (by omega)]
    have e1 := hMe (k + k2) (by omega)
    have e2 := hMe (k + (k2 - 1)) (by omega)
    have hr5 : RowsF t_i64 w5' L := fun y hy => (hrw y hy).ch ht.ch fun c hc hc' => OwK.ne_ow hs.row (hrw y hy) (by decide) hc' hc
    intro w6 x6
    refine (heq (by rw [e1]; exact (RowF.at hr5 (by omega)).ext x6) (by rw [e2]; exact (RowF.at hr5 (by omega)).ext x6)).mono ?_
    rintro _ w7 ⟨rfl, x7⟩
    refine iNot ?_
    intro w8 x8
    have ht8 := ht.ext ((x6.trans x7).trans x8)
    have edd := ddR_take (L := L) (i := k + k2) (by omega) (by omega)
    rw [← e1, show k + k2 - 1 = k + (k2 - 1) by omega, ← e2] at edd
    by_cases h6 : keyR (gt M (k + k2)) = keyR (gt M (k + (k2 - 1)))
    · rw [if_pos h6, ← hMt] at edd
      rw [decide_eq_true h6]
      refine iCndF rfl (iAdd (by omega) ?_)
      exact hKn5 (kk, k2 + 1) _ ⟨hkk, by show kk + 1 ≤ k + (k2 + 1); omega, by show k + (k2 + 1) ≤ L.length; omega, M, ht8, hM, edd.symm, fun j hj => hMe j (by have hj : k + (k2 + 1) ≤ j + 1 := hj; omega)⟩ (by show L.length - (k2 + 1) < L.length - k2; omega)
    · rw [if_neg h6, ← hMt] at edd
      rw [decide_eq_false h6]
      refine iCndT rfl ?_
      have htl8 := ht8.ow.tail hM (k := k) (by omega) hcap
      refine iRdX (j := k2) htl8 rfl (by rw [List.length_drop]; omega) ?_
      rw [gt_drop M (by omega)]
      have hcell : isCell (gt M (k + k2)).2.1 = true := ht.ow.cells _ (by rw [gt_eq (by omega)]; exact List.getElem_mem _)
      have hrow8 := ht8.ow.row
      rw [← hM] at hrow8
      refine iStX0 (j := kk) (by rw [← hM]; exact hrow8) rfl (by omega) hcell fun w11 hw11 hc11 => ?_
      refine iAdd (by omega) ?_
      refine iAdd (by omega) ?_
      refine hKn5 (kk + 1, k2 + 1) _ ⟨by show k ≤ kk + 1; omega, by show kk + 1 + 1 ≤ k + (k2 + 1); omega, by show k + (k2 + 1) ≤ L.length; omega, M.set kk (gt M (k + k2)), ⟨⟨hw11, fun r hr => ?_⟩, ht8.ch.trans hc11 fun _ e => .inl e⟩, by rw [List.length_set]; exact hM, ?_, fun j hj => ?_⟩ (by show L.length - (k2 + 1) < L.length - k2; omega)
      · rcases List.mem_or_eq_of_mem_set hr with h | rfl
        · exact ht.ow.cells r h
        · exact hcell
      · show (M.set kk (gt M (k + k2))).take (kk + 1) = ddR (L.take (k + (k2 + 1)))
        rw [show k + (k2 + 1) = k + k2 + 1 by omega, edd, List.take_succ_eq_append_getElem (by rw [List.length_set]; omega), List.getElem_set_self, List.take_set_of_le (Nat.le_refl _)]
      · have hj : k + (k2 + 1) ≤ j + 1 := hj
        rw [gt_set _ (by omega), if_neg (by omega)]
        exact hMe j (by omega)
  · have hend : k + k2 = L.length := by omega
    rw [hend, List.take_length] at hMt
    obtain ⟨g', cap', cur', e1, hg', hcap', hR', hx'⟩ := OwK.rx ht.ow.row (by omega)
    rw [hM] at e1
    injection e1 with e1 e2 e3
    injection e1 with e1
    injection e1 with e1
    subst e1
    subst e3
    refine iTX (l := kk) (by omega) hcap fun o2 ho2 => ?_
    have ho2 := ho2 (by omega)
    subst ho2
    refine iClrX (l := kk) u_Simpl_Frame i_Simpl_Frame rfl (by simp [Value.cells, isCell]) hR' (by omega) (by omega) (by omega) fun ys w12 hys hR12 hc12 => ?_
    refine iHX (k := kk) (by omega) ?_
    have hS : ∀ c, c = g → (Value.slice (some ⟨g, 0, none⟩) L.length cap).ownBlock = some c := fun c e => by rw [e]; rfl
    rw [← hMt]
    have hlen : (M.take kk).length = kk := by rw [List.length_take]; omega
    refine ⟨⟨?_, fun r hr => ht.ow.cells r (List.mem_of_mem_take hr)⟩, ht.ch.trans (hc12.mono hS) fun _ h => .inl h, rfl⟩
    show OwK 2 lo _ w12 _ _ _
    rw [hlen]
    have hcl := hR'.2.1
    refine hR12.own hg (by omega) ?_
    rw [putX_low (by omega) (by omega), ← cellsR_take, ← hx', List.take_take, Nat.min_eq_left (by omega)]
end Go.Proofs.YtaipnnkpplinoaaGreatDoor

namespace Go.Vc
theorem RowF.app {P : Program} {lo : Nat} {t e ty : TypeId} {bytes : Nat} (ht : P.underlying t = some (.slice e)) (hi : (P.info? e).map (fun i => (i.zero, i.size, i.bytes)) = some (some (.agg #[.int .i64 0, .slice none 0 0]), 2, bytes)) (hby : bytes ≤ 1000) {w : World} {v u : Value} {L : List PR} {n : Int} (l : List Int) {K : Value → World → Prop}
    (hp : RowF lo e w v L) (hu : isCell u = true) (hlo : lo ≤ w.heap.size) (hb : L.length ≤ 1000000000)
    (hk : ∀ v' w', RowF lo e w' v' (L ++ [(n, u, l)]) → Ch (fun c => v.ownBlock = some c) w w' → K v' w') :
    xBs e (Value.cells (.agg #[.int .i64 0, .slice none 0 0])) 2 1 [(0, .agg #[.int .i64 n, u])] w fun y w1 => xOp P (Builtin.append_ #[t, t] ty #[v, y]) w1 K := by
  refine iBsA fun b w1 hb1 h1 hB => ?_
  have hs := (OwK.ofBlk (k := 2) (lo := w.heap.size) hB (by omega) rfl (by omega)).sl
  have hm : (L.length + 1) * bytes ≤ 1000000001 * 1000 := Nat.mul_le_mul (by omega) hby
  refine iAppK (k := 2) ht hi rfl (by omega) (OwK.ext hp.row h1) hs (fun x hx => ?_) (by omega) (by omega) (Nat.le_trans hlo h1.size) fun v' w' ho' hg _ => hk v' w' ⟨?_, fun r hr => ?_⟩ ((h1.ch (S := fun c => v.ownBlock = some c)).trans (grown_ch hg fun c hc => hc) fun _ h => .inl h)
  · simp only [List.mem_cons, List.not_mem_nil, or_false] at hx
    rcases hx with rfl | rfl
    · rfl
    · exact hu
  · show OwK 2 lo e w' v' _ _
    rw [List.length_append, cellsR_app]
    exact ho'
  · rcases List.mem_append.1 hr with hr | hr
    · exact hp.cells r hr
    · rw [List.mem_singleton] at hr
      subst hr; exact hu
theorem RowF.mono {lo lo' : Nat} {e : TypeId} {w : World} {v : Value} {L : List PR} (h : RowF lo e w v L) (hl : lo' ≤ lo) : RowF lo' e w v L := ⟨OwK.mono h.row hl, h.cells⟩
theorem RowF.nil (lo : Nat) (e : TypeId) (w : World) : RowF lo e w (.slice none 0 0) [] := ⟨OwK.nil _ _ _ _, fun r hr => absurd hr (by simp)⟩
theorem RowsF.chR {lo : Nat} {e e' : TypeId} {w w' : World} {v : Value} {L M : List PR} (h : RowsF e w L) (hs : RowF lo e' w v M) (hne : e' ≠ e) (hc : Ch (fun c => v.ownBlock = some c) w w') : RowsF e w' L := fun y hy => (h y hy).ch hc fun _ hk hk' => OwK.ne_ow hs.row (h y hy) hne hk' hk
theorem cmpR_zero (x y : Int × List Int) : decide (cmpR x y = 0) = decide (x = y) := by
  have h1 := cmpR_ne x y
  rw [ltP_ne] at h1
  have h2 : (¬ cmpR x y = 0) ↔ ¬ y = x := by
    rw [← decide_eq_decide]; exact h1
  exact decide_eq_decide.2 ⟨fun h => Classical.byContradiction fun h3 => (h2.2 fun e => h3 e.symm) h, fun h => Classical.byContradiction fun h3 => h2.1 h3 h.symm⟩
end Go.Vc
namespace Go.Proofs.YtaipnnkpplinoaaGreatDoor
open Go.Vc
end Go.Proofs.YtaipnnkpplinoaaGreatDoor

namespace Go.Vc
end Go.Vc
namespace Go.Proofs.YtaipnnkpplinoaaGreatDoor
open Go.Vc
end Go.Proofs.YtaipnnkpplinoaaGreatDoor

namespace Go.Vc
abbrev VL := Value × List Int
end Go.Vc
namespace Go.Proofs.YtaipnnkpplinoaaGreatDoor
open Go.Vc
end Go.Proofs.YtaipnnkpplinoaaGreatDoor

namespace Go.Vc
end Go.Vc
namespace Go.Proofs.YtaipnnkpplinoaaGreatDoor
open Go.Vc
end Go.Proofs.YtaipnnkpplinoaaGreatDoor

namespace Go.Proofs.YtaipnnkpplinoaaGreatDoor
open Go.Vc
end Go.Proofs.YtaipnnkpplinoaaGreatDoor

namespace Go.Vc
end Go.Vc
namespace Go.Proofs.YtaipnnkpplinoaaGreatDoor
open Go.Vc
end Go.Proofs.YtaipnnkpplinoaaGreatDoor

namespace Go.Vc
section
variable {P : Program} {w : World} {lo : Nat} {e : TypeId}
end
end Go.Vc
namespace Go.Proofs.YtaipnnkpplinoaaGreatDoor
open Go.Vc
end Go.Proofs.YtaipnnkpplinoaaGreatDoor

namespace Go.Vc
section
universe u
variable {α : Type u} {enc : α → Value} {w : World}
end
end Go.Vc
namespace Go.Proofs.YtaipnnkpplinoaaGreatDoor
open Go.Vc
theorem ok_spec_l01Same {va vb : Value} {w : World} {a b : List Int} (ha : SlI w va a) (hb : SlI w vb b) : Ret Tryz.prog f_spec_l01Same #[va, vb] w (.bool (decide (a = b))) := by
  apply c_spec_l01Same; unfold S_spec_l01Same
  have hal := ha.len
  have hbl := hb.len
  ((with_reducible refine iLenI (by assumption) ?_; refine iLenI (by assumption) ?_; refine iNe ?_))
  refine iCndP (fun h => ?_) (fun h => ?_)
  · rw [decide_eq_false (fun e => h (by rw [e]))]
    exact ⟨rfl, Ext.refl _⟩
  have hlen : a.length = b.length := by omega
  refine iLp (fun k : Nat => [.int .i64 (k : Int)]) (fun k w' => k ≤ a.length ∧ Ext w w' ∧ ∀ i, i < k → a[i]? = b[i]?) (fun k => a.length - k) 0 rfl ⟨Nat.zero_le _, Ext.refl _, fun i hi => by omega⟩ ?_
  rintro k w2 Kn ⟨hka, h2, heq⟩ hKn
  have ha2 := ha.ext h2
  have hb2 := hb.ext h2
  (intro _; (try simp only [gx]); (with_reducible refine iLenI (by assumption) ?_; refine iLt ?_))
  refine iCndP (fun h5 => ?_) (fun h5 => ?_)
  · have h5a : k < a.length := by omega
    have h5b : k < b.length := by omega
    have ea : a.getD k 0 = a[k] := by simp [List.getD_eq_getElem?_getD, h5a]
    have eb : b.getD k 0 = b[k] := by simp [List.getD_eq_getElem?_getD, h5b]
    ((with_reducible refine iIaN (by assumption) ?_ (fun pa_ hpa_ => ?_)); omega; (with_reducible refine iLd (by assumption) ?_); (with_reducible refine iIaN (by assumption) ?_ (fun pa_ hpa_ => ?_)); omega; (with_reducible refine iLd (by assumption) ?_; refine iNe ?_))
    rw [ea, eb]
    intro w3 h3
    refine iCndP (fun h7 => ?_) (fun h7 => ?_)
    · rw [decide_eq_false (fun e => h7 (by subst e; rfl))]
      exact ⟨rfl, h2.trans h3⟩
    · (refine iAdd (by omega) ?_)
      refine hKn (k + 1) _ ⟨by omega, h2.trans h3, fun i hi => ?_⟩ (by omega)
      by_cases hik : i = k
      · subst hik
        rw [List.getElem?_eq_getElem h5a, List.getElem?_eq_getElem h5b, Classical.not_not.1 h7]
      · exact heq i (by omega)
  · rw [decide_eq_true (List.ext_getElem? fun i => ?_)]
    · exact ⟨rfl, h2⟩
    rcases Nat.lt_or_ge i k with h | h
    · exact heq i h
    · rw [List.getElem?_eq_none (by omega), List.getElem?_eq_none (by omega)]
end Go.Proofs.YtaipnnkpplinoaaGreatDoor

namespace Go.Vc
end Go.Vc
namespace Go.Proofs.YtaipnnkpplinoaaGreatDoor
open Go.Vc
end Go.Proofs.YtaipnnkpplinoaaGreatDoor

namespace Go.Proofs.YtaipnnkpplinoaaGreatDoor
open Go.Vc
end Go.Proofs.YtaipnnkpplinoaaGreatDoor

namespace Go.Vc
section
variable {eF tI tS : TypeId} {w0 w : World} {L1 L0 : List Value} {x1 x2 : Option (Nat × List Value)} {q1 q0 q2 : Option Value} {P : Program}
end
end Go.Vc
namespace Go.Proofs.YtaipnnkpplinoaaGreatDoor
open Go.Vc
end Go.Proofs.YtaipnnkpplinoaaGreatDoor

namespace Go.Proofs.YtaipnnkpplinoaaGreatDoor
open Go.Vc
end Go.Proofs.YtaipnnkpplinoaaGreatDoor

namespace Go.Vc
end Go.Vc

namespace Go.Vc
theorem iVar {P : Program} {w : World} {e : TypeId} {n : Nat} {cs : Array Value} {a : Array Value} {K : Value → World → Prop} (hn : cs.size = n) (ha : a.size = n) (hc : ∀ v ∈ a.toList, isCell v = true)
    (h : ∀ b w', w.heap.size ≤ b → Ext w w' → Blk e w' b a.toList → K (.pointer (some ⟨b, 0, none⟩)) w') : xNew cs e w fun v w1 => xStA P w1 n v (.agg a) fun w2 => K v w2 := by
  refine iNew fun b w1 hb h1 hB => ?_
  refine iStAB hB (by simpa using hn) ha hc fun w2 hu hB2 => ?_
  exact h b w2 (by omega) (h1.upd hu (by omega)) hB2
end Go.Vc
namespace Go.Proofs.YtaipnnkpplinoaaGreatDoor
open Go.Vc
theorem ok_laws_big {vc : Value} {w : World} {bs : List Nat} (hc : SlB w vc bs) : Ret Tryz.prog f_laws_big #[vc] w (.bool (decide ((4096 : Int) < (bs.length : Nat)))) := by
  apply c_laws_big; unfold S_laws_big
  refine iLenB hc ?_
  refine iLt ?_
  exact ⟨rfl, Ext.refl _⟩
theorem ok_laws_likeInts {v v' : Value} {w : World} {l l' : List Int} (hs : SlI w v l) (hs' : SlI w v' l') : Ret Tryz.prog f_laws_likeInts #[v, v'] w (.bool (decide (l = l'))) := by
  apply c_laws_likeInts; unfold S_laws_likeInts
  have hl := hs.len
  have hl' := hs'.len
  ((with_reducible refine iLenI (by assumption) ?_; refine iLenI (by assumption) ?_; refine iNe ?_))
  refine iCndP (fun h => ?_) (fun h => ?_)
  · rw [decide_eq_false (fun e => h (by rw [e]))]
    exact ⟨rfl, Ext.refl _⟩
  · have h : l.length = l'.length := by omega
    refine iLp (fun k : Nat => [.int .i64 (k : Int)]) (fun k w' => k ≤ l.length ∧ Ext w w' ∧ l.take k = l'.take k) (fun k => l.length - k) 0 rfl ⟨Nat.zero_le _, Ext.refl _, by simp⟩ ?_
    rintro k w2 Kn ⟨hk, h2, he⟩ hKn
    have hs2 := hs.ext h2
    have hs2' := hs'.ext h2
    (intro _; (try simp only [gx]); (with_reducible refine iLenI (by assumption) ?_; refine iLt ?_))
    refine iCndP (fun h3 => ?_) (fun h3 => ?_)
    · have hk1 : k < l.length := by omega
      have hk2 : k < l'.length := by omega
      have e1 : l.getD k 0 = l[k] := by simp [List.getD_eq_getElem?_getD, hk1]
      have e2 : l'.getD k 0 = l'[k] := by simp [List.getD_eq_getElem?_getD, hk2]
      ((with_reducible refine iIaN (by assumption) ?_ (fun pa_ hpa_ => ?_)); omega; (with_reducible refine iLd (by assumption) ?_); (with_reducible refine iIaN (by assumption) ?_ (fun pa_ hpa_ => ?_)); omega; (with_reducible refine iLd (by assumption) ?_; refine iNe ?_))
      rw [e1, e2]
      intro w3 h4
      refine iCndP (fun h5 => ?_) (fun h5 => ?_)
      · rw [decide_eq_false (fun e => by subst e; exact h5 rfl)]
        exact ⟨rfl, h2.trans h4⟩
      · (refine iAdd (by omega) ?_)
        refine hKn (k + 1) _ ⟨by omega, h2.trans h4, ?_⟩ (by omega)
        rw [List.take_succ_eq_append_getElem hk1, List.take_succ_eq_append_getElem hk2, he]
        congr 2
        exact Classical.not_not.1 h5
    · obtain rfl : k = l.length := by omega
      rw [List.take_length, h, List.take_length] at he
      rw [decide_eq_true he]
      exact ⟨rfl, h2⟩
theorem ok_laws_likeFrame5 {v v' : Value} {w : World} {l l' : List Int} (hs : SlI w v l) (hs' : SlI w v' l') (n n' : Int) : Ret Tryz.prog f_laws_likeFrame5 #[.agg #[.int .i64 n, v], .agg #[.int .i64 n', v']] w (.bool (decide (n = n') && decide (l = l'))) := by
  apply c_laws_likeFrame5; unfold S_laws_likeFrame5
  refine iNew fun b1 w1 hb1 h1 hB1 => ?_
  refine iNew fun b2 w2 hb2 h2 hB2 => ?_
  have hB1 := hB1.ext h2
  have hX := h1.trans h2
  refine iJnB (decide (n = n') && decide (l = l')) w2 (fun J hJ => ?_) (fun w4 h4 => ?_)
  · ((with_reducible refine iFa ?_); refine iLdB (by assumption) (by first | rfl | simp) ?_; (with_reducible refine iFa ?_); refine iLdB (by assumption) (by first | rfl | simp) ?_; (with_reducible refine iEq ?_))
    refine iCndP (fun h => ?_) (fun h => ?_)
    · ((with_reducible refine iFa ?_); refine iLdB (by assumption) (by first | rfl | simp) ?_; (with_reducible refine iFa ?_); refine iLdB (by assumption) (by first | rfl | simp) ?_)
      refine iRet (ok_laws_likeInts (hs.ext hX) (hs'.ext hX)) fun w5 h5 => ?_
      have := hJ w5 h5
      rwa [decide_eq_true h, Bool.true_and] at this
    · have := hJ w2 (Ext.refl _)
      rwa [decide_eq_false h, Bool.false_and] at this
  · (intro _; (try simp only [gx]))
    exact ⟨by trivial, hX.trans h4⟩
end Go.Proofs.YtaipnnkpplinoaaGreatDoor

namespace Go.Proofs.YtaipnnkpplinoaaGreatDoor
open Go.Vc
end Go.Proofs.YtaipnnkpplinoaaGreatDoor

namespace Go.Vc
end Go.Vc
namespace Go.Proofs.YtaipnnkpplinoaaGreatDoor
open Go.Vc
end Go.Proofs.YtaipnnkpplinoaaGreatDoor

namespace Go.Vc
def partsLV : Nat → List Nat → Nat → List (List Nat)
  | 0, cl, _ => [cl]
  | d + 1, cl, top => (List.range (top + 1)).flatMap fun k => partsLV d (cl ++ [k]) (max top (k + 1))
theorem partsL_mem : ∀ (d : Nat) (cl : List Nat) (top : Nat), (∀ y ∈ cl, y < top) → ∀ r ∈ partsLV d cl top, r.length = cl.length + d ∧ ∀ y ∈ r, y < top + d
  | 0, cl, top, h, r, hr => by
    simp only [partsLV, List.mem_singleton] at hr
    subst hr
    exact ⟨rfl, fun y hy => by have := h y hy; omega⟩
  | d + 1, cl, top, h, r, hr => by
    obtain ⟨k, hk, hr⟩ := List.mem_flatMap.1 hr
    have hk := List.mem_range.1 hk
    obtain ⟨h1, h2⟩ := partsL_mem d (cl ++ [k]) (max top (k + 1)) (fun y hy => by
      rcases List.mem_append.1 hy with hy | hy
      · have := h y hy; omega
      · simp at hy; omega) r hr
    refine ⟨by rw [h1, List.length_append]; simp; omega, fun y hy => ?_⟩
    have := h2 y hy
    omega
def topK (cl : List Nat) : Nat → Nat
  | 0 => 0
  | k + 1 => if cl.getD k 0 = topK cl k then topK cl k + 1 else topK cl k
theorem topK_le (cl : List Nat) : ∀ k, topK cl k ≤ k
  | 0 => Nat.le_refl _
  | k + 1 => by
    have := topK_le cl k
    unfold topK
    split <;> omega
def congBV (f : Fr) (cl : List Nat) : Bool := (decide (cl.length = f.n) && (List.range cl.length).all fun k => decide (cl.getD k 0 ≤ topK cl k)) && (List.range cl.length).all fun x => (List.range x).all fun y => !(decide (cl.getD x 0 = cl.getD y 0) && decide (¬ img cl (f.a.getD x 0) = img cl (f.a.getD y 0)))
def congLV (f : Fr) : List (List Nat) := (partsLV f.n [] 0).filter (congBV f)
def cntK (cl : List Nat) : Nat → Nat
  | 0 => 0
  | k + 1 => max (cntK cl k) (cl.getD k 0 + 1)
theorem cntK_lt (cl : List Nat) : ∀ k i, i < k → cl.getD i 0 < cntK cl k
  | 0, i, h => by omega
  | k + 1, i, h => by
    unfold cntK
    by_cases e : i = k
    · subst e; omega
    · have := cntK_lt cl k i (by omega); omega
end Go.Vc
namespace Go.Proofs.YtaipnnkpplinoaaGreatDoor
open Go.Vc
theorem ok_spec_l08Ordered {v0 v : Value} {w : World} {n : Nat} {cl : List Nat} (hs : SlN w v cl) (hl : cl.length ≤ 1000) : Ret Tryz.prog f_spec_l08Ordered #[.agg #[.int .i64 (n : Int), v0], v] w (.bool (decide (cl.length = n) && (List.range cl.length).all fun k => decide (cl.getD k 0 ≤ topK cl k))) := by
  apply c_spec_l08Ordered; unfold S_spec_l08Ordered
  refine iNew fun b w1 hb x1 hB => ?_
  have hB : Blk _ w1 b [.int .i64 (n : Int), v0] := hB
  have hs1 := hs.ext x1
  refine iLenN hs1 ?_
  refine iFa (iLdB hB (v := .int .i64 (n : Int)) rfl ?_)
  refine iNe (iCndP (fun h => ?_) (fun h => ?_))
  · rw [decide_eq_false (show ¬ cl.length = n by omega)]
    exact ⟨rfl, x1⟩
  rw [decide_eq_true (show cl.length = n by omega), Bool.true_and]
  refine iLp (fun k : Nat => [.int .i64 ((topK cl k : Nat) : Int), .int .i64 (k : Int)]) (fun k w' => k ≤ cl.length ∧ Ext w1 w' ∧ ∀ i, i < k → cl.getD i 0 ≤ topK cl i) (fun k => cl.length - k) 0 rfl ⟨Nat.zero_le _, Ext.refl _, fun i hi => by omega⟩ ?_
  rintro k w2 Kn ⟨hk, x2, hall⟩ hKn
  have hs2 := hs1.ext x2
  have htk := topK_le cl k
  intro _
  simp only [gx]
  refine iLenN hs2 ?_
  refine iLt (iCndP (fun h3 => ?_) (fun h3 => ?_))
  · have hk1 : k < cl.length := by omega
    refine iIaNN hs2 hk1 fun p hp => ?_
    refine iLd hp ?_
    refine iRet (ok_spec_l01In _ _ _ w2) fun w3 x3 => ?_
    refine iNot ?_
    by_cases hle : cl.getD k 0 ≤ topK cl k
    · rw [decide_eq_true (show (0 : Int) ≤ ((cl.getD k 0 : Nat) : Int) ∧ ((cl.getD k 0 : Nat) : Int) ≤ ((topK cl k : Nat) : Int) by omega)]
      refine iCndF rfl ?_
      refine iIaNN (hs2.ext x3) hk1 fun p hp => ?_
      refine iLd hp ?_
      have hall' : ∀ i, i < k + 1 → cl.getD i 0 ≤ topK cl i := fun i hi => by
        by_cases e : i = k
        · subst e; exact hle
        · exact hall i (by omega)
      have hstep : topK cl (k + 1) = if cl.getD k 0 = topK cl k then topK cl k + 1 else topK cl k := rfl
      refine iEq (iCndP (fun h4 => ?_) (fun h4 => ?_))
      · refine iAdd (by omega) ?_
        refine iAdd (by omega) ?_
        rw [if_pos (show cl.getD k 0 = topK cl k by omega)] at hstep
        have := hKn (k + 1) _ ⟨by omega, x2.trans x3, hall'⟩ (by omega)
        rw [hstep] at this
        exact this
      · refine iAdd (by omega) ?_
        rw [if_neg (show ¬ cl.getD k 0 = topK cl k by omega)] at hstep
        have := hKn (k + 1) _ ⟨by omega, x2.trans x3, hall'⟩ (by omega)
        rw [hstep] at this
        exact this
    · rw [decide_eq_false (show ¬ ((0 : Int) ≤ ((cl.getD k 0 : Nat) : Int) ∧ ((cl.getD k 0 : Nat) : Int) ≤ ((topK cl k : Nat) : Int)) by omega)]
      refine iCndT rfl ⟨?_, (x1.trans x2).trans x3⟩
      congr 1
      symm
      rw [← Bool.not_eq_true, List.all_eq_true]
      exact fun h => hle (of_decide_eq_true (h k (List.mem_range.2 hk1)))
  · refine ⟨?_, x1.trans x2⟩
    congr 1
    symm
    rw [List.all_eq_true]
    exact fun i hi => decide_eq_true (hall i (by have := List.mem_range.1 hi; omega))
theorem ok_spec_l08Congruence {f : Fr} (hf : f.ok) {v0 v : Value} {w : World} {cl : List Nat} (h0 : SlN w v0 f.a) (hs : SlN w v cl) (hl : cl.length ≤ 60) (hy : ∀ y ∈ cl, y < 60) : Ret Tryz.prog f_spec_l08Congruence #[.agg #[.int .i64 (f.n : Int), v0], v] w (.bool (congBV f cl)) := by
  apply c_spec_l08Congruence; unfold S_spec_l08Congruence
  have hf8 := hf.1
  refine iNew fun b w1 hb x1 hB => ?_
  have hB : Blk _ w1 b [.int .i64 (f.n : Int), v0] := hB
  refine iLdA hB rfl ?_
  refine iRet (ok_spec_l08Ordered (hs.ext x1) (by omega)) fun w2 x2 => ?_
  unfold congBV
  refine iNot ?_
  cases ho : decide (cl.length = f.n) && (List.range cl.length).all fun k => decide (cl.getD k 0 ≤ topK cl k) with
  | false => exact iCndT rfl ⟨rfl, x1.trans x2⟩
  | true =>
    rw [Bool.true_and]
    rw [Bool.and_eq_true, decide_eq_true_eq] at ho
    have hln := ho.1
    refine iCndF rfl ?_
    have hB2 := hB.ext x2
    have hX2 := x1.trans x2
    have h02 := h0.ext hX2
    have hs2 := hs.ext hX2
    refine iLp (fun k : Nat => [.int .i64 (k : Int)]) (fun k w' => k ≤ cl.length ∧ Ext w2 w' ∧ ∀ x, x < k → (List.range x).all (fun y => !(decide (cl.getD x 0 = cl.getD y 0) && decide (¬ img cl (f.a.getD x 0) = img cl (f.a.getD y 0)))) = true) (fun k => cl.length - k) 0 rfl ⟨Nat.zero_le _, Ext.refl _, fun i hi => by omega⟩ ?_
    rintro k w3 Kn ⟨hk, x3, hall⟩ hKn
    have hs3 := hs2.ext x3
    intro _
    simp only [gx]
    refine iLenN hs3 ?_
    refine iLt (iCndP (fun h3 => ?_) (fun h3 => ?_))
    rotate_left
    · refine ⟨?_, hX2.trans x3⟩
      congr 1
      symm
      rw [List.all_eq_true]
      exact fun i hi => hall i (by have := List.mem_range.1 hi; omega)
    have hk1 : k < cl.length := by omega
    refine iLp (fun j : Nat => [.int .i64 (j : Int)]) (fun j w' => j ≤ k ∧ Ext w2 w' ∧ ∀ y, y < j → (!(decide (cl.getD k 0 = cl.getD y 0) && decide (¬ img cl (f.a.getD k 0) = img cl (f.a.getD y 0)))) = true) (fun j => k - j) 0 rfl ⟨Nat.zero_le _, x3, fun i hi => by omega⟩ ?_
    rintro j w4 Kn4 ⟨hj, x4, hal4⟩ hKn4
    have hs4 := hs2.ext x4
    have h04 := h02.ext x4
    have hB4 := hB2.ext x4
    intro _
    simp only [gx]
    refine iLt (iCndP (fun h5 => ?_) (fun h5 => ?_))
    rotate_left
    · refine iAdd (by omega) ?_
      refine hKn (k + 1) _ ⟨by omega, x4, fun x hx => ?_⟩ (by omega)
      by_cases e : x = k
      · subst e
        rw [List.all_eq_true]
        exact fun y hy => hal4 y (by have := List.mem_range.1 hy; omega)
      · exact hall x (by omega)
    have hj1 : j < k := by omega
    refine iJnB (decide (cl.getD k 0 = cl.getD j 0) && decide (¬ img cl (f.a.getD k 0) = img cl (f.a.getD j 0))) w4 (fun J hJ => ?_) (fun w5 x5 => ?_)
    · refine iIaNN hs4 hk1 fun p hp => ?_
      refine iLd hp ?_
      refine iIaNN hs4 (by omega) fun p hp => ?_
      refine iLd hp ?_
      refine iEq ?_
      by_cases he : cl.getD k 0 = cl.getD j 0
      · rw [decide_eq_true he, Bool.true_and] at hJ
        rw [decide_eq_true (show ((cl.getD k 0 : Nat) : Int) = ((cl.getD j 0 : Nat) : Int) by omega)]
        refine iCndT rfl ?_
        have ak := hf.lt (show k < f.n by omega)
        have aj := hf.lt (show j < f.n by omega)
        have p8 : 2 ^ f.n ≤ 2 ^ 8 := Nat.pow_le_pow_right (by omega) hf8
        refine iFa (iLdB hB4 (v := v0) rfl ?_)
        refine iIaNN h04 (by rw [hf.2.1]; omega) fun p hp => ?_
        refine iLd hp ?_
        refine iRetQ (fun w' x => ok_spec_l08Image (hs4.ext x) (fun y h => by have := hy y h; omega) (by omega) _ (by omega)) ?_
        refine iFa (iLdB hB4 (v := v0) rfl ?_)
        refine iIaNN h04 (by rw [hf.2.1]; omega) fun p hp => ?_
        refine iLd hp ?_
        refine iRetQ (fun w' x => ok_spec_l08Image (hs4.ext x) (fun y h => by have := hy y h; omega) (by omega) _ (by omega)) ?_
        refine iNe ?_
        intro w5 x5
        have := hJ w5 x5
        rwa [show decide (¬ img cl (f.a.getD k 0) = img cl (f.a.getD j 0)) = decide (¬ ((img cl (f.a.getD k 0) : Nat) : Int) = ((img cl (f.a.getD j 0) : Nat) : Int)) from decide_eq_decide.2 (by omega)] at this
      · rw [decide_eq_false he, Bool.false_and] at hJ
        rw [decide_eq_false (show ¬ ((cl.getD k 0 : Nat) : Int) = ((cl.getD j 0 : Nat) : Int) by omega)]
        refine iCndF rfl ?_
        intro w5 x5
        exact hJ w5 x5
    intro _
    simp only [gx]
    cases hT : decide (cl.getD k 0 = cl.getD j 0) && decide (¬ img cl (f.a.getD k 0) = img cl (f.a.getD j 0)) with
    | true =>
      refine iCndT rfl ⟨?_, (hX2.trans x4).trans x5⟩
      congr 1
      symm
      rw [← Bool.not_eq_true, List.all_eq_true]
      intro h
      have := h k (List.mem_range.2 hk1)
      rw [List.all_eq_true] at this
      have := this j (List.mem_range.2 hj1)
      rw [hT] at this; cases this
    | false =>
      refine iCndF rfl ?_
      refine iAdd (by omega) ?_
      refine hKn4 (j + 1) _ ⟨by omega, x4.trans x5, fun y hy => ?_⟩ (by omega)
      by_cases e : y = j
      · subst e; rw [hT]; rfl
      · exact hal4 y (by omega)
end Go.Proofs.YtaipnnkpplinoaaGreatDoor

namespace Go.Proofs.YtaipnnkpplinoaaGreatDoor
open Go.Vc
theorem partsLV_growL : ∀ (d : Nat) (cl : List Nat) (t : Nat), partsLV d cl t = growL d t cl
  | 0, cl, t => rfl
  | d + 1, cl, t => by
    show (List.range (t + 1)).flatMap _ = (List.range (t + 1)).flatMap _
    rw [List.flatMap_def, List.flatMap_def]
    congr 1
    refine List.map_congr_left fun u hu => ?_
    have hu := List.mem_range.1 hu
    rw [partsLV_growL d]
    congr 1
    split <;> omega
theorem topK_topG (c : List Nat) : ∀ k, k ≤ c.length → topK c k = topG 0 (c.take k)
  | 0, _ => rfl
  | k + 1, h => by
    rw [topG_take (by omega)]
    unfold topK
    rw [topK_topG c k (by omega)]
theorem congBV_iff {f : Fr} (hf : f.ok) {c : List Nat} (hl : c.length = f.n) (hg : grB 0 c = true) : congBV f c = corB f c := by
  rw [Bool.eq_iff_iff, corB_iff hf]
  unfold congBV
  rw [Bool.and_eq_true, Bool.and_eq_true, decide_eq_true_eq, List.all_eq_true, List.all_eq_true]
  constructor
  · rintro ⟨_, h⟩ x y hx hy he
    have key : ∀ {x y}, x < c.length → y < x → c.getD x 0 = c.getD y 0 → img c (f.a.getD x 0) = img c (f.a.getD y 0) := fun {x y} hx hy he => by
      have := List.all_eq_true.1 (h x (List.mem_range.2 hx)) y (List.mem_range.2 hy)
      rw [decide_eq_true he, Bool.true_and, Bool.not_eq_true', decide_eq_false_iff_not] at this
      exact Classical.not_not.1 this
    rcases Nat.lt_trichotomy x y with h1 | h1 | h1
    · exact (key hy h1 he.symm).symm
    · rw [h1]
    · exact key hx h1 he
  · intro h
    refine ⟨⟨hl, fun k hk => ?_⟩, fun x hx => List.all_eq_true.2 fun y hy => ?_⟩
    · have hk := List.mem_range.1 hk
      rw [decide_eq_true_eq, topK_topG c k (by omega)]
      exact grB_at hg hk
    · have hx := List.mem_range.1 hx
      have hy := List.mem_range.1 hy
      by_cases he : c.getD x 0 = c.getD y 0
      · rw [decide_eq_true he, Bool.true_and, Bool.not_eq_true', decide_eq_false_iff_not]
        exact fun hn => hn (h x y hx (by omega) he)
      · rw [decide_eq_false he]; rfl
theorem congLV_eq {f : Fr} (hf : f.ok) : congLV f = congL f := by
  unfold congLV congL
  rw [partsLV_growL]
  refine List.filter_congr fun c hc => ?_
  obtain ⟨h1, h2⟩ := mem_clsL.1 hc
  exact congBV_iff hf h1 h2
theorem cntK_topG {c : List Nat} (hg : grB 0 c = true) : ∀ k, k ≤ c.length → cntK c k = topG 0 (c.take k)
  | 0, _ => rfl
  | k + 1, h => by
    rw [topG_take (by omega)]
    unfold cntK
    rw [cntK_topG hg k (by omega)]
    have := grB_at hg (k := k) (by omega)
    split <;> omega
end Go.Proofs.YtaipnnkpplinoaaGreatDoor

namespace Go.Vc
theorem partsLV_len : ∀ (d : Nat) (cl : List Nat) (top : Nat), top + d ≤ 6 → (partsLV d cl top).length ≤ 6 ^ d
  | 0, _, _, _ => by simp [partsLV]
  | d + 1, cl, top, h => by
    have key : ∀ k, k ≤ top + 1 → ((List.range k).flatMap fun k => partsLV d (cl ++ [k]) (max top (k + 1))).length ≤ k * 6 ^ d := by
      intro k
      induction k with
      | zero => intro _; simp
      | succ k ih =>
        intro hk
        have := partsLV_len d (cl ++ [k]) (max top (k + 1)) (by omega)
        have := ih (by omega)
        rw [List.range_succ, List.flatMap_append, List.length_append, Nat.succ_mul]
        simp only [List.flatMap_cons, List.flatMap_nil, List.append_nil]
        omega
    have := key (top + 1) (Nat.le_refl _)
    show ((List.range (top + 1)).flatMap _).length ≤ _
    rw [Nat.pow_succ, Nat.mul_comm]
    exact Nat.le_trans this (Nat.mul_le_mul_right _ (by omega))
theorem iMaxV {a b : Nat} {k : IntKind} {K : Value → Prop} (h : K (.int k ((max a b : Nat) : Int))) : xMax (.int k (a : Int)) (.int k (b : Int)) K := by
  refine ⟨_, _, _, _, rfl, rfl, ?_⟩
  have e : (if (b : Int) > (a : Int) then (b : Int) else (a : Int)) = ((max a b : Nat) : Int) := by split <;> omega
  rw [e]; exact h
def partsK (d : Nat) (cl : List Nat) (top k : Nat) : List (List Nat) := (List.range k).flatMap fun k => partsLV d (cl ++ [k]) (max top (k + 1))
theorem partsK_succ (d : Nat) (cl : List Nat) (top k : Nat) : partsK d cl top (k + 1) = partsK d cl top k ++ partsLV d (cl ++ [k]) (max top (k + 1)) := by
  unfold partsK
  rw [List.range_succ, List.flatMap_append]
  simp
theorem partsK_len2 {d : Nat} {cl : List Nat} {top : Nat} (h : top + d + 1 ≤ 6) : ∀ k, k ≤ top + 1 → (partsK d cl top k).length ≤ k * 6 ^ d
  | 0, _ => by simp [partsK]
  | k + 1, hk => by
    have := partsLV_len d (cl ++ [k]) (max top (k + 1)) (by omega)
    have := partsK_len2 h (cl := cl) k (by omega)
    rw [partsK_succ, List.length_append, Nat.succ_mul]
    omega
theorem partsK_len {d : Nat} {cl : List Nat} {top k : Nat} (h : top + d + 1 ≤ 6) (hk : k ≤ top + 1) : (partsK d cl top k).length ≤ 6 * 6 ^ d := by
  have key := partsK_len2 (cl := cl) h
  exact Nat.le_trans (key k hk) (Nat.mul_le_mul_right _ (by omega))
end Go.Vc
namespace Go.Proofs.YtaipnnkpplinoaaGreatDoor
open Go.Vc
def RdO (lo : Nat) (w : World) (v : Value) (L : List (List Nat)) : Prop := ∃ P : List VL, Ow lo t_Si64 w v (P.map Prod.fst) ∧ (∀ p ∈ P, Ow lo t_i64 w p.1 (ints p.2)) ∧ P.map Prod.snd = L.map nats
theorem RdO.ext {lo : Nat} {w w' : World} {v : Value} {L : List (List Nat)} (h : RdO lo w v L) (x : Ext w w') : RdO lo w' v L := let ⟨P, a, b, c⟩ := h; ⟨P, a.ext x, fun p hp => (b p hp).ext x, c⟩
theorem RdO.at {lo : Nat} {w : World} {v : Value} {L : List (List Nat)} (h : RdO lo w v L) {k : Nat} (hk : k < L.length) {ki : IntKind} {K : Value → Prop} (hK : ∀ u, Ow lo t_i64 w u (ints (nats L[k])) → K u) : xIa 1 v (.int ki (k : Int)) fun p => xLd w p K := by
  obtain ⟨P, a, b, c⟩ := h
  have hl : P.length = L.length := by have := congrArg List.length c; simpa using this
  refine iIaV a.sl (by rw [List.length_map]; omega) fun p hp => ?_
  refine iLd hp ?_
  rw [List.getElem_map]
  have e : (P.map Prod.snd)[k]'(by rw [List.length_map]; omega) = (L.map nats)[k]'(by rw [List.length_map]; exact hk) := by congr 1
  rw [List.getElem_map, List.getElem_map] at e
  have := b _ (List.getElem_mem (show k < P.length by omega))
  rw [e] at this
  exact hK _ this
theorem RdO.app {lo : Nat} {w : World} {v u : Value} {L : List (List Nat)} {r : List Nat} {K : Value → World → Prop} (h : RdO lo w v L) (hu : Ow lo t_i64 w u (ints (nats r))) (hn : L.length ≤ 100000) (hlo : lo ≤ w.heap.size)
    (hK : ∀ v' w', RdO lo w' v' (L ++ [r]) → Ch (fun c => v.ownBlock = some c) w w' → (∀ c, v'.ownBlock = some c → v.ownBlock = some c ∨ w.heap.size ≤ c) → K v' w') :
    xBs t_Si64 (Value.cells (.slice none 0 0)) 1 1 [(0, u)] w fun y w1 => xOp Tryz.prog (Builtin.append_ #[t_SSi64, t_SSi64] t_SSi64 #[v, y]) w1 K := by
  obtain ⟨P, a, b, c⟩ := h
  have hl : P.length = L.length := by have := congrArg List.length c; simpa using this
  refine iApp1A u_SSi64 i_SSi64 rfl a hu.cell (by rw [List.length_map]; omega) (by rw [List.length_map]; omega) hlo fun v' w' ho hg hat => ?_
  have hch := grown_ch (S := fun c => v.ownBlock = some c) hg fun c hc => hc
  have keep : ∀ {u : Value} {xs : List Value}, Ow lo t_i64 w u xs → Ow lo t_i64 w' u xs := fun ho => ho.ch hch fun c hc hc' => ho.ne_ow a (by decide) hc hc'
  refine hK v' w' ⟨P ++ [(u, nats r)], by rw [List.map_append]; exact ho, fun p hp => ?_, by rw [List.map_append, List.map_append, c]; rfl⟩ hch fun c hc => ?_
  · rcases List.mem_append.1 hp with hp | hp
    · exact keep (b p hp)
    · simp at hp; subst hp; exact keep hu
  · rcases hat with e | ⟨d, e, hd⟩
    · exact .inl (by rw [← e]; exact hc)
    · rw [hc] at e
      injection e with e
      subst e
      exact .inr hd
theorem ok_spec_l08Parts : ∀ (d : Nat) {lo : Nat} {w : World} {v1 v3 : Value} {cl : List Nat} {top : Nat} {L : List (List Nat)}, top + d ≤ 6 → cl.length + d ≤ 6 → Ow lo t_i64 w v1 (ints (nats cl)) → RdO lo w v3 L → L.length + 6 ^ d ≤ 50000 → lo ≤ w.heap.size →
    Cal Tryz.prog f_spec_l08Parts #[.int .i64 ((cl.length + d : Nat) : Int), v1, .int .i64 (top : Int), v3] w fun r w' => RdO lo w' r (L ++ partsLV d cl top) ∧ Ch (fun c => v3.ownBlock = some c) w w' ∧ ∀ c, r.ownBlock = some c → v3.ownBlock = some c ∨ w.heap.size ≤ c := by
  intro d
  induction d with
  | zero =>
    intro lo w v1 v3 cl top L ht hc h1 h3 hL hlo
    apply c_spec_l08Parts; unfold S_spec_l08Parts
    refine iLenN (l := cl) h1.sl ?_
    refine iEq (iCndP (fun _ => ?_) (fun h => absurd (by omega) h))
    refine RdO.app h3 h1 (by omega) hlo fun v' w' hr hch hat => ?_
    exact ⟨hr, hch, hat⟩
  | succ d ih =>
    intro lo w v1 v3 cl top L ht hc h1 h3 hL hlo
    apply c_spec_l08Parts; unfold S_spec_l08Parts
    have hp6 : 6 ^ (d + 1) = 6 * 6 ^ d := by rw [Nat.pow_succ, Nat.mul_comm]
    refine iLenN (l := cl) h1.sl ?_
    refine iEq (iCndP (fun h => absurd h (by omega)) (fun _ => ?_))
    refine iLp (fun s : Nat × Value => [s.2, .int .i64 (s.1 : Int)]) (fun s w' => s.1 ≤ top + 1 ∧ RdO lo w' s.2 (L ++ partsK d cl top s.1) ∧ Ch (fun c => v3.ownBlock = some c) w w' ∧ (∀ c, s.2.ownBlock = some c → v3.ownBlock = some c ∨ w.heap.size ≤ c) ∧ Ow lo t_i64 w' v1 (ints (nats cl))) (fun s => top + 1 - s.1) (0, v3) rfl
      ⟨Nat.zero_le _, by simpa [partsK] using h3, (Ext.refl _).ch, fun c hc => .inl hc, h1⟩ ?_
    rintro ⟨k, u⟩ w2 Kn ⟨hk, hr, hch, hat, hv1⟩ hKn
    have hk : k ≤ top + 1 := hk
    have hr : RdO lo w2 u (L ++ partsK d cl top k) := hr
    have hat : ∀ c, u.ownBlock = some c → v3.ownBlock = some c ∨ w.heap.size ≤ c := hat
    have hlo2 : lo ≤ w2.heap.size := Nat.le_trans hlo hch.size
    intro _
    simp only [gx]
    refine iLe (iCndP (fun h3 => ?_) (fun h3 => ?_))
    · have hk1 : k < top + 1 := by omega
      refine iCall ((ok_spec_l01Own (l := nats cl) hv1.sl (by rw [nats_length]; omega)).mono ?_)
      rintro u5 w5 ⟨x5, ho5⟩
      refine iApp1A u_Si64 i_Si64 rfl ho5 rfl (by rw [ints_length, nats_length]; omega) (by rw [ints_length, nats_length]; omega) x5.size fun u6 w6 ho6 hg6 hat6 => ?_
      rw [ints_snoc] at ho6
      have x6 : Ext w2 w6 := x5.grown hg6 fun c hc => (ho5.blk c hc).1
      have hr6 := hr.ext x6
      have hv6 := hv1.ext x6
      have hlo6 := Nat.le_trans hlo2 x6.size
      refine iAdd (by omega) ?_
      rw [show (k : Int) + 1 = ((k + 1 : Nat) : Int) by omega]
      refine iMaxV ?_
      have hlen := partsK_len (d := d) (cl := cl) (top := top) (k := k) (by omega) (by omega)
      have hsub : (partsK d cl top k).length + 6 ^ d ≤ 6 * 6 ^ d := by
        have h2 := partsK_len2 (d := d) (cl := cl) (top := top) (by omega) k (by omega)
        have := Nat.mul_le_mul_right (6 ^ d) (show k + 1 ≤ 6 by omega)
        rw [Nat.add_mul, Nat.one_mul] at this
        omega
      have hrec := ih (lo := lo) (w := w6) (v1 := u6) (v3 := u) (cl := cl ++ [k]) (top := max top (k + 1)) (L := L ++ partsK d cl top k) (by omega) (by rw [List.length_append]; simp; omega) (ho6.mono hlo2) hr6 (by rw [List.length_append]; omega) hlo6
      rw [show (cl ++ [k]).length + d = cl.length + (d + 1) by rw [List.length_append]; simp; omega, List.append_assoc, ← partsK_succ] at hrec
      refine iCall (hrec.mono ?_)
      rintro r7 w7 ⟨hr7, hch7, hat7⟩
      have hv7 : Ow lo t_i64 w7 v1 (ints (nats cl)) := hv6.ch hch7 fun c hc hc' => by
        obtain ⟨P, a, _, _⟩ := hr6
        exact hv6.ne_ow a (by decide) hc hc'
      refine iAdd (by omega) ?_
      refine hKn (k + 1, r7) _ ⟨by show k + 1 ≤ top + 1; omega, hr7, (hch.trans (x6.ch (S := fun _ => False)) fun _ e => e.elim).trans hch7 fun c hc => (hat c hc).imp id id, fun c hc => ?_, hv7⟩ (by show top + 1 - (k + 1) < top + 1 - k; omega)
      rcases hat7 c hc with h | h
      · exact hat c h
      · exact .inr (by have := hch.size; have := x6.size; omega)
    · obtain rfl : k = top + 1 := by omega
      exact ⟨hr, hch, hat⟩
theorem ok_spec_l08Congruences {f : Fr} (hf : f.ok) (hf5 : f.n ≤ 6) {v : Value} {w : World} (hs : SlN w v f.a) : Cal Tryz.prog f_spec_l08Congruences #[.agg #[.int .i64 (f.n : Int), v]] w fun r w' => Ext w w' ∧ RdO w.heap.size w' r (congLV f) := by
  apply c_spec_l08Congruences; unfold S_spec_l08Congruences
  refine iNew fun b w1 hb x1 hB => ?_
  have hB : Blk _ w1 b [.int .i64 (f.n : Int), v] := hB
  refine iFa (iLdB hB (v := .int .i64 (f.n : Int)) rfl ?_)
  refine iBs0 fun u0 w2 _ x2 ho2 => ?_
  refine iBs0 fun u1 w3 _ x3 ho3 => ?_
  have p6 : 6 ^ f.n ≤ 6 ^ 6 := Nat.pow_le_pow_right (by omega) hf5
  have hrec := ok_spec_l08Parts f.n (lo := w.heap.size) (w := w3) (v1 := u0) (v3 := u1) (cl := []) (top := 0) (L := []) (by omega) (by simp; omega) ((ho2.ext x3).mono x1.size) ⟨[], ho3.mono (x1.trans x2).size, fun p hp => (by cases hp), rfl⟩ (by simp; omega) ((x1.trans x2).trans x3).size
  rw [List.length_nil, Nat.zero_add, List.nil_append] at hrec
  refine iCall (hrec.mono ?_)
  rintro r4 w4 ⟨hr4, hch4, _⟩
  have hX4 : Ext w w4 := ((x1.trans x2).trans x3).thenCh hch4 fun c hc => Nat.le_trans (x1.trans x2).size (ho3.blk c hc).1
  have hB4 := ((hB.ext x2).ext x3).ch hch4 fun hc => by have := (ho3.blk b hc).1; have := x2.size; have := hB.lt; omega
  have hlen := partsLV_len f.n [] 0 (by omega)
  have hmem := partsL_mem f.n [] 0 (fun y hy => by cases hy)
  unfold congLV
  generalize partsLV f.n [] 0 = A at *
  refine iBs0 fun u5 w5 _ x5 ho5 => ?_
  have hr4l : ∀ c, r4.ownBlock = some c → c < w4.heap.size := fun c hc => by obtain ⟨P, a, _, _⟩ := hr4; exact (a.blk c hc).2
  have hw4 := hX4.size
  refine iLp (fun s : Nat × Value => [s.2, .int .i64 (s.1 : Int)]) (fun s w' => s.1 ≤ A.length ∧ Ext w w' ∧ Blk 26 w' b [.int .i64 (f.n : Int), v] ∧ RdO w.heap.size w' r4 A ∧ RdO w.heap.size w' s.2 ((A.take s.1).filter (congBV f)) ∧ (∀ c, s.2.ownBlock = some c → w4.heap.size ≤ c) ∧ w4.heap.size ≤ w'.heap.size) (fun s => A.length - s.1) (0, u5) rfl
    ⟨Nat.zero_le _, hX4.trans x5, hB4.ext x5, hr4.ext x5, ⟨[], ho5.mono hw4, fun p hp => (by cases hp), by simp⟩, fun c hc => (ho5.blk c hc).1, x5.size⟩ ?_
  rintro ⟨k, u⟩ w6 Kn ⟨hk, hX6, hB6, hA6, hu6, hul, h46⟩ hKn
  have hk : k ≤ A.length := hk
  have hX6 : Ext w w6 := hX6
  have hu6 : RdO w.heap.size w6 u ((A.take k).filter (congBV f)) := hu6
  have hul : ∀ c, u.ownBlock = some c → w4.heap.size ≤ c := hul
  intro _
  simp only [gx]
  have hAl : ∃ vs : List Value, Sl w6 r4 vs ∧ vs.length = A.length := by
    obtain ⟨P, a, _, c⟩ := hA6
    have := congrArg List.length c
    exact ⟨_, a.sl, by simpa using this⟩
  obtain ⟨vs, hvs, hvl⟩ := hAl
  refine iLenS hvs ?_
  rw [hvl]
  refine iLt (iCndP (fun h7 => ?_) (fun h7 => ?_))
  · have hk1 : k < A.length := by omega
    obtain ⟨hml, hmy⟩ := hmem A[k] (List.getElem_mem hk1)
    refine iLdA hB6 rfl ?_
    refine hA6.at hk1 fun c0 hc0 => ?_
    refine iRetQ (fun w' x => ok_spec_l08Congruence hf (hs.ext (hX6.trans x)) (cl := A[k]) (SlI.ext hc0.sl x) (by rw [hml]; simp; omega) (fun y hy => by have := hmy y hy; omega)) ?_
    intro w7 x7
    have htk : (A.take (k + 1)).filter (congBV f) = (A.take k).filter (congBV f) ++ if congBV f A[k] then [A[k]] else [] := by
      rw [List.take_succ_eq_append_getElem hk1, List.filter_append, List.filter_cons, List.filter_nil]
    have hA7 := hA6.ext x7
    have hu7 := hu6.ext x7
    cases hcg : congBV f A[k] with
    | true =>
      rw [hcg, if_pos rfl] at htk
      refine iCndT rfl ?_
      refine hA7.at hk1 fun c1 hc1 => ?_
      have hfl : ((A.take k).filter (congBV f)).length ≤ 46656 := Nat.le_trans (List.length_filter_le _ _) (by rw [List.length_take]; omega)
      refine RdO.app hu7 hc1 (by omega) (hX6.trans x7).size fun u' w8 hu8 hch8 hat8 => ?_
      have hA8 : RdO w.heap.size w8 r4 A := by
        obtain ⟨Q, qa, _, _⟩ := hu7
        obtain ⟨P, a, b, c⟩ := hA7
        exact ⟨P, a.ch hch8 fun c hc hc' => by have := hr4l c hc; have := hul c hc'; omega, fun p hp => (b p hp).ch hch8 fun c hc hc' => (b p hp).ne_ow qa (by decide) hc hc', c⟩
      refine iAdd (by omega) ?_
      refine hKn (k + 1, u') _ ⟨by show k + 1 ≤ A.length; omega, (hX6.trans x7).thenCh hch8 fun c hc => by have := hul c hc; omega, (hB6.ext x7).ch hch8 fun hc => ?_, hA8, by show RdO _ _ u' ((A.take (k + 1)).filter _); rw [htk]; exact hu8, fun c hc => ?_, by have := x7.size; have := hch8.size; omega⟩ (by show A.length - (k + 1) < A.length - k; omega)
      · have := hul b hc; have := hB4.lt; omega
      · rcases hat8 c hc with h | h
        · exact hul c h
        · have := x7.size; omega
    | false =>
      rw [hcg] at htk
      refine iCndF rfl ?_
      refine iAdd (by omega) ?_
      refine hKn (k + 1, u) _ ⟨by show k + 1 ≤ A.length; omega, hX6.trans x7, hB6.ext x7, hA7, ?_, hul, by have := x7.size; omega⟩ (by show A.length - (k + 1) < A.length - k; omega)
      show RdO _ _ u ((A.take (k + 1)).filter _)
      rw [htk]
      simpa using hu7
  · obtain rfl : k = A.length := by omega
    have hu6 : RdO w.heap.size w6 u ((A.take A.length).filter (congBV f)) := hu6
    rw [List.take_length] at hu6
    exact ⟨hX6, hu6⟩
end Go.Proofs.YtaipnnkpplinoaaGreatDoor

namespace Go.Vc
theorem iFdM {off : Nat} {cs : Array Value} {v : Value} {K : Value → Prop} (h : cs[off]? = some v) (k : K v) : xFd off (.agg cs) K := ⟨cs, v, rfl, h, k⟩
def qV (f : Fr) (c : List Nat) : Nat → List Nat
  | 0 => List.replicate (cntK c c.length) 0
  | k + 1 => (qV f c k).set (c.getD k 0) (img c (f.a.getD k 0))
theorem qV_len (f : Fr) (c : List Nat) : ∀ k, (qV f c k).length = cntK c c.length
  | 0 => List.length_replicate
  | k + 1 => by rw [qV, List.length_set]; exact qV_len f c k
end Go.Vc
namespace Go.Proofs.YtaipnnkpplinoaaGreatDoor
open Go.Vc
theorem qV_at {f : Fr} (hf : f.ok) {c : List Nat} (hc : corB f c = true) : ∀ k, k ≤ c.length → ∀ x, x < k → (qV f c k).getD (c.getD x 0) 0 = img c (f.a.getD x 0) := by
  intro k
  induction k with
  | zero => intro _ x hx; omega
  | succ k ih =>
    intro hk x hx
    have hlt : c.getD k 0 < (qV f c k).length := by rw [qV_len]; exact cntK_lt c c.length k (by omega)
    rw [qV, getD_setQ hlt]
    by_cases e : c.getD x 0 = c.getD k 0
    · rw [if_pos e]
      exact (corB_iff hf).1 hc k x (by omega) (by omega) e.symm
    · rw [if_neg e]
      exact ih (by omega) x (by
        rcases Nat.lt_or_ge x k with h | h
        · exact h
        · exact absurd (by rw [show x = k by omega]) e)
theorem qV_quo {f : Fr} (hf : f.ok) {c : List Nat} (hl : c.length = f.n) (hg : grB 0 c = true) (hc : corB f c = true) : qV f c c.length = (quoF f c).a := by
  have hcn : cntK c c.length = topG 0 c := by rw [cntK_topG hg _ (Nat.le_refl _), List.take_length]
  refine list_ext (by rw [qV_len, hcn]) (quoF_a hl hg) fun i hi => ?_
  obtain ⟨x, hx, rfl⟩ := grB_has hi
  rw [qV_at hf hc _ (Nat.le_refl _) x hx, ← quo_mor hf hl hg hc (by omega)]
theorem least_okM {q : Fr} (hq : q.ok) : (⟨q.n, least q.a⟩ : Fr).ok := by
  obtain ⟨⟨o, ho, e⟩, _⟩ := least_spec hq
  refine ⟨hq.1, by show (least q.a).length = q.n; rw [e, rnb_len, ho.1], fun x hx => ?_⟩
  have hx : x ∈ least q.a := hx
  rw [e] at hx
  have := rnb_lt x hx
  rwa [ho.1] at this
theorem RdO.len {lo : Nat} {w : World} {v : Value} {L : List (List Nat)} {K : Value → Prop} (h : RdO lo w v L) (hK : K (.int .i64 (L.length : Nat))) : xLenS v K := by
  obtain ⟨P, a, b, c⟩ := h
  have hl : P.length = L.length := by have := congrArg List.length c; simpa using this
  refine iLenS a.sl ?_
  rw [List.length_map, hl]; exact hK
def imK (f : Fr) (c : List Nat) : Int × List Int := (((quoF f c).n : Int), nats (least (quoF f c).a))
def imgsK (f : Fr) : List (Int × List Int) := (congL f).map (imK f)
theorem imK_len {f : Fr} (hf : f.ok) {c : List Nat} (h : c ∈ congL f) : ((least (quoF f c).a).length = (quoF f c).n) ∧ (quoF f c).ok ∧ (quoF f c).n ≤ f.n := by
  obtain ⟨h1, h2, h3⟩ := mem_congL.1 h
  have hq := quo_ok hf h1 h2 h3
  refine ⟨(least_okM hq).2.1, hq, ?_⟩
  have := (topG_le c 0).2
  show topG 0 c ≤ f.n
  omega
def morR (n : Int) (l : List Int) : List (Int × List Int) × Int :=
  if frameOk n l = true then (if n ≤ 6 then (if (setA ltP (imgsK (frOf n l))).length ≤ 200 then (setA ltP (imgsK (frOf n l)), 0) else ([], 3)) else ([], 3)) else ([], 1)
def FrsW (lo : Nat) (w : World) (v : Value) (K : List (Int × List Int)) : Prop := ∃ L, RowF lo t_impl_Frame w v L ∧ RowsF t_i64 w L ∧ L.map keyR = K
theorem FrsW.nil (lo : Nat) (w : World) : FrsW lo w (.slice none 0 0) [] := ⟨[], RowF.nil _ _ _, fun r hr => absurd hr (by simp), rfl⟩
theorem ok_impl_MorphicImages_1 {w : World} {x y : PR} (hx : SlI w x.2.1 x.2.2) (hy : SlI w y.2.1 y.2.2) : callV Tryz.prog (.func (.func f_impl_MorphicImages_1) #[] #[]) [valR x, valR y] w fun r w' => r = .bool (decide (keyR x = keyR y)) ∧ Ext w w' := by
  refine iCall (c_impl_MorphicImages_1 ?_)
  unfold S_impl_MorphicImages_1
  refine iNew fun b1 w1 hb1 x1 hB1 => ?_
  refine iNew fun b2 w2 hb2 x2 hB2 => ?_
  have hB1 : Blk _ w2 b1 [.int .i64 x.1, x.2.1] := hB1.ext x2
  have hB2 : Blk _ w2 b2 [.int .i64 y.1, y.2.1] := hB2
  have X2 := x1.trans x2
  refine iLdA hB1 rfl (iLdA hB2 rfl ?_)
  refine iRet (ok_impl_compareFrames (a := x) (b := y) (hx.ext X2) (hy.ext X2)) fun w3 x3 => ?_
  refine iEq ⟨?_, X2.trans x3⟩
  rw [cmpR_zero]
theorem ok_impl_MorphicImages {n : Int} {l : List Int} {v : Value} {w : World} (hs0 : SlI w v l) : Cal Tryz.prog f_impl_MorphicImages #[.agg #[.int .i64 n, v]] w fun r w' => Ext w w' ∧ ∃ u, r = .tuple #[u, .int .i64 (morR n l).2] ∧ FrsW w.heap.size w' u (morR n l).1 := by
  apply c_impl_MorphicImages; unfold S_impl_MorphicImages
  refine iNew fun b1 w1 hb1 x1 hB1 => ?_
  have hB1 : Blk _ w1 b1 [.int .i64 n, v] := hB1
  refine iLdA hB1 rfl ?_
  refine iRet (ok_impl_isFrame (hs0.ext x1) n) fun w2 x2 => iNot ?_
  have X2 := x1.trans x2
  unfold morR
  cases hfo : frameOk n l
  · refine iCndT rfl ?_
    rw [if_neg (by simp)]
    exact ⟨X2, _, rfl, FrsW.nil _ _⟩
  obtain ⟨hf, hn0, hl0⟩ := frameOk_fr hfo
  have h8 := hf.1
  rw [if_pos rfl]
  refine iCndF rfl (iFa (iLdB (hB1.ext x2) (i := 0) (v := .int .i64 n) rfl ?_))
  refine iLt (iCndP (fun h => ?_) (fun h => ?_))
  · rw [if_neg (by omega)]
    exact ⟨X2, _, rfl, FrsW.nil _ _⟩
  rw [if_pos (show n ≤ 6 by omega)]
  have h6 : (frOf n l).n ≤ 6 := by omega
  have hs : SlN w v (frOf n l).a := by
    unfold SlN; rw [← hl0]; exact hs0
  have hB12 := hB1.ext x2
  rw [hn0] at hB12
  generalize frOf n l = f at *
  refine iLdA hB12 rfl ?_
  refine iCall ((ok_impl_congruences hf h6 (hs.ext X2)).mono ?_)
  rintro vl w3 ⟨x3, P, hPL, hPA⟩
  have X3 := X2.trans x3
  have hB13 := hB12.ext x3
  have hPl : P.length ≤ 46656 := by
    have h2 := congrArg List.length hPA
    rw [List.length_map] at h2
    rw [h2]
    exact Nat.le_trans (congL_len h6) (Nat.le_trans (Nat.pow_le_pow_right (by omega) h6) (by decide))
  refine iLenS hPL.row.sl ?_
  rw [List.length_map]
  refine iLp (fun s : Value × Nat => [s.1, .int .i64 (s.2 : Int)]) (fun s w' => s.2 ≤ P.length ∧ Ext w3 w' ∧ ∃ L, RowF w3.heap.size t_impl_Frame w' s.1 L ∧ RowsF t_i64 w' L ∧ L.map keyR = (P.take s.2).map (fun p => imK f p.2)) (fun s => P.length - s.2) (.slice none 0 0, 0) rfl
    ⟨Nat.zero_le _, Ext.refl _, [], RowF.nil _ _ _, fun r hr => absurd hr (by simp), rfl⟩ ?_
  rintro ⟨vF, i⟩ w5 Kn ⟨hi, x5, L, hL, hR, hkey⟩ hKn
  have hi : i ≤ P.length := hi
  have x5 : Ext w3 w5 := x5
  have hL : RowF w3.heap.size t_impl_Frame w5 vF L := hL
  have hkey : L.map keyR = (P.take i).map (fun p => imK f p.2) := hkey
  have hLl : L.length = i := by
    have := congrArg List.length hkey
    rw [List.length_map, List.length_map, List.length_take] at this; omega
  intro _
  simp only [gx]
  refine iLt (iCndP (fun h1 => ?_) (fun h1 => ?_))
  · have hik : i < P.length := by omega
    have hPL5 := hPL.ext x5
    refine hPL5.at hik ?_
    have hrow := hPL5.each _ (List.getElem_mem hik)
    have hcg : P[i].2 ∈ congL f := by rw [← hPA]; exact List.mem_map.2 ⟨_, List.getElem_mem hik, rfl⟩
    have htk : (P.take (i + 1)).map (fun p => imK f p.2) = (P.take i).map (fun p => imK f p.2) ++ [imK f P[i].2] := by rw [List.take_succ_eq_append_getElem hik, List.map_append]; rfl
    generalize P[i].2 = c at *
    obtain ⟨hcl, hg, hcor⟩ := mem_congL.1 hcg
    obtain ⟨hlen0, hqo, hqn⟩ := imK_len hf hcg
    refine iFa (iLdB (hB13.ext x5) (i := 1) (v := v) rfl ?_)
    refine iCall ((ok_impl_quotientRelation hf (hs.ext (X3.trans x5)) hrow.sl hg hcl).mono ?_)
    rintro vq w6 ⟨x6, hoq⟩
    have hq : qR f c f.n = (quoF f c).a := by
      have := qR_quoL hf hg hcor
      rw [hcl] at this; exact this
    rw [hq] at hoq
    refine iCall ((ok_impl_leastRelation hoq.sl hoq.cell (n := (quoF f c).n) (by omega) hqo.2.1 hqo.2.2).mono ?_)
    rintro ve w7 ⟨x7, hoe⟩
    refine iCall ((ok_impl_frameOf hoe).mono ?_)
    rintro _ w8 ⟨x8, ve', rfl, hoe'⟩
    have x58 := (x6.trans x7).trans x8
    have hlen : (nats (least (quoF f c).a)).length = (quoF f c).n := by rw [nats_length]; exact hlen0
    rw [hlen]
    have hz5 := x5.size
    have hz8 := x58.size
    refine RowF.app (t := t_Simpl_Frame) u_Simpl_Frame i_Simpl_Frame (by decide) (nats (least (quoF f c).a)) (hL.ext x58) hoe'.cell (by omega) (by omega) fun v10 w10 hL10 hc10 => ?_
    refine iAdd (by omega) ?_
    refine hKn (v10, i + 1) _ ⟨hik, (x5.trans x58).thenCh hc10 fun b hb => (OwK.blk hL.row b hb).1, _, hL10, ?_, ?_⟩ (by show P.length - (i + 1) < P.length - i; omega)
    · intro r hr
      rcases List.mem_append.1 hr with hr | hr
      · exact (hR.ext x58).chR (hL.ext x58) (by decide) hc10 r hr
      · rw [List.mem_singleton] at hr
        subst hr
        have hoe0 : Ow 0 t_i64 w8 ve' (ints (nats (least (quoF f c).a))) := hoe'.mono (Nat.zero_le _)
        exact hoe0.ch hc10 fun b hb hv => OwK.ne_ow (hL.ext x58).row hoe0 (by decide) hv hb
    · show _ = (P.take (i + 1)).map (fun p => imK f p.2)
      rw [htk, List.map_append, hkey]; rfl
  · have hie : i = P.length := by omega
    have hfull : L.map keyR = imgsK f := by
      rw [hkey, hie, List.take_length]
      unfold imgsK
      rw [← hPA, List.map_map]; rfl
    refine iCall ((ok_slices_SortFunc_Simpl_Frame_impl_Frame hL hR (by omega)).mono ?_)
    rintro _ w22 ⟨L2, hL2, hc22, hperm, hsort⟩
    have hR2 : RowsF t_i64 w22 L2 := fun y hy => hR.chR hL (by decide) hc22 y (hperm.mem_iff.1 hy)
    have hl2 := hperm.length_eq
    refine iCall ((ok_slices_CompactFuncF hL2 hR2 (by omega) fun hx hy => ok_impl_MorphicImages_1 hx hy).mono ?_)
    rintro vM w23 ⟨hM, hc23, hown⟩
    have hsub : List.Sublist (ddR L2) L2 := by
      have := (ddA_spec (key := keyR) ordP hsort L2.length (Nat.le_refl _)).1
      rwa [List.take_length] at this
    have hRM : RowsF t_i64 w23 (ddR L2) := fun y hy => hR2.chR hL2 (by decide) hc23 y (hsub.subset hy)
    have hset : (ddR L2).map keyR = setA ltP (imgsK f) := ddA_set ordP hsort fun a => by rw [← hfull]; exact (hperm.map keyR).mem_iff
    have hMl : (ddR L2).length = (setA ltP (imgsK f)).length := by rw [← hset, List.length_map]
    have x23 : Ext w3 w23 := (x5.thenCh hc22 fun b hb => (OwK.blk hL.row b hb).1).thenCh hc23 fun b hb => (OwK.blk hL2.row b hb).1
    refine iLenK hM.row.sl ?_
    rw [hMl]
    refine iLt (iCndP (fun h2 => ?_) (fun h2 => ?_))
    · rw [if_neg (by omega)]
      exact ⟨X3.trans x23, _, rfl, FrsW.nil _ _⟩
    · rw [if_pos (by omega)]
      exact ⟨X3.trans x23, _, rfl, ddR L2, hM.mono X3.size, hRM, hset⟩
theorem ok_spec_l08Before {w : World} {a b : PR} (ha : SlI w a.2.1 a.2.2) (hb : SlI w b.2.1 b.2.2) : Ret Tryz.prog f_spec_l08Before #[valR a, valR b] w (.bool (ltP (keyR a) (keyR b))) := by
  apply c_spec_l08Before; unfold S_spec_l08Before
  refine iNew fun b2 w1 hb2 x1 hB2 => ?_
  refine iNew fun b3 w2 hb3 x2 hB3 => ?_
  have hB2 : Blk _ w2 b2 [.int .i64 a.1, a.2.1] := hB2.ext x2
  have hB3 : Blk _ w2 b3 [.int .i64 b.1, b.2.1] := hB3
  have hX := x1.trans x2
  ((with_reducible refine iFa ?_); refine iLdB (by assumption) (by first | rfl | simp) ?_; (with_reducible refine iFa ?_); refine iLdB (by assumption) (by first | rfl | simp) ?_; (with_reducible refine iNe ?_))
  refine iCndP (fun h => ?_) (fun h => ?_)
  · ((with_reducible refine iFa ?_); refine iLdB (by assumption) (by first | rfl | simp) ?_; (with_reducible refine iFa ?_); refine iLdB (by assumption) (by first | rfl | simp) ?_; (with_reducible refine iLt ?_))
    refine ⟨?_, hX⟩
    unfold ltP keyR
    have : ¬ a.1 = b.1 := h
    rw [decide_eq_false this, Bool.false_and, Bool.or_false]
  · ((with_reducible refine iFa ?_); refine iLdB (by assumption) (by first | rfl | simp) ?_; (with_reducible refine iFa ?_); refine iLdB (by assumption) (by first | rfl | simp) ?_)
    refine iRet (ok_spec_l01Less (ha.ext hX) (hb.ext hX)) fun w3 x3 => ?_
    refine ⟨?_, hX.trans x3⟩
    have h : a.1 = b.1 := by omega
    unfold ltP keyR
    rw [decide_eq_false (show ¬ a.1 < b.1 by omega), decide_eq_true h, Bool.false_or, Bool.true_and]
theorem ok_spec_l08QuotientM {f : Fr} (hf : f.ok) {v0 v : Value} {w : World} {c : List Nat} (h0 : SlN w v0 f.a) (hs : SlN w v c) (hl : c.length = f.n) (hg : grB 0 c = true) (hc : corB f c = true) :
    Cal Tryz.prog f_spec_l08Quotient #[.agg #[.int .i64 (f.n : Int), v0], v] w fun r w' => Ext w w' ∧ ∃ u, r = .agg #[.int .i64 ((quoF f c).n : Int), u] ∧ Ow w.heap.size t_i64 w' u (ints (nats (quoF f c).a)) := by
  have h8 := hf.1
  have htop := topG_le c 0
  have hy : ∀ y ∈ c, y < 8 := fun y hy => by have := grB_lt c 0 hg y hy; omega
  have hcn : cntK c c.length = topG 0 c := by rw [cntK_topG hg _ (Nat.le_refl _), List.take_length]
  apply c_spec_l08Quotient; unfold S_spec_l08Quotient
  refine iNew fun b w1 hb x1 hB => ?_
  have hB : Blk 26 w1 b [.int .i64 (f.n : Int), v0] := hB
  refine iNew fun b2 w2 hb2 x2 hB2 => ?_
  have hX2 := x1.trans x2
  have hB := hB.ext x2
  refine iLp (fun k : Nat => [.int .i64 ((cntK c k : Nat) : Int), .int .i64 (k : Int)]) (fun k w' => k ≤ c.length ∧ Ext w2 w') (fun k => c.length - k) 0 rfl ⟨Nat.zero_le _, Ext.refl _⟩ ?_
  rintro k w3 Kn ⟨hk, x3⟩ hKn
  have hs3 := hs.ext (hX2.trans x3)
  intro _
  simp only [gx]
  refine iLenN hs3 ?_
  refine iLt (iCndP (fun h3 => ?_) (fun h3 => ?_))
  · have hk1 : k < c.length := by omega
    have := getD_lt hy hk1
    refine iIaNN hs3 hk1 fun p hp => ?_
    refine iLd hp ?_
    refine iAdd (by omega) ?_
    rw [show ((c.getD k 0 : Nat) : Int) + 1 = ((c.getD k 0 + 1 : Nat) : Int) by omega]
    refine iMaxN ?_
    refine iAdd (by omega) ?_
    exact hKn (k + 1) _ ⟨by omega, x3⟩ (by omega)
  obtain rfl : k = c.length := by omega
  clear hKn
  refine iMk (by omega) (by omega) rfl fun b4 w4 hb4 x4 hB4 => ?_
  have hX4 := (hX2.trans x3).trans x4
  have ez : ints (nats (qV f c 0)) = List.replicate (cntK c c.length) (.int .i64 0) := by simp [qV, ints, nats]
  rw [← ez] at hB4
  have hB4 : Ow w.heap.size t_i64 w4 (.slice (some ⟨b4, 0, none⟩) (cntK c c.length) (cntK c c.length)) (ints (nats (qV f c 0))) := Ow.ofBlk hB4 (by have := hX2.size; have := x3.size; omega) (by simp [qV, ints, nats]) (by omega)
  generalize hvv : (Value.slice (some ⟨b4, 0, none⟩) (cntK c c.length) (cntK c c.length)) = vo at *
  have hvb : ∀ q, vo.ownBlock = some q → q = b4 := fun q hq => by rw [← hvv] at hq; simp only [Value.ownBlock, Option.some.injEq] at hq; exact hq.symm
  refine iLp (fun k : Nat => [.int .i64 (k : Int)]) (fun k w' => k ≤ c.length ∧ Ext w w' ∧ Blk 26 w' b [.int .i64 (f.n : Int), v0] ∧ Blk 26 w' b2 [.int .i64 0, .slice none 0 0] ∧ Ow w.heap.size t_i64 w' vo (ints (nats (qV f c k)))) (fun k => c.length - k) 0 rfl
    ⟨Nat.zero_le _, hX4, (hB.ext x3).ext x4, (hB2.ext x3).ext x4, hB4⟩ ?_
  rintro k w5 Kn ⟨hk, hX5, g1, g2, ho⟩ hKn
  have hs5 := hs.ext hX5
  have h05 := h0.ext hX5
  have hql := qV_len f c k
  intro _
  simp only [gx]
  refine iLenN hs5 ?_
  refine iLt (iCndP (fun h5 => ?_) (fun h5 => ?_))
  · have hk1 : k < c.length := by omega
    have hck := cntK_lt c c.length k hk1
    have hfa := hf.lt (show k < f.n by omega)
    have p8 : 2 ^ f.n ≤ 2 ^ 8 := Nat.pow_le_pow_right (by omega) h8
    refine iIaNN hs5 hk1 fun p hp => ?_
    refine iLd hp ?_
    refine iFa (iLdB g1 (v := v0) rfl ?_)
    refine iIaNN h05 (by rw [hf.2.1]; omega) fun p hp => ?_
    refine iLd hp ?_
    refine iRetQ (fun w' x => ok_spec_l08Image (hs5.ext x) (fun y h => by have := hy y h; omega) (by omega) _ (by omega)) ?_
    have hal : (ints (nats (qV f c k))).length = cntK c c.length := by rw [ints_length, nats_length]; exact hql
    refine iIaOwE ho (by rw [hal]; exact hck) fun q hq hst => ?_
    intro w6 x6
    obtain ⟨hc1, hc2, hc3⟩ := hst w6 _ rfl (ho.ext x6)
    rw [List.getElem?_eq_getElem (by rw [hal]; exact hck)] at hc1
    refine iSt hc1 hc2 rfl ?_
    have ho7 := hc3 (.int .i64 ((img c (f.a.getD k 0) : Nat) : Int))
    rw [← ints_nats_set] at ho7
    have hqb := (ho.blk q hq).1
    have hu7 := Upd.setCell w6 q (c.getD k 0) (.int .i64 ((img c (f.a.getD k 0) : Nat) : Int))
    intro w8 x8
    refine iAdd (by omega) ?_
    have hqe := hvb q hq
    have hbq : b ≠ q := by rw [hqe]; have := hB.lt; have := x3.size; omega
    have hb2q : b2 ≠ q := by rw [hqe]; have := hB2.lt; have := x3.size; omega
    exact hKn (k + 1) _ ⟨by omega, ((hX5.trans x6).upd hu7 hqb).trans x8, ((g1.ext x6).upd hu7 hbq).ext x8, ((g2.ext x6).upd hu7 hb2q).ext x8, ho7.ext x8⟩ (by omega)
  · have hke : k = c.length := by omega
    rw [hke, qV_quo hf hl hg hc] at ho
    obtain ⟨oa, on, oc, hsh⟩ := ho.shape
    subst hsh
    refine iBuild (cs := #[.int .i64 ((cntK c c.length : Nat) : Int), .slice oa on oc]) (by simp [Instr.fill, Value.cells]) ?_
    refine iStAB g2 rfl rfl (ho.pair _) fun w6 hu6 hB6 => ?_
    refine iLdA hB6 rfl ?_
    rw [hcn]
    exact ⟨hX5.upd hu6 (by have := x1.size; omega), _, rfl, ho.upd hu6 (ho.ne_blk g2 (by decide))⟩
theorem ok_spec_MorphicImages {n : Int} {l : List Int} {v : Value} {w : World} (hs0 : SlI w v l) : Cal Tryz.prog f_spec_MorphicImages #[.agg #[.int .i64 n, v]] w fun r w' => Ext w w' ∧ ∃ u, r = .tuple #[u, .int .i64 (morR n l).2] ∧ FrsW w.heap.size w' u (morR n l).1 := by
  apply c_spec_MorphicImages; unfold S_spec_MorphicImages
  refine iNew fun b1 w1 hb1 x1 hB1 => ?_
  have hB1 : Blk _ w1 b1 [.int .i64 n, v] := hB1
  refine iLdA hB1 rfl ?_
  refine iRet (ok_spec_l05Is (hs0.ext x1) n) fun w2 x2 => iNot ?_
  have X2 := x1.trans x2
  unfold morR
  cases hfo : frameOk n l
  · refine iCndT rfl ?_
    rw [if_neg (by simp)]
    exact ⟨X2, _, rfl, FrsW.nil _ _⟩
  obtain ⟨hf, hn0, hl0⟩ := frameOk_fr hfo
  have h8 := hf.1
  rw [if_pos rfl]
  refine iCndF rfl (iFa (iLdB (hB1.ext x2) (i := 0) (v := .int .i64 n) rfl ?_))
  refine iLt (iCndP (fun h => ?_) (fun h => ?_))
  · rw [if_neg (by omega)]
    exact ⟨X2, _, rfl, FrsW.nil _ _⟩
  rw [if_pos (show n ≤ 6 by omega)]
  have h6 : (frOf n l).n ≤ 6 := by omega
  have hs : SlN w v (frOf n l).a := by
    unfold SlN; rw [← hl0]; exact hs0
  have hB12 := hB1.ext x2
  rw [hn0] at hB12
  generalize frOf n l = f at *
  refine iLdA hB12 rfl ?_
  refine iCall ((ok_spec_l08Congruences hf h6 (hs.ext X2)).mono ?_)
  rintro vl w3 ⟨x3, hP⟩
  rw [congLV_eq hf] at hP
  have X3 := X2.trans x3
  have hB13 := hB12.ext x3
  have hPl : (congL f).length ≤ 46656 := Nat.le_trans (congL_len h6) (Nat.le_trans (Nat.pow_le_pow_right (by omega) h6) (by decide))
  refine iBsA0 fun v18 w4 _ x4 ho4 => ?_
  have X4 := X3.trans x4
  have hsz4 := X4.size
  refine iLp (fun s : Value × Nat => [s.1, .int .i64 (s.2 : Int)]) (fun s w' => s.2 ≤ (congL f).length ∧ Ext w4 w' ∧ ∃ L, RowR w3.heap.size t_impl_Frame w' s.1 L ∧ RowsF t_i64 w' L ∧ (∀ r ∈ L, r.1 = (r.2.2.length : Int)) ∧ L.map keyR = setA ltP (((congL f).take s.2).map (imK f))) (fun s => (congL f).length - s.2) (v18, 0) rfl ⟨Nat.zero_le _, Ext.refl _, [], ho4, fun r hr => absurd hr (by simp), fun r hr => absurd hr (by simp), rfl⟩ ?_
  rintro ⟨ov, k⟩ w6 Kn ⟨hk, x6, L, hL, hE, hLn, hkey⟩ hKn
  have hk : k ≤ (congL f).length := hk
  have x6 : Ext w4 w6 := x6
  have hL : RowR w3.heap.size t_impl_Frame w6 ov L := hL
  have hkey : L.map keyR = setA ltP (((congL f).take k).map (imK f)) := hkey
  have hLl : L.length ≤ k := by
    have h := setA_len (lt := ltP) (((congL f).take k).map (imK f))
    rw [← hkey] at h
    rw [List.length_map, List.length_map, List.length_take] at h
    omega
  have hP6 := (hP.ext x4).ext x6
  have hlenP : vl = vl := rfl
  intro _
  simp only [gx]
  refine RdO.len hP6 ?_
  refine iLt (iCndP (fun h5 => ?_) (fun h5 => ?_))
  · have hk1 : k < (congL f).length := by omega
    have hcg : (congL f)[k] ∈ congL f := List.getElem_mem hk1
    have htk : ((congL f).take (k + 1)).map (imK f) = ((congL f).take k).map (imK f) ++ [imK f (congL f)[k]] := by rw [List.take_succ_eq_append_getElem hk1, List.map_append]; rfl
    obtain ⟨hcl, hg, hcor⟩ := mem_congL.1 hcg
    obtain ⟨hlen0, hqo, hqn⟩ := imK_len hf hcg
    have X6 := X4.trans x6
    have hB6 := ((hB13.ext x4).ext x6)
    -- the region: in all its orders it makes the same frame
    refine iJnX (fun xs wq => ∃ bq uq, xs = [.pointer (some ⟨bq, 0, none⟩)] ∧ Ext w6 wq ∧ w6.heap.size ≤ bq ∧ Blk t_impl_Frame wq bq [.int .i64 ((quoF f (congL f)[k]).n : Int), uq] ∧ Ow w6.heap.size t_i64 wq uq (ints (nats (least (quoF f (congL f)[k]).a)))) (fun J hJ => ?_) ?_
    · refine iLdA hB6 rfl ?_
      refine hP6.at hk1 fun uc huc => ?_
      generalize (congL f)[k] = c at *
      have qcall : ∀ {w'} {K : Value → World → Prop}, Ext w6 w' → (∀ w'' u, Ext w' w'' → Ow w'.heap.size t_i64 w'' u (ints (nats (quoF f c).a)) → K (.agg #[.int .i64 ((quoF f c).n : Int), u]) w'') → callV Tryz.prog (.func (.func f_spec_l08Quotient) #[] #[]) [.agg #[.int .i64 (f.n : Int), v], uc] w' K := fun {w' K} x hK => iCall ((ok_spec_l08QuotientM hf (hs.ext (X6.trans x)) (huc.ext x).sl hcl hg hcor).mono (by
        rintro _ w'' ⟨y, u, rfl, ho⟩
        exact hK w'' u y ho))
      have lcall : ∀ {w' u} {K : Value → World → Prop}, SlN w' u (quoF f c).a → (∀ w'' e, Ext w' w'' → Ow w'.heap.size t_i64 w'' e (ints (nats (least (quoF f c).a))) → K e w'') → callV Tryz.prog (.func (.func f_spec_l05Least) #[] #[]) [u] w' K := fun {w' u K} hu hK => iCall ((ok_spec_l05Least hu (by rw [hqo.2.1]; omega) (fun x hx => Nat.lt_of_lt_of_le (hqo.2.2 x hx) (Nat.pow_le_pow_right (by omega) (by omega)))).mono (by
        rintro e w'' ⟨y, ho⟩
        exact hK w'' e y ho))
      have mcall : ∀ {w' e} {K : Value → World → Prop}, SlN w' e (least (quoF f c).a) → (∀ w'' u, Ext w' w'' → Ow w'.heap.size t_i64 w'' u (ints (nats (least (quoF f c).a))) → K (.agg #[.int .i64 ((quoF f c).n : Int), u]) w'') → callV Tryz.prog (.func (.func f_spec_l05Make) #[] #[]) [e] w' K := fun {w' e K} he hK => iCall ((ok_spec_l05Make he (by rw [nats_length, hlen0]; omega)).mono (by
        rintro _ w'' ⟨y, u, rfl, ho⟩
        rw [nats_length, hlen0]
        exact hK w'' u y ho))
      have fin : ∀ {wa wb : World} {bq : Nat} {u : Value}, Ext w6 wa → w6.heap.size ≤ bq → Blk t_impl_Frame wa bq [.int .i64 0, .slice none 0 0] → Ow w6.heap.size t_i64 wa u (ints (nats (least (quoF f c).a))) → u.ownBlock ≠ some bq → Ext wa wb → xStA Tryz.prog wb 2 (.pointer (some ⟨bq, 0, none⟩)) (.agg #[.int .i64 ((quoF f c).n : Int), u]) fun wc => ∀ wd, Ext wc wd → J [.pointer (some ⟨bq, 0, none⟩)] wd := fun {wa wb bq u} xa hb hB ho hne xb => by
        refine iStAB (hB.ext xb) rfl rfl ((ho.ext xb).pair _) fun wc hu hBc => fun wd xd => ?_
        exact hJ _ _ ⟨bq, u, rfl, ((xa.trans xb).upd hu hb).trans xd, hb, Blk.ext hBc xd, ((ho.ext xb).upd hu hne).ext xd⟩
      intro w9 y9
      refine ⟨?_, ?_⟩
      · refine qcall y9 fun w10 u y10 ho10 => ?_
        refine iFdM (by rfl) ?_
        intro w11 y11
        have Y11 := (y9.trans y10).trans y11
        refine ⟨?_, ?_⟩
        · refine lcall (ho10.ext y11).sl fun w12 e y12 ho12 => ?_
          intro w13 y13
          have Y13 := (Y11.trans y12).trans y13
          refine ⟨?_, ?_⟩
          · refine mcall (ho12.ext y13).sl fun w14 u2 y14 ho14 => ?_
            intro w15 y15
            refine iNew fun bq w16 hbq y16 hBq => ⟨y16, fun w17 y17 => ?_⟩
            have Y15 := (Y13.trans y14).trans y15
            have ho15 := ho14.ext y15
            exact fin (Y15.trans y16) (by have := Y15.size; omega) hBq ((ho15.ext y16).mono Y13.size) (fun e => by have := (ho15.blk bq e).2; omega) y17
          · refine iNew fun bq w20 hbq y20 hBq => ⟨y20, fun w21 y21 => ?_⟩
            refine mcall ((ho12.ext y13).ext (y20.trans y21)).sl fun w22 u2 y22 ho22 => ?_
            intro w23 y23
            have Y21 := (Y13.trans y20).trans y21
            exact fin (Y21.trans y22) (by have := Y13.size; omega) ((hBq.ext y21).ext y22) (ho22.mono Y21.size) (fun e => by have := (ho22.blk bq e).1; have := (hBq.ext y21).lt; omega) y23
        · refine iNew fun bq w26 hbq y26 hBq => ⟨y26, fun w27 y27 => ?_⟩
          refine lcall ((ho10.ext y11).ext (y26.trans y27)).sl fun w28 e y28 ho28 => ?_
          intro w29 y29
          have Y29 := (((Y11.trans y26).trans y27).trans y28).trans y29
          refine mcall (ho28.ext y29).sl fun w30 u2 y30 ho30 => ?_
          intro w31 y31
          exact fin (Y29.trans y30) (by have := Y11.size; omega) ((((hBq.ext y27).ext y28).ext y29).ext y30) (ho30.mono Y29.size) (fun e => by have := (ho30.blk bq e).1; have := (((hBq.ext y27).ext y28).ext y29).lt; omega) y31
      · refine iNew fun bq w34 hbq y34 hBq => ⟨y34, fun w35 y35 => ?_⟩
        have Y35 := (y9.trans y34).trans y35
        refine qcall Y35 fun w36 u y36 ho36 => ?_
        refine iFdM (by rfl) ?_
        intro w37 y37
        refine lcall (ho36.ext y37).sl fun w38 e y38 ho38 => ?_
        intro w39 y39
        have Y39 := (((Y35.trans y36).trans y37).trans y38).trans y39
        refine mcall (ho38.ext y39).sl fun w40 u2 y40 ho40 => ?_
        intro w41 y41
        have hB39 := ((((hBq.ext y35).ext y36).ext y37).ext y38).ext y39
        exact fin (Y39.trans y40) (by have := y9.size; omega) (hB39.ext y40) (ho40.mono Y39.size) (fun e => by have := (ho40.blk bq e).1; have := hB39.lt; omega) y41
    rintro _ w9 ⟨bq, uq, rfl, x9, hbq, hB9, ho9⟩
    intro _
    -- the new element
    have hq : keyR (((quoF f (congL f)[k]).n : Int), uq, nats (least (quoF f (congL f)[k]).a)) = imK f (congL f)[k] := rfl
    have hq0 : ((quoF f (congL f)[k]).n : Int) = ((nats (least (quoF f (congL f)[k]).a)).length : Int) := by rw [nats_length, hlen0]
    generalize hqq : (((quoF f (congL f)[k]).n : Int), uq, nats (least (quoF f (congL f)[k]).a)) = q at hq
    have hq1 : q.1 = ((quoF f (congL f)[k]).n : Int) := by rw [← hqq]
    have hq2 : q.2.1 = uq := by rw [← hqq]
    have hq3 : q.2.2 = nats (least (quoF f (congL f)[k]).a) := by rw [← hqq]
    have hqn2 : q.1 = (q.2.2.length : Int) := by rw [hq1, hq3]; exact hq0
    have ho9 : Ow w6.heap.size t_i64 w9 q.2.1 (ints q.2.2) := by rw [hq2, hq3]; exact ho9
    have hB9 : Blk t_impl_Frame w9 bq [.int .i64 q.1, q.2.1] := by rw [hq1, hq2]; exact hB9
    have hset : setA ltP (((congL f).take (k + 1)).map (imK f)) = insA ltP (keyR q) (L.map keyR) := by
      rw [htk, setA_snoc, ← hkey, hq]
    refine iLp (fun t : Nat => [.int .i64 (t : Int)]) (fun t w' => t ≤ L.length ∧ Ext w9 w' ∧ ∀ i, i < t → ltP (keyR (gt L i)) (keyR q) = true) (fun t => L.length - t) 0 rfl ⟨Nat.zero_le _, Ext.refl _, fun i hi => by omega⟩ ?_
    rintro t w11 Kn' ⟨ht, h11, hlt⟩ hKn'
    have hX11 := x9.trans h11
    have hL11 := hL.ext hX11
    have hE11 := hE.ext hX11
    have hB11 := hB9.ext h11
    have ho11 := ho9.ext h11
    intro _
    simp only [gx]
    refine iJnB (decide (t < L.length) && ltP (keyR (gt L t)) (keyR q)) w11 (fun J hJ => ?_) (fun w13 x13 => ?_)
    · refine iLenK hL11.sl (iLt ?_)
      refine iCndP (fun h => ?_) (fun h => ?_)
      · have htl : t < L.length := by omega
        rw [decide_eq_true htl, Bool.true_and] at hJ
        refine iRdX (j := t) hL11.sl rfl htl ?_
        refine iLdA hB11 rfl ?_
        have hm : gt L t ∈ L := by rw [gt_eq htl]; exact List.getElem_mem _
        refine iRetQ (fun w' h' => ok_spec_l08Before (b := q) ((hE11 _ hm).ext h').sl (ho11.ext h').sl) ?_
        intro w14 x14
        exact hJ w14 x14
      · have htl : ¬ t < L.length := by omega
        rw [decide_eq_false htl, Bool.false_and] at hJ
        intro w15 x15
        exact hJ w15 x15
    intro _
    simp only [gx]
    have hL13 := hL11.ext x13
    have hE13 := hE11.ext x13
    have hB13' := hB11.ext x13
    have ho13 := ho11.ext x13
    refine iCnd (fun hc => ?_) (fun hc => ?_)
    · rw [Bool.and_eq_true, decide_eq_true_eq] at hc
      refine iAdd (by omega) ?_
      refine hKn' (t + 1) _ ⟨by omega, h11.trans x13, fun i hi => ?_⟩ (by omega)
      by_cases hit : i = t
      · subst hit; exact hc.2
      · exact hlt i (by omega)
    · -- where the new element belongs
      have hsplit : insA ltP (keyR q) (L.map keyR) = (L.take t).map keyR ++ insA ltP (keyR q) ((L.drop t).map keyR) := by
        have h1 := insA_split (lt := ltP) (t := keyR q) (l := L.map keyR) (k := t) (by simpa using ht) fun i hi => by
          have e : gt (L.map keyR) i = keyR (gt L i) := by rw [gt_eq (by simpa using (by omega : i < L.length)), gt_eq (by omega)]; simp
          rw [e]; exact hlt i hi
        rw [h1, List.map_take, List.map_drop]
      have hsame : t < L.length → (decide ((gt L t).2.2 = q.2.2) = !ltP (keyR q) (keyR (gt L t))) := fun htl => by
        rw [decide_eq_true htl, Bool.true_and] at hc
        have hm : gt L t ∈ L := by rw [gt_eq htl]; exact List.getElem_mem _
        have h1 := ltP_ne (a := keyR (gt L t)) (b := keyR q)
        rw [hc, Bool.false_or] at h1
        rw [h1, decide_not, Bool.not_not]
        refine decide_eq_decide.2 ⟨fun h => ?_, fun h => ?_⟩
        · show ((q.1, q.2.2) : Int × List Int) = ((gt L t).1, (gt L t).2.2)
          rw [hqn2, hLn _ hm, h]
        · exact (congrArg (fun x : Int × List Int => x.2) h).symm
      refine iJnB (decide (t < L.length) && !ltP (keyR q) (keyR (gt L t))) w13 (fun J hJ => ?_) (fun w17 x17 => ?_)
      · refine iLenK hL13.sl (iLt ?_)
        refine iCndP (fun h => ?_) (fun h => ?_)
        · have htl : t < L.length := by omega
          rw [decide_eq_true htl, Bool.true_and] at hJ
          refine iRdXs (j := t) hL13.sl rfl htl ?_
          refine iFa (iLdB hB13' (i := 1) (v := q.2.1) rfl ?_)
          have hm : gt L t ∈ L := by rw [gt_eq htl]; exact List.getElem_mem _
          refine iRetQ (fun w' h' => ok_spec_l01Same ((hE13 _ hm).ext h').sl (ho13.ext h').sl) ?_
          rw [hsame htl]
          intro w18 x18
          exact hJ w18 x18
        · have htl : ¬ t < L.length := by omega
          rw [decide_eq_false htl, Bool.false_and] at hJ
          intro w15 x15
          exact hJ w15 x15
      intro _
      simp only [gx]
      have hX17 := (hX11.trans x13).trans x17
      have hL17 := hL13.ext x17
      have hE17 := hE13.ext x17
      have hB17 := hB13'.ext x17
      have ho17 := ho13.ext x17
      refine iCnd (fun hd => ?_) (fun hd => ?_)
      · rw [Bool.and_eq_true, decide_eq_true_eq, Bool.not_eq_true'] at hd
        refine iAdd (by omega) ?_
        refine hKn (ov, k + 1) _ ⟨by show k + 1 ≤ (congL f).length; omega, x6.trans hX17, L, hL17, hE17, hLn, ?_⟩ (by show (congL f).length - (k + 1) < (congL f).length - k; omega)
        show L.map keyR = _
        rw [hset, hsplit, List.drop_eq_getElem_cons hd.1, List.map_cons]
        have hn : ltP (keyR L[t]) (keyR q) = false := by
          rw [decide_eq_true hd.1, Bool.true_and, gt_eq hd.1] at hc
          exact hc
        have hn2 : ltP (keyR q) (keyR L[t]) = false := by rw [← gt_eq hd.1]; exact hd.2
        rw [insA, if_neg (by rw [hn]; simp), if_neg (by rw [hn2]; simp), ← List.map_cons, ← List.map_append, ← List.drop_eq_getElem_cons hd.1, List.take_append_drop]
      · have hins : insA ltP (keyR q) ((L.drop t).map keyR) = keyR q :: (L.drop t).map keyR := by
          rcases Nat.lt_or_ge t L.length with htl | htl
          · rw [decide_eq_true htl, Bool.true_and] at hc hd
            rw [gt_eq htl] at hc hd
            have hd' : ltP (keyR q) (keyR L[t]) = true := by simpa using hd
            rw [List.drop_eq_getElem_cons htl, List.map_cons, insA, if_neg (by rw [hc]; simp), if_pos hd']
          · rw [List.drop_of_length_le htl]; rfl
        have hcells : ∀ M : List PR, (∀ r ∈ M, r ∈ L ∨ r = q) → ∀ u ∈ cellsR M, isCell u = true := fun M hM u hu => by
          obtain ⟨r, hr, hru⟩ := List.mem_flatMap.1 hu
          have hcr : isCell r.2.1 = true := by
            rcases hM r hr with h | h
            · exact (hE r h).cell
            · rw [h]; exact ho9.cell
          simp only [List.mem_cons, List.not_mem_nil, or_false] at hru
          rcases hru with rfl | rfl
          · rfl
          · exact hcr
        refine iBsA0 fun v48 w20 _ x20 ho20 => ?_
        refine iHY (k := 2) (i := t) (OwK.ext hL17 x20).sl ht fun v51 hs51 => ?_
        rw [cellsR_take] at hs51
        refine iAppK (k := 2) u_Simpl_Frame i_Simpl_Frame rfl (by omega) ho20 hs51 (hcells _ fun r hr => .inl (List.mem_of_mem_take hr)) (by omega) (by omega) x20.size fun v52 w21 ho21 hg21 _ => ?_
        have x21 : Ext w17 w21 := x20.grown hg21 fun c hc => (ho20.blk c hc).1
        refine iLdA (hB17.ext x21) rfl ?_
        refine iBsA fun b22 w22 hb22 x22 hB22 => ?_
        have hs22 := (OwK.ofBlk (k := 2) (lo := w21.heap.size) hB22 (by omega) rfl (by omega)).sl
        refine iAppK (k := 2) u_Simpl_Frame i_Simpl_Frame rfl (by omega) (OwK.ext ho21 x22) hs22 (hcells [q] fun r hr => .inr (by simpa using hr)) (by omega) (by omega) ((x21.trans x22).size) fun v56 w23 ho23 hg23 _ => ?_
        have x23 : Ext w17 w23 := (x21.trans x22).grown hg23 fun c hc => (ho21.blk c hc).1
        refine iTY (k := 2) (i := t) (OwK.ext hL17 x23).sl rfl ht fun v60 hs60 => ?_
        rw [cellsR_drop] at hs60
        refine iAppK (k := 2) u_Simpl_Frame i_Simpl_Frame rfl (by omega) ho23 hs60 (hcells _ fun r hr => .inl (List.mem_of_mem_drop hr)) (by omega) (by omega) x23.size fun v61 w24 ho24 hg24 _ => ?_
        have x24 : Ext w17 w24 := x23.grown hg24 fun c hc => (ho23.blk c hc).1
        refine iAdd (by omega) ?_
        have hmemq : ∀ r, r ∈ L.take t ++ [q] ++ L.drop t → r ∈ L ∨ r = q := fun r hr => by
          rcases List.mem_append.1 hr with hr | hr
          · rcases List.mem_append.1 hr with hr | hr
            · exact .inl (List.mem_of_mem_take hr)
            · exact .inr (by simpa using hr)
          · exact .inl (List.mem_of_mem_drop hr)
        refine hKn (v61, k + 1) _ ⟨by show k + 1 ≤ (congL f).length; omega, x6.trans (hX17.trans x24), L.take t ++ [q] ++ L.drop t, ?_, fun r hr => ?_, fun r hr => ?_, ?_⟩ (by show (congL f).length - (k + 1) < (congL f).length - k; omega)
        · have e : cellsR (L.take t ++ [q] ++ L.drop t) = [] ++ cellsR (L.take t) ++ [.int .i64 q.1, q.2.1] ++ cellsR (L.drop t) := by rw [cellsR_app, cellsR_app]; rfl
          have el : (L.take t ++ [q] ++ L.drop t).length = 0 + t + 1 + (L.length - t) := by rw [List.length_append, List.length_append, List.length_take, List.length_drop, List.length_singleton]; omega
          show OwK 2 _ _ w24 v61 _ _
          rw [e, el]
          exact OwK.mono ho24 (by have := (x6.trans hX17).size; have := x4.size; omega)
        · rcases hmemq r hr with h | rfl
          · exact (hE17 r h).ext x24
          · exact (ho17.mono (Nat.zero_le _)).ext x24
        · rcases hmemq r hr with h | rfl
          · exact hLn r h
          · exact hqn2
        · rw [hset, hsplit, hins, List.map_append, List.map_append]
          simp
  · have hke : k = (congL f).length := by omega
    rw [hke, List.take_length] at hkey
    have hkey : L.map keyR = setA ltP (imgsK f) := hkey
    have hMl : L.length = (setA ltP (imgsK f)).length := by rw [← hkey, List.length_map]
    refine iLenK hL.sl ?_
    rw [hMl]
    refine iLt (iCndP (fun h2 => ?_) (fun h2 => ?_))
    · rw [if_neg (by omega)]
      exact ⟨X4.trans x6, _, rfl, FrsW.nil _ _⟩
    · rw [if_pos (by omega)]
      exact ⟨X4.trans x6, _, rfl, L, ⟨OwK.mono hL X3.size, fun r hr => (hE r hr).cell⟩, hE, hkey⟩
end Go.Proofs.YtaipnnkpplinoaaGreatDoor

namespace Go.Vc
def fc : Option Nat → Fence
  | none => Fence.wide
  | some l => Fence.wide.inRound l
theorem fc_fn (r : Option Nat) (f : FuncId) : (fc r).fn f := by cases r <;> trivial
theorem fc_depth (r : Option Nat) : (fc r).depth = none := by cases r <;> rfl
theorem fc_round (r : Option Nat) : (fc r).round = r := by cases r <;> rfl
section
variable {P : Program}
theorem callsIn_fc (r : Option Nat) {n : Nat} {f : FuncId} {args : Array Value} {w : World} {R : Ending → World → Prop} (h : Calls P f args w R) : CallsIn (fc r) n P f args w R := by
  cases r with
  | none => exact callsIn_wide.2 h
  | some l => exact CallsIn.inRound l (callsIn_wide.2 h)
theorem rowsIn_fc (r : Option Nat) {n : Nat} {row : String} {args : Array Value} {w : World} {R : Value → World → Prop} (h : Rows P row args w R) : RowsIn (fc r) n P row args w R := by
  intro c cs _
  obtain ⟨v, w', hR, hs⟩ := h c cs
  have := stepsIn_wide.2 hs
  cases r <;> exact ⟨v, w', hR, this⟩
theorem roundIn_fc (r : Option Nat) {n m : Nat} {l : Nat} {f : FuncId} {tmps : Array Value} {assign body : Code} {w : World} {R : Ending → World → Prop} (h : RoundIn Fence.wide m P l f tmps assign body w R) : RoundIn (fc r) n P l f tmps assign body w R := by
  refine ⟨fc_fn r f, fun c cs _ => ?_⟩
  have := h.2 c cs (room_wide _)
  cases r <;> exact this
theorem opIn_of_wp (r : Option Nat) {n : Nat} {o : Oper} {a : Act} {w : World} {K : Act → World → Prop} {Q : Exit → Act → World → Prop} (hd : ∀ c, o.op ≠ .defer c) (h : o.wp P a w K Q) : o.wpIn (fc r) n P a w K Q := by
  unfold Oper.wp at h
  unfold Oper.wpIn
  refine ⟨fun f _ => fc_fn r f, ?_⟩
  have e : o.semAt (fc r).round a.eval = execOp a.eval o := by
    rw [fc_round]
    cases r with
    | none => exact Oper.semAt_none _ _
    | some l => exact Oper.semAt_some l _ _ hd
  rw [e]
  generalize (execOp a.eval o).run P w = x at *
  have hdep : (fc r).depth.isSome = true → 1 ≤ n := fun h => by rw [fc_depth] at h; cases h
  cases x with
  | ok nx w' =>
    cases nx <;> simp only [Oper.upon, Oper.uponIn] at h ⊢ <;>
      first
        | exact h
        | exact ⟨hdep, callsIn_fc r h⟩
        | exact ⟨hdep, rowsIn_fc r h⟩
        | exact h.elim
  | halt x w' => cases x <;> simp only [Oper.upon, Oper.uponIn] at h ⊢ <;> exact h

def callY (P : Program) (fv : Value) (args : List Value) (w : World) (K : Value → World → Prop) : Prop :=
  callV P fv args w K ∨ ∃ l, fv = .func (.yield l) #[] #[] ∧ YieldAt Fence.wide 0 P l args.toArray w fun e w' => ∃ v, e = .returned v ∧ K v w'
theorem callY.mono {fv : Value} {args : List Value} {w : World} {K K' : Value → World → Prop} (h : callY P fv args w K) (hk : ∀ v w', K v w' → K' v w') : callY P fv args w K' := by
  rcases h with h | ⟨l, hv, fn, tmps, assign, body, hy, hr⟩
  · exact .inl (h.mono hk)
  · exact .inr ⟨l, hv, fn, tmps, assign, body, hy, hr.mono fun e w' ⟨v, he, h⟩ => ⟨v, he, hk _ _ h⟩⟩
def isYC (o : Oper) : Option (Operand × Array Operand) :=
  match o.op with
  | .call c => (match c.callee with
    | .value (.tmp t) => some (.tmp t, c.args)
    | _ => none)
  | _ => none
def hardY (P : Program) (o : Oper) (env : Env) (w : World) (K : Value → World → Prop) : Prop :=
  match isYC o with
  | some (f, args) => callY P (ev env f) (evs env args) w K
  | none => hardD P o env w K
theorem hardD_nodefer {o : Oper} {env : Env} {w : World} {K : Value → World → Prop} (h : hardD P o env w K) : ∀ c, o.op ≠ .defer c := by
  intro c e
  unfold hardD at h
  rw [e] at h
  exact h
theorem soft_nodefer {o : Oper} (h : isSoftIn P o = true) : ∀ c, o.op ≠ .defer c := by
  intro c e
  unfold isSoftIn at h
  rw [e] at h
  simp only [isSoft] at h
  rw [e] at h
  cases h
theorem hardY_ok (r : Option Nat) {o : Oper} {env : Env} {a : Act} {w : World} {K : Value → World → Prop} {Q : Exit → Act → World → Prop} (he : a.eval = ev env) (h : hardY P o env w K) : o.wpIn (fc r) 0 P a w (Nx o a K) Q := by
  unfold hardY at h
  split at h
  · rename_i f args hy
    obtain ⟨dst, op, type, pos, after, guard⟩ := o
    unfold isYC at hy
    split at hy
    · rename_i c hop
      have hop : op = .call c := hop
      subst hop
      obtain ⟨callee, cargs, argTypes⟩ := c
      split at hy
      · rename_i t hc
        have hc : callee = .value (.tmp t) := hc
        subst hc
        injection hy with hy
        injection hy with h1 h2
        subst h1; subst h2
        have hex : execOp a.eval ⟨dst, .call ⟨.value (.tmp t), cargs, argTypes⟩, type, pos, after, guard⟩ = (do let d ← Deferred.ofValue (ev env (.tmp t)) (evs env cargs).toArray; invoke d.target d.args) := by
          rw [evs_eq he, ← he]
          simp only [execOp, resolve]
        rcases h with h | ⟨l, hv, fn, tmps, assign, body, hyr, hr⟩
        · exact opIn_of_wp r (by intro c e; cases e) (upon_call hex h)
        · unfold Oper.wpIn
          refine ⟨fun f _ => fc_fn r f, ?_⟩
          have e : (⟨dst, .call ⟨.value (.tmp t), cargs, argTypes⟩, type, pos, after, guard⟩ : Oper).semAt (fc r).round a.eval = execOp a.eval ⟨dst, .call ⟨.value (.tmp t), cargs, argTypes⟩, type, pos, after, guard⟩ := by
            rw [fc_round]
            cases r with
            | none => exact Oper.semAt_none _ _
            | some l => exact Oper.semAt_some l _ _ (by intro c e; cases e)
          rw [e, hex, hv]
          have e2 : (do let d ← Deferred.ofValue (.func (.yield l) #[] #[]) (evs env cargs).toArray; invoke d.target d.args : Sem Next).run P w = (Instr.yield l (evs env cargs).toArray).run P w := by
            simp [Deferred.ofValue, invoke]
          rw [e2, hyr, Oper.uponIn_round]
          refine ⟨(fun h => by rw [fc_depth] at h; cases h), (roundIn_fc r hr).mono ?_⟩
          rintro e w' ⟨v, rfl, hK⟩
          exact ⟨v, rfl, hK⟩
      · cases hy
    · cases hy
  · exact opIn_of_wp r (hardD_nodefer h) (hard_ok he h)

/-! ### An activation with marks among its deferred calls -/
def mkD (D : Nat) : Deferred := { target := .collected D, args := #[] }
structure AgY (n : Nat) (ds : List Nat) (env : Env) (a : Act) : Prop where
  defers : a.defers = ds.map mkD
  ag : Ag n env { a with defers := [] }
variable {n : Nat}
theorem AgY.eval {ds : List Nat} {env : Env} {a : Act} (h : AgY n ds env a) : a.eval = ev env := by
  have := h.ag.eval
  rw [← this]; rfl
theorem putY_ok {ds : List Nat} {env : Env} {a : Act} {W : List Nat} {dst : Option Nat} {v : Value} {kb : Option (Option Bool)} {K : Env → Prop} (h : putD n env dst v kb K) (ha : AgY n ds env a) (hk : ∀ b, kb = some b → v = kv b) (hW : ∀ d, dst = some d → d ∈ W) :
    ∃ env', K env' ∧ AgY n ds env' (a.put dst v) ∧ Same W env env' := by
  obtain ⟨env', h1, h2, h3⟩ := putD_ok h ha.ag hk hW
  exact ⟨env', h1, ⟨by cases dst <;> exact ha.defers, by cases dst <;> exact h2⟩, h3⟩

def opsY (P : Program) (n : Nat) (ops : Array Oper) : List Oper → Env → World → Cont → Prop
  | [], env, w, K => K env w
  | o :: r, env, w, K => wantD ops o env
    (fun env => match isSoftIn P o with
      | true => softD P o env w fun v kb => putD n env o.dst v kb fun env' => opsY P n ops r env' w K
      | false => hardY P o env w fun v w' => putD n env o.dst v none fun env' => opsY P n ops r env' w' K)
    (fun env => putD n env o.dst undef (some none) fun env' => opsY P n ops r env' w K)
theorem opsY_ok (r : Option Nat) {ops : Array Oper} {W : List Nat} {ds : List Nat} {Q : Exit → Act → World → Prop} {K : Cont} : ∀ (l : List Oper) (env : Env) (a : Act) (w : World),
    opsY P n ops l env w K → AgY n ds env a → (∀ o ∈ l, ∀ d, o.dst = some d → d ∈ W) →
    (∀ env' a' w', K env' w' → AgY n ds env' a' → Same W env env' → Q .normal a' w') → wpListIn (fc r) 0 P ops Q l a w := by
  intro l
  induction l with
  | nil => intro env a w h ha _ hq; exact hq env a w h ha (Same.refl _ _)
  | cons o rs ih =>
    intro env a w h ha hW hq
    have hWo : ∀ d, o.dst = some d → d ∈ W := hW o (by simp)
    have hWr : ∀ o ∈ rs, ∀ d, o.dst = some d → d ∈ W := fun o' ho => hW o' (by simp [ho])
    obtain ⟨env1, ha1, hs1, hc⟩ := wantD_ok (a := { a with defers := [] }) h ha.ag W
    have ha1 : AgY n ds env1 a := ⟨ha.defers, ha1⟩
    have next : ∀ {env2 : Env} {a' w'}, opsY P n ops rs env2 w' K → AgY n ds env2 a' → Same W env1 env2 → wpListIn (fc r) 0 P ops Q rs a' w' := fun {env2 a' w'} h2 ha2 hs2 =>
      ih env2 a' w' h2 ha2 hWr fun env' a' w' hK hA hS => hq env' a' w' hK hA ((hs1.trans hs2).trans hS)
    unfold wpListIn
    rcases hc with ⟨hw, hA⟩ | ⟨hw, hB⟩
    · have hw : Region.wanted o (yielded ops a.tmps) = true := hw
      rw [if_pos hw]
      split at hA
      · rename_i hsoft
        obtain ⟨v, kb, hrun, hp, hkb⟩ := soft_ok ha1.eval ha1.ag.ok hsoft hA
        refine opIn_of_wp r (soft_nodefer hsoft) ?_
        unfold Oper.wp
        rw [hrun w (Ext.refl w), Oper.upon_value]
        obtain ⟨env2, h2, ha2, hs2⟩ := putY_ok hp ha1 hkb hWo
        exact next h2 ha2 hs2
      · have := hardY_ok (Q := Q) r ha1.eval hA
        refine Oper.wpIn_mono (fun a' w' ⟨v, he, hp⟩ => ?_) this
        obtain ⟨env2, h2, ha2, hs2⟩ := putY_ok hp ha1 (fun b e => by cases e) hWo
        rw [he]
        exact next h2 ha2 hs2
    · have hw : Region.wanted o (yielded ops a.tmps) = false := hw
      rw [if_neg (by rw [hw]; simp)]
      obtain ⟨env2, h2, ha2, hs2⟩ := putY_ok hB ha1 (fun b e => by cases e; rfl) hWo
      exact ⟨fun f _ => fc_fn r f, next h2 ha2 hs2⟩

/-! ### Code -/
abbrev ContY := List Nat → Env → World → Prop
def Dfo (D : Nat) (w : World) : Prop := w.heap[D]? = some (.deferred (some []))
def xRng (P : Program) (fv : Value) (np : Nat) (w : World) (B : Nat → (World → Prop) → (World → Prop) → (Ex → World → Prop) → List Value → World → (Value → World → Prop) → Prop) (K : Nat → World → Prop) (KE : Nat → Nat → World → Prop) (KR : Nat → World → Prop) : Prop :=
  ∃ gf lb, fv = .func (.func gf) #[] lb ∧ HasB P gf ∧ ∀ (l : Nat) (LR LB : World → Prop) (LX : Ex → World → Prop) (w1 : World),
    l = w.heap.size + 1 → w1.heap.size = w.heap.size + 2 → Ext w w1 → LR w1 →
    (∀ (S : Nat → Prop) (W W' : World), Ch S W W' → ¬ S l → ¬ S w.heap.size → (LR W → LR W') ∧ (LB W → LB W') ∧ ∀ e, LX e W → LX e W') →
    (∀ args W T, LR W → args.length = np → B l LR LB LX args W T → callY P (.func (.yield l) #[] #[]) args W T) →
    Cal P gf (#[.func (.yield l) #[] #[]] ++ lb) w1 fun _ W2 =>
      (LR W2 ∧ ∀ W3, Ch (fun c => c = l) W2 W3 → Dfo w.heap.size W3 → K w.heap.size W3) ∨
      (∃ i, LX (.ext i) W2 ∧ ∀ W3, Ch (fun c => c = l) W2 W3 → Dfo w.heap.size W3 → KE i w.heap.size W3) ∨ (LX .ret W2 ∧ ∀ W3, Ch (fun c => c = l) W2 W3 → Dfo w.heap.size W3 → KR w.heap.size W3)
def natE (i j : Nat) (A B : Prop) : Prop := match Nat.beq i j with
  | true => A
  | false => B
def rdT (ex : Ex) (l : Nat) (LR : World → Prop) (LX : Ex → World → Prop) (T : Value → World → Prop) (W : World) : Prop :=
  match ex with
  | .nrm => ∀ W', Ch (fun c => c = l) W W' → LR W' → T (.bool true) W'
  | e => ∀ W', Ch (fun c => c = l) W W' → LX e W' → T (.bool false) W'
def thenY (next : ContY) (Q : Ex → ContY) : Ex → ContY
  | .nrm, ds, env, w => next ds env w
  | e, ds, env, w => Q e ds env w
def blockY (id : Nat) (Q : Ex → ContY) : Ex → ContY
  | .ext i, ds, env, w => match Nat.beq i id with
    | true => Q .nrm ds env w
    | false => Q (.ext i) ds env w
  | e, ds, env, w => Q e ds env w
def noDefer (ops : Array Oper) : Bool := ops.toList.all fun o => match o.op with | .defer _ => false | _ => true
def denY (P : Program) (n : Nat) : Bool → Code → Hint → (Ex → ContY) → List Nat → Env → World → Prop
  | _, .skip, _, Q, ds, env, w => Q .nrm ds env w
  | _, .label _, _, Q, ds, env, w => Q .nrm ds env w
  | _, .ret, _, Q, ds, env, w => Q .ret ds env w
  | _, .exit id, _, Q, ds, env, w => Q (.ext id) ds env w
  | _, .region _ ops false, h, Q, ds, env, w => match hK h with
    | none => opsY P n ops ops.toList env w (Q .nrm ds)
    | some keep => joinD n keep (dsts ops.toList) env (Q .nrm ds) fun J => opsY P n ops ops.toList env w J
  | false, .region id ops true, h, Q, [], env, w => den P n (.region id ops true) h (fun e => Q e []) env w
  | true, .region id ops true, h, Q, [], env, w => match Region.noSelect ops && noDefer ops with
    | true => den P n (.region id ops true) h (fun e => Q e []) env w
    | false => False
  | r, .seq a b, h, Q, ds, env, w => denY P n r a (hL h) (thenY (denY P n r b (hR h) Q) Q) ds env w
  | r, .cond c x y, h, Q, ds, env, w => condD env c (fun env => denY P n r x (hL h) Q ds env w) (fun env => denY P n r y (hR h) Q ds env w)
  | r, .block id b, h, Q, ds, env, w => denY P n r b h (blockY id Q) ds env w
  | r, .loop b, h, Q, ds, env, w => match slotsOk n ((hK h).getD []) && slotsOk n (wr b) with
    | true => lp (fun Kn xs w => ∀ ys : Nat → Value, denY P n r b (hL h) (thenY (fun ds' env' w' => ds' = ds ∧ Kn (getK ((hK h).getD []) env') w') Q) ds (bindK ((hK h).getD []) 0 xs (bindY (wr b) ys env)) w) (getK ((hK h).getD []) env) w
    | false => False
  | false, .rangeFunc g ps assign body, h, Q, [], env, w => match ps.toList with
    | [p] => (match Nat.blt p n with
      | true => xRng P (ev env g) 1 w (fun l LR LB LX args W T => denY P n true assign .leaf (fun ex ds env2 W2 => match ex with
        | .nrm => ds = [] ∧ LR W2 ∧ ∀ Wb, Ch (fun c => c = l) W2 Wb → LB Wb → denY P n true body h (fun ex ds _ W' => ds = [] ∧ LB W' ∧ rdT ex l LR LX T W') [] env2 Wb
        | _ => False) [] (⟨p, gx args 0, none⟩ :: env) W) (fun d W => Q .nrm [d] env W) (fun i d W => Q (.ext i) [d] env W) (fun d W => Q .ret [d] env W)
      | false => False)
    | _ => False
  | _, _, _, _, _, _, _ => False
def RchY (n : Nat) (W : List Nat) (env : Env) (Q : Ex → ContY) : Exit → Act → World → Prop :=
  fun e a w => ∃ ex ds env', exOf e = some ex ∧ Q ex ds env' w ∧ AgY n ds env' a ∧ Same W env env'
theorem RchY.weaken {W W' : List Nat} {env env1 : Env} {Q : Ex → ContY} (hS : Same W' env env1) (hW : ∀ s, s ∈ W → s ∈ W') {e : Exit} {a : Act} {w : World} (h : RchY n W env1 Q e a w) : RchY n W' env Q e a w := by
  obtain ⟨ex, ds, env', h1, h2, h3, h4⟩ := h
  exact ⟨ex, ds, env', h1, h2, h3, hS.trans (h4.mono hW)⟩
theorem putObj_ch {w : World} {l : Nat} {o : Obj} : Ch (fun c => c = l) w (w.putObj l o) :=
  ⟨rfl, rfl, rfl, by rw [World.putObj_size]; exact Nat.le_refl _, fun _ _ h => World.putObj_heap_other h⟩
def codeOf : Ex → Code
  | .nrm => .skip
  | .ext i => .exit i
  | .ret => .ret
theorem noDefer_of {ops : Array Oper} (h : noDefer ops = true) {i : Nat} {o : Oper} (ho : ops[i]? = some o) : ∀ c, o.op ≠ .defer c := by
  have h1 := List.all_eq_true.1 h o (by simpa using Array.mem_of_getElem? ho)
  intro c e
  rw [e] at h1
  cases h1
theorem wp_weakF {o : Oper} {a : Act} {w : World} {K K' : Act → World → Prop} {Q' : Exit → Act → World → Prop} (h : o.wp P a w K (fun _ _ _ => False)) (hk : ∀ a w, K a w → K' a w) : o.wp P a w K' Q' := by
  unfold Oper.wp at *
  generalize (execOp a.eval o).run P w = r at *
  cases r with
  | ok n w' =>
    cases n <;> simp only [Oper.upon] at h ⊢ <;>
      first
        | exact hk _ _ h
        | exact Calls.mono h (fun e w'' he => by cases e <;> first | exact hk _ _ he | exact he.elim | exact (let ⟨_, _, hh⟩ := he; hh.elim))
        | exact Rows.mono h (fun _ _ he => hk _ _ he)
  | halt x w' => cases x <;> simp only [Oper.upon] at h
theorem wpOpIn_weak (r : Option Nat) {ops : Array Oper} {Q' : Exit → Act → World → Prop} {i : Nat} {K K' : Act → World → Prop} {a : Act} {w : World} (hnd : noDefer ops = true) (h : wpOp P ops (fun _ _ _ => False) i K a w) (hk : ∀ a w, K a w → K' a w) : wpOpIn (fc r) 0 P ops Q' i K' a w := by
  unfold wpOp at h
  unfold wpOpIn
  split
  · rename_i ho; simp only [ho] at h; exact hk _ _ h
  · rename_i o ho
    simp only [ho] at h
    split
    · rename_i hw
      simp only [hw, if_true] at h
      rcases h with h | ⟨_, a, w, h⟩
      · exact opIn_of_wp r (noDefer_of hnd ho) (wp_weakF h hk)
      · exact h.elim
    · rename_i hw
      simp only [hw] at h
      exact ⟨fun f _ => fc_fn r f, hk _ _ h⟩
theorem wpAnyIn_of_AnyW (r : Option Nat) {E : World → World → Prop} {quiet : List Nat} {ops : Array Oper} (hnd : noDefer ops = true) {Q : Act → World → Prop} {Q' : Exit → Act → World → Prop} (hQ : ∀ a w, Q a w → Q' .normal a w) : ∀ (m : Nat) (listed : Array Bool) (a : Act) (w : World),
    AnyW P E quiet ops Q m listed a w → wpAnyIn (fc r) 0 P .any ops Q' m listed a w
  | 0, _, _, w, h => ⟨(h w (Ext.refl w)).1, hQ _ _ (h w (Ext.refl w)).2⟩
  | m + 1, _, _, w, h => ⟨fun h0 => hQ _ _ ((h w (Ext.refl w)).1 h0), fun i hi => wpOpIn_weak r hnd ((h w (Ext.refl w)).2 i hi) fun a' w' hh => wpAnyIn_of_AnyW r hnd hQ m _ a' w' hh.2⟩
theorem regDIn_ok (r : Option Nat) {id : Nat} {ops : Array Oper} {eh : Bool} {quiet : List Nat} {env : Env} {a : Act} {w : World} {K : Cont} {Q : Exit → Act → World → Prop} (hm : P.follows .mixedOrders = true) (hsel : Region.noSelect ops = true) (hnd : noDefer ops = true)
    (h : regD P n ops true eh quiet env w K) (ha : Ag n env a) (hQ : ∀ env' a' w', K env' w' → Ag n env' a' → Same (dsts ops.toList) env env' → Q .normal a' w') : (Code.region id ops true).wpIn (fc r) 0 P Q a w := by
  have hW : ∀ (i : Nat) (o : Oper), ops[i]? = some o → ∀ d, o.dst = some d → d ∈ dsts ops.toList := fun i o ho d hd =>
    List.mem_filterMap.2 ⟨o, by simpa using Array.mem_of_getElem? ho, hd⟩
  refine wpIn_region_any hm ?_
  cases eh with
  | false =>
    have := drD_ok hsel (W := dsts ops.toList) hW ops.size _ env a w h ha (down_init _)
    exact wpAnyIn_of_AnyW r hnd (fun a' w' ⟨env', h1, h2, h3⟩ => hQ env' a' w' h1 h2 h3) _ _ _ _ (this.later (Ext.drew w))
  | true =>
    obtain ⟨D, h⟩ := h
    have := drE_ok hsel (W := dsts ops.toList) hW ops.size _ env a w h ha (down_init _)
    exact wpAnyIn_of_AnyW r hnd (fun a' w' ⟨env', h1, h2, h3⟩ => hQ env' a' w' h1 h2 h3) _ _ _ _ (this.later (Ext.drew w))
theorem denY_ok (hm : P.follows .mixedOrders = true) : ∀ (c : Code) (r : Option Nat) (h : Hint) (Q : Ex → ContY) (ds : List Nat) (env : Env) (a : Act) (w : World), (r = none → noSel c = true) → denY P n r.isSome c h Q ds env w → AgY n ds env a →
    c.wpIn (fc r) 0 P (RchY n (wr c) env Q) a w := by
  intro c
  induction c with
  | skip => intro r h Q ds env a w _ hd ha; cases r <;> exact wpIn_skip ⟨.nrm, ds, env, rfl, hd, ha, Same.refl _ _⟩
  | label l => intro r h Q ds env a w _ hd ha; cases r <;> exact wpIn_label ⟨.nrm, ds, env, rfl, hd, ha, Same.refl _ _⟩
  | ret => intro r h Q ds env a w _ hd ha; cases r <;> exact wpIn_ret ⟨.ret, ds, env, rfl, hd, ha, Same.refl _ _⟩
  | exit id => intro r h Q ds env a w _ hd ha; cases r <;> exact wpIn_exit ⟨.ext id, ds, env, rfl, hd, ha, Same.refl _ _⟩
  | goto => intro r h Q ds env a w _ hd _; cases r <;> exact hd.elim
  | refuse => intro r h Q ds env a w _ hd _; cases r <;> exact hd.elim
  | scope => intro r h Q ds env a w _ hd _; cases r <;> exact hd.elim
  | region id ops draw =>
    intro r h Q ds env a w hns hd ha
    cases draw with
    | false =>
      have hd : (match hK h with
        | none => opsY P n ops ops.toList env w (Q .nrm ds)
        | some keep => joinD n keep (dsts ops.toList) env (Q .nrm ds) fun J => opsY P n ops ops.toList env w J) := by cases r <;> exact hd
      refine wpIn_region_list ?_
      split at hd
      · exact opsY_ok r (W := dsts ops.toList) ops.toList env a w hd ha (fun o ho d hd => List.mem_filterMap.2 ⟨o, ho, hd⟩) fun env' a' w' hK hA hS => ⟨.nrm, ds, env', rfl, hK, hA, hS⟩
      · obtain ⟨J, hJ, hK⟩ := joinD_ok hd ha.ag.ok
        refine opsY_ok r (W := dsts ops.toList) ops.toList env a w hJ ha (fun o ho d hd => List.mem_filterMap.2 ⟨o, ho, hd⟩) fun env' a' w' hj hA hS => ?_
        obtain ⟨env2, h1, h2, h3⟩ := hK env' { a' with defers := [] } w' hj hA.ag hS
        exact ⟨.nrm, ds, env2, rfl, h1, ⟨hA.defers, h2⟩, h3⟩
    | true =>
      cases ds with
      | cons d ds => cases r <;> exact hd.elim
      | nil =>
      have hA : Ag n env a := by
        have h1 := ha.ag
        have h2 : a.defers = [] := ha.defers
        exact ⟨h2, h1.size, h1.vals, h1.ok⟩
      cases r with
      | some l =>
        have hd : (match Region.noSelect ops && noDefer ops with
          | true => den P n (.region id ops true) h (fun e => Q e []) env w
          | false => False) := hd
        cases hn : Region.noSelect ops && noDefer ops with
        | false => rw [hn] at hd; exact hd.elim
        | true =>
          rw [hn] at hd
          rw [Bool.and_eq_true] at hn
          simp only [den] at hd
          split at hd
          · exact regDIn_ok _ hm hn.1 hn.2 hd hA fun env' a' w' hK hA hS => ⟨.nrm, [], env', rfl, hK, ⟨hA.defers, ⟨rfl, hA.size, hA.vals, hA.ok⟩⟩, hS⟩
          · obtain ⟨J, hJ, hK⟩ := joinD_ok hd hA.ok
            exact regDIn_ok _ hm hn.1 hn.2 hJ hA fun env' a' w' hj hA hS => by
              obtain ⟨env2, h1, h2, h3⟩ := hK env' a' w' hj hA hS
              exact ⟨.nrm, [], env2, rfl, h1, ⟨h2.defers, ⟨rfl, h2.size, h2.vals, h2.ok⟩⟩, h3⟩
      | none =>
          have hd : den P n (.region id ops true) h (fun e => Q e []) env w := hd
          refine wpIn_wide.2 (wp_mono (den_ok hm _ h _ env a w (hns rfl) hd hA) fun e a' w' hr => ?_)
          obtain ⟨ex, env', h1, h2, h3, h4⟩ := hr
          exact ⟨ex, [], env', h1, h2, ⟨h3.defers, ⟨rfl, h3.size, h3.vals, h3.ok⟩⟩, h4⟩
  | seq x y ihx ihy =>
    intro r h Q ds env a w hns hd ha
    have hns1 : r = none → noSel x = true := fun h => by have := hns h; simp only [noSel, Bool.and_eq_true] at this; exact this.1
    have hns2 : r = none → noSel y = true := fun h => by have := hns h; simp only [noSel, Bool.and_eq_true] at this; exact this.2
    have hd : denY P n r.isSome x (hL h) (thenY (denY P n r.isSome y (hR h) Q) Q) ds env w := by cases r <;> exact hd
    refine wpIn_seq (wpIn_mono (ihx r (hL h) _ ds env a w hns1 hd ha) fun e a' w' hr => ?_)
    obtain ⟨ex, ds', env', h1, h2, h3, h4⟩ := hr
    have h4' : Same (wr (.seq x y)) env env' := h4.mono fun s hs => by simp [wr, hs]
    cases e <;> simp only [exOf, Option.some.injEq] at h1 <;> first | (cases h1; done) | skip
    · subst h1
      exact wpIn_mono (ihy r (hR h) Q ds' env' a' w' hns2 h2 h3) fun e a w hr => hr.weaken h4' fun s hs => by simp [wr, hs]
    · subst h1; exact ⟨_, ds', env', rfl, h2, h3, h4'⟩
    · subst h1; exact ⟨_, ds', env', rfl, h2, h3, h4'⟩
  | cond c x y ihx ihy =>
    intro r h Q ds env a w hns hd ha
    have hns1 : r = none → noSel x = true := fun h => by have := hns h; simp only [noSel, Bool.and_eq_true] at this; exact this.1
    have hns2 : r = none → noSel y = true := fun h => by have := hns h; simp only [noSel, Bool.and_eq_true] at this; exact this.2
    have hd : condD env c (fun env => denY P n r.isSome x (hL h) Q ds env w) (fun env => denY P n r.isSome y (hR h) Q ds env w) := by cases r <;> exact hd
    obtain ⟨b, env', hb, hA, hS, hr⟩ := condD_ok hd ha.ag (wr x ++ wr y)
    have hA : AgY n ds env' a := ⟨ha.defers, hA⟩
    have hb : a.eval c = .bool b := hb
    cases b
    · exact wpIn_cond hb (wpIn_mono (ihy r (hR h) Q ds env' a w hns2 (by simpa using hr) hA) fun e a w hr => hr.weaken hS fun s hs => by simp [hs])
    · exact wpIn_cond hb (wpIn_mono (ihx r (hL h) Q ds env' a w hns1 (by simpa using hr) hA) fun e a w hr => hr.weaken hS fun s hs => by simp [hs])
  | block id b ih =>
    intro r h Q ds env a w hns hd ha
    have hd : denY P n r.isSome b h (blockY id Q) ds env w := by cases r <;> exact hd
    refine wpIn_block (wpIn_mono (ih r h _ ds env a w hns hd ha) fun e a' w' hr => ?_)
    obtain ⟨ex, ds', env', h1, h2, h3, h4⟩ := hr
    cases e <;> simp only [exOf, Option.some.injEq] at h1 <;> first | (cases h1; done) | skip
    · subst h1; exact ⟨_, ds', env', rfl, h2, h3, h4⟩
    · rename_i i
      subst h1
      simp only [Exit.inBlock, blockY] at h2 ⊢
      split at h2
      · rename_i e
        rw [if_pos (Nat.eq_of_beq_eq_true e)]
        exact ⟨.nrm, ds', env', rfl, h2, h3, h4⟩
      · rename_i e
        rw [if_neg (fun h => by subst h; simp at e)]
        exact ⟨_, ds', env', rfl, h2, h3, h4⟩
    · subst h1; exact ⟨_, ds', env', rfl, h2, h3, h4⟩
  | loop b ih =>
    intro r h Q ds env a w hns hd ha
    have hd : (match slotsOk n ((hK h).getD []) && slotsOk n (wr b) with
      | true => lp (fun Kn xs w => ∀ ys : Nat → Value, denY P n r.isSome b (hL h) (thenY (fun ds' env' w' => ds' = ds ∧ Kn (getK ((hK h).getD []) env') w') Q) ds (bindK ((hK h).getD []) 0 xs (bindY (wr b) ys env)) w) (getK ((hK h).getD []) env) w
      | false => False) := by cases r <;> exact hd
    split at hd
    · obtain ⟨I, ⟨m0, h0⟩, hround⟩ := hd
      generalize hkk : (hK h).getD [] = keep at *
      refine wpIn_loop_ghost (fun m a' w' => ∃ env', AgY n ds env' a' ∧ Same (wr b) env env' ∧ I m (getK keep env') w') m0 ⟨env, ha, Same.refl _ _, h0⟩ ?_
      rintro m a' w' ⟨env', ha', hS', hI⟩
      have hb := hround m (getK keep env') w' hI (look env')
      refine wpIn_mono (ih r (hL h) _ ds _ a' w' hns hb ⟨ha'.defers, ha'.ag.rebind hS' ha.ag.ok⟩) fun e a2 w2 hr => ?_
      obtain ⟨ex, ds2, env2, h1, h2, h3, h4⟩ := hr
      have hS2 : Same (wr b) env env2 := (same_rebind hS').trans h4
      cases e <;> simp only [exOf, Option.some.injEq] at h1 <;> first | (cases h1; done) | skip
      · subst h1
        obtain ⟨rfl, m', hlt, hI2⟩ := h2
        exact ⟨m', hlt, env2, h3, hS2, hI2⟩
      · subst h1; exact ⟨_, ds2, env2, rfl, h2, h3, hS2⟩
      · subst h1; exact ⟨_, ds2, env2, rfl, h2, h3, hS2⟩
    · exact hd.elim
  | rangeFunc g ps assign body iha ihb =>
    intro r h Q ds env a w _ hd ha
    cases r with
    | some l => exact hd.elim
    | none =>
    cases ds with
    | cons d ds => exact hd.elim
    | nil =>
    obtain ⟨p, rfl, hp, hd⟩ : ∃ p, ps = #[p] ∧ p < n ∧ xRng P (ev env g) 1 w (fun l LR LB LX args W T => denY P n true assign .leaf (fun ex ds env2 W2 => match ex with
        | .nrm => ds = [] ∧ LR W2 ∧ ∀ Wb, Ch (fun c => c = l) W2 Wb → LB Wb → denY P n true body h (fun ex ds _ W' => ds = [] ∧ LB W' ∧ rdT ex l LR LX T W') [] env2 Wb
        | _ => False) [] (⟨p, gx args 0, none⟩ :: env) W) (fun d W => Q .nrm [d] env W) (fun i d W => Q (.ext i) [d] env W) (fun d W => Q .ret [d] env W) := by
      obtain ⟨ps⟩ := ps
      cases ps with
      | nil => exact hd.elim
      | cons p rs =>
        cases rs with
        | cons _ _ => exact hd.elim
        | nil =>
          have hd : (match Nat.blt p n with
            | true => xRng P (ev env g) 1 w (fun l LR LB LX args W T => denY P n true assign .leaf (fun ex ds env2 W2 => match ex with
              | .nrm => ds = [] ∧ LR W2 ∧ ∀ Wb, Ch (fun c => c = l) W2 Wb → LB Wb → denY P n true body h (fun ex ds _ W' => ds = [] ∧ LB W' ∧ rdT ex l LR LX T W') [] env2 Wb
              | _ => False) [] (⟨p, gx args 0, none⟩ :: env) W) (fun d W => Q .nrm [d] env W) (fun i d W => Q (.ext i) [d] env W) (fun d W => Q .ret [d] env W)
            | false => False) := hd
          cases hb : Nat.blt p n with
          | false => rw [hb] at hd; exact hd.elim
          | true => rw [hb] at hd; exact ⟨p, rfl, Nat.le_of_ble_eq_true hb, hd⟩
    obtain ⟨gf, lb, hg, hb, hd⟩ := hd
    refine wpIn_rangeFunc ?_
    intro fn hfn
    obtain ⟨rec, hrec⟩ : ∃ rec : LoopState → Option Code → Loop, rec = fun st pe => { state := st, pending := pe, fn, tmps := a.tmps, params := #[p], assign, body, defers := w.heap.size } := ⟨_, rfl⟩
    obtain ⟨W1, hW1⟩ : ∃ W1, (w.alloc (.deferred (some []))).alloc (.loop (rec .ready none)) = W1 := ⟨_, rfl⟩
    have hL1 : W1.heap[w.heap.size + 1]? = some (.loop (rec .ready none)) := by
      rw [← hW1]; have := World.alloc_heap_new (w.alloc (.deferred (some []))) (.loop (rec .ready none)); rwa [World.size_alloc] at this
    have hK1 : W1.heap[w.heap.size]? = some (.deferred (some [])) := by
      rw [← hW1]; exact (Go.RowKit.Below.heap_alloc _ _ _ (by simp)).trans (World.alloc_heap_new w _)
    have hcal := hd (w.heap.size + 1) (fun W => W.heap[w.heap.size + 1]? = some (.loop (rec .ready none)) ∧ Dfo w.heap.size W) (fun W => W.heap[w.heap.size + 1]? = some (.loop (rec .busy none)) ∧ Dfo w.heap.size W)
      (fun e W => e ≠ .nrm ∧ W.heap[w.heap.size + 1]? = some (.loop (rec .done (some (codeOf e)))) ∧ Dfo w.heap.size W) W1 rfl (by rw [← hW1]; simp) (by rw [← hW1]; exact (Ext.alloc w _).trans (Ext.alloc _ _)) ⟨hL1, hK1⟩ ?_ ?_
    · refine ⟨w.heap.size + 1, [{ target := .collected w.heap.size, args := #[] }], W1, { target := .fn (.func gf) lb, args := #[.func (.yield (w.heap.size + 1)) #[] #[]] }, W1, gf,
        #[.func (.yield (w.heap.size + 1)) #[] #[]] ++ lb, W1, ?_, ?_, ?_, ?_, (fun h => by rw [fc_depth] at h; cases h), ?_⟩
      · rw [← hW1, hrec]; exact run_enterLoop_outer _ _ _ _ _
      · have hg' : a.eval g = .func (.func gf) #[] lb := by rw [ha.eval]; exact hg
        simp only [resolve, hg']
        simp [go_sem]
      · intro f' _; exact fc_fn none f'
      · simp [invoke, go_sem, callFunc_run hb]
      · refine callsIn_fc none (hcal.2.mono ?_)
        rintro _ W2 ⟨v, rfl, h2⟩
        have hA : AgY n [w.heap.size] env { a with defers := [{ target := .collected w.heap.size, args := #[] }] ++ a.defers } := ⟨by rw [ha.defers]; rfl, ha.ag⟩
        rcases h2 with ⟨⟨hl, hk⟩, hQ⟩ | ⟨i, ⟨hne, hl, hk⟩, hQ⟩ | ⟨⟨hne, hl, hk⟩, hQ⟩
        · have hlt := (Array.getElem?_eq_some_iff.1 hl).1
          refine ⟨none, _, by have := run_endLoop (P := P) hl (by rw [hrec]; simp); rw [hrec] at this; exact this, ⟨.nrm, [w.heap.size], env, rfl, hQ _ putObj_ch ((World.putObj_heap_other (by omega)).trans hk), hA, Same.refl _ _⟩⟩
        · have hend := run_endLoop (P := P) hl (by rw [hrec]; simp)
          have hq := hQ _ putObj_ch ((World.putObj_heap_other (o := .loop { rec .done (some (codeOf (.ext i))) with state := .exhausted }) (by omega)).trans hk)
          rw [hrec] at hend hq
          exact ⟨some (.exit i), _, hend, wpIn_exit ⟨.ext i, [w.heap.size], env, rfl, hq, hA, Same.refl _ _⟩⟩
        · have hend := run_endLoop (P := P) hl (by rw [hrec]; simp)
          have hq := hQ _ putObj_ch ((World.putObj_heap_other (o := .loop { rec .done (some (codeOf .ret)) with state := .exhausted }) (by omega)).trans hk)
          rw [hrec] at hend hq
          exact ⟨some .ret, _, hend, wpIn_ret ⟨.ret, [w.heap.size], env, rfl, hq, hA, Same.refl _ _⟩⟩
    · intro S W W' hch h1 h0
      have hk : ∀ k o, ¬ S k → W.heap[k]? = some o → W'.heap[k]? = some o := fun k o hn ho => (hch.block k (Array.getElem?_eq_some_iff.1 ho).1 hn).trans ho
      exact ⟨fun h => ⟨hk _ _ h1 h.1, hk _ _ h0 h.2⟩, fun h => ⟨hk _ _ h1 h.1, hk _ _ h0 h.2⟩, fun e h => ⟨h.1, hk _ _ h1 h.2.1, hk _ _ h0 h.2.2⟩⟩
    · rintro args W T ⟨hl, hk⟩ hlen hB
      obtain ⟨v, rfl⟩ : ∃ v, args = [v] := by
        match args, hlen with
        | [v], _ => exact ⟨v, rfl⟩
      have hy := run_yield (P := P) (args := #[v]) hl (by rw [hrec]; rfl)
      rw [hrec] at hy
      refine .inr ⟨w.heap.size + 1, rfl, fn, _, assign, body, hy, roundIn_of_wpIn (F := Fence.wide) trivial ?_⟩
      have hA : AgY n [] (⟨p, gx [v] 0, none⟩ :: env) { tmps := (#[p].zip #[v]).foldl (fun t (p, v) => t.setIfInBounds p v) a.tmps, defers := [] } := by
        have := ha.ag.put hp (v := v) (k := none) (fun b e => by cases e)
        refine ⟨rfl, (show Ag n (⟨p, v, none⟩ :: env) _ from ?_)⟩
        simpa [Act.put] using this
      refine wpIn_mono (iha (some (w.heap.size + 1)) .leaf _ [] _ _ W (fun h => by cases h) hB hA) ?_
      rintro e a1 W2 ⟨ex, ds1, env1, he, hq, hA1, _⟩
      cases ex with
      | ext i => exact hq.elim
      | ret => exact hq.elim
      | nrm =>
        obtain ⟨rfl, ⟨hl2, hk2⟩, hbody⟩ := hq
        cases e <;> simp only [exOf, Option.some.injEq] at he <;> first | (cases he; done) | skip
        have hlt2 := (Array.getElem?_eq_some_iff.1 hl2).1
        have hbr := run_beginRound (P := P) hl2 (by rw [hrec])
        have hlb : (W2.putObj (w.heap.size + 1) (.loop (rec .busy none))).heap[w.heap.size + 1]? = some (.loop (rec .busy none)) := World.putObj_heap_same hlt2
        have hbr : (Instr.beginRound (w.heap.size + 1)).run P W2 = .ok () (W2.putObj (w.heap.size + 1) (.loop (rec .busy none))) := by
          rw [hbr, hrec]
        refine ⟨_, hbr, wpIn_mono (ihb (some (w.heap.size + 1)) h _ [] env1 a1 _ (fun h => by cases h) (hbody _ putObj_ch ⟨hlb, (World.putObj_heap_other (by omega)).trans hk2⟩) hA1) ?_⟩
        rintro e a3 W3 ⟨ex, ds3, env3, he, ⟨rfl, ⟨hl3, hk3⟩, hT⟩, _, _⟩
        have hlt3 := (Array.getElem?_eq_some_iff.1 hl3).1
        have fin : ∀ (jump : Option Code), (Instr.endRound (w.heap.size + 1) jump).run P W3 = .ok (.bool jump.isNone) (W3.putObj (w.heap.size + 1) (.loop (rec (if jump.isNone then .ready else .done) jump))) ∧
            (W3.putObj (w.heap.size + 1) (.loop (rec (if jump.isNone then .ready else .done) jump))).heap[w.heap.size + 1]? = some (.loop (rec (if jump.isNone then .ready else .done) jump)) ∧ Dfo w.heap.size (W3.putObj (w.heap.size + 1) (.loop (rec (if jump.isNone then .ready else .done) jump))) := fun jump => by
          have := run_endRound (P := P) jump hl3
          refine ⟨?_, World.putObj_heap_same hlt3, (World.putObj_heap_other (by omega)).trans hk3⟩
          rw [this, hrec]
        cases e <;> simp only [exOf, Option.some.injEq] at he <;> first | (cases he; done) | skip
        · subst he
          obtain ⟨f1, f2, f3⟩ := fin none
          exact ⟨_, _, f1, _, rfl, hT _ putObj_ch ⟨f2, f3⟩⟩
        · rename_i i
          subst he
          obtain ⟨f1, f2, f3⟩ := fin (some (.exit i))
          exact ⟨_, _, f1, _, rfl, hT _ putObj_ch ⟨by simp, f2, f3⟩⟩
        · subst he
          obtain ⟨f1, f2, f3⟩ := fin (some .ret)
          exact ⟨_, _, f1, _, rfl, hT _ putObj_ch ⟨by simp, f2, f3⟩⟩
def finY (P : Program) (fn : Func) (R : Value → World → Prop) : ContY
  | [], env, w => resD P env w fn.results.toList fun vs => R (retV vs) w
  | [d], env, w => Dfo d w ∧ ∀ w', Ch (fun c => c = d) w w' → resD P env w' fn.results.toList fun vs => R (retV vs) w'
  | _, _, _ => False
def denFY (P : Program) (fn : Func) (c : Code) (h : Hint) (args : List Value) (w : World) (R : Value → World → Prop) : Prop :=
  denY P fn.ntmps false c h (fun e ds env w => match e with
    | .nrm => finY P fn R ds env w
    | .ret => finY P fn R ds env w
    | .ext _ => False) [] (initEnv 0 args) w
theorem finY_ok {fn : Func} {R : Value → World → Prop} {ds : List Nat} {env : Env} {a : Act} {w : World} (h : finY P fn R ds env w) (ha : AgY fn.ntmps ds env a) : LeavesInM (fc none) 0 P fn a.tmps (fun e w' => ∃ v, e = .returned v ∧ R v w') a.defers .returning w := by
  match ds, h with
  | [], h =>
    rw [ha.defers]
    obtain ⟨v, hv, hR⟩ := results_ok (R := fun v => R v w) ha.ag.vals h
    exact ⟨v, hv, v, rfl, hR⟩
  | [d], h =>
    rw [ha.defers]
    obtain ⟨hd, h⟩ := h
    refine ⟨by simp, .inl ⟨_, _, rfl, run_takeDeferred hd, ?_⟩⟩
    obtain ⟨v, hv, hR⟩ := results_ok (R := fun v => R v _) ha.ag.vals (h _ putObj_ch)
    exact ⟨v, hv, v, rfl, hR⟩
theorem cal_of_denY {f : FuncId} {fn : Func} {c : Code} {h : Hint} {args : List Value} {w : World} {R : Value → World → Prop} (hm : P.follows .mixedOrders = true)
    (hf : P.funcs[f]? = some fn) (hn : (fn.name == "runtime.NumGoroutine") = false) (hb : fn.body = some c) (hs : noSel c = true) (ha : Nat.ble args.length fn.ntmps = true)
    (hd : denFY P fn c h args w R) : Cal P f args.toArray w R := by
  refine ⟨⟨fn, hf, hn, by rw [hb]; rfl⟩, callsIn_wide.1 (callsIn_of_wp_marks (n := 0) hf hb trivial ?_ rfl)⟩
  have hle : args.length ≤ fn.ntmps := Nat.le_of_ble_eq_true ha
  have hA : Ag fn.ntmps (initEnv 0 args) { tmps := args.toArray ++ Array.replicate (fn.ntmps - args.toArray.size) undef, defers := [] } := by
    refine ⟨rfl, by simp; omega, fun s => ?_, ok_init _ _⟩
    rw [look_init]
    simp only [Nat.zero_le, if_true, Nat.sub_zero]
    by_cases h1 : s < args.length
    · simp [Array.getElem?_append, h1]
    · simp only [Array.getD_eq_getD_getElem?, Array.getElem?_append, List.size_toArray, h1, if_false]
      rw [show args.getD s undef = undef by simp [List.getD, List.getElem?_eq_none (show args.length ≤ s by omega)]]
      by_cases h2 : s - args.length < fn.ntmps - args.length
      · simp [h2]
      · simp [h2]
  refine wpIn_mono (denY_ok hm c none h _ [] _ _ w (fun _ => hs) hd ⟨rfl, hA⟩) fun e a' w' hr => ?_
  obtain ⟨ex, ds, env', h1, h2, h3, h4⟩ := hr
  cases e <;> simp only [exOf, Option.some.injEq] at h1 <;> first | (cases h1; done) | skip
  · subst h1; exact finY_ok h2 h3
  · subst h1; exact h2.elim
  · subst h1; exact finY_ok h2 h3
end
end Go.Vc

set_option maxRecDepth 100000
namespace Go.Proofs.YtaipnnkpplinoaaGreatDoor
open Go.Vc
abbrev f_impl_isValid : FuncId := 57
def SY_impl_isValid (v0 v1 : Value) (w : World) (R : Value → World → Prop) : Prop :=
  xNew (Value.cells v0) 26 w fun v2 w1 =>
 xNew (Value.cells v1) 39 w1 fun v3 w2 =>
 xNew (Value.cells (.bool false)) 4 w2 fun v4 w3 =>
 xLdA w3 2 v2 fun v6 =>
 xLd w3 v3 fun v7 =>
 ∀ w4, Ext w3 w4 → xBs 39 (Value.cells (.slice none 0 0)) 1 1 [(0, v7)] w4 fun v8 w5 =>
 Ext w4 w5 ∧ ∀ w6, Ext w5 w6 → callV Tryz.prog (.func (.func 117) #[] #[]) [v8] w6 fun v9 w7 =>
 Ext w6 w7 ∧ ∀ w8, Ext w7 w8 → callV Tryz.prog (.func (.func 118) #[] #[]) [v6, v9] w8 fun v10 w9 =>
 ∀ w10, Ext w9 w10 → xRng Tryz.prog v10 1 w10 (fun l11 LR11 LB11 LX11 as11 W11 T11 =>
 ([] : List Nat) = [] ∧ LR11 W11 ∧ ∀ Wb11, Ch (fun c =>
 c = l11) W11 Wb11 → LB11 Wb11 → xLdA Wb11 2 v2 fun v12 =>
 xLd Wb11 v3 fun v14 =>
 callQ Tryz.prog (.func (.func 119) #[] #[]) [v12, (gx as11 0), v14] Wb11 fun v15 =>
 xLdA Wb11 2 v2 fun v16 =>
 callQ Tryz.prog (.func (.func 120) #[] #[]) [v16] Wb11 fun v17 =>
 xNe .i64 v15 v17 fun v18 =>
 ∀ w12, Ext Wb11 w12 → cnd v18 (xSt w12 v4 (.bool false) fun w13 =>
 ([] : List Nat) = [] ∧ LB11 w13 ∧ rdT .ret l11 LR11 LX11 T11 w13) (([] : List Nat) = [] ∧ LB11 w12 ∧ rdT .nrm l11 LR11 LX11 T11 w12)) (fun d11 u11 =>
 xSt u11 v4 (.bool true) fun w14 =>
 Dfo d11 w14 ∧ ∀ w15, Ch (fun c =>
 c = d11) w14 w15 → xLd w15 v4 fun r16 =>
 R r16 w15) (fun i11 d11 u11 =>
 natE i11 0 (xSt u11 v4 (.bool true) fun w19 =>
 Dfo d11 w19 ∧ ∀ w20, Ch (fun c =>
 c = d11) w19 w20 → xLd w20 v4 fun r21 =>
 R r21 w20) (False)) (fun d11 u11 =>
 Dfo d11 u11 ∧ ∀ w17, Ch (fun c =>
 c = d11) u11 w17 → xLd w17 v4 fun r18 =>
 R r18 w17)
theorem eY_impl_isValid (v0 v1 : Value) (w : World) (R : Value → World → Prop) : SY_impl_isValid v0 v1 w R = denFY Tryz.prog Tryz.f57 (Tryz.f57.body.getD .skip) (.node none .leaf (.node none (.node none .leaf (.node none (.reg [3, 5] none) .leaf)) .leaf)) [v0, v1] w R := by kernel_rfl
theorem cY_impl_isValid {v0 v1 : Value} {w : World} {R : Value → World → Prop} (h : SY_impl_isValid v0 v1 w R) : Cal Tryz.prog f_impl_isValid #[v0, v1] w R :=
  cal_of_denY wide_any Tryz.func57 (by kernel_rfl) (show Tryz.f57.body = some (Tryz.f57.body.getD .skip) by kernel_rfl) (by kernel_rfl) (by kernel_rfl) ((eY_impl_isValid v0 v1 w R).mp h)
theorem hb_impl_valuations_1 : HasB Tryz.prog f_impl_valuations_1 := ⟨_, Tryz.func205, by kernel_rfl, by kernel_rfl⟩
def SY_impl_valuations_1 (v0 v1 v2 : Value) (w : World) (R : Value → World → Prop) : Prop :=
  xMk 2 (Value.cells (.int .i64 0)) 1 8 (.int .i64 6) (.int .i64 6) w fun v9 w1 =>
 xLd w1 v1 fun v10 =>
 callV Tryz.prog (.func (.func 83) #[] #[]) [v10] w1 fun v11 w2 =>
 xFa 0 v2 fun v12 =>
 xLd w2 v12 fun v13 =>
 xMul .i64 v13 v11 fun v15 =>
 xSh iShl .i64 (.int .i64 1) v15 fun v16 =>
 lp (fun K3 xs3 w4 =>
 ∀ _ : Nat → Value, xLt .i64 (gx xs3 0) v16 fun v18 =>
 cnd v18 (xLd w4 v1 fun v20 =>
 xLenS v20 fun v21 =>
 lp (fun K5 xs5 w6 =>
 ∀ _ : Nat → Value, xLt .i64 (gx xs5 0) v21 fun v23 =>
 cnd v23 (xIa 1 v20 (gx xs5 0) fun v25 =>
 xLd w6 v25 fun v26 =>
 xFa 0 v2 fun v30 =>
 xLd w6 v30 fun v31 =>
 xSub .i64 v11 (.int .i64 1) fun v33 =>
 xSub .i64 v33 (gx xs5 0) fun v35 =>
 xMul .i64 v31 v35 fun v36 =>
 xSh iShr .i64 (gx xs3 0) v36 fun v37 =>
 xLdA w6 2 v2 fun v38 =>
 callQ Tryz.prog (.func (.func 120) #[] #[]) [v38] w6 fun v39 =>
 xBits iAnd .i64 v37 v39 fun v40 =>
 xIa 1 v9 v26 fun v41 =>
 ∀ w7, Ext w6 w7 → xSt w7 v41 v40 fun w8 =>
 ∀ w9, Ext w8 w9 → xAdd .i64 (gx xs5 0) (.int .i64 1) fun v42 =>
 ([] : List Nat) = ([] : List Nat) ∧ K5 [v42] w9) (callY Tryz.prog v0 [v9] w6 fun v45 w10 =>
 xNot v45 fun v46 =>
 cnd v46 (R (.tuple #[]) w10) (xAdd .i64 (gx xs3 0) (.int .i64 1) fun v47 =>
 ([] : List Nat) = ([] : List Nat) ∧ K3 [v47] w10))) [(.int .i64 0)] w4) (R (.tuple #[]) w4)) [(.int .i64 0)] w2
theorem eY_impl_valuations_1 (v0 v1 v2 : Value) (w : World) (R : Value → World → Prop) : SY_impl_valuations_1 v0 v1 v2 w R = denFY Tryz.prog Tryz.f205 (Tryz.f205.body.getD .skip) (.node none .leaf (.node none .leaf (.node none .leaf (.node (some [17]) (.node none .leaf (.node none .leaf (.node none (.node none .leaf (.node none (.node none .leaf (.node (some [22]) (.node none .leaf (.node none .leaf (.node none (.node none .leaf (.reg [12] none)) .leaf))) .leaf)) .leaf)) .leaf))) .leaf)))) [v0, v1, v2] w R := by kernel_rfl
theorem cY_impl_valuations_1 {v0 v1 v2 : Value} {w : World} {R : Value → World → Prop} (h : SY_impl_valuations_1 v0 v1 v2 w R) : Cal Tryz.prog f_impl_valuations_1 #[v0, v1, v2] w R :=
  cal_of_denY wide_any Tryz.func205 (by kernel_rfl) (show Tryz.f205.body = some (Tryz.f205.body.getD .skip) by kernel_rfl) (by kernel_rfl) (by kernel_rfl) ((eY_impl_valuations_1 v0 v1 v2 w R).mp h)
end Go.Proofs.YtaipnnkpplinoaaGreatDoor

namespace Go.Vc
abbrev RN := Int × Int
def rcell (q : RN) : List Value := [.int .i64 q.1, .int .i64 q.2]
def cellsN (N : List RN) : List Value := N.flatMap rcell
def rawF : Fm → List RN
  | .var v => [(0, (v : Int))]
  | .fls => [(1, 0)]
  | .and a b => (2, 0) :: (rawF a ++ rawF b)
  | .or a b => (3, 0) :: (rawF a ++ rawF b)
  | .imp a b => (4, 0) :: (rawF a ++ rawF b)
  | .box a => (5, 0) :: rawF a
  | .dia a => (6, 0) :: rawF a
theorem cellsN_cons (q : RN) (N : List RN) : cellsN (q :: N) = rcell q ++ cellsN N := by simp [cellsN]
theorem cellsN_app (M N : List RN) : cellsN (M ++ N) = cellsN M ++ cellsN N := by simp [cellsN]
theorem cellsN_raw : ∀ f : Fm, cellsN (rawF f) = f.cells
  | .var v => rfl
  | .fls => rfl
  | .and a b => by rw [rawF, cellsN_cons, cellsN_app, cellsN_raw a, cellsN_raw b]; simp [Fm.cells, rcell]
  | .or a b => by rw [rawF, cellsN_cons, cellsN_app, cellsN_raw a, cellsN_raw b]; simp [Fm.cells, rcell]
  | .imp a b => by rw [rawF, cellsN_cons, cellsN_app, cellsN_raw a, cellsN_raw b]; simp [Fm.cells, rcell]
  | .box a => by rw [rawF, cellsN_cons, cellsN_raw a]; simp [Fm.cells, rcell]
  | .dia a => by rw [rawF, cellsN_cons, cellsN_raw a]; simp [Fm.cells, rcell]
theorem rawF_len : ∀ f : Fm, (rawF f).length = f.size
  | .var _ => rfl
  | .fls => rfl
  | .and a b => by simp only [rawF, Fm.size, List.length_cons, List.length_append, rawF_len a, rawF_len b]; omega
  | .or a b => by simp only [rawF, Fm.size, List.length_cons, List.length_append, rawF_len a, rawF_len b]; omega
  | .imp a b => by simp only [rawF, Fm.size, List.length_cons, List.length_append, rawF_len a, rawF_len b]; omega
  | .box a => by simp only [rawF, Fm.size, List.length_cons, rawF_len a]; omega
  | .dia a => by simp only [rawF, Fm.size, List.length_cons, rawF_len a]; omega
theorem cellsN_len (N : List RN) : (cellsN N).length = N.length * 2 := by
  induction N with
  | nil => rfl
  | cons q N ih => rw [cellsN_cons, List.length_append, ih, List.length_cons]; show 2 + _ = _; omega
theorem cellsN_at : ∀ {N : List RN} {i : Nat} (h : i < N.length), (cellsN N)[i * 2 + 0]? = some (.int .i64 N[i].1) ∧ (cellsN N)[i * 2 + 1]? = some (.int .i64 N[i].2)
  | [], _, h => by simp at h
  | q :: N, 0, _ => ⟨rfl, rfl⟩
  | q :: N, i + 1, h => by
    have := cellsN_at (N := N) (i := i) (by simpa using h)
    have e : ∀ f, (cellsN (q :: N))[(i + 1) * 2 + f]? = (cellsN N)[i * 2 + f]? := fun f => by
      rw [cellsN_cons, List.getElem?_append_right (by simp [rcell]; omega)]
      congr 1
      simp [rcell]; omega
    rw [e, e]
    simpa using this
def okN (q : RN) : Bool := decide (0 ≤ q.1 ∧ q.1 ≤ 6) && (decide (0 ≤ q.2 ∧ q.2 ≤ 5) && (decide (q.1 = 0) || decide (q.2 = 0)))
theorem okN_iff {q : RN} : okN q = true ↔ (0 ≤ q.1 ∧ q.1 ≤ 6) ∧ (0 ≤ q.2 ∧ q.2 ≤ 5) ∧ (q.1 = 0 ∨ q.2 = 0) := by
  unfold okN
  rw [Bool.and_eq_true, Bool.and_eq_true, Bool.or_eq_true, decide_eq_true_eq, decide_eq_true_eq, decide_eq_true_eq, decide_eq_true_eq]
def arZ (k : Int) : Nat := if k = 2 ∨ k = 3 ∨ k = 4 then 2 else if k = 5 ∨ k = 6 then 1 else 0
theorem arZ_nat (k : Nat) : arZ (k : Int) = arity k := by
  unfold arZ arity
  have h1 : ((k : Int) = 2 ∨ (k : Int) = 3 ∨ (k : Int) = 4) ↔ (k = 2 ∨ k = 3 ∨ k = 4) := by omega
  have h2 : ((k : Int) = 5 ∨ (k : Int) = 6) ↔ (k = 5 ∨ k = 6) := by omega
  by_cases c1 : k = 2 ∨ k = 3 ∨ k = 4
  · rw [if_pos (h1.2 c1), if_pos c1]
  · rw [if_neg (fun h => c1 (h1.1 h)), if_neg c1]
    by_cases c2 : k = 5 ∨ k = 6
    · rw [if_pos (h2.2 c2), if_pos c2]
    · rw [if_neg (fun h => c2 (h2.1 h)), if_neg c2]
def goN : List RN → Nat → Option (List RN)
  | N, 0 => some N
  | [], _ + 1 => none
  | q :: N, o + 1 => goN N (o + arZ q.1)
theorem goN_zero (N : List RN) : goN N 0 = some N := by cases N <;> rfl
theorem goN_cons (q : RN) (N : List RN) (o : Nat) : goN (q :: N) (o + 1) = goN N (o + arZ q.1) := rfl
theorem goN_raw : ∀ (f : Fm) (R : List RN) (o : Nat), goN (rawF f ++ R) (o + 1) = goN R o
  | .var v, R, o => rfl
  | .fls, R, o => rfl
  | .and a b, R, o => by
    show goN (rawF a ++ rawF b ++ R) (o + 1 + 1) = _
    rw [List.append_assoc, goN_raw a, goN_raw b]
  | .or a b, R, o => by
    show goN (rawF a ++ rawF b ++ R) (o + 1 + 1) = _
    rw [List.append_assoc, goN_raw a, goN_raw b]
  | .imp a b, R, o => by
    show goN (rawF a ++ rawF b ++ R) (o + 1 + 1) = _
    rw [List.append_assoc, goN_raw a, goN_raw b]
  | .box a, R, o => by
    show goN (rawF a ++ R) (o + 1) = _
    rw [goN_raw a]
  | .dia a, R, o => by
    show goN (rawF a ++ R) (o + 1) = _
    rw [goN_raw a]
theorem goN_parse : ∀ (N : List RN) (o : Nat) (R : List RN), (∀ q ∈ N, okN q = true) → goN N o = some R → ∃ fs : List Fm, fs.length = o ∧ (∀ f ∈ fs, f.good) ∧ N = fs.flatMap rawF ++ R
  | N, 0, R, _, h => by
    rw [goN_zero] at h
    refine ⟨[], rfl, fun f hf => ?_, ?_⟩
    · cases hf
    · exact Option.some.inj h
  | [], o + 1, R, _, h => by cases h
  | q :: N, o + 1, R, hok, h => by
    rw [goN_cons] at h
    obtain ⟨fs, hl, hg, hN⟩ := goN_parse N (o + arZ q.1) R (fun x hx => hok x (List.mem_cons_of_mem _ hx)) h
    obtain ⟨k, s⟩ := q
    have hq := okN_iff.1 (hok _ List.mem_cons_self)
    obtain ⟨⟨k0, k6⟩, ⟨s0, s5⟩, hks⟩ := hq
    have k0 : 0 ≤ k := k0
    have k6 : k ≤ 6 := k6
    have s0 : 0 ≤ s := s0
    have s5 : s ≤ 5 := s5
    have hks : k = 0 ∨ s = 0 := hks
    have hl : fs.length = o + arZ k := hl
    have two : ∀ {c : Fm → Fm → Fm} {kk : Int}, k = kk → arZ k = 2 → s = 0 → (∀ a b, rawF (c a b) = (kk, 0) :: (rawF a ++ rawF b)) → (∀ a b, a.good → b.good → (c a b).good) → ∃ fs : List Fm, fs.length = o + 1 ∧ (∀ f ∈ fs, f.good) ∧ (k, s) :: N = fs.flatMap rawF ++ R := by
      intro c kk hk h2 hs hc hcg
      rw [h2] at hl
      match fs, hl, hg, hN with
      | a :: b :: fs, hl, hg, hN =>
        refine ⟨c a b :: fs, by simpa using hl, fun f hf => ?_, ?_⟩
        · rcases List.mem_cons.1 hf with rfl | hf
          · exact hcg _ _ (hg a (by simp)) (hg b (by simp))
          · exact hg f (by simp [hf])
        · rw [hN, hk, hs]; simp [hc]
    have one : ∀ {c : Fm → Fm} {kk : Int}, k = kk → arZ k = 1 → s = 0 → (∀ a, rawF (c a) = (kk, 0) :: rawF a) → (∀ a, a.good → (c a).good) → ∃ fs : List Fm, fs.length = o + 1 ∧ (∀ f ∈ fs, f.good) ∧ (k, s) :: N = fs.flatMap rawF ++ R := by
      intro c kk hk h2 hs hc hcg
      rw [h2] at hl
      match fs, hl, hg, hN with
      | a :: fs, hl, hg, hN =>
        refine ⟨c a :: fs, by simpa using hl, fun f hf => ?_, ?_⟩
        · rcases List.mem_cons.1 hf with rfl | hf
          · exact hcg _ (hg a (by simp))
          · exact hg f (by simp [hf])
        · rw [hN, hk, hs]; simp [hc]
    have nul : ∀ {c : Fm}, arZ k = 0 → rawF c = [(k, s)] → c.good → ∃ fs : List Fm, fs.length = o + 1 ∧ (∀ f ∈ fs, f.good) ∧ (k, s) :: N = fs.flatMap rawF ++ R := by
      intro c h2 hc hcg
      rw [h2] at hl
      refine ⟨c :: fs, by rw [List.length_cons]; omega, fun f hf => ?_, ?_⟩
      · rcases List.mem_cons.1 hf with rfl | hf
        · exact hcg
        · exact hg f hf
      · rw [hN, List.flatMap_cons, hc]; simp
    have hcase : k = 0 ∨ k = 1 ∨ k = 2 ∨ k = 3 ∨ k = 4 ∨ k = 5 ∨ k = 6 := by omega
    rcases hcase with h | h | h | h | h | h | h
    · refine nul (c := .var s.toNat) (by rw [h]; rfl) ?_ (show s.toNat < 6 by omega)
      rw [h]
      show [(0, ((s.toNat : Nat) : Int))] = _
      rw [Int.toNat_of_nonneg s0]
    · have hs : s = 0 := by omega
      exact nul (c := .fls) (by rw [h]; rfl) (by rw [h, hs]; rfl) trivial
    · exact two (c := .and) h (by rw [h]; rfl) (by omega) (fun _ _ => rfl) fun _ _ h1 h2 => ⟨h1, h2⟩
    · exact two (c := .or) h (by rw [h]; rfl) (by omega) (fun _ _ => rfl) fun _ _ h1 h2 => ⟨h1, h2⟩
    · exact two (c := .imp) h (by rw [h]; rfl) (by omega) (fun _ _ => rfl) fun _ _ h1 h2 => ⟨h1, h2⟩
    · exact one (c := .box) h (by rw [h]; rfl) (by omega) (fun _ => rfl) fun _ h1 => h1
    · exact one (c := .dia) h (by rw [h]; rfl) (by omega) (fun _ => rfl) fun _ h1 => h1
theorem rawF_ok : ∀ {f : Fm}, f.good → ∀ q ∈ rawF f, okN q = true
  | .var v, h, q, hq => by
    simp only [rawF, List.mem_singleton] at hq
    subst hq
    have h : v < 6 := h
    exact okN_iff.2 ⟨by simp, by simp; omega, .inl rfl⟩
  | .fls, _, q, hq => by simp only [rawF, List.mem_singleton] at hq; subst hq; rfl
  | .and a b, h, q, hq => by
    simp only [rawF, List.mem_cons, List.mem_append] at hq
    rcases hq with rfl | hq | hq
    · rfl
    · exact rawF_ok h.1 q hq
    · exact rawF_ok h.2 q hq
  | .or a b, h, q, hq => by
    simp only [rawF, List.mem_cons, List.mem_append] at hq
    rcases hq with rfl | hq | hq
    · rfl
    · exact rawF_ok h.1 q hq
    · exact rawF_ok h.2 q hq
  | .imp a b, h, q, hq => by
    simp only [rawF, List.mem_cons, List.mem_append] at hq
    rcases hq with rfl | hq | hq
    · rfl
    · exact rawF_ok h.1 q hq
    · exact rawF_ok h.2 q hq
  | .box a, h, q, hq => by
    simp only [rawF, List.mem_cons] at hq
    rcases hq with rfl | hq
    · rfl
    · exact rawF_ok (f := a) h q hq
  | .dia a, h, q, hq => by
    simp only [rawF, List.mem_cons] at hq
    rcases hq with rfl | hq
    · rfl
    · exact rawF_ok (f := a) h q hq
def treeN (N : List RN) : Bool := N.all okN && decide (goN N 1 = some [])
def isN (N : List RN) : Bool := decide (N.length ≤ 40) && treeN N
theorem treeN_iff {N : List RN} : treeN N = true ↔ ∃ f : Fm, f.good ∧ N = rawF f := by
  unfold treeN
  rw [Bool.and_eq_true, decide_eq_true_eq, List.all_eq_true]
  constructor
  · rintro ⟨h1, h2⟩
    obtain ⟨fs, hl, hg, hN⟩ := goN_parse N 1 [] h1 h2
    match fs, hl, hg, hN with
    | [f], _, hg, hN => exact ⟨f, hg f (by simp), by simpa using hN⟩
  · rintro ⟨f, hg, rfl⟩
    refine ⟨rawF_ok hg, ?_⟩
    have := goN_raw f [] 0
    rw [List.append_nil] at this
    rw [this]; rfl
theorem isN_iff {N : List RN} : isN N = true ↔ ∃ f : Fm, f.good ∧ f.size ≤ 40 ∧ N = rawF f := by
  unfold isN
  rw [Bool.and_eq_true, decide_eq_true_eq, treeN_iff]
  constructor
  · rintro ⟨h, f, hg, rfl⟩
    exact ⟨f, hg, by rwa [rawF_len] at h, rfl⟩
  · rintro ⟨f, hg, h, rfl⟩
    exact ⟨by rwa [rawF_len], f, hg, rfl⟩
end Go.Vc

namespace Go.Proofs.YtaipnnkpplinoaaGreatDoor
open Go.Vc
def sfx : List Fm → Nat → List Fm
  | fs, 0 => fs
  | [], _ + 1 => []
  | f :: fs, n + 1 => sfx (f.kids ++ fs) n
theorem sfx_succ : ∀ (n : Nat) (fs : List Fm), sfx fs (n + 1) = match sfx fs n with | f :: r => f.kids ++ r | [] => []
  | 0, [] => rfl
  | 0, f :: fs => by simp [sfx]
  | n + 1, [] => rfl
  | n + 1, f :: fs => sfx_succ n (f.kids ++ fs)
theorem sfx_size : ∀ (n : Nat) (fs : List Fm), sizeL (sfx fs n) = sizeL fs - n
  | 0, fs => by simp [sfx]
  | n + 1, [] => by simp [sfx, sizeL]
  | n + 1, f :: fs => by
    show sizeL (sfx (f.kids ++ fs) n) = _
    have h1 := f.size_kids
    rw [sfx_size n, sizeL_app, show sizeL (f :: fs) = f.size + sizeL fs by simp [sizeL]]
    omega
theorem sfx_cells : ∀ (n : Nat) (fs : List Fm), (cellsL fs).drop (n * 2) = cellsL (sfx fs n)
  | 0, fs => by simp [sfx]
  | n + 1, [] => by simp [sfx, cellsL]
  | n + 1, f :: fs => by
    show _ = cellsL (sfx (f.kids ++ fs) n)
    rw [← sfx_cells n, cellsL_app, show cellsL (f :: fs) = f.cells ++ cellsL fs by simp [cellsL], f.cells_kids, List.append_assoc, show (n + 1) * 2 = n * 2 + 2 by omega, ← List.drop_drop]
    rw [show (nd f.kind f.sym ++ (cellsL f.kids ++ cellsL fs)).drop (n * 2) = (nd f.kind f.sym ++ (cellsL f.kids ++ cellsL fs)).drop (n * 2) from rfl, List.drop_drop, show n * 2 + 2 = 2 + n * 2 by omega, ← List.drop_drop]
    rfl
theorem sfx_all {Q : Fm → Prop} (hQ : ∀ f, Q f → ∀ g ∈ f.kids, Q g) : ∀ (n : Nat) (fs : List Fm), (∀ f ∈ fs, Q f) → ∀ f ∈ sfx fs n, Q f
  | 0, fs, h => by simpa [sfx] using h
  | n + 1, [], h => by simp [sfx]
  | n + 1, f :: fs, h => by
    show ∀ g ∈ sfx (f.kids ++ fs) n, Q g
    refine sfx_all hQ n _ fun g hg => ?_
    rcases List.mem_append.1 hg with hg | hg
    · exact hQ f (h f List.mem_cons_self) g hg
    · exact h g (List.mem_cons_of_mem _ hg)
end Go.Proofs.YtaipnnkpplinoaaGreatDoor

namespace Go.Vc
abbrev RawS (w : World) (v : Value) (N : List RN) : Prop := SlK 2 w v N.length (cellsN N)
theorem goN_drop {N : List RN} {j : Nat} (hj : j < N.length) (o : Nat) : goN (N.drop j) (o + 1) = goN (N.drop (j + 1)) (o + arZ N[j].1) := by
  rw [List.drop_eq_getElem_cons hj]; rfl
def endN (N : List RN) (i : Nat) : Int := match goN (N.drop i) 1 with
  | some R => ((N.length - R.length : Nat) : Int)
  | none => -1
theorem goN_len : ∀ (N : List RN) (o : Nat) (R : List RN), goN N o = some R → R.length ≤ N.length
  | N, 0, R, h => by rw [goN_zero] at h; cases h; exact Nat.le_refl _
  | [], _ + 1, _, h => by cases h
  | q :: N, o + 1, R, h => by
    rw [goN_cons] at h
    have := goN_len N _ R h
    rw [List.length_cons]; omega
theorem endN_tree {N : List RN} (h : N.all okN = true) (hp : 0 < N.length) : decide (endN N 0 = (N.length : Int)) = treeN N := by
  unfold treeN endN
  rw [h, Bool.true_and, List.drop_zero]
  cases hg : goN N 1 with
  | none => 
    refine decide_eq_decide.2 ⟨fun e => ?_, fun e => by cases e⟩
    have e : (-1 : Int) = (N.length : Int) := e
    omega
  | some R =>
    have hl := goN_len N 1 R hg
    refine decide_eq_decide.2 ⟨fun e => ?_, fun e => ?_⟩
    · have e : ((N.length - R.length : Nat) : Int) = (N.length : Int) := e
      have : R = [] := List.length_eq_zero_iff.1 (by omega)
      rw [this]
    · cases e
      show ((N.length - 0 : Nat) : Int) = _
      rw [Nat.sub_zero]
theorem okN_nat {q : RN} (h : okN q = true) : ∃ k s : Nat, q = ((k : Int), (s : Int)) ∧ k ≤ 6 ∧ s ≤ 5 := by
  obtain ⟨⟨h1, h2⟩, ⟨h3, h4⟩, _⟩ := okN_iff.1 h
  obtain ⟨a, b⟩ := q
  have h1 : 0 ≤ a := h1
  have h2 : a ≤ 6 := h2
  have h3 : 0 ≤ b := h3
  have h4 : b ≤ 5 := h4
  refine ⟨a.toNat, b.toNat, ?_, by omega, by omega⟩
  rw [Int.toNat_of_nonneg h1, Int.toNat_of_nonneg h3]
end Go.Vc
namespace Go.Proofs.YtaipnnkpplinoaaGreatDoor
open Go.Vc
theorem FmS.raw {w : World} {v : Value} {f : Fm} (h : FmS w v f) : RawS w v (rawF f) := by
  show SlK 2 w v (rawF f).length (cellsN (rawF f))
  rw [rawF_len, cellsN_raw]; exact h
theorem RawS.fm {w : World} {v : Value} {f : Fm} (h : RawS w v (rawF f)) : FmS w v f := by
  have h : SlK 2 w v (rawF f).length (cellsN (rawF f)) := h
  rwa [rawF_len, cellsN_raw] at h
theorem ok_spec_l02PartN {v : Value} {N : List RN} {i : Nat} {w : World} (hs : RawS w v N) (hok : N.all okN = true) (hi : i ≤ N.length) (hn : N.length ≤ 1099511627776) : Ret Tryz.prog f_spec_l02Part #[v, .int .i64 (i : Int)] w (.int .i64 (endN N i)) := by
  apply c_spec_l02Part; unfold S_spec_l02Part
  refine iLp (fun s : Nat × Nat => [.int .i64 (s.1 : Int), .int .i64 (s.2 : Int)]) (fun s w' => Ext w w' ∧ s.1 ≤ N.length ∧ s.2 ≤ 1 + 2 * s.1 ∧ goN (N.drop s.1) s.2 = goN (N.drop i) 1) (fun s => N.length - s.1) (i, 1) rfl ⟨Ext.refl _, hi, by show 1 ≤ 1 + 2 * i; omega, rfl⟩ ?_
  rintro ⟨j, o⟩ w2 Kn ⟨x2, hj, ho, hg⟩ hKn
  have hj : j ≤ N.length := hj
  have ho : o ≤ 1 + 2 * j := ho
  have hg : goN (N.drop j) o = goN (N.drop i) 1 := hg
  intro _
  simp only [gx]
  refine iLt (iCndP (fun h3 => ?_) (fun h3 => ?_))
  · obtain ⟨o', rfl⟩ : ∃ o', o = o' + 1 := ⟨o - 1, by omega⟩
    refine iLenK (SlK.ext hs x2) ?_
    refine iLe (iCndP (fun h4 => ?_) (fun h4 => ?_))
    · obtain rfl : j = N.length := by omega
      rw [List.drop_length] at hg
      refine ⟨?_, x2⟩
      unfold endN
      rw [← hg]; rfl
    · have hj1 : j < N.length := by omega
      have hat := cellsN_at hj1
      obtain ⟨k, s, hq, hk6, _⟩ := okN_nat (List.all_eq_true.1 hok _ (List.getElem_mem hj1))
      refine iSub (by omega) ?_
      refine iFld (f := 0) (SlK.ext hs x2) rfl hj1 (by decide) hat.1 ?_
      have e1 : N[j].1 = (k : Int) := by rw [hq]
      rw [e1]
      refine iRet (ok_spec_l02Parts k w2) fun w3 x3 => ?_
      have hak : arity k ≤ 2 := by unfold arity; split; omega; split <;> omega
      refine iAdd (by omega) (iAdd (by omega) ?_)
      rw [show ((o' + 1 : Nat) : Int) - 1 + (arity k : Int) = ((o' + arity k : Nat) : Int) by omega]
      refine hKn (j + 1, o' + arity k) _ ⟨x2.trans x3, by show j + 1 ≤ N.length; omega, by show o' + arity k ≤ 1 + 2 * (j + 1); omega, ?_⟩ (by show N.length - (j + 1) < N.length - j; omega)
      show goN (N.drop (j + 1)) (o' + arity k) = _
      rw [← hg, goN_drop hj1, e1, arZ_nat]
  · obtain rfl : o = 0 := by omega
    rw [goN_zero] at hg
    refine ⟨?_, x2⟩
    unfold endN
    rw [← hg]
    show Value.int .i64 (j : Int) = .int .i64 ((N.length - (N.drop j).length : Nat) : Int)
    rw [List.length_drop, show N.length - (N.length - j) = j by omega]
theorem ok_spec_l02Tree {v : Value} {N : List RN} {w : World} (hs : RawS w v N) (hn : N.length ≤ 1099511627776) : Ret Tryz.prog f_spec_l02Tree #[v] w (.bool (treeN N)) := by
  apply c_spec_l02Tree; unfold S_spec_l02Tree
  refine iLp (fun i : Nat => [.int .i64 (i : Int)]) (fun i w' => i ≤ N.length ∧ Ext w w' ∧ (N.take i).all okN = true) (fun i => N.length - i) 0 rfl ⟨Nat.zero_le _, Ext.refl _, by simp⟩ ?_
  rintro i w2 Kn ⟨hi, x2, hall⟩ hKn
  have hs2 := SlK.ext hs x2
  intro _
  simp only [gx]
  refine iLenK hs2 ?_
  refine iLt (iCndP (fun h3 => ?_) (fun h3 => ?_))
  · have hi1 : i < N.length := by omega
    have hat := cellsN_at hi1
    refine iJnB (!okN N[i]) w2 (fun J hJ => ?_) (fun w4 x4 => ?_)
    · refine iFld (f := 0) hs2 rfl hi1 (by decide) hat.1 ?_
      refine iRet (ok_spec_l01In _ _ _ w2) fun w5 x5 => ?_
      refine iNot ?_
      have hs5 := SlK.ext hs2 x5
      by_cases c1 : 0 ≤ N[i].1 ∧ N[i].1 ≤ 6
      · rw [decide_eq_true c1]
        refine iCndF rfl ?_
        refine iFld (f := 1) hs5 rfl hi1 (by decide) hat.2 ?_
        refine iRet (ok_spec_l01In _ _ _ w5) fun w6 x6 => ?_
        have hs6 := SlK.ext hs5 x6
        refine iNot ?_
        by_cases c2 : 0 ≤ N[i].2 ∧ N[i].2 ≤ 5
        · rw [decide_eq_true c2]
          refine iCndF rfl ?_
          refine iFld (f := 0) hs6 rfl hi1 (by decide) hat.1 ?_
          refine iNe (iCndP (fun c3 => ?_) (fun c3 => ?_))
          · refine iFld (f := 1) hs6 rfl hi1 (by decide) hat.2 ?_
            refine iNe ?_
            have : (!okN N[i]) = decide (¬ N[i].2 = 0) := by
              unfold okN
              rw [decide_eq_true c1, decide_eq_true c2, decide_eq_false c3, Bool.true_and, Bool.true_and, Bool.false_or, ← decide_not]
            rw [this] at hJ
            exact hJ _ (x5.trans x6)
          · have c3 : N[i].1 = 0 := Classical.not_not.1 c3
            have : (!okN N[i]) = false := by
              unfold okN
              rw [decide_eq_true c1, decide_eq_true c2, decide_eq_true c3]; rfl
            rw [this] at hJ
            exact hJ _ (x5.trans x6)
        · rw [decide_eq_false c2]
          refine iCndT rfl ?_
          have : (!okN N[i]) = true := by
            unfold okN
            rw [decide_eq_false c2, Bool.false_and, Bool.and_false]; rfl
          rw [this] at hJ
          exact hJ _ (x5.trans x6)
      · rw [decide_eq_false c1]
        refine iCndT rfl ?_
        have : (!okN N[i]) = true := by
          unfold okN
          rw [decide_eq_false c1, Bool.false_and]; rfl
        rw [this] at hJ
        exact hJ _ x5
    · intro _
      cases hb : okN N[i] with
      | false =>
        refine iCndT (by first | rfl | exact congrArg not hb) ?_
        refine ⟨?_, x2.trans x4⟩
        have : treeN N = false := by
          unfold treeN
          have : N.all okN = false := by
            rw [List.all_eq_false]
            exact ⟨N[i], List.getElem_mem hi1, by rw [hb]; decide⟩
          rw [this, Bool.false_and]
        rw [this]
      | true =>
        refine iCndF (by first | rfl | exact congrArg not hb) ?_
        refine iAdd (by omega) ?_
        refine hKn (i + 1) _ ⟨by omega, x2.trans x4, ?_⟩ (by omega)
        rw [List.take_succ_eq_append_getElem hi1, List.all_append, hall]
        simp [hb]
  · obtain rfl : i = N.length := by omega
    rw [List.take_length] at hall
    refine iJnB (treeN N) w2 (fun J hJ => ?_) (fun w8 x8 => fun _ => ⟨rfl, x2.trans x8⟩)
    refine iLenK hs2 ?_
    refine iLt (iCndP (fun h4 => ?_) (fun h4 => ?_))
    · have hp : 0 < N.length := by omega
      refine iRet (ok_spec_l02PartN (i := 0) hs2 hall (Nat.zero_le _) hn) fun w9 x9 => ?_
      refine iLenK (SlK.ext hs2 x9) ?_
      refine iEq ?_
      rw [endN_tree hall hp]
      exact hJ _ x9
    · have h0 : N = [] := List.length_eq_zero_iff.1 (by omega)
      subst h0
      exact hJ _ (Ext.refl _)
theorem ok_spec_l02Is {v : Value} {N : List RN} {w : World} (hs : RawS w v N) (hn : N.length ≤ 1099511627776) : Ret Tryz.prog f_spec_l02Is #[v] w (.bool (isN N)) := by
  apply c_spec_l02Is; unfold S_spec_l02Is
  refine iJnB (isN N) w (fun J hJ => ?_) (fun w2 x2 => fun _ => ⟨rfl, x2⟩)
  refine iLenK hs ?_
  unfold isN at hJ
  refine iLe (iCndP (fun h => ?_) (fun h => ?_))
  · rw [decide_eq_true (by omega), Bool.true_and] at hJ
    refine iRet (ok_spec_l02Tree hs hn) fun w3 x3 => hJ _ x3
  · rw [decide_eq_false (by omega), Bool.false_and] at hJ
    exact hJ _ (Ext.refl _)
end Go.Proofs.YtaipnnkpplinoaaGreatDoor

namespace Go.Vc
theorem iRdAgg6 {P : Program} {sz n j : Nat} {w : World} {v : Value} {xs ys : List Value} {k : IntKind} {K : Value → Prop} (hs : SlK sz w v n xs) (hj : j < n) (hl : ys.length = sz) (hy : ∀ i, i < sz → xs[j * sz + i]? = ys[i]?) (h : K (.agg ys.toArray)) : xIa sz v (.int k (j : Int)) fun p => xLdA w sz p K := by
  have _ := P
  refine iIaK hs hj fun b o hc => ?_
  refine ⟨_, ys.toArray, rfl, by simpa using hl, fun i hi => ?_, h⟩
  have e : (⟨b, o, none⟩ : Addr).add i = ⟨b, o + i, none⟩ := by
    simp only [Addr.add]; split
    · rename_i e; simp
    · rfl
  rw [e, hc i hi, hy i hi]
  simp
theorem iVar6 {P : Program} {w : World} {e : TypeId} {n : Nat} {cs : Array Value} {a : Array Value} {K : Value → World → Prop} (hn : cs.size = n) (ha : a.size = n) (hc : ∀ v ∈ a.toList, isCell v = true)
    (h : ∀ b w', w.heap.size ≤ b → Ext w w' → Blk e w' b a.toList → K (.pointer (some ⟨b, 0, none⟩)) w') : xNew cs e w fun v w1 => xStA P w1 n v (.agg a) fun w2 => K v w2 := by
  refine iNew fun b w1 hb h1 hB => ?_
  refine iStAB hB (by simpa using hn) ha hc fun w2 hu hB2 => ?_
  exact h b w2 (by omega) (h1.upd hu (by omega)) hB2
end Go.Vc
namespace Go.Proofs.YtaipnnkpplinoaaGreatDoor
open Go.Vc
theorem ok_impl_isVariableN (x : Int) (w : World) : Ret Tryz.prog f_impl_isVariable #[.int .i64 x] w (.bool (decide (0 ≤ x ∧ x ≤ 5))) := by
  apply c_impl_isVariable; unfold S_impl_isVariable
  exact iRet (ok_impl_inRange x 0 5 w) fun w1 h1 => ⟨rfl, h1⟩
theorem ok_impl_isNodeN (q : RN) (w : World) : Ret Tryz.prog f_impl_isNode #[.agg #[.int .i64 q.1, .int .i64 q.2]] w (.bool (okN q)) := by
  obtain ⟨k, s⟩ := q
  show Ret Tryz.prog f_impl_isNode #[.agg #[.int .i64 k, .int .i64 s]] w (.bool (okN (k, s)))
  have e : okN (k, s) = (decide (0 ≤ k ∧ k ≤ 6) && (decide (0 ≤ s ∧ s ≤ 5) && (decide (k = 0) || decide (s = 0)))) := rfl
  apply c_impl_isNode; unfold S_impl_isNode
  refine iNew fun p w1 _ x1 hB => ?_
  have hB : Blk _ w1 p [.int .i64 k, .int .i64 s] := hB
  refine iFa (iLdB hB (v := .int .i64 k) rfl ?_)
  refine iEq (iCndP (fun h0 => ?_) (fun h0 => ?_))
  · refine iFa (iLdB hB (v := .int .i64 s) rfl ?_)
    refine iRet (ok_impl_isVariableN _ w1) fun w2 x2 => ⟨?_, x1.trans x2⟩
    rw [e, decide_eq_true h0, decide_eq_true (by omega : 0 ≤ k ∧ k ≤ 6)]
    simp
  · refine iJnB (okN (k, s)) w1 (fun J hJ => ?_) (fun w2 x2 => fun _ => ⟨rfl, x1.trans x2⟩)
    refine iFa (iLdB hB (v := .int .i64 k) rfl ?_)
    refine iRet (ok_impl_inRange _ _ _ w1) fun w2 x2 => ?_
    rw [e, decide_eq_false h0] at hJ
    by_cases c1 : 1 ≤ k ∧ k ≤ 6
    · rw [decide_eq_true c1]
      refine iCndT rfl ?_
      refine iFa (iLdB (hB.ext x2) (v := .int .i64 s) rfl ?_)
      refine iEq ?_
      rw [decide_eq_true (by omega : 0 ≤ k ∧ k ≤ 6), Bool.true_and, Bool.false_or] at hJ
      by_cases c2 : s = 0
      · rw [decide_eq_true c2] at hJ ⊢
        rw [decide_eq_true (by omega : 0 ≤ s ∧ s ≤ 5)] at hJ
        exact hJ _ x2
      · rw [decide_eq_false c2] at hJ ⊢
        rw [Bool.and_false] at hJ
        exact hJ _ x2
    · rw [decide_eq_false c1]
      rw [decide_eq_false (by omega : ¬ (0 ≤ k ∧ k ≤ 6)), Bool.false_and] at hJ
      exact iCndF rfl (hJ _ x2)
theorem ok_ContainsFunc_N {v fv : Value} {N : List RN} {w : World} (hs : RawS w v N) (p : RN → Bool) (hf : ∀ q ∈ N, ∀ w', Ext w w' → callV Tryz.prog fv [.agg #[.int .i64 q.1, .int .i64 q.2]] w' fun u w'' => u = .bool (p q) ∧ Ext w' w'') :
    Ret Tryz.prog f_slices_ContainsFunc_Simpl_Node_impl_Node #[v, fv] w (.bool (N.any p)) := by
  have hln := hs.len
  apply c_slices_ContainsFunc_Simpl_Node_impl_Node; unfold S_slices_ContainsFunc_Simpl_Node_impl_Node
  refine iRet (v := .int .i64 (match N.findIdx? p with | some i => (i : Int) | none => -1)) ?_ fun w1 x1 => iLe ⟨?_, x1⟩
  · apply c_slices_IndexFunc_Simpl_Node_impl_Node; unfold S_slices_IndexFunc_Simpl_Node_impl_Node
    refine iLenK hs ?_
    refine iLp (fun i : Nat => [.int .i64 (i : Int)]) (fun i w' => i ≤ N.length ∧ Ext w w' ∧ ∀ x ∈ N.take i, p x = false) (fun i => N.length - i) 0 rfl ⟨Nat.zero_le _, Ext.refl _, by simp⟩ ?_
    rintro i w2 Kn ⟨hi, h2, hno⟩ hKn
    intro _
    simp only [gx]
    refine iLt (iCndP (fun h => ?_) (fun h => ?_))
    · have hil : i < N.length := by omega
      have hat := cellsN_at hil
      refine iRdAgg6 (P := Tryz.prog) (ys := [.int .i64 N[i].1, .int .i64 N[i].2]) (hs.ext h2) (by omega) rfl (fun j hj => ?_) ?_
      · rcases j with _ | _ | j
        · exact hat.1
        · exact hat.2
        · omega
      refine (hf _ (List.getElem_mem hil) w2 h2).mono ?_
      rintro u w3 ⟨rfl, x3⟩
      cases hp : p N[i]
      · refine iCndF (by first | rfl | exact hp) ?_
        refine iAdd (by omega) ?_
        refine hKn (i + 1) _ ⟨by omega, h2.trans x3, ?_⟩ (by omega)
        rw [List.take_succ_eq_append_getElem hil]
        intro x hx
        rcases List.mem_append.1 hx with hx | hx
        · exact hno x hx
        · simp at hx; rw [hx]; exact hp
      · refine iCndT (by first | rfl | exact hp) ⟨?_, h2.trans x3⟩
        have : N.findIdx? p = some i := List.findIdx?_eq_some_iff_getElem.2 ⟨hil, hp, fun j hj => by
          have := hno (N[j]'(by omega)) (List.mem_take_iff_getElem.2 ⟨j, by omega, rfl⟩)
          simp [this]⟩
        rw [this]
    · refine ⟨?_, h2⟩
      rw [List.take_of_length_le (by omega)] at hno
      have : N.findIdx? p = none := List.findIdx?_eq_none_iff.2 hno
      rw [this]
  · cases h : N.findIdx? p with
    | none =>
      have := List.findIdx?_eq_none_iff.1 h
      have h2 : N.any p = false := List.any_eq_false.2 fun x hx => by simp [this x hx]
      simp [h2]
    | some i =>
      obtain ⟨hi, hp, _⟩ := List.findIdx?_eq_some_iff_getElem.1 h
      have h2 : N.any p = true := List.any_eq_true.2 ⟨N[i], List.getElem_mem _, hp⟩
      simp [h2]
theorem ok_impl_partEndN {v : Value} {N : List RN} {i : Nat} {w : World} (hs : RawS w v N) (hok : N.all okN = true) (hi : i ≤ N.length) (hn : N.length ≤ 1099511627776) : Ret Tryz.prog f_impl_partEnd #[v, .int .i64 (i : Int)] w (.int .i64 (endN N i)) := by
  apply c_impl_partEnd; unfold S_impl_partEnd
  refine iLp (fun s : Nat × Nat => [.int .i64 (s.1 : Int), .int .i64 (s.2 : Int)]) (fun s w' => Ext w w' ∧ s.1 ≤ N.length ∧ s.2 ≤ 1 + 2 * s.1 ∧ goN (N.drop s.1) s.2 = goN (N.drop i) 1) (fun s => N.length - s.1) (i, 1) rfl ⟨Ext.refl _, hi, by show 1 ≤ 1 + 2 * i; omega, rfl⟩ ?_
  rintro ⟨j, o⟩ w2 Kn ⟨x2, hj, ho, hg⟩ hKn
  have hj : j ≤ N.length := hj
  have ho : o ≤ 1 + 2 * j := ho
  have hg : goN (N.drop j) o = goN (N.drop i) 1 := hg
  intro _
  simp only [gx]
  refine iLt (iCndP (fun h3 => ?_) (fun h3 => ?_))
  · obtain ⟨o', rfl⟩ : ∃ o', o = o' + 1 := ⟨o - 1, by omega⟩
    refine iLenK (SlK.ext hs x2) ?_
    refine iLe (iCndP (fun h4 => ?_) (fun h4 => ?_))
    · obtain rfl : j = N.length := by omega
      rw [List.drop_length] at hg
      refine ⟨?_, x2⟩
      unfold endN
      rw [← hg]; rfl
    · have hj1 : j < N.length := by omega
      have hat := cellsN_at hj1
      obtain ⟨k, s, hq, hk6, _⟩ := okN_nat (List.all_eq_true.1 hok _ (List.getElem_mem hj1))
      refine iFld (f := 0) (SlK.ext hs x2) rfl hj1 (by decide) hat.1 ?_
      have e1 : N[j].1 = (k : Int) := by rw [hq]
      rw [e1]
      refine iRet (ok_impl_partsOf k w2) fun w3 x3 => ?_
      have hak : arity k ≤ 2 := by unfold arity; split; omega; split <;> omega
      refine iSub (by omega) (iAdd (by omega) (iAdd (by omega) ?_))
      rw [show ((o' + 1 : Nat) : Int) + ((arity k : Int) - 1) = ((o' + arity k : Nat) : Int) by omega]
      refine hKn (j + 1, o' + arity k) _ ⟨x2.trans x3, by show j + 1 ≤ N.length; omega, by show o' + arity k ≤ 1 + 2 * (j + 1); omega, ?_⟩ (by show N.length - (j + 1) < N.length - j; omega)
      show goN (N.drop (j + 1)) (o' + arity k) = _
      rw [← hg, goN_drop hj1, e1, arZ_nat]
  · obtain rfl : o = 0 := by omega
    rw [goN_zero] at hg
    refine ⟨?_, x2⟩
    unfold endN
    rw [← hg]
    show Value.int .i64 (j : Int) = .int .i64 ((N.length - (N.drop j).length : Nat) : Int)
    rw [List.length_drop, show N.length - (N.length - j) = j by omega]
theorem ok_impl_isFormulaN {v : Value} {N : List RN} {w : World} (hs : RawS w v N) (hn : N.length ≤ 1099511627776) : Ret Tryz.prog f_impl_isFormula #[v] w (.bool (isN N)) := by
  apply c_impl_isFormula; unfold S_impl_isFormula
  refine iJnB (isN N) w (fun J hJ => ?_) (fun w2 x2 => fun _ => ⟨rfl, x2⟩)
  refine iLenK hs ?_
  refine iLe (iCndP (fun h1 => ?_) (fun h1 => ?_))
  · refine iLenK hs ?_
    refine iLe (iCndP (fun h2 => ?_) (fun h2 => ?_))
    · refine iRet (ok_ContainsFunc_N hs (fun q => !okN q) fun q hq w' x' => ?_) fun w3 x3 => ?_
      · refine iRet (v := .bool (!okN q)) ?_ fun w5 x5 => ⟨rfl, x5⟩
        apply c_impl_isFormula_1; unfold S_impl_isFormula_1
        refine iNew fun p w1 _ x1 hB => ?_
        refine iLdA hB rfl ?_
        refine iRet (ok_impl_isNodeN q w1) fun w4 x4 => ?_
        exact iNot ⟨rfl, x1.trans x4⟩
      rw [show (N.any fun q => !okN q) = !N.all okN by rw [List.not_all_eq_any_not]]
      refine iNot ?_
      rw [Bool.not_not]
      unfold isN at hJ
      rw [decide_eq_true (by omega : N.length ≤ 40), Bool.true_and] at hJ
      cases hall : N.all okN
      · refine iCndF rfl ?_
        unfold treeN at hJ
        rw [hall, Bool.false_and] at hJ
        exact hJ _ x3
      · refine iCndT rfl ?_
        refine iRet (ok_impl_partEndN (i := 0) (SlK.ext hs x3) hall (Nat.zero_le _) hn) fun w4 x4 => ?_
        refine iLenK ((SlK.ext hs x3).ext x4) ?_
        refine iEq ?_
        rw [endN_tree hall (by omega)]
        exact hJ _ (x3.trans x4)
    · unfold isN at hJ
      rw [decide_eq_false (by omega : ¬ N.length ≤ 40), Bool.false_and] at hJ
      exact hJ _ (Ext.refl _)
  · have h0 : N = [] := List.length_eq_zero_iff.1 (by omega)
    subst h0
    exact hJ _ (Ext.refl _)
abbrev VN := Value × List RN
structure RwN (w : World) (v : Value) (L : List VN) : Prop where
  row : Sl w v (L.map Prod.fst)
  raw : ∀ p ∈ L, RawS w p.1 p.2
theorem RwN.ext {w w' : World} {v : Value} {L : List VN} (h : RwN w v L) (x : Ext w w') : RwN w' v L := ⟨h.row.ext x, fun p hp => SlK.ext (h.raw p hp) x⟩
theorem RwN.len {w : World} {v : Value} {L : List VN} (h : RwN w v L) : L.length ≤ 9223372036854775807 := by have := h.row.len; rwa [List.length_map] at this
theorem RwN.one {w : World} {v u : Value} {N : List RN} (h : Sl w v [u]) (k : RawS w u N) : RwN w v [(u, N)] := ⟨h, fun p hp => by
  simp only [List.mem_singleton] at hp
  subst hp; exact k⟩
theorem iRdN {w : World} {v : Value} {L : List VN} {j : Nat} {k : IntKind} {K : Value → Prop} (hs : RwN w v L) (hj : j < L.length) (h : K L[j].1) : xIa 1 v (.int k (j : Int)) fun p => xLd w p K :=
  iIa (j := (j : Int)) hs.row (by omega) (by rw [List.length_map]; omega) fun p hp => iLd (by rw [hp]; simp [hj]) h
theorem ok_ContainsFunc_NN {v fv : Value} {L : List VN} {w : World} (hs : RwN w v L) (p : List RN → Bool) (hf : ∀ q ∈ L, ∀ w', Ext w w' → callV Tryz.prog fv [q.1] w' fun u w'' => u = .bool (p q.2) ∧ Ext w' w'') :
    Ret Tryz.prog f_slices_ContainsFunc_SSimpl_Node_Simpl_Node #[v, fv] w (.bool (L.any fun q => p q.2)) := by
  have hln := hs.len
  apply c_slices_ContainsFunc_SSimpl_Node_Simpl_Node; unfold S_slices_ContainsFunc_SSimpl_Node_Simpl_Node
  refine iRet (v := .int .i64 (match L.findIdx? (fun q => p q.2) with | some i => (i : Int) | none => -1)) ?_ fun w1 x1 => iLe ⟨?_, x1⟩
  · apply c_slices_IndexFunc_SSimpl_Node_Simpl_Node; unfold S_slices_IndexFunc_SSimpl_Node_Simpl_Node
    refine iLenS hs.row ?_
    rw [List.length_map]
    refine iLp (fun i : Nat => [.int .i64 (i : Int)]) (fun i w' => i ≤ L.length ∧ Ext w w' ∧ ∀ x ∈ L.take i, p x.2 = false) (fun i => L.length - i) 0 rfl ⟨Nat.zero_le _, Ext.refl _, by simp⟩ ?_
    rintro i w2 Kn ⟨hi, h2, hno⟩ hKn
    intro _
    simp only [gx]
    refine iLt (iCndP (fun h => ?_) (fun h => ?_))
    · have hil : i < L.length := by omega
      refine iRdN (hs.ext h2) hil ?_
      refine (hf _ (List.getElem_mem hil) w2 h2).mono ?_
      rintro u w3 ⟨rfl, x3⟩
      cases hp : p L[i].2
      · refine iCndF (by first | rfl | exact hp) ?_
        refine iAdd (by omega) ?_
        refine hKn (i + 1) _ ⟨by omega, h2.trans x3, ?_⟩ (by omega)
        rw [List.take_succ_eq_append_getElem hil]
        intro x hx
        rcases List.mem_append.1 hx with hx | hx
        · exact hno x hx
        · simp at hx; rw [hx]; exact hp
      · refine iCndT (by first | rfl | exact hp) ⟨?_, h2.trans x3⟩
        have : L.findIdx? (fun q => p q.2) = some i := List.findIdx?_eq_some_iff_getElem.2 ⟨hil, hp, fun j hj => by
          have := hno (L[j]'(by omega)) (List.mem_take_iff_getElem.2 ⟨j, by omega, rfl⟩)
          simp [this]⟩
        rw [this]
    · refine ⟨?_, h2⟩
      rw [List.take_of_length_le (by omega)] at hno
      have : L.findIdx? (fun q => p q.2) = none := List.findIdx?_eq_none_iff.2 hno
      rw [this]
  · cases h : L.findIdx? (fun q => p q.2) with
    | none =>
      have := List.findIdx?_eq_none_iff.1 h
      have h2 : (L.any fun q => p q.2) = false := List.any_eq_false.2 fun x hx => by simp [this x hx]
      simp [h2]
    | some i =>
      obtain ⟨hi, hp, _⟩ := List.findIdx?_eq_some_iff_getElem.1 h
      have h2 : (L.any fun q => p q.2) = true := List.any_eq_true.2 ⟨L[i], List.getElem_mem _, hp⟩
      simp [h2]
theorem ok_impl_areFormulasN {v : Value} {L : List VN} {w : World} (hs : RwN w v L) (hn : ∀ p ∈ L, p.2.length ≤ 1099511627776) : Ret Tryz.prog f_impl_areFormulas #[v] w (.bool (L.all fun q => isN q.2)) := by
  apply c_impl_areFormulas; unfold S_impl_areFormulas
  refine iRet (ok_ContainsFunc_NN hs (fun N => !isN N) fun q hq w' x' => ?_) fun w3 x3 => iNot ⟨?_, x3⟩
  · refine iRet (v := .bool (!isN q.2)) ?_ fun w5 x5 => ⟨rfl, x5⟩
    apply c_impl_areFormulas_1; unfold S_impl_areFormulas_1
    exact iRet (ok_impl_isFormulaN (SlK.ext (hs.raw q hq) x') (hn q hq)) fun w4 x4 => iNot ⟨rfl, x4⟩
  · rw [List.not_any_eq_all_not]; simp
/-! ### Variables -/
def maskV (N : List RN) : Nat := setOf ((N.filter fun q => decide (q.1 = 0)).map fun q => q.2.toNat)
theorem maskV_bit (N : List RN) (v : Nat) : (maskV N).testBit v = true ↔ ∃ q ∈ N, q.1 = 0 ∧ q.2.toNat = v := by
  unfold maskV
  rw [setOf_testBit, List.contains_iff_mem, List.mem_map]
  constructor
  · rintro ⟨q, hq, e⟩
    rw [List.mem_filter, decide_eq_true_eq] at hq
    exact ⟨q, hq.1, hq.2, e⟩
  · rintro ⟨q, hq, h0, e⟩
    exact ⟨q, by rw [List.mem_filter, decide_eq_true_eq]; exact ⟨hq, h0⟩, e⟩
theorem maskV_lt {N : List RN} (h : N.all okN = true) : maskV N < 2 ^ 6 := setOf_lt fun y hy => by
  obtain ⟨q, hq, rfl⟩ := List.mem_map.1 hy
  have := okN_iff.1 (List.all_eq_true.1 h q (List.mem_filter.1 hq).1)
  omega
theorem maskV_has : ∀ (f : Fm) (v : Nat), (maskV (rawF f)).testBit v = true ↔ (0, (v : Int)) ∈ rawF f := fun f v => by
  rw [maskV_bit]
  constructor
  · rintro ⟨⟨a, b⟩, hq, h0, e⟩
    have h0 : a = 0 := h0
    have e : b.toNat = v := e
    subst h0
    have key : ∀ g : Fm, ∀ q ∈ rawF g, q.1 = 0 → 0 ≤ q.2 := by
      intro g
      induction g with
      | var x => intro q hq _; simp [rawF] at hq; subst hq; exact Int.natCast_nonneg _
      | fls => intro q hq h; simp [rawF] at hq; subst hq; exact absurd h (by decide)
      | and x y ih1 ih2 => intro q hq h; simp only [rawF, List.mem_cons, List.mem_append] at hq; rcases hq with rfl | hq | hq <;> first | exact absurd h (by decide) | exact ih1 q hq h | exact ih2 q hq h
      | or x y ih1 ih2 => intro q hq h; simp only [rawF, List.mem_cons, List.mem_append] at hq; rcases hq with rfl | hq | hq <;> first | exact absurd h (by decide) | exact ih1 q hq h | exact ih2 q hq h
      | imp x y ih1 ih2 => intro q hq h; simp only [rawF, List.mem_cons, List.mem_append] at hq; rcases hq with rfl | hq | hq <;> first | exact absurd h (by decide) | exact ih1 q hq h | exact ih2 q hq h
      | box x ih => intro q hq h; simp only [rawF, List.mem_cons] at hq; rcases hq with rfl | hq <;> first | exact absurd h (by decide) | exact ih q hq h
      | dia x ih => intro q hq h; simp only [rawF, List.mem_cons] at hq; rcases hq with rfl | hq <;> first | exact absurd h (by decide) | exact ih q hq h
    have := key f _ hq rfl
    have : b = (v : Int) := by have h2 : 0 ≤ b := this; omega
    rw [← this]; exact hq
  · intro h; exact ⟨_, h, rfl, by simp⟩
theorem ok_impl_variableMask {v : Value} {N : List RN} {w : World} (hs : RawS w v N) (hok : N.all okN = true) : Ret Tryz.prog f_impl_variableMask #[v] w (.int .i64 ((maskV N : Nat) : Int)) := by
  have hln := hs.len
  apply c_impl_variableMask; unfold S_impl_variableMask
  have hallk : ∀ k, (N.take k).all okN = true := fun k => List.all_eq_true.2 fun x hx => List.all_eq_true.1 hok x (List.mem_of_mem_take hx)
  have hsnoc : ∀ k (hk : k < N.length), maskV (N.take (k + 1)) = if N[k].1 = 0 then maskV (N.take k) ||| 2 ^ N[k].2.toNat else maskV (N.take k) := fun k hk => by
    unfold maskV
    rw [List.take_succ_eq_append_getElem hk, List.filter_append, List.map_append]
    by_cases h : N[k].1 = 0
    · rw [if_pos h, List.filter_cons_of_pos (by simpa using h)]
      exact setOf_snoc _ _
    · rw [if_neg h, List.filter_cons_of_neg (by simpa using h)]
      simp
  refine iLenK hs ?_
  refine iLp (fun k : Nat => [.int .i64 ((maskV (N.take k) : Nat) : Int), .int .i64 (k : Int)]) (fun k w' => k ≤ N.length ∧ Ext w w') (fun k => N.length - k) 0 rfl ⟨Nat.zero_le _, Ext.refl _⟩ ?_
  rintro k w2 Kn ⟨hk, x2⟩ hKn
  intro _
  simp only [gx]
  refine iLt (iCndP (fun h => ?_) (fun h => ?_))
  · have hk1 : k < N.length := by omega
    have hat := cellsN_at hk1
    have hq := okN_iff.1 (List.all_eq_true.1 hok _ (List.getElem_mem hk1))
    have h1 := maskV_lt (hallk k)
    have h2 := hsnoc k hk1
    refine iRdAgg6 (P := Tryz.prog) (ys := [.int .i64 N[k].1, .int .i64 N[k].2]) (SlK.ext hs x2) (by omega) rfl (fun j hj => ?_) ?_
    · rcases j with _ | _ | j
      · exact hat.1
      · exact hat.2
      · omega
    refine iVar6 rfl rfl (by simp [isCell]) fun b w4 _ x4 hB => ?_
    have hB : Blk _ w4 b [.int .i64 N[k].1, .int .i64 N[k].2] := hB
    refine iFa (iLdB hB (v := .int .i64 N[k].1) rfl ?_)
    refine iEq (iCndP (fun h0 => ?_) (fun h0 => ?_))
    · refine iFa (iLdB hB (v := .int .i64 N[k].2) rfl ?_)
      rw [if_pos h0] at h2
      generalize he : N[k].2 = s at *
      have hq2 : 0 ≤ s ∧ s ≤ 5 := hq.2.1
      obtain ⟨m, rfl⟩ := Int.eq_ofNat_of_zero_le hq2.1
      refine iShlOne (j := m) (by omega) ?_
      have h3 : 2 ^ m < 2 ^ 6 := Nat.pow_lt_pow_right (by omega) (by omega)
      refine iBOr (by omega) (by omega) ?_
      refine iAdd (by omega) ?_
      rw [show maskV (N.take k) ||| 2 ^ m = maskV (N.take (k + 1)) by rw [h2]; rfl]
      exact hKn (k + 1) _ ⟨by omega, x2.trans x4⟩ (by omega)
    · rw [if_neg h0] at h2
      refine iAdd (by omega) ?_
      rw [← h2]
      exact hKn (k + 1) _ ⟨by omega, x2.trans x4⟩ (by omega)
  · rw [List.take_of_length_le (by omega)]
    exact ⟨rfl, x2⟩
def maskL (L : List VN) : Nat := L.foldl (fun m p => m ||| maskV p.2) 0
theorem maskL_snoc (L : List VN) (p : VN) : maskL (L ++ [p]) = maskL L ||| maskV p.2 := by simp [maskL]
theorem maskL_lt {L : List VN} (h : ∀ p ∈ L, p.2.all okN = true) : maskL L < 2 ^ 6 := by
  have key : ∀ (L : List VN) (m : Nat), m < 2 ^ 6 → (∀ p ∈ L, p.2.all okN = true) → L.foldl (fun m p => m ||| maskV p.2) m < 2 ^ 6 := by
    intro L
    induction L with
    | nil => intro m hm _; exact hm
    | cons p L ih => intro m hm h; exact ih _ (Nat.or_lt_two_pow hm (maskV_lt (h p List.mem_cons_self))) fun q hq => h q (List.mem_cons_of_mem _ hq)
  exact key L 0 (by omega) h
theorem ok_impl_variablesIn {v : Value} {L : List VN} {w : World} (hs : RwN w v L) (hok : ∀ p ∈ L, p.2.all okN = true) : Cal Tryz.prog f_impl_variablesIn #[v] w fun r w' => Ext w w' ∧ Ow w.heap.size t_i64 w' r (ints (nats (mem (maskL L)))) := by
  have hln := hs.len
  apply c_impl_variablesIn; unfold S_impl_variablesIn
  refine iLenS hs.row ?_
  rw [List.length_map]
  refine iLp (fun k : Nat => [.int .i64 ((maskL (L.take k) : Nat) : Int), .int .i64 (k : Int)]) (fun k w' => k ≤ L.length ∧ Ext w w') (fun k => L.length - k) 0 rfl ⟨Nat.zero_le _, Ext.refl _⟩ ?_
  rintro k w2 Kn ⟨hk, x2⟩ hKn
  have h1 := maskL_lt (L := L.take k) fun p hp => hok p (List.mem_of_mem_take hp)
  intro _
  simp only [gx]
  refine iLt (iCndP (fun h => ?_) (fun h => ?_))
  · have hk1 : k < L.length := by omega
    refine iRdN (hs.ext x2) hk1 ?_
    refine iRet (ok_impl_variableMask ((hs.ext x2).raw _ (List.getElem_mem hk1)) (hok _ (List.getElem_mem hk1))) fun w3 x3 => ?_
    have h2 := maskV_lt (hok _ (List.getElem_mem hk1))
    refine iBOr (by omega) (by omega) ?_
    refine iAdd (by omega) ?_
    rw [show maskL (L.take k) ||| maskV L[k].2 = maskL (L.take (k + 1)) by rw [List.take_succ_eq_append_getElem hk1, maskL_snoc]]
    exact hKn (k + 1) _ ⟨by omega, x2.trans x3⟩ (by omega)
  · rw [List.take_of_length_le (by omega)] at h1 ⊢
    refine iCall ((ok_impl_membersOf _ (by omega) w2).mono ?_)
    rintro r w3 ⟨x3, ho⟩
    exact ⟨x2.trans x3, ho.mono x2.size⟩
end Go.Proofs.YtaipnnkpplinoaaGreatDoor

namespace Go.Proofs.YtaipnnkpplinoaaGreatDoor
open Go.Vc
/-! ### Formulas -/
/-! ### Jankov's formulas are plain -/

/-! ### Valuations -/
/-! ### Forcing in the reference -/
theorem ok_spec_l02LeftP {v : Value} {f g : Fm} {gs : List Fm} {w : World} (hs : FmS w v f) (hk : f.kids = g :: gs) (hn : f.size ≤ 1099511627776) : Cal Tryz.prog f_spec_l02Left #[v] w fun u w' => Ext w w' ∧ FmS w' u g := by
  apply c_spec_l02Left; unfold S_spec_l02Left
  have hsz := f.size_kids
  rw [hk] at hsz
  simp only [sizeL, List.map_cons, List.sum_cons] at hsz
  refine iRet (ok_spec_l02Part (i := 1) hs (drop_one hk) hn) fun w1 h1 => ?_
  refine iSlK (i := 1) (j := 1 + g.size) (hs.ext h1) (by omega) (by omega) fun u hu => ⟨h1, ?_⟩
  rw [drop_one hk, Nat.add_sub_cancel_left, ← g.cells_len, List.take_left] at hu
  exact hu
theorem ok_spec_l02RightP {v : Value} {f g h : Fm} {w : World} (hs : FmS w v f) (hk : f.kids = [g, h]) (hn : f.size ≤ 1099511627776) : Cal Tryz.prog f_spec_l02Right #[v] w fun u w' => Ext w w' ∧ FmS w' u h := by
  apply c_spec_l02Right; unfold S_spec_l02Right
  obtain ⟨hd, hsz⟩ := drop_two hk
  refine iRet (ok_spec_l02Part (i := 1) hs (drop_one hk) hn) fun w1 h1 => ?_
  refine iSlKFrom (i := 1 + g.size) (hs.ext h1) (by omega) fun u hu => ⟨h1, ?_⟩
  rw [hd, List.append_nil, hsz, Nat.add_sub_cancel_left] at hu
  exact hu
/-! ### IsForcedAt, where all is well -/
end Go.Proofs.YtaipnnkpplinoaaGreatDoor

namespace Go.Proofs.YtaipnnkpplinoaaGreatDoor
open Go.Vc
theorem good_kids {f : Fm} (h : Fm.good f) : ∀ g ∈ f.kids, Fm.good g := by
  intro g hg
  cases f with
  | var v => cases hg
  | fls => cases hg
  | and a b => simp only [Fm.kids, List.mem_cons, List.not_mem_nil, or_false] at hg; rcases hg with rfl | rfl <;> first | exact h.1 | exact h.2
  | or a b => simp only [Fm.kids, List.mem_cons, List.not_mem_nil, or_false] at hg; rcases hg with rfl | rfl <;> first | exact h.1 | exact h.2
  | imp a b => simp only [Fm.kids, List.mem_cons, List.not_mem_nil, or_false] at hg; rcases hg with rfl | rfl <;> first | exact h.1 | exact h.2
  | box a => simp only [Fm.kids, List.mem_cons, List.not_mem_nil, or_false] at hg; subst hg; exact h
  | dia a => simp only [Fm.kids, List.mem_cons, List.not_mem_nil, or_false] at hg; subst hg; exact h
theorem ok_impl_Frame_all (n : Nat) (hn : n ≤ 8) (v : Value) (w : World) : Ret Tryz.prog f_impl_Frame_all #[.agg #[.int .i64 (n : Int), v]] w (.int .i64 ((2 ^ n - 1 : Nat) : Int)) := by
  apply c_impl_Frame_all; unfold S_impl_Frame_all
  refine iNew fun b w1 hb h1 hB => ?_
  have hB : Blk _ w1 b [.int .i64 (n : Int), v] := hB
  have hp : 2 ^ n ≤ 2 ^ 8 := Nat.pow_le_pow_right (by omega) hn
  have h0 := Nat.two_pow_pos n
  refine iFa (iLdB hB (i := 0) (v := .int .i64 (n : Int)) rfl ?_)
  refine iShlOne (by omega) ?_
  refine iSub (by omega) ?_
  rw [show ((2 ^ n : Nat) : Int) - 1 = ((2 ^ n - 1 : Nat) : Int) by omega]
  exact ⟨rfl, h1⟩
def stkM (f : Fr) (V : Nat → Nat) (a : Fm) (n : Nat) : List Nat := ((sfx [a] n).map (trM f V)).reverse
theorem ok_truthSet_1 {lo b : Nat} {e : TypeId} {w : World} {v x : Value} {xs : List Value} (hB : Blk e w b [v]) (ho : Ow lo t_i64 w v (xs ++ [x])) (hne : t_i64 ≠ e) :
    Cal Tryz.prog f_impl_truthSet_1 #[.pointer (some ⟨b, 0, none⟩)] w fun r w' => r = x ∧ ∃ v', Blk e w' b [v'] ∧ Ow lo t_i64 w' v' xs ∧ Ch (fun c => c = b) w w' := by
  have hl := ho.sl.len
  rw [List.length_append, List.length_singleton] at hl
  apply c_impl_truthSet_1; unfold S_impl_truthSet_1
  refine iLdB hB (v := v) rfl (iLdB hB (v := v) rfl ?_)
  refine iLenS ho.sl ?_
  rw [List.length_append, List.length_singleton]
  refine iSub (by omega) ?_
  rw [show ((xs.length + 1 : Nat) : Int) - 1 = (xs.length : Int) by omega]
  refine iIa (j := (xs.length : Int)) ho.sl (by omega) (by simp; omega) fun p hp => ?_
  refine iLd (v := x) (by rw [hp]; simp) ?_
  refine iLdB hB (v := v) rfl (iLdB hB (v := v) rfl ?_)
  refine iLenS ho.sl ?_
  rw [List.length_append, List.length_singleton]
  refine iSub (by omega) ?_
  rw [show ((xs.length + 1 : Nat) : Int) - 1 = (xs.length : Int) by omega]
  refine iSlDown ho fun v' hb' ho' => ?_
  have hnb : v'.ownBlock ≠ some b := by rw [hb']; exact ho.ne_blk hB hne
  refine iStB hB (i := 0) (by simp) ho'.cell fun hB' => ?_
  exact ⟨rfl, v', hB', ho'.other hnb _, (Upd.setCell w b 0 v').ch rfl⟩
theorem ok_impl_truthSet {f : Fr} (hf : f.ok) {va vv vn : Value} {w : World} (hs : SlN w va f.a) {vals : List Nat} (hv : SlN w vv vals) (h6 : vals.length = 6) (hlt : ∀ x ∈ vals, x < 2 ^ f.n) {a : Fm} (ha : FmS w vn a) (hpl : Fm.good a) (hsz : a.size ≤ 1000000) :
    Ret Tryz.prog f_impl_truthSet #[.agg #[.int .i64 (f.n : Int), va], vv, vn] w (.int .i64 ((trM f (fun v => vals.getD v 0) a : Nat) : Int)) := by
  obtain ⟨V, hVe⟩ : ∃ V : Nat → Nat, V = fun v => vals.getD v 0 := ⟨_, rfl⟩
  rw [← hVe]
  have hV : ∀ v, V v < 2 ^ f.n := fun v => by
    rw [hVe]
    show vals.getD v 0 < _
    rcases Nat.lt_or_ge v vals.length with h | h
    · exact getD_lt hlt h
    · rw [List.getD_eq_getElem?_getD, List.getElem?_eq_none h]; exact Nat.two_pow_pos _
  have h63 : ∀ g, trM f V g < 2 ^ 63 := fun g => Nat.lt_of_lt_of_le (trM_lt hV g) (Nat.pow_le_pow_right (by omega) (by have := hf.1; omega))
  have hp63 : 2 ^ f.n ≤ 2 ^ 63 := Nat.pow_le_pow_right (by omega) (by have := hf.1; omega)
  have hfull : 2 ^ f.n - 1 < 2 ^ 63 := Nat.lt_of_lt_of_le (full_lt _) hp63
  have hf8 := hf.1
  have hal := hf.2.1
  have ha8 : ∀ x ∈ f.a, x < 2 ^ 8 := fun x hx => Nat.lt_of_lt_of_le (hf.2.2 x hx) (Nat.pow_le_pow_right (by omega) hf8)
  apply c_impl_truthSet; unfold S_impl_truthSet
  refine iNew fun b3 w1 hb3 x1 hB3 => ?_
  have hB3 : Blk _ w1 b3 [.int .i64 (f.n : Int), va] := hB3
  refine iLdA hB3 rfl ?_
  refine iRet (ok_impl_Frame_all f.n hf.1 va w1) fun w0 x0 => ?_
  refine iNew fun b7 w2 hb7 x2' hB7 => ?_
  have x2 := x0.trans x2'
  have hB7 : Blk _ w2 b7 [.slice none 0 0] := hB7
  have hx := x1.trans x2
  have hs0 := x0.size
  refine iLenK (ha.ext hx) ?_
  refine iSub (by omega) ?_
  have hlo : w.heap.size ≤ w2.heap.size := hx.size
  have hsa : sizeL [a] = a.size := by simp [sizeL]
  refine iLp (fun n : Nat => [.int .i64 ((n : Int) - 1)]) (fun n w' => n ≤ a.size ∧ Ext w w' ∧ Blk 26 w' b3 [.int .i64 (f.n : Int), va] ∧ ∃ v, Blk 24 w' b7 [v] ∧ Ow w.heap.size t_i64 w' v (ints (nats (stkM f V a n)))) (fun n => n) a.size rfl ⟨Nat.le_refl _, hx, hB3.ext x2, _, hB7, ?_⟩ ?_
  · have : stkM f V a a.size = [] := by
      have h1 := sfx_size a.size [a]
      rw [hsa, Nat.sub_self] at h1
      have h2 := sizeL_len (sfx [a] a.size)
      have : sfx [a] a.size = [] := List.length_eq_zero_iff.1 (by omega)
      unfold stkM; rw [this]; rfl
    rw [this]
    exact Ow.nil _ _ _
  rintro n w4 Kn ⟨hn, x4, hB3, v, hB7, ho⟩ hKn
  intro _
  simp only [gx]
  have hs4 := hs.ext x4
  have hv4 := hv.ext x4
  have ha4 := ha.ext x4
  have hsub : ∀ {w'}, Ch (fun c => c = b7) w4 w' → Ext w w' := fun hc => x4.thenCh hc fun c h => by subst h; have := x1.size; omega
  refine iLe (iCndP (fun h => ?_) (fun h => ?_))
  · obtain ⟨m, rfl⟩ : ∃ m, n = m + 1 := ⟨n - 1, by omega⟩
    have hm : m < a.size := by omega
    rw [show ((m + 1 : Nat) : Int) - 1 = (m : Int) by omega]
    obtain ⟨g, r, hg⟩ : ∃ g r, sfx [a] m = g :: r := by
      have h1 := sfx_size m [a]
      rw [hsa] at h1
      cases hc : sfx [a] m with
      | nil => rw [hc] at h1; simp [sizeL] at h1; omega
      | cons g r => exact ⟨g, r, rfl⟩
    have hpg : Fm.good g := sfx_all (Q := Fm.good) (fun _ h => good_kids h) m [a] (by simpa using hpl) g (by rw [hg]; simp)
    have hcell : a.cells.drop (m * 2) = cellsL (g :: r) ++ [] := by
      rw [List.append_nil, ← hg, ← sfx_cells]; simp [cellsL]
    obtain ⟨hk, hsy, -⟩ := kind_at hcell
    have hnext : sfx [a] (m + 1) = g.kids ++ r := by rw [sfx_succ, hg]
    have hst : stkM f V a (m + 1) = (r.map (trM f V)).reverse ++ (g.kids.map (trM f V)).reverse := by
      unfold stkM; rw [hnext, List.map_append, List.reverse_append]
    have hst0 : stkM f V a m = (r.map (trM f V)).reverse ++ [trM f V g] := by
      unfold stkM; rw [hg, List.map_cons, List.reverse_cons]
    rw [hst] at ho
    -- the way on: the stack without the parts, and the value
    have go : ∀ w6 v6, Ext w w6 → Blk 26 w6 b3 [.int .i64 (f.n : Int), va] → Blk 24 w6 b7 [v6] → Ow w.heap.size t_i64 w6 v6 (ints (nats ((r.map (trM f V)).reverse))) →
        xLd w6 (.pointer (some ⟨b7, 0, none⟩)) fun v58 => xBs t_i64 (Value.cells (.int .i64 0)) 1 1 [(0, (.int .i64 ((trM f V g : Nat) : Int)))] w6 fun v60 w21 => xOp Tryz.prog (Builtin.append_ #[24, 24] 24 #[v58, v60]) w21 fun v61 w22 =>
        xSt w22 (.pointer (some ⟨b7, 0, none⟩)) v61 fun w23 => xSub .i64 (.int .i64 (m : Int)) (.int .i64 1) fun v19 => Kn [v19] w23 := by
      intro w6 v6 x6 hB36 hB76 ho6
      refine iLdB hB76 (v := v6) rfl ?_
      have hrl : r.length ≤ a.size := by
        have h1 := sfx_size m [a]
        rw [hsa, hg] at h1
        have h2 := sizeL_len (g :: r)
        rw [List.length_cons] at h2
        omega
      refine iApp1 u_Si64 i_Si64 rfl ho6 rfl (by simp [ints, nats]; omega) (by simp [ints, nats]; omega) (by have := x6.size; omega) fun v7 w7 ho7 hg7 => ?_
      have hnb6 := ho6.ne_blk hB76 (show t_i64 ≠ 24 by decide)
      have hB77 : Blk 24 w7 b7 [v6] := by
        unfold Blk at hB76 ⊢
        rw [hg7.block b7 (heap_lt hB76) fun e => hnb6 e.symm]; exact hB76
      have hnb3 := ho6.ne_blk hB36 (show t_i64 ≠ 26 by decide)
      have hB37 : Blk 26 w7 b3 [.int .i64 (f.n : Int), va] := by
        unfold Blk at hB36 ⊢
        rw [hg7.block b3 (heap_lt hB36) fun e => hnb3 e.symm]; exact hB36
      have x7 : Ext w w7 := x6.grown hg7 fun b hb => (ho6.blk b hb).1
      refine iStB hB77 (i := 0) (by simp) ho7.cell fun hB78 => ?_
      have hnb7 := ho7.ne_blk hB77 (show t_i64 ≠ 24 by decide)
      refine iSub (by omega) ?_
      refine hKn m _ ⟨by omega, ?_, hB37.other (hB37.ne_blk hB77 (by decide)) _, v7, hB78, ?_⟩ (by omega)
      · exact ext_set x7 (by have := x1.size; show w.heap.size ≤ b7; omega) _
      · have := ho7.other (i := 0) hnb7 v7
        rw [hst0]
        simpa [ints, nats] using this
    refine iFld (f := 0) ha4 rfl hm (by decide) hk ?_
    cases g with
    | var z =>
      refine iEq (iCndT (by first | rfl | decide) ?_)
      refine iFld (f := 1) ha4 rfl hm (by decide) hsy ?_
      have hz : z < 6 := hpg
      refine iIaNN (j := z) hv4 (by omega) fun p hp => iLd hp ?_
      intro _
      simp only [gx]
      have e : trM f V (.var z) = vals.getD z 0 := by rw [hVe]; rfl
      have := go w4 v x4 hB3 hB7 (by simpa [Fm.kids] using ho)
      rw [e] at this
      exact this
    | fls =>
      refine iEq (iCndF (by first | rfl | decide) ?_)
      refine iEq (iCndF (by first | rfl | decide) ?_)
      refine iEq (iCndF (by first | rfl | decide) ?_)
      refine iEq (iCndF (by first | rfl | decide) ?_)
      refine iEq (iCndF (by first | rfl | decide) ?_)
      refine iEq (iCndF (by first | rfl | decide) ?_)
      intro _; intro _; intro _; intro _; intro _; intro _
      simp only [gx]
      exact go w4 v x4 hB3 hB7 (by simpa [Fm.kids] using ho)
    | and p q =>
      refine iEq (iCndF (by first | rfl | decide) ?_)
      refine iEq (iCndT (by first | rfl | decide) ?_)
      have ho : Ow w.heap.size t_i64 w4 v (ints (nats ((r.map (trM f V)).reverse)) ++ [.int .i64 ((trM f V q : Nat) : Int)] ++ [.int .i64 ((trM f V p : Nat) : Int)]) := by simpa [Fm.kids, ints, nats] using ho
      refine iClo rfl ((ok_truthSet_1 hB7 ho (by decide)).mono ?_)
      rintro u1 w5 ⟨rfl, v5, hB75, ho5, c5⟩
      refine iClo rfl ((ok_truthSet_1 hB75 ho5 (by decide)).mono ?_)
      rintro u2 w6 ⟨rfl, v6, hB76, ho6, c6⟩
      refine iBAnd (h63 _) (h63 _) ?_
      intro _; intro _
      simp only [gx]
      have c46 : Ch (fun c => c = b7) w4 w6 := c5.trans c6 fun b hb => .inl hb
      exact go w6 v6 (hsub c46) (hB3.ch c46 (hB3.ne_blk hB7 (by decide))) hB76 ho6
    | or p q =>
      refine iEq (iCndF (by first | rfl | decide) ?_)
      refine iEq (iCndF (by first | rfl | decide) ?_)
      refine iEq (iCndT (by first | rfl | decide) ?_)
      have ho : Ow w.heap.size t_i64 w4 v (ints (nats ((r.map (trM f V)).reverse)) ++ [.int .i64 ((trM f V q : Nat) : Int)] ++ [.int .i64 ((trM f V p : Nat) : Int)]) := by simpa [Fm.kids, ints, nats] using ho
      refine iClo rfl ((ok_truthSet_1 hB7 ho (by decide)).mono ?_)
      rintro u1 w5 ⟨rfl, v5, hB75, ho5, c5⟩
      refine iClo rfl ((ok_truthSet_1 hB75 ho5 (by decide)).mono ?_)
      rintro u2 w6 ⟨rfl, v6, hB76, ho6, c6⟩
      refine iBOr (h63 _) (h63 _) ?_
      intro _; intro _; intro _
      simp only [gx]
      have c46 : Ch (fun c => c = b7) w4 w6 := c5.trans c6 fun b hb => .inl hb
      exact go w6 v6 (hsub c46) (hB3.ch c46 (hB3.ne_blk hB7 (by decide))) hB76 ho6
    | imp p q =>
      refine iEq (iCndF (by first | rfl | decide) ?_)
      refine iEq (iCndF (by first | rfl | decide) ?_)
      refine iEq (iCndF (by first | rfl | decide) ?_)
      refine iEq (iCndT (by first | rfl | decide) ?_)
      have ho : Ow w.heap.size t_i64 w4 v (ints (nats ((r.map (trM f V)).reverse)) ++ [.int .i64 ((trM f V q : Nat) : Int)] ++ [.int .i64 ((trM f V p : Nat) : Int)]) := by simpa [Fm.kids, ints, nats] using ho
      refine iClo rfl ((ok_truthSet_1 hB7 ho (by decide)).mono ?_)
      rintro u1 w5 ⟨rfl, v5, hB75, ho5, c5⟩
      refine iBAndNot hfull (h63 _) ?_
      refine iClo rfl ((ok_truthSet_1 hB75 ho5 (by decide)).mono ?_)
      rintro u2 w6 ⟨rfl, v6, hB76, ho6, c6⟩
      refine iBOr (Nat.lt_of_lt_of_le (sdiff_lt (full_lt _)) hp63) (h63 _) ?_
      intro _; intro _; intro _; intro _
      simp only [gx]
      have c46 : Ch (fun c => c = b7) w4 w6 := c5.trans c6 fun b hb => .inl hb
      exact go w6 v6 (hsub c46) (hB3.ch c46 (hB3.ne_blk hB7 (by decide))) hB76 ho6
    | box p =>
      refine iEq (iCndF (by first | rfl | decide) ?_)
      refine iEq (iCndF (by first | rfl | decide) ?_)
      refine iEq (iCndF (by first | rfl | decide) ?_)
      refine iEq (iCndF (by first | rfl | decide) ?_)
      refine iEq (iCndT (by first | rfl | decide) ?_)
      have ho : Ow w.heap.size t_i64 w4 v (ints (nats ((r.map (trM f V)).reverse)) ++ [.int .i64 ((trM f V p : Nat) : Int)]) := by simpa [Fm.kids, ints, nats] using ho
      refine ⟨fun c => c = b7, iFa (iLdB hB3 (i := 1) (v := va) rfl ⟨fun w7 c7 => iLdB (hB3.ch c7 (hB3.ne_blk hB7 (by decide))) (i := 1) (v := va) rfl rfl, fun w6 x6 => ?_⟩)⟩
      refine iClo rfl ((ok_truthSet_1 (hB7.ext x6) (ho.ext x6) (by decide)).mono ?_)
      rintro u1 w5 ⟨rfl, v5, hB75, ho5, c5⟩
      have c45 : Ch (fun c => c = b7) w4 w5 := (x6.ch (S := fun c => c = b7)).trans c5 fun b hb => .inl hb
      refine ⟨c5, _, fun w8 c8 => iCall ((ok_impl_box (hs.ext (hsub (c45.trans c8 fun b hb => .inl hb))) (by omega) ha8 _ (h63 p)).mono fun _ _ h => h), ?_⟩
      intro w8 x8
      have c48 : Ch (fun c => c = b7) w4 w8 := c45.trans x8.ch (S' := fun c => c = b7) fun b hb => .inl hb
      intro _; intro _; intro _; intro _; intro _
      simp only [gx]
      have := go w8 v5 (hsub c48) (hB3.ch c48 (hB3.ne_blk hB7 (by decide))) (hB75.ext x8) (ho5.ext x8)
      rw [show trM f V (.box p) = boxK f.a (trM f V p) f.a.length by rw [hf.2.1]; rfl] at this
      exact this
    | dia p =>
      refine iEq (iCndF (by first | rfl | decide) ?_)
      refine iEq (iCndF (by first | rfl | decide) ?_)
      refine iEq (iCndF (by first | rfl | decide) ?_)
      refine iEq (iCndF (by first | rfl | decide) ?_)
      refine iEq (iCndF (by first | rfl | decide) ?_)
      refine iEq (iCndT (by first | rfl | decide) ?_)
      have ho : Ow w.heap.size t_i64 w4 v (ints (nats ((r.map (trM f V)).reverse)) ++ [.int .i64 ((trM f V p : Nat) : Int)]) := by simpa [Fm.kids, ints, nats] using ho
      refine ⟨fun c => c = b7, iFa (iLdB hB3 (i := 1) (v := va) rfl ⟨fun w7 c7 => iLdB (hB3.ch c7 (hB3.ne_blk hB7 (by decide))) (i := 1) (v := va) rfl rfl, fun w6 x6 => ?_⟩)⟩
      refine iClo rfl ((ok_truthSet_1 (hB7.ext x6) (ho.ext x6) (by decide)).mono ?_)
      rintro u1 w5 ⟨rfl, v5, hB75, ho5, c5⟩
      have c45 : Ch (fun c => c = b7) w4 w5 := (x6.ch (S := fun c => c = b7)).trans c5 fun b hb => .inl hb
      refine ⟨c5, iBAndNot hfull (h63 _) ⟨_, fun w8 c8 => iCall ((ok_impl_box (hs.ext (hsub (c45.trans c8 fun b hb => .inl hb))) (by omega) ha8 _ (Nat.lt_of_lt_of_le (sdiff_lt (full_lt _)) hp63)).mono fun _ _ h => h), ?_⟩⟩
      refine iBAndNot hfull (Nat.lt_of_lt_of_le (boxK_lt _ _ _) (by rw [hf.2.1]; exact hp63)) ?_
      intro w8 x8
      have c48 : Ch (fun c => c = b7) w4 w8 := c45.trans x8.ch (S' := fun c => c = b7) fun b hb => .inl hb
      intro _; intro _; intro _; intro _; intro _; intro _
      simp only [gx]
      have := go w8 v5 (hsub c48) (hB3.ch c48 (hB3.ne_blk hB7 (by decide))) (hB75.ext x8) (ho5.ext x8)
      rw [show trM f V (.dia p) = sdiff (2 ^ f.n - 1) (boxK f.a (sdiff (2 ^ f.n - 1) (trM f V p)) f.a.length) by rw [hf.2.1]; rfl] at this
      exact this
  · have h0 : n = 0 := by omega
    subst h0
    have e : stkM f V a 0 = [trM f V a] := by simp [stkM, sfx]
    rw [e] at ho
    refine iLdB hB7 (v := v) rfl ?_
    refine iIa (j := 0) ho.sl (by omega) (by simp [ints, nats]) fun p hp => ?_
    refine iLd (v := .int .i64 ((trM f V a : Nat) : Int)) (by rw [hp]; simp [ints, nats]) ⟨rfl, x4⟩
theorem ok_spec_l06Truth {f : Fr} (hf : f.ok) {vals : List Nat} (h6 : vals.length = 6) (hlt : ∀ x ∈ vals, x < 2 ^ f.n) : ∀ (a : Fm) {va vv vn : Value} {w : World}, SlN w va f.a → SlN w vv vals → FmS w vn a → Fm.good a → a.size ≤ 1000000 →
    Ret Tryz.prog f_spec_l06Truth #[.agg #[.int .i64 (f.n : Int), va, vv], vn] w (.int .i64 ((trM f (fun v => vals.getD v 0) a : Nat) : Int)) := by
  obtain ⟨V, hVe⟩ : ∃ V : Nat → Nat, V = fun v => vals.getD v 0 := ⟨_, rfl⟩
  rw [← hVe]
  have hV : ∀ v, V v < 2 ^ f.n := fun v => by
    rw [hVe]
    show vals.getD v 0 < _
    rcases Nat.lt_or_ge v vals.length with h | h
    · exact getD_lt hlt h
    · rw [List.getD_eq_getElem?_getD, List.getElem?_eq_none h]; exact Nat.two_pow_pos _
  have hp63 : 2 ^ f.n ≤ 2 ^ 63 := Nat.pow_le_pow_right (by omega) (by have := hf.1; omega)
  have h63 : ∀ g, trM f V g < 2 ^ 63 := fun g => Nat.lt_of_lt_of_le (trM_lt hV g) hp63
  have hfull : 2 ^ f.n - 1 < 2 ^ 63 := Nat.lt_of_lt_of_le (full_lt _) hp63
  have hf8 := hf.1
  have hal := hf.2.1
  have ha8 : ∀ x ∈ f.a, x < 2 ^ 8 := fun x hx => Nat.lt_of_lt_of_le (hf.2.2 x hx) (Nat.pow_le_pow_right (by omega) hf8)
  have hfu : ∀ w, Ret Tryz.prog f_spec_l01Full #[.int .i64 (f.n : Int)] w (.int .i64 ((2 ^ f.n - 1 : Nat) : Int)) := fun w => ok_spec_l01Full f.n (by omega) w
  intro a
  induction a with
  | var z =>
    intro va vv vn w hs hv ha hpl _
    have hz : z < 6 := hpl
    apply c_spec_l06Truth; unfold S_spec_l06Truth
    refine iNew fun b w1 hb1 x1 hB => ?_
    have hB : Blk _ w1 b [.int .i64 (f.n : Int), va, vv] := hB
    refine iFa (iFa (iLdB hB (i := 0) (v := .int .i64 (f.n : Int)) rfl ?_))
    refine iRet (hfu w1) fun w2 x2 => ?_
    have X2 := x1.trans x2
    refine iFld (f := 0) (ha.ext X2) rfl (by simp [Fm.size]) (by decide) (kind_fst ha).1 ?_
    refine iEq (iCndT (by first | rfl | decide) ?_)
    refine iFa (iLdB (hB.ext x2) (i := 2) (v := vv) rfl ?_)
    refine iFld (f := 1) (ha.ext X2) rfl (by simp [Fm.size]) (by decide) (kind_fst ha).2 ?_
    refine iIaNN (j := z) (hv.ext X2) (by omega) fun p hp => iLd hp ?_
    exact fun w3 x3 => ⟨by rw [hVe]; rfl, X2.trans x3⟩
  | fls =>
    intro va vv vn w hs hv ha hpl _
    apply c_spec_l06Truth; unfold S_spec_l06Truth
    refine iNew fun b w1 hb1 x1 hB => ?_
    have hB : Blk _ w1 b [.int .i64 (f.n : Int), va, vv] := hB
    refine iFa (iFa (iLdB hB (i := 0) (v := .int .i64 (f.n : Int)) rfl ?_))
    refine iRet (hfu w1) fun w2 x2 => ?_
    have X2 := x1.trans x2
    refine iFld (f := 0) (ha.ext X2) rfl (by simp [Fm.size]) (by decide) (kind_fst ha).1 ?_
    refine iEq (iCndF (by first | rfl | decide) ?_)
    exact iEq (iCndT (by first | rfl | decide) ⟨rfl, X2⟩)
  | and p q ihp ihq =>
    intro va vv vn w hs hv ha hpl hsz
    simp only [Fm.size] at hsz
    apply c_spec_l06Truth; unfold S_spec_l06Truth
    refine iNew fun b w1 hb1 x1 hB => ?_
    have hB : Blk _ w1 b [.int .i64 (f.n : Int), va, vv] := hB
    refine iFa (iFa (iLdB hB (i := 0) (v := .int .i64 (f.n : Int)) rfl ?_))
    refine iRet (hfu w1) fun w2 x2 => ?_
    have X2 := x1.trans x2
    have hB := hB.ext x2
    refine iFld (f := 0) (ha.ext X2) rfl (by simp [Fm.size]; try omega) (by decide) (kind_fst ha).1 ?_
    refine iEq (iCndF (by first | rfl | decide) ?_)
    refine iEq (iCndF (by first | rfl | decide) ?_)
    refine iEq (iCndF (by first | rfl | decide) ?_)
    refine iEq (iCndF (by first | rfl | decide) ?_)
    refine iEq (iCndT (by first | rfl | decide) ?_)
    refine iLdA hB rfl (iLdA hB rfl ?_)
    intro w6 x6
    have X6 := X2.trans x6
    refine iCall ((ok_spec_l02LeftP (gs := [q]) (ha.ext X6) rfl (by simp only [Fm.size]; omega)).mono ?_)
    rintro u w7 ⟨x7, hu⟩
    have X7 := X6.trans x7
    refine ⟨x7, ?_⟩
    refine iRetQ (fun w' x => ihp ((hs.ext X7).ext x) ((hv.ext X7).ext x) (hu.ext x) hpl.1 (by omega)) ?_
    intro w8 x8
    have X8 := X7.trans x8
    refine iCall ((ok_spec_l02RightP (ha.ext X8) rfl (by simp only [Fm.size]; omega)).mono ?_)
    rintro u5 w9 ⟨x9, hu5⟩
    refine ⟨x9, ?_⟩
    have X9 := X8.trans x9
    refine iRetQ (fun w' x => ihq ((hs.ext X9).ext x) ((hv.ext X9).ext x) (hu5.ext x) hpl.2 (by omega)) ?_
    refine iBAnd (h63 _) (h63 _) ?_
    exact fun w10 x10 => ⟨rfl, X9.trans x10⟩
  | or p q ihp ihq =>
    intro va vv vn w hs hv ha hpl hsz
    simp only [Fm.size] at hsz
    apply c_spec_l06Truth; unfold S_spec_l06Truth
    refine iNew fun b w1 hb1 x1 hB => ?_
    have hB : Blk _ w1 b [.int .i64 (f.n : Int), va, vv] := hB
    refine iFa (iFa (iLdB hB (i := 0) (v := .int .i64 (f.n : Int)) rfl ?_))
    refine iRet (hfu w1) fun w2 x2 => ?_
    have X2 := x1.trans x2
    have hB := hB.ext x2
    refine iFld (f := 0) (ha.ext X2) rfl (by simp [Fm.size]; try omega) (by decide) (kind_fst ha).1 ?_
    refine iEq (iCndF (by first | rfl | decide) ?_)
    refine iEq (iCndF (by first | rfl | decide) ?_)
    refine iEq (iCndF (by first | rfl | decide) ?_)
    refine iEq (iCndF (by first | rfl | decide) ?_)
    refine iEq (iCndF (by first | rfl | decide) ?_)
    refine iEq (iCndT (by first | rfl | decide) ?_)
    refine iLdA hB rfl (iLdA hB rfl ?_)
    intro w6 x6
    have X6 := X2.trans x6
    refine iCall ((ok_spec_l02LeftP (gs := [q]) (ha.ext X6) rfl (by simp only [Fm.size]; omega)).mono ?_)
    rintro u w7 ⟨x7, hu⟩
    have X7 := X6.trans x7
    refine ⟨x7, ?_⟩
    refine iRetQ (fun w' x => ihp ((hs.ext X7).ext x) ((hv.ext X7).ext x) (hu.ext x) hpl.1 (by omega)) ?_
    intro w8 x8
    have X8 := X7.trans x8
    refine iCall ((ok_spec_l02RightP (ha.ext X8) rfl (by simp only [Fm.size]; omega)).mono ?_)
    rintro u5 w9 ⟨x9, hu5⟩
    refine ⟨x9, ?_⟩
    have X9 := X8.trans x9
    refine iRetQ (fun w' x => ihq ((hs.ext X9).ext x) ((hv.ext X9).ext x) (hu5.ext x) hpl.2 (by omega)) ?_
    refine iBOr (h63 _) (h63 _) ?_
    exact fun w10 x10 => ⟨rfl, X9.trans x10⟩
  | imp p q ihp ihq =>
    intro va vv vn w hs hv ha hpl hsz
    simp only [Fm.size] at hsz
    apply c_spec_l06Truth; unfold S_spec_l06Truth
    refine iNew fun b w1 hb1 x1 hB => ?_
    have hB : Blk _ w1 b [.int .i64 (f.n : Int), va, vv] := hB
    refine iFa (iFa (iLdB hB (i := 0) (v := .int .i64 (f.n : Int)) rfl ?_))
    refine iRet (hfu w1) fun w2 x2 => ?_
    have X2 := x1.trans x2
    have hB := hB.ext x2
    refine iFld (f := 0) (ha.ext X2) rfl (by simp [Fm.size]; try omega) (by decide) (kind_fst ha).1 ?_
    refine iEq (iCndF (by first | rfl | decide) ?_)
    refine iEq (iCndF (by first | rfl | decide) ?_)
    refine iEq (iCndF (by first | rfl | decide) ?_)
    refine iEq (iCndF (by first | rfl | decide) ?_)
    refine iEq (iCndF (by first | rfl | decide) ?_)
    refine iEq (iCndF (by first | rfl | decide) ?_)
    refine iLdA hB rfl (iLdA hB rfl ?_)
    intro w6 x6
    have X6 := X2.trans x6
    refine iCall ((ok_spec_l02LeftP (gs := [q]) (ha.ext X6) rfl (by simp only [Fm.size]; omega)).mono ?_)
    rintro u w7 ⟨x7, hu⟩
    have X7 := X6.trans x7
    refine ⟨x7, ?_⟩
    refine iRetQ (fun w' x => ihp ((hs.ext X7).ext x) ((hv.ext X7).ext x) (hu.ext x) hpl.1 (by omega)) ?_
    refine iBAndNot hfull (h63 _) ?_
    intro w8 x8
    have X8 := X7.trans x8
    refine iCall ((ok_spec_l02RightP (ha.ext X8) rfl (by simp only [Fm.size]; omega)).mono ?_)
    rintro u5 w9 ⟨x9, hu5⟩
    refine ⟨x9, ?_⟩
    have X9 := X8.trans x9
    refine iRetQ (fun w' x => ihq ((hs.ext X9).ext x) ((hv.ext X9).ext x) (hu5.ext x) hpl.2 (by omega)) ?_
    refine iBOr (Nat.lt_of_lt_of_le (sdiff_lt (full_lt _)) hp63) (h63 _) ?_
    exact fun w10 x10 => ⟨rfl, X9.trans x10⟩
  | box p ihp =>
    intro va vv vn w hs hv ha hpl hsz
    simp only [Fm.size] at hsz
    apply c_spec_l06Truth; unfold S_spec_l06Truth
    refine iNew fun b w1 hb1 x1 hB => ?_
    have hB : Blk _ w1 b [.int .i64 (f.n : Int), va, vv] := hB
    refine iFa (iFa (iLdB hB (i := 0) (v := .int .i64 (f.n : Int)) rfl ?_))
    refine iRet (hfu w1) fun w2 x2 => ?_
    have X2 := x1.trans x2
    have hB := hB.ext x2
    refine iFld (f := 0) (ha.ext X2) rfl (by simp [Fm.size]; try omega) (by decide) (kind_fst ha).1 ?_
    refine iEq (iCndF (by first | rfl | decide) ?_)
    refine iEq (iCndF (by first | rfl | decide) ?_)
    refine iEq (iCndT (by first | rfl | decide) ?_)
    refine iFa (iFa (iLdB hB (i := 1) (v := va) rfl ?_))
    refine iLdA hB rfl ?_
    refine iTY (i := 1) (ha.ext X2) rfl (by simp only [Fm.size]; omega) fun v' hv' => ?_
    have hp : FmS w2 v' p := by
      have e : (Fm.box p).cells.drop (1 * 2) = p.cells := by simp [Fm.cells, nd]
      rw [e, show (Fm.box p).size - 1 = p.size by simp only [Fm.size]; omega] at hv'
      exact hv'
    refine iRetQ (fun w' x => ihp ((hs.ext X2).ext x) ((hv.ext X2).ext x) (hp.ext x) hpl (by omega)) ?_
    refine iRetQ (fun w' x => ok_spec_l01Box ((hs.ext X2).ext x) (by omega) ha8 _ (h63 p)) ?_
    rw [hal]
    exact fun w10 x10 => ⟨rfl, X2.trans x10⟩
  | dia p ihp =>
    intro va vv vn w hs hv ha hpl hsz
    simp only [Fm.size] at hsz
    apply c_spec_l06Truth; unfold S_spec_l06Truth
    refine iNew fun b w1 hb1 x1 hB => ?_
    have hB : Blk _ w1 b [.int .i64 (f.n : Int), va, vv] := hB
    refine iFa (iFa (iLdB hB (i := 0) (v := .int .i64 (f.n : Int)) rfl ?_))
    refine iRet (hfu w1) fun w2 x2 => ?_
    have X2 := x1.trans x2
    have hB := hB.ext x2
    refine iFld (f := 0) (ha.ext X2) rfl (by simp [Fm.size]; try omega) (by decide) (kind_fst ha).1 ?_
    refine iEq (iCndF (by first | rfl | decide) ?_)
    refine iEq (iCndF (by first | rfl | decide) ?_)
    refine iEq (iCndF (by first | rfl | decide) ?_)
    refine iEq (iCndT (by first | rfl | decide) ?_)
    refine iFa (iFa (iLdB hB (i := 1) (v := va) rfl ?_))
    refine iLdA hB rfl ?_
    refine iTY (i := 1) (ha.ext X2) rfl (by simp only [Fm.size]; omega) fun v' hv' => ?_
    have hp : FmS w2 v' p := by
      have e : (Fm.dia p).cells.drop (1 * 2) = p.cells := by simp [Fm.cells, nd]
      rw [e, show (Fm.dia p).size - 1 = p.size by simp only [Fm.size]; omega] at hv'
      exact hv'
    refine iRetQ (fun w' x => ihp ((hs.ext X2).ext x) ((hv.ext X2).ext x) (hp.ext x) hpl (by omega)) ?_
    refine iBAndNot hfull (h63 _) ?_
    refine iRetQ (fun w' x => ok_spec_l01Box ((hs.ext X2).ext x) (by omega) ha8 _ (Nat.lt_of_lt_of_le (sdiff_lt (full_lt _)) hp63)) ?_
    rw [hal]
    refine iBAndNot hfull (Nat.lt_of_lt_of_le (boxK_lt _ _ _) hp63) ?_
    exact fun w10 x10 => ⟨rfl, X2.trans x10⟩
end Go.Proofs.YtaipnnkpplinoaaGreatDoor

namespace Go.Vc
theorem setOf_memM {m : Nat} (hm : m < 2 ^ 63) : setOf (mem m) = m := by
  apply Nat.eq_of_testBit_eq
  intro i
  rw [setOf_testBit, Bool.eq_iff_iff, List.contains_iff_mem, mem_mem hm]
end Go.Vc
namespace Go.Proofs.YtaipnnkpplinoaaGreatDoor
open Go.Vc
theorem has_rawM {v : Nat} : ∀ {a : Fm}, Fm.has v a → (0, (v : Int)) ∈ rawF a
  | .var x, h => by
    have h : x = v := h
    subst h
    exact List.mem_cons_self
  | .fls, h => h.elim
  | .and a b, h => List.mem_cons_of_mem _ (List.mem_append.2 (h.imp has_rawM has_rawM))
  | .or a b, h => List.mem_cons_of_mem _ (List.mem_append.2 (h.imp has_rawM has_rawM))
  | .imp a b, h => List.mem_cons_of_mem _ (List.mem_append.2 (h.imp has_rawM has_rawM))
  | .box a, h => List.mem_cons_of_mem _ (has_rawM (a := a) h)
  | .dia a, h => List.mem_cons_of_mem _ (has_rawM (a := a) h)
theorem has_maskVM {v : Nat} {a : Fm} (h : Fm.has v a) : (maskV (rawF a)).testBit v = true := (maskV_has a v).2 (has_rawM h)
theorem ok_spec_l02Variables {v : Value} {N : List RN} {w : World} (hs : RawS w v N) (hok : N.all okN = true) : Cal Tryz.prog f_spec_l02Variables #[v] w fun r w' => Ext w w' ∧ Ow w.heap.size t_i64 w' r (ints (nats (mem (maskV N)))) := by
  have hln := hs.len
  apply c_spec_l02Variables; unfold S_spec_l02Variables
  have hallk : ∀ k, (N.take k).all okN = true := fun k => List.all_eq_true.2 fun x hx => List.all_eq_true.1 hok x (List.mem_of_mem_take hx)
  have hsnoc : ∀ k (hk : k < N.length), maskV (N.take (k + 1)) = if N[k].1 = 0 then maskV (N.take k) ||| 2 ^ N[k].2.toNat else maskV (N.take k) := fun k hk => by
    unfold maskV
    rw [List.take_succ_eq_append_getElem hk, List.filter_append, List.map_append]
    by_cases h : N[k].1 = 0
    · rw [if_pos h, List.filter_cons_of_pos (by simpa using h)]
      exact setOf_snoc _ _
    · rw [if_neg h, List.filter_cons_of_neg (by simpa using h)]
      simp
  refine iLp (fun k : Nat => [.int .i64 ((maskV (N.take k) : Nat) : Int), .int .i64 (k : Int)]) (fun k w' => k ≤ N.length ∧ Ext w w') (fun k => N.length - k) 0 rfl ⟨Nat.zero_le _, Ext.refl _⟩ ?_
  rintro k w2 Kn ⟨hk, x2⟩ hKn
  have hs2 := SlK.ext hs x2
  intro _
  simp only [gx]
  refine iLenK hs2 ?_
  refine iLt (iCndP (fun h => ?_) (fun h => ?_))
  · have hk1 : k < N.length := by omega
    have hat := cellsN_at hk1
    have hq := okN_iff.1 (List.all_eq_true.1 hok _ (List.getElem_mem hk1))
    have h1 := maskV_lt (hallk k)
    have h2 := hsnoc k hk1
    refine iFld (f := 0) hs2 rfl hk1 (by decide) hat.1 ?_
    refine iEq (iCndP (fun h0 => ?_) (fun h0 => ?_))
    · refine iFld (f := 1) hs2 rfl hk1 (by decide) hat.2 ?_
      rw [if_pos h0] at h2
      generalize he : N[k].2 = s at *
      have hq2 : 0 ≤ s ∧ s ≤ 5 := hq.2.1
      obtain ⟨m, rfl⟩ := Int.eq_ofNat_of_zero_le hq2.1
      refine iRet (ok_spec_l01One m (by omega) w2) fun w3 x3 => ?_
      have h3 : 2 ^ m < 2 ^ 6 := Nat.pow_lt_pow_right (by omega) (by omega)
      refine iBOr (by omega) (by omega) ?_
      refine iAdd (by omega) ?_
      rw [show maskV (N.take k) ||| 2 ^ m = maskV (N.take (k + 1)) by rw [h2]; rfl]
      exact hKn (k + 1) _ ⟨by omega, x2.trans x3⟩ (by omega)
    · rw [if_neg h0] at h2
      refine iAdd (by omega) ?_
      rw [← h2]
      exact hKn (k + 1) _ ⟨by omega, x2⟩ (by omega)
  · have h1 := maskV_lt (hallk k)
    rw [List.take_of_length_le (by omega)] at h1 ⊢
    refine iCall ((ok_spec_l01List _ (by omega) w2).mono ?_)
    rintro r w3 ⟨x3, ho⟩
    exact ⟨x2.trans x3, ho.mono x2.size⟩
theorem ok_spec_l06Variables {v : Value} {L : List VN} {w : World} (hs : RwN w v L) (hok : ∀ p ∈ L, p.2.all okN = true) : Cal Tryz.prog f_spec_l06Variables #[v] w fun r w' => Ext w w' ∧ Ow w.heap.size t_i64 w' r (ints (nats (mem (maskL L)))) := by
  have hln := hs.len
  apply c_spec_l06Variables; unfold S_spec_l06Variables
  refine iLp (fun k : Nat => [.int .i64 ((maskL (L.take k) : Nat) : Int), .int .i64 (k : Int)]) (fun k w' => k ≤ L.length ∧ Ext w w') (fun k => L.length - k) 0 rfl ⟨Nat.zero_le _, Ext.refl _⟩ ?_
  rintro k w2 Kn ⟨hk, x2⟩ hKn
  have h1 := maskL_lt (L := L.take k) fun p hp => hok p (List.mem_of_mem_take hp)
  intro _
  simp only [gx]
  refine iLenS (hs.ext x2).row ?_
  rw [List.length_map]
  refine iLt (iCndP (fun h => ?_) (fun h => ?_))
  · have hk1 : k < L.length := by omega
    refine iRdN (hs.ext x2) hk1 ?_
    have hNk := hok _ (List.getElem_mem hk1)
    have hm := maskV_lt hNk
    refine iCall ((ok_spec_l02Variables ((hs.ext x2).raw _ (List.getElem_mem hk1)) hNk).mono ?_)
    rintro u w3 ⟨x3, ho⟩
    generalize hM : maskV L[k].2 = M at *
    have hM6 : (mem M).length ≤ 6 := popc_full (m := 6) (by decide) hm
    have hml : ∀ y ∈ mem M, y < 6 := fun y hy => bit_lt_n hm ((mem_mem (by omega)).1 hy)
    have hmk : ∀ j, setOf ((mem M).take j) < 2 ^ 6 := fun j => setOf_lt fun y hy => hml y (List.mem_of_mem_take hy)
    refine iLp (fun j : Nat => [.int .i64 ((maskL (L.take k) ||| setOf ((mem M).take j) : Nat) : Int), .int .i64 (j : Int)]) (fun j w' => j ≤ (mem M).length ∧ Ext w3 w') (fun j => (mem M).length - j) 0 (by simp [setOf]) ⟨Nat.zero_le _, Ext.refl _⟩ ?_
    rintro j w5 Kn5 ⟨hj, x5⟩ hKn5
    intro _
    simp only [gx]
    have ho5 : SlN w5 u (mem M) := (ho.ext x5).sl
    refine iLenN ho5 ?_
    refine iLt (iCndP (fun h2 => ?_) (fun h2 => ?_))
    · have hj1 : j < (mem M).length := by omega
      refine iIaNN ho5 hj1 fun p hp => iLd hp ?_
      have hg : (mem M).getD j 0 = (mem M)[j] := by simp [hj1]
      have h6 := hml _ (List.getElem_mem hj1)
      rw [hg]
      refine iRet (ok_spec_l01One _ (by omega) w5) fun w6 x6 => ?_
      have h3 : 2 ^ (mem M)[j] < 2 ^ 6 := Nat.pow_lt_pow_right (by omega) h6
      have h4 := hmk j
      have h5 : maskL (L.take k) ||| setOf ((mem M).take j) < 2 ^ 6 := Nat.or_lt_two_pow h1 h4
      refine iBOr (by omega) (by omega) ?_
      refine iAdd (by omega) ?_
      rw [show (maskL (L.take k) ||| setOf ((mem M).take j)) ||| 2 ^ (mem M)[j] = maskL (L.take k) ||| setOf ((mem M).take (j + 1)) by
        rw [Nat.or_assoc, ← setOf_snoc, ← List.take_succ_eq_append_getElem hj1]]
      exact hKn5 (j + 1) _ ⟨hj1, x5.trans x6⟩ (by omega)
    · refine iAdd (by omega) ?_
      rw [show (mem M).take j = mem M from List.take_of_length_le (by omega), setOf_memM (by omega)]
      rw [show maskL (L.take k) ||| M = maskL (L.take (k + 1)) by rw [List.take_succ_eq_append_getElem hk1, maskL_snoc, hM]]
      exact hKn (k + 1) _ ⟨by omega, (x2.trans x3).trans x5⟩ (by omega)
  · rw [List.take_of_length_le (by omega)] at h1 ⊢
    refine iCall ((ok_spec_l01List _ (by omega) w2).mono ?_)
    rintro r w3 ⟨x3, ho⟩
    exact ⟨x2.trans x3, ho.mono x2.size⟩
def codeM (n : Int) (l : List Int) (L : List VN) : Int :=
  if (frameOk n l && L.all fun p => isN p.2) = true then (if n * (mem (maskL L)).length ≤ 16 then 0 else 3) else 1
theorem isN_ok {N : List RN} (h : isN N = true) : N.all okN = true := by
  obtain ⟨a, ga, _, rfl⟩ := isN_iff.1 h
  exact List.all_eq_true.2 (rawF_ok ga)
theorem mem_lt6 {L : List VN} (hok : ∀ p ∈ L, p.2.all okN = true) : (mem (maskL L)).length ≤ 6 := by
  have h := maskL_lt hok
  have := popc_full (m := 6) (by decide) h
  exact this
theorem ok_spec_l06Code {v u : Value} {n : Int} {l : List Int} {L : List VN} {w : World} (hp : SlI w v l) (hs : RwN w u L) (hn : ∀ p ∈ L, p.2.length ≤ 1099511627776) : Ret Tryz.prog f_spec_l06Code #[.agg #[.int .i64 n, v], u] w (.int .i64 (codeM n l L)) := by
  have hln := hs.len
  apply c_spec_l06Code; unfold S_spec_l06Code
  refine iNew fun b w1 hb x1 hB => ?_
  have hB : Blk _ w1 b [.int .i64 n, v] := hB
  refine iLdA hB rfl ?_
  refine iRet (ok_spec_l05Is (hp.ext x1) n) fun w2 x2 => iNot ?_
  have X2 := x1.trans x2
  cases hf : frameOk n l
  · refine iCndT rfl ⟨?_, X2⟩
    unfold codeM
    rw [hf, if_neg (by simp)]
  refine iCndF rfl ?_
  obtain ⟨hfo, hn0, hl0⟩ := frameOk_fr hf
  have h8 := hfo.1
  refine iLp (fun k : Nat => [.int .i64 (k : Int)]) (fun k w' => k ≤ L.length ∧ Ext w2 w' ∧ ∀ p ∈ L.take k, isN p.2 = true) (fun k => L.length - k) 0 rfl ⟨Nat.zero_le _, Ext.refl _, by simp⟩ ?_
  rintro k w4 Kn ⟨hk, x4, hall⟩ hKn
  have X4 := X2.trans x4
  have hs4 := hs.ext X4
  intro _
  simp only [gx]
  refine iLenS hs4.row ?_
  rw [List.length_map]
  refine iLt (iCndP (fun h => ?_) (fun h => ?_))
  · have hk1 : k < L.length := by omega
    refine iRdN hs4 hk1 ?_
    refine iRet (ok_spec_l02Is (hs4.raw _ (List.getElem_mem hk1)) (hn _ (List.getElem_mem hk1))) fun w5 x5 => iNot ?_
    cases hN : isN L[k].2
    · refine iCndT rfl ⟨?_, X4.trans x5⟩
      unfold codeM
      have : (L.all fun p => isN p.2) = false := by
        rw [List.all_eq_false]
        exact ⟨_, List.getElem_mem hk1, by rw [hN]; simp⟩
      rw [this, Bool.and_false, if_neg (by simp)]
    · refine iCndF rfl (iAdd (by omega) ?_)
      refine hKn (k + 1) _ ⟨hk1, x4.trans x5, fun p hp => ?_⟩ (by omega)
      rw [List.take_succ_eq_append_getElem hk1] at hp
      rcases List.mem_append.1 hp with hp | hp
      · exact hall p hp
      · rw [List.mem_singleton] at hp
        rw [hp]; exact hN
  · rw [List.take_of_length_le (by omega)] at hall
    have hall2 : (L.all fun p => isN p.2) = true := List.all_eq_true.2 hall
    have hok : ∀ p ∈ L, p.2.all okN = true := fun p hp => isN_ok (hall p hp)
    refine iLdA ((hB.ext x2).ext x4) rfl ?_
    refine iRet (v := .bool (decide (n * (mem (maskL L)).length ≤ 16))) ?_ fun w6 x6 => ?_
    · apply c_spec_l06Fits; unfold S_spec_l06Fits
      refine iNew fun b2 w7 hb2 x7 hB2 => ?_
      have hB2 : Blk _ w7 b2 [.int .i64 n, v] := hB2
      refine iFa (iLdB hB2 (i := 0) (v := .int .i64 n) rfl ?_)
      intro w8 x8
      refine iCall ((ok_spec_l06Variables ((hs4.ext x7).ext x8) hok).mono ?_)
      rintro r w9 ⟨x9, ho⟩
      refine ⟨x9, iLenN (l := mem (maskL L)) ho.sl ?_⟩
      have h6 := mem_lt6 hok
      have hmul : n * ((mem (maskL L)).length : Int) = (((frOf n l).n * (mem (maskL L)).length : Nat) : Int) := by rw [Int.natCast_mul, ← hn0]
      have hle : (frOf n l).n * (mem (maskL L)).length ≤ 8 * 6 := Nat.mul_le_mul h8 h6
      refine iMul (by rw [hmul]; omega) (iLe ?_)
      exact fun w10 x10 => ⟨rfl, ((x7.trans x8).trans x9).trans x10⟩
    · refine iNot ?_
      by_cases hle : n * ((mem (maskL L)).length : Int) ≤ 16
      · rw [decide_eq_true hle]
        refine iCndF rfl ⟨?_, X4.trans x6⟩
        unfold codeM
        rw [hf, hall2, Bool.true_and, if_pos rfl, if_pos hle]
      · rw [decide_eq_false hle]
        refine iCndT rfl ⟨?_, X4.trans x6⟩
        unfold codeM
        rw [hf, hall2, Bool.true_and, if_pos rfl, if_neg hle]
theorem vsetN_len {n : Nat} : ∀ (vs : List Nat) (k : Nat) (out : List Nat), (vsetN n vs k out).length = out.length
  | [], _, _ => rfl
  | v :: r, k, out => by
    show (vsetN n r (k >>> n) (out.set v _)).length = _
    rw [vsetN_len r, List.length_set]
theorem vsetN_lt {n : Nat} : ∀ (vs : List Nat) (k : Nat) (out : List Nat), (∀ x ∈ out, x < 2 ^ n) → ∀ x ∈ vsetN n vs k out, x < 2 ^ n
  | [], _, _, h => h
  | v :: r, k, out, h => by
    refine vsetN_lt r (k >>> n) (out.set v _) fun x hx => ?_
    rcases List.mem_or_eq_of_mem_set hx with hx | rfl
    · exact h x hx
    · exact Nat.and_lt_two_pow _ (full_lt n)
theorem ok_spec_l06Values {n : Nat} (hn : n ≤ 8) {va vv : Value} {vars : List Nat} {w : World} (hv : SlN w vv vars) (hv6 : ∀ x ∈ vars, x < 6) (hl : vars.length ≤ 6) {num : Nat} (hnum : num < 2 ^ 17) : Cal Tryz.prog f_spec_l06Values #[.agg #[.int .i64 (n : Int), va], vv, .int .i64 (num : Int)] w fun r w' => Ext w w' ∧ Ow w.heap.size t_i64 w' r (ints (nats (vsetN n vars.reverse num (List.replicate 6 0)))) := by
  apply c_spec_l06Values; unfold S_spec_l06Values
  refine iNew fun b w1 hb x1 hB => ?_
  have hB : Blk _ w1 b [.int .i64 (n : Int), va] := hB
  refine iMk (k := .i64) (n := 6) (by decide) (by decide) rfl fun br w2 hbr x2 hBr => ?_
  have hz1 := x1.size
  have hrow : Ow w.heap.size t_i64 w2 (.slice (some ⟨br, 0, none⟩) 6 6) (ints (nats (List.replicate 6 0))) := Ow.ofBlk hBr (by omega) rfl (by decide)
  generalize hvo : (Value.slice (some ⟨br, 0, none⟩) 6 6) = vo at *
  have X2 := x1.trans x2
  refine iLenN (hv.ext X2) ?_
  refine iSub (by omega) ?_
  refine iLp (fun s : Nat × Nat => [.int .i64 (s.1 : Int), .int .i64 ((vars.length : Int) - 1 - (s.2 : Int))]) (fun s w' => s.2 ≤ vars.length ∧ s.1 < 2 ^ 17 ∧ Ext w w' ∧ Blk 26 w' b [.int .i64 (n : Int), va] ∧ ∃ o, o.length = 6 ∧ Ow w.heap.size t_i64 w' vo (ints (nats o)) ∧ vsetN n (vars.reverse.drop s.2) s.1 o = vsetN n vars.reverse num (List.replicate 6 0)) (fun s => vars.length - s.2) (num, 0) (by simp) ⟨Nat.zero_le _, hnum, X2, hB.ext x2, _, rfl, hrow, rfl⟩ ?_
  rintro ⟨k, j⟩ w4 Kn ⟨hj, hk, x4, hB4, o, hol, ho, he⟩ hKn
  have hj : j ≤ vars.length := hj
  have hk : k < 2 ^ 17 := hk
  have he : vsetN n (vars.reverse.drop j) k o = vsetN n vars.reverse num (List.replicate 6 0) := he
  intro _
  simp only [gx]
  refine iLe (iCndP (fun h => ?_) (fun h => ?_))
  · have hjl : j < vars.length := by omega
    have hjr : j < vars.reverse.length := by rw [List.length_reverse]; exact hjl
    rw [show (vars.length : Int) - 1 - (j : Int) = ((vars.length - 1 - j : Nat) : Int) by omega]
    refine iIaNN (hv.ext x4) (show vars.length - 1 - j < vars.length by omega) fun p hp => iLd hp ?_
    have hg : vars.getD (vars.length - 1 - j) 0 = vars.reverse[j] := by
      rw [List.getElem_reverse, List.getD_eq_getElem?_getD, List.getElem?_eq_getElem (by omega)]; rfl
    rw [hg]
    have hx6 : vars.reverse[j] < 6 := hv6 _ (by rw [← List.mem_reverse]; exact List.getElem_mem hjr)
    rw [List.drop_eq_getElem_cons hjr] at he
    generalize vars.reverse[j] = x at *
    refine iFa (iLdB hB4 (i := 0) (v := .int .i64 (n : Int)) rfl ?_)
    refine iRetQ (fun w' _ => ok_spec_l01Full n (by omega) w') ?_
    have hf1 := full_lt n
    have hp8 : 2 ^ n ≤ 2 ^ 8 := Nat.pow_le_pow_right (by omega) hn
    refine iBAnd (by omega) (by omega) ?_
    refine iIaOwE ho (j := x) (by rw [ints_length, nats_length]; omega) fun bu hbu hwr => ?_
    intro w5 x5
    obtain ⟨h1, h2, h3⟩ := hwr w5 _ rfl (ho.ext x5)
    rw [List.getElem?_eq_getElem (by rw [ints_length, nats_length]; omega)] at h1
    refine iSt h1 h2 rfl ?_
    have h3 := h3 (.int .i64 ((k &&& (2 ^ n - 1) : Nat) : Int))
    rw [← ints_nats_set] at h3
    have hu := Upd.setCell w5 bu x (.int .i64 ((k &&& (2 ^ n - 1) : Nat) : Int))
    have hbo := ho.blk bu hbu
    have hB5 := (hB4.ext x5).upd hu fun e => (ho.ext x5).ne_blk (hB4.ext x5) (by decide) (by rw [e]; exact hbu)
    intro w7 x7
    refine iFa (iLdB (hB5.ext x7) (i := 0) (v := .int .i64 (n : Int)) rfl ?_)
    refine iConvU (by omega) ?_
    refine iShrN (by omega) ?_
    refine iSub (by omega) ?_
    rw [show ((vars.length - 1 - j : Nat) : Int) - 1 = (vars.length : Int) - 1 - ((j + 1 : Nat) : Int) by omega]
    exact hKn (k >>> n, j + 1) _ ⟨hjl, Nat.lt_of_le_of_lt (Nat.shiftRight_le _ _) hk, (((x4.trans x5).upd hu hbo.1).trans x7), hB5.ext x7, _, by rw [List.length_set]; exact hol, h3.ext x7, he⟩ (by show vars.length - (j + 1) < vars.length - j; omega)
  · have hje : j = vars.length := by omega
    rw [hje, List.drop_of_length_le (by rw [List.length_reverse]; exact Nat.le_refl _)] at he
    have he : o = _ := he
    rw [← he]
    exact ⟨x4, ho⟩
theorem vldM_of {f : Fr} {a : Fm} (h : ∀ k, k < 2 ^ (f.n * (mem (maskV (rawF a))).length) → trM f (fun v => (vsetN f.n (mem (maskV (rawF a))).reverse k (List.replicate 6 0)).getD v 0) a = 2 ^ f.n - 1) (hg : a.good) : VldM f a := by
  intro V hV
  have hok : (rawF a).all okN = true := List.all_eq_true.2 (rawF_ok hg)
  obtain ⟨k, hk, e⟩ := vsetN_any hV (mem (maskV (rawF a))).reverse (List.replicate 6 0)
  rw [List.length_reverse] at hk
  rw [← h k hk]
  refine trM_congr a fun v hv => ?_
  have hb := has_maskVM hv
  have h6 := bit_lt_n (maskV_lt hok) hb
  rw [e]
  exact (vsetU_get _ _ v (by simpa using h6) (.inl (by rw [List.mem_reverse, mem_mem (Nat.lt_of_lt_of_le (maskV_lt hok) (by decide))]; exact hb))).symm
theorem ok_spec_l06First {f : Fr} (hf : f.ok) {va vn : Value} {w : World} (hs : SlN w va f.a) {a : Fm} (ha : FmS w vn a) (hg : a.good) (hsz : a.size ≤ 1000000) (h16 : f.n * (mem (maskV (rawF a))).length ≤ 16) :
    Cal Tryz.prog f_spec_l06First #[.agg #[.int .i64 (f.n : Int), va], vn] w fun r w' => Ext w w' ∧ ∃ u z b, r = .tuple #[u, z, .bool b] ∧ (b = false → VldM f a) := by
  have hok : (rawF a).all okN = true := List.all_eq_true.2 (rawF_ok hg)
  have h8 := hf.1
  have hM := maskV_lt hok
  have hl6 : (mem (maskV (rawF a))).length ≤ 6 := popc_full (m := 6) (by decide) hM
  have hm6 : ∀ x ∈ mem (maskV (rawF a)), x < 6 := fun x hx => bit_lt_n hM ((mem_mem (by omega)).1 hx)
  have hpow : 2 ^ (f.n * (mem (maskV (rawF a))).length) ≤ 2 ^ 16 := Nat.pow_le_pow_right (by omega) h16
  apply c_spec_l06First; unfold S_spec_l06First
  refine iNew fun b w1 hb x1 hB => ?_
  have hB : Blk _ w1 b [.int .i64 (f.n : Int), va] := hB
  refine iCall ((ok_spec_l02Variables (FmS.raw (ha.ext x1)) hok).mono ?_)
  rintro vv w2 ⟨x2, ho⟩
  have X2 := x1.trans x2
  generalize hvars : mem (maskV (rawF a)) = vars at *
  have hmulN : ((f.n : Int) * (vars.length : Int)) = ((f.n * vars.length : Nat) : Int) := by simp
  refine iLp (fun k : Nat => [.int .i64 (k : Int)]) (fun k w' => k ≤ 2 ^ (f.n * vars.length) ∧ Ext w2 w' ∧ ∀ j, j < k → trM f (fun v => (vsetN f.n vars.reverse j (List.replicate 6 0)).getD v 0) a = 2 ^ f.n - 1) (fun k => 2 ^ (f.n * vars.length) - k) 0 rfl ⟨Nat.zero_le _, Ext.refl _, fun j h => by omega⟩ ?_
  rintro k w4 Kn ⟨hk, x4, hall⟩ hKn
  intro _
  simp only [gx]
  have hB4 := (hB.ext x2).ext x4
  have hv4 : SlN w4 vv vars := (ho.ext x4).sl
  refine iFa (iLdB hB4 (i := 0) (v := .int .i64 (f.n : Int)) rfl ?_)
  refine iLenN hv4 ?_
  refine iMul (by rw [hmulN]; omega) ?_
  rw [hmulN]
  refine iRet (ok_spec_l01One _ (by omega) w4) fun w5 x5 => ?_
  refine iLt (iCndP (fun h => ?_) (fun h => ?_))
  · have hkl : k < 2 ^ (f.n * vars.length) := by omega
    refine iLdA (hB4.ext x5) rfl ?_
    refine iCall ((ok_spec_l06Values h8 (hv4.ext x5) hm6 hl6 (by omega)).mono ?_)
    rintro vo w6 ⟨x6, hov⟩
    have hB6 := (hB4.ext x5).ext x6
    refine iLdA hB6 rfl ?_
    have hlen : (vsetN f.n vars.reverse k (List.replicate 6 0)).length = 6 := by rw [vsetN_len]; rfl
    have hlt : ∀ x ∈ vsetN f.n vars.reverse k (List.replicate 6 0), x < 2 ^ f.n := vsetN_lt _ _ _ fun x hx => by rw [List.eq_of_mem_replicate hx]; exact Nat.two_pow_pos _
    obtain ⟨oa, on, oc, rfl⟩ := hov.shape
    refine iBuild (cs := #[.int .i64 (f.n : Int), va, .slice oa on oc]) (by simp [Instr.fill, Value.cells]) ?_
    have X6 := ((X2.trans x4).trans x5).trans x6
    refine iRet (ok_spec_l06Truth hf hlen hlt a (hs.ext X6) hov.sl (ha.ext X6) hg hsz) fun w7 x7 => ?_
    refine iFa (iLdB (hB6.ext x7) (i := 0) (v := .int .i64 (f.n : Int)) rfl ?_)
    refine iRet (ok_spec_l01Full f.n (by omega) w7) fun w8 x8 => ?_
    have X8 := (X6.trans x7).trans x8
    refine iNe (iCndP (fun hne => ⟨X8, _, _, true, rfl, fun h => by cases h⟩) (fun he => ?_))
    refine iAdd (by omega) ?_
    refine hKn (k + 1) _ ⟨hkl, (((x4.trans x5).trans x6).trans x7).trans x8, fun j hj => ?_⟩ (by omega)
    by_cases hjk : j = k
    · subst hjk
      have he := Classical.not_not.1 he
      exact_mod_cast he
    · exact hall j (by omega)
  · refine ⟨(X2.trans x4).trans x5, _, _, false, rfl, fun _ => vldM_of (fun j hj => ?_) hg⟩
    rw [hvars] at hj ⊢
    exact hall j (by omega)
theorem ok_spec_IsValidOn {n : Int} {l : List Int} {N : List RN} {v u : Value} {w : World} (hp : SlI w v l) (hu : RawS w u N) (hcu : isCell u = true) (hn : N.length ≤ 1099511627776) :
    Cal Tryz.prog f_spec_IsValidOn #[.agg #[.int .i64 n, v], u] w fun r w' => Ext w w' ∧ ∃ (b : Bool) (c : Int), r = .tuple #[.bool b, .int .i64 c] ∧ (c = 0 → b = true → frameOk n l = true ∧ ∃ a : Fm, N = rawF a ∧ a.good ∧ a.size ≤ 40 ∧ (frOf n l).n * (mem (maskV (rawF a))).length ≤ 16 ∧ VldM (frOf n l) a) := by
  apply c_spec_IsValidOn; unfold S_spec_IsValidOn
  refine iNew fun b2 w1 hb2 x1 hB2 => ?_
  have hB2 : Blk _ w1 b2 [.int .i64 n, v] := hB2
  refine iLdA hB2 rfl ?_
  refine iBs1 rfl hcu fun br w3 hbr x3 hBr => ?_
  have X3 := x1.trans x3
  have hu3 : RawS w3 u N := SlK.ext hu X3
  refine iRet (ok_spec_l06Code (L := [(u, N)]) (hp.ext X3) (RwN.one (Ow.ofBlk hBr (Nat.le_refl _) rfl (by simp)).sl hu3) fun p hp => by
    rw [List.mem_singleton] at hp
    subst hp; exact hn) fun w4 x4 => ?_
  have X4 := X3.trans x4
  refine iNe (iCndP (fun hne => ⟨X4, false, _, rfl, fun h => absurd h hne⟩) (fun h0 => ?_))
  have h0 := Classical.not_not.1 h0
  obtain ⟨hf, hN, h16⟩ : frameOk n l = true ∧ isN N = true ∧ n * (mem (maskL [(u, N)])).length ≤ 16 := by
    unfold codeM at h0
    split at h0
    · rename_i h
      rw [Bool.and_eq_true] at h
      split at h0
      · rename_i h2
        exact ⟨h.1, by simpa using h.2, h2⟩
      · cases h0
    · cases h0
  obtain ⟨a, ga, sa, rfl⟩ := isN_iff.1 hN
  obtain ⟨hfo, hn0, hl0⟩ := frameOk_fr hf
  have hmk : maskL [(u, rawF a)] = maskV (rawF a) := by simp [maskL]
  rw [hmk] at h16
  have h16' : (frOf n l).n * (mem (maskV (rawF a))).length ≤ 16 := by
    rw [hn0] at h16
    exact_mod_cast h16
  refine iLdA ((hB2.ext x3).ext x4) rfl ?_
  have hs4 : SlN w4 v (frOf n l).a := by
    have := hp.ext X4
    unfold SlN
    rw [← hl0]; exact this
  refine iCall (Cal.mono (R := fun r w' => Ext w4 w' ∧ ∃ b, r = .bool b ∧ (b = true → VldM (frOf n l) a)) ?_ ?_)
  · apply c_spec_l06Valid; unfold S_spec_l06Valid
    refine iNew fun b5 w5 hb5 x5 hB5 => ?_
    have hB5 : Blk _ w5 b5 [.int .i64 n, v] := hB5
    refine iLdA hB5 rfl ?_
    have hU := ok_spec_l06First hfo (hs4.ext x5) (RawS.fm (SlK.ext hu3 (x4.trans x5))) ga (by omega) h16'
    rw [← hn0] at hU
    refine iCall (hU.mono ?_)
    rintro _ w6 ⟨x6, z1, z2, bb, rfl, hb⟩
    refine iEx (by rfl) (iEx (by rfl) (iEx (by rfl) ?_))
    refine iNot ⟨x5.trans x6, _, rfl, fun h => hb (by simpa using h)⟩
  · rintro _ w5 ⟨x5, bb, rfl, hb⟩
    exact ⟨X4.trans x5, bb, 0, rfl, fun _ h => ⟨hf, a, rfl, ga, sa, h16', hb h⟩⟩
end Go.Proofs.YtaipnnkpplinoaaGreatDoor

namespace Go.Proofs.YtaipnnkpplinoaaGreatDoor
open Go.Vc
theorem frameOk_ofM {f : Fr} (hf : f.ok) : frameOk (f.n : Int) (nats f.a) = true := by
  obtain ⟨h1, h2, h3⟩ := hf
  unfold frameOk
  rw [Bool.and_eq_true, Bool.and_eq_true, decide_eq_true_eq, decide_eq_true_eq, List.all_eq_true, Int.toNat_natCast, nats_length]
  refine ⟨⟨by omega, by omega⟩, fun x hx => ?_⟩
  obtain ⟨y, hy, rfl⟩ := List.mem_map.1 hx
  have := h3 y hy
  unfold maskB
  rw [decide_eq_true_eq]
  show 0 ≤ ((y : Nat) : Int) ∧ ((y : Nat) : Int) ≤ _
  omega
theorem Dfo.chM {d : Nat} {S : Nat → Prop} {w w' : World} (h : Dfo d w) (k : Ch S w w') (hn : ¬ S d) : Dfo d w' := by
  have hlt : d < w.heap.size := by
    unfold Dfo at h
    rcases Nat.lt_or_ge d w.heap.size with h1 | h1
    · exact h1
    · rw [Array.getElem?_eq_none h1] at h; cases h
  exact (k.block d hlt hn).trans h
structure ValW (n : Nat) (vars : List Nat) (br bv bf : Nat) (vv va vo : Value) (S : Nat → Prop) (w : World) (c : List Nat) : Prop where
  B1 : Blk 24 w bv [vv]
  B2 : Blk 26 w bf [.int .i64 (n : Int), va]
  V : ∃ l1, Ow l1 t_i64 w vv (ints (nats vars))
  row : Ow br t_i64 w vo (ints (nats c))
  len : c.length = 6
  lt : ∀ x ∈ c, x < 2 ^ n
  nS : ¬ S bv ∧ ¬ S bf
  nV : ∀ b, vv.ownBlock = some b → ¬ S b ∧ vo.ownBlock ≠ some b
  nR : ∀ b, vo.ownBlock = some b → ¬ S b
theorem ValW.ch {n : Nat} {vars : List Nat} {br bv bf : Nat} {vv va vo : Value} {S : Nat → Prop} {w w' : World} {c c' : List Nat} (h : ValW n vars br bv bf vv va vo S w c) (k : Ch (fun b => S b ∨ vo.ownBlock = some b) w w') (hr : Ow br t_i64 w' vo (ints (nats c'))) (hl : c'.length = 6) (hlt : ∀ x ∈ c', x < 2 ^ n) : ValW n vars br bv bf vv va vo S w' c' := by
  have nb : ∀ {e : TypeId} {b : Nat} {cs : List Value}, Blk e w b cs → e ≠ t_i64 → ¬ S b → ¬ (S b ∨ vo.ownBlock = some b) := fun hB hne hn h' => h'.elim hn fun h' => h.row.ne_blk hB (fun e => hne e.symm) h'
  refine ⟨h.B1.ch k (nb h.B1 (by decide) h.nS.1), h.B2.ch k (nb h.B2 (by decide) h.nS.2), ?_, hr, hl, hlt, h.nS, h.nV, h.nR⟩
  obtain ⟨l1, hv⟩ := h.V
  exact ⟨l1, hv.ch k fun b hb h' => h'.elim (h.nV b hb).1 (h.nV b hb).2⟩
end Go.Proofs.YtaipnnkpplinoaaGreatDoor

namespace Go.Proofs.YtaipnnkpplinoaaGreatDoor
open Go.Vc
theorem grB_range : ∀ n, grB 0 (List.range n) = true ∧ topG 0 (List.range n) = n
  | 0 => ⟨rfl, rfl⟩
  | n + 1 => by
    obtain ⟨h1, h2⟩ := grB_range n
    rw [List.range_succ]
    refine ⟨?_, ?_⟩
    · rw [grB_app, h1, h2]; simp [grB]
    · rw [topG_snoc, h2, if_pos rfl]
theorem congL_range (f : Fr) : List.range f.n ∈ congL f := mem_congL.2 ⟨List.length_range, (grB_range _).1, corB_range _ _⟩
theorem quo_leafM {f : Fr} (hf : f.ok) {c : List Nat} (hl : c.length = f.n) (hg : grB 0 c = true) (hc : corB f c = true) : c ∈ leaves (fitsB f (quoF f c) true false) (quoF f c).n f.n [] := by
  have hok := quo_ok hf hl hg hc
  have hlt : ∀ y ∈ c, y < (quoF f c).n := grB_lt c 0 hg
  refine map_onto hf hok ((mem_leaves hf hok).2 ⟨hl, hlt, fun x hx => quo_mor hf hl hg hc hx, fun h => (by cases h), fun h => (by cases h)⟩) ?_
  apply Nat.eq_of_testBit_eq
  intro j
  rw [Nat.testBit_two_pow_sub_one, setOf_testBit, Bool.eq_iff_iff, List.contains_iff_mem, decide_eq_true_eq]
  exact ⟨fun h => hlt j h, fun h => grB_onto c 0 j (Nat.zero_le _) h⟩
def imG (f : Fr) (c : List Nat) : Fr := ⟨(quoF f c).n, least (quoF f c).a⟩
theorem imG_ok {f : Fr} (hf : f.ok) {c : List Nat} (h : c ∈ congL f) : (imG f c).ok := by
  obtain ⟨h1, h2, h3⟩ := mem_congL.1 h
  exact least_okM (quo_ok hf h1 h2 h3)
theorem imG_leaf {f : Fr} (hf : f.ok) {c : List Nat} (h : c ∈ congL f) : ∃ F, F ∈ leaves (fitsB f (imG f c) true false) (imG f c).n f.n [] := by
  obtain ⟨h1, h2, h3⟩ := mem_congL.1 h
  have hq := quo_ok hf h1 h2 h3
  have hg := imG_ok hf h
  have hl := ((least_iff hq hg).1 ⟨rfl, (least_idem hq).symm⟩).2
  obtain ⟨G, hG⟩ := List.exists_mem_of_ne_nil _ hl
  obtain ⟨g1, g2, g3, g4, g5⟩ := (mem_leaves hq hg).1 hG
  have hG' : G ∈ leaves (fitsB (quoF f c) (imG f c) true false) (imG f c).n (quoF f c).n [] := (mem_leaves hq hg).2 ⟨g1, g2, g3, g4, fun h => (by cases h)⟩
  exact ⟨_, leaf_comp hf hq hg (quo_leafM hf h1 h2 h3) hG'⟩
theorem morR_ok {n : Int} {l : List Int} (h : (morR n l).2 = 0) : frameOk n l = true ∧ (morR n l).1 = setA ltP (imgsK (frOf n l)) := by
  unfold morR at h ⊢
  cases hfo : frameOk n l
  · rw [hfo] at h; cases h
  · rw [hfo] at h
    rw [if_pos rfl] at h ⊢
    by_cases h6 : n ≤ 6
    · rw [if_pos h6] at h ⊢
      by_cases h2 : (setA ltP (imgsK (frOf n l))).length ≤ 200
      · rw [if_pos h2]; exact ⟨rfl, rfl⟩
      · rw [if_neg h2] at h; cases h
    · rw [if_neg h6] at h; cases h
theorem morR_len (n : Int) (l : List Int) : (morR n l).1.length ≤ 200 := by
  unfold morR
  split
  · split
    · split
      · assumption
      · simp
    · simp
  · simp
theorem morR_mem {n : Int} {l : List Int} {x : Int × List Int} (h : (morR n l).2 = 0) (hx : x ∈ (morR n l).1) : ∃ c, c ∈ congL (frOf n l) ∧ x = imK (frOf n l) c := by
  rw [(morR_ok h).2, mem_setA ordP] at hx
  obtain ⟨c, hc, rfl⟩ := List.mem_map.1 hx
  exact ⟨c, hc, rfl⟩
theorem morR_some {n : Int} {l : List Int} (h : (morR n l).2 = 0) : 0 < (morR n l).1.length := by
  have : imK (frOf n l) (List.range (frOf n l).n) ∈ (morR n l).1 := by
    rw [(morR_ok h).2, mem_setA ordP]
    exact List.mem_map.2 ⟨_, congL_range _, rfl⟩
  exact List.length_pos_of_mem this
theorem imG_onto {n : Int} {l : List Int} (hfo : frameOk n l = true) {c : List Nat} (h : c ∈ congL (frOf n l)) : (firstOut true false n l ((imG (frOf n l) c).n : Int) (nats (imG (frOf n l) c).a)).2 = 0 := by
  obtain ⟨hf, hn0, hl0⟩ := frameOk_fr hfo
  have hg := imG_ok hf h
  have hgo : frameOk ((imG (frOf n l) c).n : Int) (nats (imG (frOf n l) c).a) = true := frameOk_ofM hg
  obtain ⟨F, hF⟩ := imG_leaf hf h
  unfold firstOut
  rw [hfo, hgo, frOf_nats, if_pos (by decide)]
  cases e : leaves (fitsB (frOf n l) (imG (frOf n l) c) true false) (imG (frOf n l) c).n (frOf n l).n [] with
  | nil => rw [e] at hF; cases hF
  | cons m r => rfl
theorem imG_ax {f : Fr} (hf : f.ok) {c : List Nat} (h : c ∈ congL f) {i : Nat} (hb : (gt lgA i).all (fun a => axB a f) = true) : (gt lgA i).all (fun a => axB a (imG f c)) = true := by
  obtain ⟨F, hF⟩ := imG_leaf hf h
  have hg := imG_ok hf h
  rw [List.all_eq_true] at hb ⊢
  exact fun a ha => ax_image hf hg (pmor_leaf hf hg hF) (hb a ha)
theorem imG_vld {f : Fr} (hf : f.ok) {c : List Nat} (h : c ∈ congL f) {a : Fm} (hv : VldM f a) : VldM (imG f c) a := by
  obtain ⟨F, hF⟩ := imG_leaf hf h
  exact vldM_image hf (pmor_leaf hf (imG_ok hf h) hF) hv
end Go.Proofs.YtaipnnkpplinoaaGreatDoor

namespace Go.Proofs.YtaipnnkpplinoaaGreatDoor
open Go.Vc
structure VisMQ (n : Nat) (yv : Value) (m : Nat) (S : Nat → Prop) (J X : World → Prop) : Prop where
  keep : ∀ (T : Nat → Prop) (W W' : World), J W → Ch T W W' → (∀ b, T b → m ≤ b) → J W'
  lt : ∀ b, S b → b < m
  visit : ∀ (W : World) (lo : Nat) (v : Value) (c : List Nat), J W → Ow lo t_i64 W v (ints (nats c)) → m ≤ lo → (∀ b, v.ownBlock = some b → ¬ S b) → c.length = 6 → (∀ x ∈ c, x < 2 ^ n) →
    callY Tryz.prog yv [v] W fun u W' => Ch S W W' ∧ ((u = .bool true ∧ J W') ∨ (u = .bool false ∧ X W'))
theorem ok_impl_valuationsMQ_1 {n : Nat} (hn : n ≤ 8) {yv : Value} {m : Nat} {S : Nat → Prop} {J X : World → Prop} (hvis : VisMQ n yv m S J X) {vars : List Nat} (hv6 : ∀ x ∈ vars, x < 6) (hl : vars.length ≤ 6) (h16 : n * vars.length ≤ 16) {bv bf : Nat} {vv va : Value} {l1 : Nat} {w : World}
    (hBv : Blk 24 w bv [vv]) (hBf : Blk 26 w bf [.int .i64 (n : Int), va]) (hV : Ow l1 t_i64 w vv (ints (nats vars))) (hnS : ¬ S bv ∧ ¬ S bf) (hnV : ∀ b, vv.ownBlock = some b → ¬ S b) (hJ : J w) (hm : m ≤ w.heap.size) :
    Cal Tryz.prog f_impl_valuations_1 #[yv, .pointer (some ⟨bv, 0, none⟩), .pointer (some ⟨bf, 0, none⟩)] w fun _ w' => Ch S w w' ∧ (J w' ∨ X w') := by
  have hSlt : ∀ b, S b → b < w.heap.size := fun b hb => Nat.lt_of_lt_of_le (hvis.lt b hb) hm
  have hmulN : ((n : Int) * (vars.length : Int)) = ((n * vars.length : Nat) : Int) := by simp
  have hpow : 2 ^ (n * vars.length) ≤ 2 ^ 16 := Nat.pow_le_pow_right (by omega) h16
  apply cY_impl_valuations_1; unfold SY_impl_valuations_1
  refine iMk (k := .i64) (n := 6) (by decide) (by decide) rfl fun br w1 hbr x1 hBr => ?_
  refine iLdB (hBv.ext x1) (v := vv) rfl ?_
  refine iRet (ok_impl_size_i64 (hV.ext x1).sl) fun w2 x2 => ?_
  rw [ints_length, nats_length]
  refine iFa (iLdB ((hBf.ext x1).ext x2) (i := 0) (v := .int .i64 (n : Int)) rfl ?_)
  refine iMul (by rw [hmulN]; omega) ?_
  rw [hmulN]
  refine iShlOne (by omega) ?_
  have X2 := x1.trans x2
  have hvo : (Value.slice (some ⟨br, 0, none⟩) 6 6).ownBlock = some br := rfl
  have hrow : Ow br t_i64 w2 (.slice (some ⟨br, 0, none⟩) 6 6) (ints (nats (List.replicate 6 0))) := Ow.ofBlk (hBr.ext x2) (Nat.le_refl _) rfl (by decide)
  generalize hvv : (Value.slice (some ⟨br, 0, none⟩) 6 6) = vo at *
  have hob : ∀ b, vo.ownBlock = some b → b = br := fun b h => by rw [hvo] at h; cases h; rfl
  have hW : ValW n vars br bv bf vv va vo S w2 (List.replicate 6 0) := ⟨(hBv.ext x1).ext x2, (hBf.ext x1).ext x2, ⟨l1, hV.ext X2⟩, hrow, rfl, fun x hx => by rw [List.eq_of_mem_replicate hx]; exact Nat.two_pow_pos _, hnS, fun b hb => ⟨hnV b hb, fun h => by have := hob b h; have := (hV.blk b hb).2; omega⟩, fun b hb h => by have := hob b hb; have := hSlt b h; omega⟩
  have hJ2 : J w2 := hvis.keep (fun _ => False) w w2 hJ X2.ch fun _ h => h.elim
  have hend : ∀ {w'}, Ch (fun b => S b ∨ vo.ownBlock = some b) w w' → Ch S w w' := fun k => ((Ext.refl w).ch (S := S)).trans k fun b h => h.elim .inl fun h => .inr (by have := hob b h; omega)
  refine iLp (fun k : Nat => [.int .i64 (k : Int)]) (fun k w' => k ≤ 2 ^ (n * vars.length) ∧ Ch (fun b => S b ∨ vo.ownBlock = some b) w w' ∧ J w' ∧ ∃ c, ValW n vars br bv bf vv va vo S w' c) (fun k => 2 ^ (n * vars.length) - k) 0 rfl ⟨Nat.zero_le _, X2.ch, hJ2, _, hW⟩ ?_
  rintro k w4 Kn ⟨hk, hc4, hJ4, c4, hW4⟩ hKn
  intro _
  simp only [gx]
  refine iLt (iCndP (fun h => ?_) (fun _ => ⟨hend hc4, .inl hJ4⟩))
  have hkl : k < 2 ^ (n * vars.length) := by omega
  obtain ⟨l4, hV4⟩ := hW4.V
  refine iLdB hW4.B1 (v := vv) rfl ?_
  refine iLenN (l := vars) hV4.sl ?_
  refine iLp (fun j : Nat => [.int .i64 (j : Int)]) (fun j w' => j ≤ vars.length ∧ Ch (fun b => S b ∨ vo.ownBlock = some b) w w' ∧ J w' ∧ ∃ c, ValW n vars br bv bf vv va vo S w' c) (fun j => vars.length - j) 0 rfl ⟨Nat.zero_le _, hc4, hJ4, c4, hW4⟩ ?_
  rintro j w6 Kn6 ⟨hj, hc6, hJ6, c6, hW6⟩ hKn6
  obtain ⟨l6, hV6⟩ := hW6.V
  intro _
  simp only [gx]
  refine iLt (iCndP (fun h2 => ?_) (fun h2 => ?_))
  · have hjl : j < vars.length := by omega
    refine iIaNN (l := vars) hV6.sl hjl fun p hp => iLd hp ?_
    have hg : vars.getD j 0 = vars[j] := by simp [hjl]
    rw [hg]
    have hx6 := hv6 _ (List.getElem_mem hjl)
    generalize vars[j] = x at *
    refine iFa (iLdB hW6.B2 (i := 0) (v := .int .i64 (n : Int)) rfl ?_)
    refine iSub (by omega) (iSub (by omega) ?_)
    have hle : n * (vars.length - 1 - j) ≤ 16 := Nat.le_trans (Nat.mul_le_mul_left _ (by omega)) h16
    have hmul2 : ((n : Int) * ((vars.length : Int) - 1 - (j : Int))) = ((n * (vars.length - 1 - j) : Nat) : Int) := by
      rw [show (vars.length : Int) - 1 - (j : Int) = ((vars.length - 1 - j : Nat) : Int) by omega]; simp
    refine iMul (by rw [hmul2]; omega) ?_
    rw [hmul2]
    refine iShrN (by omega) ?_
    refine iLdA hW6.B2 rfl ?_
    refine iRetQ (fun w' _ => ok_impl_Frame_all n hn va w') ?_
    have hf1 := full_lt n
    have hp8 : 2 ^ n ≤ 2 ^ 8 := Nat.pow_le_pow_right (by omega) hn
    have hsh : k >>> (n * (vars.length - 1 - j)) < 2 ^ 63 := Nat.lt_of_le_of_lt (Nat.shiftRight_le _ _) (by omega)
    refine iBAnd hsh (by omega) ?_
    have hlen6 := hW6.len
    refine iIaOwE hW6.row (j := x) (by rw [ints_length, nats_length]; omega) fun bu hbu hwr => ?_
    intro w7 x7
    obtain ⟨h1, h2, h3⟩ := hwr w7 _ rfl (hW6.row.ext x7)
    rw [List.getElem?_eq_getElem (by rw [ints_length, nats_length]; omega)] at h1
    refine iSt h1 h2 rfl ?_
    generalize hz : (k >>> (n * (vars.length - 1 - j))) &&& (2 ^ n - 1) = z at *
    have hzl : z < 2 ^ n := by rw [← hz]; exact Nat.and_lt_two_pow _ hf1
    have h3 := h3 (.int .i64 ((z : Nat) : Int))
    rw [← ints_nats_set] at h3
    have hu := Upd.setCell w7 bu x (.int .i64 ((z : Nat) : Int))
    have hbo := hob bu hbu
    intro w9 x9
    have hck : Ch (fun b => vo.ownBlock = some b) w6 w9 := ((x7.ch (S := fun b => vo.ownBlock = some b)).trans (hu.ch (S := fun b => vo.ownBlock = some b) hbu) fun b h => .inl h).trans (x9.ch (S := fun b => vo.ownBlock = some b)) fun b h => .inl h
    have hck2 : Ch (fun b => S b ∨ vo.ownBlock = some b) w6 w9 := hck.mono fun b h => .inr h
    refine iAdd (by omega) ⟨by first | trivial | rfl, ?_⟩
    refine hKn6 (j + 1) _ ⟨hjl, hc6.trans hck2 fun b h => .inl h, hvis.keep _ w6 w9 hJ6 hck fun b hb => by have := hob b hb; omega, c6.set x z, hW6.ch hck2 (h3.ext x9) (by rw [List.length_set]; exact hlen6) fun y hy => ?_⟩ (by omega)
    rcases List.mem_or_eq_of_mem_set hy with hy | rfl
    · exact hW6.lt y hy
    · exact hzl
  · refine (hvis.visit w6 br vo c6 hJ6 hW6.row (by omega) hW6.nR hW6.len hW6.lt).mono ?_
    rintro _ w10 ⟨hch, hr⟩
    have hck2 : Ch (fun b => S b ∨ vo.ownBlock = some b) w6 w10 := hch.mono fun b h => .inl h
    rcases hr with ⟨rfl, hJ10⟩ | ⟨rfl, hX10⟩
    rotate_left
    · exact iNot (iCndT rfl ⟨hend (hc6.trans hck2 fun b h => .inl h), .inr hX10⟩)
    refine iNot (iCndF rfl (iAdd (by omega) ⟨by first | trivial | rfl, ?_⟩))
    exact hKn (k + 1) _ ⟨hkl, hc6.trans hck2 fun b h => .inl h, hJ10, c6, hW6.ch hck2 (hW6.row.ch hch hW6.nR) hW6.len hW6.lt⟩ (by omega)
theorem iValsMQ {n : Nat} (hn : n ≤ 8) {S : Nat → Prop} {J X : World → Prop} {vars : List Nat} (hv6 : ∀ x ∈ vars, x < 6) (hl6 : vars.length ≤ 6) (h16 : n * vars.length ≤ 16) {bv bf : Nat} {vv va : Value} {l1 : Nat} {w : World}
    {B : Nat → (World → Prop) → (World → Prop) → (Ex → World → Prop) → List Value → World → (Value → World → Prop) → Prop} {K : Nat → World → Prop} {KE : Nat → Nat → World → Prop} {KR : Nat → World → Prop}
    (hBv : Blk 24 w bv [vv]) (hBf : Blk 26 w bf [.int .i64 (n : Int), va]) (hV : Ow l1 t_i64 w vv (ints (nats vars))) (hnS : ¬ S bv ∧ ¬ S bf) (hnV : ∀ b, vv.ownBlock = some b → ¬ S b)
    (hlt : ∀ b, S b → b < w.heap.size) (hJ : J w)
    (keep : ∀ (T : Nat → Prop) (W W' : World), J W → Ch T W W' → (∀ b, T b → w.heap.size ≤ b) → J W')
    (hB : ∀ (l : Nat) (LR LB : World → Prop) (LX : Ex → World → Prop), l = w.heap.size + 1 →
      (∀ (S : Nat → Prop) (W W' : World), Ch S W W' → ¬ S l → ¬ S w.heap.size → (LR W → LR W') ∧ (LB W → LB W') ∧ ∀ e, LX e W → LX e W') →
      ∀ (W : World) (lo : Nat) (v : Value) (c : List Nat), J W → LR W → w.heap.size + 2 ≤ lo → w.heap.size + 2 ≤ W.heap.size → Ow lo t_i64 W v (ints (nats c)) → c.length = 6 → (∀ x ∈ c, x < 2 ^ n) →
        B l LR LB LX [v] W fun u W' => Ch (fun b => b = l ∨ S b) W W' ∧ ((u = .bool true ∧ LR W' ∧ J W') ∨ (u = .bool false ∧ LX .ret W' ∧ X W')))
    (keepX : ∀ (T : Nat → Prop) (W W' : World), X W → Ch T W W' → (∀ b, T b → w.heap.size ≤ b) → X W')
    (hK : ∀ W, J W → w.heap.size + 2 ≤ W.heap.size → Dfo w.heap.size W → K w.heap.size W)
    (hKR : ∀ W, X W → w.heap.size + 2 ≤ W.heap.size → Dfo w.heap.size W → KR w.heap.size W) :
    xRng Tryz.prog (.func (.func f_impl_valuations_1) #[] #[.pointer (some ⟨bv, 0, none⟩), .pointer (some ⟨bf, 0, none⟩)]) 1 w B K KE KR := by
  refine ⟨_, _, rfl, hb_impl_valuations_1, fun l LR LB LX w1 hl hsz x1 hLR hstab hyield => ?_⟩
  have hvis : VisMQ n (.func (.yield l) #[] #[]) (w.heap.size + 2) (fun b => b = l ∨ S b) (fun W => J W ∧ LR W ∧ w.heap.size + 2 ≤ W.heap.size) (fun W => LX .ret W ∧ X W ∧ w.heap.size + 2 ≤ W.heap.size) :=
    { keep := fun T W W' h k hT => ⟨keep T W W' h.1 k fun b hb => by have := hT b hb; omega, (hstab T W W' k (fun h => by have := hT _ h; omega) (fun h => by have := hT _ h; omega)).1 h.2.1, by have := k.size; omega⟩
      lt := fun b hb => by
        rcases hb with rfl | hb
        · omega
        · have := hlt b hb; omega
      visit := fun W lo v c hJW ho hlo hnv hc hcu => by
        refine (hyield [v] W _ hJW.2.1 rfl (hB l LR LB LX hl hstab W lo v c hJW.1 hJW.2.1 hlo hJW.2.2 ho hc hcu)).mono ?_
        rintro u W' ⟨hch, hr⟩
        have hs := hch.size
        have hs0 := hJW.2.2
        exact ⟨hch, hr.imp (fun h => ⟨h.1, h.2.2, h.2.1, by omega⟩) fun h => ⟨h.1, h.2.1, h.2.2, by omega⟩⟩ }
  have hl1 : ∀ {b e cs}, Blk e w b cs → b ≠ l := fun h e => by
    have := h.lt; omega
  have hJ1 : J w1 := keep (fun _ => False) w w1 hJ x1.ch (fun _ h => h.elim)
  refine (ok_impl_valuationsMQ_1 hn hvis hv6 hl6 h16 (hBv.ext x1) (hBf.ext x1) (hV.ext x1) ⟨fun h => h.elim (hl1 hBv) hnS.1, fun h => h.elim (hl1 hBf) hnS.2⟩
    (fun b hb h => h.elim (fun e => by have := (hV.blk b hb).2; omega) (hnV b hb)) ⟨hJ1, hLR, by omega⟩ (by omega)).mono ?_
  rintro _ W2 ⟨_, ⟨hJ2, hLR2, hs2⟩ | ⟨hX, hX2, hs2⟩⟩
  rotate_left
  · exact .inr (.inr ⟨hX, fun W3 k3 hd => hKR W3 (keepX _ W2 W3 hX2 k3 fun b hb => by omega) (by have := k3.size; omega) hd⟩)
  exact .inl ⟨hLR2, fun W3 k3 hd => hK W3 (keep _ W2 W3 hJ2 k3 fun b hb => by omega) (by have := k3.size; omega) hd⟩
theorem ok_impl_isValidMQ {f : Fr} (hf : f.ok) {va vn : Value} {w : World} (hs : SlN w va f.a) {a : Fm} (ha : FmS w vn a) (hcn : isCell vn = true) (hg : a.good) (hsz : a.size ≤ 1000000) (h16 : f.n * (mem (maskV (rawF a))).length ≤ 16) :
    Cal Tryz.prog f_impl_isValid #[.agg #[.int .i64 (f.n : Int), va], vn] w fun r w' => Ext w w' ∧ ∃ t : Bool, r = .bool t ∧ (VldM f a → t = true) := by
  have hok : (rawF a).all okN = true := List.all_eq_true.2 (rawF_ok hg)
  have h8 := hf.1
  have hM := maskV_lt hok
  apply cY_impl_isValid; unfold SY_impl_isValid
  refine iNew fun b2 w1 hb2 x1 hB2 => ?_
  refine iNew fun b3 w2 hb3 x2 hB3 => ?_
  refine iNew fun b4 w3 hb4 x3 hB4 => ?_
  have hB2 : Blk 26 w3 b2 [.int .i64 (f.n : Int), va] := (hB2.ext x2).ext x3
  rw [isCell_cells hcn] at hB3
  have hB3 : Blk _ w3 b3 [vn] := hB3.ext x3
  have hB4 : Blk _ w3 b4 [.bool false] := hB4
  have X3 := (x1.trans x2).trans x3
  refine iLdA hB2 rfl (iLdB hB3 (v := vn) rfl ?_)
  intro w4 x4
  refine iBs1 rfl hcn fun br w5 hbr x5 hBr => ⟨x5, ?_⟩
  intro w6 x6
  have x36 := (x4.trans x5).trans x6
  have X6 := X3.trans x36
  have hN : RawS w6 vn (rawF a) := FmS.raw (SlK.ext ha X6)
  have hRw : RwN w6 (.slice (some ⟨br, 0, none⟩) 1 1) [(vn, rawF a)] := RwN.one (Ow.ofBlk (hBr.ext x6) (Nat.le_refl _) rfl (by simp)).sl hN
  have hokL : ∀ p ∈ [(vn, rawF a)], p.2.all okN = true := fun p hp => by
    rw [List.mem_singleton] at hp
    subst hp; exact hok
  refine iCall ((ok_impl_variablesIn hRw hokL).mono ?_)
  rintro vv w7 ⟨x7, hov⟩
  have hmk : maskL [(vn, rawF a)] = maskV (rawF a) := by simp [maskL]
  rw [hmk] at hov
  refine ⟨x7, ?_⟩
  intro w8 x8
  have x38 := (x36.trans x7).trans x8
  have hov8 := hov.ext x8
  refine iCall (Cal.mono (R := fun r w' => Ext w8 w' ∧ ∃ bv bf, r = .func (.func f_impl_valuations_1) #[] #[.pointer (some ⟨bv, 0, none⟩), .pointer (some ⟨bf, 0, none⟩)] ∧ Blk 24 w' bv [vv] ∧ Blk 26 w' bf [.int .i64 (f.n : Int), va] ∧ w8.heap.size ≤ bv ∧ w8.heap.size ≤ bf) ?_ ?_)
  · apply c_impl_valuations; unfold S_impl_valuations
    refine iNew fun c2 u1 hc2 y1 hC2 => ?_
    refine iNew fun c3 u2 hc3 y2 hC3 => ?_
    rw [isCell_cells hov8.cell] at hC3
    have hz := y1.size
    exact ⟨y1.trans y2, c3, c2, rfl, hC3, hC2.ext y2, by omega, by omega⟩
  rintro _ w9 ⟨x9, bv, bf, rfl, hBv, hBf, hbv, hbf⟩
  intro w10 x10
  have x310 := (x38.trans x9).trans x10
  have X10 := X3.trans x310
  have hz3 := x38.size
  have hz10 := x310.size
  refine iValsMQ h8 (S := fun b => b = b4) (J := fun W => Ext w10 W) (X := fun W => Ch (fun b => b = b4) w10 W ∧ Blk 4 W b4 [.bool false] ∧ ¬ VldM f a) (fun x hx => bit_lt_n hM ((mem_mem (by omega)).1 hx)) (popc_full (m := 6) (by decide) hM) h16 (hBv.ext x10) (hBf.ext x10) (hov8.ext (x9.trans x10)) ⟨fun h => by omega, fun h => by omega⟩ (fun b hb h => by have := (hov8.blk b hb).1; have := hB4.lt; have := x36.size; omega) (fun b h => by have := hB4.lt; omega) (Ext.refl _) (fun T W W' h k hT => h.thenCh k hT) ?_ (fun T W W' h k hT => ⟨h.1.trans k fun b hb => .inr (hT b hb), h.2.1.ch k fun hb => by have := hT _ hb; have := hB4.lt; omega, h.2.2⟩) ?_ ?_
  · intro l LR LB LX hl hstab W lo v c hJW hLR hlo hWs ho hc hcu
    refine ⟨rfl, hLR, fun Wb kb hLB => ?_⟩
    have XWb : Ext w10 Wb := hJW.thenCh kb fun b hb => by omega
    have hoWb := ho.ch kb fun b hb e => by have := (ho.blk b hb).1; omega
    refine iLdA (hB2.ext (x310.trans XWb)) rfl (iLdB (hB3.ext (x310.trans XWb)) (v := vn) rfl ?_)
    refine iRetQ (fun w' x' => ok_impl_truthSet hf (hs.ext ((X10.trans XWb).trans x')) (hoWb.ext x').sl hc hcu (SlK.ext ha ((X10.trans XWb).trans x')) hg hsz) ?_
    refine iLdA (hB2.ext (x310.trans XWb)) rfl ?_
    refine iRetQ (fun w' _ => ok_impl_Frame_all f.n h8 va w') ?_
    refine iNe ?_
    intro w12 x12
    have hLB12 : LB w12 := (hstab (fun _ => False) Wb w12 x12.ch (fun h => h) (fun h => h)).2.1 hLB
    have hb12 := hB4.ext ((x310.trans XWb).trans x12)
    have hlt4 := hB4.lt
    have hs12 := (XWb.trans x12).size
    by_cases ht : trM f (fun v => c.getD v 0) a = 2 ^ f.n - 1
    · rw [ht]
      refine iCndF (decide_eq_false fun h => h rfl) ⟨rfl, hLB12, fun W' k' hLR' => ?_⟩
      exact ⟨(kb.trans (x12.ch.trans k' fun b h => .inl h) fun b h => .inl h).mono fun b h => .inl h, .inl ⟨rfl, hLR', (XWb.trans x12).thenCh k' fun b hb => by omega⟩⟩
    · refine iCndT (decide_eq_true fun h => ht (by exact_mod_cast h)) ?_
      refine iStB hb12 (i := 0) (by simp) rfl fun hb4' => ?_
      have u4 := Upd.setCell w12 b4 0 (.bool false)
      generalize hw14 : w12.setCell ⟨b4, 0, none⟩ (.bool false) = w14 at *
      have hk : Ch (fun b => b = b4) Wb w14 := (x12.ch (S := fun b => b = b4)).trans (u4.ch (S := fun b => b = b4) rfl) fun b h => .inl h
      have hs14 := hk.size
      refine ⟨rfl, (hstab _ Wb w14 hk (fun h => by omega) (fun h => by omega)).2.1 hLB, fun W' k' hLX => ?_⟩
      refine ⟨((kb.mono (S' := fun b => b = l ∨ b = b4) fun b h => .inl h).trans (hk.mono (S' := fun b => b = l ∨ b = b4) fun b h => .inr h) fun b h => .inl h).trans k' fun b h => .inl (.inl h), .inr ⟨rfl, hLX, ((XWb.ch (S := fun b => b = b4)).trans hk fun b h => .inl h).trans k' fun b h => .inr (by omega), Blk.ch hb4' k' fun h => by omega, fun hvl => ht ?_⟩⟩
      exact hvl _ fun v => by
        show c.getD v 0 < _
        rcases Nat.lt_or_ge v c.length with h | h
        · exact getD_lt hcu h
        · rw [List.getD_eq_getElem?_getD, List.getElem?_eq_none h]; exact Nat.two_pow_pos _
  · intro W hJW hsW hD
    have hb4W := hB4.ext (x310.trans hJW)
    refine iStB hb4W (i := 0) (by simp) rfl fun hb4' => ?_
    have u4 := Upd.setCell W b4 0 (.bool true)
    generalize hw14 : W.setCell ⟨b4, 0, none⟩ (.bool true) = w14 at *
    refine ⟨Dfo.chM hD (u4.ch (S := fun b => b = b4) rfl) (fun h => by omega), fun w15 k15 => ?_⟩
    have hs14 := u4.size
    refine iLdB (Blk.ch hb4' k15 fun h => by omega) (v := .bool true) rfl ⟨?_, true, rfl, fun _ => rfl⟩
    exact (((X10.trans hJW).upd u4 (by have := (x1.trans x2).size; omega))).thenCh k15 fun b hb => by have := X10.size; omega
  · intro W ⟨hX, hb, hn⟩ hsW hD
    refine ⟨hD, fun w17 k17 => ?_⟩
    have hlt4 := hB4.lt
    refine iLdB (Blk.ch hb k17 fun h => by omega) (v := .bool false) rfl ⟨?_, false, rfl, fun h => absurd h hn⟩
    exact (X10.thenCh hX fun b hb => by have := (x1.trans x2).size; omega).thenCh k17 fun b hb => by have := X10.size; omega
theorem ok_impl_IsValidOnMQ {f : Fr} (hf : f.ok) {va vn : Value} {w : World} (hs : SlN w va f.a) {N : List RN} (hN : RawS w vn N) (hcn : isCell vn = true) (hnl : N.length ≤ 1000) :
    Cal Tryz.prog f_impl_IsValidOn #[.agg #[.int .i64 (f.n : Int), va], vn] w fun r w' => Ext w w' ∧ ∃ (t : Bool) (c : Int), r = .tuple #[.bool t, .int .i64 c] ∧ (∀ a : Fm, N = rawF a → a.good → a.size ≤ 40 → f.n * (mem (maskV (rawF a))).length ≤ 16 → VldM f a → t = true ∧ c = 0) := by
  have h8 := hf.1
  have hfo : frameOk (f.n : Int) (nats f.a) = true := frameOk_ofM hf
  apply c_impl_IsValidOn; unfold S_impl_IsValidOn
  refine iNew fun b2 w1 hb2 x1 hB2 => ?_
  have hB2 : Blk 26 w1 b2 [.int .i64 (f.n : Int), va] := hB2
  refine iLdA hB2 rfl ?_
  refine iBs1 rfl hcn fun br w2 hbr x2 hBr => ?_
  have X2 := x1.trans x2
  have hRw : RwN w2 (.slice (some ⟨br, 0, none⟩) 1 1) [(vn, N)] := RwN.one (Ow.ofBlk hBr (Nat.le_refl _) rfl (by simp)).sl (SlK.ext hN X2)
  refine iCall (Cal.mono (R := fun r w' => Ext w2 w' ∧ ∃ c : Int, r = .int .i64 c ∧ ((c = 0 ∧ ∃ a : Fm, N = rawF a ∧ a.good ∧ a.size ≤ 40 ∧ f.n * (mem (maskV (rawF a))).length ≤ 16) ∨ (c ≠ 0 ∧ ∀ a : Fm, N = rawF a → a.good → a.size ≤ 40 → ¬ f.n * (mem (maskV (rawF a))).length ≤ 16))) ?_ ?_)
  · apply c_impl_searchCode; unfold S_impl_searchCode
    refine iNew fun c2 u1 hc2 y1 hC2 => ?_
    have hC2 : Blk 26 u1 c2 [.int .i64 (f.n : Int), va] := hC2
    refine iJnB (!isN N) u1 (fun J hJ => ?_) (fun u3 y3 => ?_)
    · refine iLdA hC2 rfl ?_
      refine iRet (ok_impl_isFrame (hs.ext (X2.trans y1)) (f.n : Int)) fun u4 y4 => iNot ?_
      rw [hfo]
      refine iCndF rfl ?_
      refine iRet (ok_impl_areFormulasN (hRw.ext (y1.trans y4)) fun p hp => by
        rw [List.mem_singleton] at hp
        subst hp
        show N.length ≤ _
        omega) fun u5 y5 => iNot ?_
      have : ([(vn, N)].all fun q => isN q.2) = isN N := by simp
      rw [this]
      exact hJ _ (y4.trans y5)
    · intro _
      simp only [gx]
      refine iCnd (fun hq => ?_) (fun hq => ?_)
      · refine ⟨y1.trans y3, 1, rfl, .inr ⟨by decide, fun a e hg hsz => ?_⟩⟩
        have : isN N = true := isN_iff.2 ⟨a, hg, hsz, e⟩
        rw [this] at hq; cases hq
      have hNt : isN N = true := by simpa using hq
      obtain ⟨a, hg, hsz, rfl⟩ := isN_iff.1 hNt
      have hok : (rawF a).all okN = true := List.all_eq_true.2 (rawF_ok hg)
      have hM := maskV_lt hok
      have hokL : ∀ p ∈ [(vn, rawF a)], p.2.all okN = true := fun p hp => by
        rw [List.mem_singleton] at hp
        subst hp; exact hok
      have hmk : maskL [(vn, rawF a)] = maskV (rawF a) := by simp [maskL]
      refine iFa (iLdB (hC2.ext y3) (i := 0) (v := .int .i64 (f.n : Int)) rfl ?_)
      intro u6 y6
      refine iCall ((ok_impl_variablesIn (hRw.ext ((y1.trans y3).trans y6)) hokL).mono ?_)
      rintro vv u7 ⟨y7, hov⟩
      rw [hmk] at hov
      refine ⟨y7, iRetQ (fun w' x' => ok_impl_size_i64 (Sl.ext hov.sl x')) ?_⟩
      rw [ints_length, nats_length]
      have hmulN : ((f.n : Int) * ((mem (maskV (rawF a))).length : Int)) = ((f.n * (mem (maskV (rawF a))).length : Nat) : Int) := by simp
      have hl6 : (mem (maskV (rawF a))).length ≤ 6 := popc_full (m := 6) (by decide) hM
      have hb48 : f.n * (mem (maskV (rawF a))).length ≤ 8 * 6 := Nat.mul_le_mul h8 hl6
      refine iMul (by rw [hmulN]; omega) ?_
      rw [hmulN]
      refine iLt ?_
      intro u8 y8
      have Y := (((y1.trans y3).trans y6).trans y7).trans y8
      refine iCndP (fun h => ?_) (fun h => ?_)
      · refine ⟨Y, 3, rfl, .inr ⟨by decide, fun a' e _ _ h' => ?_⟩⟩
        rw [← e] at h'
        omega
      · exact ⟨Y, 0, rfl, .inl ⟨rfl, a, rfl, hg, hsz, by omega⟩⟩
  · rintro _ w3 ⟨x3, c, rfl, hc⟩
    refine iNe (iCndP (fun h => ?_) (fun h => ?_))
    · rcases hc with ⟨h0, _⟩ | ⟨_, hno⟩
      · exact absurd h0 h
      · exact ⟨X2.trans x3, false, c, rfl, fun a e hg hsz h16 => absurd h16 (hno a e hg hsz)⟩
    · rcases hc with ⟨rfl, a, rfl, hg, hsz, h16⟩ | ⟨h0, _⟩
      · refine iLdA ((hB2.ext x2).ext x3) rfl ?_
        have X3 := X2.trans x3
        refine iCall ((ok_impl_isValidMQ hf (hs.ext X3) (RawS.fm (SlK.ext hN X3)) hcn hg (by omega) h16).mono ?_)
        rintro _ w4 ⟨x4, t, rfl, ht⟩
        refine ⟨X3.trans x4, t, 0, rfl, fun a' e hg' _ _ hv => ⟨ht ?_, rfl⟩⟩
        have : a' = a := cells_inj (by rw [← cellsN_raw, ← cellsN_raw, e])
        rw [← this]; exact hv
      · exact absurd (show c = 0 by omega) h0
end Go.Proofs.YtaipnnkpplinoaaGreatDoor
