/- The proof of FnExactExpandExpression, part 4 of 5. Conditions: none. -/
import Derived.Test.YtnbelddmhlknkaaGreatKR31c
/- Contracts: items asked and searched, rows of texts asked, in the program and the reference. Conditions: none. -/
namespace Go.Vc
theorem cellsI_set0 : ∀ {L : List Itm} {j : Nat} (s : Str), j < L.length → (cellsI L).set (j * 3 + 0) (sv s) = cellsI (L.set j { gt L j with nm := s })
  | [], _, _, h => by simp at h
  | x :: L, 0, s, _ => rfl
  | x :: L, j + 1, s, h => by
    have := cellsI_set0 (L := L) (j := j) s (by simpa using h)
    rw [show cellsI (x :: L) = x.cs ++ cellsI L by simp [cellsI], List.set_append_right _ _ (by simp [Itm.cs]; omega), show (j + 1) * 3 + 0 - x.cs.length = j * 3 + 0 by simp [Itm.cs]; omega, this]
    rfl
theorem cellsI_set1 : ∀ {L : List Itm} {j : Nat} (s : Str), j < L.length → (cellsI L).set (j * 3 + 1) (sv s) = cellsI (L.set j { gt L j with fm := s })
  | [], _, _, h => by simp at h
  | x :: L, 0, s, _ => rfl
  | x :: L, j + 1, s, h => by
    have := cellsI_set1 (L := L) (j := j) s (by simpa using h)
    rw [show cellsI (x :: L) = x.cs ++ cellsI L by simp [cellsI], List.set_append_right _ _ (by simp [Itm.cs]; omega), show (j + 1) * 3 + 1 - x.cs.length = j * 3 + 1 by simp [Itm.cs]; omega, this]
    rfl
theorem cellsI_set2 : ∀ {L : List Itm} {j : Nat} (z : Int), j < L.length → (cellsI L).set (j * 3 + 2) (.int .i64 z) = cellsI (L.set j { gt L j with cl := z })
  | [], _, _, h => by simp at h
  | x :: L, 0, z, _ => rfl
  | x :: L, j + 1, z, h => by
    have := cellsI_set2 (L := L) (j := j) z (by simpa using h)
    rw [show cellsI (x :: L) = x.cs ++ cellsI L by simp [cellsI], List.set_append_right _ _ (by simp [Itm.cs]; omega), show (j + 1) * 3 + 2 - x.cs.length = j * 3 + 2 by simp [Itm.cs]; omega, this]
    rfl
theorem iStF {lo : Nat} {e : TypeId} {w : World} {v x : Value} {n : Nat} {xs : List Value} {z : Int} {j f : Nat} {k : IntKind} {K : World → Prop} (hs : OwK 3 lo e w v n xs) (hz : z = (j : Int)) (hj : j < n) (hf : f < 3) (hx : isCell x = true)
    (h : ∀ w', OwK 3 lo e w' v n (xs.set (j * 3 + f) x) → Ch (fun c => v.ownBlock = some c) w w' → K w') : xIa 3 v (.int k z) fun p => xFa f p fun q => xSt w q x K := by
  subst hz
  obtain ⟨hl, ⟨-, h0⟩ | ⟨g, cap, cur, hv, hg, hh, h1, h2, h3, h4⟩⟩ := hs
  · omega
  · subst hv
    have hs : w.ownsRow lo e 3 (.slice (some ⟨g, 0, none⟩) n cap) n xs := ⟨hl, .inr ⟨g, cap, cur, rfl, hg, hh, h1, h2, h3, h4⟩⟩
    refine ⟨_, _, _, _, _, rfl, rfl, by omega, by omega, ?_⟩
    rw [Int.toNat_natCast, addr_add]
    refine ⟨_, rfl, ?_⟩
    rw [addr_add, Nat.zero_add]
    have hjf : j * 3 + f < xs.length := by omega
    refine iSt ((hs.cellAt (j * 3 + f) (by omega)).trans (List.getElem?_eq_getElem hjf)) (hs.frozenAt _) hx ?_
    exact h _ (hs.stored (j * 3 + f) x).1 ((Upd.setCell w g _ x).ch rfl)
def mkI (k : Nat) : Itm := ⟨markT (k : Int), markT ((k + 1 : Nat) : Int), ((k + 2 : Nat) : Int)⟩
def marksI (k : Nat) : Nat → List Itm
  | 0 => []
  | n + 1 => mkI k :: marksI (k + 3) n
theorem marksI_len : ∀ (n k : Nat), (marksI k n).length = n
  | 0, _ => rfl
  | n + 1, k => by rw [marksI, List.length_cons, marksI_len]
theorem gt_marksI : ∀ {n k i : Nat}, i < n → gt (marksI k n) i = mkI (k + 3 * i)
  | 0, _, _, h => by omega
  | n + 1, k, 0, _ => rfl
  | n + 1, k, i + 1, h => by
    have := gt_marksI (n := n) (k := k + 3) (i := i) (by omega)
    rw [show k + 3 * (i + 1) = k + 3 + 3 * i by omega, ← this]
    rfl
theorem le_not_lt (a b : Str) : (ltS a b || a == b) = !ltS b a := by
  rcases ltS_total a b with h | h | h
  · rw [h, ltS_asymm h]; rfl
  · subst h; rw [ltS_irrefl]; simp
  · rw [h, ltS_asymm h]
    have : ¬ a = b := fun e => by subst e; rw [ltS_irrefl] at h; cases h
    simp [this]
/-- In order by their names. -/
def IncI (L : List Itm) : Prop := ∀ i j, i < j → j < L.length → ltS (gt L i).nm (gt L j).nm = true
def hasI (L : List Itm) (n : Str) : Bool := L.any fun x => decide (x.nm = n)
theorem hasI_at {L : List Itm} {n : Str} {i : Nat} (hi : i < L.length) (h : (gt L i).nm = n) : hasI L n = true := by
  unfold hasI
  rw [List.any_eq_true]
  exact ⟨L[i], List.getElem_mem _, by rw [← gt_eq hi]; exact decide_eq_true h⟩
theorem hasI_no {L : List Itm} {n : Str} (h : ∀ i, i < L.length → ¬ (gt L i).nm = n) : hasI L n = false := by
  unfold hasI
  rw [List.any_eq_false]
  intro x hx
  obtain ⟨i, hi, rfl⟩ := List.getElem_of_mem hx
  rw [← gt_eq hi]
  simpa using h i hi
theorem cmp_iff : ∀ a b : Str, (Lib.compareBytes a b < 0 ↔ ltS a b = true) ∧ (Lib.compareBytes a b = 0 ↔ a = b) ∧ (-1 ≤ Lib.compareBytes a b ∧ Lib.compareBytes a b ≤ 1)
  | [], [] => by simp [Lib.compareBytes, ltS, Op.bytesLess]
  | [], _ :: _ => by simp [Lib.compareBytes, ltS, Op.bytesLess]
  | _ :: _, [] => by simp [Lib.compareBytes, ltS, Op.bytesLess]
  | x :: a, y :: b => by
    have ih := cmp_iff a b
    simp only [Lib.compareBytes, ltS, Op.bytesLess, Bool.or_eq_true, decide_eq_true_eq, Bool.and_eq_true, beq_iff_eq, List.cons.injEq] at ih ⊢
    by_cases h1 : x < y
    · rw [if_pos h1]
      refine ⟨by simp [h1], ?_, by decide⟩
      have : ¬ x = y := fun e => by subst e; exact absurd h1 (UInt8.lt_irrefl _)
      simp [this]
    · rw [if_neg h1]
      by_cases h2 : y < x
      · rw [if_pos h2]
        have : ¬ x = y := fun e => by subst e; exact absurd h2 (UInt8.lt_irrefl _)
        simp [h1, this]
      · rw [if_neg h2]
        have : x = y := by
          rcases Classical.em (x = y) with e | e
          · exact e
          · rcases UInt8.lt_or_lt_of_ne e with h | h
            · exact absurd h h1
            · exact absurd h h2
        subst this
        simp only [h1, false_or, true_and]
        exact ih
end Go.Vc
namespace Go.Proofs.YtnbelddmhlknkaaGreat
open Go.Vc
theorem ok_laws_markItemS {lo : Nat} {e : TypeId} {v : Value} {L : List Itm} {w : World} (hs : OwK 3 lo e w v L.length (cellsI L)) {k : Nat} (hk : k + 3 * L.length ≤ 1152921504606846976) :
    Cal Tryz.prog f_laws_markItemS #[v, .int .i64 (k : Int)] w fun r w' => r = .int .i64 ((k + 3 * L.length : Nat) : Int) ∧ OwK 3 lo e w' v L.length (cellsI (marksI k L.length)) ∧ Ch (fun c => v.ownBlock = some c) w w' := by
  apply c_laws_markItemS; unfold S_laws_markItemS
  refine iLp (fun i : Nat => [.int .i64 ((k + 3 * i : Nat) : Int), .int .i64 (i : Int)]) (fun i w' => i ≤ L.length ∧ ∃ M, OwK 3 lo e w' v L.length (cellsI M) ∧ Ch (fun c => v.ownBlock = some c) w w' ∧ M.length = L.length ∧ ∀ j, j < i → gt M j = mkI (k + 3 * j)) (fun i => L.length - i) 0 rfl ⟨Nat.zero_le _, L, hs, (Ext.refl w).ch, rfl, fun j hj => by omega⟩ ?_
  rintro i w2 Kn ⟨hi, M, ho, hc, hM, he⟩ hKn
  intro _
  simp only [gx]
  have tr : ∀ {a b : World}, Ch (fun c => v.ownBlock = some c) w a → Ch (fun c => v.ownBlock = some c) a b → Ch (fun c => v.ownBlock = some c) w b := fun h k => h.trans k fun _ e => .inl e
  refine iLenK ho.sl ?_
  refine iLt ?_
  refine iCndP (fun h3 => ?_) (fun h3 => ?_)
  · refine iRet (ok_laws_markText _ (by omega) w2) fun w3 h23 => ?_
    refine iStF (j := i) (ho.ext h23) rfl (by omega) (by decide) rfl fun w4 ho4 hc4 => ?_
    rw [cellsI_set0 _ (by omega)] at ho4
    refine iAdd (by omega) ?_
    refine iRet (ok_laws_markText _ (by omega) w4) fun w5 h45 => ?_
    refine iStF (j := i) (ho4.ext h45) rfl (by omega) (by decide) rfl fun w6 ho6 hc6 => ?_
    rw [cellsI_set1 _ (by rw [List.length_set]; omega)] at ho6
    refine iAdd (by omega) ?_
    refine iStF (j := i) ho6 rfl (by omega) (by decide) rfl fun w7 ho7 hc7 => ?_
    rw [cellsI_set2 _ (by rw [List.length_set, List.length_set]; omega)] at ho7
    refine iAdd (by omega) ?_
    refine iAdd (by omega) ?_
    rw [show ((k + 3 * i : Nat) : Int) + 1 + 1 + 1 = ((k + 3 * (i + 1) : Nat) : Int) by omega]
    refine hKn (i + 1) _ ⟨by omega, _, ho7, tr (tr (tr (tr (tr hc (h23.ch)) hc4) h45.ch) hc6) hc7, by rw [List.length_set, List.length_set, List.length_set]; exact hM, fun j hj => ?_⟩ (by omega)
    by_cases hji : j = i
    · subst hji
      rw [gt_set _ (by rw [List.length_set, List.length_set]; omega), if_pos rfl, gt_set _ (by rw [List.length_set]; omega), if_pos rfl, gt_set _ (by omega), if_pos rfl]
      simp only [mkI, Itm.mk.injEq, true_and]
      refine ⟨by congr 1 <;> omega, by omega⟩
    · rw [gt_set _ (by rw [List.length_set, List.length_set]; omega), if_neg hji, gt_set _ (by rw [List.length_set]; omega), if_neg hji, gt_set _ (by omega), if_neg hji]
      exact he j (by omega)
  · have hil : i = L.length := by omega
    subst hil
    refine ⟨rfl, ?_, hc⟩
    have : marksI k L.length = M := List.ext_getElem (by rw [marksI_len, hM]) fun j g1 g2 => by
      rw [← gt_eq g1, ← gt_eq g2, gt_marksI (by omega), he j (by omega)]
    rw [this]; exact ho
theorem ok_impl_inRangeI (x a b : Int) (w : World) : Ret Tryz.prog f_impl_inRange #[.int .i64 x, .int .i64 a, .int .i64 b] w (.bool (decide (a ≤ x ∧ x ≤ b))) := by
  apply c_impl_inRange; unfold S_impl_inRange
  refine iJnB (decide (a ≤ x ∧ x ≤ b)) w (fun J hJ => ?_) (fun w2 h2 => fun _ => ⟨by first | trivial | rfl, h2⟩)
  refine iLe ?_
  refine iCndP (fun h => ?_) (fun h => ?_)
  · refine iLe ?_
    rw [show decide (a ≤ x ∧ x ≤ b) = decide (x ≤ b) from decide_eq_decide.2 ⟨fun e => e.2, fun e => ⟨h, e⟩⟩] at hJ
    exact hJ _ (Ext.refl _)
  · rw [decide_eq_false (fun e : a ≤ x ∧ x ≤ b => h e.1)] at hJ
    exact hJ _ (Ext.refl _)
theorem ok_impl_areItems {v : Value} {L : List Itm} {w : World} (hs : SlIt w v L) (hsh : ShortI L) : Ret Tryz.prog f_impl_areItems #[v] w (.bool (itemsOk L)) := by
  apply c_impl_areItems; unfold S_impl_areItems
  have hln := hs.len
  refine iLenK hs ?_
  refine iLp (fun i : Nat => [.int .i64 (i : Int)]) (fun i w' => i ≤ L.length ∧ Ext w w' ∧ ∀ j, j < i → stepOk L j = true) (fun i => L.length - i) 0 rfl ⟨Nat.zero_le _, Ext.refl _, fun j hj => by omega⟩ ?_
  rintro i w2 Kn ⟨hi, h2, hok⟩ hKn
  intro _
  simp only [gx]
  refine iLt ?_
  refine iCndP (fun h => ?_) (fun h => ?_)
  · refine iItm (hs.ext h2) rfl (by omega) ?_
    refine iNew3 fun q w3 hq h3 hB3 => ?_
    refine iSt3 hB3 rfl rfl rfl rfl fun w4 hB4 hc4 => ?_
    have h4 : Ext w w4 := (h2.trans h3).thenCh hc4 fun c hc => by have := h2.size; omega
    have hx := hsh (gt L i) (by rw [gt_eq (show i < L.length by omega)]; exact List.getElem_mem _)
    refine iJnB (!stepOk L i) w4 (fun J hJ => ?_) (fun w6 h6 => ?_)
    · unfold stepOk itOk at hJ
      refine iFa ?_
      refine iLdB hB4 rfl ?_
      refine iRetQ (fun w' _ => ok_impl_isName (by omega) w') ?_
      refine iNot ?_
      cases hn : nameOk (gt L i).nm
      · rw [hn] at hJ
        exact iCndT rfl fun w7 h7 => hJ _ h7
      rw [hn, Bool.true_and] at hJ
      refine iCndF rfl ?_
      refine iFa ?_
      refine iLdB hB4 rfl ?_
      refine iRetQ (fun w' _ => ok_impl_isText _ w') ?_
      refine iNot ?_
      cases hg : goodT (gt L i).fm
      · rw [hg] at hJ
        exact iCndT rfl fun w7 h7 => hJ _ h7
      rw [hg, Bool.true_and] at hJ
      refine iCndF rfl ?_
      refine iFa ?_
      refine iLdB hB4 rfl ?_
      refine iRetQ (fun w' _ => ok_impl_inRangeI _ _ _ w') ?_
      refine iNot ?_
      by_cases hr : 0 ≤ (gt L i).cl ∧ (gt L i).cl ≤ 1
      · rw [decide_eq_true hr, Bool.true_and] at hJ
        rw [decide_eq_true hr]
        refine iCndF rfl ?_
        refine iLt ?_
        refine iCndP (fun h5 => ?_) (fun h5 => ?_)
        · rw [decide_eq_false (show ¬ i = 0 by omega), Bool.false_or] at hJ
          refine iSub (by omega) ?_
          refine iNm (j := i - 1) (hs.ext h4) (by omega) (by omega) ?_
          refine iFa ?_
          refine iLdB hB4 rfl ?_
          refine iGeT ?_
          exact fun w10 h10 => hJ _ h10
        · rw [decide_eq_true (show i = 0 by omega), Bool.true_or] at hJ
          exact fun w11 h11 => hJ _ h11
      · rw [decide_eq_false hr] at hJ ⊢
        exact iCndT rfl fun w7 h7 => hJ _ h7
    · intro _
      simp only [gx]
      have h6' := h4.trans h6
      cases hst : stepOk L i
      · refine iCndT rfl ?_
        have : itemsOk L = false := by
          rw [Bool.eq_false_iff]
          intro e
          have := (itemsOk_iff.1 e).2 i (by omega)
          rw [hst] at this; cases this
        rw [this]
        exact ⟨by first | trivial | rfl, h6'⟩
      · refine iCndF rfl ?_
        refine iAdd (by omega) ?_
        refine hKn (i + 1) _ ⟨by omega, h6', fun j hj => ?_⟩ (by omega)
        by_cases hji : j = i
        · subst hji; exact hst
        · exact hok j (by omega)
  · refine iLenK (hs.ext h2) ?_
    refine iLe ?_
    refine ⟨?_, h2⟩
    congr 1
    rw [Bool.eq_iff_iff, itemsOk_iff, decide_eq_true_eq]
    exact ⟨fun e => ⟨by omega, fun j hj => hok j (by omega)⟩, fun e => by omega⟩
theorem ok_spec_l36Items {v : Value} {L : List Itm} {w : World} (hs : SlIt w v L) (hsh : ShortI L) : Ret Tryz.prog f_spec_l36Items #[v] w (.bool (itemsOk L)) := by
  apply c_spec_l36Items; unfold S_spec_l36Items
  have hln := hs.len
  refine iLenK hs ?_
  refine iLt ?_
  refine iCndP (fun h => ?_) (fun h => ?_)
  · have : itemsOk L = false := by
      rw [Bool.eq_false_iff]
      intro e
      have := (itemsOk_iff.1 e).1
      omega
    rw [this]
    exact ⟨by first | trivial | rfl, Ext.refl _⟩
  refine iLp (fun i : Nat => [.int .i64 (i : Int)]) (fun i w' => i ≤ L.length ∧ Ext w w' ∧ ∀ j, j < i → stepOk L j = true) (fun i => L.length - i) 0 rfl ⟨Nat.zero_le _, Ext.refl _, fun j hj => by omega⟩ ?_
  rintro i w2 Kn ⟨hi, h2, hok⟩ hKn
  intro _
  simp only [gx]
  refine iLenK (hs.ext h2) ?_
  refine iLt ?_
  refine iCndP (fun h3 => ?_) (fun h3 => ?_)
  · have hx := hsh (gt L i) (by rw [gt_eq (show i < L.length by omega)]; exact List.getElem_mem _)
    refine iFm (hs.ext h2) rfl (by omega) ?_
    refine iCall ((ok_spec_l02Good _ w2).mono ?_)
    rintro r w3 ⟨h23, u, rfl, -⟩
    have h3' := h2.trans h23
    refine iE20 ?_
    refine iE21 ?_
    have bad : stepOk L i = false → itemsOk L = false := fun hst => by
      rw [Bool.eq_false_iff]
      intro e
      have := (itemsOk_iff.1 e).2 i (by omega)
      rw [hst] at this; cases this
    refine iJnB (!itOk (gt L i)) w3 (fun J hJ => ?_) (fun w5 h5 => ?_)
    · unfold itOk at hJ
      refine iNot ?_
      cases hg : goodT (gt L i).fm
      · rw [hg, Bool.and_false, Bool.false_and] at hJ
        exact iCndT rfl (hJ _ (Ext.refl _))
      rw [hg, Bool.and_true] at hJ
      refine iCndF rfl ?_
      refine iNm (hs.ext h3') rfl (by omega) ?_
      refine iRet (ok_spec_l35Name (by omega) w3) fun w6 h36 => ?_
      refine iNot ?_
      cases hn : nameOk (gt L i).nm
      · rw [hn] at hJ
        exact iCndT rfl (hJ _ h36)
      rw [hn, Bool.true_and] at hJ
      refine iCndF rfl ?_
      have h6 := h3'.trans h36
      refine iCl (hs.ext h6) rfl (by omega) ?_
      refine iNe ?_
      refine iCndP (fun h7 => ?_) (fun h7 => ?_)
      · refine iCl (hs.ext h6) rfl (by omega) ?_
        refine iNe ?_
        rw [show (!decide (0 ≤ (gt L i).cl ∧ (gt L i).cl ≤ 1)) = decide (¬ (gt L i).cl = 1) by rw [← decide_not]; exact decide_eq_decide.2 (by omega)] at hJ
        exact hJ _ h36
      · rw [decide_eq_true (show 0 ≤ (gt L i).cl ∧ (gt L i).cl ≤ 1 by omega)] at hJ
        exact hJ _ h36
    · intro _
      simp only [gx]
      have h5' := h3'.trans h5
      cases hit : itOk (gt L i)
      · refine iCndT rfl ?_
        rw [bad (by unfold stepOk; rw [hit]; rfl)]
        exact ⟨by first | trivial | rfl, h5'⟩
      refine iCndF rfl ?_
      refine iJnB (!stepOk L i) w5 (fun J hJ => ?_) (fun w8 h8 => ?_)
      · unfold stepOk at hJ
        rw [hit, Bool.true_and] at hJ
        refine iLt ?_
        refine iCndP (fun h6 => ?_) (fun h6 => ?_)
        · rw [decide_eq_false (show ¬ i = 0 by omega), Bool.false_or] at hJ
          refine iNm (j := i) (hs.ext h5') rfl (by omega) ?_
          refine iSub (by omega) ?_
          refine iNm (j := i - 1) (hs.ext h5') (by omega) (by omega) ?_
          refine iLeT ?_
          rw [le_not_lt]
          exact fun w9 h9 => hJ _ h9
        · rw [decide_eq_true (show i = 0 by omega), Bool.true_or] at hJ
          exact fun w10 h10 => hJ _ h10
      · intro _
        simp only [gx]
        have h8' := h5'.trans h8
        cases hst : stepOk L i
        · refine iCndT rfl ?_
          rw [bad hst]
          exact ⟨by first | trivial | rfl, h8'⟩
        · refine iCndF rfl ?_
          refine iAdd (by omega) ?_
          refine hKn (i + 1) _ ⟨by omega, h8', fun j hj => ?_⟩ (by omega)
          by_cases hji : j = i
          · subst hji; exact hst
          · exact hok j (by omega)
  · have : itemsOk L = true := itemsOk_iff.2 ⟨by omega, fun j hj => hok j (by omega)⟩
    rw [this]
    exact ⟨by first | trivial | rfl, h2⟩
theorem ok_strings_Compare (a b : Str) (w : World) : Ret Tryz.prog f_strings_Compare #[sv a, sv b] w (.int .i64 (Lib.compareBytes a b)) := by
  apply c_strings_Compare; unfold S_strings_Compare
  refine iRet (v := .int .i64 (Lib.compareBytes a b)) ?_ fun w1 h1 => ⟨by first | trivial | rfl, h1⟩
  refine ⟨⟨_, Tryz.func129, by kernel_rfl, by kernel_rfl⟩, ?_⟩
  refine (Any.bytealg_CompareString lays213 ⟨a.toArray⟩ ⟨b.toArray⟩ w).mono ?_
  rintro e w' ⟨rfl, rfl⟩
  exact ⟨_, rfl, rfl, Ext.refl _⟩
theorem ok_impl_itemAt_1 (x : Itm) (n : Str) (w : World) : Ret Tryz.prog f_impl_itemAt_1 #[x.val, sv n] w (.int .i64 (Lib.compareBytes x.nm n)) := by
  apply c_impl_itemAt_1; unfold S_impl_itemAt_1
  refine iNew3 fun q w1 hq h1 hB => ?_
  refine iFa ?_
  refine iLdB hB rfl ?_
  exact iRet (ok_strings_Compare _ _ w1) fun w2 h2 => ⟨by first | trivial | rfl, h1.trans h2⟩
/-- What a search for a name answers: a place, and whether it is there. -/
def Found (L : List Itm) (n : Str) (i : Nat) (y : Bool) : Prop := i ≤ L.length ∧ (y = true → i < L.length ∧ (gt L i).nm = n) ∧ (IncI L → y = hasI L n)
theorem ok_BinarySearch {v : Value} {L : List Itm} {n : Str} {w : World} (hs : SlIt w v L) (hL : L.length ≤ 1099511627776) : Cal Tryz.prog f_slices_BinarySearchFunc_Simpl_Item_impl_Item_string #[v, sv n, .func (.func f_impl_itemAt_1) #[] #[]] w fun r w' => Ext w w' ∧ ∃ i : Nat, ∃ y : Bool, r = .tuple #[.int .i64 (i : Int), .bool y] ∧ Found L n i y := by
  apply c_slices_BinarySearchFunc_Simpl_Item_impl_Item_string; unfold S_slices_BinarySearchFunc_Simpl_Item_impl_Item_string
  refine iLenK hs ?_
  refine iLp (fun s : Nat × Nat => [.int .i64 (s.1 : Int), .int .i64 (s.2 : Int)]) (fun s w' => s.1 ≤ s.2 ∧ s.2 ≤ L.length ∧ Ext w w' ∧ (IncI L → (∀ k, k < s.1 → ltS (gt L k).nm n = true) ∧ ∀ k, s.2 ≤ k → k < L.length → ltS (gt L k).nm n = false)) (fun s => s.2 - s.1) (0, L.length) rfl ⟨Nat.zero_le _, Nat.le_refl _, Ext.refl _, fun _ => ⟨fun k hk => absurd hk (Nat.not_lt_zero k), fun k h1 h2 => absurd h2 (Nat.not_lt.2 h1)⟩⟩ ?_
  rintro ⟨lo, hi⟩ w2 Kn ⟨hlh, hhi, h2, hinv⟩ hKn
  have hlh : lo ≤ hi := hlh
  have hhi : hi ≤ L.length := hhi
  have hinv : IncI L → (∀ k, k < lo → ltS (gt L k).nm n = true) ∧ ∀ k, hi ≤ k → k < L.length → ltS (gt L k).nm n = false := hinv
  have hs2 := hs.ext h2
  intro _
  simp only [gx]
  refine iLt ?_
  refine iCndP (fun h => ?_) (fun h => ?_)
  · refine iAdd (by omega) ?_
    refine iConvU (by omega) ?_
    rw [show (lo : Int) + hi = ((lo + hi : Nat) : Int) by omega]
    refine iShrU (j := 1) (by omega) ?_
    refine iConv64 (by omega) ?_
    have hm1 : lo ≤ (lo + hi) / 2 ^ 1 := by omega
    have hm2 : (lo + hi) / 2 ^ 1 < hi := by omega
    generalize (lo + hi) / 2 ^ 1 = m at hm1 hm2
    refine iItm hs2 rfl (by omega) ?_
    refine iRet (ok_impl_itemAt_1 _ _ w2) fun w3 h23 => ?_
    refine iLt ?_
    have hc := cmp_iff (gt L m).nm n
    refine iCndP (fun h3 => ?_) (fun h3 => ?_)
    · refine iAdd (by omega) ?_
      refine hKn (m + 1, hi) _ ⟨by show m + 1 ≤ hi; omega, hhi, h2.trans h23, fun hI => ⟨fun k hk => ?_, (hinv hI).2⟩⟩ (by show hi - (m + 1) < hi - lo; omega)
      have hk : k < m + 1 := hk
      by_cases hkm : k = m
      · subst hkm; exact hc.1.1 h3
      · exact ltS_trans (hI k m (by omega) (by omega)) (hc.1.1 h3)
    · have hnl : ltS (gt L m).nm n = false := by
        rw [Bool.eq_false_iff]; intro e; exact h3 (hc.1.2 e)
      refine hKn (lo, m) _ ⟨hm1, by show m ≤ L.length; omega, h2.trans h23, fun hI => ⟨(hinv hI).1, fun k hk hkl => ?_⟩⟩ (by show m - lo < hi - lo; omega)
      have hk : m ≤ k := hk
      by_cases hkm : k = m
      · subst hkm; exact hnl
      · exact ordrS.tr hnl (ltS_asymm (hI m k (by omega) hkl))
  · have hle : lo = hi := by omega
    subst hle
    refine iJnX (fun xs w' => Ext w2 w' ∧ ∃ y : Bool, xs = [.int .i64 (lo : Int), .bool y] ∧ y = (decide (lo < L.length) && decide ((gt L lo).nm = n))) (fun J hJ => ?_) ?_
    · refine iLt ?_
      refine iCndP (fun h3 => ?_) (fun h3 => ?_)
      · refine iItm hs2 rfl (by omega) ?_
        refine iRet (ok_impl_itemAt_1 _ _ w2) fun w3 h23 => ?_
        refine iEq ?_
        refine hJ _ _ ⟨h23, _, rfl, ?_⟩
        rw [decide_eq_true (show lo < L.length by omega), Bool.true_and]
        exact decide_eq_decide.2 (cmp_iff (gt L lo).nm n).2.1
      · exact hJ _ _ ⟨Ext.refl _, false, rfl, by rw [decide_eq_false (show ¬ lo < L.length by omega), Bool.false_and]⟩
    · rintro xs w5 ⟨h5, y, rfl, hy⟩
      intro _
      refine ⟨h2.trans h5, lo, y, rfl, hhi, fun e => ?_, fun hI => ?_⟩
      · rw [e] at hy
        have := hy.symm
        rw [Bool.and_eq_true, decide_eq_true_eq, decide_eq_true_eq] at this
        exact this
      · obtain ⟨g1, g2⟩ := hinv hI
        rw [hy]
        rcases Nat.lt_or_ge lo L.length with h3 | h3
        · rw [decide_eq_true h3, Bool.true_and]
          by_cases h4 : (gt L lo).nm = n
          · rw [decide_eq_true h4, hasI_at h3 h4]
          · rw [decide_eq_false h4, hasI_no fun i hi e => ?_]
            rcases Nat.lt_trichotomy i lo with h5 | h5 | h5
            · have := g1 i h5; rw [e, ltS_irrefl] at this; cases this
            · subst h5; exact h4 e
            · have k1 := g2 lo (Nat.le_refl _) h3
              have k2 := hI lo i h5 hi
              rw [e] at k2; rw [k1] at k2; cases k2
        · rw [decide_eq_false (Nat.not_lt.2 h3), Bool.false_and, hasI_no fun i hi e => ?_]
          have := g1 i (by omega); rw [e, ltS_irrefl] at this; cases this
theorem ok_impl_itemAt {v : Value} {L : List Itm} {n : Str} {w : World} (hs : SlIt w v L) (hL : L.length ≤ 1099511627776) : Cal Tryz.prog f_impl_itemAt #[v, sv n] w fun r w' => Ext w w' ∧ ∃ i : Nat, ∃ y : Bool, r = .tuple #[.int .i64 (i : Int), .bool y] ∧ Found L n i y := by
  apply c_impl_itemAt; unfold S_impl_itemAt
  refine iCall ((ok_BinarySearch hs hL).mono ?_)
  rintro r w1 ⟨h1, i, y, rfl, hf⟩
  refine iE20 ?_
  refine iE21 ?_
  exact ⟨h1, i, y, rfl, hf⟩
end Go.Proofs.YtnbelddmhlknkaaGreat

/- Contracts of the laws' own functions on lists of int64 and on frames. Conditions: none. -/
namespace Go.Proofs.YtnbelddmhlknkaaGreat
open Go.Vc


end Go.Proofs.YtnbelddmhlknkaaGreat

/- Contracts: texts that use a name (Users), in the program and the reference; the law on it. Conditions: none. -/
namespace Go.Vc
theorem exprB_names {t : Str} (h : exprB t = true) : (names (chop t)).all nameOk = true := by
  unfold exprB at h
  rw [Bool.and_eq_true] at h
  exact h.1
theorem any_gt {T : List Str} {p : Str → Bool} {i : Nat} (hi : i < T.length) (h : p (gt T i) = true) : T.any p = true := List.any_eq_true.2 ⟨T[i], List.getElem_mem _, by rw [← gt_eq hi]; exact h⟩
theorem any_no {T : List Str} {p : Str → Bool} (h : ∀ i, i < T.length → p (gt T i) = false) : T.any p = false := by
  rw [List.any_eq_false]
  intro x hx
  obtain ⟨i, hi, rfl⟩ := List.getElem_of_mem hx
  rw [← gt_eq hi, h i hi]
  exact Bool.false_ne_true
theorem iIaG {w : World} {v : Value} {L : List Str} {z : Int} {j : Nat} {k : IntKind} {K : Value → Prop} (hs : SlT w v L) (hz : z = (j : Int)) (hj : j < L.length) (h : K (sv (gt L j))) : xIa 1 v (.int k z) fun p => xLd w p K := by
  subst hz
  exact iIaT hs hj fun p hp => iLd hp (by rw [← gt_eq hj]; exact h)
end Go.Vc
namespace Go.Proofs.YtnbelddmhlknkaaGreat
open Go.Vc
theorem ok_slices_ContainsFuncT {v fv : Value} {L : List Str} {p : Str → Bool} {w : World} (hs : SlT w v L) (hf : ∀ x ∈ L, ∀ w', Ext w w' → callV Tryz.prog fv [sv x] w' fun u w'' => u = .bool (p x) ∧ Ext w' w'') : Ret Tryz.prog f_slices_ContainsFunc_Sstring_string #[v, fv] w (.bool (L.any p)) := by
  apply c_slices_ContainsFunc_Sstring_string; unfold S_slices_ContainsFunc_Sstring_string
  have hln := hs.len
  rw [strs_len] at hln
  refine iCall (Cal.mono (R := fun r w' => Ext w w' ∧ ∃ z : Int, r = .int .i64 z ∧ (decide (0 ≤ z) = L.any p)) ?_ ?_)
  · apply c_slices_IndexFunc_Sstring_string; unfold S_slices_IndexFunc_Sstring_string
    refine iLenStr hs ?_
    refine iLp (fun i : Nat => [.int .i64 (i : Int)]) (fun i w' => i ≤ L.length ∧ Ext w w' ∧ ∀ j, j < i → p (gt L j) = false) (fun i => L.length - i) 0 rfl ⟨Nat.zero_le _, Ext.refl _, fun j hj => by omega⟩ ?_
    rintro i w2 Kn ⟨hi, h2, hno⟩ hKn
    intro _
    simp only [gx]
    refine iLt ?_
    refine iCndP (fun h => ?_) (fun h => ?_)
    · refine iIaG (hs.ext h2) rfl (by omega) ?_
      refine (hf (gt L i) (by rw [gt_eq (show i < L.length by omega)]; exact List.getElem_mem _) w2 h2).mono ?_
      rintro u w3 ⟨rfl, h23⟩
      refine iCnd (fun h3 => ?_) (fun h3 => ?_)
      · exact ⟨h2.trans h23, _, rfl, by rw [any_gt (by omega) h3]; simp⟩
      · refine iAdd (by omega) ?_
        refine hKn (i + 1) _ ⟨by omega, h2.trans h23, fun j hj => ?_⟩ (by omega)
        by_cases hji : j = i
        · subst hji; exact h3
        · exact hno j (by omega)
    · exact ⟨h2, -1, rfl, by rw [any_no fun j hj => hno j (by omega)]; rfl⟩
  · rintro r w1 ⟨h1, z, rfl, hz⟩
    refine iLe ?_
    rw [hz]
    exact ⟨by first | trivial | rfl, h1⟩
theorem ok_spec_l35Place {v : Value} {L : List Itm} {n : Str} {w : World} (hs : SlIt w v L) : Cal Tryz.prog f_spec_l35Place #[v, sv n] w fun r w' => Ext w w' ∧ ∃ i : Nat, ∃ y : Bool, r = .tuple #[.int .i64 (i : Int), .bool y] ∧ Found L n i y := by
  apply c_spec_l35Place; unfold S_spec_l35Place
  have hln := hs.len
  refine iLp (fun i : Nat => [.int .i64 (i : Int)]) (fun i w' => i ≤ L.length ∧ Ext w w' ∧ ∀ j, j < i → ltS (gt L j).nm n = true) (fun i => L.length - i) 0 rfl ⟨Nat.zero_le _, Ext.refl _, fun j hj => by omega⟩ ?_
  rintro i w2 Kn ⟨hi, h2, hlt⟩ hKn
  have hs2 := hs.ext h2
  intro _
  simp only [gx]
  refine iJnB (decide (i < L.length) && ltS (gt L i).nm n) w2 (fun J hJ => ?_) (fun w4 h4 => ?_)
  · refine iLenK hs2 ?_
    refine iLt ?_
    refine iCndP (fun h => ?_) (fun h => ?_)
    · rw [decide_eq_true (show i < L.length by omega), Bool.true_and] at hJ
      refine iNm hs2 rfl (by omega) ?_
      exact iLtT (hJ _ (Ext.refl _))
    · rw [decide_eq_false (show ¬ i < L.length by omega), Bool.false_and] at hJ
      exact hJ _ (Ext.refl _)
  intro _
  simp only [gx]
  have hs4 := hs2.ext h4
  have h4' := h2.trans h4
  cases hc : decide (i < L.length) && ltS (gt L i).nm n
  rotate_left
  · rw [Bool.and_eq_true, decide_eq_true_eq] at hc
    refine iCndT rfl ?_
    refine iAdd (by omega) ?_
    refine hKn (i + 1) _ ⟨by omega, h4', fun j hj => ?_⟩ (by omega)
    by_cases hji : j = i
    · subst hji; exact hc.2
    · exact hlt j (by omega)
  refine iCndF rfl ?_
  refine iJnX (fun xs w' => Ext w4 w' ∧ ∃ y : Bool, xs = [.int .i64 (i : Int), .bool y] ∧ y = (decide (i < L.length) && decide ((gt L i).nm = n))) (fun J hJ => ?_) ?_
  · refine iLenK hs4 ?_
    refine iLt ?_
    refine iCndP (fun h3 => ?_) (fun h3 => ?_)
    · refine iNm hs4 rfl (by omega) ?_
      refine iEqT ?_
      exact fun w7 h7 => hJ _ _ ⟨h7, _, rfl, by rw [decide_eq_true (show i < L.length by omega), Bool.true_and]⟩
    · exact fun w8 h8 => hJ _ _ ⟨h8, false, rfl, by rw [decide_eq_false (show ¬ i < L.length by omega), Bool.false_and]⟩
  · rintro xs w6 ⟨h6, y, rfl, hy⟩
    intro _
    refine ⟨h4'.trans h6, i, y, rfl, hi, fun e => ?_, fun hI => ?_⟩
    · rw [e] at hy
      have := hy.symm
      rw [Bool.and_eq_true, decide_eq_true_eq, decide_eq_true_eq] at this
      exact this
    · rw [hy]
      rcases Nat.lt_or_ge i L.length with h3 | h3
      · rw [decide_eq_true h3, Bool.true_and] at hc ⊢
        by_cases h5 : (gt L i).nm = n
        · rw [decide_eq_true h5, hasI_at h3 h5]
        · rw [decide_eq_false h5, hasI_no fun j hj e => ?_]
          rcases Nat.lt_trichotomy j i with h7 | h7 | h7
          · have := hlt j h7; rw [e, ltS_irrefl] at this; cases this
          · subst h7; exact h5 e
          · have k2 := hI i j h7 hj
            rw [e] at k2; rw [hc] at k2; cases k2
      · rw [decide_eq_false (Nat.not_lt.2 h3), Bool.false_and, hasI_no fun j hj e => ?_]
        have := hlt j (by omega); rw [e, ltS_irrefl] at this; cases this
end Go.Proofs.YtnbelddmhlknkaaGreat

/- Plain maths: a text reads on when '(p)' in it is replaced by the text of a formula in parentheses. No program in sight. Conditions: none. -/
namespace Go.Vc
/-- Two texts that differ in what stands in some of their parentheses: p in the first, the text of a formula in the second. -/
inductive Sim : Str → Str → Prop
  | nil : Sim [] []
  | cons (c : UInt8) {s s' : Str} : Sim s s' → Sim (c :: s) (c :: s')
  | seg {a : Fm} (ha : a.good) {s s' : Str} : Sim s s' → Sim (40 :: 112 :: 41 :: s) (40 :: (a.body ++ 41 :: s'))
theorem Sim.refl : ∀ s : Str, Sim s s
  | [] => .nil
  | c :: s => .cons c (Sim.refl s)
theorem Sim.app : ∀ (a : Str) {s s' : Str}, Sim s s' → Sim (a ++ s) (a ++ s')
  | [], _, _, h => h
  | c :: a, _, _, h => .cons c (Sim.app a h)
theorem sim_fill {g : Str → Str} : ∀ (l : List (Str × Str)) (p : Str), (∀ x ∈ l, ∃ a : Fm, a.good ∧ g x.1 = a.body) → Sim (fill (fun _ => [112]) (p, l)) (fill g (p, l))
  | [], p, _ => by rw [fill_nil, fill_nil]; exact Sim.refl p
  | (n, b) :: l, p, h => by
    rw [fill_cons, fill_cons]
    obtain ⟨a, ha, e⟩ := h (n, b) (by simp)
    refine Sim.app p ?_
    have e : g n = a.body := e
    rw [e]
    exact .seg ha (sim_fill l b fun x hx => h x (by simp [hx]))
abbrev SimR (s s' : RSt) : Prop := s.2 = s'.2 ∧ Sim s.1 s'.1
abbrev SimP (x y : Fm × RSt) : Prop := SimR x.2 y.2
theorem sim_head {s s' : Str} (h : Sim s s') : s.head? = s'.head? := by cases h <;> rfl
theorem sim_tk {s s' : RSt} (h : SimR s s') (c : UInt8) : tk c s' = tk c s := by
  unfold tk
  rw [h.1, sim_head h.2]
theorem sim_nx {s s' : RSt} (h : SimR s s') {c : UInt8} (ht : tk c s = true) (hc : c ≠ 40) : SimR (nx s) (nx s') := by
  refine ⟨rfl, ?_⟩
  obtain ⟨x, b⟩ := s
  obtain ⟨x', b'⟩ := s'
  have hS : Sim x x' := h.2
  clear h
  show Sim x.tail x'.tail
  cases hS with
  | nil => exact .nil
  | cons c h => exact h
  | seg ha h =>
    simp only [tk, List.head?_cons, Bool.and_eq_true, decide_eq_true_eq, Option.some.injEq] at ht
    exact absurd ht.2.symm hc
theorem sim_ndd {s s' : RSt} (h : SimR s s') {c : UInt8} (hc : c ≠ 40) : SimR (ndd c s) (ndd c s') := by
  unfold ndd
  rw [sim_tk h]
  split
  · rename_i ht; exact sim_nx h ht hc
  · exact ⟨rfl, h.2⟩
theorem rdL3_bad (a : Fm) (s : Str) : rdL 3 a (s, true) = (.fls, (s, true)) := by
  have no : ∀ c, tk c (s, true) = false := fun c => by simp [tk]
  exact rdL3 (Q := fun x => x = _) (fun h => by rw [no] at h; cases h) (fun h => by rw [no] at h; cases h) (fun h => by rw [no] at h; cases h) (fun h => by rw [no] at h; cases h) (fun h => by rw [no] at h; cases h) (fun h => by rw [no] at h; cases h) (fun _ _ h => by rw [no] at h; cases h) (fun _ _ _ _ _ _ _ => rfl)
theorem rdL3_none (a : Fm) {s : Str} (h : ∀ c, (c = 126 ∨ c = 91 ∨ c = 60 ∨ c = 70 ∨ c = 84 ∨ c = 40 ∨ ∃ v, v < 6 ∧ c = vl v) → s.head? ≠ some c) : rdL 3 a (s, false) = (.fls, (s, true)) := by
  have no : ∀ c, (c = 126 ∨ c = 91 ∨ c = 60 ∨ c = 70 ∨ c = 84 ∨ c = 40 ∨ ∃ v, v < 6 ∧ c = vl v) → tk c (s, false) = false := fun c hc => by simp [tk, h c hc]
  exact rdL3 (Q := fun x => x = _) (fun h => by rw [no _ (.inl rfl)] at h; cases h) (fun h => by rw [no _ (.inr (.inl rfl))] at h; cases h) (fun h => by rw [no _ (.inr (.inr (.inl rfl)))] at h; cases h) (fun h => by rw [no _ (.inr (.inr (.inr (.inl rfl))))] at h; cases h) (fun h => by rw [no _ (.inr (.inr (.inr (.inr (.inl rfl)))))] at h; cases h) (fun h => by rw [no _ (.inr (.inr (.inr (.inr (.inr (.inl rfl))))))] at h; cases h) (fun v hv h => by rw [no _ (.inr (.inr (.inr (.inr (.inr (.inr ⟨v, hv, rfl⟩))))))] at h; cases h) (fun _ _ _ _ _ _ _ => rfl)
theorem sim_rd : ∀ (m lv : Nat) (a a' : Fm) (s s' : RSt), lv ≤ 5 → 8 * s.1.length + fl lv ≤ m → SimR s s' → SimP (rdL lv a s) (rdL lv a' s') := by
  intro m
  induction m with
  | zero => intro lv a a' s s' _ h _; have : 1 ≤ fl lv := by unfold fl; split <;> omega
            omega
  | succ m ih =>
    intro lv a a' s s' hlv hm hS
    have suf : ∀ (lv : Nat) (a : Fm) (s : RSt), (rdL lv a s).2.1.length ≤ s.1.length := fun lv a s => (prs_suf _ lv a s).length_le
    rcases lv with _ | _ | _ | _ | _ | _ | lv
    · -- implications
      have hm : 8 * s.1.length + 4 ≤ m + 1 := hm
      have h1 := ih 1 .fls .fls s s' (by decide) (by show _ + 3 ≤ m; omega) hS
      rw [rdL0 a s, rdL0 a' s', sim_tk h1]
      split
      · rename_i ht
        have hl := suf 1 .fls s
        have := nx_len ht
        exact ih 0 .fls .fls _ _ (by decide) (by show _ + 4 ≤ m; omega) (sim_nx h1 ht (by decide))
      · exact h1
    · have hm : 8 * s.1.length + 3 ≤ m + 1 := hm
      have h1 := ih 2 .fls .fls s s' (by decide) (by show _ + 2 ≤ m; omega) hS
      rw [rdL1 a s, rdL1 a' s']
      have hl := suf 2 .fls s
      exact ih 4 _ _ _ _ (by decide) (by show _ + 1 ≤ m; omega) h1
    · have hm : 8 * s.1.length + 2 ≤ m + 1 := hm
      have h1 := ih 3 .fls .fls s s' (by decide) (by show _ + 1 ≤ m; omega) hS
      rw [rdL2 a s, rdL2 a' s']
      have hl := suf 3 .fls s
      exact ih 5 _ _ _ _ (by decide) (by show _ + 1 ≤ m; omega) h1
    · have hm : 8 * s.1.length + 1 ≤ m + 1 := hm
      obtain ⟨x, b⟩ := s
      obtain ⟨x', b'⟩ := s'
      obtain ⟨hb, hS⟩ := hS
      have hb : b = b' := hb
      have hS : Sim x x' := hS
      have hm : 8 * x.length + 1 ≤ m + 1 := hm
      subst hb
      cases b
      rotate_left
      · rw [rdL3_bad, rdL3_bad]; exact ⟨rfl, hS⟩
      cases hS with
      | nil =>
        rw [rdL3_none a (by simp), rdL3_none a' (by simp)]; exact ⟨rfl, .nil⟩
      | seg ha h =>
        rw [(rdL3_at _ _).2.2.2.2.2.1, (rdL3_at _ _).2.2.2.2.2.1]
        have z : ∀ (f : Fm) (hf : f.good) (r : Str), rdL 0 .fls (f.body ++ 41 :: r, false) = (f, (41 :: r, false)) := fun f hf r => by
          have := (rall f hf).zero (41 :: r) (tk_no (by decide)) (tk_no (by decide)) (tk_no (by decide))
          rwa [txt_own (Nat.zero_le _)] at this
        have z0 := z (.var 0) (by show 0 < 6; decide)
        have z0 := fun r => z0 r
        rw [z _ ha]
        rw [show ∀ r : Str, (112 :: 41 :: r : Str) = (Fm.var 0).body ++ 41 :: r from fun r => rfl, z0, ndd_at, ndd_at]
        exact ⟨rfl, h⟩
      | @cons c l l' h =>
        have hm : 8 * l.length + 8 ≤ m := by rw [List.length_cons] at hm; omega
        have h0 : SimR (l, false) (l', false) := ⟨rfl, h⟩
        have r3 := ih 3 .fls .fls _ _ (by decide) (by show 8 * l.length + 1 ≤ m; omega) h0
        by_cases c1 : c = 126
        · subst c1; rw [(rdL3_at _ _).1, (rdL3_at _ _).1]; exact r3
        by_cases c2 : c = 91
        · subst c2; rw [(rdL3_at _ _).2.1, (rdL3_at _ _).2.1]
          have : (ndd 93 (l, false)).1.length ≤ l.length := ndd_len 93 (l, false)
          exact ih 3 .fls .fls _ _ (by decide) (by show _ + 1 ≤ m; omega) (sim_ndd h0 (by decide))
        by_cases c3 : c = 60
        · subst c3; rw [(rdL3_at _ _).2.2.1, (rdL3_at _ _).2.2.1]
          have : (ndd 62 (l, false)).1.length ≤ l.length := ndd_len 62 (l, false)
          exact ih 3 .fls .fls _ _ (by decide) (by show _ + 1 ≤ m; omega) (sim_ndd h0 (by decide))
        by_cases c4 : c = 70
        · subst c4; rw [(rdL3_at _ _).2.2.2.1, (rdL3_at _ _).2.2.2.1]; exact h0
        by_cases c5 : c = 84
        · subst c5; rw [(rdL3_at _ _).2.2.2.2.1, (rdL3_at _ _).2.2.2.2.1]; exact h0
        by_cases c6 : c = 40
        · subst c6; rw [(rdL3_at _ _).2.2.2.2.2.1, (rdL3_at _ _).2.2.2.2.2.1]
          have r0 := ih 0 .fls .fls _ _ (by decide) (by show 8 * l.length + 4 ≤ m; omega) h0
          exact sim_ndd r0 (by decide)
        by_cases c7 : ∃ v, v < 6 ∧ c = vl v
        · obtain ⟨v, hv, rfl⟩ := c7
          rw [(rdL3_at _ _).2.2.2.2.2.2 v hv, (rdL3_at _ _).2.2.2.2.2.2 v hv]; exact h0
        · have no : ∀ d, (d = 126 ∨ d = 91 ∨ d = 60 ∨ d = 70 ∨ d = 84 ∨ d = 40 ∨ ∃ v, v < 6 ∧ d = vl v) → c ≠ d := fun d hd e => by
            subst e
            rcases hd with e | e | e | e | e | e | e
            · exact c1 e
            · exact c2 e
            · exact c3 e
            · exact c4 e
            · exact c5 e
            · exact c6 e
            · exact c7 e
          rw [rdL3_none a (fun d hd => by simpa using no d hd), rdL3_none a' (fun d hd => by simpa using no d hd)]
          exact ⟨rfl, .cons c h⟩
    · have hm : 8 * s.1.length + 1 ≤ m + 1 := hm
      rw [rdL4 a s, rdL4 a' s', sim_tk hS]
      split
      · rename_i ht
        have := nx_len ht
        have h2 := ih 2 .fls .fls _ _ (by decide) (by show _ + 2 ≤ m; omega) (sim_nx hS ht (by decide))
        have hl := suf 2 .fls (nx s)
        exact ih 4 _ _ _ _ (by decide) (by show _ + 1 ≤ m; omega) h2
      · exact hS
    · have hm : 8 * s.1.length + 1 ≤ m + 1 := hm
      rw [rdL5 a s, rdL5 a' s', sim_tk hS]
      split
      · rename_i ht
        have := nx_len ht
        have h2 := ih 3 .fls .fls _ _ (by decide) (by show _ + 1 ≤ m; omega) (sim_nx hS ht (by decide))
        have hl := suf 3 .fls (nx s)
        exact ih 5 _ _ _ _ (by decide) (by show _ + 1 ≤ m; omega) h2
      · exact hS
    · omega
/-- An expression with the texts of formulas for its references is a formula's text. -/
theorem fill_reads {t : Str} {g : Str → Str} (ht : exprB t = true) (hg : ∀ n ∈ names (chop t), ∃ a : Fm, a.good ∧ g n = a.body) : (rd (fill g (chop t))).2.2 = false ∧ (rd (fill g (chop t))).2.1 = [] := by
  unfold exprB at ht
  simp only [Bool.and_eq_true, Bool.not_eq_true', decide_eq_true_eq] at ht
  obtain ⟨-, h1, h2⟩ := ht
  have hs : Sim (fill (fun _ => [112]) (chop t)) (fill g (chop t)) := sim_fill (chop t).2 (chop t).1 fun x hx => hg x.1 (List.mem_map.2 ⟨x, hx, rfl⟩)
  obtain ⟨e1, e2⟩ := sim_rd _ 0 .fls .fls (fill (fun _ => [112]) (chop t), false) (fill g (chop t), false) (by decide) (Nat.le_refl _) ⟨rfl, hs⟩
  have e1 : (rd (fill (fun _ => [112]) (chop t))).2.2 = (rd (fill g (chop t))).2.2 := e1
  have e2 : Sim (rd (fill (fun _ => [112]) (chop t))).2.1 (rd (fill g (chop t))).2.1 := e2
  rw [h1] at e1
  rw [h2] at e2
  refine ⟨e1.symm, ?_⟩
  generalize (rd (fill g (chop t))).2.1 = r at e2
  cases e2
  rfl
end Go.Vc

/- Contracts: expressions with their references replaced by items' formulas, in the program and the reference. Conditions: none. -/
namespace Go.Vc
/-- The formula of a name. -/
def fmOf (L : List Itm) (n : Str) : Str := ((findI L n).map Itm.fm).getD []
theorem fmOf_at {L : List Itm} {n : Str} (hI : IncI L) {i : Nat} (hi : i < L.length) (h : (gt L i).nm = n) : fmOf L n = (gt L i).fm := by
  unfold fmOf findI
  cases hf : L.find? fun x => decide (x.nm = n) with
  | none =>
    have := List.find?_eq_none.1 hf L[i] (List.getElem_mem _)
    rw [← gt_eq hi] at this
    simp [h] at this
  | some x =>
    have hx := List.find?_some hf
    have hm := List.mem_of_find?_eq_some hf
    obtain ⟨j, hj, rfl⟩ := List.getElem_of_mem hm
    rw [← gt_eq hj] at hx ⊢
    have hx : (gt L j).nm = n := of_decide_eq_true hx
    have : j = i := by
      rcases Nat.lt_trichotomy j i with h1 | h1 | h1
      · have := hI j i h1 hi; rw [hx, h, ltS_irrefl] at this; cases this
      · exact h1
      · have := hI i j h1 hj; rw [hx, h, ltS_irrefl] at this; cases this
    rw [this]
    rfl
theorem hasI_ex {L : List Itm} {n : Str} (h : hasI L n = true) : ∃ i, i < L.length ∧ (gt L i).nm = n := by
  unfold hasI at h
  obtain ⟨x, hx, hn⟩ := List.any_eq_true.1 h
  obtain ⟨i, hi, rfl⟩ := List.getElem_of_mem hx
  exact ⟨i, hi, by rw [gt_eq hi]; exact of_decide_eq_true hn⟩
theorem fmOf_good {L : List Itm} {n : Str} (hok : itemsOk L = true) (h : hasI L n = true) : goodT (fmOf L n) = true := by
  obtain ⟨i, hi, hn⟩ := hasI_ex h
  rw [fmOf_at (itemsOk_inc hok) hi hn]
  have := (itemsOk_iff.1 hok).2 i hi
  simp only [stepOk, itOk, Bool.and_eq_true] at this
  exact this.1.1.2
theorem goodT_body {t : Str} (h : goodT t = true) : (∃ a : Fm, a.good ∧ t = a.body) ∧ t.length ≤ 200 := by
  unfold goodT at h
  rw [Bool.and_eq_true, decide_eq_true_eq, decide_eq_true_eq] at h
  exact ⟨⟨_, rd_good t, h.2.symm⟩, (pCode_size h.1).2.1⟩
theorem OwK.same {k lo : Nat} {e : TypeId} {w w' : World} {v : Value} {n : Nat} {xs : List Value} (h : OwK k lo e w v n xs) (hk : ∀ c, v.ownBlock = some c → w'.heap[c]? = w.heap[c]?) : OwK k lo e w' v n xs := by
  obtain ⟨h0, h | ⟨g, cap, cur, hv, hg, hh, h1⟩⟩ := h
  · exact ⟨h0, .inl h⟩
  · exact ⟨h0, .inr ⟨g, cap, cur, hv, hg, by rw [hk g (by rw [hv]; rfl)]; exact hh, h1⟩⟩
/-- The text of an expression with formulas for its references. -/
def fllT (L : List Itm) (t : Str) : Str := fill (fmOf L) (chop t)
def knownT (L : List Itm) (t : Str) : Bool := (names (chop t)).all (hasI L)
theorem fllT_ok {L : List Itm} {t : Str} (hok : itemsOk L = true) (ht : exprB t = true) (hk : knownT L t = true) : rdOk (fllT L t) = true := by
  have h := fill_reads (g := fmOf L) ht fun n hn => (goodT_body (fmOf_good hok (List.all_eq_true.1 hk n hn))).1
  unfold rdOk fllT
  rw [h.1, h.2]
  rfl
theorem fllT_len {L : List Itm} {t : Str} (hok : itemsOk L = true) (hk : knownT L t = true) : (fllT L t).length ≤ 202 * t.length :=
  fill_len (B := 200) t fun n hn => (goodT_body (fmOf_good hok (List.all_eq_true.1 hk n hn))).2
end Go.Vc
namespace Go.Proofs.YtnbelddmhlknkaaGreat
open Go.Vc
abbrev ItW (lo : Nat) (w : World) (v : Value) (L : List Itm) : Prop := OwK 3 lo 46 w v L.length (cellsI L)
theorem ok_impl_treeOf {t : Str} (ht : t.length ≤ 4194304) (w : World) : Cal Tryz.prog f_impl_treeOf #[sv t] w fun v w' => Ext w w' ∧ FmW w.heap.size w' v (rd t).1 := by
  apply c_impl_treeOf; unfold S_impl_treeOf
  refine iBuild (cs := #[sv t, .int .i64 0, .bool false]) (by simp [Instr.fill, Value.cells]) ?_
  refine iNew fun b w1 hb h1 hB => ?_
  refine iCall ((ok_impl_reader_imply ht (RdS.new hB)).mono ?_)
  rintro v w2 ⟨_, hc2, hv2⟩
  rw [← rd_rdL] at hv2
  exact ⟨h1.thenCh hc2 fun c hc => by omega, hv2.mono h1.size⟩
theorem ok_impl_isKnown {lo : Nat} {v : Value} {L : List Itm} {t : Str} {w : World} (hs : ItW lo w v L) (hok : itemsOk L = true) (ht : t.length ≤ 262144) (hn : (names (chop t)).all nameOk = true) : Ret Tryz.prog f_impl_isKnown #[v, sv t] w (.bool (knownT L t)) := by
  apply c_impl_isKnown; unfold S_impl_isKnown
  have hL := (itemsOk_iff.1 hok).1
  refine iNew fun b w1 hb h1 hB => ?_
  rw [isCell_cells hs.cell] at hB
  refine iCall ((ok_impl_references ht hn w1).mono ?_)
  rintro r w2 ⟨h2, ho⟩
  refine iRet (ok_slices_ContainsFuncT (p := fun n => !hasI L n) ho.sl fun n _ w' hw' => ⟨_, _, _, rfl, ?_⟩) fun w3 h3 => ?_
  · show Cal Tryz.prog f_impl_isKnown_1 #[sv n, .pointer (some ⟨b, 0, none⟩)] w' _
    apply c_impl_isKnown_1; unfold S_impl_isKnown_1
    refine iLdB (hB.ext (h2.trans hw')) rfl ?_
    refine iCall ((ok_impl_itemAt (hs.ext (h1.trans (h2.trans hw'))).sl (by omega)).mono ?_)
    rintro r' w4 ⟨h4, i, y, rfl, hF⟩
    refine iE20 ?_
    refine iE21 ?_
    refine iNot ?_
    rw [hF.2.2 (itemsOk_inc hok)]
    exact ⟨by first | trivial | rfl, h4⟩
  · refine iNot ?_
    refine ⟨?_, (h1.trans h2).trans h3⟩
    congr 1
    unfold knownT
    rw [Bool.eq_iff_iff, Bool.not_eq_true', List.any_eq_false, List.all_eq_true]
    constructor
    · intro h n hn'; have := h n (mem_setT.2 hn'); simpa using this
    · intro h n hn'; have := h n (mem_setT.1 hn'); simp [this]
/-- The function that gives for each name the formula of its item. -/
def nmItems (b lo : Nat) (v : Value) (L : List Itm) (hp : Nat → Option Obj) (hok : itemsOk L = true) : Namer Tryz.prog t_byte (.func (.func f_impl_expanded_1) #[] #[.pointer (some ⟨b, 0, none⟩)]) (fmOf L) (fun n => hasI L n = true) where
  J := fun S _ w => Blk 27 w b [v] ∧ ItW lo w v L ∧ (∀ k, S k ↔ (k = b ∨ v.ownBlock = some k)) ∧ ∀ k, v.ownBlock = some k → w.heap[k]? = hp k
  below := fun ⟨hB, ho, hS, _⟩ k hk => by
    rcases (hS k).1 hk with rfl | e
    · exact hB.lt
    · exact (ho.blk k e).2
  keep := fun ⟨hB, ho, hS, hh⟩ _ hk => ⟨(hk b ((hS b).2 (.inl rfl))).trans hB, ho.same fun c hc => hk c ((hS c).2 (.inr hc)), hS, fun k e => (hk k ((hS k).2 (.inr e))).trans (hh k e)⟩
  no8 := fun ⟨hB, ho, hS, _⟩ k hk => by
    rintro ⟨cur, fz, hc⟩
    rcases (hS k).1 hk with rfl | e
    · have := hB.symm.trans hc
      simp only [Option.some.injEq, Obj.cells.injEq] at this
      exact absurd this.2.1 (by decide)
    · obtain ⟨cur', hc'⟩ := ho.ty e
      have := hc'.symm.trans hc
      simp only [Option.some.injEq, Obj.cells.injEq] at this
      exact absurd this.2.1 (by decide)
  call := fun {S l w n} ⟨hB, ho, hS, hh⟩ _ hk _ => by
    refine ⟨_, _, _, rfl, ?_⟩
    show Cal Tryz.prog f_impl_expanded_1 #[sv n, .pointer (some ⟨b, 0, none⟩)] w _
    apply c_impl_expanded_1; unfold S_impl_expanded_1
    have hL := (itemsOk_iff.1 hok).1
    refine iLdB hB rfl ?_
    refine iCall ((ok_impl_itemAt ho.sl (by omega)).mono ?_)
    rintro r' w1 ⟨h1, i, y, rfl, hF⟩
    have hI := itemsOk_inc hok
    obtain ⟨hi, hnm⟩ := hF.2.1 ((hF.2.2 hI).trans hk)
    refine iE20 ?_
    refine iE21 ?_
    refine iLdB (hB.ext h1) rfl ?_
    refine iFm (ho.ext h1).sl rfl hi ?_
    exact ⟨by rw [fmOf_at hI hi hnm], S, ⟨hB.ext h1, ho.ext h1, hS, fun k e => (Go.RowKit.Below.block h1 k (ho.blk k e).2).trans (hh k e)⟩, h1.ch, fun k hk => .inl hk⟩
theorem ok_impl_expanded {lo : Nat} {v : Value} {L : List Itm} {t : Str} {w : World} (hs : ItW lo w v L) (hok : itemsOk L = true) (ht : t.length ≤ 20000) (he : exprB t = true) (hk : knownT L t = true) : Cal Tryz.prog f_impl_expanded #[v, sv t] w fun r w' => Ext w w' ∧ FmW w.heap.size w' r (rd (fllT L t)).1 := by
  apply c_impl_expanded; unfold S_impl_expanded
  refine iNew fun b w1 hb h1 hB => ?_
  rw [isCell_cells hs.cell] at hB
  have hfl := fllT_len hok hk
  refine iCall ((ok_impl_replaced (nmItems b lo v L (fun k => w.heap[k]?) hok) (S0 := fun k => k = b ∨ v.ownBlock = some k) (by omega) (fun n hn => List.all_eq_true.1 hk n hn) (by unfold fllT at hfl; omega) ⟨hB, hs.ext h1, fun k => Iff.rfl, fun k e => Go.RowKit.Below.block h1 k (hs.blk k e).2⟩).mono ?_)
  rintro r w2 ⟨S, l, ⟨-, -, -, hh⟩, hc, -, h2, -⟩
  obtain ⟨rfl, -⟩ := h2 (exprB_names he)
  have hX : Ext w w2 := ⟨hc.os.trans h1.os, hc.tape.trans h1.tape, hc.output.trans h1.output, Nat.le_trans h1.size hc.size, fun k hk => by
    by_cases hv : v.ownBlock = some k
    · exact hh k hv
    · have hk1 : k < w1.heap.size := by have := h1.size; omega
      rw [hc.block k hk1 fun e => e.elim (fun e => by omega) hv]
      exact Go.RowKit.Below.block h1 k hk⟩
  refine iE20 ?_
  refine iE21 ?_
  refine iCall ((ok_impl_treeOf (by unfold fllT at hfl; omega) w2).mono ?_)
  rintro r w3 ⟨h3, ho⟩
  exact ⟨hX.trans h3, ho.mono hX.size⟩
/-- A row of formulas. -/
def FmsS (w : World) (vs : List Value) (fs : List Fm) : Prop := vs.length = fs.length ∧ ∀ i, i < fs.length → ∃ v, vs[i]? = some v ∧ FmS w v (fs.getD i .fls)
theorem ok_impl_limitedAll {v : Value} {vs : List Value} {fs : List Fm} {w : World} (hs : Sl w v vs) (hf : FmsS w vs fs) : Cal Tryz.prog f_impl_limitedAll #[v] w fun r w' => Ext w w' ∧ r = if fs.any (fun f => decide (40 < f.size)) then .tuple #[.slice none 0 0, .int .i64 3] else .tuple #[v, .int .i64 0] := by
  apply c_impl_limitedAll; unfold S_impl_limitedAll
  have hln := hs.len
  refine iRet (v := .bool (fs.any fun f => decide (40 < f.size))) ?_ fun w1 h1 => ?_
  · apply c_slices_ContainsFunc_SSimpl_Node_Simpl_Node; unfold S_slices_ContainsFunc_SSimpl_Node_Simpl_Node
    refine iCall (Cal.mono (R := fun r w' => Ext w w' ∧ ∃ z : Int, r = .int .i64 z ∧ (decide (0 ≤ z) = fs.any fun f => decide (40 < f.size))) ?_ ?_)
    · apply c_slices_IndexFunc_SSimpl_Node_Simpl_Node; unfold S_slices_IndexFunc_SSimpl_Node_Simpl_Node
      refine iLenS hs ?_
      refine iLp (fun i : Nat => [.int .i64 (i : Int)]) (fun i w' => i ≤ vs.length ∧ Ext w w' ∧ ∀ j, j < i → (fs.getD j .fls).size ≤ 40) (fun i => vs.length - i) 0 rfl ⟨Nat.zero_le _, Ext.refl _, fun j hj => by omega⟩ ?_
      rintro i w2 Kn ⟨hi, h2, hno⟩ hKn
      intro _
      simp only [gx]
      refine iLt ?_
      refine iCndP (fun h => ?_) (fun h => ?_)
      · have hif : i < fs.length := by have := hf.1; omega
        obtain ⟨u, hu, hfu⟩ := hf.2 i hif
        refine iIa (hs.ext h2) (by omega) (by omega) fun p hp => ?_
        rw [Int.toNat_natCast, hu] at hp
        refine iLd hp ?_
        refine iCall (Cal.mono (R := fun r w' => r = .bool (decide (40 < (fs.getD i .fls).size)) ∧ w' = w2) ?_ ?_)
        · show Cal Tryz.prog f_impl_limitedAll_1 #[u] w2 _
          apply c_impl_limitedAll_1; unfold S_impl_limitedAll_1
          refine iLenK (hfu.ext h2) (iLt ⟨?_, rfl⟩)
          congr 1
          exact decide_eq_decide.2 (by omega)
        · rintro r w3 ⟨rfl, rfl⟩
          refine iCndP (fun h3 => ?_) (fun h3 => ?_)
          · refine ⟨h2, _, rfl, ?_⟩
            rw [List.any_eq_true.2 ⟨fs[i], List.getElem_mem _, by
              have : fs.getD i .fls = fs[i] := by simp [List.getD_eq_getElem?_getD, hif]
              rw [← this]; exact decide_eq_true h3⟩]
            simp
          · refine iAdd (by omega) ?_
            refine hKn (i + 1) _ ⟨by omega, h2, fun j hj => ?_⟩ (by omega)
            by_cases hji : j = i
            · subst hji; omega
            · exact hno j (by omega)
      · refine ⟨h2, -1, rfl, ?_⟩
        rw [show (fs.any fun f => decide (40 < f.size)) = false from by
          rw [List.any_eq_false]
          intro f hf'
          obtain ⟨j, hj, rfl⟩ := List.getElem_of_mem hf'
          have := hno j (by have := hf.1; omega)
          have e : fs.getD j .fls = fs[j] := by simp [List.getD_eq_getElem?_getD, hj]
          rw [e] at this
          simp; omega]
        rfl
    · rintro r w1 ⟨h1, z, rfl, hz⟩
      refine iLe ?_
      rw [hz]
      exact ⟨by first | trivial | rfl, h1⟩
  · refine iCnd (fun h => ?_) (fun h => ?_)
    · rw [if_pos h]; exact ⟨h1, rfl⟩
    · rw [if_neg (by rw [h]; decide)]; exact ⟨h1, rfl⟩
end Go.Proofs.YtnbelddmhlknkaaGreat

/- Contracts: ExpandExpression in the program and the reference, and the law on it. Conditions: none. -/
namespace Go.Vc
/-- What an expression says. -/
def xpF (L : List Itm) (t : Str) : Fm := (rd (fllT L t)).1
/-- The nodes of a formula, or none. -/
def resN (c : Int) (f : Fm) : Nat × List Value := if c = 0 then (f.size, f.cells) else (0, [])
def FmsK (k lo : Nat) (e : TypeId) (w : World) (vs : List Value) (fs : List Fm) : Prop := vs.length = fs.length ∧ ∀ i, i < fs.length → ∃ v, vs[i]? = some v ∧ OwK k lo e w v (fs.getD i .fls).size (fs.getD i .fls).cells
theorem FmsK.ext {k lo : Nat} {e : TypeId} {w w' : World} {vs : List Value} {fs : List Fm} (h : FmsK k lo e w vs fs) (x : Ext w w') : FmsK k lo e w' vs fs := ⟨h.1, fun i hi => by obtain ⟨v, h1, h2⟩ := h.2 i hi; exact ⟨v, h1, h2.ext x⟩⟩
theorem OwK.ne_own {k lo lo' : Nat} {e e' : TypeId} {w : World} {v u : Value} {n : Nat} {xs ys : List Value} (h : OwK k lo e w v n xs) (h' : Ow lo' e' w u ys) (hne : e ≠ e') : ∀ c, v.ownBlock = some c → ¬ u.ownBlock = some c := fun c hc hc' => by
  obtain ⟨cur, h1⟩ := h.ty hc
  obtain ⟨cur', h2⟩ := h'.ty hc'
  rw [h1] at h2
  simp only [Option.some.injEq, Obj.cells.injEq] at h2
  exact hne h2.2.1
theorem iStF2 {lo : Nat} {e : TypeId} {w : World} {v x : Value} {n : Nat} {xs : List Value} {z : Int} {j f : Nat} {k : IntKind} {K : World → Prop} (hs : OwK 2 lo e w v n xs) (hz : z = (j : Int)) (hj : j < n) (hf : f < 2) (hx : isCell x = true)
    (h : ∀ w', OwK 2 lo e w' v n (xs.set (j * 2 + f) x) → Ch (fun c => v.ownBlock = some c) w w' → K w') : xIa 2 v (.int k z) fun p => xFa f p fun q => xSt w q x K := by
  subst hz
  obtain ⟨hl, ⟨-, h0⟩ | ⟨g, cap, cur, hv, hg, hh, h1, h2, h3, h4⟩⟩ := hs
  · omega
  · subst hv
    have hs : w.ownsRow lo e 2 (.slice (some ⟨g, 0, none⟩) n cap) n xs := ⟨hl, .inr ⟨g, cap, cur, rfl, hg, hh, h1, h2, h3, h4⟩⟩
    refine ⟨_, _, _, _, _, rfl, rfl, by omega, by omega, ?_⟩
    rw [Int.toNat_natCast, addr_add]
    refine ⟨_, rfl, ?_⟩
    rw [addr_add, Nat.zero_add]
    have hjf : j * 2 + f < xs.length := by omega
    refine iSt ((hs.cellAt (j * 2 + f) (by omega)).trans (List.getElem?_eq_getElem hjf)) (hs.frozenAt _) hx ?_
    exact h _ (hs.stored (j * 2 + f) x).1 ((Upd.setCell w g _ x).ch rfl)
def marksN (k n : Nat) : List Value := (List.range (n * 2)).map fun i => .int .i64 ((k + i : Nat) : Int)
theorem marksN_at {k n i : Nat} (h : i < n * 2) : (marksN k n)[i]? = some (.int .i64 ((k + i : Nat) : Int)) := by simp [marksN, h]
theorem marksN_len (k n : Nat) : (marksN k n).length = n * 2 := by simp [marksN]
end Go.Vc
namespace Go.Proofs.YtnbelddmhlknkaaGreat
open Go.Vc
def expC (L : List Itm) (t : Str) : Int := if itemsOk L = false then 1 else if ¬ exprC t = 0 then exprC t else if knownT L t = false then 4 else if 40 < (xpF L t).size then 3 else 0
theorem ok_impl_expandAll {lo : Nat} {v0 v1 : Value} {L : List Itm} {T : List Str} {w : World} (hs : ItW lo w v0 L) (hok : itemsOk L = true) (h1 : SlT w v1 T) (hT : T.length ≤ 1000) (ht : ∀ t ∈ T, t.length ≤ 300 ∧ exprB t = true) :
    Cal Tryz.prog f_impl_expandAll #[v0, v1] w fun r w' => Ext w w' ∧ (T.any (fun t => !knownT L t) = true → r = .tuple #[.slice none 0 0, .int .i64 4]) ∧ (T.any (fun t => !knownT L t) = false →
      ((T.map (xpF L)).any (fun f => decide (40 < f.size)) = true → r = .tuple #[.slice none 0 0, .int .i64 3]) ∧
      ((T.map (xpF L)).any (fun f => decide (40 < f.size)) = false → ∃ u vs, r = .tuple #[u, .int .i64 0] ∧ Ow w.heap.size t_Simpl_Node w' u vs ∧ FmsK 2 w.heap.size t_impl_Node w' vs (T.map (xpF L)))) := by
  apply c_impl_expandAll; unfold S_impl_expandAll
  refine iNew fun b w1 hb x1 hB => ?_
  rw [isCell_cells hs.cell] at hB
  refine iRet (ok_slices_ContainsFuncT (p := fun t => !knownT L t) (h1.ext x1) fun t htm w' hw' => ⟨_, _, _, rfl, ?_⟩) fun w2 x2 => ?_
  · show Cal Tryz.prog f_impl_expandAll_1 #[sv t, .pointer (some ⟨b, 0, none⟩)] w' _
    apply c_impl_expandAll_1; unfold S_impl_expandAll_1
    refine iLdB (hB.ext hw') rfl ?_
    have hh := ht t htm
    refine iRet (ok_impl_isKnown (hs.ext (x1.trans hw')) hok (by omega) (exprB_names hh.2)) fun w4 h4 => ?_
    exact iNot ⟨by first | trivial | rfl, h4⟩
  have x12 := x1.trans x2
  cases hkn : T.any fun t => !knownT L t
  rotate_left
  · exact iCndT rfl ⟨x12, fun _ => rfl, fun h => by cases h⟩
  refine iCndF rfl ?_
  have hk : ∀ t ∈ T, knownT L t = true := fun t htm => by have := List.any_eq_false.1 hkn t htm; simpa using this
  refine iLenStr (h1.ext x12) ?_
  refine iLp (fun s : Value × Nat => [s.1, .int .i64 (s.2 : Int)]) (fun s w' => s.2 ≤ T.length ∧ Ext w1 w' ∧ ∃ vs, Ow w.heap.size t_Simpl_Node w' s.1 vs ∧ FmsK 2 w.heap.size t_impl_Node w' vs ((T.take s.2).map (xpF L))) (fun s => T.length - s.2) (.slice none 0 0, 0) rfl ⟨Nat.zero_le _, x2, [], Ow.nil _ _ _, rfl, fun i hi => absurd hi (by simp)⟩ ?_
  rintro ⟨u, k⟩ w4 Kn ⟨hkT, x4, vs, ho, hf⟩ hKn
  have hkT : k ≤ T.length := hkT
  have ho : Ow w.heap.size t_Simpl_Node w4 u vs := ho
  have hf : FmsK 2 w.heap.size t_impl_Node w4 vs ((T.take k).map (xpF L)) := hf
  have X4 := x1.trans x4
  intro _
  simp only [gx]
  refine iLt ?_
  refine iCndP (fun h => ?_) (fun h => ?_)
  · refine iIaG (h1.ext X4) rfl (by omega) ?_
    have hmem : gt T k ∈ T := by rw [gt_eq (show k < T.length by omega)]; exact List.getElem_mem _
    have hh := ht _ hmem
    refine iLdB (hB.ext x4) rfl ?_
    refine iCall ((ok_impl_expanded (hs.ext X4) hok (by omega) hh.2 (hk _ hmem)).mono ?_)
    rintro r w5 ⟨x45, hr⟩
    have ho5 := ho.ext x45
    have hf5 := hf.ext x45
    have hvl : vs.length = k := by rw [hf.1, List.length_map, List.length_take]; omega
    refine iApp1A u_SSimpl_Node i_SSimpl_Node rfl ho5 hr.cell (by omega) (by omega) (by have := (X4.trans x45).size; omega) fun u' w7 ho7 hg7 hat7 => ?_
    have x57 : Ext w1 w7 := (x4.trans x45).grown hg7 fun c hc => by
      have hc1 := (ho5.blk c hc).1
      have hcc : c ≠ b := fun e => by
        subst e
        exact ho5.ne_blk (hB.ext (x4.trans x45)) (by decide) hc
      omega
    refine iAdd (by omega) ?_
    refine hKn (u', k + 1) _ ⟨by show k + 1 ≤ T.length; omega, x57, vs ++ [r], ho7, ?_, fun i hi => ?_⟩ (by show T.length - (k + 1) < T.length - k; omega)
    · show (vs ++ [r]).length = ((T.take (k + 1)).map (xpF L)).length
      rw [List.length_append, List.length_singleton, List.length_map, List.length_take]; omega
    · have hi : i < ((T.take (k + 1)).map (xpF L)).length := hi
      show ∃ v, (vs ++ [r])[i]? = some v ∧ OwK 2 w.heap.size t_impl_Node w7 v (((T.take (k + 1)).map (xpF L)).getD i .fls).size (((T.take (k + 1)).map (xpF L)).getD i .fls).cells
      rw [List.length_map, List.length_take] at hi
      have gr : ∀ {v : Value} {f : Fm}, OwK 2 w.heap.size t_impl_Node w5 v f.size f.cells → OwK 2 w.heap.size t_impl_Node w7 v f.size f.cells := fun {v f} hv => hv.grown hg7 (by
        cases hvo : v.ownBlock with
        | none => exact .inl rfl
        | some c => exact .inr fun e => hv.ne_own ho5 (by decide) c hvo e.symm)
      have eg : ((T.take (k + 1)).map (xpF L)).getD i .fls = xpF L (gt T i) := by
        rw [List.getD_eq_getElem?_getD, List.getElem?_map, List.getElem?_take, if_pos (by omega), List.getElem?_eq_getElem (by omega), gt_eq (by omega)]
        rfl
      rw [eg]
      by_cases hik : i < k
      · obtain ⟨v, hv1, hv2⟩ := hf5.2 i (by rw [List.length_map, List.length_take]; omega)
        have eg2 : ((T.take k).map (xpF L)).getD i .fls = xpF L (gt T i) := by
          rw [List.getD_eq_getElem?_getD, List.getElem?_map, List.getElem?_take, if_pos hik, List.getElem?_eq_getElem (by omega), gt_eq (by omega)]
          rfl
        rw [eg2] at hv2
        exact ⟨v, by rw [List.getElem?_append_left (by omega)]; exact hv1, gr hv2⟩
      · have : i = k := by omega
        subst this
        exact ⟨r, by rw [List.getElem?_append_right (by omega), hvl, Nat.sub_self]; rfl, gr (hr.mono X4.size)⟩
  · have hkk : k = T.length := by omega
    subst hkk
    rw [List.take_length] at hf
    refine iCall ((ok_impl_limitedAll ho.sl ⟨hf.1, fun i hi => by obtain ⟨v, h1, h2⟩ := hf.2 i hi; exact ⟨v, h1, h2.sl⟩⟩).mono ?_)
    rintro r w8 ⟨x8, rfl⟩
    cases hbig : (T.map (xpF L)).any fun f => decide (40 < f.size)
    · rw [if_neg (by decide)]
      refine iE20 ?_
      refine iE21 ?_
      exact ⟨X4.trans x8, (fun h => by cases h), fun _ => ⟨(fun h => by cases h), fun _ => ⟨u, vs, rfl, ho.ext x8, hf.ext x8⟩⟩⟩
    · rw [if_pos rfl]
      refine iE20 ?_
      refine iE21 ?_
      exact ⟨X4.trans x8, (fun h => by cases h), fun _ => ⟨fun _ => rfl, fun h => by cases h⟩⟩
end Go.Proofs.YtnbelddmhlknkaaGreat

/- ExpandExpression in the program and the reference; the laws' helpers for nodes; the law. Conditions: none. -/
namespace Go.Proofs.YtnbelddmhlknkaaGreat
open Go.Vc
abbrev NdW (lo : Nat) (w : World) (v : Value) (c : Int) (f : Fm) : Prop := OwK 2 lo t_impl_Node w v (resN c f).1 (resN c f).2
theorem NdW.none (lo : Nat) (w : World) {c : Int} (f : Fm) (hc : ¬ c = 0) : NdW lo w (.slice none 0 0) c f := by
  unfold NdW resN
  rw [if_neg hc]
  exact OwK.nil _ _ _ _
theorem NdW.some {lo : Nat} {w : World} {v : Value} {c : Int} {f : Fm} (hc : c = 0) (h : FmW lo w v f) : NdW lo w v c f := by
  unfold NdW resN
  rw [if_pos hc]
  exact h
theorem ok_impl_ExpandExpression {lo : Nat} {v0 : Value} {L : List Itm} (t : Str) {w : World} (hs : ItW lo w v0 L) (hsh : ShortI L) : Cal Tryz.prog f_impl_ExpandExpression #[v0, sv t] w fun r w' => Ext w w' ∧ ∃ u, r = .tuple #[u, .int .i64 (expC L t)] ∧ NdW w.heap.size w' u (expC L t) (xpF L t) := by
  apply c_impl_ExpandExpression; unfold S_impl_ExpandExpression
  have fail : ∀ {c : Int} {w' : World}, expC L t = c → ¬ c = 0 → Ext w w' → Ext w w' ∧ ∃ u, Value.tuple #[.slice none 0 0, .int .i64 c] = .tuple #[u, .int .i64 (expC L t)] ∧ NdW w.heap.size w' u (expC L t) (xpF L t) := fun {c w'} e hc hx =>
    ⟨hx, _, by rw [e], NdW.none _ _ _ (by rw [e]; exact hc)⟩
  refine iRet (ok_impl_areItems hs.sl hsh) fun w1 x1 => ?_
  refine iNot ?_
  cases hok : itemsOk L
  · exact iCndT rfl (fail (by unfold expC; rw [if_pos hok]) (by decide) x1)
  refine iCndF rfl ?_
  refine iRet (ok_impl_expressionCode t w1) fun w2 x2 => ?_
  have x2 := x1.trans x2
  refine iNe ?_
  refine iCndP (fun h => ?_) (fun h => ?_)
  · exact fail (by unfold expC; rw [if_neg (by rw [hok]; decide), if_pos h]) h x2
  have hc0 : exprC t = 0 := Classical.not_not.1 h
  obtain ⟨hl, he, -⟩ := exprC_ok hc0
  refine iBs1 rfl rfl fun q w3 hq x3 hQ => ?_
  have x3 := x2.trans x3
  refine iCall ((ok_impl_expandAll (T := [t]) (hs.ext x3) hok (Sl.ofBlk (n := 1) hQ rfl (by decide)) (by simp) (fun s hs' => by simp at hs'; subst hs'; exact ⟨hl, he⟩)).mono ?_)
  rintro r w4 ⟨x4, g1, g2⟩
  have x4' := x3.trans x4
  simp only [List.any_cons, List.any_nil, Bool.or_false, List.map_cons, List.map_nil] at g1 g2
  cases hkn : knownT L t
  · rw [hkn] at g1
    have g1 := g1 rfl
    subst g1
    refine iE20 ?_
    refine iE21 ?_
    refine iNe ?_
    refine iCndT (by decide) ?_
    exact fail (by unfold expC; rw [if_neg (by rw [hok]; decide), if_neg (fun e => e hc0), if_pos hkn]) (by decide) x4'
  rw [hkn] at g2
  obtain ⟨g3, g4⟩ := g2 rfl
  by_cases hbig : 40 < (xpF L t).size
  · have g3 := g3 (decide_eq_true hbig)
    subst g3
    refine iE20 ?_
    refine iE21 ?_
    refine iNe ?_
    refine iCndT (by decide) ?_
    exact fail (by unfold expC; rw [if_neg (by rw [hok]; decide), if_neg (fun e => e hc0), if_neg (by rw [hkn]; decide), if_pos hbig]) (by decide) x4'
  · obtain ⟨u, vs, rfl, ho, hf⟩ := g4 (decide_eq_false hbig)
    have hc : expC L t = 0 := by unfold expC; rw [if_neg (by rw [hok]; decide), if_neg (fun e => e hc0), if_neg (by rw [hkn]; decide), if_neg hbig]
    refine iE20 ?_
    refine iE21 ?_
    refine iNe ?_
    refine iCndF (by decide) ?_
    obtain ⟨v, hv1, hv2⟩ := hf.2 0 (by simp)
    have hvl : vs.length = 1 := hf.1
    refine iIa (j := 0) ho.sl (by decide) (by omega) fun p hp => ?_
    have hp : w4.cell? p = some v := hp.trans hv1
    refine iLd hp ?_
    exact ⟨x4', v, by rw [hc], NdW.some hc (hv2.mono x3.size)⟩
theorem ok_spec_ExpandExpression {v0 : Value} {L : List Itm} (t : Str) {w : World} (hs : SlIt w v0 L) (hsh : ShortI L) : Cal Tryz.prog f_spec_ExpandExpression #[v0, sv t] w fun r w' => Ext w w' ∧ ∃ u, r = .tuple #[u, .int .i64 (expC L t)] ∧ NdW w.heap.size w' u (expC L t) (xpF L t) := by
  apply c_spec_ExpandExpression; unfold S_spec_ExpandExpression
  have fail : ∀ {c : Int} {w' : World}, expC L t = c → ¬ c = 0 → Ext w w' → Ext w w' ∧ ∃ u, Value.tuple #[.slice none 0 0, .int .i64 c] = .tuple #[u, .int .i64 (expC L t)] ∧ NdW w.heap.size w' u (expC L t) (xpF L t) := fun {c w'} e hc hx =>
    ⟨hx, _, by rw [e], NdW.none _ _ _ (by rw [e]; exact hc)⟩
  refine iRet (v := .int .i64 (if itemsOk L = false then 1 else if 300 < t.length then 3 else 0)) ?_ fun w1 x1 => ?_
  · apply c_spec_l36Code; unfold S_spec_l36Code
    refine iRet (ok_spec_l36Items hs hsh) fun w1 x1 => ?_
    refine iNot ?_
    cases hok : itemsOk L
    · exact iCndT rfl ⟨by first | trivial | rfl, x1⟩
    · refine iCndF rfl ?_
      rw [if_neg (by decide)]
      refine iLenT (iLt ?_)
      refine iCndP (fun h => ?_) (fun h => ?_)
      · rw [if_pos (by omega)]; exact ⟨by first | trivial | rfl, x1⟩
      · rw [if_neg (by omega)]; exact ⟨by first | trivial | rfl, x1⟩
  refine iNe ?_
  cases hok : itemsOk L
  · rw [if_pos rfl]
    exact iCndT (by decide) (fail (by unfold expC; rw [if_pos hok]) (by decide) x1)
  rw [if_neg (by decide)]
  by_cases hlen : 300 < t.length
  · rw [if_pos hlen]
    refine iCndT (by decide) (fail ?_ (by decide) x1)
    have : exprC t = 3 := by unfold exprC; rw [if_pos hlen]
    unfold expC
    rw [if_neg (by rw [hok]; decide), if_pos (by rw [this]; decide), this]
  rw [if_neg hlen]
  refine iCndF (by decide) ?_
  refine iRet (ok_spec_l36Form (by omega) w1) fun w2 x2 => ?_
  have x2 := x1.trans x2
  refine iNot ?_
  cases he : exprB t
  · refine iCndT rfl (fail ?_ (by decide) x2)
    have : exprC t = 6 := by unfold exprC; rw [if_neg hlen, he]; rfl
    unfold expC
    rw [if_neg (by rw [hok]; decide), if_pos (by rw [this]; decide), this]
  refine iCndF rfl ?_
  have hc0 : exprC t = 0 := by unfold exprC; rw [if_neg hlen, he]; rfl
  have hI := itemsOk_inc hok
  refine iCall (Cal.mono (R := fun r w' => Ext w w' ∧ ∃ u, r = .tuple #[u, .int .i64 (expC L t)] ∧ NdW w.heap.size w' u (expC L t) (xpF L t)) ?_ fun r w' ⟨x, u, e, h⟩ => by subst e; exact iE20 (iE21 ⟨x, u, rfl, h⟩))
  apply c_spec_l36Expand; unfold S_spec_l36Expand
  refine iCall ((ok_spec_l36Cut (by omega) w2).mono ?_)
  rintro r w3 ⟨x3, vp, vn, rfl, hp, hn⟩
  have x3' := x2.trans x3
  refine iE20 ?_
  refine iE21 ?_
  have hnl : (names (chop t)).length ≤ t.length := by rw [show (names (chop t)).length = (chop t).2.length from List.length_map _]; exact chop_len t
  refine iBs0 fun v19 w4 hw4 x4 ho4 => ?_
  refine iLp (fun s : Value × Nat => [s.1, .int .i64 (s.2 : Int)]) (fun s w' => s.2 ≤ (names (chop t)).length ∧ Ext w3 w' ∧ Ow w3.heap.size t_string w' s.1 (strs (((names (chop t)).take s.2).map (fmOf L))) ∧ ∀ j, j < s.2 → hasI L (gt (names (chop t)) j) = true) (fun s => (names (chop t)).length - s.2) (v19, 0) rfl ⟨Nat.zero_le _, x4, ho4, fun j hj => absurd hj (Nat.not_lt_zero j)⟩ ?_
  rintro ⟨u, k⟩ w5 Kn ⟨hk, x5, ho, hhas⟩ hKn
  have hk : k ≤ (names (chop t)).length := hk
  have ho : Ow w3.heap.size t_string w5 u (strs (((names (chop t)).take k).map (fmOf L))) := ho
  have hhas : ∀ j, j < k → hasI L (gt (names (chop t)) j) = true := hhas
  have X5 := x3'.trans x5
  intro _
  simp only [gx]
  refine iLenStr (hn.ext x5).sl ?_
  refine iLt ?_
  refine iCndP (fun h => ?_) (fun h => ?_)
  · refine iIaG (hn.ext x5).sl rfl (by omega) ?_
    refine iCall ((ok_spec_l35Place (n := gt (names (chop t)) k) (hs.ext X5)).mono ?_)
    rintro r w6 ⟨x6, i, y, rfl, hF⟩
    refine iE20 ?_
    refine iE21 ?_
    refine iNot ?_
    have hy := hF.2.2 hI
    cases hh : hasI L (gt (names (chop t)) k)
    · rw [hy, hh]
      refine iCndT rfl (fail ?_ (by decide) (X5.trans x6))
      have hkn : knownT L t = false := by
        rw [Bool.eq_false_iff]
        intro e
        have := List.all_eq_true.1 e _ (List.getElem_mem (show k < (names (chop t)).length by omega))
        rw [← gt_eq, hh] at this
        cases this
      unfold expC
      rw [if_neg (by rw [hok]; decide), if_neg (fun e => e hc0), if_pos hkn]
    · obtain ⟨hi, hnm⟩ := hF.2.1 (hy.trans hh)
      rw [hy, hh]
      refine iCndF rfl ?_
      refine iFm (hs.ext (X5.trans x6)) rfl hi ?_
      have ho6 := ho.ext x6
      have hll : (strs (((names (chop t)).take k).map (fmOf L))).length ≤ 300 := by rw [strs_len, List.length_map, List.length_take]; omega
      refine iApp1 u_Sstring i_Sstring rfl ho6 rfl (by omega) (by omega) (by have := (x5.trans x6).size; omega) fun u' w8 ho8 hg8 => ?_
      refine iAdd (by omega) ?_
      refine hKn (u', k + 1) _ ⟨by show k + 1 ≤ _; omega, (x5.trans x6).grown hg8 fun b hb => (ho6.blk b hb).1, ?_, fun j hj => ?_⟩ (by show (names (chop t)).length - (k + 1) < (names (chop t)).length - k; omega)
      · show Ow _ _ _ _ (strs (((names (chop t)).take (k + 1)).map (fmOf L)))
        rw [List.take_succ_eq_append_getElem (by omega), List.map_append, ← gt_eq (by omega), List.map_singleton, fmOf_at hI hi hnm, ← strs_snoc]
        exact ho8
      · have hj : j < k + 1 := hj
        by_cases hjk : j = k
        · subst hjk; exact hh
        · exact hhas j (by omega)
  · have hkk : k = (names (chop t)).length := by omega
    subst hkk
    rw [List.take_length] at ho
    have hkn : knownT L t = true := by
      unfold knownT
      rw [List.all_eq_true]
      intro n hm
      obtain ⟨j, hj, rfl⟩ := List.getElem_of_mem hm
      rw [← gt_eq hj]
      exact hhas j hj
    have hfl := fllT_len hok hkn
    have e1 : strs (pieces (chop t)) = strs ((chop t).1 :: ((chop t).2.map fun x => (fmOf L x.1, x.2)).map Prod.snd) := by
      rw [List.map_map]; rfl
    have e2 : strs ((names (chop t)).map (fmOf L)) = strs (((chop t).2.map fun x => (fmOf L x.1, x.2)).map Prod.fst) := by
      rw [names, List.map_map, List.map_map]; rfl
    have e3 : fillT (chop t).1 ((chop t).2.map fun x => (fmOf L x.1, x.2)) = fllT L t := fillT_fill (fmOf L) (chop t)
    refine iRet (ok_spec_l36Fill (p0 := (chop t).1) (q := (chop t).2.map fun x => (fmOf L x.1, x.2)) (by show Sl _ _ (strs _); rw [← e1]; exact (hp.ext x5).sl) (by show Sl _ _ (strs _); rw [← e2]; exact ho.sl) (by rw [e3]; omega)) fun w8 x8 => ?_
    rw [e3]
    refine iCall ((ok_spec_l02Read (by omega) w8).mono ?_)
    rintro r w9 ⟨x9, v, rfl, hv, -⟩
    have hv := hv (fllT_ok hok he hkn)
    have X9 := (X5.trans x8).trans x9
    refine iE20 ?_
    refine iE21 ?_
    refine iCall (Cal.mono (R := fun r w' => w' = w9 ∧ r = if 40 < (xpF L t).size then .tuple #[.slice none 0 0, .int .i64 3] else .tuple #[v, .int .i64 0]) ?_ ?_)
    · show Cal Tryz.prog f_spec_l02Made #[v] w9 _
      apply c_spec_l02Made; unfold S_spec_l02Made
      refine iLenK hv.sl (iLt ?_)
      refine iCndP (fun h => ?_) (fun h => ?_)
      · exact ⟨rfl, by rw [if_pos (show 40 < (xpF L t).size by unfold xpF; omega)]⟩
      · exact ⟨rfl, by rw [if_neg (show ¬ 40 < (xpF L t).size by unfold xpF; omega)]⟩
    · rintro r w10 ⟨rfl, rfl⟩
      by_cases hbig : 40 < (xpF L t).size
      · rw [if_pos hbig]
        refine iE20 ?_
        refine iE21 ?_
        exact fail (by unfold expC; rw [if_neg (by rw [hok]; decide), if_neg (fun e => e hc0), if_neg (by rw [hkn]; decide), if_pos hbig]) (by decide) X9
      · rw [if_neg hbig]
        refine iE20 ?_
        refine iE21 ?_
        have hc : expC L t = 0 := by unfold expC; rw [if_neg (by rw [hok]; decide), if_neg (fun e => e hc0), if_neg (by rw [hkn]; decide), if_neg hbig]
        exact ⟨X9, v, by rw [hc], NdW.some hc (hv.mono (X5.trans x8).size)⟩
end Go.Proofs.YtnbelddmhlknkaaGreat

/- The law on ExpandExpression: what its body answers. Conditions: none. -/
namespace Go.Vc
/-- Cells that are numbers, two for each node. -/
def NodesOk (n : Nat) (xs : List Value) : Prop := ∀ i, i < n → ∃ a b : Int, xs[i * 2]? = some (.int .i64 a) ∧ xs[i * 2 + 1]? = some (.int .i64 b)
end Go.Vc
namespace Go.Proofs.YtnbelddmhlknkaaGreat
open Go.Vc
theorem resN_ok (c : Int) (f : Fm) : NodesOk (resN c f).1 (resN c f).2 := by
  unfold resN
  split
  · exact fun i hi => nodeCells hi
  · exact fun i hi => absurd hi (Nat.not_lt_zero i)
theorem ok_laws_eqNode (a b : Int) (w : World) : Ret Tryz.prog f_laws_eqNode #[.agg #[.int .i64 a, .int .i64 b], .agg #[.int .i64 a, .int .i64 b]] w (.bool true) := by
  apply c_laws_eqNode; unfold S_laws_eqNode
  refine iNew fun q1 w1 hq1 h1 hB1 => ?_
  refine iNew fun q2 w2 hq2 h2 hB2 => ?_
  have hB1 : Blk 60 w2 q1 [.int .i64 a, .int .i64 b] := by simpa [Value.cells] using hB1.ext h2
  have hB2 : Blk 60 w2 q2 [.int .i64 a, .int .i64 b] := by simpa [Value.cells] using hB2
  refine iFa ?_
  refine iLdB hB1 rfl ?_
  refine iFa ?_
  refine iLdB hB2 rfl ?_
  refine iNe ?_
  refine iCndP (fun h => absurd rfl h) (fun _ => ?_)
  refine iFa ?_
  refine iLdB hB1 rfl ?_
  refine iFa ?_
  refine iLdB hB2 rfl ?_
  refine iNe ?_
  refine iCndP (fun h => absurd rfl h) (fun _ => ?_)
  exact ⟨by first | trivial | rfl, h1.trans h2⟩
theorem ok_laws_eqNodeS {v0 v1 : Value} {n : Nat} {xs : List Value} {w : World} (h0 : SlK 2 w v0 n xs) (h1 : SlK 2 w v1 n xs) (hx : NodesOk n xs) (hn : n ≤ 1000000000) : Ret Tryz.prog f_laws_eqNodeS #[v0, v1] w (.bool true) := by
  apply c_laws_eqNodeS; unfold S_laws_eqNodeS
  refine iLenK h0 ?_
  refine iLenK h1 ?_
  refine iNe ?_
  refine iCndP (fun h => absurd rfl h) (fun _ => ?_)
  refine iLp (fun i : Nat => [.int .i64 (i : Int)]) (fun i w' => i ≤ n ∧ Ext w w') (fun i => n - i) 0 rfl ⟨Nat.zero_le _, Ext.refl _⟩ ?_
  rintro i w2 Kn ⟨hi, h2⟩ hKn
  intro _
  simp only [gx]
  refine iLenK (h0.ext h2) ?_
  refine iLt ?_
  refine iCndP (fun h3 => ?_) (fun h3 => ?_)
  · obtain ⟨a, b, ha, hb⟩ := hx i (by omega)
    have hc : ∀ j, j < 2 → xs[i * 2 + j]? = (#[Value.int .i64 a, Value.int .i64 b] : Array Value)[j]? := fun j hj => by rcases j with _ | _ | j; exact ha; exact hb; omega
    refine iLdK (cs := #[.int .i64 a, .int .i64 b]) (h0.ext h2) rfl (by omega) rfl hc ?_
    refine iLdK (cs := #[.int .i64 a, .int .i64 b]) (h1.ext h2) rfl (by omega) rfl hc ?_
    refine iRetQ (fun w' _ => ok_laws_eqNode a b w') ?_
    refine iNot ?_
    intro w3 h23
    refine iCndF rfl ?_
    refine iAdd (by omega) ?_
    exact hKn (i + 1) _ ⟨by omega, h2.trans h23⟩ (by omega)
  · exact ⟨by first | trivial | rfl, h2⟩
theorem ok_laws_markNodeS {lo : Nat} {e : TypeId} {v : Value} {n : Nat} {xs : List Value} {w : World} (hs : OwK 2 lo e w v n xs) {k : Nat} (hk : k + 2 * n ≤ 1152921504606846976) :
    Cal Tryz.prog f_laws_markNodeS #[v, .int .i64 (k : Int)] w fun r w' => r = .int .i64 ((k + 2 * n : Nat) : Int) ∧ OwK 2 lo e w' v n (marksN k n) ∧ Ch (fun c => v.ownBlock = some c) w w' := by
  apply c_laws_markNodeS; unfold S_laws_markNodeS
  refine iLp (fun i : Nat => [.int .i64 ((k + 2 * i : Nat) : Int), .int .i64 (i : Int)]) (fun i w' => i ≤ n ∧ ∃ ys, OwK 2 lo e w' v n ys ∧ Ch (fun c => v.ownBlock = some c) w w' ∧ ∀ j, j < 2 * i → ys[j]? = some (.int .i64 ((k + j : Nat) : Int))) (fun i => n - i) 0 rfl ⟨Nat.zero_le _, xs, hs, (Ext.refl w).ch, fun j hj => by omega⟩ ?_
  rintro i w2 Kn ⟨hi, ys, ho, hc, he⟩ hKn
  intro _
  simp only [gx]
  have tr : ∀ {a b : World}, Ch (fun c => v.ownBlock = some c) w a → Ch (fun c => v.ownBlock = some c) a b → Ch (fun c => v.ownBlock = some c) w b := fun h k => h.trans k fun _ e => .inl e
  have hyl := ho.len
  refine iLenK ho.sl ?_
  refine iLt ?_
  refine iCndP (fun h3 => ?_) (fun h3 => ?_)
  · refine iStF2 (j := i) ho rfl (by omega) (by decide) rfl fun w3 ho3 hc3 => ?_
    refine iAdd (by omega) ?_
    refine iStF2 (j := i) ho3 rfl (by omega) (by decide) rfl fun w4 ho4 hc4 => ?_
    refine iAdd (by omega) ?_
    refine iAdd (by omega) ?_
    rw [show ((k + 2 * i : Nat) : Int) + 1 + 1 = ((k + 2 * (i + 1) : Nat) : Int) by omega]
    refine hKn (i + 1) _ ⟨by omega, _, ho4, tr (tr hc hc3) hc4, fun j hj => ?_⟩ (by omega)
    rw [List.getElem?_set, List.getElem?_set]
    by_cases h5 : i * 2 + 1 = j
    · rw [if_pos h5, if_pos (by rw [List.length_set]; omega)]
      congr 2
      omega
    · rw [if_neg h5]
      by_cases h6 : i * 2 + 0 = j
      · rw [if_pos h6, if_pos (by omega)]
        congr 2
        omega
      · rw [if_neg h6]; exact he j (by omega)
  · have hil : i = n := by omega
    subst hil
    refine ⟨rfl, ?_, hc⟩
    have : marksN k i = ys := List.ext_getElem? fun j => by
      by_cases hj : j < i * 2
      · rw [marksN_at hj, he j (by omega)]
      · rw [List.getElem?_eq_none (by rw [marksN_len]; omega), List.getElem?_eq_none (by omega)]
    rw [this]; exact ho
theorem ok_laws_heldNodeS {v : Value} {k n : Nat} {w : World} (hs : SlK 2 w v n (marksN k n)) (hk : k + 2 * n ≤ 1152921504606846976) : Ret Tryz.prog f_laws_heldNodeS #[v, .int .i64 (k : Int)] w (.int .i64 ((k + 2 * n : Nat) : Int)) := by
  apply c_laws_heldNodeS; unfold S_laws_heldNodeS
  refine iLp (fun i : Nat => [.int .i64 ((k + 2 * i : Nat) : Int), .int .i64 (i : Int)]) (fun i w' => i ≤ n ∧ Ext w w') (fun i => n - i) 0 rfl ⟨Nat.zero_le _, Ext.refl _⟩ ?_
  rintro i w2 Kn ⟨hi, h2⟩ hKn
  intro _
  simp only [gx]
  refine iLenK (hs.ext h2) ?_
  refine iLt ?_
  refine iCndP (fun h3 => ?_) (fun h3 => ?_)
  · refine iFld (j := i) (hs.ext h2) rfl (by omega) (by decide) (marksN_at (by omega)) ?_
    refine iNe ?_
    refine iCndP (fun h => by omega) (fun _ => ?_)
    refine iAdd (by omega) ?_
    refine iFld (j := i) (hs.ext h2) rfl (by omega) (by decide) (marksN_at (by omega)) ?_
    refine iNe ?_
    refine iCndP (fun h => by omega) (fun _ => ?_)
    refine iAdd (by omega) ?_
    refine iAdd (by omega) ?_
    rw [show ((k + 2 * i : Nat) : Int) + 1 + 1 = ((k + 2 * (i + 1) : Nat) : Int) by omega]
    exact hKn (i + 1) _ ⟨by omega, h2⟩ (by omega)
  · have : i = n := by omega
    subst this
    exact ⟨by first | trivial | rfl, h2⟩
theorem ok_laws_FnExactExpandExpression {v0 : Value} {L : List Itm} {w : World} (h0 : SlIt w v0 L) (hl0 : ∀ x ∈ L, x.nm.length ≤ 9223372036854775807 ∧ x.fm.length ≤ 9223372036854775807) (t : Str) : Ret Tryz.prog f_laws_FnExactExpandExpression #[v0, sv t] w (.bool true) := by
  apply c_laws_FnExactExpandExpression; unfold S_laws_FnExactExpandExpression
  refine iLenT ?_
  refine iLt ?_
  refine iCndP (fun _ => ⟨by first | trivial | rfl, Ext.refl _⟩) (fun _ => ?_)
  refine iCall ((ok_laws_szItemS h0 hl0 1048576 (by decide)).mono ?_)
  rintro r w1 ⟨x1, z, rfl, hz⟩
  refine iLt ?_
  refine iCndP (fun _ => ⟨by first | trivial | rfl, x1⟩) (fun hz0 => ?_)
  obtain ⟨hz1, hz2, hL, hsh⟩ := hz.resolve_left (by omega)
  have hsm : (resN (expC L t) (xpF L t)).1 ≤ 40 := by
    unfold resN
    split
    · rename_i hc
      unfold expC at hc
      split at hc
      · cases hc
      · split at hc
        · rename_i h; exact absurd hc h
        · split at hc
          · cases hc
          · split at hc
            · cases hc
            · omega
    · exact Nat.zero_le _
  have hno := resN_ok (expC L t) (xpF L t)
  refine iCall ((ok_laws_toItemS (h0.ext x1) hL).mono ?_)
  rintro a0 w2 ⟨x2, oa⟩
  have x2' := x1.trans x2
  refine iCall ((ok_spec_ExpandExpression t oa.sl hsh).mono ?_)
  rintro r w3 ⟨x3, u0, rfl, ou0⟩
  have x3' := x2'.trans x3
  refine iE20 ?_
  refine iE21 ?_
  have l0 : ∀ c, u0.ownBlock = some c → c < w3.heap.size := fun c hc => (ou0.blk c hc).2
  refine iCall ((ok_laws_toItemS (h0.ext x3') hL).mono ?_)
  rintro a1 w4 ⟨x4, oa1⟩
  have la1 : ∀ c, a1.ownBlock = some c → w3.heap.size ≤ c ∧ c < w4.heap.size := fun c hc => ⟨(oa1.blk c hc).1, (oa1.blk c hc).2⟩
  refine iCall ((ok_impl_ExpandExpression t oa1 hsh).mono ?_)
  rintro r w5 ⟨x5, u1, rfl, ou1⟩
  have lu1 : ∀ c, u1.ownBlock = some c → w4.heap.size ≤ c ∧ c < w5.heap.size := fun c hc => ⟨(ou1.blk c hc).1, (ou1.blk c hc).2⟩
  have x35 := x4.trans x5
  have X5 := x3'.trans x35
  have s3 := x3'.size
  have s4 := x4.size
  have ou0 := ou0.ext x35
  have oa1 := oa1.ext x5
  refine iE20 ?_
  refine iE21 ?_
  refine iJnB false w5 (fun J hJ => ?_) (fun w7 h7 => ?_)
  · refine iRet (ok_laws_eqNodeS ou1.sl ou0.sl hno (by omega)) fun w9 h9 => ?_
    refine iNot (iCndF rfl (iNe ?_))
    rw [decide_eq_false (fun h => h rfl)]
    exact hJ _ h9
  intro _
  simp only [gx]
  refine iCndF rfl ?_
  have X7 := X5.trans h7
  refine iCall ((ok_laws_toItemS (h0.ext X7) hL).mono ?_)
  rintro a2 w9 ⟨x9, oa2⟩
  refine iRet (ok_laws_eqItemS (oa1.ext (h7.trans x9)).sl oa2.sl) fun w10 x10 => ?_
  rw [decide_eq_true rfl]
  refine iNot (iCndF rfl ?_)
  have x10' := (h7.trans x9).trans x10
  refine iCall ((ok_laws_markItemS (oa1.ext x10') (k := 1) (by omega)).mono ?_)
  rintro r w11 ⟨rfl, -, c11⟩
  have X11 : Ext w w11 := (X5.trans x10').thenCh c11 fun c hc => by have := (la1 c hc).1; omega
  have ou1 := (ou1.ext x10').ch c11 fun c hc hc' => by have := la1 c hc'; have := lu1 c hc; omega
  have ou0 := (ou0.ext x10').ch c11 fun c hc hc' => by have := la1 c hc'; have := l0 c hc; omega
  refine iJnB false w11 (fun J hJ => ?_) (fun w13 h13 => ?_)
  · refine iLt ?_
    refine iCndP (fun h => by omega) (fun _ => ?_)
    refine iRet (ok_laws_eqNodeS ou1.sl ou0.sl hno (by omega)) fun w14 h14 => ?_
    refine iNot (iCndF rfl (iNe ?_))
    rw [decide_eq_false (fun h => h rfl)]
    exact hJ _ h14
  intro _
  simp only [gx]
  refine iCndF rfl ?_
  refine iCall ((ok_laws_markNodeS (OwK.ext ou1 h13) (k := 1) (by omega)).mono ?_)
  rintro r w15 ⟨rfl, ou1, c15⟩
  have X15 : Ext w w15 := (X11.trans h13).thenCh c15 fun c hc => by have := (lu1 c hc).1; omega
  have ou0 := (OwK.ext ou0 h13).ch c15 fun c hc hc' => by have := lu1 c hc'; have := l0 c hc; omega
  refine iRet (ok_laws_heldNodeS (k := 1) ou1.sl (by omega)) fun w16 h16 => ?_
  refine iLt ?_
  refine iCndP (fun h => by omega) (fun _ => ?_)
  refine iNe ?_
  refine iCndP (fun h => absurd rfl h) (fun _ => ?_)
  have X16 := X15.trans h16
  refine iCall ((ok_laws_toItemS (h0.ext X16) hL).mono ?_)
  rintro a3 w17 ⟨x17, oa3⟩
  refine iCall ((ok_impl_ExpandExpression t oa3 hsh).mono ?_)
  rintro r w18 ⟨x18, u2, rfl, ou2⟩
  have x18' := (h16.trans x17).trans x18
  refine iE20 ?_
  refine iE21 ?_
  refine iJnB false w18 (fun J hJ => ?_) (fun w20 h20 => ?_)
  · refine iRet (ok_laws_eqNodeS ou2.sl (OwK.ext ou0 x18').sl hno (by omega)) fun w21 h21 => ?_
    refine iNot (iCndF rfl (iNe ?_))
    rw [decide_eq_false (fun h => h rfl)]
    exact hJ _ h21
  intro _
  simp only [gx]
  refine iCndF rfl ?_
  refine iRet (ok_laws_heldNodeS (k := 1) (OwK.ext ou1 (x18'.trans h20)).sl (by omega)) fun w22 h22 => ?_
  refine iLt ?_
  refine iCndP (fun h => by omega) (fun _ => ?_)
  refine iNe ?_
  refine iCndP (fun h => absurd rfl h) (fun _ => ?_)
  exact ⟨by first | trivial | rfl, ((X15.trans x18').trans h20).trans h22⟩
end Go.Proofs.YtnbelddmhlknkaaGreat
