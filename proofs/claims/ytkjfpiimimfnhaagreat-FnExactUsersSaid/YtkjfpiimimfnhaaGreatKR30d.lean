/- The proof of FnExactUsers, part 4 of 5. Conditions: none. -/
import Derived.Test.YtkjfpiimimfnhaaGreatKR30c
/- Contracts: items asked and searched, rows of texts asked, in the program and the reference. Conditions: none. -/
namespace Go.Vc
theorem cellsI_set0 : ∀ {L : List Itm} {j : Nat} (s : Str), j < L.length → (cellsI L).set (j * 3 + 0) (sv s) = cellsI (L.set j { gt L j with nm := s })
  | [], _, _, h => by simp at h
  | x :: L, 0, s, _ => rfl
  | x :: L, j + 1, s, h => by
    have := cellsI_set0 (L := L) (j := j) s (by simpa using h)
    rw [show cellsI (x :: L) = x.cs ++ cellsI L by simp [cellsI], List.set_append_right _ _ (by simp [Itm.cs]; omega), show (j + 1) * 3 + 0 - x.cs.length = j * 3 + 0 by simp [Itm.cs]; omega, this]
    rfl
theorem cellsI_set1 : ∀ {L : List Itm} {j : Nat} (s : Str), j < L.length → (cellsI L).set (j * 3 + 1) (sv s) = cellsI (L.set j { gt L j with fm := s })
  | [], _, _, h => by simp at h
  | x :: L, 0, s, _ => rfl
  | x :: L, j + 1, s, h => by
    have := cellsI_set1 (L := L) (j := j) s (by simpa using h)
    rw [show cellsI (x :: L) = x.cs ++ cellsI L by simp [cellsI], List.set_append_right _ _ (by simp [Itm.cs]; omega), show (j + 1) * 3 + 1 - x.cs.length = j * 3 + 1 by simp [Itm.cs]; omega, this]
    rfl
theorem cellsI_set2 : ∀ {L : List Itm} {j : Nat} (z : Int), j < L.length → (cellsI L).set (j * 3 + 2) (.int .i64 z) = cellsI (L.set j { gt L j with cl := z })
  | [], _, _, h => by simp at h
  | x :: L, 0, z, _ => rfl
  | x :: L, j + 1, z, h => by
    have := cellsI_set2 (L := L) (j := j) z (by simpa using h)
    rw [show cellsI (x :: L) = x.cs ++ cellsI L by simp [cellsI], List.set_append_right _ _ (by simp [Itm.cs]; omega), show (j + 1) * 3 + 2 - x.cs.length = j * 3 + 2 by simp [Itm.cs]; omega, this]
    rfl
theorem iStF {lo : Nat} {e : TypeId} {w : World} {v x : Value} {n : Nat} {xs : List Value} {z : Int} {j f : Nat} {k : IntKind} {K : World → Prop} (hs : OwK 3 lo e w v n xs) (hz : z = (j : Int)) (hj : j < n) (hf : f < 3) (hx : isCell x = true)
    (h : ∀ w', OwK 3 lo e w' v n (xs.set (j * 3 + f) x) → Ch (fun c => v.ownBlock = some c) w w' → K w') : xIa 3 v (.int k z) fun p => xFa f p fun q => xSt w q x K := by
  subst hz
  obtain ⟨hl, ⟨-, h0⟩ | ⟨g, cap, cur, hv, hg, hh, h1, h2, h3, h4⟩⟩ := hs
  · omega
  · subst hv
    have hs : w.ownsRow lo e 3 (.slice (some ⟨g, 0, none⟩) n cap) n xs := ⟨hl, .inr ⟨g, cap, cur, rfl, hg, hh, h1, h2, h3, h4⟩⟩
    refine ⟨_, _, _, _, _, rfl, rfl, by omega, by omega, ?_⟩
    rw [Int.toNat_natCast, addr_add]
    refine ⟨_, rfl, ?_⟩
    rw [addr_add, Nat.zero_add]
    have hjf : j * 3 + f < xs.length := by omega
    refine iSt ((hs.cellAt (j * 3 + f) (by omega)).trans (List.getElem?_eq_getElem hjf)) (hs.frozenAt _) hx ?_
    exact h _ (hs.stored (j * 3 + f) x).1 ((Upd.setCell w g _ x).ch rfl)
def mkI (k : Nat) : Itm := ⟨markT (k : Int), markT ((k + 1 : Nat) : Int), ((k + 2 : Nat) : Int)⟩
def marksI (k : Nat) : Nat → List Itm
  | 0 => []
  | n + 1 => mkI k :: marksI (k + 3) n
theorem marksI_len : ∀ (n k : Nat), (marksI k n).length = n
  | 0, _ => rfl
  | n + 1, k => by rw [marksI, List.length_cons, marksI_len]
theorem gt_marksI : ∀ {n k i : Nat}, i < n → gt (marksI k n) i = mkI (k + 3 * i)
  | 0, _, _, h => by omega
  | n + 1, k, 0, _ => rfl
  | n + 1, k, i + 1, h => by
    have := gt_marksI (n := n) (k := k + 3) (i := i) (by omega)
    rw [show k + 3 * (i + 1) = k + 3 + 3 * i by omega, ← this]
    rfl
theorem le_not_lt (a b : Str) : (ltS a b || a == b) = !ltS b a := by
  rcases ltS_total a b with h | h | h
  · rw [h, ltS_asymm h]; rfl
  · subst h; rw [ltS_irrefl]; simp
  · rw [h, ltS_asymm h]
    have : ¬ a = b := fun e => by subst e; rw [ltS_irrefl] at h; cases h
    simp [this]
/-- In order by their names. -/
def IncI (L : List Itm) : Prop := ∀ i j, i < j → j < L.length → ltS (gt L i).nm (gt L j).nm = true
def hasI (L : List Itm) (n : Str) : Bool := L.any fun x => decide (x.nm = n)
theorem hasI_at {L : List Itm} {n : Str} {i : Nat} (hi : i < L.length) (h : (gt L i).nm = n) : hasI L n = true := by
  unfold hasI
  rw [List.any_eq_true]
  exact ⟨L[i], List.getElem_mem _, by rw [← gt_eq hi]; exact decide_eq_true h⟩
theorem hasI_no {L : List Itm} {n : Str} (h : ∀ i, i < L.length → ¬ (gt L i).nm = n) : hasI L n = false := by
  unfold hasI
  rw [List.any_eq_false]
  intro x hx
  obtain ⟨i, hi, rfl⟩ := List.getElem_of_mem hx
  rw [← gt_eq hi]
  simpa using h i hi
theorem cmp_iff : ∀ a b : Str, (Lib.compareBytes a b < 0 ↔ ltS a b = true) ∧ (Lib.compareBytes a b = 0 ↔ a = b) ∧ (-1 ≤ Lib.compareBytes a b ∧ Lib.compareBytes a b ≤ 1)
  | [], [] => by simp [Lib.compareBytes, ltS, Op.bytesLess]
  | [], _ :: _ => by simp [Lib.compareBytes, ltS, Op.bytesLess]
  | _ :: _, [] => by simp [Lib.compareBytes, ltS, Op.bytesLess]
  | x :: a, y :: b => by
    have ih := cmp_iff a b
    simp only [Lib.compareBytes, ltS, Op.bytesLess, Bool.or_eq_true, decide_eq_true_eq, Bool.and_eq_true, beq_iff_eq, List.cons.injEq] at ih ⊢
    by_cases h1 : x < y
    · rw [if_pos h1]
      refine ⟨by simp [h1], ?_, by decide⟩
      have : ¬ x = y := fun e => by subst e; exact absurd h1 (UInt8.lt_irrefl _)
      simp [this]
    · rw [if_neg h1]
      by_cases h2 : y < x
      · rw [if_pos h2]
        have : ¬ x = y := fun e => by subst e; exact absurd h2 (UInt8.lt_irrefl _)
        simp [h1, this]
      · rw [if_neg h2]
        have : x = y := by
          rcases Classical.em (x = y) with e | e
          · exact e
          · rcases UInt8.lt_or_lt_of_ne e with h | h
            · exact absurd h h1
            · exact absurd h h2
        subst this
        simp only [h1, false_or, true_and]
        exact ih
end Go.Vc
namespace Go.Proofs.YtkjfpiimimfnhaaGreat
open Go.Vc
theorem ok_laws_markItemS {lo : Nat} {e : TypeId} {v : Value} {L : List Itm} {w : World} (hs : OwK 3 lo e w v L.length (cellsI L)) {k : Nat} (hk : k + 3 * L.length ≤ 1152921504606846976) :
    Cal Tryz.prog f_laws_markItemS #[v, .int .i64 (k : Int)] w fun r w' => r = .int .i64 ((k + 3 * L.length : Nat) : Int) ∧ OwK 3 lo e w' v L.length (cellsI (marksI k L.length)) ∧ Ch (fun c => v.ownBlock = some c) w w' := by
  apply c_laws_markItemS; unfold S_laws_markItemS
  refine iLp (fun i : Nat => [.int .i64 ((k + 3 * i : Nat) : Int), .int .i64 (i : Int)]) (fun i w' => i ≤ L.length ∧ ∃ M, OwK 3 lo e w' v L.length (cellsI M) ∧ Ch (fun c => v.ownBlock = some c) w w' ∧ M.length = L.length ∧ ∀ j, j < i → gt M j = mkI (k + 3 * j)) (fun i => L.length - i) 0 rfl ⟨Nat.zero_le _, L, hs, (Ext.refl w).ch, rfl, fun j hj => by omega⟩ ?_
  rintro i w2 Kn ⟨hi, M, ho, hc, hM, he⟩ hKn
  intro _
  simp only [gx]
  have tr : ∀ {a b : World}, Ch (fun c => v.ownBlock = some c) w a → Ch (fun c => v.ownBlock = some c) a b → Ch (fun c => v.ownBlock = some c) w b := fun h k => h.trans k fun _ e => .inl e
  refine iLenK ho.sl ?_
  refine iLt ?_
  refine iCndP (fun h3 => ?_) (fun h3 => ?_)
  · refine iRet (ok_laws_markText _ (by omega) w2) fun w3 h23 => ?_
    refine iStF (j := i) (ho.ext h23) rfl (by omega) (by decide) rfl fun w4 ho4 hc4 => ?_
    rw [cellsI_set0 _ (by omega)] at ho4
    refine iAdd (by omega) ?_
    refine iRet (ok_laws_markText _ (by omega) w4) fun w5 h45 => ?_
    refine iStF (j := i) (ho4.ext h45) rfl (by omega) (by decide) rfl fun w6 ho6 hc6 => ?_
    rw [cellsI_set1 _ (by rw [List.length_set]; omega)] at ho6
    refine iAdd (by omega) ?_
    refine iStF (j := i) ho6 rfl (by omega) (by decide) rfl fun w7 ho7 hc7 => ?_
    rw [cellsI_set2 _ (by rw [List.length_set, List.length_set]; omega)] at ho7
    refine iAdd (by omega) ?_
    refine iAdd (by omega) ?_
    rw [show ((k + 3 * i : Nat) : Int) + 1 + 1 + 1 = ((k + 3 * (i + 1) : Nat) : Int) by omega]
    refine hKn (i + 1) _ ⟨by omega, _, ho7, tr (tr (tr (tr (tr hc (h23.ch)) hc4) h45.ch) hc6) hc7, by rw [List.length_set, List.length_set, List.length_set]; exact hM, fun j hj => ?_⟩ (by omega)
    by_cases hji : j = i
    · subst hji
      rw [gt_set _ (by rw [List.length_set, List.length_set]; omega), if_pos rfl, gt_set _ (by rw [List.length_set]; omega), if_pos rfl, gt_set _ (by omega), if_pos rfl]
      simp only [mkI, Itm.mk.injEq, true_and]
      refine ⟨by congr 1 <;> omega, by omega⟩
    · rw [gt_set _ (by rw [List.length_set, List.length_set]; omega), if_neg hji, gt_set _ (by rw [List.length_set]; omega), if_neg hji, gt_set _ (by omega), if_neg hji]
      exact he j (by omega)
  · have hil : i = L.length := by omega
    subst hil
    refine ⟨rfl, ?_, hc⟩
    have : marksI k L.length = M := List.ext_getElem (by rw [marksI_len, hM]) fun j g1 g2 => by
      rw [← gt_eq g1, ← gt_eq g2, gt_marksI (by omega), he j (by omega)]
    rw [this]; exact ho
theorem ok_laws_toStringS {v : Value} {L : List Str} {w : World} (hs : SlT w v L) (hL : L.length ≤ 1048576) : Cal Tryz.prog f_laws_toStringS #[v] w fun r w' => Ext w w' ∧ Ow w.heap.size t_string w' r (strs L) := by
  apply c_laws_toStringS; unfold S_laws_toStringS
  refine iLenStr hs ?_
  refine iMk (n := L.length) (by omega) (by omega) rfl fun b w1 hb h1 hB => ?_
  refine iLp (fun j : Nat => [.int .i64 (j : Int)]) (fun j w' => j ≤ L.length ∧ Ext w w' ∧ ∃ M : List Str, M.length = L.length ∧ M.take j = L.take j ∧ Blk t_string w' b (strs M)) (fun j => L.length - j) 0 rfl ⟨Nat.zero_le _, h1, List.replicate L.length [], by simp, by simp, by simpa [strs] using hB⟩ ?_
  rintro j w3 Kn ⟨hj, h3, M, hM, hMt, hBj⟩ hKn
  intro _
  simp only [gx]
  refine iLenStr (hs.ext h3) ?_
  refine iLt ?_
  refine iCndP (fun h => ?_) (fun h => ?_)
  · refine iIaT (hs.ext h3) (by omega) fun p hp => ?_
    refine iLd hp ?_
    refine iIaL (j := j) (by omega) ?_
    rw [Nat.zero_add]
    refine iStU hBj (by rw [strs_len]; omega) rfl fun w4 hB4 u4 => ?_
    refine iAdd (by omega) ?_
    refine hKn (j + 1) _ ⟨by omega, h3.upd u4 (by omega), M.set j L[j], by rw [List.length_set]; exact hM, ?_, by simpa [strs, List.map_set] using hB4⟩ (by omega)
    rw [List.take_succ_eq_append_getElem (by rw [List.length_set]; omega), List.take_set_of_le (Nat.le_refl _), hMt, List.getElem_set_self, List.take_succ_eq_append_getElem (by omega)]
  · have : j = L.length := by omega
    subst this
    rw [List.take_of_length_le (by omega), List.take_length] at hMt
    subst hMt
    exact ⟨h3, Ow.ofBlk hBj (by omega) (strs_len M) (by omega)⟩
def ShortT (L : List Str) : Prop := ∀ x ∈ L, x.length ≤ 1048576
theorem ok_laws_szStringS {v : Value} {L : List Str} {w : World} (hs : SlT w v L) (hlen : ∀ x ∈ L, x.length ≤ 9223372036854775807) (left : Int) (h0 : 0 ≤ left ∧ left ≤ 1048576) : Cal Tryz.prog f_laws_szStringS #[v, .int .i64 left] w fun r w' => Ext w w' ∧ ∃ z : Int, r = .int .i64 z ∧ (z = -1 ∨ (0 ≤ z ∧ z ≤ left ∧ L.length ≤ 1048576 ∧ ShortT L)) := by
  apply c_laws_szStringS; unfold S_laws_szStringS
  have hln := hs.len
  rw [strs_len] at hln
  refine iLenStr hs ?_
  refine iSub (by omega) ?_
  refine iLt ?_
  refine iCndP (fun h => ?_) (fun h => ?_)
  · exact ⟨Ext.refl _, -1, rfl, .inl rfl⟩
  · refine iLp (fun s : Int × Nat => [.int .i64 s.1, .int .i64 (s.2 : Int)]) (fun s w' => s.2 ≤ L.length ∧ Ext w w' ∧ 0 ≤ s.1 ∧ s.1 ≤ left ∧ ∀ i, i < s.2 → (gt L i).length ≤ 1048576) (fun s => L.length - s.2) (left - L.length, 0) rfl ⟨Nat.zero_le _, Ext.refl _, by show 0 ≤ left - (L.length : Int); omega, by show left - (L.length : Int) ≤ left; omega, fun i hi => absurd hi (Nat.not_lt_zero i)⟩ ?_
    rintro ⟨z, j⟩ w2 Kn ⟨hj, h2, hz0, hz1, hsh⟩ hKn
    have hj : j ≤ L.length := hj
    have hz0 : 0 ≤ z := hz0
    have hz1 : z ≤ left := hz1
    intro _
    simp only [gx]
    refine iLenStr (hs.ext h2) ?_
    refine iLt ?_
    refine iCndP (fun h3 => ?_) (fun h3 => ?_)
    · refine iIaT (hs.ext h2) (show j < L.length by omega) fun p hp => ?_
      refine iLd hp ?_
      have hx := hlen L[j] (List.getElem_mem _)
      refine iLenT ?_
      refine iSub (by omega) ?_
      refine iLt ?_
      refine iCndP (fun h4 => ?_) (fun h4 => ?_)
      · exact ⟨h2, -1, rfl, .inl rfl⟩
      · refine iAdd (by omega) ?_
        refine hKn (z - L[j].length, j + 1) _ ⟨by show j + 1 ≤ L.length; omega, h2, by show 0 ≤ z - (L[j].length : Int); omega, by show z - (L[j].length : Int) ≤ left; omega, fun i hi => ?_⟩ (by show L.length - (j + 1) < L.length - j; omega)
        by_cases hij : i = j
        · subst hij; rw [gt_eq (show i < L.length by omega)]; omega
        · exact hsh i (by have hi : i < j + 1 := hi; omega)
    · refine ⟨h2, z, rfl, .inr ⟨hz0, hz1, by omega, fun x hx => ?_⟩⟩
      obtain ⟨i, hi, rfl⟩ := List.getElem_of_mem hx
      rw [← gt_eq hi]
      exact hsh i (by show i < j; omega)
theorem ok_impl_inRangeI (x a b : Int) (w : World) : Ret Tryz.prog f_impl_inRange #[.int .i64 x, .int .i64 a, .int .i64 b] w (.bool (decide (a ≤ x ∧ x ≤ b))) := by
  apply c_impl_inRange; unfold S_impl_inRange
  refine iJnB (decide (a ≤ x ∧ x ≤ b)) w (fun J hJ => ?_) (fun w2 h2 => fun _ => ⟨by first | trivial | rfl, h2⟩)
  refine iLe ?_
  refine iCndP (fun h => ?_) (fun h => ?_)
  · refine iLe ?_
    rw [show decide (a ≤ x ∧ x ≤ b) = decide (x ≤ b) from decide_eq_decide.2 ⟨fun e => e.2, fun e => ⟨h, e⟩⟩] at hJ
    exact hJ _ (Ext.refl _)
  · rw [decide_eq_false (fun e : a ≤ x ∧ x ≤ b => h e.1)] at hJ
    exact hJ _ (Ext.refl _)
theorem ok_impl_areItems {v : Value} {L : List Itm} {w : World} (hs : SlIt w v L) (hsh : ShortI L) : Ret Tryz.prog f_impl_areItems #[v] w (.bool (itemsOk L)) := by
  apply c_impl_areItems; unfold S_impl_areItems
  have hln := hs.len
  refine iLenK hs ?_
  refine iLp (fun i : Nat => [.int .i64 (i : Int)]) (fun i w' => i ≤ L.length ∧ Ext w w' ∧ ∀ j, j < i → stepOk L j = true) (fun i => L.length - i) 0 rfl ⟨Nat.zero_le _, Ext.refl _, fun j hj => by omega⟩ ?_
  rintro i w2 Kn ⟨hi, h2, hok⟩ hKn
  intro _
  simp only [gx]
  refine iLt ?_
  refine iCndP (fun h => ?_) (fun h => ?_)
  · refine iItm (hs.ext h2) rfl (by omega) ?_
    refine iNew3 fun q w3 hq h3 hB3 => ?_
    refine iSt3 hB3 rfl rfl rfl rfl fun w4 hB4 hc4 => ?_
    have h4 : Ext w w4 := (h2.trans h3).thenCh hc4 fun c hc => by have := h2.size; omega
    have hx := hsh (gt L i) (by rw [gt_eq (show i < L.length by omega)]; exact List.getElem_mem _)
    refine iJnB (!stepOk L i) w4 (fun J hJ => ?_) (fun w6 h6 => ?_)
    · unfold stepOk itOk at hJ
      refine iFa ?_
      refine iLdB hB4 rfl ?_
      refine iRetQ (fun w' _ => ok_impl_isName (by omega) w') ?_
      refine iNot ?_
      cases hn : nameOk (gt L i).nm
      · rw [hn] at hJ
        exact iCndT rfl fun w7 h7 => hJ _ h7
      rw [hn, Bool.true_and] at hJ
      refine iCndF rfl ?_
      refine iFa ?_
      refine iLdB hB4 rfl ?_
      refine iRetQ (fun w' _ => ok_impl_isText _ w') ?_
      refine iNot ?_
      cases hg : goodT (gt L i).fm
      · rw [hg] at hJ
        exact iCndT rfl fun w7 h7 => hJ _ h7
      rw [hg, Bool.true_and] at hJ
      refine iCndF rfl ?_
      refine iFa ?_
      refine iLdB hB4 rfl ?_
      refine iRetQ (fun w' _ => ok_impl_inRangeI _ _ _ w') ?_
      refine iNot ?_
      by_cases hr : 0 ≤ (gt L i).cl ∧ (gt L i).cl ≤ 1
      · rw [decide_eq_true hr, Bool.true_and] at hJ
        rw [decide_eq_true hr]
        refine iCndF rfl ?_
        refine iLt ?_
        refine iCndP (fun h5 => ?_) (fun h5 => ?_)
        · rw [decide_eq_false (show ¬ i = 0 by omega), Bool.false_or] at hJ
          refine iSub (by omega) ?_
          refine iNm (j := i - 1) (hs.ext h4) (by omega) (by omega) ?_
          refine iFa ?_
          refine iLdB hB4 rfl ?_
          refine iGeT ?_
          exact fun w10 h10 => hJ _ h10
        · rw [decide_eq_true (show i = 0 by omega), Bool.true_or] at hJ
          exact fun w11 h11 => hJ _ h11
      · rw [decide_eq_false hr] at hJ ⊢
        exact iCndT rfl fun w7 h7 => hJ _ h7
    · intro _
      simp only [gx]
      have h6' := h4.trans h6
      cases hst : stepOk L i
      · refine iCndT rfl ?_
        have : itemsOk L = false := by
          rw [Bool.eq_false_iff]
          intro e
          have := (itemsOk_iff.1 e).2 i (by omega)
          rw [hst] at this; cases this
        rw [this]
        exact ⟨by first | trivial | rfl, h6'⟩
      · refine iCndF rfl ?_
        refine iAdd (by omega) ?_
        refine hKn (i + 1) _ ⟨by omega, h6', fun j hj => ?_⟩ (by omega)
        by_cases hji : j = i
        · subst hji; exact hst
        · exact hok j (by omega)
  · refine iLenK (hs.ext h2) ?_
    refine iLe ?_
    refine ⟨?_, h2⟩
    congr 1
    rw [Bool.eq_iff_iff, itemsOk_iff, decide_eq_true_eq]
    exact ⟨fun e => ⟨by omega, fun j hj => hok j (by omega)⟩, fun e => by omega⟩
theorem ok_spec_l36Items {v : Value} {L : List Itm} {w : World} (hs : SlIt w v L) (hsh : ShortI L) : Ret Tryz.prog f_spec_l36Items #[v] w (.bool (itemsOk L)) := by
  apply c_spec_l36Items; unfold S_spec_l36Items
  have hln := hs.len
  refine iLenK hs ?_
  refine iLt ?_
  refine iCndP (fun h => ?_) (fun h => ?_)
  · have : itemsOk L = false := by
      rw [Bool.eq_false_iff]
      intro e
      have := (itemsOk_iff.1 e).1
      omega
    rw [this]
    exact ⟨by first | trivial | rfl, Ext.refl _⟩
  refine iLp (fun i : Nat => [.int .i64 (i : Int)]) (fun i w' => i ≤ L.length ∧ Ext w w' ∧ ∀ j, j < i → stepOk L j = true) (fun i => L.length - i) 0 rfl ⟨Nat.zero_le _, Ext.refl _, fun j hj => by omega⟩ ?_
  rintro i w2 Kn ⟨hi, h2, hok⟩ hKn
  intro _
  simp only [gx]
  refine iLenK (hs.ext h2) ?_
  refine iLt ?_
  refine iCndP (fun h3 => ?_) (fun h3 => ?_)
  · have hx := hsh (gt L i) (by rw [gt_eq (show i < L.length by omega)]; exact List.getElem_mem _)
    refine iFm (hs.ext h2) rfl (by omega) ?_
    refine iCall ((ok_spec_l02Good _ w2).mono ?_)
    rintro r w3 ⟨h23, u, rfl, -⟩
    have h3' := h2.trans h23
    refine iE20 ?_
    refine iE21 ?_
    have bad : stepOk L i = false → itemsOk L = false := fun hst => by
      rw [Bool.eq_false_iff]
      intro e
      have := (itemsOk_iff.1 e).2 i (by omega)
      rw [hst] at this; cases this
    refine iJnB (!itOk (gt L i)) w3 (fun J hJ => ?_) (fun w5 h5 => ?_)
    · unfold itOk at hJ
      refine iNot ?_
      cases hg : goodT (gt L i).fm
      · rw [hg, Bool.and_false, Bool.false_and] at hJ
        exact iCndT rfl (hJ _ (Ext.refl _))
      rw [hg, Bool.and_true] at hJ
      refine iCndF rfl ?_
      refine iNm (hs.ext h3') rfl (by omega) ?_
      refine iRet (ok_spec_l35Name (by omega) w3) fun w6 h36 => ?_
      refine iNot ?_
      cases hn : nameOk (gt L i).nm
      · rw [hn] at hJ
        exact iCndT rfl (hJ _ h36)
      rw [hn, Bool.true_and] at hJ
      refine iCndF rfl ?_
      have h6 := h3'.trans h36
      refine iCl (hs.ext h6) rfl (by omega) ?_
      refine iNe ?_
      refine iCndP (fun h7 => ?_) (fun h7 => ?_)
      · refine iCl (hs.ext h6) rfl (by omega) ?_
        refine iNe ?_
        rw [show (!decide (0 ≤ (gt L i).cl ∧ (gt L i).cl ≤ 1)) = decide (¬ (gt L i).cl = 1) by rw [← decide_not]; exact decide_eq_decide.2 (by omega)] at hJ
        exact hJ _ h36
      · rw [decide_eq_true (show 0 ≤ (gt L i).cl ∧ (gt L i).cl ≤ 1 by omega)] at hJ
        exact hJ _ h36
    · intro _
      simp only [gx]
      have h5' := h3'.trans h5
      cases hit : itOk (gt L i)
      · refine iCndT rfl ?_
        rw [bad (by unfold stepOk; rw [hit]; rfl)]
        exact ⟨by first | trivial | rfl, h5'⟩
      refine iCndF rfl ?_
      refine iJnB (!stepOk L i) w5 (fun J hJ => ?_) (fun w8 h8 => ?_)
      · unfold stepOk at hJ
        rw [hit, Bool.true_and] at hJ
        refine iLt ?_
        refine iCndP (fun h6 => ?_) (fun h6 => ?_)
        · rw [decide_eq_false (show ¬ i = 0 by omega), Bool.false_or] at hJ
          refine iNm (j := i) (hs.ext h5') rfl (by omega) ?_
          refine iSub (by omega) ?_
          refine iNm (j := i - 1) (hs.ext h5') (by omega) (by omega) ?_
          refine iLeT ?_
          rw [le_not_lt]
          exact fun w9 h9 => hJ _ h9
        · rw [decide_eq_true (show i = 0 by omega), Bool.true_or] at hJ
          exact fun w10 h10 => hJ _ h10
      · intro _
        simp only [gx]
        have h8' := h5'.trans h8
        cases hst : stepOk L i
        · refine iCndT rfl ?_
          rw [bad hst]
          exact ⟨by first | trivial | rfl, h8'⟩
        · refine iCndF rfl ?_
          refine iAdd (by omega) ?_
          refine hKn (i + 1) _ ⟨by omega, h8', fun j hj => ?_⟩ (by omega)
          by_cases hji : j = i
          · subst hji; exact hst
          · exact hok j (by omega)
  · have : itemsOk L = true := itemsOk_iff.2 ⟨by omega, fun j hj => hok j (by omega)⟩
    rw [this]
    exact ⟨by first | trivial | rfl, h2⟩
theorem ok_strings_Compare (a b : Str) (w : World) : Ret Tryz.prog f_strings_Compare #[sv a, sv b] w (.int .i64 (Lib.compareBytes a b)) := by
  apply c_strings_Compare; unfold S_strings_Compare
  refine iRet (v := .int .i64 (Lib.compareBytes a b)) ?_ fun w1 h1 => ⟨by first | trivial | rfl, h1⟩
  refine ⟨⟨_, Tryz.func107, by kernel_rfl, by kernel_rfl⟩, ?_⟩
  refine (Any.bytealg_CompareString lays213 ⟨a.toArray⟩ ⟨b.toArray⟩ w).mono ?_
  rintro e w' ⟨rfl, rfl⟩
  exact ⟨_, rfl, rfl, Ext.refl _⟩
theorem ok_impl_itemAt_1 (x : Itm) (n : Str) (w : World) : Ret Tryz.prog f_impl_itemAt_1 #[x.val, sv n] w (.int .i64 (Lib.compareBytes x.nm n)) := by
  apply c_impl_itemAt_1; unfold S_impl_itemAt_1
  refine iNew3 fun q w1 hq h1 hB => ?_
  refine iFa ?_
  refine iLdB hB rfl ?_
  exact iRet (ok_strings_Compare _ _ w1) fun w2 h2 => ⟨by first | trivial | rfl, h1.trans h2⟩
/-- What a search for a name answers: a place, and whether it is there. -/
def Found (L : List Itm) (n : Str) (i : Nat) (y : Bool) : Prop := i ≤ L.length ∧ (y = true → i < L.length ∧ (gt L i).nm = n) ∧ (IncI L → y = hasI L n)
theorem ok_BinarySearch {v : Value} {L : List Itm} {n : Str} {w : World} (hs : SlIt w v L) (hL : L.length ≤ 1099511627776) : Cal Tryz.prog f_slices_BinarySearchFunc_Simpl_Item_impl_Item_string #[v, sv n, .func (.func f_impl_itemAt_1) #[] #[]] w fun r w' => Ext w w' ∧ ∃ i : Nat, ∃ y : Bool, r = .tuple #[.int .i64 (i : Int), .bool y] ∧ Found L n i y := by
  apply c_slices_BinarySearchFunc_Simpl_Item_impl_Item_string; unfold S_slices_BinarySearchFunc_Simpl_Item_impl_Item_string
  refine iLenK hs ?_
  refine iLp (fun s : Nat × Nat => [.int .i64 (s.1 : Int), .int .i64 (s.2 : Int)]) (fun s w' => s.1 ≤ s.2 ∧ s.2 ≤ L.length ∧ Ext w w' ∧ (IncI L → (∀ k, k < s.1 → ltS (gt L k).nm n = true) ∧ ∀ k, s.2 ≤ k → k < L.length → ltS (gt L k).nm n = false)) (fun s => s.2 - s.1) (0, L.length) rfl ⟨Nat.zero_le _, Nat.le_refl _, Ext.refl _, fun _ => ⟨fun k hk => absurd hk (Nat.not_lt_zero k), fun k h1 h2 => absurd h2 (Nat.not_lt.2 h1)⟩⟩ ?_
  rintro ⟨lo, hi⟩ w2 Kn ⟨hlh, hhi, h2, hinv⟩ hKn
  have hlh : lo ≤ hi := hlh
  have hhi : hi ≤ L.length := hhi
  have hinv : IncI L → (∀ k, k < lo → ltS (gt L k).nm n = true) ∧ ∀ k, hi ≤ k → k < L.length → ltS (gt L k).nm n = false := hinv
  have hs2 := hs.ext h2
  intro _
  simp only [gx]
  refine iLt ?_
  refine iCndP (fun h => ?_) (fun h => ?_)
  · refine iAdd (by omega) ?_
    refine iConvU (by omega) ?_
    rw [show (lo : Int) + hi = ((lo + hi : Nat) : Int) by omega]
    refine iShrU (j := 1) (by omega) ?_
    refine iConv64 (by omega) ?_
    have hm1 : lo ≤ (lo + hi) / 2 ^ 1 := by omega
    have hm2 : (lo + hi) / 2 ^ 1 < hi := by omega
    generalize (lo + hi) / 2 ^ 1 = m at hm1 hm2
    refine iItm hs2 rfl (by omega) ?_
    refine iRet (ok_impl_itemAt_1 _ _ w2) fun w3 h23 => ?_
    refine iLt ?_
    have hc := cmp_iff (gt L m).nm n
    refine iCndP (fun h3 => ?_) (fun h3 => ?_)
    · refine iAdd (by omega) ?_
      refine hKn (m + 1, hi) _ ⟨by show m + 1 ≤ hi; omega, hhi, h2.trans h23, fun hI => ⟨fun k hk => ?_, (hinv hI).2⟩⟩ (by show hi - (m + 1) < hi - lo; omega)
      have hk : k < m + 1 := hk
      by_cases hkm : k = m
      · subst hkm; exact hc.1.1 h3
      · exact ltS_trans (hI k m (by omega) (by omega)) (hc.1.1 h3)
    · have hnl : ltS (gt L m).nm n = false := by
        rw [Bool.eq_false_iff]; intro e; exact h3 (hc.1.2 e)
      refine hKn (lo, m) _ ⟨hm1, by show m ≤ L.length; omega, h2.trans h23, fun hI => ⟨(hinv hI).1, fun k hk hkl => ?_⟩⟩ (by show m - lo < hi - lo; omega)
      have hk : m ≤ k := hk
      by_cases hkm : k = m
      · subst hkm; exact hnl
      · exact ordrS.tr hnl (ltS_asymm (hI m k (by omega) hkl))
  · have hle : lo = hi := by omega
    subst hle
    refine iJnX (fun xs w' => Ext w2 w' ∧ ∃ y : Bool, xs = [.int .i64 (lo : Int), .bool y] ∧ y = (decide (lo < L.length) && decide ((gt L lo).nm = n))) (fun J hJ => ?_) ?_
    · refine iLt ?_
      refine iCndP (fun h3 => ?_) (fun h3 => ?_)
      · refine iItm hs2 rfl (by omega) ?_
        refine iRet (ok_impl_itemAt_1 _ _ w2) fun w3 h23 => ?_
        refine iEq ?_
        refine hJ _ _ ⟨h23, _, rfl, ?_⟩
        rw [decide_eq_true (show lo < L.length by omega), Bool.true_and]
        exact decide_eq_decide.2 (cmp_iff (gt L lo).nm n).2.1
      · exact hJ _ _ ⟨Ext.refl _, false, rfl, by rw [decide_eq_false (show ¬ lo < L.length by omega), Bool.false_and]⟩
    · rintro xs w5 ⟨h5, y, rfl, hy⟩
      intro _
      refine ⟨h2.trans h5, lo, y, rfl, hhi, fun e => ?_, fun hI => ?_⟩
      · rw [e] at hy
        have := hy.symm
        rw [Bool.and_eq_true, decide_eq_true_eq, decide_eq_true_eq] at this
        exact this
      · obtain ⟨g1, g2⟩ := hinv hI
        rw [hy]
        rcases Nat.lt_or_ge lo L.length with h3 | h3
        · rw [decide_eq_true h3, Bool.true_and]
          by_cases h4 : (gt L lo).nm = n
          · rw [decide_eq_true h4, hasI_at h3 h4]
          · rw [decide_eq_false h4, hasI_no fun i hi e => ?_]
            rcases Nat.lt_trichotomy i lo with h5 | h5 | h5
            · have := g1 i h5; rw [e, ltS_irrefl] at this; cases this
            · subst h5; exact h4 e
            · have k1 := g2 lo (Nat.le_refl _) h3
              have k2 := hI lo i h5 hi
              rw [e] at k2; rw [k1] at k2; cases k2
        · rw [decide_eq_false (Nat.not_lt.2 h3), Bool.false_and, hasI_no fun i hi e => ?_]
          have := g1 i (by omega); rw [e, ltS_irrefl] at this; cases this
theorem ok_impl_itemAt {v : Value} {L : List Itm} {n : Str} {w : World} (hs : SlIt w v L) (hL : L.length ≤ 1099511627776) : Cal Tryz.prog f_impl_itemAt #[v, sv n] w fun r w' => Ext w w' ∧ ∃ i : Nat, ∃ y : Bool, r = .tuple #[.int .i64 (i : Int), .bool y] ∧ Found L n i y := by
  apply c_impl_itemAt; unfold S_impl_itemAt
  refine iCall ((ok_BinarySearch hs hL).mono ?_)
  rintro r w1 ⟨h1, i, y, rfl, hf⟩
  refine iE20 ?_
  refine iE21 ?_
  exact ⟨h1, i, y, rfl, hf⟩
end Go.Proofs.YtkjfpiimimfnhaaGreat

/- Contracts of the laws' own functions on lists of int64 and on frames. Conditions: none. -/
namespace Go.Proofs.YtkjfpiimimfnhaaGreat
open Go.Vc
def marks (k n : Nat) : List Int := (List.range n).map fun i => ((k + i : Nat) : Int)
def heldN (k : Nat) (l : List Int) : Int := if l = marks k l.length then ((k + l.length : Nat) : Int) else -1


theorem ok_laws_eqInt64S {v v' : Value} {w : World} {l l' : List Int} (hs : SlI w v l) (hs' : SlI w v' l') : Ret Tryz.prog f_laws_eqInt64S #[v, v'] w (.bool (decide (l = l'))) := by
  have hl := hs.len
  have hl' := hs'.len
  apply c_laws_eqInt64S; unfold S_laws_eqInt64S
  ((with_reducible refine iLenI (by assumption) ?_; refine iLenI (by assumption) ?_; refine iNe ?_))
  refine iCndP (fun h1 => ?_) (fun h1 => ?_)
  · exact ⟨by simp; intro e; exact h1 (by rw [e]), Ext.refl _⟩
  have hn : l.length = l'.length := by omega
  refine iLp (fun k : Nat => [.int .i64 (k : Int)]) (fun k w' => k ≤ l.length ∧ Ext w w' ∧ l.take k = l'.take k) (fun k => l.length - k) 0 rfl ⟨Nat.zero_le _, Ext.refl _, by simp⟩ ?_
  rintro k w2 Kn ⟨hk, h2, ht⟩ hKn
  have hs2 := hs.ext h2
  have hs2' := hs'.ext h2
  (intro _; (try simp only [gx]); (with_reducible refine iLenI (by assumption) ?_; refine iLt ?_))
  refine iCndP (fun h3 => ?_) (fun h3 => ?_)
  · ((with_reducible refine iIaN (by assumption) ?_ (fun pa_ hpa_ => ?_)); omega; (with_reducible refine iLd (by assumption) ?_); (with_reducible refine iIaN (by assumption) ?_ (fun pa_ hpa_ => ?_)); omega; (with_reducible refine iLd (by assumption) ?_; refine iNe ?_))
    intro w3 h23
    have hk1 : k < l.length := by omega
    have hk2 : k < l'.length := by omega
    refine iCndP (fun h4 => ?_) (fun h4 => ?_)
    · refine ⟨by simp; intro e; exact h4 (by rw [e]), h2.trans h23⟩
    · (refine iAdd (by omega) ?_)
      refine hKn (k + 1) _ ⟨by omega, h2.trans h23, ?_⟩ (by omega)
      rw [List.take_succ_eq_append_getElem hk1, List.take_succ_eq_append_getElem hk2, ht]
      simp [hk1, hk2] at h4
      rw [h4]
  · have : l = l' := by
      rw [List.take_of_length_le (by omega), List.take_of_length_le (by omega)] at ht; exact ht
    exact ⟨by simp [this], h2⟩
/-- What marking leaves. -/
theorem marks_take (k : Nat) (l : List Int) (j : Nat) (hj : j < l.length) : ((ints (marks k j)) ++ (ints l).drop j).set j (.int .i64 ((k + j : Nat) : Int)) = ints (marks k (j + 1)) ++ (ints l).drop (j + 1) := by
  have h1 : (ints (marks k j)).length = j := by simp [ints, marks]
  rw [List.set_append_right _ _ (by omega), h1, Nat.sub_self, List.drop_eq_getElem_cons (by simpa [ints] using hj)]
  simp [marks, ints, List.range_succ]
theorem ok_laws_markInt64S {lo : Nat} {v : Value} {w : World} {l : List Int} (hs : Ow lo t_i64 w v (ints l)) (k : Nat) (hk : k + l.length ≤ 9223372036854775807) :
    Cal Tryz.prog f_laws_markInt64S #[v, .int .i64 (k : Int)] w fun v' w' => v' = .int .i64 ((k + l.length : Nat) : Int) ∧ Ow lo t_i64 w' v (ints (marks k l.length)) ∧ w.grownBy w' v.ownBlock := by
  apply c_laws_markInt64S; unfold S_laws_markInt64S
  refine iLp (fun j : Nat => [.int .i64 ((k + j : Nat) : Int), .int .i64 (j : Int)]) (fun j w' => j ≤ l.length ∧ Ow lo t_i64 w' v (ints (marks k j) ++ (ints l).drop j) ∧ w.grownBy w' v.ownBlock) (fun j => l.length - j) 0 rfl ⟨Nat.zero_le _, by simpa [marks, ints] using hs, ⟨rfl, rfl, rfl, Nat.le_refl _, fun _ _ _ => rfl⟩⟩ ?_
  rintro j w2 Kn ⟨hj, h2, hg⟩ hKn
  have hsl : Sl w2 v _ := h2.sl
  have hlen : (ints (marks k j) ++ (ints l).drop j).length = l.length := by simp [ints, marks]; omega
  (intro _; (try simp only [gx]); (with_reducible refine iLenS (by assumption) ?_; refine iLt ?_))
  rw [hlen]
  refine iCndP (fun h3 => ?_) (fun h3 => ?_)
  · refine iIaOw h2 (by omega) (by omega) fun b o ho hlo hlt hc hf hst => ?_
    have hc' : ∃ x, w2.cell? ⟨b, o, none⟩ = some x := ⟨_, hc.trans (List.getElem?_eq_getElem (by omega))⟩
    obtain ⟨x, hx⟩ := hc'
    refine iSt hx hf rfl ?_
    (refine iAdd (by omega) ?_; refine iAdd (by omega) ?_)
    refine hKn (j + 1) _ ⟨by omega, ?_, ?_⟩ (by omega)
    · have := hst (.int .i64 ((k + j : Nat) : Int))
      rw [Int.toNat_natCast, marks_take k l j (by omega)] at this
      exact this
    · rw [ho]
      exact ⟨hg.os, hg.tape, hg.output, by have := hg.size; simpa using this, fun i hi hne => by
        rw [ho] at hg
        rw [Go.RowKit.Below.heap_setCell _ _ _ _ (fun e => hne (by rw [e]))]; exact hg.block i hi hne⟩
  · obtain rfl : j = l.length := by omega
    refine ⟨rfl, ?_, hg⟩
    rw [List.drop_of_length_le (by simp [ints])] at h2
    simpa using h2
/-- What asking back answers. -/
theorem ok_laws_heldInt64S {v : Value} {w : World} {l : List Int} (hs : SlI w v l) (k : Nat) (hk : k + l.length ≤ 9223372036854775807) : Ret Tryz.prog f_laws_heldInt64S #[v, .int .i64 (k : Int)] w (.int .i64 (heldN k l)) := by
  apply c_laws_heldInt64S; unfold S_laws_heldInt64S
  refine iLp (fun j : Nat => [.int .i64 ((k + j : Nat) : Int), .int .i64 (j : Int)]) (fun j w' => j ≤ l.length ∧ Ext w w' ∧ l.take j = marks k j) (fun j => l.length - j) 0 rfl ⟨Nat.zero_le _, Ext.refl _, by simp [marks]⟩ ?_
  rintro j w2 Kn ⟨hj, h2, ht⟩ hKn
  have hs2 := hs.ext h2
  (intro _; (try simp only [gx]); (with_reducible refine iLenI (by assumption) ?_; refine iLt ?_))
  refine iCndP (fun h3 => ?_) (fun h3 => ?_)
  · ((with_reducible refine iIaN (by assumption) ?_ (fun pa_ hpa_ => ?_)); omega; (with_reducible refine iLd (by assumption) ?_; refine iNe ?_))
    have hj1 : j < l.length := by omega
    have hg : l.getD j 0 = l[j] := by simp [hj1]
    rw [hg]
    refine iCndP (fun h4 => ?_) (fun h4 => ?_)
    · refine ⟨?_, h2⟩
      have : l ≠ marks k l.length := by
        intro e
        apply h4
        have : l[j]? = (marks k l.length)[j]? := congrArg (·[j]?) e
        simp [marks, hj1] at this
        omega
      simp [heldN, this]
    · (refine iAdd (by omega) ?_; refine iAdd (by omega) ?_)
      refine hKn (j + 1) _ ⟨by omega, h2, ?_⟩ (by omega)
      rw [List.take_succ_eq_append_getElem hj1, ht]
      have : l[j] = ((k + j : Nat) : Int) := by omega
      simp [marks, List.range_succ, this]
  · obtain rfl : j = l.length := by omega
    rw [List.take_of_length_le (Nat.le_refl _)] at ht
    exact ⟨by simp only [heldN, if_pos ht], h2⟩
end Go.Proofs.YtkjfpiimimfnhaaGreat

/- Contracts: texts that use a name (Users), in the program and the reference; the law on it. Conditions: none. -/
namespace Go.Vc
/-- The places of the texts, below k, whose references have the name. -/
def usrs (T : List Str) (n : Str) (k : Nat) : List Int := ((List.range k).filter fun i => decide (n ∈ names (chop (gt T i)))).map Int.ofNat
theorem usrs_succ (T : List Str) (n : Str) (k : Nat) : usrs T n (k + 1) = if n ∈ names (chop (gt T k)) then usrs T n k ++ [(k : Int)] else usrs T n k := by
  unfold usrs
  rw [List.range_succ, List.filter_append, List.map_append]
  by_cases h : n ∈ names (chop (gt T k)) <;> simp [h]
theorem usrs_len (T : List Str) (n : Str) : ∀ k, (usrs T n k).length ≤ k
  | 0 => by simp [usrs]
  | k + 1 => by
    have := usrs_len T n k
    rw [usrs_succ]
    split
    · simp; omega
    · omega
def usersC (L : List Itm) (T : List Str) (n : Str) : Int :=
  if itemsOk L = false then 1 else if T.any (fun t => decide (300 < t.length)) then 3 else if T.any (fun t => !exprB t) then 6 else if hasI L n = false then 4 else 0
def usersL (L : List Itm) (T : List Str) (n : Str) : List Int := if usersC L T n = 0 then usrs T n T.length else []
theorem usersL_len (L : List Itm) (T : List Str) (n : Str) : (usersL L T n).length ≤ T.length := by
  unfold usersL
  split
  · exact usrs_len _ _ _
  · simp
theorem exprB_names {t : Str} (h : exprB t = true) : (names (chop t)).all nameOk = true := by
  unfold exprB at h
  rw [Bool.and_eq_true] at h
  exact h.1
theorem any_gt {T : List Str} {p : Str → Bool} {i : Nat} (hi : i < T.length) (h : p (gt T i) = true) : T.any p = true := List.any_eq_true.2 ⟨T[i], List.getElem_mem _, by rw [← gt_eq hi]; exact h⟩
theorem any_no {T : List Str} {p : Str → Bool} (h : ∀ i, i < T.length → p (gt T i) = false) : T.any p = false := by
  rw [List.any_eq_false]
  intro x hx
  obtain ⟨i, hi, rfl⟩ := List.getElem_of_mem hx
  rw [← gt_eq hi, h i hi]
  exact Bool.false_ne_true
theorem any_none {T : List Str} {p : Str → Bool} (h : T.any p = false) {i : Nat} (hi : i < T.length) : p (gt T i) = false := by
  rw [Bool.eq_false_iff]; intro e; rw [any_gt hi e] at h; cases h
theorem iIaG {w : World} {v : Value} {L : List Str} {z : Int} {j : Nat} {k : IntKind} {K : Value → Prop} (hs : SlT w v L) (hz : z = (j : Int)) (hj : j < L.length) (h : K (sv (gt L j))) : xIa 1 v (.int k z) fun p => xLd w p K := by
  subst hz
  exact iIaT hs hj fun p hp => iLd hp (by rw [← gt_eq hj]; exact h)
end Go.Vc
namespace Go.Proofs.YtkjfpiimimfnhaaGreat
open Go.Vc
theorem ok_slices_ContainsFuncT {v fv : Value} {L : List Str} {p : Str → Bool} {w : World} (hs : SlT w v L) (hf : ∀ x ∈ L, ∀ w', callV Tryz.prog fv [sv x] w' fun u w'' => u = .bool (p x) ∧ Ext w' w'') : Ret Tryz.prog f_slices_ContainsFunc_Sstring_string #[v, fv] w (.bool (L.any p)) := by
  apply c_slices_ContainsFunc_Sstring_string; unfold S_slices_ContainsFunc_Sstring_string
  have hln := hs.len
  rw [strs_len] at hln
  refine iCall (Cal.mono (R := fun r w' => Ext w w' ∧ ∃ z : Int, r = .int .i64 z ∧ (decide (0 ≤ z) = L.any p)) ?_ ?_)
  · apply c_slices_IndexFunc_Sstring_string; unfold S_slices_IndexFunc_Sstring_string
    refine iLenStr hs ?_
    refine iLp (fun i : Nat => [.int .i64 (i : Int)]) (fun i w' => i ≤ L.length ∧ Ext w w' ∧ ∀ j, j < i → p (gt L j) = false) (fun i => L.length - i) 0 rfl ⟨Nat.zero_le _, Ext.refl _, fun j hj => by omega⟩ ?_
    rintro i w2 Kn ⟨hi, h2, hno⟩ hKn
    intro _
    simp only [gx]
    refine iLt ?_
    refine iCndP (fun h => ?_) (fun h => ?_)
    · refine iIaG (hs.ext h2) rfl (by omega) ?_
      refine (hf (gt L i) (by rw [gt_eq (show i < L.length by omega)]; exact List.getElem_mem _) w2).mono ?_
      rintro u w3 ⟨rfl, h23⟩
      refine iCnd (fun h3 => ?_) (fun h3 => ?_)
      · exact ⟨h2.trans h23, _, rfl, by rw [any_gt (by omega) h3]; simp⟩
      · refine iAdd (by omega) ?_
        refine hKn (i + 1) _ ⟨by omega, h2.trans h23, fun j hj => ?_⟩ (by omega)
        by_cases hji : j = i
        · subst hji; exact h3
        · exact hno j (by omega)
    · exact ⟨h2, -1, rfl, by rw [any_no fun j hj => hno j (by omega)]; rfl⟩
  · rintro r w1 ⟨h1, z, rfl, hz⟩
    refine iLe ?_
    rw [hz]
    exact ⟨by first | trivial | rfl, h1⟩
theorem ok_slices_ContainsT {v : Value} {L : List Str} {t : Str} {w : World} (hs : SlT w v L) : Ret Tryz.prog f_slices_Contains_Sstring_string #[v, sv t] w (.bool (decide (t ∈ L))) := by
  apply c_slices_Contains_Sstring_string; unfold S_slices_Contains_Sstring_string
  have hln := hs.len
  rw [strs_len] at hln
  refine iCall (Cal.mono (R := fun r w' => Ext w w' ∧ ∃ z : Int, r = .int .i64 z ∧ (decide (0 ≤ z) = decide (t ∈ L))) ?_ ?_)
  · apply c_slices_Index_Sstring_string; unfold S_slices_Index_Sstring_string
    refine iLenStr hs ?_
    refine iLp (fun i : Nat => [.int .i64 (i : Int)]) (fun i w' => i ≤ L.length ∧ Ext w w' ∧ ∀ j, j < i → ¬ t = gt L j) (fun i => L.length - i) 0 rfl ⟨Nat.zero_le _, Ext.refl _, fun j hj => by omega⟩ ?_
    rintro i w2 Kn ⟨hi, h2, hno⟩ hKn
    intro _
    simp only [gx]
    refine iLt ?_
    refine iCndP (fun h => ?_) (fun h => ?_)
    · refine iIaG (hs.ext h2) rfl (by omega) ?_
      refine iEqT ?_
      refine iCndP (fun h3 => ?_) (fun h3 => ?_)
      · refine ⟨h2, _, rfl, ?_⟩
        rw [decide_eq_true (show t ∈ L by rw [h3, gt_eq (show i < L.length by omega)]; exact List.getElem_mem _)]
        simp
      · refine iAdd (by omega) ?_
        refine hKn (i + 1) _ ⟨by omega, h2, fun j hj => ?_⟩ (by omega)
        by_cases hji : j = i
        · subst hji; exact h3
        · exact hno j (by omega)
    · refine ⟨h2, -1, rfl, ?_⟩
      rw [decide_eq_false (show ¬ t ∈ L from fun hm => by
        obtain ⟨j, hj, e⟩ := List.getElem_of_mem hm
        exact hno j (by omega) (by rw [gt_eq hj]; exact e.symm))]
      rfl
  · rintro r w1 ⟨h1, z, rfl, hz⟩
    refine iLe ?_
    rw [hz]
    exact ⟨by first | trivial | rfl, h1⟩
theorem ok_spec_l01Says {v : Value} {L : List Str} {t : Str} {w : World} (hs : SlT w v L) : Ret Tryz.prog f_spec_l01Says #[v, sv t] w (.bool (decide (t ∈ L))) := by
  apply c_spec_l01Says; unfold S_spec_l01Says
  have hln := hs.len
  rw [strs_len] at hln
  refine iLp (fun i : Nat => [.int .i64 (i : Int)]) (fun i w' => i ≤ L.length ∧ Ext w w' ∧ ∀ j, j < i → ¬ gt L j = t) (fun i => L.length - i) 0 rfl ⟨Nat.zero_le _, Ext.refl _, fun j hj => by omega⟩ ?_
  rintro i w2 Kn ⟨hi, h2, hno⟩ hKn
  intro _
  simp only [gx]
  refine iLenStr (hs.ext h2) ?_
  refine iLt ?_
  refine iCndP (fun h => ?_) (fun h => ?_)
  · refine iIaG (hs.ext h2) rfl (by omega) ?_
    refine iEqT ?_
    refine iCndP (fun h3 => ?_) (fun h3 => ?_)
    · rw [decide_eq_true (show t ∈ L by rw [← h3, gt_eq (show i < L.length by omega)]; exact List.getElem_mem _)]
      exact ⟨by first | trivial | rfl, h2⟩
    · refine iAdd (by omega) ?_
      refine hKn (i + 1) _ ⟨by omega, h2, fun j hj => ?_⟩ (by omega)
      by_cases hji : j = i
      · subst hji; exact h3
      · exact hno j (by omega)
  · rw [decide_eq_false (show ¬ t ∈ L from fun hm => by
      obtain ⟨j, hj, e⟩ := List.getElem_of_mem hm
      exact hno j (by omega) (by rw [gt_eq hj]; exact e))]
    exact ⟨by first | trivial | rfl, h2⟩
theorem ok_spec_l35Place {v : Value} {L : List Itm} {n : Str} {w : World} (hs : SlIt w v L) : Cal Tryz.prog f_spec_l35Place #[v, sv n] w fun r w' => Ext w w' ∧ ∃ i : Nat, ∃ y : Bool, r = .tuple #[.int .i64 (i : Int), .bool y] ∧ Found L n i y := by
  apply c_spec_l35Place; unfold S_spec_l35Place
  have hln := hs.len
  refine iLp (fun i : Nat => [.int .i64 (i : Int)]) (fun i w' => i ≤ L.length ∧ Ext w w' ∧ ∀ j, j < i → ltS (gt L j).nm n = true) (fun i => L.length - i) 0 rfl ⟨Nat.zero_le _, Ext.refl _, fun j hj => by omega⟩ ?_
  rintro i w2 Kn ⟨hi, h2, hlt⟩ hKn
  have hs2 := hs.ext h2
  intro _
  simp only [gx]
  refine iJnB (decide (i < L.length) && ltS (gt L i).nm n) w2 (fun J hJ => ?_) (fun w4 h4 => ?_)
  · refine iLenK hs2 ?_
    refine iLt ?_
    refine iCndP (fun h => ?_) (fun h => ?_)
    · rw [decide_eq_true (show i < L.length by omega), Bool.true_and] at hJ
      refine iNm hs2 rfl (by omega) ?_
      exact iLtT (hJ _ (Ext.refl _))
    · rw [decide_eq_false (show ¬ i < L.length by omega), Bool.false_and] at hJ
      exact hJ _ (Ext.refl _)
  intro _
  simp only [gx]
  have hs4 := hs2.ext h4
  have h4' := h2.trans h4
  cases hc : decide (i < L.length) && ltS (gt L i).nm n
  rotate_left
  · rw [Bool.and_eq_true, decide_eq_true_eq] at hc
    refine iCndT rfl ?_
    refine iAdd (by omega) ?_
    refine hKn (i + 1) _ ⟨by omega, h4', fun j hj => ?_⟩ (by omega)
    by_cases hji : j = i
    · subst hji; exact hc.2
    · exact hlt j (by omega)
  refine iCndF rfl ?_
  refine iJnX (fun xs w' => Ext w4 w' ∧ ∃ y : Bool, xs = [.int .i64 (i : Int), .bool y] ∧ y = (decide (i < L.length) && decide ((gt L i).nm = n))) (fun J hJ => ?_) ?_
  · refine iLenK hs4 ?_
    refine iLt ?_
    refine iCndP (fun h3 => ?_) (fun h3 => ?_)
    · refine iNm hs4 rfl (by omega) ?_
      refine iEqT ?_
      exact fun w7 h7 => hJ _ _ ⟨h7, _, rfl, by rw [decide_eq_true (show i < L.length by omega), Bool.true_and]⟩
    · exact fun w8 h8 => hJ _ _ ⟨h8, false, rfl, by rw [decide_eq_false (show ¬ i < L.length by omega), Bool.false_and]⟩
  · rintro xs w6 ⟨h6, y, rfl, hy⟩
    intro _
    refine ⟨h4'.trans h6, i, y, rfl, hi, fun e => ?_, fun hI => ?_⟩
    · rw [e] at hy
      have := hy.symm
      rw [Bool.and_eq_true, decide_eq_true_eq, decide_eq_true_eq] at this
      exact this
    · rw [hy]
      rcases Nat.lt_or_ge i L.length with h3 | h3
      · rw [decide_eq_true h3, Bool.true_and] at hc ⊢
        by_cases h5 : (gt L i).nm = n
        · rw [decide_eq_true h5, hasI_at h3 h5]
        · rw [decide_eq_false h5, hasI_no fun j hj e => ?_]
          rcases Nat.lt_trichotomy j i with h7 | h7 | h7
          · have := hlt j h7; rw [e, ltS_irrefl] at this; cases this
          · subst h7; exact h5 e
          · have k2 := hI i j h7 hj
            rw [e] at k2; rw [hc] at k2; cases k2
      · rw [decide_eq_false (Nat.not_lt.2 h3), Bool.false_and, hasI_no fun j hj e => ?_]
        have := hlt j (by omega); rw [e, ltS_irrefl] at this; cases this
theorem ok_impl_Users {v0 v1 : Value} {L : List Itm} {T : List Str} {n : Str} {w : World} (h0 : SlIt w v0 L) (hsh : ShortI L) (hL : L.length ≤ 1048576) (h1 : SlT w v1 T) (hT : T.length ≤ 1048576) :
    Cal Tryz.prog f_impl_Users #[v0, v1, sv n] w fun r w' => Ext w w' ∧ ∃ u, r = .tuple #[u, .int .i64 (usersC L T n)] ∧ Ow w.heap.size t_i64 w' u (ints (usersL L T n)) := by
  apply c_impl_Users; unfold S_impl_Users
  have fail : ∀ {c : Int} {w' : World}, usersC L T n = c → ¬ c = 0 → Ext w w' → Ext w w' ∧ ∃ u, Value.tuple #[.slice none 0 0, .int .i64 c] = .tuple #[u, .int .i64 (usersC L T n)] ∧ Ow w.heap.size t_i64 w' u (ints (usersL L T n)) := fun {c w'} e hc hx => by
    refine ⟨hx, _, by rw [e], ?_⟩
    unfold usersL
    rw [e, if_neg hc]
    exact Ow.nil _ _ _
  refine iCall ((ok_impl_itemAt h0 (by omega)).mono ?_)
  rintro r w1 ⟨x1, at', y, rfl, hF⟩
  refine iE20 ?_
  refine iE21 ?_
  refine iRet (ok_impl_areItems (h0.ext x1) hsh) fun w2 x2 => ?_
  have x2 := x1.trans x2
  refine iNot ?_
  cases hok : itemsOk L
  · refine iCndT rfl ?_
    exact fail (by unfold usersC; rw [if_pos hok]) (by decide) x2
  refine iCndF rfl ?_
  refine iRet (ok_slices_ContainsFuncT (p := fun t => decide (300 < t.length)) (h1.ext x2) fun x _ w' => iCall (by
    show Cal Tryz.prog f_impl_Users_1 #[sv x] w' _
    apply c_impl_Users_1; unfold S_impl_Users_1
    refine iLenT (iLt ⟨?_, Ext.refl _⟩)
    congr 1
    exact decide_eq_decide.2 (by omega))) fun w3 x3 => ?_
  have x3 := x2.trans x3
  cases hl : T.any fun t => decide (300 < t.length)
  rotate_left
  · refine iCndT rfl ?_
    exact fail (by unfold usersC; rw [if_neg (by rw [hok]; decide), if_pos hl]) (by decide) x3
  refine iCndF rfl ?_
  have hshort : ∀ t ∈ T, t.length ≤ 300 := fun t ht => by
    have := List.any_eq_false.1 hl t ht
    simpa using this
  refine iRet (ok_slices_ContainsFuncT (p := fun t => !exprB t) (h1.ext x3) fun x hx w' => iCall (by
    show Cal Tryz.prog f_impl_Users_2 #[sv x] w' _
    apply c_impl_Users_2; unfold S_impl_Users_2
    exact iRet (ok_impl_isExpression (by have := hshort x hx; omega) w') fun w'' hw => iNot ⟨by first | trivial | rfl, hw⟩)) fun w4 x4 => ?_
  have x4 := x3.trans x4
  cases he : T.any fun t => !exprB t
  rotate_left
  · refine iCndT rfl ?_
    exact fail (by unfold usersC; rw [if_neg (by rw [hok]; decide), if_neg (by rw [hl]; decide), if_pos he]) (by decide) x4
  refine iCndF rfl ?_
  refine iNot ?_
  have hy := hF.2.2 (itemsOk_inc hok)
  cases hh : hasI L n
  · rw [hy, hh]
    refine iCndT rfl ?_
    exact fail (by unfold usersC; rw [if_neg (by rw [hok]; decide), if_neg (by rw [hl]; decide), if_neg (by rw [he]; decide), if_pos hh]) (by decide) x4
  rw [hy, hh]
  refine iCndF rfl ?_
  have hc0 : usersC L T n = 0 := by unfold usersC; rw [if_neg (by rw [hok]; decide), if_neg (by rw [hl]; decide), if_neg (by rw [he]; decide), if_neg (by rw [hh]; decide)]
  refine iLenStr (h1.ext x4) ?_
  refine iLp (fun s : Value × Nat => [s.1, .int .i64 (s.2 : Int)]) (fun s w' => s.2 ≤ T.length ∧ Ext w w' ∧ Ow w.heap.size t_i64 w' s.1 (ints (usrs T n s.2))) (fun s => T.length - s.2) (.slice none 0 0, 0) rfl ⟨Nat.zero_le _, x4, Ow.nil _ _ _⟩ ?_
  rintro ⟨u, k⟩ w6 Kn ⟨hk, x6, ho⟩ hKn
  have hk : k ≤ T.length := hk
  have ho : Ow w.heap.size t_i64 w6 u (ints (usrs T n k)) := ho
  intro _
  simp only [gx]
  refine iLt ?_
  refine iCndP (fun h => ?_) (fun h => ?_)
  · refine iIaG (h1.ext x6) rfl (by omega) ?_
    have hmem : gt T k ∈ T := by rw [gt_eq (show k < T.length by omega)]; exact List.getElem_mem _
    have hex : exprB (gt T k) = true := by have := any_none he (i := k) (by omega); simpa using this
    refine iCall ((ok_impl_references (by have := hshort _ hmem; omega) (exprB_names hex) w6).mono ?_)
    rintro r w7 ⟨x7, ho7⟩
    refine iRet (ok_slices_ContainsT (t := n) ho7.sl) fun w8 x8 => ?_
    have x68 := x7.trans x8
    have ho8 := ho.ext x68
    have hul := usrs_len T n k
    have hus := usrs_succ T n k
    refine iCndP (fun h3 => ?_) (fun h3 => ?_)
    · rw [mem_setT] at h3
      rw [if_pos h3] at hus
      refine iApp1 u_Si64 i_Si64 rfl ho8 rfl (by rw [ints_length]; omega) (by rw [ints_length]; omega) (by have := (x6.trans x68).size; omega) fun u' w10 ho10 hg10 => ?_
      refine iAdd (by omega) ?_
      have ho10 : Ow w.heap.size t_i64 w10 u' (ints (usrs T n (k + 1))) := by rw [hus]; simpa [ints] using ho10
      exact hKn (u', k + 1) _ ⟨by show k + 1 ≤ T.length; omega, (x6.trans x68).grown hg10 fun b hb => (ho8.blk b hb).1, ho10⟩ (by show T.length - (k + 1) < T.length - k; omega)
    · rw [mem_setT] at h3
      rw [if_neg h3] at hus
      refine iAdd (by omega) ?_
      exact hKn (u, k + 1) _ ⟨by show k + 1 ≤ T.length; omega, x6.trans x68, by show Ow _ _ _ _ (ints (usrs T n (k + 1))); rw [hus]; exact ho8⟩ (by show T.length - (k + 1) < T.length - k; omega)
  · have : k = T.length := by omega
    subst this
    refine ⟨x6, u, by rw [hc0], ?_⟩
    unfold usersL
    rw [if_pos hc0]
    exact ho
theorem ok_spec_Users {v0 v1 : Value} {L : List Itm} {T : List Str} {n : Str} {w : World} (h0 : SlIt w v0 L) (hsh : ShortI L) (h1 : SlT w v1 T) (hT : T.length ≤ 1048576) :
    Cal Tryz.prog f_spec_Users #[v0, v1, sv n] w fun r w' => Ext w w' ∧ ∃ u, r = .tuple #[u, .int .i64 (usersC L T n)] ∧ Ow w.heap.size t_i64 w' u (ints (usersL L T n)) := by
  apply c_spec_Users; unfold S_spec_Users
  have fail : ∀ {c : Int} {w' : World}, usersC L T n = c → ¬ c = 0 → Ext w w' → Ext w w' ∧ ∃ u, Value.tuple #[.slice none 0 0, .int .i64 c] = .tuple #[u, .int .i64 (usersC L T n)] ∧ Ow w.heap.size t_i64 w' u (ints (usersL L T n)) := fun {c w'} e hc hx => by
    refine ⟨hx, _, by rw [e], ?_⟩
    unfold usersL
    rw [e, if_neg hc]
    exact Ow.nil _ _ _
  refine iRet (ok_spec_l36Items h0 hsh) fun w1 x1 => ?_
  refine iNot ?_
  cases hok : itemsOk L
  · refine iCndT rfl ?_
    exact fail (by unfold usersC; rw [if_pos hok]) (by decide) x1
  refine iCndF rfl ?_
  refine iLp (fun i : Nat => [.int .i64 (i : Int)]) (fun i w' => i ≤ T.length ∧ Ext w w' ∧ ∀ j, j < i → (gt T j).length ≤ 300) (fun i => T.length - i) 0 rfl ⟨Nat.zero_le _, x1, fun j hj => by omega⟩ ?_
  rintro i w3 Kn ⟨hi, x3, hsm⟩ hKn
  intro _
  simp only [gx]
  refine iLenStr (h1.ext x3) ?_
  refine iLt ?_
  refine iCndP (fun h => ?_) (fun h => ?_)
  · refine iIaG (h1.ext x3) rfl (by omega) ?_
    refine iLenT ?_
    refine iLt ?_
    refine iCndP (fun h3 => ?_) (fun h3 => ?_)
    · exact fail (by unfold usersC; rw [if_neg (by rw [hok]; decide), if_pos (any_gt (i := i) (by omega) (decide_eq_true (by omega)))]) (by decide) x3
    · refine iAdd (by omega) ?_
      refine hKn (i + 1) _ ⟨by omega, x3, fun j hj => ?_⟩ (by omega)
      by_cases hji : j = i
      · subst hji; omega
      · exact hsm j (by omega)
  · have hl : T.any (fun t => decide (300 < t.length)) = false := any_no fun j hj => decide_eq_false (by have := hsm j (by omega); omega)
    refine iBs0 fun v30 w4 hw4 x4 ho4 => ?_
    have x4' := x3.trans x4
    refine iLp (fun s : Value × Nat => [s.1, .int .i64 (s.2 : Int)]) (fun s w' => s.2 ≤ T.length ∧ Ext w w' ∧ Ow w.heap.size t_i64 w' s.1 (ints (usrs T n s.2)) ∧ ∀ j, j < s.2 → exprB (gt T j) = true) (fun s => T.length - s.2) (v30, 0) rfl ⟨Nat.zero_le _, x4', ho4.mono x3.size, fun j hj => absurd hj (Nat.not_lt_zero j)⟩ ?_
    clear hKn
    rintro ⟨u, k⟩ w6 Kn ⟨hk, x6, ho, hex⟩ hKn
    have hk : k ≤ T.length := hk
    have ho : Ow w.heap.size t_i64 w6 u (ints (usrs T n k)) := ho
    have hex : ∀ j, j < k → exprB (gt T j) = true := hex
    intro _
    simp only [gx]
    refine iLenStr (h1.ext x6) ?_
    refine iLt ?_
    refine iCndP (fun h3 => ?_) (fun h3 => ?_)
    · have hlk := hsm k (by omega)
      refine iIaG (h1.ext x6) rfl (by omega) ?_
      refine iRet (ok_spec_l36Form (by omega) w6) fun w7 x7 => ?_
      refine iNot ?_
      cases hek : exprB (gt T k)
      · refine iCndT rfl ?_
        exact fail (by unfold usersC; rw [if_neg (by rw [hok]; decide), if_neg (by rw [hl]; decide), if_pos (any_gt (p := fun t => !exprB t) (i := k) (by omega) (by rw [hek]; rfl))]) (by decide) (x6.trans x7)
      refine iCndF rfl ?_
      refine iIaG ((h1.ext x6).ext x7) rfl (by omega) ?_
      refine iCall ((ok_spec_l36Cut (by omega) w7).mono ?_)
      rintro r w8 ⟨x8, vp, vn, rfl, -, hn⟩
      refine iE20 ?_
      refine iE21 ?_
      refine iRet (ok_spec_l01Says (t := n) hn.sl) fun w9 x9 => ?_
      have x69 := (x7.trans x8).trans x9
      have ho9 := ho.ext x69
      have hul := usrs_len T n k
      have hus := usrs_succ T n k
      have hex' : ∀ j, j < k + 1 → exprB (gt T j) = true := fun j hj => by
        by_cases hjk : j = k
        · subst hjk; exact hek
        · exact hex j (by omega)
      refine iCndP (fun h5 => ?_) (fun h5 => ?_)
      · rw [if_pos h5] at hus
        refine iApp1 u_Si64 i_Si64 rfl ho9 rfl (by rw [ints_length]; omega) (by rw [ints_length]; omega) (by have := (x6.trans x69).size; omega) fun u' w10 ho10 hg10 => ?_
        refine iAdd (by omega) ?_
        have ho10 : Ow w.heap.size t_i64 w10 u' (ints (usrs T n (k + 1))) := by rw [hus]; simpa [ints] using ho10
        exact hKn (u', k + 1) _ ⟨by show k + 1 ≤ T.length; omega, (x6.trans x69).grown hg10 fun b hb => (ho9.blk b hb).1, ho10, hex'⟩ (by show T.length - (k + 1) < T.length - k; omega)
      · rw [if_neg h5] at hus
        refine iAdd (by omega) ?_
        exact hKn (u, k + 1) _ ⟨by show k + 1 ≤ T.length; omega, x6.trans x69, by show Ow _ _ _ _ (ints (usrs T n (k + 1))); rw [hus]; exact ho9, hex'⟩ (by show T.length - (k + 1) < T.length - k; omega)
    · have hkT : k = T.length := by omega
      subst hkT
      have he : T.any (fun t => !exprB t) = false := any_no fun j hj => by rw [hex j hj]; rfl
      refine iCall ((ok_spec_l35Place (n := n) (h0.ext x6)).mono ?_)
      rintro r w12 ⟨x12, at', y, rfl, hF⟩
      refine iE20 ?_
      refine iE21 ?_
      refine iNot ?_
      have hy := hF.2.2 (itemsOk_inc hok)
      cases hh : hasI L n
      · rw [hy, hh]
        refine iCndT rfl ?_
        exact fail (by unfold usersC; rw [if_neg (by rw [hok]; decide), if_neg (by rw [hl]; decide), if_neg (by rw [he]; decide), if_pos hh]) (by decide) (x6.trans x12)
      · rw [hy, hh]
        refine iCndF rfl ?_
        have hc0 : usersC L T n = 0 := by unfold usersC; rw [if_neg (by rw [hok]; decide), if_neg (by rw [hl]; decide), if_neg (by rw [he]; decide), if_neg (by rw [hh]; decide)]
        refine ⟨x6.trans x12, u, by rw [hc0], ?_⟩
        unfold usersL
        rw [if_pos hc0]
        exact ho.ext x12
end Go.Proofs.YtkjfpiimimfnhaaGreat

/- The law on Users: what its body answers. Conditions: none. -/
namespace Go.Proofs.YtkjfpiimimfnhaaGreat
open Go.Vc
theorem ok_laws_FnExactUsers {v0 v1 : Value} {L : List Itm} {T : List Str} {w : World} (h0 : SlIt w v0 L) (hl0 : ∀ x ∈ L, x.nm.length ≤ 9223372036854775807 ∧ x.fm.length ≤ 9223372036854775807) (h1 : SlT w v1 T) (hl1 : ∀ x ∈ T, x.length ≤ 9223372036854775807) (n : Str) : Ret Tryz.prog f_laws_FnExactUsers #[v0, v1, sv n] w (.bool true) := by
  apply c_laws_FnExactUsers; unfold S_laws_FnExactUsers
  refine iLenT ?_
  refine iLt ?_
  refine iCndP (fun _ => ⟨by first | trivial | rfl, Ext.refl _⟩) (fun _ => ?_)
  refine iCall ((ok_laws_szItemS h0 hl0 1048576 (by decide)).mono ?_)
  rintro r w1 ⟨x1, z, rfl, hz⟩
  refine iLt ?_
  refine iCndP (fun _ => ⟨by first | trivial | rfl, x1⟩) (fun hz0 => ?_)
  obtain ⟨hz1, hz2, hL, hsh⟩ := hz.resolve_left (by omega)
  refine iCall ((ok_laws_szStringS (h1.ext x1) hl1 z (by omega)).mono ?_)
  rintro r w2 ⟨x2, y, rfl, hy⟩
  have x2 := x1.trans x2
  refine iLt ?_
  refine iCndP (fun _ => ⟨by first | trivial | rfl, x2⟩) (fun hy0 => ?_)
  obtain ⟨-, -, hT, -⟩ := hy.resolve_left (by omega)
  have hul := usersL_len L T n
  -- the arguments for the reference
  refine iCall ((ok_laws_toItemS (h0.ext x2) hL).mono ?_)
  rintro a0 w3 ⟨x23, oa⟩
  refine iCall ((ok_laws_toStringS ((h1.ext x2).ext x23) hT).mono ?_)
  rintro b0 w4 ⟨x34, ob⟩
  have x4 := (x2.trans x23).trans x34
  refine iCall ((ok_spec_Users (n := n) (oa.ext x34).sl hsh ob.sl hT).mono ?_)
  rintro r w5 ⟨x45, u0, rfl, ou0⟩
  have x5 := x4.trans x45
  refine iE20 ?_
  refine iE21 ?_
  have l0 : ∀ c, u0.ownBlock = some c → c < w5.heap.size := fun c hc => (ou0.blk c hc).2
  -- those for the program
  refine iCall ((ok_laws_toItemS (h0.ext x5) hL).mono ?_)
  rintro a1 w6 ⟨x56, oa1⟩
  have la1 : ∀ c, a1.ownBlock = some c → w5.heap.size ≤ c ∧ c < w6.heap.size := fun c hc => ⟨(oa1.blk c hc).1, (oa1.blk c hc).2⟩
  refine iCall ((ok_laws_toStringS ((h1.ext x5).ext x56) hT).mono ?_)
  rintro b1 w7 ⟨x67, ob1⟩
  have lb1 : ∀ c, b1.ownBlock = some c → w6.heap.size ≤ c ∧ c < w7.heap.size := fun c hc => ⟨(ob1.blk c hc).1, (ob1.blk c hc).2⟩
  have x7 := (x5.trans x56).trans x67
  refine iCall ((ok_impl_Users (n := n) (oa1.ext x67).sl hsh hL ob1.sl hT).mono ?_)
  rintro r w8 ⟨x78, u1, rfl, ou1⟩
  have lu1 : ∀ c, u1.ownBlock = some c → w7.heap.size ≤ c ∧ c < w8.heap.size := fun c hc => ⟨(ou1.blk c hc).1, (ou1.blk c hc).2⟩
  have x8 := x7.trans x78
  have x58 := (x56.trans x67).trans x78
  have s56 := x56.size
  have s67 := x67.size
  have s78 := x78.size
  have ou0 := ou0.ext x58
  have oa1 := (oa1.ext x67).ext x78
  have ob1 := ob1.ext x78
  refine iE20 ?_
  refine iE21 ?_
  refine iJnB false w8 (fun J hJ => ?_) (fun w10 h10 => ?_)
  · refine iRet (ok_laws_eqInt64S ou1.sl ou0.sl) fun w9 h9 => ?_
    rw [decide_eq_true rfl]
    refine iNot (iCndF rfl (iNe ?_))
    rw [decide_eq_false (fun h => h rfl)]
    exact hJ _ h9
  intro _
  simp only [gx]
  refine iCndF rfl ?_
  have x10 := x8.trans h10
  refine iCall ((ok_laws_toItemS (h0.ext x10) hL).mono ?_)
  rintro a2 w12 ⟨x12, oa2⟩
  have x12' := h10.trans x12
  refine iRet (ok_laws_eqItemS (oa1.ext x12').sl oa2.sl) fun w13 x13 => ?_
  rw [decide_eq_true rfl]
  refine iNot (iCndF rfl ?_)
  have x13' := x12'.trans x13
  refine iCall ((ok_laws_toStringS (h1.ext (x8.trans x13')) hT).mono ?_)
  rintro b2 w14 ⟨x14, ob2⟩
  have x14' := x13'.trans x14
  refine iRet (ok_laws_eqStringS (ob1.ext x14').sl ob2.sl) fun w15 x15 => ?_
  rw [decide_eq_true rfl]
  refine iNot (iCndF rfl ?_)
  have x15' := x14'.trans x15
  have X15 := x8.trans x15'
  -- marks in the arguments
  refine iCall ((ok_laws_markItemS (oa1.ext x15') (k := 1) (by omega)).mono ?_)
  rintro r w16 ⟨rfl, -, c16⟩
  have X16 : Ext w w16 := X15.thenCh c16 fun c hc => by have := (la1 c hc).1; have := x5.size; omega
  have ob1 := (ob1.ext x15').ch c16 fun c hc hc' => by have := la1 c hc'; have := lb1 c hc; omega
  have ou1 := (ou1.ext x15').ch c16 fun c hc hc' => by have := la1 c hc'; have := lu1 c hc; omega
  have ou0 := (ou0.ext x15').ch c16 fun c hc hc' => by have := la1 c hc'; have := l0 c hc; omega
  refine iCall ((ok_laws_markStringS ob1 (k := 1 + 3 * L.length) (by omega)).mono ?_)
  rintro r w17 ⟨rfl, t17⟩
  have X17 : Ext w w17 := X16.thenCh t17.ch fun c hc => by have := (lb1 c hc).1; have := x5.size; omega
  have ou1 := ou1.ch t17.ch fun c hc hc' => by have := lb1 c hc'; have := lu1 c hc; omega
  have ou0 := ou0.ch t17.ch fun c hc hc' => by have := lb1 c hc'; have := l0 c hc; omega
  refine iJnB false w17 (fun J hJ => ?_) (fun w19 h19 => ?_)
  · refine iLt ?_
    refine iCndP (fun h => by omega) (fun _ => ?_)
    refine iRet (ok_laws_eqInt64S ou1.sl ou0.sl) fun w20 h20 => ?_
    rw [decide_eq_true rfl]
    refine iNot (iCndF rfl (iNe ?_))
    rw [decide_eq_false (fun h => h rfl)]
    exact hJ _ h20
  intro _
  simp only [gx]
  refine iCndF rfl ?_
  have X19 := X17.trans h19
  -- marks in the result
  refine iCall ((ok_laws_markInt64S (ou1.ext h19) 1 (by omega)).mono ?_)
  rintro r w21 ⟨rfl, ou1, g21⟩
  have c21 : Ch (fun c => u1.ownBlock = some c) w19 w21 := grown_ch g21 fun b hb => hb
  have X21 : Ext w w21 := X19.thenCh c21 fun c hc => by have := (lu1 c hc).1; have := x5.size; omega
  have ou0 := (ou0.ext h19).ch c21 fun c hc hc' => by have := lu1 c hc'; have := l0 c hc; omega
  have hml : (marks 1 (usersL L T n).length).length = (usersL L T n).length := by simp [marks]
  have hheld : heldN 1 (marks 1 (usersL L T n).length) = ((1 + (usersL L T n).length : Nat) : Int) := by unfold heldN; rw [hml, if_pos rfl]
  refine iRet (ok_laws_heldInt64S ou1.sl 1 (by omega)) fun w22 h22 => ?_
  rw [hheld]
  refine iLt ?_
  refine iCndP (fun h => by omega) (fun _ => ?_)
  refine iNe ?_
  refine iCndP (fun h => absurd rfl h) (fun _ => ?_)
  have X22 := X21.trans h22
  -- once more
  refine iCall ((ok_laws_toItemS (h0.ext X22) hL).mono ?_)
  rintro a3 w23 ⟨x23', oa3⟩
  refine iCall ((ok_laws_toStringS (h1.ext (X22.trans x23')) hT).mono ?_)
  rintro b3 w24 ⟨x24, ob3⟩
  refine iCall ((ok_impl_Users (n := n) (oa3.ext x24).sl hsh hL ob3.sl hT).mono ?_)
  rintro r w25 ⟨x25, u2, rfl, ou2⟩
  have x25' := ((h22.trans x23').trans x24).trans x25
  have X25 := X21.trans x25'
  refine iE20 ?_
  refine iE21 ?_
  refine iJnB false w25 (fun J hJ => ?_) (fun w27 h27 => ?_)
  · refine iRet (ok_laws_eqInt64S ou2.sl (ou0.ext x25').sl) fun w28 h28 => ?_
    rw [decide_eq_true rfl]
    refine iNot (iCndF rfl (iNe ?_))
    rw [decide_eq_false (fun h => h rfl)]
    exact hJ _ h28
  intro _
  simp only [gx]
  refine iCndF rfl ?_
  refine iRet (ok_laws_heldInt64S (ou1.ext (x25'.trans h27)).sl 1 (by omega)) fun w29 h29 => ?_
  rw [hheld]
  refine iLt ?_
  refine iCndP (fun h => by omega) (fun _ => ?_)
  refine iNe ?_
  refine iCndP (fun h => absurd rfl h) (fun _ => ?_)
  exact ⟨by first | trivial | rfl, (X25.trans h27).trans h29⟩
end Go.Proofs.YtkjfpiimimfnhaaGreat
