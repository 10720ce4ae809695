/- The proof of FnExactSequentsOfDeductionSaid, part 4 of 6. Conditions: none. -/
import Derived.Test.YteifjhpddhppcaaGreatKR37c
import Derived.Shelf.Small.Strs
import Derived.Maps.Own
/- Contracts: the text of a formula and formulas read from texts, in the reference. Conditions: none. -/
namespace Go.Proofs.YteifjhpddhppcaaGreat
open Go.Vc
theorem ok_spec_l02Left {v : Value} {f g : Fm} {gs : List Fm} {w : World} (hs : FmS w v f) (hk : f.kids = g :: gs) (hn : f.size ≤ 1099511627776) : Cal Tryz.prog f_spec_l02Left #[v] w fun u w' => Ext w w' ∧ FmS w' u g := by
  apply c_spec_l02Left; unfold S_spec_l02Left
  have hsz := f.size_kids
  rw [hk] at hsz
  simp only [sizeL, List.map_cons, List.sum_cons] at hsz
  refine iRet (ok_spec_l02Part (i := 1) hs (drop_one hk) hn) fun w1 h1 => ?_
  refine iSlK (i := 1) (j := 1 + g.size) (hs.ext h1) (by omega) (by omega) fun u hu => ⟨h1, ?_⟩
  rw [drop_one hk, Nat.add_sub_cancel_left, ← g.cells_len, List.take_left] at hu
  exact hu
theorem ok_spec_l02Right {v : Value} {f g h : Fm} {w : World} (hs : FmS w v f) (hk : f.kids = [g, h]) (hn : f.size ≤ 1099511627776) : Cal Tryz.prog f_spec_l02Right #[v] w fun u w' => Ext w w' ∧ FmS w' u h := by
  apply c_spec_l02Right; unfold S_spec_l02Right
  obtain ⟨hd, hsz⟩ := drop_two hk
  refine iRet (ok_spec_l02Part (i := 1) hs (drop_one hk) hn) fun w1 h1 => ?_
  refine iSlKFrom (i := 1 + g.size) (hs.ext h1) (by omega) fun u hu => ⟨h1, ?_⟩
  rw [hd, List.append_nil, hsz, Nat.add_sub_cancel_left] at hu
  exact hu
theorem fm_rest {w : World} {v : Value} {f g : Fm} (hs : SlK 2 w v (f.size - 1) (f.cells.drop (1 * 2))) (hk : f.kids = [g]) : FmS w v g := by
  rw [drop_one hk] at hs
  have := f.size_kids
  rw [hk] at this
  simp only [sizeL, List.map_cons, List.map_nil, List.sum_cons, List.sum_nil] at this
  rw [this, Nat.add_sub_cancel_left] at hs
  simpa [cellsL] using hs
theorem nodeCells {f : Fm} {i : Nat} (hi : i < f.size) : ∃ a b : Int, f.cells[i * 2]? = some (.int .i64 a) ∧ f.cells[i * 2 + 1]? = some (.int .i64 b) := by
  suffices H : ∀ (n : Nat) (fs : List Fm), sizeL fs ≤ n → ∀ i, i < sizeL fs → ∃ a b : Int, (cellsL fs)[i * 2]? = some (.int .i64 a) ∧ (cellsL fs)[i * 2 + 1]? = some (.int .i64 b) by
    have := H (sizeL [f]) [f] (Nat.le_refl _) i (by simpa [sizeL] using hi)
    simpa [cellsL] using this
  intro n
  induction n with
  | zero => intro fs h i hi; omega
  | succ n ih =>
    intro fs h i hi
    cases fs with
    | nil => simp [sizeL] at hi
    | cons g gs =>
      have e : cellsL (g :: gs) = nd g.kind g.sym ++ cellsL (g.kids ++ gs) := by
        rw [cellsL_app]
        simp only [cellsL, List.flatMap_cons]
        rw [g.cells_kids]
        simp [cellsL]
      have hsz : sizeL (g :: gs) = 1 + sizeL (g.kids ++ gs) := by rw [sizeL_app]; have := g.size_kids; simp only [sizeL, List.map_cons, List.sum_cons] at this ⊢; omega
      rw [e]
      cases i with
      | zero => exact ⟨_, _, rfl, rfl⟩
      | succ i =>
        obtain ⟨a, b, h1, h2⟩ := ih (g.kids ++ gs) (by omega) i (by omega)
        refine ⟨a, b, ?_, ?_⟩
        · rw [show (i + 1) * 2 = i * 2 + 1 + 1 by omega]; simpa [nd] using h1
        · rw [show (i + 1) * 2 + 1 = i * 2 + 1 + 1 + 1 by omega]; simpa [nd] using h2
theorem iLdK {sz : Nat} {v : Value} {n : Nat} {xs : List Value} {cs : Array Value} {z : Int} {j : Nat} {k : IntKind} {w : World} {K : Value → Prop} (hs : SlK sz w v n xs) (hz : z = (j : Int)) (h1 : j < n) (hc : cs.size = sz) (hx : ∀ i, i < sz → xs[j * sz + i]? = cs[i]?) (h : K (.agg cs)) : xIa sz v (.int k z) fun p => xLdA w sz p K := by
  subst hz
  refine iIaK hs h1 fun b o hcell => ?_
  refine ⟨_, cs, rfl, hc, fun i hi => ?_, h⟩
  rw [addr_add, hcell i hi, hx i hi]
theorem ok_spec_l02Equal {v0 v1 : Value} {f g : Fm} {w : World} (h0 : FmS w v0 f) (h1 : FmS w v1 g) (hn : f.size ≤ 1099511627776) : Ret Tryz.prog f_spec_l02Equal #[v0, v1] w (.bool (decide (f = g))) := by
  apply c_spec_l02Equal; unfold S_spec_l02Equal
  refine iLenK h0 ?_
  refine iLenK h1 ?_
  refine iNe ?_
  refine iCndP (fun h => ?_) (fun h => ?_)
  · rw [decide_eq_false (show ¬ f = g from fun e => h (by rw [e]))]
    exact ⟨by first | trivial | rfl, Ext.refl _⟩
  · have hl : f.size = g.size := by omega
    refine iLp (fun i : Nat => [.int .i64 (i : Int)]) (fun i w' => i ≤ f.size ∧ Ext w w' ∧ ∀ j, j < i * 2 → f.cells[j]? = g.cells[j]?) (fun i => f.size - i) 0 rfl ⟨Nat.zero_le _, Ext.refl _, fun j hj => by omega⟩ ?_
    rintro i w2 Kn ⟨hi, h2, he⟩ hKn
    intro _
    simp only [gx]
    refine iLenK (h0.ext h2) ?_
    refine iLt ?_
    refine iCndP (fun h3 => ?_) (fun h3 => ?_)
    · obtain ⟨a, b, ha, hb⟩ := nodeCells (f := f) (i := i) (by omega)
      obtain ⟨c, d, hc, hd⟩ := nodeCells (f := g) (i := i) (by omega)
      refine iLdK (cs := #[.int .i64 a, .int .i64 b]) (h0.ext h2) rfl (by omega) rfl (fun j hj => by rcases j with _ | _ | j; exact ha; exact hb; omega) ?_
      refine iLdK (cs := #[.int .i64 c, .int .i64 d]) (h1.ext h2) rfl (by omega) rfl (fun j hj => by rcases j with _ | _ | j; exact hc; exact hd; omega) ?_
      refine iNeNode (t0 := 2) (t1 := 2) (by kernel_rfl) (by kernel_rfl) (by kernel_rfl) (by kernel_rfl) (by kernel_rfl) (by kernel_rfl) ?_
      intro w3 h23
      refine iCndP (fun h4 => ?_) (fun h4 => ?_)
      · rw [decide_eq_false (show ¬ f = g from fun e => h4 (by
          subst e
          rw [ha] at hc; rw [hb] at hd
          simp only [Option.some.injEq, Value.int.injEq, true_and] at hc hd
          exact ⟨hc, hd⟩))]
        exact ⟨by first | trivial | rfl, h2.trans h23⟩
      · refine iAdd (by omega) ?_
        have h4 := Classical.not_not.1 h4
        refine hKn (i + 1) _ ⟨by omega, h2.trans h23, fun j hj => ?_⟩ (by omega)
        by_cases h5 : j < i * 2
        · exact he j h5
        · rcases (show j = i * 2 ∨ j = i * 2 + 1 by omega) with rfl | rfl
          · rw [ha, hc, h4.1]
          · rw [hb, hd, h4.2]
    · rw [decide_eq_true (show f = g from cells_inj (List.ext_getElem? fun j => by
        by_cases hj : j < i * 2
        · exact he j hj
        · rw [List.getElem?_eq_none (by rw [f.cells_len]; omega), List.getElem?_eq_none (by rw [g.cells_len]; omega)]))]
      exact ⟨by first | trivial | rfl, h2⟩
theorem ok_spec_l02Write : ∀ (m : Nat) {v : Value} {f : Fm} {lv : Nat} {w : World}, f.size ≤ m → FmS w v f → f.good → f.size ≤ 1099511627776 → Ret Tryz.prog f_spec_l02Write #[v, .int .i64 (lv : Int)] w (sv (f.txt lv))
  | 0, v, f, lv, w, hm, _, _, _ => by have := f.size_pos; omega
  | m + 1, v, f, lv, w, hm, hs, hg, hn => by
    apply c_spec_l02Write; unfold S_spec_l02Write
    have hbl := body_len f
    have hk := kind_fst hs
    refine iFld (j := 0) hs rfl f.size_pos (by decide) hk.1 ?_
    refine iEq ?_
    have sub : ∀ {g : Fm} {u : Value} {w' : World} {l : Nat}, g.size < f.size → FmS w' u g → g.good → Ret Tryz.prog f_spec_l02Write #[u, .int .i64 (l : Int)] w' (sv (g.txt l)) := fun {g u w' l} h1 h2 h3 =>
      ok_spec_l02Write m (by omega) h2 h3 (by omega)
    refine iJnX (fun xs w' => xs = [.int .i64 (f.own : Int), sv f.body] ∧ Ext w w') (fun J hJ => ?_) ?_
    rotate_left
    · rintro xs w2 ⟨rfl, h2⟩
      intro _
      simp only [gx]
      refine iLt ?_
      refine iCndP (fun h => ?_) (fun h => ?_)
      · refine iCat (a := [40]) (by simp only [List.length_singleton]; omega) ?_
        refine iCat (b := [41]) (by simp only [List.length_append, List.length_singleton]; omega) ?_
        rw [txt_par (show f.own < lv by omega)]
        exact ⟨by simp, h2⟩
      · rw [txt_own (show lv ≤ f.own by omega)]
        exact ⟨by first | trivial | rfl, h2⟩
    · -- a join whose values are handed on
      have pass : ∀ {F : (List Value → World → Prop) → Prop} {J' : List Value → World → Prop}, (∀ xs w', xs = [.int .i64 (f.own : Int), sv f.body] ∧ Ext w w' → J' xs w') → (∀ J, (∀ xs w', xs = [.int .i64 (f.own : Int), sv f.body] ∧ Ext w w' → J xs w') → F J) → jn F fun xs w' => ∀ _ : Nat → Value, J' [gx xs 0, gx xs 1] w' := fun {F J'} hJ' h =>
        iJnX (fun xs w' => xs = [.int .i64 (f.own : Int), sv f.body] ∧ Ext w w') h fun xs w' ⟨e, hE⟩ _ => by subst e; exact hJ' _ _ ⟨rfl, hE⟩
      cases f with
      | var x =>
        refine iCndT rfl ?_
        refine iFld (j := 0) hs rfl (Fm.size_pos _) (by decide) hk.2 ?_
        refine iFld (j := 0) hs rfl (Fm.size_pos _) (by decide) hk.2 ?_
        have hx : x < 6 := hg
        refine iAdd (by show _ ≤ (x : Int) + 1 ∧ (x : Int) + 1 ≤ _; omega) ?_
        refine iTxSub (l := [112, 113, 114, 115, 116, 117]) (i := x) (j := x + 1) (by omega) (by show x + 1 ≤ 6; omega) ?_
        intro w3 h3
        rw [letter_at hx]
        exact hJ _ _ ⟨rfl, h3⟩
      | fls =>
        refine iCndF rfl (iEq (pass hJ fun J hJ => iCndT rfl ?_))
        exact hJ _ _ ⟨rfl, Ext.refl _⟩
      | box a =>
        refine iCndF rfl (iEq (pass hJ fun J hJ => iCndF rfl (iEq (pass hJ fun J hJ => iCndT rfl ?_))))
        simp only [Fm.size] at hn
        have ha := txt_len 3 a
        refine iSlKFrom (i := 1) hs (Fm.size_pos _) fun u hu => ?_
        refine iRet (sub (l := 3) (by simp only [Fm.size]; omega) (fm_rest hu rfl) hg) fun w5 h5 => ?_
        refine iCat (a := [91, 93]) (by simp only [List.length_cons, List.length_nil]; omega) ?_
        exact hJ _ _ ⟨rfl, h5⟩
      | dia a =>
        refine iCndF rfl (iEq (pass hJ fun J hJ => iCndF rfl (iEq (pass hJ fun J hJ => iCndF rfl (iEq (pass hJ fun J hJ => iCndT rfl ?_))))))
        simp only [Fm.size] at hn
        have ha := txt_len 3 a
        refine iSlKFrom (i := 1) hs (Fm.size_pos _) fun u hu => ?_
        refine iRet (sub (l := 3) (by simp only [Fm.size]; omega) (fm_rest hu rfl) hg) fun w5 h5 => ?_
        refine iCat (a := [60, 62]) (by simp only [List.length_cons, List.length_nil]; omega) ?_
        exact hJ _ _ ⟨rfl, h5⟩
      | and a b =>
        refine iCndF rfl (iEq (pass hJ fun J hJ => iCndF rfl (iEq (pass hJ fun J hJ => iCndF rfl (iEq (pass hJ fun J hJ => iCndF rfl (iEq (pass hJ fun J hJ => iCndT rfl ?_))))))))
        simp only [Fm.size] at hn
        have ha := txt_len 2 a
        have hb := txt_len 3 b
        refine iCall ((ok_spec_l02Left hs (g := a) (gs := [b]) rfl (by simp only [Fm.size]; omega)).mono ?_)
        rintro u w4 ⟨h4, hu⟩
        refine iRet (sub (l := 2) (by simp only [Fm.size]; omega) hu hg.1) fun w5 h5 => ?_
        refine iCat (b := [38]) (by simp only [List.length_singleton]; omega) ?_
        have hs5 := (hs.ext h4).ext h5
        refine iCall ((ok_spec_l02Right hs5 (g := a) (h := b) rfl (by simp only [Fm.size]; omega)).mono ?_)
        rintro u' w6 ⟨h6, hu'⟩
        refine iRet (sub (l := 3) (by simp only [Fm.size]; omega) hu' hg.2) fun w7 h7 => ?_
        refine iCat (by simp only [List.length_append, List.length_singleton]; omega) ?_
        refine hJ _ _ ⟨?_, ((h4.trans h5).trans h6).trans h7⟩
        simp [Fm.body, Fm.txt, Fm.own]
      | or a b =>
        refine iCndF rfl (iEq (pass hJ fun J hJ => iCndF rfl (iEq (pass hJ fun J hJ => iCndF rfl (iEq (pass hJ fun J hJ => iCndF rfl (iEq (pass hJ fun J hJ => iCndF rfl (iEq (pass hJ fun J hJ => iCndT rfl ?_))))))))))
        simp only [Fm.size] at hn
        have ha := txt_len 1 a
        have hb := txt_len 2 b
        refine iCall ((ok_spec_l02Left hs (g := a) (gs := [b]) rfl (by simp only [Fm.size]; omega)).mono ?_)
        rintro u w4 ⟨h4, hu⟩
        refine iRet (sub (l := 1) (by simp only [Fm.size]; omega) hu hg.1) fun w5 h5 => ?_
        refine iCat (b := [124]) (by simp only [List.length_singleton]; omega) ?_
        have hs5 := (hs.ext h4).ext h5
        refine iCall ((ok_spec_l02Right hs5 (g := a) (h := b) rfl (by simp only [Fm.size]; omega)).mono ?_)
        rintro u' w6 ⟨h6, hu'⟩
        refine iRet (sub (l := 2) (by simp only [Fm.size]; omega) hu' hg.2) fun w7 h7 => ?_
        refine iCat (by simp only [List.length_append, List.length_singleton]; omega) ?_
        refine hJ _ _ ⟨?_, ((h4.trans h5).trans h6).trans h7⟩
        simp [Fm.body, Fm.txt, Fm.own]
      | imp a b =>
        refine iCndF rfl (iEq (pass hJ fun J hJ => iCndF rfl (iEq (pass hJ fun J hJ => iCndF rfl (iEq (pass hJ fun J hJ => iCndF rfl (iEq (pass hJ fun J hJ => iCndF rfl (iEq (pass hJ fun J hJ => iCndF rfl (iEq (pass hJ fun J hJ => iCndT rfl ?_))))))))))))
        have hbd : (Fm.imp a b).body = if b = .fls then (if a = .fls then [84] else 126 :: par (decide (a.own < 3)) a.body) else par (decide (a.own < 1)) a.body ++ 62 :: b.body := by rw [Fm.body]
        have how : (Fm.imp a b).own = if b = .fls then 3 else 0 := by rw [Fm.own]
        refine iCall ((ok_spec_l02True w).mono ?_)
        rintro vt w26 ⟨h26, hvt⟩
        refine iRet (ok_spec_l02Equal (hs.ext h26) hvt.sl (by omega)) fun w27 h27 => ?_
        have h27' := h26.trans h27
        have hs27 := hs.ext h27'
        have hsz : (Fm.imp a b).size = 1 + a.size + b.size := rfl
        refine pass hJ fun J hJ => ?_
        refine iCndP (fun h => ?_) (fun h => ?_)
        · cases h
          exact hJ _ _ ⟨by simp [Fm.body, Fm.own], h27'⟩
        · refine iCall ((ok_spec_l02Right hs27 (g := a) (h := b) rfl (by omega)).mono ?_)
          rintro u w30 ⟨h30, hu⟩
          have h30' := h27'.trans h30
          have hs30 := hs.ext h30'
          refine iFld (j := 0) hu rfl b.size_pos (by decide) (kind_fst hu).1 ?_
          refine iEq ?_
          refine pass hJ fun J hJ => ?_
          refine iCndP (fun hb => ?_) (fun hb => ?_)
          · have hb : b = .fls := by cases b <;> first | rfl | (simp [Fm.kind] at hb)
            have ha : ¬ a = .fls := fun e => h (by rw [e, hb])
            have hal := txt_len 3 a
            refine iCall ((ok_spec_l02Left hs30 (g := a) (gs := [b]) rfl (by omega)).mono ?_)
            rintro u' w33 ⟨h33, hu'⟩
            refine iRet (sub (l := 3) (by omega) hu' hg.1) fun w34 h34 => ?_
            refine iCat (a := [126]) (by simp only [List.length_singleton]; omega) ?_
            refine hJ _ _ ⟨?_, (h30'.trans h33).trans h34⟩
            rw [hbd, how, if_pos hb, if_pos hb, if_neg ha]
            rfl
          · have hb : ¬ b = .fls := fun e => hb (by rw [e]; rfl)
            have ha1 := txt_len 1 a
            have hb0 := txt_len 0 b
            refine iCall ((ok_spec_l02Left hs30 (g := a) (gs := [b]) rfl (by omega)).mono ?_)
            rintro u' w35 ⟨h35, hu'⟩
            refine iRet (sub (l := 1) (by omega) hu' hg.1) fun w36 h36 => ?_
            refine iCat (b := [62]) (by simp only [List.length_singleton]; omega) ?_
            have hs36 := (hs30.ext h35).ext h36
            refine iCall ((ok_spec_l02Right hs36 (g := a) (h := b) rfl (by omega)).mono ?_)
            rintro u'' w37 ⟨h37, hu''⟩
            refine iRet (sub (l := 0) (by omega) hu'' hg.2) fun w38 h38 => ?_
            refine iCat (by simp only [List.length_append, List.length_singleton]; omega) ?_
            refine hJ _ _ ⟨?_, (((h30'.trans h35).trans h36).trans h37).trans h38⟩
            rw [hbd, how, if_neg hb, if_neg hb]
            simp [Fm.txt, par]
theorem ok_spec_l02Text {v : Value} {f : Fm} {w : World} (hs : FmS w v f) (hg : f.good) (hn : f.size ≤ 1099511627776) : Ret Tryz.prog f_spec_l02Text #[v] w (sv f.body) := by
  apply c_spec_l02Text; unfold S_spec_l02Text
  refine iRet (ok_spec_l02Write _ (lv := 0) (Nat.le_refl _) hs hg hn) fun w1 h1 => ?_
  rw [txt_own (Nat.zero_le _)]
  exact ⟨by first | trivial | rfl, h1⟩
theorem ok_spec_ParseFormula (t : Str) (w : World) : Cal Tryz.prog f_spec_ParseFormula #[sv t] w fun r w' => Ext w w' ∧ ∃ v, r = .tuple #[v, .int .i64 (pAt t : Int), .int .i64 (pCode t)] ∧ (pCode t = 0 → FmW w.heap.size w' v (rd t).1) ∧ (¬ pCode t = 0 → v = .slice none 0 0) := by
  apply c_spec_ParseFormula; unfold S_spec_ParseFormula
  refine iLenT ?_
  refine iLt ?_
  refine iCndP (fun h => ?_) (fun h => ?_)
  · have e1 : pCode t = 3 := by unfold pCode; rw [if_pos (by omega)]
    have e2 : pAt t = 0 := by unfold pAt; rw [if_pos (by omega)]
    rw [e1, e2]
    exact ⟨Ext.refl _, _, rfl, (fun h => by cases h), fun _ => rfl⟩
  · have e1 : pCode t = if rdOk t then (if 40 < (rd t).1.size then 3 else 0) else 6 := by unfold pCode; rw [if_neg (by omega)]
    have e2 : pAt t = if rdOk t then 0 else rdAt t := by unfold pAt; rw [if_neg (by omega)]
    refine iCall ((ok_spec_l02Read (by omega) w).mono ?_)
    rintro r w1 ⟨h1, v, rfl, hv, -⟩
    refine iE20 ?_
    refine iE21 ?_
    cases hok : rdOk t
    · rw [if_neg (by decide)]
      refine iLe ?_
      refine iCndT (by simp) ?_
      rw [e1, e2, hok]
      exact ⟨h1, _, rfl, (fun h => by cases h), fun _ => rfl⟩
    · rw [if_pos rfl]
      refine iLe ?_
      refine iCndF (by decide) ?_
      rw [e1, e2, hok, if_pos rfl]
      refine iLenK (hv hok).sl ?_
      refine iLt ?_
      refine iCndP (fun h' => ?_) (fun h' => ?_)
      · rw [if_pos (show 40 < (rd t).1.size by omega)]
        exact ⟨h1, _, rfl, (fun h => by cases h), fun _ => rfl⟩
      · rw [if_neg (show ¬ 40 < (rd t).1.size by omega)]
        exact ⟨h1, _, rfl, fun _ => hv hok, fun h => absurd rfl h⟩
theorem ok_spec_l02Good (t : Str) (w : World) : Cal Tryz.prog f_spec_l02Good #[sv t] w fun r w' => Ext w w' ∧ ∃ v, r = .tuple #[v, .bool (goodT t)] ∧ (pCode t = 0 → FmW w.heap.size w' v (rd t).1) := by
  apply c_spec_l02Good; unfold S_spec_l02Good
  refine iCall ((ok_spec_ParseFormula t w).mono ?_)
  rintro r w1 ⟨h1, v, rfl, hv, -⟩
  refine iE30 ?_
  refine iE31 ?_
  refine iE32 ?_
  refine iJnX (fun xs w' => xs = [v, .bool (goodT t)] ∧ Ext w1 w') (fun J hJ => ?_) ?_
  · refine iEq ?_
    unfold goodT at hJ
    refine iCndP (fun hc => ?_) (fun hc => ?_)
    · rw [decide_eq_true hc, Bool.true_and] at hJ
      refine iRet (ok_spec_l02Text (hv hc).sl (rd_good t) (by have := (pCode_size hc).1; omega)) fun w4 h4 => ?_
      exact iEqT (hJ _ _ ⟨rfl, h4⟩)
    · rw [decide_eq_false hc, Bool.false_and] at hJ
      exact hJ _ _ ⟨rfl, Ext.refl _⟩
  · rintro xs w3 ⟨rfl, h3⟩
    intro _
    exact ⟨h1.trans h3, v, rfl, fun hc => (hv hc).ext h3⟩
end Go.Proofs.YteifjhpddhppcaaGreat

/- Contracts: rows of items (three cells each), in the laws' helpers, the program and the reference. Conditions: none. -/
namespace Go.Vc
theorem iStU {w : World} {e : TypeId} {b i : Nat} {cs : List Value} {v : Value} {K : World → Prop} (hB : Blk e w b cs) (hi : i < cs.length) (hv : isCell v = true) (h : ∀ w', Blk e w' b (cs.set i v) → Upd b w w' → K w') : xSt w (.pointer (some ⟨b, i, none⟩)) v K :=
  iStB hB hi hv fun h2 => h _ h2 (Upd.setCell w b i v)
/-! ### What is asked of items -/
end Go.Vc
namespace Go.Proofs.YteifjhpddhppcaaGreat
open Go.Vc
end Go.Proofs.YteifjhpddhppcaaGreat

/- Contracts: items asked and searched, rows of texts asked, in the program and the reference. Conditions: none. -/
namespace Go.Vc
end Go.Vc
namespace Go.Proofs.YteifjhpddhppcaaGreat
open Go.Vc
theorem ok_laws_toStringS {v : Value} {L : List Str} {w : World} (hs : SlT w v L) (hL : L.length ≤ 1048576) : Cal Tryz.prog f_laws_toStringS #[v] w fun r w' => Ext w w' ∧ Ow w.heap.size t_string w' r (strs L) := by
  apply c_laws_toStringS; unfold S_laws_toStringS
  refine iLenStr hs ?_
  refine iMk (n := L.length) (by omega) (by omega) rfl fun b w1 hb h1 hB => ?_
  refine iLp (fun j : Nat => [.int .i64 (j : Int)]) (fun j w' => j ≤ L.length ∧ Ext w w' ∧ ∃ M : List Str, M.length = L.length ∧ M.take j = L.take j ∧ Blk t_string w' b (strs M)) (fun j => L.length - j) 0 rfl ⟨Nat.zero_le _, h1, List.replicate L.length [], by simp, by simp, by simpa [strs] using hB⟩ ?_
  rintro j w3 Kn ⟨hj, h3, M, hM, hMt, hBj⟩ hKn
  intro _
  simp only [gx]
  refine iLenStr (hs.ext h3) ?_
  refine iLt ?_
  refine iCndP (fun h => ?_) (fun h => ?_)
  · refine iIaT (hs.ext h3) (by omega) fun p hp => ?_
    refine iLd hp ?_
    refine iIaL (j := j) (by omega) ?_
    rw [Nat.zero_add]
    refine iStU hBj (by rw [strs_len]; omega) rfl fun w4 hB4 u4 => ?_
    refine iAdd (by omega) ?_
    refine hKn (j + 1) _ ⟨by omega, h3.upd u4 (by omega), M.set j L[j], by rw [List.length_set]; exact hM, ?_, by simpa [strs, List.map_set] using hB4⟩ (by omega)
    rw [List.take_succ_eq_append_getElem (by rw [List.length_set]; omega), List.take_set_of_le (Nat.le_refl _), hMt, List.getElem_set_self, List.take_succ_eq_append_getElem (by omega)]
  · have : j = L.length := by omega
    subst this
    rw [List.take_of_length_le (by omega), List.take_length] at hMt
    subst hMt
    exact ⟨h3, Ow.ofBlk hBj (by omega) (strs_len M) (by omega)⟩
def ShortT (L : List Str) : Prop := ∀ x ∈ L, x.length ≤ 1048576
theorem ok_laws_szStringS {v : Value} {L : List Str} {w : World} (hs : SlT w v L) (hlen : ∀ x ∈ L, x.length ≤ 9223372036854775807) (left : Int) (h0 : 0 ≤ left ∧ left ≤ 1048576) : Cal Tryz.prog f_laws_szStringS #[v, .int .i64 left] w fun r w' => Ext w w' ∧ ∃ z : Int, r = .int .i64 z ∧ (z = -1 ∨ (0 ≤ z ∧ z ≤ left ∧ L.length ≤ 1048576 ∧ ShortT L)) := by
  apply c_laws_szStringS; unfold S_laws_szStringS
  have hln := hs.len
  rw [strs_len] at hln
  refine iLenStr hs ?_
  refine iSub (by omega) ?_
  refine iLt ?_
  refine iCndP (fun h => ?_) (fun h => ?_)
  · exact ⟨Ext.refl _, -1, rfl, .inl rfl⟩
  · refine iLp (fun s : Int × Nat => [.int .i64 s.1, .int .i64 (s.2 : Int)]) (fun s w' => s.2 ≤ L.length ∧ Ext w w' ∧ 0 ≤ s.1 ∧ s.1 ≤ left ∧ ∀ i, i < s.2 → (gt L i).length ≤ 1048576) (fun s => L.length - s.2) (left - L.length, 0) rfl ⟨Nat.zero_le _, Ext.refl _, by show 0 ≤ left - (L.length : Int); omega, by show left - (L.length : Int) ≤ left; omega, fun i hi => absurd hi (Nat.not_lt_zero i)⟩ ?_
    rintro ⟨z, j⟩ w2 Kn ⟨hj, h2, hz0, hz1, hsh⟩ hKn
    have hj : j ≤ L.length := hj
    have hz0 : 0 ≤ z := hz0
    have hz1 : z ≤ left := hz1
    intro _
    simp only [gx]
    refine iLenStr (hs.ext h2) ?_
    refine iLt ?_
    refine iCndP (fun h3 => ?_) (fun h3 => ?_)
    · refine iIaT (hs.ext h2) (show j < L.length by omega) fun p hp => ?_
      refine iLd hp ?_
      have hx := hlen L[j] (List.getElem_mem _)
      refine iLenT ?_
      refine iSub (by omega) ?_
      refine iLt ?_
      refine iCndP (fun h4 => ?_) (fun h4 => ?_)
      · exact ⟨h2, -1, rfl, .inl rfl⟩
      · refine iAdd (by omega) ?_
        refine hKn (z - L[j].length, j + 1) _ ⟨by show j + 1 ≤ L.length; omega, h2, by show 0 ≤ z - (L[j].length : Int); omega, by show z - (L[j].length : Int) ≤ left; omega, fun i hi => ?_⟩ (by show L.length - (j + 1) < L.length - j; omega)
        by_cases hij : i = j
        · subst hij; rw [gt_eq (show i < L.length by omega)]; omega
        · exact hsh i (by have hi : i < j + 1 := hi; omega)
    · refine ⟨h2, z, rfl, .inr ⟨hz0, hz1, by omega, fun x hx => ?_⟩⟩
      obtain ⟨i, hi, rfl⟩ := List.getElem_of_mem hx
      rw [← gt_eq hi]
      exact hsh i (by show i < j; omega)
end Go.Proofs.YteifjhpddhppcaaGreat

/- Contracts of the laws' own functions on lists of int64 and on frames. Conditions: none. -/
namespace Go.Proofs.YteifjhpddhppcaaGreat
open Go.Vc
def szN (n : Nat) (left : Int) : Int := if left - n < 0 then -1 else left - n
def marks (k n : Nat) : List Int := (List.range n).map fun i => ((k + i : Nat) : Int)
def heldN (k : Nat) (l : List Int) : Int := if l = marks k l.length then ((k + l.length : Nat) : Int) else -1

theorem take_succ_ints (l : List Int) (k : Nat) (h : k < l.length) : (ints l).take (k + 1) = (ints l).take k ++ [.int .i64 (l.getD k 0)] := by
  rw [List.take_succ_eq_append_getElem (by simpa [ints] using h)]
  simp [ints, h]
theorem set_fill {α : Type} (l : List α) (z x : α) (k n : Nat) (hk : k < n) (hl : l.length = k) : (l ++ List.replicate (n - k) z).set k x = (l ++ [x]) ++ List.replicate (n - (k + 1)) z := by
  have : n - k = (n - (k + 1)) + 1 := by omega
  rw [this, List.replicate_succ, List.set_append_right _ _ (by omega)]
  simp [hl]

theorem ok_laws_szInt64S {v : Value} {w : World} {l : List Int} (hs : SlI w v l) (left : Int) (h0 : 0 ≤ left ∧ left ≤ 1048576) : Ret Tryz.prog f_laws_szInt64S #[v, .int .i64 left] w (.int .i64 (szN l.length left)) := by
  have hl := hs.len
  apply c_laws_szInt64S; unfold S_laws_szInt64S
  ((with_reducible refine iLenI (by assumption) ?_); refine iSub (by omega) ?_; (with_reducible refine iLt ?_))
  refine iCndP (fun h1 => ?_) (fun h1 => ?_)
  all_goals exact ⟨by simp [szN, h1], Ext.refl _⟩
theorem ok_laws_toInt64S {v : Value} {w : World} {l : List Int} (hs : SlI w v l) (hl : l.length ≤ 1048576) :
    Cal Tryz.prog f_laws_toInt64S #[v] w fun v' w' => Ext w w' ∧ Ow w.heap.size t_i64 w' v' (ints l) := by
  apply c_laws_toInt64S; unfold S_laws_toInt64S
  ((with_reducible refine iLenI (by assumption) ?_))
  refine iMk (n := l.length) (by omega) (by omega) rfl fun b w1 hb h1 hB => ?_
  refine iLp (fun k : Nat => [.int .i64 (k : Int)]) (fun k w' => k ≤ l.length ∧ Ext w w' ∧ Blk t_i64 w' b ((ints l).take k ++ List.replicate (l.length - k) (Value.int .i64 0))) (fun k => l.length - k) 0 rfl ⟨Nat.zero_le _, h1, by simpa using hB⟩ ?_
  rintro k w2 Kn ⟨hk, h2, hB⟩ hKn
  have hs2 := hs.ext h2
  (intro _; (try simp only [gx]); (with_reducible refine iLenI (by assumption) ?_; refine iLt ?_))
  have hlen : ((ints l).take k ++ List.replicate (l.length - k) (Value.int .i64 0)).length = l.length := by simp [ints]; omega
  refine iCndP (fun h3 => ?_) (fun h3 => ?_)
  · ((with_reducible refine iIaN (by assumption) ?_ (fun pa_ hpa_ => ?_)); omega; (with_reducible refine iLd (by assumption) ?_))
    refine iIaL (by omega) ?_
    refine iStB (e := t_i64) (i := 0 + k) hB (by omega) rfl fun hB2 => ?_
    (refine iAdd (by omega) ?_)
    refine hKn (k + 1) _ ⟨by omega, ext_set h2 (by simp; omega) _, ?_⟩ (by omega)
    rw [Nat.zero_add, set_fill _ _ _ k _ (by omega) (by simp [ints]; omega)] at hB2
    rw [take_succ_ints l k (by omega)]
    simpa using hB2
  · obtain rfl : k = l.length := by omega
    refine ⟨h2, Ow.ofBlk (cs := ints l) ?_ (by omega) (by simp [ints]) (by omega)⟩
    have : (ints l).take l.length = ints l := List.take_of_length_le (by simp [ints])
    simpa [this] using hB
theorem ok_laws_eqInt64S {v v' : Value} {w : World} {l l' : List Int} (hs : SlI w v l) (hs' : SlI w v' l') : Ret Tryz.prog f_laws_eqInt64S #[v, v'] w (.bool (decide (l = l'))) := by
  have hl := hs.len
  have hl' := hs'.len
  apply c_laws_eqInt64S; unfold S_laws_eqInt64S
  ((with_reducible refine iLenI (by assumption) ?_; refine iLenI (by assumption) ?_; refine iNe ?_))
  refine iCndP (fun h1 => ?_) (fun h1 => ?_)
  · exact ⟨by simp; intro e; exact h1 (by rw [e]), Ext.refl _⟩
  have hn : l.length = l'.length := by omega
  refine iLp (fun k : Nat => [.int .i64 (k : Int)]) (fun k w' => k ≤ l.length ∧ Ext w w' ∧ l.take k = l'.take k) (fun k => l.length - k) 0 rfl ⟨Nat.zero_le _, Ext.refl _, by simp⟩ ?_
  rintro k w2 Kn ⟨hk, h2, ht⟩ hKn
  have hs2 := hs.ext h2
  have hs2' := hs'.ext h2
  (intro _; (try simp only [gx]); (with_reducible refine iLenI (by assumption) ?_; refine iLt ?_))
  refine iCndP (fun h3 => ?_) (fun h3 => ?_)
  · ((with_reducible refine iIaN (by assumption) ?_ (fun pa_ hpa_ => ?_)); omega; (with_reducible refine iLd (by assumption) ?_); (with_reducible refine iIaN (by assumption) ?_ (fun pa_ hpa_ => ?_)); omega; (with_reducible refine iLd (by assumption) ?_; refine iNe ?_))
    intro w3 h23
    have hk1 : k < l.length := by omega
    have hk2 : k < l'.length := by omega
    refine iCndP (fun h4 => ?_) (fun h4 => ?_)
    · refine ⟨by simp; intro e; exact h4 (by rw [e]), h2.trans h23⟩
    · (refine iAdd (by omega) ?_)
      refine hKn (k + 1) _ ⟨by omega, h2.trans h23, ?_⟩ (by omega)
      rw [List.take_succ_eq_append_getElem hk1, List.take_succ_eq_append_getElem hk2, ht]
      simp [hk1, hk2] at h4
      rw [h4]
  · have : l = l' := by
      rw [List.take_of_length_le (by omega), List.take_of_length_le (by omega)] at ht; exact ht
    exact ⟨by simp [this], h2⟩
/-- What marking leaves. -/
theorem marks_take (k : Nat) (l : List Int) (j : Nat) (hj : j < l.length) : ((ints (marks k j)) ++ (ints l).drop j).set j (.int .i64 ((k + j : Nat) : Int)) = ints (marks k (j + 1)) ++ (ints l).drop (j + 1) := by
  have h1 : (ints (marks k j)).length = j := by simp [ints, marks]
  rw [List.set_append_right _ _ (by omega), h1, Nat.sub_self, List.drop_eq_getElem_cons (by simpa [ints] using hj)]
  simp [marks, ints, List.range_succ]
theorem ok_laws_markInt64S {lo : Nat} {v : Value} {w : World} {l : List Int} (hs : Ow lo t_i64 w v (ints l)) (k : Nat) (hk : k + l.length ≤ 9223372036854775807) :
    Cal Tryz.prog f_laws_markInt64S #[v, .int .i64 (k : Int)] w fun v' w' => v' = .int .i64 ((k + l.length : Nat) : Int) ∧ Ow lo t_i64 w' v (ints (marks k l.length)) ∧ w.grownBy w' v.ownBlock := by
  apply c_laws_markInt64S; unfold S_laws_markInt64S
  refine iLp (fun j : Nat => [.int .i64 ((k + j : Nat) : Int), .int .i64 (j : Int)]) (fun j w' => j ≤ l.length ∧ Ow lo t_i64 w' v (ints (marks k j) ++ (ints l).drop j) ∧ w.grownBy w' v.ownBlock) (fun j => l.length - j) 0 rfl ⟨Nat.zero_le _, by simpa [marks, ints] using hs, ⟨rfl, rfl, rfl, Nat.le_refl _, fun _ _ _ => rfl⟩⟩ ?_
  rintro j w2 Kn ⟨hj, h2, hg⟩ hKn
  have hsl : Sl w2 v _ := h2.sl
  have hlen : (ints (marks k j) ++ (ints l).drop j).length = l.length := by simp [ints, marks]; omega
  (intro _; (try simp only [gx]); (with_reducible refine iLenS (by assumption) ?_; refine iLt ?_))
  rw [hlen]
  refine iCndP (fun h3 => ?_) (fun h3 => ?_)
  · refine iIaOw h2 (by omega) (by omega) fun b o ho hlo hlt hc hf hst => ?_
    have hc' : ∃ x, w2.cell? ⟨b, o, none⟩ = some x := ⟨_, hc.trans (List.getElem?_eq_getElem (by omega))⟩
    obtain ⟨x, hx⟩ := hc'
    refine iSt hx hf rfl ?_
    (refine iAdd (by omega) ?_; refine iAdd (by omega) ?_)
    refine hKn (j + 1) _ ⟨by omega, ?_, ?_⟩ (by omega)
    · have := hst (.int .i64 ((k + j : Nat) : Int))
      rw [Int.toNat_natCast, marks_take k l j (by omega)] at this
      exact this
    · rw [ho]
      exact ⟨hg.os, hg.tape, hg.output, by have := hg.size; simpa using this, fun i hi hne => by
        rw [ho] at hg
        rw [Go.RowKit.Below.heap_setCell _ _ _ _ (fun e => hne (by rw [e]))]; exact hg.block i hi hne⟩
  · obtain rfl : j = l.length := by omega
    refine ⟨rfl, ?_, hg⟩
    rw [List.drop_of_length_le (by simp [ints])] at h2
    simpa using h2
/-- What asking back answers. -/
theorem ok_laws_heldInt64S {v : Value} {w : World} {l : List Int} (hs : SlI w v l) (k : Nat) (hk : k + l.length ≤ 9223372036854775807) : Ret Tryz.prog f_laws_heldInt64S #[v, .int .i64 (k : Int)] w (.int .i64 (heldN k l)) := by
  apply c_laws_heldInt64S; unfold S_laws_heldInt64S
  refine iLp (fun j : Nat => [.int .i64 ((k + j : Nat) : Int), .int .i64 (j : Int)]) (fun j w' => j ≤ l.length ∧ Ext w w' ∧ l.take j = marks k j) (fun j => l.length - j) 0 rfl ⟨Nat.zero_le _, Ext.refl _, by simp [marks]⟩ ?_
  rintro j w2 Kn ⟨hj, h2, ht⟩ hKn
  have hs2 := hs.ext h2
  (intro _; (try simp only [gx]); (with_reducible refine iLenI (by assumption) ?_; refine iLt ?_))
  refine iCndP (fun h3 => ?_) (fun h3 => ?_)
  · ((with_reducible refine iIaN (by assumption) ?_ (fun pa_ hpa_ => ?_)); omega; (with_reducible refine iLd (by assumption) ?_; refine iNe ?_))
    have hj1 : j < l.length := by omega
    have hg : l.getD j 0 = l[j] := by simp [hj1]
    rw [hg]
    refine iCndP (fun h4 => ?_) (fun h4 => ?_)
    · refine ⟨?_, h2⟩
      have : l ≠ marks k l.length := by
        intro e
        apply h4
        have : l[j]? = (marks k l.length)[j]? := congrArg (·[j]?) e
        simp [marks, hj1] at this
        omega
      simp [heldN, this]
    · (refine iAdd (by omega) ?_; refine iAdd (by omega) ?_)
      refine hKn (j + 1) _ ⟨by omega, h2, ?_⟩ (by omega)
      rw [List.take_succ_eq_append_getElem hj1, ht]
      have : l[j] = ((k + j : Nat) : Int) := by omega
      simp [marks, List.range_succ, this]
  · obtain rfl : j = l.length := by omega
    rw [List.take_of_length_le (Nat.le_refl _)] at ht
    exact ⟨by simp only [heldN, if_pos ht], h2⟩
end Go.Proofs.YteifjhpddhppcaaGreat

/- Contracts: texts that use a name (Users), in the program and the reference; the law on it. Conditions: none. -/
namespace Go.Vc
theorem any_gt {T : List Str} {p : Str → Bool} {i : Nat} (hi : i < T.length) (h : p (gt T i) = true) : T.any p = true := List.any_eq_true.2 ⟨T[i], List.getElem_mem _, by rw [← gt_eq hi]; exact h⟩
theorem any_no {T : List Str} {p : Str → Bool} (h : ∀ i, i < T.length → p (gt T i) = false) : T.any p = false := by
  rw [List.any_eq_false]
  intro x hx
  obtain ⟨i, hi, rfl⟩ := List.getElem_of_mem hx
  rw [← gt_eq hi, h i hi]
  exact Bool.false_ne_true
theorem iIaG {w : World} {v : Value} {L : List Str} {z : Int} {j : Nat} {k : IntKind} {K : Value → Prop} (hs : SlT w v L) (hz : z = (j : Int)) (hj : j < L.length) (h : K (sv (gt L j))) : xIa 1 v (.int k z) fun p => xLd w p K := by
  subst hz
  exact iIaT hs hj fun p hp => iLd hp (by rw [← gt_eq hj]; exact h)
end Go.Vc
namespace Go.Proofs.YteifjhpddhppcaaGreat
open Go.Vc
theorem ok_slices_ContainsFuncT {v fv : Value} {L : List Str} {p : Str → Bool} {w : World} (hs : SlT w v L) (hf : ∀ x ∈ L, ∀ w', Ext w w' → callV Tryz.prog fv [sv x] w' fun u w'' => u = .bool (p x) ∧ Ext w' w'') : Ret Tryz.prog f_slices_ContainsFunc_Sstring_string #[v, fv] w (.bool (L.any p)) := by
  apply c_slices_ContainsFunc_Sstring_string; unfold S_slices_ContainsFunc_Sstring_string
  have hln := hs.len
  rw [strs_len] at hln
  refine iCall (Cal.mono (R := fun r w' => Ext w w' ∧ ∃ z : Int, r = .int .i64 z ∧ (decide (0 ≤ z) = L.any p)) ?_ ?_)
  · apply c_slices_IndexFunc_Sstring_string; unfold S_slices_IndexFunc_Sstring_string
    refine iLenStr hs ?_
    refine iLp (fun i : Nat => [.int .i64 (i : Int)]) (fun i w' => i ≤ L.length ∧ Ext w w' ∧ ∀ j, j < i → p (gt L j) = false) (fun i => L.length - i) 0 rfl ⟨Nat.zero_le _, Ext.refl _, fun j hj => by omega⟩ ?_
    rintro i w2 Kn ⟨hi, h2, hno⟩ hKn
    intro _
    simp only [gx]
    refine iLt ?_
    refine iCndP (fun h => ?_) (fun h => ?_)
    · refine iIaG (hs.ext h2) rfl (by omega) ?_
      refine (hf (gt L i) (by rw [gt_eq (show i < L.length by omega)]; exact List.getElem_mem _) w2 h2).mono ?_
      rintro u w3 ⟨rfl, h23⟩
      refine iCnd (fun h3 => ?_) (fun h3 => ?_)
      · exact ⟨h2.trans h23, _, rfl, by rw [any_gt (by omega) h3]; simp⟩
      · refine iAdd (by omega) ?_
        refine hKn (i + 1) _ ⟨by omega, h2.trans h23, fun j hj => ?_⟩ (by omega)
        by_cases hji : j = i
        · subst hji; exact h3
        · exact hno j (by omega)
    · exact ⟨h2, -1, rfl, by rw [any_no fun j hj => hno j (by omega)]; rfl⟩
  · rintro r w1 ⟨h1, z, rfl, hz⟩
    refine iLe ?_
    rw [hz]
    exact ⟨by first | trivial | rfl, h1⟩
end Go.Proofs.YteifjhpddhppcaaGreat

/- Plain maths: what holds in all intuitionistic models; two contraction-free searches decide it. No program in sight. Conditions: none. -/
namespace Go.Vc
/-- Without the modal signs. -/
def Fm.plain : Fm → Bool
  | .var _ => true
  | .fls => true
  | .and a b => a.plain && b.plain
  | .or a b => a.plain && b.plain
  | .imp a b => a.plain && b.plain
  | .box _ => false
  | .dia _ => false
/-! ### Models -/
/-! ### What the rules for the left side do -/
/-! ### A model of many, with a root below -/
section
end
/-! ### The rule for (x > y) > z on the left side -/
section
variable {G rest : List Fm} {x y z c : Fm} (hG : ∀ a, a ∈ G ↔ a = .imp (.imp x y) z ∨ a ∈ rest)
 include hG
end
/-! ### The other rules for the left side -/
section
variable {G rest : List Fm} {a b x y c : Fm}
end
/-! ### A measure that each premise makes smaller -/
end Go.Vc

/- Plain maths: a measure that the premises of both searches make smaller; sets of texts of formulas. No program in sight. Conditions: none. -/
namespace Go.Vc
/-! ### Texts of plain formulas -/
def fT (t : Str) : Fm := (rd t).1
theorem fT_body {a : Fm} (h : a.good) : fT a.body = a := by rw [fT, rd_text h]
end Go.Vc

/- Plain maths: what the program's search for intuitionistic proofs does with texts, and that each step keeps what holds. No program in sight. Conditions: none. -/
namespace Go.Vc
abbrev Sq := List Str × Str
end Go.Vc

/- Plain maths: what a left side forces directly; a move is always there. No program in sight. Conditions: none. -/
namespace Go.Vc
/-- With one text more. -/
abbrev addT (L : List Str) (t : Str) : List Str := setT (L ++ [t])
theorem mem_addT {L : List Str} {t u : Str} : u ∈ addT L t ↔ u ∈ L ∨ u = t := by
  rw [mem_setT, List.mem_append, List.mem_singleton]
end Go.Vc

/- Plain maths: the moves of the program's proofs; each keeps what holds and makes a measure smaller. No program in sight. Conditions: none. -/
namespace Go.Vc
/-! ### Parts, and what a left side lacks of them -/
/-! ### Moves -/
end Go.Vc

/- Plain maths: small sequents; the inferences of a proof that is being built. No program in sight. Conditions: none. -/
namespace Go.Vc
/-! ### Proofs -/
structure Inf where
  rule : Nat
  prem : List Nat
  left : List Str
  right : Str
  main : Str
instance : Inhabited Inf := ⟨⟨0, [], [], [], []⟩⟩
end Go.Vc

/- Memory: rows of inferences. Conditions: none. -/
namespace Go.Vc
/-- An inference in memory. -/
structure IV where
  i : Inf
  vp : Value
  vl : Value
def IV.cs (x : IV) : List Value := [.int .i64 (x.i.rule : Int), x.vp, x.vl, sv x.i.right, sv x.i.main]
def cells5 (R : List IV) : List Value := R.flatMap IV.cs
theorem cells5_app (A B : List IV) : cells5 (A ++ B) = cells5 A ++ cells5 B := by simp [cells5]
instance : Inhabited IV := ⟨⟨default, .slice none 0 0, .slice none 0 0⟩⟩
theorem cells5_at : ∀ {R : List IV} {j : Nat}, j < R.length → ∀ k, k < 5 → (cells5 R)[j * 5 + k]? = (gt R j).cs[k]?
  | [], j, h, _, _ => absurd h (Nat.not_lt_zero j)
  | x :: R, 0, _, k, hk => by
    rw [show cells5 (x :: R) = x.cs ++ cells5 R by simp [cells5], Nat.zero_mul, Nat.zero_add, List.getElem?_append_left (by simp [IV.cs]; omega)]
    rfl
  | x :: R, j + 1, h, k, hk => by
    have := cells5_at (R := R) (j := j) (by simpa using h) k hk
    rw [show cells5 (x :: R) = x.cs ++ cells5 R by simp [cells5], show (j + 1) * 5 + k = j * 5 + k + 5 by omega, List.getElem?_append_right (by simp [IV.cs])]
    rw [show j * 5 + k + 5 - x.cs.length = j * 5 + k by simp [IV.cs]]
    exact this
theorem iBs15 {w : World} {e : TypeId} {a b c d f z0 z1 z2 z3 z4 : Value} {K : Value → World → Prop} (h : ∀ bb w', bb = w.heap.size ∧ w'.heap.size = bb + 1 → Ext w w' → Blk e w' bb [a, b, c, d, f] → K (.slice (some ⟨bb, 0, none⟩) 1 1) w') :
    xBs e (Value.cells (.agg #[z0, z1, z2, z3, z4])) 5 1 [(0, .agg #[a, b, c, d, f])] w K := by
  refine ⟨#[a, b, c, d, f], ?_, h _ _ ⟨rfl, by simp⟩ (Ext.alloc w _) (Blk.new w #[a, b, c, d, f] e)⟩
  simp [Instr.fill, Value.cells, show Array.range 5 = #[0, 1, 2, 3, 4] from rfl]
theorem gt_end {α : Type} [Inhabited α] (P : List α) (x : α) : gt (P ++ [x]) P.length = x := by
  rw [gt_eq (by rw [List.length_append]; simp)]; simp
theorem map_gt {α β : Type} [Inhabited α] [Inhabited β] {f : α → β} {L : List α} {k : Nat} (h : k < L.length) : gt (L.map f) k = f (gt L k) := by
  rw [gt_eq (by rw [List.length_map]; exact h), gt_eq h, List.getElem_map]
theorem iSlKToH {k n i : Nat} {ki : IntKind} {w : World} {v : Value} {xs : List Value} {K : Value → Prop} (hs : SlK k w v n xs) (hi : i ≤ n) (h : ∀ v', SlK k w v' i (xs.take (i * k)) → K v') : xSl k v none (some (.int ki (i : Int))) K := by
  obtain ⟨h0, a, c, rfl, h2, h3, h4⟩ := hs
  have hle : i * k ≤ n * k := Nat.mul_le_mul_right _ hi
  refine ⟨_, _, _, 0, i, rfl, ⟨ki, rfl⟩, rfl, Nat.zero_le _, by omega, ?_⟩
  refine h _ ⟨by rw [List.length_take]; omega, _, _, by rw [Nat.sub_zero], by omega, by omega, ?_⟩
  rcases Nat.eq_zero_or_pos i with hz | hz
  · exact .inl hz
  · rcases h4 with h4 | ⟨b, o, rfl, hc⟩
    · omega
    · refine .inr ⟨b, o, ?_, fun j hj => ?_⟩
      · rw [if_neg (by omega), Option.map_some]
        simp [Addr.add]
      · rw [hc j (by omega), List.getElem?_take, if_pos hj]
theorem iNew5 {w : World} {e : TypeId} {a b c d f : Value} {K : Value → World → Prop} (h : ∀ q w', q = w.heap.size ∧ w'.heap.size = q + 1 → Ext w w' → Blk e w' q [a, b, c, d, f] → K (.pointer (some ⟨q, 0, none⟩)) w') : xNew (Value.cells (.agg #[a, b, c, d, f])) e w K :=
  iNew fun q w' h1 h2 h3 => h q w' h1 h2 (by simpa [Value.cells] using h3)
theorem owk_no {k lo n b : Nat} {e e' : TypeId} {w : World} {v : Value} {xs cs : List Value} (h : OwK k lo e w v n xs) (hB : Blk e' w b cs) (hne : e ≠ e') : ¬ v.ownBlock = some b := fun hc => by
  obtain ⟨_, h0 | ⟨g, cap, cur, hv, hg, hh, _⟩⟩ := h
  · rw [h0.1] at hc; cases hc
  · rw [hv] at hc
    cases hc
    unfold Blk at hB
    rw [hh] at hB
    exact hne (by cases hB; rfl)
theorem ne_ty {w : World} {e e' : TypeId} {c : Nat} (h : ∃ cur, w.heap[c]? = some (.cells cur e (0, 0))) (h' : ∃ cur, w.heap[c]? = some (.cells cur e' (0, 0))) : e = e' := by
  obtain ⟨_, h⟩ := h
  obtain ⟨_, h'⟩ := h'
  rw [h] at h'; cases h'; rfl
end Go.Vc
namespace Go.Proofs.YteifjhpddhppcaaGreat
open Go.Vc
theorem iAt5 {w : World} {v : Value} {n : Nat} {R : List IV} {j : Nat} {k : IntKind} {K : Value → Prop} (hs : SlK 5 w v n (cells5 R)) (hn : n = R.length) (hj : j < R.length) (h : K (.agg (gt R j).cs.toArray)) : xIa 5 v (.int k (j : Int)) fun p => xLdA w 5 p K := by
  subst hn
  refine iLdK (cs := (gt R j).cs.toArray) hs rfl hj rfl (fun i hi => ?_) h
  rw [cells5_at hj i hi]
  simp
end Go.Proofs.YteifjhpddhppcaaGreat

/- Plain maths: a text reads on when '(p)' in it is replaced by the text of a formula in parentheses. No program in sight. Conditions: none. -/
namespace Go.Vc
end Go.Vc

/- Contracts: expressions with their references replaced by items' formulas, in the program and the reference. Conditions: none. -/
namespace Go.Vc
theorem goodT_body {t : Str} (h : goodT t = true) : (∃ a : Fm, a.good ∧ t = a.body) ∧ t.length ≤ 200 := by
  unfold goodT at h
  rw [Bool.and_eq_true, decide_eq_true_eq, decide_eq_true_eq] at h
  exact ⟨⟨_, rd_good t, h.2.symm⟩, (pCode_size h.1).2.1⟩
end Go.Vc
namespace Go.Proofs.YteifjhpddhppcaaGreat
open Go.Vc
/-- A row of formulas. -/
def FmsS (w : World) (vs : List Value) (fs : List Fm) : Prop := vs.length = fs.length ∧ ∀ i, i < fs.length → ∃ v, vs[i]? = some v ∧ FmS w v (fs.getD i .fls)
end Go.Proofs.YteifjhpddhppcaaGreat

/- Plain maths: deductions, and the sequent proofs that are made of them. No program in sight. Conditions: none. -/
namespace Go.Vc
structure Ded where
  rule : Int
  prem : List Int
  asm : List Str
  con : Str
  num : Int
instance : Inhabited Ded := ⟨⟨0, [], [], [], 0⟩⟩
/-- A text of a plain formula. -/
def plT (t : Str) : Bool := goodT t && (fT t).plain
theorem plT_at {t : Str} (h : plT t = true) : goodT t = true ∧ (fT t).good ∧ (fT t).plain = true ∧ (fT t).body = t ∧ pCode t = 0 := by
  unfold plT at h
  rw [Bool.and_eq_true] at h
  have hg := h.1
  obtain ⟨⟨a, ha, rfl⟩, -⟩ := goodT_body hg
  unfold goodT at hg
  rw [Bool.and_eq_true, decide_eq_true_eq] at hg
  have e := fT_body ha
  exact ⟨h.1, by rw [e]; exact ha, h.2, by rw [e], hg.1⟩
def jdg (s : Ded) : Sq := (s.asm, s.con)
/-- The two parts of a text of kind k. -/
def parK (t : Str) (k : Nat) : Option (Str × Str) := match fT t with
  | .and x y => if k = 2 then some (x.body, y.body) else none
  | .or x y => if k = 3 then some (x.body, y.body) else none
  | .imp x y => if k = 4 then some (x.body, y.body) else none
  | _ => none
theorem parK_some {t : Str} {k : Nat} {p : Str × Str} (h : parK t k = some p) : (fT t).kind = k ∧ ∃ x y, (fT t).kids = [x, y] ∧ p = (x.body, y.body) := by
  unfold parK at h
  cases e : fT t with
  | and x y => rw [e] at h; simp only [Option.ite_none_right_eq_some, Option.some.injEq] at h; exact ⟨h.1.symm, x, y, rfl, h.2.symm⟩
  | or x y => rw [e] at h; simp only [Option.ite_none_right_eq_some, Option.some.injEq] at h; exact ⟨h.1.symm, x, y, rfl, h.2.symm⟩
  | imp x y => rw [e] at h; simp only [Option.ite_none_right_eq_some, Option.some.injEq] at h; exact ⟨h.1.symm, x, y, rfl, h.2.symm⟩
  | _ => rw [e] at h; cases h
/-- Whether a rule goes from the judgements G to a step. -/
def ruleB (s : Ded) (G : List Sq) : Bool :=
  if s.rule = 1 then decide (G = []) && (decide (0 ≤ s.num ∧ s.num ≤ (s.asm.length : Int) - 1) && decide (gt s.asm s.num.toNat = s.con))
  else if s.rule = 2 then decide (G = [(s.asm, Fm.fls.body)])
  else if s.rule = 3 then (match parK s.con 2 with | some p => decide (G = [(s.asm, p.1), (s.asm, p.2)]) | none => false)
  else if s.rule = 4 then (match G with | [g] => decide (g.1 = s.asm) && (match parK g.2 2 with | some p => decide (p.1 = s.con) | none => false) | _ => false)
  else if s.rule = 5 then (match G with | [g] => decide (g.1 = s.asm) && (match parK g.2 2 with | some p => decide (p.2 = s.con) | none => false) | _ => false)
  else if s.rule = 6 then (match parK s.con 3 with | some p => decide (G = [(s.asm, p.1)]) | none => false)
  else if s.rule = 7 then (match parK s.con 3 with | some p => decide (G = [(s.asm, p.2)]) | none => false)
  else if s.rule = 8 then (match G with | g :: r => decide (g.1 = s.asm) && (match parK g.2 3 with | some p => decide (r = [(s.asm ++ [p.1], s.con), (s.asm ++ [p.2], s.con)]) | none => false) | [] => false)
  else if s.rule = 9 then (match parK s.con 4 with | some p => decide (G = [(s.asm ++ [p.1], p.2)]) | none => false)
  else if s.rule = 10 then (match G with | g :: r => decide (g.1 = s.asm) && (match parK g.2 4 with | some p => decide (p.2 = s.con) && decide (r = [(s.asm, p.1)]) | none => false) | [] => false)
  else false
def shapeD (s : Ded) : Bool := (decide (s.asm.length ≤ 12) && s.asm.all plT) && (plT s.con && (decide (s.rule = 1) || decide (s.num = 0)))
def inD (k : Nat) (s : Ded) : Bool := s.prem.all fun q => decide (0 ≤ q ∧ q ≤ (k : Int) - 1)
def givenD (P : List Ded) (s : Ded) : List Sq := s.prem.map fun q => jdg (gt P q.toNat)
/-- Step k of a deduction is good. -/
def goodD (P : List Ded) (k : Nat) : Bool := shapeD (gt P k) && (inD k (gt P k) && ruleB (gt P k) (givenD P (gt P k)))
def allGoodD (P : List Ded) : Bool := (List.range P.length).all fun k => goodD P k
def codeD (P : List Ded) : Int := if 1 ≤ P.length ∧ P.length ≤ 120 then (if allGoodD P then 0 else 5) else 3
/-- What is made of a step, behind the inferences Q. -/
def makeD (N : Nat) (s : Ded) (at_ : List Nat) (a : Str) : List Inf :=
  let L := setT s.asm
  let c := s.con
  let W := addT L a
  if s.rule = 1 then [⟨1, [], L, c, []⟩]
  else if s.rule = 2 then [⟨2, [], addT L Fm.fls.body, c, []⟩, ⟨11, [gt at_ 0, N], L, c, Fm.fls.body⟩]
  else if s.rule = 3 then [⟨4, at_, L, c, []⟩]
  else if s.rule = 4 ∨ s.rule = 5 then (match parK a 2 with | some p => [⟨1, [], setT (W ++ [p.1, p.2]), c, []⟩, ⟨3, [N], W, c, a⟩, ⟨11, [gt at_ 0, N + 1], L, c, a⟩] | none => [])
  else if s.rule = 6 then [⟨6, at_, L, c, []⟩]
  else if s.rule = 7 then [⟨7, at_, L, c, []⟩]
  else if s.rule = 8 then (match parK a 3 with | some p => [⟨10, [gt at_ 1], addT W p.1, c, []⟩, ⟨10, [gt at_ 2], addT W p.2, c, []⟩, ⟨5, [N, N + 1], W, c, a⟩, ⟨11, [gt at_ 0, N + 2], L, c, a⟩] | none => [])
  else if s.rule = 9 then [⟨9, at_, L, c, []⟩]
  else (match parK a 4 with | some p => [⟨10, [gt at_ 1], W, p.1, []⟩, ⟨1, [], addT W p.2, c, []⟩, ⟨8, [N, N + 1], W, c, a⟩, ⟨11, [gt at_ 0, N + 2], L, c, a⟩] | none => [])
/-- The inferences and where each step stands, after k steps. -/
def seqD (P : List Ded) : Nat → List Inf × List Nat
  | 0 => ([], [])
  | k + 1 =>
    let q := seqD P k
    let s := gt P k
    let m := makeD q.1.length s (s.prem.map fun j => gt q.2 j.toNat) (gt P (gt s.prem 0).toNat).con
    (q.1 ++ m, q.2 ++ [q.1.length + m.length - 1])
def limD (Q : List Inf) : Bool := decide (Q.length ≤ 60) && Q.all fun x => decide (x.left.length ≤ 12)
end Go.Vc

/- Plain maths: the reference's way to ask whether a rule of a deduction is kept. No program in sight. Conditions: none. -/
namespace Go.Vc
def countD (r : Int) : Int := if r = 1 then 0 else if r = 2 ∨ r = 4 ∨ r = 5 ∨ r = 6 ∨ r = 7 ∨ r = 9 then 1 else if r = 3 ∨ r = 10 then 2 else if r = 8 then 3 else -1
theorem len_two {α : Type} {L : List α} (h : L.length = 2) : ∃ a b, L = [a, b] := match L, h with | [a, b], _ => ⟨a, b, rfl⟩
theorem len_three {α : Type} {L : List α} (h : L.length = 3) : ∃ a b c, L = [a, b, c] := match L, h with | [a, b, c], _ => ⟨a, b, c, rfl⟩
/-- The reference's rules, where the number of premises is right. -/
def ruleS (s : Ded) (G : List Sq) : Bool :=
  if s.rule = 1 then decide (0 ≤ s.num ∧ s.num ≤ (s.asm.length : Int) - 1) && decide (gt s.asm s.num.toNat = s.con)
  else if s.rule = 2 then decide ((gt G 0).1 = s.asm) && decide ((gt G 0).2 = Fm.fls.body)
  else if s.rule = 3 then (match parK s.con 2 with | some p => decide ((gt G 0).1 = s.asm) && (decide ((gt G 1).1 = s.asm) && (decide ((gt G 0).2 = p.1) && decide ((gt G 1).2 = p.2))) | none => false)
  else if s.rule = 4 then (match parK (gt G 0).2 2 with | some p => decide ((gt G 0).1 = s.asm) && decide (s.con = p.1) | none => false)
  else if s.rule = 5 then (match parK (gt G 0).2 2 with | some p => decide ((gt G 0).1 = s.asm) && decide (s.con = p.2) | none => false)
  else if s.rule = 6 then (match parK s.con 3 with | some p => decide ((gt G 0).1 = s.asm) && decide ((gt G 0).2 = p.1) | none => false)
  else if s.rule = 7 then (match parK s.con 3 with | some p => decide ((gt G 0).1 = s.asm) && decide ((gt G 0).2 = p.2) | none => false)
  else if s.rule = 8 then (match parK (gt G 0).2 3 with | some p => decide ((gt G 0).1 = s.asm) && (decide ((gt G 1).1 = s.asm ++ [p.1]) && (decide ((gt G 2).1 = s.asm ++ [p.2]) && (decide ((gt G 1).2 = s.con) && decide ((gt G 2).2 = s.con)))) | none => false)
  else if s.rule = 9 then (match parK s.con 4 with | some p => decide ((gt G 0).1 = s.asm ++ [p.1]) && decide ((gt G 0).2 = p.2) | none => false)
  else (match parK (gt G 0).2 4 with | some p => decide ((gt G 0).1 = s.asm) && (decide ((gt G 1).1 = s.asm) && (decide ((gt G 1).2 = p.1) && decide (s.con = p.2))) | none => false)
theorem ruleS_eq {s : Ded} {G : List Sq} (h : countD s.rule = (G.length : Int)) : ruleS s G = ruleB s G := by
  unfold countD at h
  unfold ruleS ruleB
  by_cases h1 : s.rule = 1
  · rw [if_pos h1] at h
    rw [if_pos h1, if_pos h1, decide_eq_true (List.length_eq_zero_iff.1 (show G.length = 0 by omega)), Bool.true_and]
  rw [if_neg h1] at h
  rw [if_neg h1, if_neg h1]
  have one : s.rule = 2 ∨ s.rule = 4 ∨ s.rule = 5 ∨ s.rule = 6 ∨ s.rule = 7 ∨ s.rule = 9 → ∃ g, G = [g] := fun hr => by
    rw [if_pos hr] at h
    exact List.length_eq_one_iff.1 (by omega)
  have eq1 : ∀ (g : Sq) (A : List Str) (t : Str), (decide (g.1 = A) && decide (g.2 = t)) = decide ([g] = [(A, t)]) := fun g A t => by
    rw [Bool.eq_iff_iff, Bool.and_eq_true, decide_eq_true_eq, decide_eq_true_eq, decide_eq_true_eq]
    exact ⟨fun ⟨a, b⟩ => by rw [← a, ← b], fun e => by simp only [List.cons.injEq, and_true] at e; rw [e]; exact ⟨rfl, rfl⟩⟩
  have two : ∀ (g g' : Sq) (A B : List Str) (t u : Str), decide ([g, g'] = [(A, t), (B, u)]) = (decide (g.1 = A) && (decide (g'.1 = B) && (decide (g.2 = t) && decide (g'.2 = u)))) := fun g g' A B t u => by
    rw [Bool.eq_iff_iff]
    simp only [Bool.and_eq_true, decide_eq_true_eq]
    exact ⟨fun e => by simp only [List.cons.injEq, and_true] at e; rw [e.1, e.2]; exact ⟨rfl, rfl, rfl, rfl⟩, fun ⟨a, b, c, d⟩ => by rw [← a, ← b, ← c, ← d]⟩
  have sym : ∀ a b : Str, decide (a = b) = decide (b = a) := fun a b => decide_eq_decide.2 eq_comm
  by_cases h2 : s.rule = 2
  · rw [if_pos h2, if_pos h2]
    obtain ⟨g, rfl⟩ := one (.inl h2)
    exact eq1 g _ _
  rw [if_neg h2, if_neg h2]
  by_cases h3 : s.rule = 3
  · rw [if_pos h3, if_pos h3]
    rw [if_neg (by omega), if_pos (.inl h3)] at h
    obtain ⟨g, g', rfl⟩ := len_two (show G.length = 2 by omega)
    cases parK s.con 2 with
    | none => rfl
    | some p => exact (two g g' _ _ _ _).symm
  rw [if_neg h3, if_neg h3]
  by_cases h4 : s.rule = 4
  · rw [if_pos h4, if_pos h4]
    obtain ⟨g, rfl⟩ := one (.inr (.inl h4))
    show (match parK g.2 2 with | some p => decide (g.1 = s.asm) && decide (s.con = p.1) | none => false) = (decide (g.1 = s.asm) && _)
    cases parK g.2 2 with
    | none => simp
    | some p => show (_ && _) = (_ && _); rw [sym]
  rw [if_neg h4, if_neg h4]
  by_cases h5 : s.rule = 5
  · rw [if_pos h5, if_pos h5]
    obtain ⟨g, rfl⟩ := one (.inr (.inr (.inl h5)))
    show (match parK g.2 2 with | some p => decide (g.1 = s.asm) && decide (s.con = p.2) | none => false) = (decide (g.1 = s.asm) && _)
    cases parK g.2 2 with
    | none => simp
    | some p => show (_ && _) = (_ && _); rw [sym]
  rw [if_neg h5, if_neg h5]
  by_cases h6 : s.rule = 6
  · rw [if_pos h6, if_pos h6]
    obtain ⟨g, rfl⟩ := one (by omega)
    cases parK s.con 3 with
    | none => rfl
    | some p => exact eq1 g _ _
  rw [if_neg h6, if_neg h6]
  by_cases h7 : s.rule = 7
  · rw [if_pos h7, if_pos h7]
    obtain ⟨g, rfl⟩ := one (by omega)
    cases parK s.con 3 with
    | none => rfl
    | some p => exact eq1 g _ _
  rw [if_neg h7, if_neg h7]
  by_cases h8 : s.rule = 8
  · rw [if_pos h8, if_pos h8]
    rw [if_neg (by omega), if_neg (by omega), if_pos h8] at h
    obtain ⟨g, g', g'', rfl⟩ := len_three (show G.length = 3 by omega)
    show (match parK g.2 3 with | some p => decide (g.1 = s.asm) && (decide (g'.1 = s.asm ++ [p.1]) && (decide (g''.1 = s.asm ++ [p.2]) && (decide (g'.2 = s.con) && decide (g''.2 = s.con)))) | none => false) = (decide (g.1 = s.asm) && _)
    cases parK g.2 3 with
    | none => simp
    | some p => show (_ && _) = (_ && decide ([g', g''] = _)); rw [two]
  rw [if_neg h8, if_neg h8]
  by_cases h9 : s.rule = 9
  · rw [if_pos h9, if_pos h9]
    obtain ⟨g, rfl⟩ := one (by omega)
    cases parK s.con 4 with
    | none => rfl
    | some p => exact eq1 g _ _
  rw [if_neg h9, if_neg h9]
  by_cases h10 : s.rule = 10
  · rw [if_pos h10]
    rw [if_neg (by omega), if_pos (.inr h10)] at h
    obtain ⟨g, g', rfl⟩ := len_two (show G.length = 2 by omega)
    show (match parK g.2 4 with | some p => decide (g.1 = s.asm) && (decide (g'.1 = s.asm) && (decide (g'.2 = p.1) && decide (s.con = p.2))) | none => false) = (decide (g.1 = s.asm) && _)
    cases parK g.2 4 with
    | none => simp
    | some p =>
      show (decide (g.1 = s.asm) && (decide (g'.1 = s.asm) && (decide (g'.2 = p.1) && decide (s.con = p.2)))) = (_ && (decide (p.2 = s.con) && decide ([g'] = [(s.asm, p.1)])))
      rw [← eq1, sym s.con, ← Bool.and_assoc (decide (g'.1 = s.asm)), Bool.and_comm (_ && _) (decide (p.2 = s.con))]
  · rw [if_neg (by omega), if_neg (by omega), if_neg h8] at h
    omega
theorem ruleB_no {s : Ded} {G : List Sq} (h : ¬ countD s.rule = (G.length : Int)) : ruleB s G = false := by
  unfold countD at h
  unfold ruleB
  have ne : ∀ {F : List Sq}, ¬ (G.length : Int) = (F.length : Int) → decide (G = F) = false := fun hn => decide_eq_false fun e => hn (by rw [e])
  by_cases h1 : s.rule = 1
  · rw [if_pos h1] at h
    rw [if_pos h1, ne (F := []) fun e => h (by rw [e]; rfl), Bool.false_and]
  rw [if_neg h1] at h
  rw [if_neg h1]
  have one : s.rule = 2 ∨ s.rule = 4 ∨ s.rule = 5 ∨ s.rule = 6 ∨ s.rule = 7 ∨ s.rule = 9 → ¬ (G.length : Int) = 1 := fun hr e => h (by rw [if_pos hr, e])
  by_cases h2 : s.rule = 2
  · rw [if_pos h2]; exact ne (one (.inl h2))
  rw [if_neg h2]
  by_cases h3 : s.rule = 3
  · rw [if_pos h3]
    rw [if_neg (by omega), if_pos (.inl h3)] at h
    split
    · exact ne fun e => h e.symm
    · rfl
  rw [if_neg h3]
  by_cases h4 : s.rule = 4
  · rw [if_pos h4]
    split
    · exact absurd rfl (one (.inr (.inl h4)))
    · rfl
  rw [if_neg h4]
  by_cases h5 : s.rule = 5
  · rw [if_pos h5]
    split
    · exact absurd rfl (one (.inr (.inr (.inl h5))))
    · rfl
  rw [if_neg h5]
  by_cases h6 : s.rule = 6
  · rw [if_pos h6]
    split
    · exact ne (one (by omega))
    · rfl
  rw [if_neg h6]
  by_cases h7 : s.rule = 7
  · rw [if_pos h7]
    split
    · exact ne (one (by omega))
    · rfl
  rw [if_neg h7]
  by_cases h8 : s.rule = 8
  · rw [if_pos h8]
    rw [if_neg (by omega), if_neg (by omega), if_pos h8] at h
    split
    · rename_i g r
      rw [List.length_cons] at h
      split
      · rename_i p _
        rw [decide_eq_false (p := r = [(s.asm ++ [p.1], s.con), (s.asm ++ [p.2], s.con)]) (fun e => h (by rw [e]; rfl)), Bool.and_false]
      · exact Bool.and_false _
    · rfl
  rw [if_neg h8]
  by_cases h9 : s.rule = 9
  · rw [if_pos h9]
    split
    · exact ne (one (by omega))
    · rfl
  rw [if_neg h9]
  by_cases h10 : s.rule = 10
  · rw [if_pos h10]
    rw [if_neg (by omega), if_pos (.inr h10)] at h
    split
    · rename_i g r
      rw [List.length_cons] at h
      split
      · rename_i p _
        rw [decide_eq_false (p := r = [(s.asm, p.1)]) (fun e => h (by rw [e]; rfl)), Bool.and_false, Bool.and_false]
      · exact Bool.and_false _
    · rfl
  · rw [if_neg h10]
end Go.Vc

/- Contracts: rows of inferences and of deductions in memory; equal ones. Conditions: none. -/
namespace Go.Vc
instance : DecidableEq Inf := fun a b => decidable_of_iff (a.rule = b.rule ∧ a.prem = b.prem ∧ a.left = b.left ∧ a.right = b.right ∧ a.main = b.main) (by cases a; cases b; simp)
/-- A deduction's step in memory. -/
structure DV where
  d : Ded
  vp : Value
  vl : Value
instance : Inhabited DV := ⟨⟨default, .slice none 0 0, .slice none 0 0⟩⟩
def DV.cs (x : DV) : List Value := [.int .i64 x.d.rule, x.vp, x.vl, sv x.d.con, .int .i64 x.d.num]
def cellsD (R : List DV) : List Value := R.flatMap DV.cs
theorem cellsD_len (R : List DV) : (cellsD R).length = R.length * 5 := by
  induction R with
  | nil => rfl
  | cons x R ih => rw [cellsD, List.flatMap_cons, List.length_append, ← cellsD, ih, List.length_cons]; simp [DV.cs]; omega
theorem cellsD_app (A B : List DV) : cellsD (A ++ B) = cellsD A ++ cellsD B := by simp [cellsD]
theorem cellsD_at : ∀ {R : List DV} {j : Nat}, j < R.length → ∀ k, k < 5 → (cellsD R)[j * 5 + k]? = (gt R j).cs[k]?
  | [], j, h, _, _ => absurd h (Nat.not_lt_zero j)
  | x :: R, 0, _, k, hk => by
    rw [show cellsD (x :: R) = x.cs ++ cellsD R by simp [cellsD], Nat.zero_mul, Nat.zero_add, List.getElem?_append_left (by simp [DV.cs]; omega)]
    rfl
  | x :: R, j + 1, h, k, hk => by
    have := cellsD_at (R := R) (j := j) (by simpa using h) k hk
    rw [show cellsD (x :: R) = x.cs ++ cellsD R by simp [cellsD], show (j + 1) * 5 + k = j * 5 + k + 5 by omega, List.getElem?_append_right (by simp [DV.cs])]
    rw [show j * 5 + k + 5 - x.cs.length = j * 5 + k by simp [DV.cs]]
    exact this
theorem nats_inj : ∀ {a b : List Nat}, nats a = nats b → a = b := fun h => List.map_inj_right (fun _ _ e => Int.ofNat.inj e) |>.1 h
/-- Steps that can be read. -/
structure RdD (w : World) (v : Value) (R : List DV) : Prop where
  row : SlK 5 w v R.length (cellsD R)
  prem : ∀ x ∈ R, SlI w x.vp x.d.prem
  asm : ∀ x ∈ R, Sl w x.vl (strs x.d.asm)
theorem RdD.ext {w w' : World} {v : Value} {R : List DV} (h : RdD w v R) (x : Ext w w') : RdD w' v R := ⟨SlK.ext h.row x, fun y hy => (h.prem y hy).ext x, fun y hy => (h.asm y hy).ext x⟩
/-- Inferences that can be read. -/
structure RdI (w : World) (v : Value) (R : List IV) : Prop where
  row : SlK 5 w v R.length (cells5 R)
  prem : ∀ x ∈ R, SlI w x.vp (nats x.i.prem)
  left : ∀ x ∈ R, Sl w x.vl (strs x.i.left)
theorem RdI.ext {w w' : World} {v : Value} {R : List IV} (h : RdI w v R) (x : Ext w w') : RdI w' v R := ⟨SlK.ext h.row x, fun y hy => (h.prem y hy).ext x, fun y hy => (h.left y hy).ext x⟩
end Go.Vc
namespace Go.Proofs.YteifjhpddhppcaaGreat
open Go.Vc
theorem iAtD {w : World} {v : Value} {n : Nat} {R : List DV} {j : Nat} {k : IntKind} {K : Value → Prop} (hs : SlK 5 w v n (cellsD R)) (hn : n = R.length) (hj : j < R.length) (h : K (.agg (gt R j).cs.toArray)) : xIa 5 v (.int k (j : Int)) fun p => xLdA w 5 p K := by
  subst hn
  refine iLdK (cs := (gt R j).cs.toArray) hs rfl hj rfl (fun i hi => ?_) h
  rw [cellsD_at hj i hi]
  simp
theorem ok_laws_eqInference {x y : IV} {w : World} (hx : SlI w x.vp (nats x.i.prem)) (hx2 : Sl w x.vl (strs x.i.left)) (hy : SlI w y.vp (nats y.i.prem)) (hy2 : Sl w y.vl (strs y.i.left)) : Ret Tryz.prog f_laws_eqInference #[.agg x.cs.toArray, .agg y.cs.toArray] w (.bool (decide (x.i = y.i))) := by
  obtain ⟨⟨r, p, l, c, m⟩, vp, vl⟩ := x
  obtain ⟨⟨r', p', l', c', m'⟩, vp', vl'⟩ := y
  have hx : SlI w vp (nats p) := hx
  have hx2 : SlT w vl l := hx2
  have hy : SlI w vp' (nats p') := hy
  have hy2 : SlT w vl' l' := hy2
  have no : ∀ {P : Prop}, ((⟨r, p, l, c, m⟩ : Inf) = ⟨r', p', l', c', m'⟩ → P) → ¬ P → decide ((⟨r, p, l, c, m⟩ : Inf) = ⟨r', p', l', c', m'⟩) = false := fun h hn => decide_eq_false fun e => hn (h e)
  apply c_laws_eqInference; unfold S_laws_eqInference
  refine iNew5 fun q1 w1 hq1 x1 hB1 => ?_
  refine iNew5 fun q2 w2 hq2 x2 hB2 => ?_
  have hB1 := hB1.ext x2
  have X2 := x1.trans x2
  refine iFa (iLdB hB1 (i := 0) (v := .int .i64 (r : Int)) rfl ?_)
  refine iFa (iLdB hB2 (i := 0) (v := .int .i64 (r' : Int)) rfl ?_)
  refine iNe (iCndP (fun h => ?_) (fun h => ?_))
  · exact ⟨by rw [no (P := r = r') (fun e => by cases e; rfl) (by omega)], X2⟩
  refine iFa (iLdB hB1 (i := 1) (v := vp) rfl ?_)
  refine iFa (iLdB hB2 (i := 1) (v := vp') rfl ?_)
  refine iRet (ok_laws_eqInt64S (hx.ext X2) (hy.ext X2)) fun w3 x3 => iNot ?_
  have X3 := X2.trans x3
  by_cases hp : nats p = nats p'
  rotate_left
  · rw [decide_eq_false hp]
    exact iCndT rfl ⟨by rw [no (P := nats p = nats p') (fun e => by cases e; rfl) hp], X3⟩
  rw [decide_eq_true hp]
  refine iCndF rfl ?_
  refine iFa (iLdB (hB1.ext x3) (i := 2) (v := vl) rfl ?_)
  refine iFa (iLdB (hB2.ext x3) (i := 2) (v := vl') rfl ?_)
  refine iRet (ok_laws_eqStringS (hx2.ext X3) (hy2.ext X3)) fun w4 x4 => iNot ?_
  have X4 := X3.trans x4
  by_cases hl : l = l'
  rotate_left
  · rw [decide_eq_false hl]
    exact iCndT rfl ⟨by rw [no (P := l = l') (fun e => by cases e; rfl) hl], X4⟩
  rw [decide_eq_true hl]
  refine iCndF rfl ?_
  have hB1 := hB1.ext (x3.trans x4)
  have hB2 := hB2.ext (x3.trans x4)
  refine iFa (iLdB hB1 (i := 3) (v := sv c) rfl ?_)
  refine iFa (iLdB hB2 (i := 3) (v := sv c') rfl ?_)
  refine iNeT (iCndP (fun hc => ?_) (fun hc => ?_))
  · exact ⟨by rw [no (P := c = c') (fun e => by cases e; rfl) hc], X4⟩
  refine iFa (iLdB hB1 (i := 4) (v := sv m) rfl ?_)
  refine iFa (iLdB hB2 (i := 4) (v := sv m') rfl ?_)
  refine iNeT (iCndP (fun hm => ?_) (fun hm => ?_))
  · exact ⟨by rw [no (P := m = m') (fun e => by cases e; rfl) hm], X4⟩
  · refine ⟨?_, X4⟩
    rw [decide_eq_true]
    simp only [Inf.mk.injEq]
    exact ⟨by omega, nats_inj hp, hl, Classical.not_not.1 hc, Classical.not_not.1 hm⟩
theorem ok_laws_eqInferenceS {v0 v1 : Value} {A B : List IV} {w : World} (h0 : RdI w v0 A) (h1 : RdI w v1 B) : Ret Tryz.prog f_laws_eqInferenceS #[v0, v1] w (.bool (decide (A.map IV.i = B.map IV.i))) := by
  apply c_laws_eqInferenceS; unfold S_laws_eqInferenceS
  have hA := h0.row.len
  refine iLenK h0.row (iLenK h1.row (iNe (iCndP (fun h => ?_) (fun h => ?_))))
  · rw [decide_eq_false (fun e => h (by have := congrArg List.length e; rw [List.length_map, List.length_map] at this; rw [this]))]
    exact ⟨by first | trivial | rfl, Ext.refl _⟩
  · have hl : A.length = B.length := by omega
    refine iLp (fun i : Nat => [.int .i64 (i : Int)]) (fun i w' => i ≤ A.length ∧ Ext w w' ∧ ∀ j, j < i → (gt A j).i = (gt B j).i) (fun i => A.length - i) 0 rfl ⟨Nat.zero_le _, Ext.refl _, fun j hj => by omega⟩ ?_
    rintro i w2 Kn ⟨hi, h2, he⟩ hKn
    have g0 := h0.ext h2
    have g1 := h1.ext h2
    intro _
    simp only [gx]
    refine iLenK g0.row (iLt (iCndP (fun h3 => ?_) (fun h3 => ?_)))
    · have hiA : i < A.length := by omega
      have hiB : i < B.length := by omega
      have mA : gt A i ∈ A := by rw [gt_eq hiA]; exact List.getElem_mem hiA
      have mB : gt B i ∈ B := by rw [gt_eq hiB]; exact List.getElem_mem hiB
      refine iAt5 g0.row rfl hiA (iAt5 g1.row rfl hiB ?_)
      refine iRetQ (fun w' x => ok_laws_eqInference ((g0.prem _ mA).ext x) ((g0.left _ mA).ext x) ((g1.prem _ mB).ext x) ((g1.left _ mB).ext x)) (iNot ?_)
      intro w3 h23
      by_cases h4 : (gt A i).i = (gt B i).i
      · rw [decide_eq_true h4]
        refine iCndF rfl (iAdd (by omega) ?_)
        refine hKn (i + 1) _ ⟨by omega, h2.trans h23, fun j hj => ?_⟩ (by omega)
        by_cases hji : j = i
        · subst hji; exact h4
        · exact he j (by omega)
      · rw [decide_eq_false h4]
        refine iCndT rfl ?_
        rw [decide_eq_false (fun e => h4 (by
          have := congrArg (fun l : List Inf => l[i]?) e
          simpa [hiA, hiB, gt_eq hiA, gt_eq hiB] using this))]
        exact ⟨by first | trivial | rfl, h2.trans h23⟩
    · rw [decide_eq_true (List.ext_getElem (by rw [List.length_map, List.length_map, hl]) fun j g1 g2 => by
        rw [List.length_map] at g1 g2
        rw [List.getElem_map, List.getElem_map, ← gt_eq g1, ← gt_eq g2]
        exact he j (by omega))]
      exact ⟨by first | trivial | rfl, h2⟩
theorem ok_laws_eqDeduction1 {x y : DV} {w : World} (he : x.d = y.d) (hx : SlI w x.vp x.d.prem) (hx2 : Sl w x.vl (strs x.d.asm)) (hy : SlI w y.vp y.d.prem) (hy2 : Sl w y.vl (strs y.d.asm)) : Ret Tryz.prog f_laws_eqDeduction #[.agg x.cs.toArray, .agg y.cs.toArray] w (.bool true) := by
  obtain ⟨⟨r, p, l, c, m⟩, vp, vl⟩ := x
  obtain ⟨d', vp', vl'⟩ := y
  have he : (⟨r, p, l, c, m⟩ : Ded) = d' := he
  subst he
  have hx : SlI w vp p := hx
  have hx2 : SlT w vl l := hx2
  have hy : SlI w vp' p := hy
  have hy2 : SlT w vl' l := hy2
  apply c_laws_eqDeduction; unfold S_laws_eqDeduction
  refine iNew5 fun q1 w1 hq1 x1 hB1 => ?_
  refine iNew5 fun q2 w2 hq2 x2 hB2 => ?_
  have hB1 := hB1.ext x2
  have X2 := x1.trans x2
  refine iFa (iLdB hB1 (i := 0) (v := .int .i64 r) rfl ?_)
  refine iFa (iLdB hB2 (i := 0) (v := .int .i64 r) rfl ?_)
  refine iNe (iCndF (decide_eq_false fun h => h rfl) ?_)
  refine iFa (iLdB hB1 (i := 1) (v := vp) rfl ?_)
  refine iFa (iLdB hB2 (i := 1) (v := vp') rfl ?_)
  refine iRet (ok_laws_eqInt64S (hx.ext X2) (hy.ext X2)) fun w3 x3 => iNot ?_
  rw [decide_eq_true rfl]
  refine iCndF rfl ?_
  have X3 := X2.trans x3
  refine iFa (iLdB (hB1.ext x3) (i := 2) (v := vl) rfl ?_)
  refine iFa (iLdB (hB2.ext x3) (i := 2) (v := vl') rfl ?_)
  refine iRet (ok_laws_eqStringS (hx2.ext X3) (hy2.ext X3)) fun w4 x4 => iNot ?_
  rw [decide_eq_true rfl]
  refine iCndF rfl ?_
  have X4 := X3.trans x4
  have hB1 := hB1.ext (x3.trans x4)
  have hB2 := hB2.ext (x3.trans x4)
  refine iFa (iLdB hB1 (i := 3) (v := sv c) rfl ?_)
  refine iFa (iLdB hB2 (i := 3) (v := sv c) rfl ?_)
  refine iNeT (iCndF (decide_eq_false fun h => h rfl) ?_)
  refine iFa (iLdB hB1 (i := 4) (v := .int .i64 m) rfl ?_)
  refine iFa (iLdB hB2 (i := 4) (v := .int .i64 m) rfl ?_)
  exact iNe (iCndF (decide_eq_false fun h => h rfl) ⟨rfl, X4⟩)
theorem ok_laws_eqDeductionS1 {v0 v1 : Value} {A B : List DV} {w : World} (he : A.map DV.d = B.map DV.d) (h0 : RdD w v0 A) (h1 : RdD w v1 B) : Ret Tryz.prog f_laws_eqDeductionS #[v0, v1] w (.bool true) := by
  apply c_laws_eqDeductionS; unfold S_laws_eqDeductionS
  have hA := h0.row.len
  have hl : A.length = B.length := by
    have := congrArg List.length he
    rwa [List.length_map, List.length_map] at this
  refine iLenK h0.row (iLenK h1.row (iNe (iCndF (decide_eq_false fun h => h (by omega)) ?_)))
  refine iLp (fun i : Nat => [.int .i64 (i : Int)]) (fun i w' => i ≤ A.length ∧ Ext w w') (fun i => A.length - i) 0 rfl ⟨Nat.zero_le _, Ext.refl _⟩ ?_
  rintro i w2 Kn ⟨hi, h2⟩ hKn
  have g0 := h0.ext h2
  have g1 := h1.ext h2
  intro _
  simp only [gx]
  refine iLenK g0.row (iLt (iCndP (fun h3 => ?_) (fun h3 => ⟨by first | trivial | rfl, h2⟩)))
  have hiA : i < A.length := by omega
  have hiB : i < B.length := by omega
  have mA : gt A i ∈ A := by rw [gt_eq hiA]; exact List.getElem_mem hiA
  have mB : gt B i ∈ B := by rw [gt_eq hiB]; exact List.getElem_mem hiB
  have hab : (gt A i).d = (gt B i).d := by
    have e1 : gt (A.map DV.d) i = (gt A i).d := map_gt hiA
    have e2 : gt (B.map DV.d) i = (gt B i).d := map_gt hiB
    rw [← e1, ← e2, he]
  refine iAtD g0.row rfl hiA (iAtD g1.row rfl hiB ?_)
  refine iRetQ (fun w' x => ok_laws_eqDeduction1 hab ((g0.prem _ mA).ext x) ((g0.asm _ mA).ext x) ((g1.prem _ mB).ext x) ((g1.asm _ mB).ext x)) (iNot ?_)
  intro w3 h23
  exact iCndF rfl (iAdd (by omega) (hKn (i + 1) _ ⟨by omega, h2.trans h23⟩ (by omega)))
end Go.Proofs.YteifjhpddhppcaaGreat

/- Contracts: IndexFunc, Clone, DeleteFunc on rows of texts. Conditions: none. -/
namespace Go.Vc
theorem iNilOw {lo : Nat} {e : TypeId} {w : World} {v : Value} {xs : List Value} {K : Value → Prop} (hs : Ow lo e w v xs) (h0 : v = .slice none 0 0 → K (.bool true)) (h1 : K (.bool false)) : xNilS true v (.slice none 0 0) K := by
  obtain ⟨_, h | ⟨g, cap, cur, hv, _⟩⟩ := hs
  · obtain ⟨rfl, _⟩ := h
    exact ⟨trivial, rfl, h0 rfl⟩
  · subst hv
    exact ⟨trivial, rfl, h1⟩
end Go.Vc
namespace Go.Proofs.YteifjhpddhppcaaGreat
open Go.Vc
theorem ok_slices_CloneT {lo : Nat} {v : Value} {L : List Str} {w : World} (hs : Ow lo t_string w v (strs L)) (hL : L.length ≤ 1099511627776) :
    Cal Tryz.prog f_slices_Clone_Sstring_string #[v] w fun r w' => Ext w w' ∧ Ow w.heap.size t_string w' r (strs L) := by
  apply c_slices_Clone_Sstring_string; unfold S_slices_Clone_Sstring_string
  refine iNilOw hs (fun e => ?_) ?_
  · refine iCndT rfl ⟨Ext.refl _, ?_⟩
    have : strs L = [] := by
      obtain ⟨_, h | ⟨g, cap, cur, hv, _⟩⟩ := hs
      · exact List.length_eq_zero_iff.1 h.2
      · rw [e] at hv; cases hv
    rw [this]; exact Ow.nil _ _ _
  · refine iCndF rfl ?_
    refine iBs0 fun u w1 hw1 x1 ho => ?_
    have hll := strs_len L
    refine iApp u_Sstring i_Sstring rfl ho (hs.ext x1).sl (strs_cell L) (by simp only [List.length_nil]; omega) (by simp only [List.length_nil]; omega) (by omega) fun u' w2 ho2 hg => ?_
    refine ⟨x1.grown hg fun b hb => (ho.blk b hb).1, by simpa using ho2⟩
end Go.Proofs.YteifjhpddhppcaaGreat

/- Contracts: maps from texts; parts and texts for the program's search for intuitionistic proofs. Conditions: none. -/
namespace Go.Vc
section
variable {P : Program} {t k e : TypeId} {Q : Str → Value → Prop}
end
end Go.Vc
namespace Go.Proofs.YteifjhpddhppcaaGreat
open Go.Vc
end Go.Proofs.YteifjhpddhppcaaGreat

/- Contracts: parts, texts of parts, arrows, goals, keys of goals. Conditions: none. -/
namespace Go.Vc
theorem SlK.cellOk {k : Nat} {w : World} {v : Value} {n : Nat} {xs : List Value} (h : SlK k w v n xs) : isCell v = true := by
  obtain ⟨_, a, c, rfl, _⟩ := h
  rfl
theorem gtD_eq {fs : List Fm} {j : Nat} (h : j < fs.length) : fs.getD j .fls = fs[j] := by simp [List.getD_eq_getElem?_getD, h]
theorem size_kid {f : Fm} : ∀ g ∈ f.kids, g.size < f.size := fun g hg => by
  have := f.size_kids
  have h2 : ∀ (l : List Fm), g ∈ l → g.size ≤ sizeL l := by
    intro l
    induction l with
    | nil => intro h; simp at h
    | cons a l ih =>
      intro h
      simp only [sizeL, List.map_cons, List.sum_cons] at ih ⊢
      rcases List.mem_cons.1 h with rfl | h
      · omega
      · have := ih h; omega
  have := h2 _ hg
  omega
theorem good_kid : ∀ {f : Fm}, f.good → ∀ g ∈ f.kids, g.good
  | .and a b, h, g, hg => by simp only [Fm.kids, List.mem_cons, List.not_mem_nil, or_false] at hg; rcases hg with rfl | rfl; exact h.1; exact h.2
  | .or a b, h, g, hg => by simp only [Fm.kids, List.mem_cons, List.not_mem_nil, or_false] at hg; rcases hg with rfl | rfl; exact h.1; exact h.2
  | .imp a b, h, g, hg => by simp only [Fm.kids, List.mem_cons, List.not_mem_nil, or_false] at hg; rcases hg with rfl | rfl; exact h.1; exact h.2
  | .box a, h, g, hg => by simp only [Fm.kids, List.mem_cons, List.not_mem_nil, or_false] at hg; subst hg; exact h
  | .dia a, h, g, hg => by simp only [Fm.kids, List.mem_cons, List.not_mem_nil, or_false] at hg; subst hg; exact h
end Go.Vc
namespace Go.Proofs.YteifjhpddhppcaaGreat
open Go.Vc
abbrev TxW (lo : Nat) (w : World) (v : Value) (L : List Str) : Prop := Ow lo t_string w v (strs L)
theorem ok_impl_parts {v : Value} {f : Fm} {w : World} (hs : FmS w v f) (hn : f.size ≤ 1099511627776) : Cal Tryz.prog f_impl_parts #[v] w fun r w' => Ext w w' ∧ ∃ vs, Sl w' r vs ∧ FmsS w' vs f.kids := by
  apply c_impl_parts; unfold S_impl_parts
  refine iFld (j := 0) hs rfl f.size_pos (by decide) (kind_fst hs).1 ?_
  refine iRet (ok_impl_partsOf f.kind w) fun w1 x1 => ?_
  have har := f.arity_kids
  refine iEq ?_
  refine iCndP (fun h => ?_) (fun h => ?_)
  · obtain ⟨g, hg⟩ : ∃ g, f.kids = [g] := List.length_eq_one_iff.1 (by omega)
    refine iCall ((ok_impl_first (hs.ext x1) hg hn).mono ?_)
    rintro u w2 ⟨x2, hu⟩
    refine iBs1 rfl (SlK.cellOk hu) fun b w3 hb x3 hB => ?_
    refine ⟨(x1.trans x2).trans x3, _, Sl.ofBlk (n := 1) hB rfl (by decide), by rw [hg]; rfl, fun i hi => ?_⟩
    rw [hg] at hi ⊢
    have : i = 0 := by simp at hi; omega
    subst this
    exact ⟨u, rfl, hu.ext x3⟩
  · refine iEq ?_
    refine iCndP (fun h2 => ?_) (fun h2 => ?_)
    · obtain ⟨g, k, hg⟩ : ∃ g k, f.kids = [g, k] := by
        have : f.kids.length = 2 := by omega
        match hk : f.kids, this with
        | [g, k], _ => exact ⟨g, k, rfl⟩
      refine iCall ((ok_impl_first (hs.ext x1) hg hn).mono ?_)
      rintro u w2 ⟨x2, hu⟩
      refine iCall ((ok_impl_second ((hs.ext x1).ext x2) hg hn).mono ?_)
      rintro u' w3 ⟨x3, hu'⟩
      refine iBs2 rfl (SlK.cellOk hu) (SlK.cellOk hu') fun b w4 hb x4 hB => ?_
      refine ⟨((x1.trans x2).trans x3).trans x4, _, Sl.ofBlk (n := 2) hB rfl (by decide), by rw [hg]; rfl, fun i hi => ?_⟩
      rw [hg] at hi ⊢
      rcases i with _ | _ | i
      · exact ⟨u, rfl, (hu.ext x3).ext x4⟩
      · exact ⟨u', rfl, hu'.ext x4⟩
      · simp at hi; omega
    · refine ⟨x1, [], Sl.nil _, ?_, fun i hi => ?_⟩
      · have : f.kids.length ≤ 2 := by cases f <;> simp [Fm.kids]
        simp; omega
      · have : f.kids.length ≤ 2 := by cases f <;> simp [Fm.kids]
        omega
theorem ok_impl_partTexts {v : Value} {f : Fm} {w : World} (hs : FmS w v f) (hg : f.good) (hn : f.size ≤ 1099511627776) : Cal Tryz.prog f_impl_partTexts #[v] w fun r w' => Ext w w' ∧ TxW w.heap.size w' r (f.kids.map Fm.body) := by
  apply c_impl_partTexts; unfold S_impl_partTexts
  refine iCall ((ok_impl_parts hs hn).mono ?_)
  rintro u w1 ⟨x1, vs, hsl, hf⟩
  refine iLenS hsl ?_
  have hkl : f.kids.length ≤ 2 := by cases f <;> simp [Fm.kids]
  have hvl := hf.1
  refine iLp (fun s : Value × Nat => [s.1, .int .i64 (s.2 : Int)]) (fun s w' => s.2 ≤ f.kids.length ∧ Ext w1 w' ∧ TxW w1.heap.size w' s.1 ((f.kids.take s.2).map Fm.body)) (fun s => f.kids.length - s.2) (.slice none 0 0, 0) rfl ⟨Nat.zero_le _, Ext.refl _, Ow.nil _ _ _⟩ ?_
  rintro ⟨r, k⟩ w2 Kn ⟨hk, x2, ho⟩ hKn
  have hk : k ≤ f.kids.length := hk
  have ho : TxW w1.heap.size w2 r ((f.kids.take k).map Fm.body) := ho
  intro _
  simp only [gx]
  refine iLt ?_
  refine iCndP (fun h => ?_) (fun h => ?_)
  · have hkk : k < f.kids.length := by omega
    obtain ⟨a, ha1, ha2⟩ := hf.2 k hkk
    rw [gtD_eq hkk] at ha2
    refine iIa (j := (k : Int)) (hsl.ext x2) (by omega) (by omega) fun p hp => ?_
    have hp : w2.cell? p = some a := hp.trans (by rw [Int.toNat_natCast]; exact ha1)
    refine iLd hp ?_
    have hm : f.kids[k] ∈ f.kids := List.getElem_mem _
    have := size_kid _ hm
    refine iRet (ok_impl_text (ha2.ext x2) (good_kid hg _ hm) (by omega)) fun w3 x3 => ?_
    have ho3 := ho.ext x3
    refine iApp1 u_Sstring i_Sstring rfl ho3 rfl (by rw [strs_len, List.length_map, List.length_take]; omega) (by rw [strs_len, List.length_map, List.length_take]; omega) (x2.trans x3).size fun r' w5 ho5 hg5 => ?_
    refine iAdd (by omega) ?_
    refine hKn (r', k + 1) _ ⟨hkk, (x2.trans x3).grown hg5 fun b hb => (ho3.blk b hb).1, ?_⟩ (by show f.kids.length - (k + 1) < f.kids.length - k; omega)
    show TxW _ _ _ _
    rw [List.take_succ_eq_append_getElem hkk, List.map_append, List.map_singleton]
    rw [strs_snoc] at ho5
    exact ho5
  · have : k = f.kids.length := by omega
    subst this
    rw [List.take_length] at ho
    exact ⟨x1.trans x2, ho.mono x1.size⟩
end Go.Proofs.YteifjhpddhppcaaGreat

/- Contracts: goals of the program's search, their keys and their premises. Conditions: none. -/
namespace Go.Vc
theorem iNew2 {w : World} {e : TypeId} {a b : Value} {K : Value → World → Prop} (h : ∀ q w', q = w.heap.size ∧ w'.heap.size = q + 1 → Ext w w' → Blk e w' q [a, b] → K (.pointer (some ⟨q, 0, none⟩)) w') : xNew (Value.cells (.agg #[a, b])) e w K :=
  iNew fun q w' h1 h2 h3 => h q w' h1 h2 (by simpa [Value.cells] using h3)
theorem iLd2 {w : World} {e : TypeId} {q : Nat} {a b : Value} {K : Value → Prop} (hB : Blk e w q [a, b]) (h : K (.agg #[a, b])) : xLdA w 2 (.pointer (some ⟨q, 0, none⟩)) K := iLdA hB rfl (by simpa using h)
theorem iSt2 {P : Program} {w : World} {e : TypeId} {q : Nat} {cs : List Value} {a b : Value} {K : World → Prop} (hB : Blk e w q cs) (hl : cs.length = 2) (ha : isCell a = true) (hb : isCell b = true)
    (h : ∀ w', Blk e w' q [a, b] → Ch (fun d => d = q) w w' → K w') : xStA P w 2 (.pointer (some ⟨q, 0, none⟩)) (.agg #[a, b]) K := by
  obtain ⟨w', h1, h2, h3⟩ := storeCells_run (P := P) [a, b] 0 w cs hB (by simp [hl]) (fun v hv => by simp at hv; rcases hv with rfl | rfl <;> assumption)
  refine ⟨_, w', rfl, rfl, ?_, h w' ?_ (h2.ch rfl)⟩
  · simpa [Value.cells] using h1
  · rw [List.take_zero, List.nil_append, List.drop_of_length_le (by simp [hl]), List.append_nil] at h3; exact h3
/-- Two elements of two cells. -/
theorem iBsA2 {w : World} {e : TypeId} {z0 z1 x y x' y' : Value} {K : Value → World → Prop} (h : ∀ b w', b = w.heap.size ∧ w'.heap.size = b + 1 → Ext w w' → Blk e w' b [x, y, x', y'] → K (.slice (some ⟨b, 0, none⟩) 2 2) w') :
    xBs e (Value.cells (.agg #[z0, z1])) 2 2 [(0, .agg #[x, y]), (1, .agg #[x', y'])] w K := by
  refine ⟨#[x, y, x', y'], ?_, h _ _ ⟨rfl, by simp⟩ (Ext.alloc w _) (Blk.new w #[x, y, x', y'] e)⟩
  simp [Instr.fill, Value.cells, show Array.range 4 = #[0, 1, 2, 3] from rfl]
theorem SlK.ofBlk {k : Nat} {e : TypeId} {w : World} {b n : Nat} {cs : List Value} (h : Blk e w b cs) (hn : cs.length = n * k) (hm : n ≤ 9223372036854775807) : SlK k w (.slice (some ⟨b, 0, none⟩) n n) n cs := (OwK.ofBlk (lo := 0) h (Nat.zero_le _) hn hm).sl
end Go.Vc
namespace Go.Proofs.YteifjhpddhppcaaGreat
open Go.Vc
end Go.Proofs.YteifjhpddhppcaaGreat

/- Memory: rows of goals; rows of texts compared. Conditions: none. -/
namespace Go.Vc
theorem ext_gt {α : Type} [Inhabited α] {A B : List α} (hl : A.length = B.length) (h : ∀ j, j < A.length → gt A j = gt B j) : A = B := List.ext_getElem hl fun j g1 g2 => by
  rw [← gt_eq g1, ← gt_eq g2]; exact h j g1
/-- The cells of a row of goals. -/
def cellsG (R : List (Value × Sq)) : List Value := R.flatMap fun x => [x.1, sv x.2.2]
theorem cellsG_app (A B : List (Value × Sq)) : cellsG (A ++ B) = cellsG A ++ cellsG B := by simp [cellsG]
theorem cellsG_at : ∀ {R : List (Value × Sq)} {j : Nat}, j < R.length → (cellsG R)[j * 2 + 0]? = some (gt R j).1 ∧ (cellsG R)[j * 2 + 1]? = some (sv (gt R j).2.2)
  | [], j, h => absurd h (Nat.not_lt_zero j)
  | x :: R, 0, _ => ⟨rfl, rfl⟩
  | x :: R, j + 1, h => by
    have := cellsG_at (R := R) (j := j) (by simpa using h)
    rw [show cellsG (x :: R) = [x.1, sv x.2.2] ++ cellsG R by simp [cellsG], show (j + 1) * 2 + 0 = j * 2 + 0 + 2 by omega, show (j + 1) * 2 + 1 = j * 2 + 1 + 2 by omega, List.getElem?_append_right (by simp), List.getElem?_append_right (by simp)]
    exact this
end Go.Vc
namespace Go.Proofs.YteifjhpddhppcaaGreat
open Go.Vc
theorem ok_slices_EqualD {v v' : Value} {L L' : List Str} {w : World} (hs : SlT w v L) (hs' : SlT w v' L') : Ret Tryz.prog f_slices_Equal_Sstring_string #[v, v'] w (.bool (decide (L = L'))) := by
  have hln := hs.len
  rw [strs_len] at hln
  apply c_slices_Equal_Sstring_string; unfold S_slices_Equal_Sstring_string
  refine iLenStr hs (iLenStr hs' ?_)
  refine iNe (iCndP (fun h => ?_) (fun h => ?_))
  · exact ⟨by rw [decide_eq_false (fun e : L = L' => h (by rw [e]))], Ext.refl _⟩
  have hl : L.length = L'.length := by omega
  refine iLenStr hs ?_
  refine iLp (fun i : Nat => [.int .i64 (i : Int)]) (fun i w' => i ≤ L.length ∧ Ext w w' ∧ ∀ j, j < i → gt L j = gt L' j) (fun i => L.length - i) 0 rfl ⟨Nat.zero_le _, Ext.refl _, fun j hj => absurd hj (Nat.not_lt_zero _)⟩ ?_
  rintro i w2 Kn ⟨hi, x2, he⟩ hKn
  intro _
  simp only [gx]
  refine iLt (iCndP (fun h2 => ?_) (fun h2 => ?_))
  · have hil : i < L.length := by omega
    refine iIaG (hs.ext x2) rfl hil ?_
    refine iIaG (hs'.ext x2) rfl (by omega) ?_
    refine iNeT ?_
    intro w3 x3
    refine iCndP (fun hne => ?_) (fun heq => ?_)
    · exact ⟨by rw [decide_eq_false fun e : L = L' => hne (by rw [e])], x2.trans x3⟩
    · refine iAdd (by omega) ?_
      refine hKn (i + 1) _ ⟨by omega, x2.trans x3, fun j hj => ?_⟩ (by omega)
      by_cases e : j = i
      · subst e; exact Classical.not_not.1 heq
      · exact he j (by omega)
  · rw [decide_eq_true (ext_gt hl fun j hj => he j (by omega))]
    exact ⟨by first | trivial | rfl, x2⟩
end Go.Proofs.YteifjhpddhppcaaGreat

/- Contracts: the premises that the program's search takes from the left side. Conditions: none. -/
namespace Go.Proofs.YteifjhpddhppcaaGreat
open Go.Vc
end Go.Proofs.YteifjhpddhppcaaGreat

/- Contracts: the program's search for intuitionistic proofs says what holds. Conditions: none. -/
namespace Go.Vc
end Go.Vc
namespace Go.Proofs.YteifjhpddhppcaaGreat
open Go.Vc
end Go.Proofs.YteifjhpddhppcaaGreat

/- Contracts: the program decides what holds in all intuitionistic models. Conditions: none. -/
namespace Go.Vc
end Go.Vc
namespace Go.Proofs.YteifjhpddhppcaaGreat
open Go.Vc
end Go.Proofs.YteifjhpddhppcaaGreat

/- Plain maths: what the reference's search for intuitionistic proofs does with formulas, and that each step keeps what holds. No program in sight. Conditions: none. -/
namespace Go.Vc
section
end
section
end
end Go.Vc

/- Contracts: rows of formulas in the reference's search for intuitionistic proofs. Conditions: none. -/
namespace Go.Vc
section
variable {P : Program} {w : World}
end
end Go.Vc
namespace Go.Proofs.YteifjhpddhppcaaGreat
open Go.Vc
end Go.Proofs.YteifjhpddhppcaaGreat

/- Contracts: the reference's search for intuitionistic proofs says what holds. Conditions: none. -/
namespace Go.Proofs.YteifjhpddhppcaaGreat
open Go.Vc
end Go.Proofs.YteifjhpddhppcaaGreat

/- Contracts: what can be claimed; OpenClaims in the program and the reference. Conditions: none. -/
namespace Go.Vc
/-- The nodes of a formula in order: kinds and signs. -/
def Fm.ks : Fm → List (Nat × Nat)
  | .var v => [(0, v)]
  | .fls => [(1, 0)]
  | .and a b => (2, 0) :: (a.ks ++ b.ks)
  | .or a b => (3, 0) :: (a.ks ++ b.ks)
  | .imp a b => (4, 0) :: (a.ks ++ b.ks)
  | .box a => (5, 0) :: a.ks
  | .dia a => (6, 0) :: a.ks
def nds (l : List (Nat × Nat)) : List Value := l.flatMap fun p => nd p.1 p.2
theorem nds_cons (p : Nat × Nat) (l : List (Nat × Nat)) : nds (p :: l) = nd p.1 p.2 ++ nds l := by simp [nds]
theorem nds_app (l m : List (Nat × Nat)) : nds (l ++ m) = nds l ++ nds m := by simp [nds]
theorem Fm.cells_ks : ∀ f : Fm, f.cells = nds f.ks
  | .var v => rfl
  | .fls => rfl
  | .and a b => by rw [Fm.ks, nds_cons, nds_app, ← a.cells_ks, ← b.cells_ks]; simp [Fm.cells]
  | .or a b => by rw [Fm.ks, nds_cons, nds_app, ← a.cells_ks, ← b.cells_ks]; simp [Fm.cells]
  | .imp a b => by rw [Fm.ks, nds_cons, nds_app, ← a.cells_ks, ← b.cells_ks]; simp [Fm.cells]
  | .box a => by rw [Fm.ks, nds_cons, ← a.cells_ks]; simp [Fm.cells]
  | .dia a => by rw [Fm.ks, nds_cons, ← a.cells_ks]; simp [Fm.cells]
theorem Fm.ks_len : ∀ f : Fm, f.ks.length = f.size
  | .var _ => rfl
  | .fls => rfl
  | .and a b => by simp only [Fm.ks, Fm.size, List.length_cons, List.length_append, a.ks_len, b.ks_len]; omega
  | .or a b => by simp only [Fm.ks, Fm.size, List.length_cons, List.length_append, a.ks_len, b.ks_len]; omega
  | .imp a b => by simp only [Fm.ks, Fm.size, List.length_cons, List.length_append, a.ks_len, b.ks_len]; omega
  | .box a => by simp only [Fm.ks, Fm.size, List.length_cons, a.ks_len]; omega
  | .dia a => by simp only [Fm.ks, Fm.size, List.length_cons, a.ks_len]; omega
theorem nds_at : ∀ {l : List (Nat × Nat)} {i : Nat} (h : i < l.length), (nds l)[i * 2 + 0]? = some (.int .i64 (l[i].1 : Int)) ∧ (nds l)[i * 2 + 1]? = some (.int .i64 (l[i].2 : Int))
  | [], _, h => by simp at h
  | p :: l, 0, _ => ⟨rfl, rfl⟩
  | p :: l, i + 1, h => by
    have := nds_at (l := l) (i := i) (by simpa using h)
    have e : ∀ f, (nds (p :: l))[(i + 1) * 2 + f]? = (nds l)[i * 2 + f]? := fun f => by
      rw [nds_cons, List.getElem?_append_right (by simp [nd]; omega)]
      congr 1
      simp [nd]; omega
    rw [e, e]
    simpa using this
def modal (p : Nat × Nat) : Bool := decide (p.1 = 5) || decide (p.1 = 6)
theorem Fm.plain_ks : ∀ f : Fm, f.ks.any modal = !f.plain
  | .var _ => rfl
  | .fls => rfl
  | .and a b => by simp only [Fm.ks, List.any_cons, List.any_append, a.plain_ks, b.plain_ks, Fm.plain]; simp [modal]
  | .or a b => by simp only [Fm.ks, List.any_cons, List.any_append, a.plain_ks, b.plain_ks, Fm.plain]; simp [modal]
  | .imp a b => by simp only [Fm.ks, List.any_cons, List.any_append, a.plain_ks, b.plain_ks, Fm.plain]; simp [modal]
  | .box a => by simp only [Fm.ks, List.any_cons, Fm.plain]; simp [modal]
  | .dia a => by simp only [Fm.ks, List.any_cons, Fm.plain]; simp [modal]
theorem any_get {α : Type} {l : List α} {p : α → Bool} {i : Nat} (hi : i < l.length) (h : p l[i] = true) : l.any p = true := List.any_eq_true.2 ⟨l[i], List.getElem_mem _, h⟩
theorem any_not {α : Type} {l : List α} {p : α → Bool} (h : ∀ i (hi : i < l.length), p l[i] = false) : l.any p = false := by
  rw [List.any_eq_false]
  intro x hx
  obtain ⟨i, hi, rfl⟩ := List.getElem_of_mem hx
  rw [h i hi]; exact Bool.false_ne_true
end Go.Vc
namespace Go.Proofs.YteifjhpddhppcaaGreat
open Go.Vc
theorem ok_impl_isModal (k : Nat) (w : World) : Ret Tryz.prog f_impl_isModal #[.int .i64 (k : Int)] w (.bool (decide (k = 5) || decide (k = 6))) := by
  apply c_impl_isModal; unfold S_impl_isModal
  refine iJnB (decide (k = 5) || decide (k = 6)) w (fun J hJ => ?_) (fun w2 x2 => fun _ => ⟨by first | trivial | rfl, x2⟩)
  refine iEq (iCndP (fun h => ?_) (fun h => ?_))
  · rw [decide_eq_true (show k = 5 by omega), Bool.true_or] at hJ
    exact hJ _ (Ext.refl _)
  · rw [decide_eq_false (show ¬ k = 5 by omega), Bool.false_or] at hJ
    refine iEq ?_
    rw [show decide ((k : Int) = 6) = decide (k = 6) from decide_eq_decide.2 (by omega)]
    exact hJ _ (Ext.refl _)
theorem ok_impl_isPlain {v : Value} {f : Fm} {w : World} (hs : FmS w v f) : Ret Tryz.prog f_impl_isPlain #[v] w (.bool f.plain) := by
  apply c_impl_isPlain; unfold S_impl_isPlain
  have hln := hs.len
  have hkl := f.ks_len
  refine iRet (v := .bool (f.ks.any modal)) ?_ fun w1 x1 => iNot ⟨by rw [f.plain_ks, Bool.not_not], x1⟩
  apply c_slices_ContainsFunc_Simpl_Node_impl_Node; unfold S_slices_ContainsFunc_Simpl_Node_impl_Node
  refine iCall (Cal.mono (R := fun r w' => Ext w w' ∧ ∃ z : Int, r = .int .i64 z ∧ (decide (0 ≤ z) = f.ks.any modal)) ?_ ?_)
  · apply c_slices_IndexFunc_Simpl_Node_impl_Node; unfold S_slices_IndexFunc_Simpl_Node_impl_Node
    refine iLenK hs ?_
    refine iLp (fun i : Nat => [.int .i64 (i : Int)]) (fun i w' => i ≤ f.size ∧ Ext w w' ∧ ∀ j (hj : j < f.ks.length), j < i → modal f.ks[j] = false) (fun i => f.size - i) 0 rfl ⟨Nat.zero_le _, Ext.refl _, fun j hj h => by omega⟩ ?_
    rintro i w2 Kn ⟨hi, h2, hno⟩ hKn
    intro _
    simp only [gx]
    refine iLt ?_
    refine iCndP (fun h => ?_) (fun h => ?_)
    · have hil : i < f.ks.length := by omega
      have hat := nds_at hil
      rw [← f.cells_ks] at hat
      refine iLdK (cs := #[.int .i64 (f.ks[i].1 : Int), .int .i64 (f.ks[i].2 : Int)]) (hs.ext h2) rfl (by omega) rfl (fun j hj => ?_) ?_
      · rcases j with _ | _ | j
        · exact hat.1
        · exact hat.2
        · omega
      refine iRet (v := .bool (modal f.ks[i])) ?_ fun w3 x3 => ?_
      · apply c_impl_isPlain_1; unfold S_impl_isPlain_1
        refine iNew2 fun q w3 hq x3 hB => ?_
        refine iFa (iLdB hB rfl ?_)
        refine iRet (ok_impl_isModal _ _) fun w4 x4 => ⟨rfl, x3.trans x4⟩
      · refine iCnd (fun h3 => ?_) (fun h3 => ?_)
        · exact ⟨h2.trans x3, _, rfl, by rw [any_get hil h3]; simp⟩
        · refine iAdd (by omega) ?_
          refine hKn (i + 1) _ ⟨by omega, h2.trans x3, fun j hj hji => ?_⟩ (by omega)
          by_cases e : j = i
          · subst e; exact h3
          · exact hno j hj (by omega)
    · exact ⟨h2, -1, rfl, by rw [any_not fun j hj => hno j hj (by omega)]; rfl⟩
  · rintro r w1 ⟨h1, z, rfl, hz⟩
    refine iLe ?_
    rw [hz]
    exact ⟨by first | trivial | rfl, h1⟩
theorem ok_spec_l02Plain {v : Value} {f : Fm} {w : World} (hs : FmS w v f) : Ret Tryz.prog f_spec_l02Plain #[v] w (.bool f.plain) := by
  apply c_spec_l02Plain; unfold S_spec_l02Plain
  have hln := hs.len
  have hkl := f.ks_len
  refine iLp (fun i : Nat => [.int .i64 (i : Int)]) (fun i w' => i ≤ f.size ∧ Ext w w' ∧ ∀ j (hj : j < f.ks.length), j < i → modal f.ks[j] = false) (fun i => f.size - i) 0 rfl ⟨Nat.zero_le _, Ext.refl _, fun j hj h => by omega⟩ ?_
  rintro i w2 Kn ⟨hi, h2, hno⟩ hKn
  intro _
  simp only [gx]
  refine iLenK (hs.ext h2) ?_
  refine iLt ?_
  refine iCndP (fun h => ?_) (fun h => ?_)
  · have hil : i < f.ks.length := by omega
    have hat := nds_at hil
    rw [← f.cells_ks] at hat
    refine iJnB (modal f.ks[i]) w2 (fun J hJ => ?_) (fun w4 x4 => ?_)
    · refine iFld (j := i) (hs.ext h2) rfl (by omega) (by decide) hat.1 ?_
      unfold modal at hJ
      refine iEq (iCndP (fun h5 => ?_) (fun h5 => ?_))
      · rw [decide_eq_true (show f.ks[i].1 = 5 by omega), Bool.true_or] at hJ
        exact hJ _ (Ext.refl _)
      · rw [decide_eq_false (show ¬ f.ks[i].1 = 5 by omega), Bool.false_or] at hJ
        refine iFld (j := i) (hs.ext h2) rfl (by omega) (by decide) hat.1 ?_
        refine iEq ?_
        rw [show decide ((f.ks[i].1 : Int) = 6) = decide (f.ks[i].1 = 6) from decide_eq_decide.2 (by omega)]
        exact hJ _ (Ext.refl _)
    · intro _
      simp only [gx]
      refine iCnd (fun h3 => ?_) (fun h3 => ?_)
      · have hp := f.plain_ks
        rw [any_get hil h3] at hp
        exact ⟨by rw [show f.plain = false by simpa using hp.symm], h2.trans x4⟩
      · refine iAdd (by omega) ?_
        refine hKn (i + 1) _ ⟨by omega, h2.trans x4, fun j hj hji => ?_⟩ (by omega)
        by_cases e : j = i
        · subst e; exact h3
        · exact hno j hj (by omega)
  · have hp := f.plain_ks
    rw [any_not fun j hj => hno j hj (by omega)] at hp
    exact ⟨by rw [show f.plain = true by simpa using hp.symm], h2⟩
end Go.Proofs.YteifjhpddhppcaaGreat

/- Plain maths: what a good step of a deduction is made of. No program in sight. Conditions: none. -/
namespace Go.Vc
theorem addT_two (W : List Str) (a b : Str) : addT (addT W a) b = setT (W ++ [a, b]) := inc_ext (inc_setT _) (inc_setT _) fun u => by
  rw [mem_addT, mem_addT, mem_setT]
  simp [or_assoc]
/-- The premises of a step, by its rule. -/
inductive RF (P : List Ded) (s : Ded) : Prop
  | r1 : s.rule = 1 → s.prem = [] → 0 ≤ s.num → s.num ≤ (s.asm.length : Int) - 1 → gt s.asm s.num.toNat = s.con → RF P s
  | r2 (q : Int) : s.rule = 2 → s.prem = [q] → jdg (gt P q.toNat) = (s.asm, Fm.fls.body) → RF P s
  | r3 (q q' : Int) (p : Str × Str) : s.rule = 3 → s.prem = [q, q'] → parK s.con 2 = some p → jdg (gt P q.toNat) = (s.asm, p.1) → jdg (gt P q'.toNat) = (s.asm, p.2) → RF P s
  | r4 (q : Int) (p : Str × Str) : s.rule = 4 → s.prem = [q] → (gt P q.toNat).asm = s.asm → parK (gt P q.toNat).con 2 = some p → p.1 = s.con → RF P s
  | r5 (q : Int) (p : Str × Str) : s.rule = 5 → s.prem = [q] → (gt P q.toNat).asm = s.asm → parK (gt P q.toNat).con 2 = some p → p.2 = s.con → RF P s
  | r6 (q : Int) (p : Str × Str) : s.rule = 6 → s.prem = [q] → parK s.con 3 = some p → jdg (gt P q.toNat) = (s.asm, p.1) → RF P s
  | r7 (q : Int) (p : Str × Str) : s.rule = 7 → s.prem = [q] → parK s.con 3 = some p → jdg (gt P q.toNat) = (s.asm, p.2) → RF P s
  | r8 (q q' q'' : Int) (p : Str × Str) : s.rule = 8 → s.prem = [q, q', q''] → (gt P q.toNat).asm = s.asm → parK (gt P q.toNat).con 3 = some p → jdg (gt P q'.toNat) = (s.asm ++ [p.1], s.con) → jdg (gt P q''.toNat) = (s.asm ++ [p.2], s.con) → RF P s
  | r9 (q : Int) (p : Str × Str) : s.rule = 9 → s.prem = [q] → parK s.con 4 = some p → jdg (gt P q.toNat) = (s.asm ++ [p.1], p.2) → RF P s
  | r10 (q q' : Int) (p : Str × Str) : s.rule = 10 → s.prem = [q, q'] → (gt P q.toNat).asm = s.asm → parK (gt P q.toNat).con 4 = some p → p.2 = s.con → jdg (gt P q'.toNat) = (s.asm, p.1) → RF P s
theorem map_one {α β : Type} {f : α → β} {L : List α} {b : β} (h : L.map f = [b]) : ∃ a, L = [a] ∧ f a = b := by
  match L, h with
  | [a], h => exact ⟨a, rfl, by simpa using h⟩
theorem map_two {α β : Type} {f : α → β} {L : List α} {b c : β} (h : L.map f = [b, c]) : ∃ a a', L = [a, a'] ∧ f a = b ∧ f a' = c := by
  match L, h with
  | [a, a'], h => exact ⟨a, a', rfl, by simpa using h⟩
theorem map_cons' {α β : Type} {f : α → β} {L : List α} {b : β} {r : List β} (h : L.map f = b :: r) : ∃ a l, L = a :: l ∧ f a = b ∧ l.map f = r := by
  match L, h with
  | a :: l, h => simp only [List.map_cons, List.cons.injEq] at h; exact ⟨a, l, rfl, h.1, h.2⟩
theorem ruleB_rf {P : List Ded} {s : Ded} (h : ruleB s (givenD P s) = true) : RF P s := by
  unfold ruleB at h
  by_cases h1 : s.rule = 1
  · rw [if_pos h1, Bool.and_eq_true, Bool.and_eq_true, decide_eq_true_eq, decide_eq_true_eq, decide_eq_true_eq] at h
    exact .r1 h1 (List.map_eq_nil_iff.1 h.1) h.2.1.1 h.2.1.2 h.2.2
  rw [if_neg h1] at h
  by_cases h2 : s.rule = 2
  · rw [if_pos h2, decide_eq_true_eq] at h
    obtain ⟨q, e1, e2⟩ := map_one h
    exact .r2 q h2 e1 e2
  rw [if_neg h2] at h
  by_cases h3 : s.rule = 3
  · rw [if_pos h3] at h
    split at h
    · rename_i p hp
      rw [decide_eq_true_eq] at h
      obtain ⟨q, q', e1, e2, e3⟩ := map_two h
      exact .r3 q q' p h3 e1 hp e2 e3
    · cases h
  rw [if_neg h3] at h
  by_cases h4 : s.rule = 4
  · rw [if_pos h4] at h
    split at h
    · rename_i g hG
      obtain ⟨q, e1, e2⟩ := map_one hG
      subst e2
      rw [Bool.and_eq_true, decide_eq_true_eq] at h
      obtain ⟨ha, h⟩ := h
      split at h
      · rename_i p hp
        rw [decide_eq_true_eq] at h
        exact .r4 q p h4 e1 ha hp h
      · cases h
    · cases h
  rw [if_neg h4] at h
  by_cases h5 : s.rule = 5
  · rw [if_pos h5] at h
    split at h
    · rename_i g hG
      obtain ⟨q, e1, e2⟩ := map_one hG
      subst e2
      rw [Bool.and_eq_true, decide_eq_true_eq] at h
      obtain ⟨ha, h⟩ := h
      split at h
      · rename_i p hp
        rw [decide_eq_true_eq] at h
        exact .r5 q p h5 e1 ha hp h
      · cases h
    · cases h
  rw [if_neg h5] at h
  by_cases h6 : s.rule = 6
  · rw [if_pos h6] at h
    split at h
    · rename_i p hp
      rw [decide_eq_true_eq] at h
      obtain ⟨q, e1, e2⟩ := map_one h
      exact .r6 q p h6 e1 hp e2
    · cases h
  rw [if_neg h6] at h
  by_cases h7 : s.rule = 7
  · rw [if_pos h7] at h
    split at h
    · rename_i p hp
      rw [decide_eq_true_eq] at h
      obtain ⟨q, e1, e2⟩ := map_one h
      exact .r7 q p h7 e1 hp e2
    · cases h
  rw [if_neg h7] at h
  by_cases h8 : s.rule = 8
  · rw [if_pos h8] at h
    split at h
    · rename_i g r hG
      obtain ⟨q, l, e1, e2, e3⟩ := map_cons' hG
      subst e2
      rw [Bool.and_eq_true, decide_eq_true_eq] at h
      obtain ⟨ha, h⟩ := h
      split at h
      · rename_i p hp
        rw [decide_eq_true_eq] at h
        rw [h] at e3
        obtain ⟨q', q'', e4, e5, e6⟩ := map_two e3
        exact .r8 q q' q'' p h8 (by rw [e1, e4]) ha hp e5 e6
      · cases h
    · cases h
  rw [if_neg h8] at h
  by_cases h9 : s.rule = 9
  · rw [if_pos h9] at h
    split at h
    · rename_i p hp
      rw [decide_eq_true_eq] at h
      obtain ⟨q, e1, e2⟩ := map_one h
      exact .r9 q p h9 e1 hp e2
    · cases h
  rw [if_neg h9] at h
  by_cases h10 : s.rule = 10
  · rw [if_pos h10] at h
    split at h
    · rename_i g r hG
      obtain ⟨q, l, e1, e2, e3⟩ := map_cons' hG
      subst e2
      rw [Bool.and_eq_true, decide_eq_true_eq] at h
      obtain ⟨ha, h⟩ := h
      split at h
      · rename_i p hp
        rw [Bool.and_eq_true, decide_eq_true_eq, decide_eq_true_eq] at h
        rw [h.2] at e3
        obtain ⟨q', e4, e5⟩ := map_one e3
        exact .r10 q q' p h10 (by rw [e1, e4]) ha hp h.1 e5
      · cases h
    · cases h
  · rw [if_neg h10] at h; cases h
theorem goodD_iff {P : List Ded} {k : Nat} (h : goodD P k = true) : shapeD (gt P k) = true ∧ inD k (gt P k) = true ∧ RF P (gt P k) := by
  unfold goodD at h
  rw [Bool.and_eq_true, Bool.and_eq_true] at h
  exact ⟨h.1, h.2.1, ruleB_rf h.2.2⟩
theorem inD_mem {k : Nat} {s : Ded} (h : inD k s = true) {q : Int} (hq : q ∈ s.prem) : 0 ≤ q ∧ q ≤ (k : Int) - 1 := by
  unfold inD at h
  exact of_decide_eq_true (List.all_eq_true.1 h q hq)
theorem shapeD_at {s : Ded} (h : shapeD s = true) : s.asm.length ≤ 12 ∧ (∀ t ∈ s.asm, plT t = true) ∧ plT s.con = true := by
  unfold shapeD at h
  rw [Bool.and_eq_true, Bool.and_eq_true, Bool.and_eq_true, decide_eq_true_eq, List.all_eq_true] at h
  exact ⟨h.1.1, h.1.2, h.2.1⟩
theorem makeD_len (N : Nat) (s : Ded) (at_ : List Nat) (a : Str) : (makeD N s at_ a).length ≤ 4 := by
  unfold makeD
  simp only
  repeat' split
  all_goals simp
theorem seqD_len (P : List Ded) : ∀ k, (seqD P k).1.length ≤ 4 * k ∧ (seqD P k).2.length = k
  | 0 => ⟨Nat.le_refl _, rfl⟩
  | k + 1 => by
    obtain ⟨h1, h2⟩ := seqD_len P k
    have h3 := makeD_len (seqD P k).1.length (gt P k) ((gt P k).prem.map fun j => gt (seqD P k).2 j.toNat) (gt P (gt (gt P k).prem 0).toNat).con
    refine ⟨?_, ?_⟩
    · rw [seqD]
      simp only [List.length_append]
      omega
    · rw [seqD]
      simp only [List.length_append, List.length_singleton]
      omega
end Go.Vc

/- Contracts: judgements of a deduction; lists with a text behind them. Conditions: none. -/
namespace Go.Vc
/-- A row whose room ends with it, wherever it lies. -/
def Cpx (w : World) (v : Value) (xs : List Value) : Prop := ∃ a, v = .slice a xs.length xs.length ∧ (xs = [] ∨ ∃ b o, a = some ⟨b, o, none⟩ ∧ ∀ i, i < xs.length → w.cell? ⟨b, o + i, none⟩ = xs[i]?)
theorem Cpx.ext {w w' : World} {v : Value} {xs : List Value} (h : Cpx w v xs) (x : Ext w w') : Cpx w' v xs := by
  obtain ⟨a, rfl, h⟩ := h
  refine ⟨a, rfl, h.imp id ?_⟩
  rintro ⟨b, o, rfl, hc⟩
  exact ⟨b, o, rfl, fun i hi => by rw [List.getElem?_eq_getElem hi]; exact x.cell (by rw [hc i hi, List.getElem?_eq_getElem hi])⟩
/-- 'append(s, x)', s full: a new row. -/
theorem iAppFx {P : Program} {w : World} {t ty e : TypeId} {z x : Value} {bytes q : Nat} {v : Value} {xs : List Value} {K : Value → World → Prop} (ht : P.underlying t = some (.slice e)) (hi : (P.info? e).map (fun i => (i.zero, i.size, i.bytes)) = some (some z, 1, bytes)) (hz : isCell z = true) (hx : isCell x = true)
    (hs : Cpx w v xs) (hB : Blk e w q [x]) (hb : (xs.length + 1) * bytes ≤ 140737488355328) (hm : xs.length + 1 ≤ 9223372036854775807)
    (h : ∀ v' w', Ext w w' → Ow w.heap.size e w' v' (xs ++ [x]) → K v' w') : xOp P (Builtin.append_ #[t, t] ty #[v, .slice (some ⟨q, 0, none⟩) 1 1]) w K := by
  have hq := Sl.ofBlk (n := 1) hB rfl (by omega)
  obtain ⟨a, rfl, hc⟩ := hs
  cases a with
  | none =>
    have hx0 : xs = [] := hc.elim id fun ⟨b, o, e, _⟩ => by cases e
    subst hx0
    refine iAppA ht hi hz (Ow.nil w.heap.size e w) hq (fun u hu => by simp at hu; subst hu; exact hx) hb hm (Nat.le_refl _) fun v' w' ho hg hat => h v' w' ?_ ho
    exact (Ext.refl w).grown hg fun c hc => by cases hc
  | some p =>
    obtain ⟨i, hi, h3⟩ := Option.map_eq_some_iff.1 hi
    simp only [Prod.mk.injEq] at h3
    obtain ⟨hz0, hsz, hby⟩ := h3
    have holds : ∀ j u, xs[j]? = some u → w.cell? (p.add j) = some u := fun j u hu => by
      have hj : j < xs.length := (List.getElem?_eq_some_iff.1 hu).1
      rcases hc with rfl | ⟨b, o, e, hc⟩
      · simp at hj
      · cases e
        rw [addr_add, hc j hj, hu]
    have hnews : ∀ j u, [x][j]? = some u → w.cell? ((⟨q, 0, none⟩ : Addr).add j) = some u := fun j u hu => by
      have hj : j < [x].length := (List.getElem?_eq_some_iff.1 hu).1
      have : j = 0 := by simpa using hj
      subst this
      rw [addr_add, hB.cell, hu]
    have hr := run_append_grow (P := P) w t ty e i z ht hi hz0 p xs.length xs.length xs (by rw [hsz, Nat.mul_one]) holds ⟨q, 0, none⟩ 1 1 [x] (by rw [hsz]; rfl) hnews (by omega) (by omega) (by rw [hby]; exact growslice_fits (by omega) hb)
    have hge := grownCap_ge w (xs.length + 1) xs.length e
    have hgm := grownCap_le_maxLen w (xs.length + 1) xs.length e (by simpa [maxLen] using hm)
    refine ⟨_, _, hr, h _ _ (grown_none ⟨rfl, rfl, rfl, by simp, fun k hk _ => heap_alloc_old w.drew _ hk⟩) ?_⟩
    refine ⟨by simp, .inr ⟨w.heap.size, _, _, by rw [List.length_append, List.length_singleton], Nat.le_refl _, heap_alloc_new w.drew _, by simpa using hge, hgm, ?_, ?_⟩⟩
    · simp only [Array.size_append, List.size_toArray, size_zeroCells, isCell_cells hz]
      simp
      omega
    · rw [List.length_append, List.length_singleton]
      simp only [Nat.mul_one, Array.toList_append, List.append_assoc]
      rw [← List.append_assoc, List.take_append_of_le_length (by simp), List.take_of_length_le (by simp)]
/-- Judgements that can be read. -/
structure GsR (w : World) (v : Value) (R : List (Value × Sq)) : Prop where
  row : SlK 2 w v R.length (cellsG R)
  lf : ∀ x ∈ R, SlT w x.1 x.2.1
theorem GsR.ext {w w' : World} {v : Value} {R : List (Value × Sq)} (h : GsR w v R) (x : Ext w w') : GsR w' v R := ⟨SlK.ext h.row x, fun y hy => (h.lf y hy).ext x⟩
theorem GsR.nil (w : World) : GsR w (.slice none 0 0) [] := ⟨(OwK.nil 2 0 0 w).sl, fun x hx => by cases hx⟩
theorem GsR.one {e : TypeId} {w : World} {b : Nat} {v : Value} {L : List Str} {r : Str} (hB : Blk e w b [v, sv r]) (hv : SlT w v L) : GsR w (.slice (some ⟨b, 0, none⟩) 1 1) [(v, (L, r))] :=
  ⟨SlK.ofBlk (n := 1) hB rfl (by decide), fun x hx => by rw [List.mem_singleton.1 hx]; exact hv⟩
theorem GsR.two {e : TypeId} {w : World} {b : Nat} {v v' : Value} {L L' : List Str} {r r' : Str} (hB : Blk e w b [v, sv r, v', sv r']) (hv : SlT w v L) (hv' : SlT w v' L') : GsR w (.slice (some ⟨b, 0, none⟩) 2 2) [(v, (L, r)), (v', (L', r'))] :=
  ⟨SlK.ofBlk (n := 2) hB rfl (by decide), fun x hx => by
    rcases List.mem_cons.1 hx with rfl | hx
    · exact hv
    · rw [List.mem_singleton.1 hx]; exact hv'⟩
theorem cellsG_drop (R : List (Value × Sq)) (k : Nat) : (cellsG R).drop (k * 2) = cellsG (R.drop k) := by
  induction R generalizing k with
  | nil => simp [cellsG]
  | cons x R ih =>
    cases k with
    | zero => simp [cellsG]
    | succ k =>
      show (([x.1, sv x.2.2] ++ cellsG R)).drop ((k + 1) * 2) = cellsG (R.drop k)
      rw [List.drop_append, List.drop_of_length_le (by simp; omega), show (k + 1) * 2 - [x.1, sv x.2.2].length = k * 2 by simp; omega, ih]; rfl
theorem GsR.tail {w : World} {v r : Value} {R : List (Value × Sq)} (h : GsR w v R) (k : Nat) (hr : SlK 2 w r (R.length - k) ((cellsG R).drop (k * 2))) : GsR w r (R.drop k) := by
  rw [cellsG_drop, ← List.length_drop] at hr
  exact ⟨hr, fun x hx => h.lf x (List.mem_of_mem_drop hx)⟩
theorem parK_kind {t : Str} {k : Nat} (hk : k = 2 ∨ k = 3 ∨ k = 4) (h : (fT t).kind = k) : ∃ p : Str × Str, parK t k = some p ∧ (fT t).kids.map Fm.body = [p.1, p.2] := by
  unfold parK
  cases e : fT t with
  | and x y => rw [e] at h; exact ⟨_, if_pos h.symm, rfl⟩
  | or x y => rw [e] at h; exact ⟨_, if_pos h.symm, rfl⟩
  | imp x y => rw [e] at h; exact ⟨_, if_pos h.symm, rfl⟩
  | var _ => rw [e] at h; simp only [Fm.kind] at h; omega
  | fls => rw [e] at h; simp only [Fm.kind] at h; omega
  | box _ => rw [e] at h; simp only [Fm.kind] at h; omega
  | dia _ => rw [e] at h; simp only [Fm.kind] at h; omega
theorem parK_no {t : Str} {k : Nat} (_ : k = 2 ∨ k = 3 ∨ k = 4) (h : ¬ (fT t).kind = k) : parK t k = none := by
  cases e : parK t k with
  | none => rfl
  | some p => exact absurd (parK_some e).1 h
def wholeB (s : Ded) (G : List Sq) (k j : Nat) : Bool := match G with | [g] => decide (g.1 = s.asm) && (match parK g.2 k with | some p => decide ((if j = 0 then p.1 else p.2) = s.con) | none => false) | _ => false
theorem wholeB_no {s : Ded} {G : List Sq} {k j : Nat} (h : ¬ G.length = 1) : wholeB s G k j = false := by
  unfold wholeB
  split
  · exact absurd rfl h
  · rfl
end Go.Vc
namespace Go.Proofs.YteifjhpddhppcaaGreat
open Go.Vc
theorem ok_slices_ClipT {v : Value} {L : List Str} {w : World} (h : SlT w v L) : Cal Tryz.prog f_slices_Clip_Sstring_string #[v] w fun r w' => w' = w ∧ Cpx w r (strs L) := by
  apply c_slices_Clip_Sstring_string; unfold S_slices_Clip_Sstring_string
  have hz : ∀ w, (sizeOf t_string).run Tryz.prog w = .ok 1 w := Tryz.sizeOf9
  have key : ∀ (a : Option Addr) (c n : Nat), n ≤ c → c ≤ 9223372036854775807 → ∀ w', (Instr.sliceAt 36 (.slice a n c) none (some (.int .i64 (n : Int))) (some (.int .i64 (n : Int)))).run Tryz.prog w' = .ok (.slice a n n) w' := fun a c n hc hm w' => by
    have b1 := run_sliceBound (P := Tryz.prog) w' .i64 (n : Int) c .slice3Acap (by omega) (by omega)
    have b2 := run_sliceBound (P := Tryz.prog) w' .i64 (n : Int) n .slice3B (by omega) (by omega)
    rw [Int.toNat_natCast] at b1 b2
    simp only [Instr.sliceAt, Instr.slice, Instr.sliceBounds, Sem.run_bind, Sem.run_pure, run_underlying u_Sstring, Result.andThen_ok, b1, b2, hz, if_true, Option.isSome_some]
    by_cases hn : n = 0
    · simp [hn]
    · have e : Option.map (fun x => x.add (0 * 1)) a = a := by cases a <;> simp [Addr.add]
      simp [hn, e]
  obtain ⟨a, c, rfl, h2, h3, h4⟩ := h
  refine iLenL (iLenL ?_)
  exact ⟨_, fun w' _ => key a c _ h2 h3 w', rfl, a, rfl, h4⟩
theorem ok_impl_behind {v : Value} {L : List Str} {t : Str} {w : World} (h : SlT w v L) (hl : L.length ≤ 1000000) : Cal Tryz.prog f_impl_behind #[v, sv t] w fun r w' => Ext w w' ∧ Ow w.heap.size t_string w' r (strs (L ++ [t])) := by
  apply c_impl_behind; unfold S_impl_behind
  refine iCall ((ok_slices_ClipT h).mono ?_)
  rintro r w1 ⟨rfl, hc⟩
  refine iBs1 rfl rfl fun b w2 hb x2 hB => ?_
  have hll := strs_len L
  refine iAppFx u_Sstring i_Sstring rfl rfl (hc.ext x2) hB (by omega) (by omega) fun v' w3 x3 ho => ⟨x2.trans x3, ?_⟩
  rw [strs_snoc] at ho
  exact ho.mono x2.size
theorem ok_impl_isPlainTextG (t : Str) (w : World) : Ret Tryz.prog f_impl_isPlainText #[sv t] w (.bool (plT t)) := by
  apply c_impl_isPlainText; unfold S_impl_isPlainText
  refine iJnB (plT t) w (fun J hJ => ?_) (fun w2 x2 => fun _ => ⟨by first | trivial | rfl, x2⟩)
  refine iRet (ok_impl_isText t w) fun w3 x3 => ?_
  unfold plT at hJ
  refine iCnd (fun hg => ?_) (fun hg => ?_)
  · rw [hg, Bool.true_and] at hJ
    have hpc : pCode t = 0 := by unfold goodT at hg; rw [Bool.and_eq_true, decide_eq_true_eq] at hg; exact hg.1
    refine iCall ((ok_impl_parsed t w3).mono ?_)
    rintro v w4 ⟨x4, hv, -⟩
    have hv : FmW w3.heap.size w4 v (fT t) := hv hpc
    exact iRet (ok_impl_isPlain hv.sl) fun w5 x5 => hJ _ ((x3.trans x4).trans x5)
  · rw [hg, Bool.false_and] at hJ
    exact hJ _ x3
theorem ok_impl_partsWith {t : Str} (h : plT t = true) (k : Nat) (w : World) : Cal Tryz.prog f_impl_partsWith #[sv t, .int .i64 (k : Int)] w fun r w' => Ext w w' ∧ ∃ u, r = .tuple #[u, .bool (decide ((fT t).kind = k))] ∧ TxW w.heap.size w' u ((fT t).kids.map Fm.body) := by
  obtain ⟨-, hg, -, -, hc⟩ := plT_at h
  apply c_impl_partsWith; unfold S_impl_partsWith
  refine iCall ((ok_impl_parsed t w).mono ?_)
  rintro v w1 ⟨x1, hv, -⟩
  have hv : FmW w.heap.size w1 v (fT t) := hv hc
  have hs : FmS w1 v (fT t) := hv.sl
  have hpos := (fT t).size_pos
  refine iFld (f := 0) (j := 0) hs rfl hpos (by decide) (kind_fst hs).1 (iEq ?_)
  rw [show decide (((fT t).kind : Int) = (k : Int)) = decide ((fT t).kind = k) from decide_eq_decide.2 (by omega)]
  intro w2 x2
  have hn : (fT t).size ≤ 1099511627776 := Nat.le_trans (pCode_size hc).1 (by decide)
  refine iCall ((ok_impl_partTexts (SlK.ext hs x2) hg hn).mono ?_)
  rintro u w3 ⟨x3, hu⟩
  refine ⟨x3, fun w4 x4 => ⟨((x1.trans x2).trans x3).trans x4, u, rfl, (hu.ext x4).mono (x1.trans x2).size⟩⟩
theorem ok_impl_judgement {x : DV} {w : World} (hc : isCell x.vl = true) : Ret Tryz.prog f_impl_Deduction_judgement #[.agg x.cs.toArray] w (.agg #[x.vl, sv x.d.con]) := by
  apply c_impl_Deduction_judgement; unfold S_impl_Deduction_judgement
  refine iNew5 fun q1 w1 hq1 x1 hB1 => ?_
  refine iNew2 fun q2 w2 hq2 x2 hB2 => ?_
  have hB1 := hB1.ext x2
  refine iFa (iLdB hB1 (i := 2) (v := x.vl) rfl ?_)
  refine iFa (iLdB hB1 (i := 3) (v := sv x.d.con) rfl ?_)
  refine iBuild2 hc rfl ?_
  refine iSt2 hB2 rfl hc rfl fun w8 hB8 hc8 => ?_
  refine iLd2 hB8 ⟨rfl, (x1.trans x2).thenCh hc8 fun c hc => by have := x1.size; omega⟩
theorem ok_impl_sameJudgement {v v' : Value} {g g' : Sq} {w : World} (hv : SlT w v g.1) (hv' : SlT w v' g'.1) : Ret Tryz.prog f_impl_sameJudgement #[.agg #[v, sv g.2], .agg #[v', sv g'.2]] w (.bool (decide (g = g'))) := by
  obtain ⟨L, r⟩ := g
  obtain ⟨L', r'⟩ := g'
  have hv : SlT w v L := hv
  have hv' : SlT w v' L' := hv'
  apply c_impl_sameJudgement; unfold S_impl_sameJudgement
  refine iNew2 fun q1 w1 hq1 x1 hB1 => ?_
  refine iNew2 fun q2 w2 hq2 x2 hB2 => ?_
  have X2 := x1.trans x2
  refine iJnB (decide ((L, r) = (L', r'))) w2 (fun J hJ => ?_) (fun w4 x4 => fun _ => ⟨by first | trivial | rfl, X2.trans x4⟩)
  refine iFa (iLdB (hB1.ext x2) (i := 1) (v := sv r) rfl ?_)
  refine iFa (iLdB hB2 (i := 1) (v := sv r') rfl ?_)
  refine iEqT (iCndP (fun h => ?_) (fun h => ?_))
  · subst h
    refine iFa (iLdB (hB1.ext x2) (i := 0) (v := v) rfl ?_)
    refine iFa (iLdB hB2 (i := 0) (v := v') rfl ?_)
    refine iRet (ok_slices_EqualD (hv.ext X2) (hv'.ext X2)) fun w5 x5 => ?_
    rw [show decide ((L, r) = (L', r)) = decide (L = L') from decide_eq_decide.2 ⟨fun e => by cases e; rfl, fun e => by rw [e]⟩] at hJ
    exact hJ _ x5
  · rw [decide_eq_false (fun e : (L, r) = (L', r') => h (by cases e; rfl))] at hJ
    exact hJ _ (Ext.refl _)
theorem SlK.lfCell {w : World} {v : Value} {xs : List Value} (h : Sl w v xs) : isCell v = true := by
  obtain ⟨a, c, rfl, _⟩ := h
  rfl
theorem ok_EqualFuncJ {v v' : Value} {R R' : List (Value × Sq)} {w : World} (hs : GsR w v R) (hs' : GsR w v' R') : Ret Tryz.prog f_slices_EqualFunc_Simpl_judgement_Simpl_judgement_impl_judgement_impl_judgement #[v, v', .func (.func f_impl_sameJudgement) #[] #[]] w (.bool (decide (R.map Prod.snd = R'.map Prod.snd))) := by
  have hln := hs.row.len
  apply c_slices_EqualFunc_Simpl_judgement_Simpl_judgement_impl_judgement_impl_judgement; unfold S_slices_EqualFunc_Simpl_judgement_Simpl_judgement_impl_judgement_impl_judgement
  refine iLenK hs.row (iLenK hs'.row (iNe (iCndP (fun h => ?_) (fun h => ?_))))
  · refine ⟨?_, Ext.refl _⟩
    rw [decide_eq_false fun e => h (by have := congrArg List.length e; rw [List.length_map, List.length_map] at this; rw [this])]
  have hl : R.length = R'.length := by omega
  refine iLenK hs.row ?_
  refine iLp (fun i : Nat => [.int .i64 (i : Int)]) (fun i w' => i ≤ R.length ∧ Ext w w' ∧ ∀ j, j < i → (gt R j).2 = (gt R' j).2) (fun i => R.length - i) 0 rfl ⟨Nat.zero_le _, Ext.refl _, fun j hj => absurd hj (Nat.not_lt_zero _)⟩ ?_
  rintro i w2 Kn ⟨hi, x2, he⟩ hKn
  intro _
  simp only [gx]
  refine iLt (iCndP (fun h2 => ?_) (fun h2 => ?_))
  · have hil : i < R.length := by omega
    have hil' : i < R'.length := by omega
    have ha := (hs.lf (gt R i) (by rw [gt_eq hil]; exact List.getElem_mem _)).ext x2
    have hb := (hs'.lf (gt R' i) (by rw [gt_eq hil']; exact List.getElem_mem _)).ext x2
    refine iLdK (cs := #[(gt R i).1, sv (gt R i).2.2]) (SlK.ext hs.row x2) rfl hil rfl (fun j hj => ?_) ?_
    · rcases j with _ | _ | j
      · exact (cellsG_at hil).1
      · exact (cellsG_at hil).2
      · omega
    refine iNew2 fun q3 w3 hq3 x3 hB3 => ?_
    refine iSt2 hB3 rfl (SlK.lfCell ha) rfl fun w4 hB4 hc4 => ?_
    have x24 : Ext w2 w4 := x3.thenCh hc4 fun c hc => by omega
    refine iLdK (cs := #[(gt R' i).1, sv (gt R' i).2.2]) (SlK.ext hs'.row (x2.trans x24)) rfl hil' rfl (fun j hj => ?_) ?_
    · rcases j with _ | _ | j
      · exact (cellsG_at hil').1
      · exact (cellsG_at hil').2
      · omega
    refine iNew2 fun q5 w5 hq5 x5 hB5 => ?_
    refine iSt2 hB5 rfl (SlK.lfCell hb) rfl fun w6 hB6 hc6 => ?_
    have x46 : Ext w4 w6 := x5.thenCh hc6 fun c hc => by omega
    refine iLd2 (hB4.ext x46) (iLd2 hB6 ?_)
    have x26 := x24.trans x46
    refine iRet (ok_impl_sameJudgement (ha.ext x26) (hb.ext x26)) fun w7 x7 => ?_
    refine iNot (iCnd (fun h3 => ?_) (fun h3 => ?_))
    · have h3 : ¬ (gt R i).2 = (gt R' i).2 := by simpa using h3
      refine ⟨?_, (x2.trans x26).trans x7⟩
      rw [decide_eq_false fun e => h3 (by
        have e1 : gt (R.map Prod.snd) i = (gt R i).2 := map_gt hil
        have e2 : gt (R'.map Prod.snd) i = (gt R' i).2 := map_gt hil'
        rw [← e1, ← e2, e])]
    · have h3 : (gt R i).2 = (gt R' i).2 := by simpa using h3
      refine iAdd (by omega) (hKn (i + 1) _ ⟨by omega, (x2.trans x26).trans x7, fun j hj => ?_⟩ (by omega))
      by_cases e : j = i
      · subst e; exact h3
      · exact he j (by omega)
  · refine ⟨?_, x2⟩
    rw [decide_eq_true (ext_gt (by rw [List.length_map, List.length_map, hl]) fun j hj => by
      rw [List.length_map] at hj
      have e1 : gt (R.map Prod.snd) j = (gt R j).2 := map_gt hj
      have e2 : gt (R'.map Prod.snd) j = (gt R' j).2 := map_gt (by omega)
      rw [e1, e2]; exact he j (by omega))]
end Go.Proofs.YteifjhpddhppcaaGreat

/- Contracts: whether a step of a deduction is good. Conditions: none. -/
namespace Go.Vc
def introB (s : Ded) (G : List Sq) : Bool := if s.rule = 1 ∨ s.rule = 2 ∨ s.rule = 3 ∨ s.rule = 6 ∨ s.rule = 7 ∨ s.rule = 9 then ruleB s G else false
def elimB (s : Ded) (G : List Sq) : Bool := if s.rule = 4 ∨ s.rule = 5 ∨ s.rule = 8 ∨ s.rule = 10 then ruleB s G else false
theorem ruleB_split (s : Ded) (G : List Sq) : (introB s G || elimB s G) = ruleB s G := by
  unfold introB elimB
  by_cases h : s.rule = 1 ∨ s.rule = 2 ∨ s.rule = 3 ∨ s.rule = 6 ∨ s.rule = 7 ∨ s.rule = 9
  · rw [if_pos h, if_neg (by omega), Bool.or_false]
  · rw [if_neg h, Bool.false_or]
    by_cases h2 : s.rule = 4 ∨ s.rule = 5 ∨ s.rule = 8 ∨ s.rule = 10
    · rw [if_pos h2]
    · rw [if_neg h2]
      unfold ruleB
      rw [if_neg (by omega), if_neg (by omega), if_neg (by omega), if_neg (by omega), if_neg (by omega), if_neg (by omega), if_neg (by omega), if_neg (by omega), if_neg (by omega), if_neg (by omega)]
theorem elim_four {s : Ded} {G : List Sq} (h : s.rule = 4) : elimB s G = wholeB s G 2 0 := by
  unfold elimB ruleB wholeB
  rw [if_pos (.inl h), if_neg (by omega), if_neg (by omega), if_neg (by omega), if_pos h]; rfl
theorem elim_five {s : Ded} {G : List Sq} (h : s.rule = 5) : elimB s G = wholeB s G 2 1 := by
  unfold elimB ruleB wholeB
  rw [if_pos (by omega), if_neg (by omega), if_neg (by omega), if_neg (by omega), if_neg (by omega), if_pos h]; rfl
theorem elim_eight {s : Ded} {g : Sq} {r : List Sq} (h : s.rule = 8) : elimB s (g :: r) = (decide (g.1 = s.asm) && (match parK g.2 3 with | some p => decide (r = [(s.asm ++ [p.1], s.con), (s.asm ++ [p.2], s.con)]) | none => false)) := by
  unfold elimB ruleB
  rw [if_pos (by omega), if_neg (by omega), if_neg (by omega), if_neg (by omega), if_neg (by omega), if_neg (by omega), if_neg (by omega), if_neg (by omega), if_pos h]
theorem elim_ten {s : Ded} {g : Sq} {r : List Sq} (h : s.rule = 10) : elimB s (g :: r) = (decide (g.1 = s.asm) && (match parK g.2 4 with | some p => decide (p.2 = s.con) && decide (r = [(s.asm, p.1)]) | none => false)) := by
  unfold elimB ruleB
  rw [if_pos (by omega), if_neg (by omega), if_neg (by omega), if_neg (by omega), if_neg (by omega), if_neg (by omega), if_neg (by omega), if_neg (by omega), if_neg (by omega), if_neg (by omega), if_pos h]
theorem elim_nil {s : Ded} (h4 : ¬ s.rule = 4) (h5 : ¬ s.rule = 5) : elimB s [] = false := by
  unfold elimB ruleB
  by_cases h : s.rule = 4 ∨ s.rule = 5 ∨ s.rule = 8 ∨ s.rule = 10
  · rw [if_pos h, if_neg (by omega), if_neg (by omega), if_neg (by omega), if_neg (by omega), if_neg (by omega), if_neg (by omega), if_neg (by omega)]
    by_cases h8 : s.rule = 8
    · rw [if_pos h8]
    · rw [if_neg h8, if_neg (by omega), if_pos (by omega)]
  · rw [if_neg h]
theorem elim_other {s : Ded} {G : List Sq} (h4 : ¬ s.rule = 4) (h5 : ¬ s.rule = 5) (h8 : ¬ s.rule = 8) (h10 : ¬ s.rule = 10) : elimB s G = false := if_neg (by omega)
end Go.Vc
namespace Go.Proofs.YteifjhpddhppcaaGreat
open Go.Vc
theorem DV.cell {w : World} {x : DV} (h1 : SlI w x.vp x.d.prem) (h2 : SlT w x.vl x.d.asm) : ∀ y ∈ x.cs, isCell y = true := fun y hy => by
  simp only [DV.cs, List.mem_cons, List.not_mem_nil, or_false] at hy
  rcases hy with rfl | rfl | rfl | rfl | rfl
  · rfl
  · exact SlK.lfCell h1
  · exact SlK.lfCell h2
  · rfl
  · rfl
theorem ok_impl_fromWhole {x : DV} {w : World} {v : Value} {R : List (Value × Sq)} (hx : SlT w x.vl x.d.asm) (h : GsR w v R) (hp : ∀ g ∈ R, plT g.2.2 = true) {k j : Nat} (hk : k = 2 ∨ k = 3 ∨ k = 4) (hj : j < 2) : Ret Tryz.prog f_impl_Deduction_fromWhole #[.agg x.cs.toArray, v, .int .i64 (k : Int), .int .i64 (j : Int)] w (.bool (wholeB x.d (R.map Prod.snd) k j)) := by
  apply c_impl_Deduction_fromWhole; unfold S_impl_Deduction_fromWhole
  refine iNew5 fun q1 w1 hq1 x1 hB1 => ?_
  have h1 := h.ext x1
  by_cases hl : R.length = 1
  rotate_left
  · refine iJnB true w1 (fun J hJ => ?_) (fun w2 x2 => ?_)
    · refine iLenK h1.row (iNe (iCndT (decide_eq_true (by omega)) ?_))
      exact fun w4 x4 => hJ _ x4
    · intro _
      simp only [gx]
      exact iCndT rfl ⟨by rw [wholeB_no (by rw [List.length_map]; exact hl)], x1.trans x2⟩
  obtain ⟨g, rfl⟩ := List.length_eq_one_iff.1 hl
  obtain ⟨vg, A, c⟩ := g
  have hA1 : SlT w1 vg A := h1.lf _ List.mem_cons_self
  have hpl : plT c = true := hp _ List.mem_cons_self
  refine iJnB (!decide (A = x.d.asm)) w1 (fun J hJ => ?_) (fun w2 x2 => ?_)
  · refine iLenK h1.row (iNe (iCndF (decide_eq_false fun h => h rfl) ?_))
    refine iFld (f := 0) (j := 0) h1.row rfl (by simp) (by decide) (cellsG_at (R := [(vg, (A, c))]) (by simp)).1 ?_
    refine iFa (iLdB hB1 (i := 2) (v := x.vl) rfl ?_)
    refine iRetQ (fun w' x' => ok_slices_EqualD (hA1.ext x') ((hx.ext x1).ext x')) (iNot ?_)
    exact fun w4 x4 => hJ _ x4
  intro _
  simp only [gx]
  have X2 := x1.trans x2
  have e : wholeB x.d ([((vg, (A, c)) : Value × Sq)].map Prod.snd) k j = (decide (A = x.d.asm) && (match parK c k with | some p => decide ((if j = 0 then p.1 else p.2) = x.d.con) | none => false)) := rfl
  rw [e]
  by_cases hA : A = x.d.asm
  rotate_left
  · rw [decide_eq_false hA]
    exact iCndT rfl ⟨by first | trivial | rfl, X2⟩
  rw [decide_eq_true hA, Bool.true_and]
  refine iCndF rfl ?_
  refine iFld (f := 1) (j := 0) (h1.ext x2).row rfl (by simp) (by decide) (cellsG_at (R := [(vg, (A, c))]) (by simp)).2 ?_
  refine iCall ((ok_impl_partsWith hpl k w2).mono ?_)
  rintro _ w3 ⟨x3, u, rfl, hu⟩
  refine iEx rfl (iEx rfl ?_)
  by_cases hkk : (fT c).kind = k
  · obtain ⟨p, hp1, hp2⟩ := parK_kind hk hkk
    rw [hp2] at hu
    rw [hp1]
    refine iJnB (decide ((if j = 0 then p.1 else p.2) = x.d.con)) w3 (fun J hJ => ?_) (fun w5 x5 => fun _ => ⟨by first | trivial | rfl, (X2.trans x3).trans x5⟩)
    refine iCndT (decide_eq_true hkk) ?_
    refine iIaG (j := j) hu.sl rfl (by simpa using hj) ?_
    refine iFa (iLdB ((hB1.ext x2).ext x3) (i := 3) (v := sv x.d.con) rfl ?_)
    refine iEqT ?_
    rw [show gt [p.1, p.2] j = if j = 0 then p.1 else p.2 by
      rcases j with _ | _ | j
      · rfl
      · rfl
      · omega]
    exact fun w9 x9 => hJ _ x9
  · rw [parK_no hk hkk]
    refine iJnB false w3 (fun J hJ => ?_) (fun w5 x5 => fun _ => ⟨by first | trivial | rfl, (X2.trans x3).trans x5⟩)
    refine iCndF (decide_eq_false hkk) ?_
    exact fun w10 x10 => hJ _ x10
theorem ok_impl_isElimination {x : DV} {w : World} {v : Value} {R : List (Value × Sq)} (hx : SlT w x.vl x.d.asm) (h : GsR w v R) (hp : ∀ g ∈ R, plT g.2.2 = true) (hl : x.d.asm.length ≤ 1000) : Ret Tryz.prog f_impl_Deduction_isElimination #[.agg x.cs.toArray, v] w (.bool (elimB x.d (R.map Prod.snd))) := by
  apply c_impl_Deduction_isElimination; unfold S_impl_Deduction_isElimination
  refine iNew5 fun q1 w1 hq1 x1 hB1 => ?_
  have h1 := h.ext x1
  have hx1 := hx.ext x1
  refine iFa (iLdB hB1 (i := 0) (v := .int .i64 x.d.rule) rfl ?_)
  refine iEq (iCndP (fun h4 => ?_) (fun h4 => ?_))
  · refine iLdA hB1 rfl ?_
    exact iRet (ok_impl_fromWhole (x := x) (k := 2) (j := 0) hx1 h1 hp (.inl rfl) (by decide)) fun w2 x2 => ⟨by rw [elim_four h4], x1.trans x2⟩
  refine iEq (iCndP (fun h5 => ?_) (fun h5 => ?_))
  · refine iLdA hB1 rfl ?_
    exact iRet (ok_impl_fromWhole (x := x) (k := 2) (j := 1) hx1 h1 hp (.inl rfl) (by decide)) fun w2 x2 => ⟨by rw [elim_five h5], x1.trans x2⟩
  cases R with
  | nil =>
    refine iJnB true w1 (fun J hJ => ?_) (fun w2 x2 => ?_)
    · exact iLenK h1.row (iEq (iCndT rfl fun w6 x6 => hJ _ x6))
    · intro _
      simp only [gx]
      exact iCndT rfl ⟨by rw [show elimB x.d (List.map Prod.snd ([] : List (Value × Sq))) = false from elim_nil h4 h5], x1.trans x2⟩
  | cons g R =>
  obtain ⟨vg, A, c⟩ := g
  have hA : SlT w1 vg A := h1.lf _ List.mem_cons_self
  have hpl : plT c = true := hp _ List.mem_cons_self
  refine iJnB (!decide (A = x.d.asm)) w1 (fun J hJ => ?_) (fun w2 x2 => ?_)
  · refine iLenK h1.row (iEq (iCndF (decide_eq_false (by rw [List.length_cons]; omega)) ?_))
    refine iFld (f := 0) (j := 0) h1.row rfl (by simp) (by decide) (cellsG_at (R := (vg, (A, c)) :: R) (by simp)).1 ?_
    refine iFa (iLdB hB1 (i := 2) (v := x.vl) rfl ?_)
    refine iRetQ (fun w' x' => ok_slices_EqualD (hA.ext x') (hx1.ext x')) (iNot ?_)
    exact fun w4 x4 => hJ _ x4
  intro _
  simp only [gx]
  have X2 := x1.trans x2
  rw [show elimB x.d (((vg, (A, c)) :: R).map Prod.snd) = elimB x.d ((A, c) :: R.map Prod.snd) from rfl]
  by_cases hAe : A = x.d.asm
  rotate_left
  · have no : elimB x.d ((A, c) :: R.map Prod.snd) = false := by
      by_cases h8 : x.d.rule = 8
      · rw [elim_eight h8]
        show (decide (A = x.d.asm) && _) = false
        rw [decide_eq_false hAe]; rfl
      · by_cases h10 : x.d.rule = 10
        · rw [elim_ten h10]
          show (decide (A = x.d.asm) && _) = false
          rw [decide_eq_false hAe]; rfl
        · exact elim_other h4 h5 h8 h10
    rw [decide_eq_false hAe, no]
    exact iCndT rfl ⟨by first | trivial | rfl, X2⟩
  rw [decide_eq_true hAe]
  refine iCndF rfl ?_
  have hR2 := h1.ext x2
  have hB2 := hB1.ext x2
  refine iFa (iLdB hB2 (i := 0) (v := .int .i64 x.d.rule) rfl ?_)
  refine iEq (iCndP (fun h8 => ?_) (fun h8 => ?_))
  · have e8 : elimB x.d ((A, c) :: R.map Prod.snd) = (match parK c 3 with | some p => decide (R.map Prod.snd = [(x.d.asm ++ [p.1], x.d.con), (x.d.asm ++ [p.2], x.d.con)]) | none => false) := by
      rw [elim_eight h8]
      show (decide (A = x.d.asm) && _) = _
      rw [decide_eq_true hAe, Bool.true_and]
    rw [e8]
    refine iFld (f := 1) (j := 0) hR2.row rfl (by simp) (by decide) (cellsG_at (R := (vg, (A, c)) :: R) (by simp)).2 ?_
    refine iCall ((ok_impl_partsWith hpl 3 w2).mono ?_)
    rintro _ w8 ⟨x8, u, rfl, hu⟩
    refine iEx rfl (iEx rfl ?_)
    have X8 := X2.trans x8
    have hB8 := hB2.ext x8
    by_cases hkk : (fT c).kind = 3
    · obtain ⟨p, hp1, hp2⟩ := parK_kind (.inr (.inl rfl)) hkk
      rw [hp2] at hu
      rw [hp1]
      refine iJnB (decide (R.map Prod.snd = [(x.d.asm ++ [p.1], x.d.con), (x.d.asm ++ [p.2], x.d.con)])) w8 (fun J hJ => ?_) (fun w10 x10 => fun _ => ⟨by first | trivial | rfl, X8.trans x10⟩)
      refine iCndT (decide_eq_true hkk) ?_
      have hR8 := hR2.ext x8
      refine iSlKFrom (i := 1) hR8.row (by simp) fun r hr => ?_
      have hr : GsR w8 r R := hR8.tail 1 hr
      refine iFa (iLdB hB8 (i := 2) (v := x.vl) rfl ?_)
      refine iIaG (j := 0) hu.sl rfl (by simp) ?_
      refine iFa (iLdB hB8 (i := 3) (v := sv x.d.con) rfl ?_)
      refine iFa (iLdB hB8 (i := 2) (v := x.vl) rfl ?_)
      refine iIaG (j := 1) hu.sl rfl (by simp) ?_
      refine iFa (iLdB hB8 (i := 3) (v := sv x.d.con) rfl ?_)
      intro w11 x11
      refine iCall ((ok_impl_behind (t := p.1) (hx.ext (X8.trans x11)) (by omega)).mono ?_)
      rintro r1 w12 ⟨x12, ho1⟩
      refine ⟨x12, iBuild2 ho1.cell rfl ?_⟩
      intro w13 x13
      have X13 := x11.trans (x12.trans x13)
      refine iCall ((ok_impl_behind (t := p.2) (hx.ext (X8.trans X13)) (by omega)).mono ?_)
      rintro r2 w14 ⟨x14, ho2⟩
      refine ⟨x14, iBuild2 ho2.cell rfl ?_⟩
      intro w15 x15
      refine iBsA2 fun b w16 _ x16 hB => ⟨x16, ?_⟩
      have X16 := x14.trans (x15.trans x16)
      refine iRetQ (fun w' x' => ok_EqualFuncJ ((hr.ext (X13.trans X16)).ext x') ((GsR.two hB (ho1.ext (x13.trans X16)).sl (ho2.ext (x15.trans x16)).sl).ext x')) ?_
      exact fun w17 x17 => hJ _ ((X13.trans X16).trans x17)
    · rw [parK_no (.inr (.inl rfl)) hkk]
      refine iJnB false w8 (fun J hJ => ?_) (fun w10 x10 => fun _ => ⟨by first | trivial | rfl, X8.trans x10⟩)
      refine iCndF (decide_eq_false hkk) ?_
      exact fun w18 x18 w19 x19 w20 x20 w21 x21 => hJ _ (((x18.trans x19).trans x20).trans x21)
  refine iEq (iCndP (fun h10 => ?_) (fun h10 => ?_))
  · have e10 : elimB x.d ((A, c) :: R.map Prod.snd) = (match parK c 4 with | some p => decide (p.2 = x.d.con) && decide (R.map Prod.snd = [(x.d.asm, p.1)]) | none => false) := by
      rw [elim_ten h10]
      show (decide (A = x.d.asm) && _) = _
      rw [decide_eq_true hAe, Bool.true_and]
    rw [e10]
    refine iFld (f := 1) (j := 0) hR2.row rfl (by simp) (by decide) (cellsG_at (R := (vg, (A, c)) :: R) (by simp)).2 ?_
    refine iCall ((ok_impl_partsWith hpl 4 w2).mono ?_)
    rintro _ w8 ⟨x8, u, rfl, hu⟩
    refine iEx rfl (iEx rfl ?_)
    have X8 := X2.trans x8
    have hB8 := hB2.ext x8
    by_cases hkk : (fT c).kind = 4
    · obtain ⟨p, hp1, hp2⟩ := parK_kind (.inr (.inr rfl)) hkk
      rw [hp2] at hu
      rw [hp1]
      refine iJnB (decide (p.2 = x.d.con) && decide (R.map Prod.snd = [(x.d.asm, p.1)])) w8 (fun J hJ => ?_) (fun w10 x10 => fun _ => ⟨by first | trivial | rfl, X8.trans x10⟩)
      refine iCndT (decide_eq_true hkk) ?_
      refine iIaG (j := 1) hu.sl rfl (by simp) ?_
      refine iFa (iLdB hB8 (i := 3) (v := sv x.d.con) rfl ?_)
      refine iEqT (iCndP (fun hc => ?_) (fun hc => ?_))
      · have hc : p.2 = x.d.con := hc
        rw [decide_eq_true hc, Bool.true_and] at hJ
        have hR8 := hR2.ext x8
        refine iSlKFrom (i := 1) hR8.row (by simp) fun r hr => ?_
        have hr : GsR w8 r R := hR8.tail 1 hr
        have hx8 := hx.ext X8
        refine iFa (iLdB hB8 (i := 2) (v := x.vl) rfl ?_)
        refine iIaG (j := 0) hu.sl rfl (by simp) ?_
        refine iBuild2 (SlK.lfCell hx8) rfl ?_
        intro w11 x11
        refine iBsA fun b w16 _ x16 hB => ⟨x16, ?_⟩
        have X16 := x11.trans x16
        refine iRetQ (fun w' x' => ok_EqualFuncJ ((hr.ext X16).ext x') ((GsR.one hB (hx8.ext X16)).ext x')) ?_
        exact fun w17 x17 => hJ _ (X16.trans x17)
      · have hc : ¬ p.2 = x.d.con := hc
        rw [decide_eq_false hc, Bool.false_and] at hJ
        exact fun w18 x18 w19 x19 => hJ _ (x18.trans x19)
    · rw [parK_no (.inr (.inr rfl)) hkk]
      refine iJnB false w8 (fun J hJ => ?_) (fun w10 x10 => fun _ => ⟨by first | trivial | rfl, X8.trans x10⟩)
      refine iCndF (decide_eq_false hkk) ?_
      exact fun w18 x18 w19 x19 => hJ _ (x18.trans x19)
  · rw [elim_other h4 h5 h8 h10]
    exact ⟨by first | trivial | rfl, X2⟩
end Go.Proofs.YteifjhpddhppcaaGreat

/- Contracts of the functions on masks. Conditions: none. -/
namespace Go.Proofs.YteifjhpddhppcaaGreat
open Go.Vc

theorem ok_spec_l01In (x a b : Int) (w : World) : Ret Tryz.prog f_spec_l01In #[.int .i64 x, .int .i64 a, .int .i64 b] w (.bool (decide (a ≤ x ∧ x ≤ b))) := by
  apply c_spec_l01In; unfold S_spec_l01In
  ((with_reducible refine iJn ?_; refine iLe ?_))
  refine iCndP (fun h1 => ?_) (fun h1 => ?_)
  all_goals (repeat first
    | (with_reducible first | refine iFa ?_ | refine iNil ?_ | refine iNilF ?_ | refine iLd (by assumption) ?_ | refine iLenN (by assumption) ?_ | refine iLenI (by assumption) ?_ | refine iLenS (by assumption) ?_ | refine iLenL ?_ | refine iEq ?_ | refine iNe ?_ | refine iLt ?_ | refine iLe ?_ | refine iNot ?_ | refine iPick ?_ | refine iE20 ?_ | refine iE21 ?_ | refine iE30 ?_ | refine iE31 ?_ | refine iE32 ?_ | refine iJn ?_)
    | ((with_reducible show xLd _ _ _); refine iLdB (by assumption) (by first | rfl | simp) ?_) | ((with_reducible refine iLdA (by assumption) ?_ ?_); rfl)
    | ((with_reducible refine iIaNN (by assumption) ?_ (fun pa_ hpa_ => ?_)); omega) | ((with_reducible refine iIaN (by assumption) ?_ (fun pa_ hpa_ => ?_)); omega)
    | ((with_reducible refine iIaI (by assumption) ?_ ?_ (fun pa_ hpa_ => ?_)); omega; omega) | ((with_reducible refine iAdd ?_ ?_); omega) | ((with_reducible refine iSub ?_ ?_); omega)
    | ((with_reducible show xEx _ _ _); refine iEx (by rfl) ?_) | ((with_reducible refine fun (_ : Nat → Value) => ?_); (try simp only [gx])))
  all_goals exact ⟨by simp [h1], Ext.refl _⟩
theorem ok_impl_inRange (x a b : Int) (w : World) : Ret Tryz.prog f_impl_inRange #[.int .i64 x, .int .i64 a, .int .i64 b] w (.bool (decide (a ≤ x ∧ x ≤ b))) := by
  apply c_impl_inRange; unfold S_impl_inRange
  ((with_reducible refine iJn ?_; refine iLe ?_))
  refine iCndP (fun h1 => ?_) (fun h1 => ?_)
  all_goals (repeat first
    | (with_reducible first | refine iFa ?_ | refine iNil ?_ | refine iNilF ?_ | refine iLd (by assumption) ?_ | refine iLenN (by assumption) ?_ | refine iLenI (by assumption) ?_ | refine iLenS (by assumption) ?_ | refine iLenL ?_ | refine iEq ?_ | refine iNe ?_ | refine iLt ?_ | refine iLe ?_ | refine iNot ?_ | refine iPick ?_ | refine iE20 ?_ | refine iE21 ?_ | refine iE30 ?_ | refine iE31 ?_ | refine iE32 ?_ | refine iJn ?_)
    | ((with_reducible show xLd _ _ _); refine iLdB (by assumption) (by first | rfl | simp) ?_) | ((with_reducible refine iLdA (by assumption) ?_ ?_); rfl)
    | ((with_reducible refine iIaNN (by assumption) ?_ (fun pa_ hpa_ => ?_)); omega) | ((with_reducible refine iIaN (by assumption) ?_ (fun pa_ hpa_ => ?_)); omega)
    | ((with_reducible refine iIaI (by assumption) ?_ ?_ (fun pa_ hpa_ => ?_)); omega; omega) | ((with_reducible refine iAdd ?_ ?_); omega) | ((with_reducible refine iSub ?_ ?_); omega)
    | ((with_reducible show xEx _ _ _); refine iEx (by rfl) ?_) | ((with_reducible refine fun (_ : Nat → Value) => ?_); (try simp only [gx])))
  all_goals exact ⟨by simp [h1], Ext.refl _⟩
end Go.Proofs.YteifjhpddhppcaaGreat

/- Contracts: which steps of a deduction introduce. Conditions: none. -/
namespace Go.Vc
theorem intro_one {s : Ded} {G : List Sq} (h : s.rule = 1) : introB s G = (decide (G = []) && (decide (0 ≤ s.num ∧ s.num ≤ (s.asm.length : Int) - 1) && decide (gt s.asm s.num.toNat = s.con))) := by
  unfold introB ruleB
  rw [if_pos (.inl h), if_pos h]
theorem intro_two {s : Ded} {G : List Sq} (h : s.rule = 2) : introB s G = decide (G = [(s.asm, Fm.fls.body)]) := by
  unfold introB ruleB
  rw [if_pos (by omega), if_neg (by omega), if_pos h]
theorem intro_three {s : Ded} {G : List Sq} (h : s.rule = 3) : introB s G = (match parK s.con 2 with | some p => decide (G = [(s.asm, p.1), (s.asm, p.2)]) | none => false) := by
  unfold introB ruleB
  rw [if_pos (by omega), if_neg (by omega), if_neg (by omega), if_pos h]
theorem intro_six {s : Ded} {G : List Sq} (h : s.rule = 6) : introB s G = (match parK s.con 3 with | some p => decide (G = [(s.asm, p.1)]) | none => false) := by
  unfold introB ruleB
  rw [if_pos (by omega), if_neg (by omega), if_neg (by omega), if_neg (by omega), if_neg (by omega), if_neg (by omega), if_pos h]
theorem intro_seven {s : Ded} {G : List Sq} (h : s.rule = 7) : introB s G = (match parK s.con 3 with | some p => decide (G = [(s.asm, p.2)]) | none => false) := by
  unfold introB ruleB
  rw [if_pos (by omega), if_neg (by omega), if_neg (by omega), if_neg (by omega), if_neg (by omega), if_neg (by omega), if_neg (by omega), if_pos h]
theorem intro_nine {s : Ded} {G : List Sq} (h : s.rule = 9) : introB s G = (match parK s.con 4 with | some p => decide (G = [(s.asm ++ [p.1], p.2)]) | none => false) := by
  unfold introB ruleB
  rw [if_pos (by omega), if_neg (by omega), if_neg (by omega), if_neg (by omega), if_neg (by omega), if_neg (by omega), if_neg (by omega), if_neg (by omega), if_neg (by omega), if_pos h]
end Go.Vc
namespace Go.Proofs.YteifjhpddhppcaaGreat
open Go.Vc
theorem ok_impl_size_stringK {v : Value} {L : List Str} {w : World} (hs : SlT w v L) : Ret Tryz.prog f_impl_size_string #[v] w (.int .i64 (L.length : Int)) := by
  apply c_impl_size_string; unfold S_impl_size_string
  exact iLenStr hs ⟨rfl, Ext.refl _⟩
/-- What a rule wants: a row of judgements and whether it fits. -/
def WantQ (s : Ded) (G : List Sq) (w : World) : List Value → World → Prop := fun xs w' => ∃ u ok R, xs = [u, .bool ok] ∧ Ext w w' ∧ GsR w' u R ∧ (ok && decide (G = R.map Prod.snd)) = introB s G
theorem WantQ.no {s : Ded} {G : List Sq} {w w' : World} (x : Ext w w') (h : introB s G = false) : WantQ s G w [.slice none 0 0, .bool false] w' := ⟨_, false, [], rfl, x, GsR.nil _, by rw [h]; rfl⟩
theorem ok_impl_isIntroduction {x : DV} {w : World} {v : Value} {R : List (Value × Sq)} (hx : SlT w x.vl x.d.asm) (h : GsR w v R) (hp : plT x.d.con = true) (hl : x.d.asm.length ≤ 1000) : Ret Tryz.prog f_impl_Deduction_isIntroduction #[.agg x.cs.toArray, v] w (.bool (introB x.d (R.map Prod.snd))) := by
  generalize hG : R.map Prod.snd = G
  apply c_impl_Deduction_isIntroduction; unfold S_impl_Deduction_isIntroduction
  refine iNew5 fun q1 w1 hq1 x1 hB1 => ?_
  have hx1 := hx.ext x1
  have hc1 : isCell x.vl = true := SlK.lfCell hx1
  have hB1 : Blk t_impl_Deduction w1 q1 [.int .i64 x.d.rule, x.vp, x.vl, sv x.d.con, .int .i64 x.d.num] := hB1
  refine iFa (iLdB hB1 (i := 0) (v := .int .i64 x.d.rule) rfl ?_)
  have pass : ∀ {J : List Value → World → Prop}, (∀ xs w, WantQ x.d G w1 xs w → J xs w) → ∀ xs w, WantQ x.d G w1 xs w → (∀ _ : Nat → Value, J [gx xs 0, gx xs 1] w) := fun hJ xs w hq => by
    obtain ⟨u, ok, R', rfl, h1, h2, h3⟩ := hq
    exact fun _ => hJ _ _ ⟨u, ok, R', rfl, h1, h2, h3⟩
  refine iEq ?_
  refine iJnX (WantQ x.d G w1) (fun J2 hJ2 => ?_) (fun xs w3 hq => ?_)
  rotate_left
  · obtain ⟨u, ok, R', rfl, x3, hR', he⟩ := hq
    intro _
    simp only [gx]
    have X3 := x1.trans x3
    refine iJnB (introB x.d G) w3 (fun J hJ => ?_) (fun w4 x4 => fun _ => ⟨by first | trivial | rfl, X3.trans x4⟩)
    cases ok with
    | false =>
      rw [← he] at hJ
      exact iCndF rfl (hJ _ (Ext.refl _))
    | true =>
      rw [Bool.true_and] at he
      refine iCndT rfl ?_
      refine iRet (ok_EqualFuncJ (h.ext X3) hR') fun w5 x5 => ?_
      rw [hG, he]
      exact hJ _ x5
  refine iCndP (fun h1 => ?_) (fun h1 => ?_)
  · -- an assumption
    have hi := intro_one (G := G) h1
    refine iJnB (decide (0 ≤ x.d.num ∧ x.d.num ≤ (x.d.asm.length : Int) - 1) && decide (gt x.d.asm x.d.num.toNat = x.d.con)) w1 (fun J hJ => ?_) (fun w5 x5 => ?_)
    · refine iFa (iLdB hB1 (i := 4) (v := .int .i64 x.d.num) rfl ?_)
      refine iFa (iLdB hB1 (i := 2) (v := x.vl) rfl ?_)
      refine iRetQ (fun w' x' => ok_impl_size_stringK (hx1.ext x')) (iSub (by omega) ?_)
      refine iRetQ (fun w' _ => ok_impl_inRange _ _ _ w') ?_
      refine iCndP (fun hr => ?_) (fun hr => ?_)
      · rw [decide_eq_true hr, Bool.true_and] at hJ
        refine iFa (iLdB hB1 (i := 2) (v := x.vl) rfl ?_)
        refine iFa (iLdB hB1 (i := 4) (v := .int .i64 x.d.num) rfl ?_)
        refine iIaG (j := x.d.num.toNat) hx1 (by omega) (by omega) ?_
        refine iFa (iLdB hB1 (i := 3) (v := sv x.d.con) rfl (iEqT ?_))
        exact fun w6 x6 => hJ _ x6
      · rw [decide_eq_false hr, Bool.false_and] at hJ
        exact fun w7 x7 => hJ _ x7
    · intro _
      refine hJ2 _ _ ⟨_, _, [], rfl, x5, GsR.nil _, ?_⟩
      rw [hi, Bool.and_comm]; rfl
  refine iEq ?_
  refine iJnX (WantQ x.d G w1) (fun J8 hJ8 => ?_) (pass hJ2)
  refine iCndP (fun h2 => ?_) (fun h2 => ?_)
  · have hi := intro_two (G := G) h2
    refine iFa (iLdB hB1 (i := 2) (v := x.vl) rfl ?_)
    refine iBuild2 hc1 rfl ?_
    refine iBsA fun b w10 _ x10 hB => ?_
    refine hJ8 _ _ ⟨_, true, [(x.vl, (x.d.asm, Fm.fls.body))], rfl, x10, GsR.one hB (hx1.ext x10), ?_⟩
    rw [hi, Bool.true_and]; rfl
  refine iEq ?_
  refine iJnX (WantQ x.d G w1) (fun J11 hJ11 => ?_) (pass hJ8)
  refine iCndP (fun h3 => ?_) (fun h3 => ?_)
  · have hi := intro_three (G := G) h3
    refine iFa (iLdB hB1 (i := 3) (v := sv x.d.con) rfl ?_)
    refine iCall ((ok_impl_partsWith hp 2 w1).mono ?_)
    rintro _ w13 ⟨x13, u, rfl, hu⟩
    refine iEx rfl (iEx rfl ?_)
    by_cases hk : (fT x.d.con).kind = 2
    · obtain ⟨p, hp1, hp2⟩ := parK_kind (.inl rfl) hk
      rw [hp2] at hu
      rw [hp1] at hi
      have hx13 := hx1.ext x13
      refine iJnX (fun xs w' => ∃ u R', xs = [u] ∧ Ext w1 w' ∧ GsR w' u R' ∧ R'.map Prod.snd = [(x.d.asm, p.1), (x.d.asm, p.2)]) (fun J hJ => ?_) ?_
      · refine iCndT (decide_eq_true hk) ?_
        refine iFa (iLdB (hB1.ext x13) (i := 2) (v := x.vl) rfl ?_)
        refine iIaG (j := 0) hu.sl rfl (by simp) (iBuild2 hc1 rfl ?_)
        refine iFa (iLdB (hB1.ext x13) (i := 2) (v := x.vl) rfl ?_)
        refine iIaG (j := 1) hu.sl rfl (by simp) (iBuild2 hc1 rfl ?_)
        intro w16 x16
        refine iBsA2 fun b w17 _ x17 hB => ?_
        intro w18 x18
        have xx := (x16.trans x17).trans x18
        exact hJ _ _ ⟨_, _, rfl, x13.trans xx, GsR.two (hB.ext x18) (hx13.ext xx) (hx13.ext xx), rfl⟩
      · rintro _ w15 ⟨u', R', rfl, x15, hR', he⟩
        intro _
        refine hJ11 _ _ ⟨u', _, R', rfl, x15, hR', ?_⟩
        rw [hi, he, decide_eq_true hk, Bool.true_and]
    · rw [parK_no (.inl rfl) hk] at hi
      refine iJnX (fun xs w' => xs = [.slice none 0 0] ∧ w' = w13) (fun J hJ => iCndF (decide_eq_false hk) (hJ _ _ ⟨rfl, rfl⟩)) ?_
      rintro _ w15 ⟨rfl, rfl⟩
      intro _
      show J11 [_, .bool (decide ((fT x.d.con).kind = 2))] _
      rw [decide_eq_false hk]
      exact hJ11 _ _ (WantQ.no x13 hi)
  refine iEq ?_
  refine iJnX (fun xs w' => xs = [.bool (decide (x.d.rule = 6 ∨ x.d.rule = 7))] ∧ w' = w1) (fun J hJ => ?_) ?_
  · refine iCndP (fun h6 => ?_) (fun h6 => ?_)
    · rw [decide_eq_true (.inl h6)] at hJ
      exact hJ _ _ ⟨rfl, rfl⟩
    · refine iEq (hJ _ _ ⟨?_, rfl⟩)
      rw [show decide (x.d.rule = 6 ∨ x.d.rule = 7) = decide (x.d.rule = 7) from decide_eq_decide.2 ⟨fun e => e.resolve_left h6, .inr⟩]
  rintro _ w20 ⟨rfl, rfl⟩
  intro _
  refine iJnX (WantQ x.d G w20) (fun J21 hJ21 => ?_) (pass hJ11)
  show cnd (.bool (decide (x.d.rule = 6 ∨ x.d.rule = 7))) _ _
  refine iCndP (fun h67 => ?_) (fun h67 => ?_)
  · refine iFa (iLdB hB1 (i := 3) (v := sv x.d.con) rfl ?_)
    refine iCall ((ok_impl_partsWith hp 3 w20).mono ?_)
    rintro _ w23 ⟨x23, u, rfl, hu⟩
    refine iEx rfl (iEx rfl ?_)
    by_cases hk : (fT x.d.con).kind = 3
    · obtain ⟨p, hp1, hp2⟩ := parK_kind (.inr (.inl rfl)) hk
      rw [hp2] at hu
      have hx23 := hx1.ext x23
      obtain ⟨j, hj, hr, hi⟩ : ∃ j : Nat, j < 2 ∧ x.d.rule = (j : Int) + 6 ∧ introB x.d G = decide (G = [(x.d.asm, gt [p.1, p.2] j)]) := by
        rcases h67 with h6 | h7
        · exact ⟨0, by decide, by omega, by rw [intro_six h6, hp1]; rfl⟩
        · exact ⟨1, by decide, by omega, by rw [intro_seven h7, hp1]; rfl⟩
      refine iJnX (fun xs w' => ∃ u R', xs = [u] ∧ Ext w20 w' ∧ GsR w' u R' ∧ R'.map Prod.snd = [(x.d.asm, gt [p.1, p.2] j)]) (fun J hJ => ?_) ?_
      · refine iCndT (decide_eq_true hk) ?_
        refine iFa (iLdB (hB1.ext x23) (i := 2) (v := x.vl) rfl ?_)
        refine iFa (iLdB (hB1.ext x23) (i := 0) (v := .int .i64 x.d.rule) rfl ?_)
        refine iSub (by omega) ?_
        refine iIaG (j := j) hu.sl (by omega) (by simpa using hj) (iBuild2 hc1 rfl ?_)
        intro w26 x26
        refine iBsA fun b w27 _ x27 hB => ?_
        intro w28 x28
        have xx := (x26.trans x27).trans x28
        exact hJ _ _ ⟨_, _, rfl, x23.trans xx, GsR.one (hB.ext x28) (hx23.ext xx), rfl⟩
      · rintro _ w25 ⟨u', R', rfl, x25, hR', he⟩
        intro _
        refine hJ21 _ _ ⟨u', _, R', rfl, x25, hR', ?_⟩
        rw [hi, he, decide_eq_true hk, Bool.true_and]
    · have hi : introB x.d G = false := by
        rcases h67 with h6 | h7
        · rw [intro_six h6, parK_no (.inr (.inl rfl)) hk]
        · rw [intro_seven h7, parK_no (.inr (.inl rfl)) hk]
      refine iJnX (fun xs w' => xs = [.slice none 0 0] ∧ w' = w23) (fun J hJ => iCndF (decide_eq_false hk) (hJ _ _ ⟨rfl, rfl⟩)) ?_
      rintro _ w25 ⟨rfl, rfl⟩
      intro _
      show J21 [_, .bool (decide ((fT x.d.con).kind = 3))] _
      rw [decide_eq_false hk]
      exact hJ21 _ _ (WantQ.no x23 hi)
  refine iEq ?_
  refine iJnX (WantQ x.d G w20) (fun J29 hJ29 => ?_) (pass hJ21)
  refine iCndP (fun h9 => ?_) (fun h9 => ?_)
  · have hi := intro_nine (G := G) h9
    refine iFa (iLdB hB1 (i := 3) (v := sv x.d.con) rfl ?_)
    refine iCall ((ok_impl_partsWith hp 4 w20).mono ?_)
    rintro _ w31 ⟨x31, u, rfl, hu⟩
    refine iEx rfl (iEx rfl ?_)
    by_cases hk : (fT x.d.con).kind = 4
    · obtain ⟨p, hp1, hp2⟩ := parK_kind (.inr (.inr rfl)) hk
      rw [hp2] at hu
      rw [hp1] at hi
      have hx31 := hx1.ext x31
      refine iJnX (fun xs w' => ∃ u R', xs = [u] ∧ Ext w20 w' ∧ GsR w' u R' ∧ R'.map Prod.snd = [(x.d.asm ++ [p.1], p.2)]) (fun J hJ => ?_) ?_
      · refine iCndT (decide_eq_true hk) ?_
        refine iFa (iLdB (hB1.ext x31) (i := 2) (v := x.vl) rfl ?_)
        refine iIaG (j := 0) hu.sl rfl (by simp) ?_
        refine iIaG (j := 1) hu.sl rfl (by simp) ?_
        intro w34 x34
        refine iCall ((ok_impl_behind (t := p.1) (hx31.ext x34) (by omega)).mono ?_)
        rintro r1 w35 ⟨x35, ho1⟩
        refine ⟨x35, iBuild2 ho1.cell rfl ?_⟩
        intro w36 x36
        refine iBsA fun b w37 _ x37 hB => ?_
        intro w38 x38
        have xx := (x36.trans x37).trans x38
        exact hJ _ _ ⟨_, _, rfl, (x31.trans (x34.trans x35)).trans xx, GsR.one (hB.ext x38) (ho1.ext xx).sl, rfl⟩
      · rintro _ w33 ⟨u', R', rfl, x33, hR', he⟩
        intro _
        refine hJ29 _ _ ⟨u', _, R', rfl, x33, hR', ?_⟩
        rw [hi, he, decide_eq_true hk, Bool.true_and]
    · rw [parK_no (.inr (.inr rfl)) hk] at hi
      refine iJnX (fun xs w' => xs = [.slice none 0 0] ∧ w' = w31) (fun J hJ => iCndF (decide_eq_false hk) (hJ _ _ ⟨rfl, rfl⟩)) ?_
      rintro _ w33 ⟨rfl, rfl⟩
      intro _
      show J29 [_, .bool (decide ((fT x.d.con).kind = 4))] _
      rw [decide_eq_false hk]
      exact hJ29 _ _ (WantQ.no x31 hi)
  · exact hJ29 _ _ (WantQ.no (Ext.refl _) (if_neg (by omega)))
end Go.Proofs.YteifjhpddhppcaaGreat

/- Contracts: which step of a deduction is the first that is not good. Conditions: none. -/
namespace Go.Vc
theorem cellsD_take (L : List DV) (k : Nat) : (cellsD L).take (k * 5) = cellsD (L.take k) := by
  induction L generalizing k with
  | nil => simp [cellsD]
  | cons x L ih =>
    cases k with
    | zero => simp [cellsD]
    | succ k =>
      show ((x.cs ++ cellsD L)).take ((k + 1) * 5) = x.cs ++ cellsD (L.take k)
      rw [List.take_append, List.take_of_length_le (by simp [DV.cs]; omega), show (k + 1) * 5 - x.cs.length = k * 5 by simp [DV.cs]; omega, ih]
theorem gt_takeD {α : Type} [Inhabited α] {L : List α} {k i : Nat} (h : i < k) (hk : k ≤ L.length) : gt (L.take k) i = gt L i := by
  rw [gt_eq (by rw [List.length_take]; omega), gt_eq (by omega), List.getElem_take]
end Go.Vc
namespace Go.Proofs.YteifjhpddhppcaaGreat
open Go.Vc
theorem ok_impl_isAssumptionList {v : Value} {L : List Str} {w : World} (hs : SlT w v L) : Ret Tryz.prog f_impl_isAssumptionList #[v] w (.bool (decide (L.length ≤ 12) && L.all plT)) := by
  apply c_impl_isAssumptionList; unfold S_impl_isAssumptionList
  refine iJnB (decide (L.length ≤ 12) && L.all plT) w (fun J hJ => ?_) (fun w2 x2 => fun _ => ⟨by first | trivial | rfl, x2⟩)
  refine iLenStr hs (iLe (iCndP (fun h => ?_) (fun h => ?_)))
  · rw [decide_eq_true (show L.length ≤ 12 by omega), Bool.true_and] at hJ
    refine iRet (ok_slices_ContainsFuncT (p := fun t => !plT t) hs fun x _ w' x' => ?_) fun w3 x3 => iNot ?_
    · refine iRet (v := .bool (!plT x)) ?_ fun w5 x5 => ⟨rfl, x5⟩
      apply c_impl_isAssumptionList_1; unfold S_impl_isAssumptionList_1
      exact iRet (ok_impl_isPlainTextG x w') fun w4 x4 => iNot ⟨rfl, x4⟩
    · rw [show (!L.any fun t => !plT t) = L.all plT by rw [List.not_any_eq_all_not]; simp]
      exact hJ _ x3
  · rw [decide_eq_false (show ¬ L.length ≤ 12 by omega), Bool.false_and] at hJ
    exact hJ _ (Ext.refl _)
theorem ok_impl_isGoodDeduction {R : List DV} {k : Nat} (hk : k < R.length) (hR : R.length ≤ 1000000000) (hg : ∀ j, j < k → goodD (R.map DV.d) j = true) {v0 : Value} {w : World} (h0 : SlK 5 w v0 k (cellsD (R.take k))) (hpr : ∀ x ∈ R, SlI w x.vp x.d.prem) (hlr : ∀ x ∈ R, SlT w x.vl x.d.asm) (hpb : ∀ x ∈ R, x.d.prem.length ≤ 1000000000) :
    Ret Tryz.prog f_impl_isGoodDeduction #[v0, .agg (gt R k).cs.toArray] w (.bool (goodD (R.map DV.d) k)) := by
  have hmem : ∀ {j : Nat}, j < R.length → gt R j ∈ R := fun hj => by rw [gt_eq hj]; exact List.getElem_mem _
  have hgd : ∀ {j : Nat}, j < R.length → gt (R.map DV.d) j = (gt R j).d := fun hj => map_gt hj
  have hpm := hpr _ (hmem hk)
  have hlm := hlr _ (hmem hk)
  have hpb := hpb _ (hmem hk)
  have e0 : goodD (R.map DV.d) k = (shapeD (gt R k).d && (inD k (gt R k).d && ruleB (gt R k).d (givenD (R.map DV.d) (gt R k).d))) := by unfold goodD; rw [hgd hk]
  rw [e0]
  generalize hx : gt R k = x at *
  apply c_impl_isGoodDeduction; unfold S_impl_isGoodDeduction
  refine iNew5 fun q1 w1 hq1 x1 hB1 => ?_
  have hB1 : Blk t_impl_Deduction w1 q1 [.int .i64 x.d.rule, x.vp, x.vl, sv x.d.con, .int .i64 x.d.num] := hB1
  have e1 : shapeD x.d = ((decide (x.d.asm.length ≤ 12) && x.d.asm.all plT) && (plT x.d.con && (decide (x.d.rule = 1) || decide (x.d.num = 0)))) := rfl
  refine iJnB (!shapeD x.d) w1 (fun J hJ => ?_) (fun w3 x3 => ?_)
  · refine iFa (iLdB hB1 (i := 2) (v := x.vl) rfl ?_)
    refine iRet (ok_impl_isAssumptionList (hlm.ext x1)) fun w4 x4 => iNot ?_
    rw [e1] at hJ
    cases ha : (decide (x.d.asm.length ≤ 12) && x.d.asm.all plT) with
    | false =>
      rw [ha, Bool.false_and] at hJ
      exact iCndT rfl (hJ _ x4)
    | true =>
      rw [ha, Bool.true_and] at hJ
      refine iCndF rfl ?_
      refine iFa (iLdB (hB1.ext x4) (i := 3) (v := sv x.d.con) rfl ?_)
      refine iRet (ok_impl_isPlainTextG x.d.con w4) fun w5 x5 => iNot ?_
      cases hp : plT x.d.con with
      | false =>
        rw [hp, Bool.false_and] at hJ
        exact iCndT rfl (hJ _ (x4.trans x5))
      | true =>
        rw [hp, Bool.true_and] at hJ
        refine iCndF rfl ?_
        have hB5 := (hB1.ext x4).ext x5
        refine iFa (iLdB hB5 (i := 0) (v := .int .i64 x.d.rule) rfl ?_)
        refine iNe (iCndP (fun h => ?_) (fun h => ?_))
        · rw [decide_eq_false (show ¬ x.d.rule = 1 from h), Bool.false_or] at hJ
          refine iFa (iLdB hB5 (i := 4) (v := .int .i64 x.d.num) rfl (iNe ?_))
          rw [show (decide (¬ x.d.num = 0)) = !decide (x.d.num = 0) by simp]
          exact hJ _ (x4.trans x5)
        · rw [decide_eq_true (show x.d.rule = 1 from Classical.not_not.1 h), Bool.true_or] at hJ
          exact hJ _ (x4.trans x5)
  intro _
  simp only [gx]
  have X3 := x1.trans x3
  refine iCnd (fun hs => ?_) (fun hs => ?_)
  · have hs : shapeD x.d = false := by simpa using hs
    rw [hs, Bool.false_and]
    exact ⟨by first | trivial | rfl, X3⟩
  have hs : shapeD x.d = true := by simpa using hs
  rw [hs, Bool.true_and]
  obtain ⟨s1, s2, s3⟩ := shapeD_at hs
  have hB3 := hB1.ext x3
  refine iFa (iLdB hB3 (i := 1) (v := x.vp) rfl ?_)
  have hp3 := hpm.ext X3
  have hpl : (ints x.d.prem).length = x.d.prem.length := ints_length _
  refine iLenI hp3 ?_
  have hpsl := SlI.len hp3
  -- the judgements so far
  refine iLp (fun s : Value × Nat => [s.1, .int .i64 (s.2 : Int)]) (fun s w' => s.2 ≤ x.d.prem.length ∧ Ext w3 w' ∧ (∀ q ∈ x.d.prem.take s.2, 0 ≤ q ∧ q ≤ (k : Int) - 1) ∧ ∃ RG : List (Value × Sq), RG.map Prod.snd = (x.d.prem.take s.2).map (fun q => jdg (gt (R.map DV.d) q.toNat)) ∧ OwK 2 w3.heap.size t_impl_judgement w' s.1 RG.length (cellsG RG) ∧ ∀ y ∈ RG, ∃ z ∈ R, y.1 = z.vl ∧ y.2 = (z.d.asm, z.d.con) ∧ plT z.d.con = true) (fun s => x.d.prem.length - s.2) (.slice none 0 0, 0) rfl ⟨Nat.zero_le _, Ext.refl _, (fun q hq => by cases hq), [], rfl, OwK.nil 2 _ _ _, fun y hy => (by cases hy)⟩ ?_
  rintro ⟨gv, i⟩ w4 Kn ⟨hi, x4, hin, RG, hRG, hrow, hRL⟩ hKn
  have hi : i ≤ x.d.prem.length := hi
  have hin : ∀ q ∈ x.d.prem.take i, 0 ≤ q ∧ q ≤ (k : Int) - 1 := hin
  have hRG : RG.map Prod.snd = (x.d.prem.take i).map (fun q => jdg (gt (R.map DV.d) q.toNat)) := hRG
  have hrow : OwK 2 w3.heap.size t_impl_judgement w4 gv RG.length (cellsG RG) := hrow
  have hRGl : RG.length = i := by
    have := congrArg List.length hRG
    rw [List.length_map, List.length_map, List.length_take] at this
    omega
  have X4 := X3.trans x4
  have hB4 := hB3.ext x4
  intro _
  simp only [gx]
  refine iLt (iCndP (fun h => ?_) (fun h => ?_))
  · have hil : i < x.d.prem.length := by omega
    refine iIaN (hpm.ext X4) hil fun p hp => ?_
    have eq : x.d.prem.getD i 0 = x.d.prem[i] := by simp [hil]
    rw [eq] at hp
    have hq : x.d.prem[i] ∈ x.d.prem := List.getElem_mem hil
    have etk : x.d.prem.take (i + 1) = x.d.prem.take i ++ [x.d.prem[i]] := List.take_succ_eq_append_getElem hil
    generalize x.d.prem[i] = qi at *
    refine iLd hp ?_
    refine iLenK (SlK.ext h0 X4) ?_
    refine iSub (by omega) ?_
    refine iRet (ok_impl_inRange _ _ _ w4) fun w5 x5 => iNot ?_
    by_cases hr : 0 ≤ qi ∧ qi ≤ (k : Int) - 1
    rotate_left
    · rw [decide_eq_false hr]
      have : inD k x.d = false := by
        unfold inD
        rw [List.all_eq_false]
        exact ⟨qi, hq, by rw [decide_eq_false hr]; simp⟩
      rw [this, Bool.false_and]
      exact iCndT rfl ⟨by first | trivial | rfl, X4.trans x5⟩
    rw [decide_eq_true hr]
    refine iCndF rfl ?_
    have X5 := X4.trans x5
    obtain ⟨m, rfl⟩ := Int.eq_ofNat_of_zero_le hr.1
    have hmk : m < k := by omega
    have htk : (R.take k).length = k := by rw [List.length_take]; omega
    refine iAtD (SlK.ext h0 X5) htk.symm (by omega) ?_
    have hmR : m < R.length := by omega
    have hgm : gt (R.take k) m = gt R m := gt_takeD hmk (by omega)
    rw [hgm]
    have hyl := (hlr _ (hmem hmR)).ext X5
    have hgood := (shapeD_at (goodD_iff (hg m hmk)).1).2.2
    rw [hgd hmR] at hgood
    have hjd : jdg (gt (R.map DV.d) ((m : Nat) : Int).toNat) = ((gt R m).d.asm, (gt R m).d.con) := by rw [Int.toNat_natCast, hgd hmR]; rfl
    have hym := hmem hmR
    generalize gt R m = y at *
    refine iRet (ok_impl_judgement (SlK.lfCell hyl)) fun w6 x6 => ?_
    refine iBsA fun bb w7 hbb x7 hB7 => ?_
    have x47 := (x5.trans x6).trans x7
    refine iAppK u_Simpl_judgement i_Simpl_judgement rfl (by decide) (OwK.ext hrow x47) (SlK.ofBlk (n := 1) hB7 rfl (by decide)) (fun z hz => by
      simp only [List.mem_cons, List.not_mem_nil, or_false] at hz
      rcases hz with rfl | rfl
      · exact SlK.lfCell hyl
      · rfl) (by omega) (by omega) (Nat.le_trans x4.size x47.size) fun gv' w8 hrow8 hg8 hat8 => ?_
    refine iAdd (by omega) ?_
    have x8 : Ext w3 w8 := (x4.trans x47).grown hg8 fun c hc => (OwK.blk hrow c hc).1
    refine hKn (gv', i + 1) _ ⟨hil, x8, ?_, RG ++ [(y.vl, (y.d.asm, y.d.con))], ?_, ?_, fun z hz => ?_⟩ (by show x.d.prem.length - (i + 1) < x.d.prem.length - i; omega)
    · show ∀ q ∈ x.d.prem.take (i + 1), _
      rw [etk]
      intro q hq
      rcases List.mem_append.1 hq with hq | hq
      · exact hin q hq
      · rw [List.mem_singleton.1 hq]; exact hr
    · show _ = (x.d.prem.take (i + 1)).map _
      rw [List.map_append, hRG, etk, List.map_append]
      congr 1
      show [(y.d.asm, y.d.con)] = [jdg (gt (R.map DV.d) ((m : Nat) : Int).toNat)]
      rw [hjd]
    · show OwK 2 _ _ _ gv' _ _
      rw [cellsG_app, List.length_append]
      exact hrow8
    · rcases List.mem_append.1 hz with hz | hz
      · exact hRL z hz
      · rw [List.mem_singleton.1 hz]
        exact ⟨y, hym, rfl, rfl, hgood⟩
  · have hil : i = x.d.prem.length := by omega
    rw [hil, List.take_length] at hRG hin
    have hinD : inD k x.d = true := by
      unfold inD
      rw [List.all_eq_true]
      exact fun q hq => decide_eq_true (hin q hq)
    rw [hinD, Bool.true_and]
    have hRG : RG.map Prod.snd = givenD (R.map DV.d) x.d := hRG
    have hpR : ∀ g ∈ RG, plT g.2.2 = true := fun g hg => by
      obtain ⟨z, _, _, e2, e3⟩ := hRL g hg
      rw [e2]; exact e3
    have hGs : GsR w4 gv RG := ⟨hrow.sl, fun g hg => by
      obtain ⟨z, hz, e1, e2, _⟩ := hRL g hg
      rw [e1, e2]
      exact (hlr z hz).ext X4⟩
    rw [← hRG, ← ruleB_split]
    refine iJnB (introB x.d (RG.map Prod.snd) || elimB x.d (RG.map Prod.snd)) w4 (fun J hJ => ?_) (fun w13 x13 => fun _ => ⟨by first | trivial | rfl, X4.trans x13⟩)
    refine iLdA hB4 rfl ?_
    refine iRet (ok_impl_isIntroduction (x := x) (hlm.ext X4) hGs s3 (by omega)) fun w14 x14 => ?_
    refine iCnd (fun hi1 => ?_) (fun hi1 => ?_)
    · rw [hi1, Bool.true_or] at hJ
      exact hJ _ x14
    · rw [hi1, Bool.false_or] at hJ
      refine iLdA (hB4.ext x14) rfl ?_
      exact iRet (ok_impl_isElimination (x := x) (hlm.ext (X4.trans x14)) (hGs.ext x14) hpR (by omega)) fun w15 x15 => hJ _ (x14.trans x15)
theorem ok_impl_firstBadDeduction {R : List DV} {v : Value} {w : World} (hR : R.length ≤ 1000000000) (h : RdD w v R) (hpb : ∀ x ∈ R, x.d.prem.length ≤ 1000000000) : Cal Tryz.prog f_impl_firstBadDeduction #[v] w fun u w' => Ext w w' ∧ ∃ z : Int, u = .int .i64 z ∧ decide (0 ≤ z) = !allGoodD (R.map DV.d) := by
  apply c_impl_firstBadDeduction; unfold S_impl_firstBadDeduction
  refine iLenK h.row ?_
  refine iLp (fun i : Nat => [.int .i64 (i : Int)]) (fun i w' => i ≤ R.length ∧ Ext w w' ∧ ∀ j, j < i → goodD (R.map DV.d) j = true) (fun i => R.length - i) 0 rfl ⟨Nat.zero_le _, Ext.refl _, fun j hj => absurd hj (Nat.not_lt_zero _)⟩ ?_
  rintro i w2 Kn ⟨hi, x2, hok⟩ hKn
  intro _
  simp only [gx]
  refine iLt (iCndP (fun h1 => ?_) (fun h1 => ?_))
  · have hil : i < R.length := by omega
    have hm : gt R i ∈ R := by rw [gt_eq hil]; exact List.getElem_mem _
    have h2 := h.ext x2
    refine iAtD h2.row rfl hil ?_
    refine iNew5 fun q3 w3 hq3 x3 hB3 => ?_
    refine iStAB hB3 rfl rfl (fun y hy => DV.cell (h2.prem _ hm) (h2.asm _ hm) y (by simpa using hy)) fun w4 hu4 hB4 => ?_
    have x24 : Ext w2 w4 := x3.upd hu4 (by omega)
    have h4 := h2.ext x24
    refine iSlKToH h4.row (by omega) fun v' hv' => ?_
    rw [cellsD_take] at hv'
    refine iLdA hB4 rfl ?_
    refine iRetQ (fun w' x' => ok_impl_isGoodDeduction hil hR hok (SlK.ext hv' x') (fun x hx => (h4.prem x hx).ext x') (fun x hx => (h4.asm x hx).ext x') hpb) (iNot ?_)
    intro w5 x5
    have X5 := (x2.trans x24).trans x5
    refine iCnd (fun hb => ?_) (fun hb => ?_)
    · refine ⟨X5, _, rfl, ?_⟩
      have hb : goodD (R.map DV.d) i = false := by simpa using hb
      have : allGoodD (R.map DV.d) = false := by
        unfold allGoodD
        rw [List.all_eq_false]
        exact ⟨i, List.mem_range.2 (by rw [List.length_map]; exact hil), by rw [hb]; simp⟩
      rw [this, decide_eq_true (by omega)]; rfl
    · have hb : goodD (R.map DV.d) i = true := by simpa using hb
      refine iAdd (by omega) (hKn (i + 1) _ ⟨by omega, X5, fun j hj => ?_⟩ (by omega))
      by_cases e : j = i
      · subst e; exact hb
      · exact hok j (by omega)
  · refine ⟨x2, -1, rfl, ?_⟩
    have : allGoodD (R.map DV.d) = true := by
      unfold allGoodD
      rw [List.all_eq_true]
      intro j hj
      rw [List.mem_range, List.length_map] at hj
      exact hok j (by omega)
    rw [this]; rfl
theorem ok_ContainsFunc_oneD {v va fv : Value} {b : Bool} {w : World} (hs : Sl w v [va]) (hf : ∀ w', Ext w w' → callV Tryz.prog fv [va] w' fun u w'' => u = .bool b ∧ Ext w' w'') :
    Ret Tryz.prog f_slices_ContainsFunc_SSimpl_Deduction_Simpl_Deduction #[v, fv] w (.bool b) := by
  apply c_slices_ContainsFunc_SSimpl_Deduction_Simpl_Deduction; unfold S_slices_ContainsFunc_SSimpl_Deduction_Simpl_Deduction
  refine iCall (Cal.mono (R := fun r w' => Ext w w' ∧ ∃ z : Int, r = .int .i64 z ∧ decide (0 ≤ z) = b) ?_ ?_)
  · apply c_slices_IndexFunc_SSimpl_Deduction_Simpl_Deduction; unfold S_slices_IndexFunc_SSimpl_Deduction_Simpl_Deduction
    refine iLenS hs ?_
    refine iLp (fun i : Nat => [.int .i64 (i : Int)]) (fun i w' => i ≤ 1 ∧ Ext w w' ∧ (i = 1 → b = false)) (fun i => 1 - i) 0 rfl ⟨Nat.zero_le _, Ext.refl _, fun h => by omega⟩ ?_
    rintro i w2 Kn ⟨hi, h2, hno⟩ hKn
    intro _
    simp only [gx]
    refine iLt (iCndP (fun h => ?_) (fun h => ?_))
    · have hi0 : i = 0 := by simp at h; omega
      subst hi0
      refine iIa (j := 0) (hs.ext h2) (by omega) (by simp) fun p hp => ?_
      have hp : w2.cell? p = some va := hp
      refine iLd hp ?_
      refine (hf w2 h2).mono ?_
      rintro u w3 ⟨rfl, x3⟩
      refine iCnd (fun h3 => ?_) (fun h3 => ?_)
      · exact ⟨h2.trans x3, _, rfl, by rw [h3]; rfl⟩
      · refine iAdd (by omega) ?_
        exact hKn 1 _ ⟨Nat.le_refl _, h2.trans x3, fun _ => h3⟩ (by omega)
    · have hi1 : i = 1 := by simp at h; omega
      exact ⟨h2, -1, rfl, by rw [hno hi1]; rfl⟩
  · rintro r w1 ⟨h1, z, rfl, hz⟩
    refine iLe ?_
    rw [hz]
    exact ⟨by first | trivial | rfl, h1⟩
theorem ok_impl_isDeductionCount {v : Value} {n : Nat} {xs : List Value} {w : World} (hs : SlK 5 w v n xs) : Ret Tryz.prog f_impl_isDeductionCount #[v] w (.bool (decide (1 ≤ n ∧ n ≤ 120))) := by
  apply c_impl_isDeductionCount; unfold S_impl_isDeductionCount
  refine iJnB (decide (1 ≤ n ∧ n ≤ 120)) w (fun J hJ => ?_) (fun w2 x2 => fun _ => ⟨by first | trivial | rfl, x2⟩)
  refine iLenK hs (iLe (iCndP (fun h => ?_) (fun h => ?_)))
  · refine iLenK hs (iLe ?_)
    rw [show decide ((n : Int) ≤ 120) = decide (1 ≤ n ∧ n ≤ 120) from decide_eq_decide.2 (by omega)]
    exact hJ _ (Ext.refl _)
  · rw [decide_eq_false (show ¬ (1 ≤ n ∧ n ≤ 120) by omega)] at hJ
    exact hJ _ (Ext.refl _)
theorem ok_impl_deductionCode1 {v va : Value} {R : List DV} {w : World} (hs : Sl w v [va]) (h : RdD w va R) (hpb : ∀ x ∈ R, x.d.prem.length ≤ 1000000000) : Ret Tryz.prog f_impl_deductionCode #[v] w (.int .i64 (codeD (R.map DV.d))) := by
  apply c_impl_deductionCode; unfold S_impl_deductionCode
  refine iRet (ok_ContainsFunc_oneD (b := !decide (1 ≤ R.length ∧ R.length ≤ 120)) hs fun w' x' => iClo rfl ?_) fun w1 x1 => ?_
  · show Cal Tryz.prog f_impl_deductionCode_1 #[va] w' _
    apply c_impl_deductionCode_1; unfold S_impl_deductionCode_1
    exact iRet (ok_impl_isDeductionCount (SlK.ext h.row x')) fun w2 x2 => iNot ⟨rfl, x2⟩
  have hl : (R.map DV.d).length = R.length := List.length_map _
  unfold codeD
  rw [hl]
  by_cases hc : 1 ≤ R.length ∧ R.length ≤ 120
  rotate_left
  · rw [decide_eq_false hc, if_neg hc]
    exact iCndT rfl ⟨rfl, x1⟩
  rw [decide_eq_true hc, if_pos hc]
  refine iCndF rfl ?_
  refine iRet (ok_ContainsFunc_oneD (b := !allGoodD (R.map DV.d)) (hs.ext x1) fun w' x' => iClo rfl ?_) fun w2 x2 => ?_
  · show Cal Tryz.prog f_impl_deductionCode_2 #[va] w' _
    apply c_impl_deductionCode_2; unfold S_impl_deductionCode_2
    refine iCall ((ok_impl_firstBadDeduction (by omega) (h.ext (x1.trans x')) hpb).mono ?_)
    rintro _ w3 ⟨x3, z, rfl, hz⟩
    refine iLe ⟨?_, x3⟩
    rw [hz]
  cases hg : allGoodD (R.map DV.d) with
  | true => exact iCndF rfl ⟨rfl, x1.trans x2⟩
  | false => exact iCndT rfl ⟨rfl, x1.trans x2⟩
end Go.Proofs.YteifjhpddhppcaaGreat

/- Contracts: marks laid in inferences, and inferences that hold them. Conditions: none. -/
namespace Go.Vc
theorem iFld5 {sz f : Nat} {w : World} {v x : Value} {n : Nat} {xs : List Value} {j : Nat} {k : IntKind} {K : Value → Prop} (hs : SlK sz w v n xs) (h1 : j < n) (hf : f < sz) (hx : xs[j * sz + f]? = some x) (h : K x) : xIa sz v (.int k (j : Int)) fun p => xFa f p fun q => xLd w q K := by
  refine iIaK hs h1 fun b o hc => ?_
  exact iFa (iLd ((hc f hf).trans hx) h)
theorem iSt5 {lo : Nat} {e : TypeId} {w : World} {v x : Value} {n : Nat} {xs : List Value} {j f : Nat} {k : IntKind} {K : World → Prop} (hs : OwK 5 lo e w v n xs) (hj : j < n) (hf : f < 5) (hx : isCell x = true)
    (h : ∀ w', OwK 5 lo e w' v n (xs.set (j * 5 + f) x) → Ch (fun c => v.ownBlock = some c) w w' → K w') : xIa 5 v (.int k (j : Int)) fun p => xFa f p fun q => xSt w q x K := by
  obtain ⟨hl, ⟨-, h0⟩ | ⟨g, cap, cur, hv, hg, hh, h1, h2, h3, h4⟩⟩ := hs
  · omega
  · subst hv
    have hs : w.ownsRow lo e 5 (.slice (some ⟨g, 0, none⟩) n cap) n xs := ⟨hl, .inr ⟨g, cap, cur, rfl, hg, hh, h1, h2, h3, h4⟩⟩
    refine ⟨_, _, _, _, _, rfl, rfl, by omega, by omega, ?_⟩
    rw [Int.toNat_natCast, addr_add]
    refine ⟨_, rfl, ?_⟩
    rw [addr_add, Nat.zero_add]
    have hjf : j * 5 + f < xs.length := by omega
    refine iSt ((hs.cellAt (j * 5 + f) (by omega)).trans (List.getElem?_eq_getElem hjf)) (hs.frozenAt _) hx ?_
    exact h _ (hs.stored (j * 5 + f) x).1 ((Upd.setCell w g _ x).ch rfl)
end Go.Vc
namespace Go.Proofs.YteifjhpddhppcaaGreat
open Go.Vc
def marksN (k n : Nat) : List Nat := (List.range n).map fun i => k + i
theorem nats_marks (k n : Nat) : nats (marksN k n) = marks k n := by simp [nats, marksN, marks]
/-- An inference with the marks from k on. -/
def mkIn (k : Nat) (x : Inf) : Inf := ⟨k, marksN (k + 1) x.prem.length, marksT (k + 1 + x.prem.length) x.left.length, markT ((k + 1 + x.prem.length + x.left.length : Nat) : Int), markT ((k + 1 + x.prem.length + x.left.length + 1 : Nat) : Int)⟩
def szI (x : Inf) : Nat := x.prem.length + x.left.length + 3
def totI (L : List Inf) : Nat := (L.map szI).sum
theorem totI_snoc (L : List Inf) (x : Inf) : totI (L ++ [x]) = totI L + szI x := by simp [totI]
theorem totI_take {L : List Inf} {i : Nat} (hi : i < L.length) : totI (L.take (i + 1)) = totI (L.take i) + szI (gt L i) ∧ totI (L.take (i + 1)) ≤ totI L := by
  refine ⟨by rw [List.take_succ_eq_append_getElem hi, totI_snoc, gt_eq hi], ?_⟩
  have e := congrArg totI (List.take_append_drop (i + 1) L)
  simp only [totI, List.map_append, List.sum_append] at e ⊢
  omega
def mkIs : Nat → List Inf → List Inf
  | _, [] => []
  | k, x :: l => mkIn k x :: mkIs (k + szI x) l
theorem mkIs_len : ∀ (L : List Inf) (k : Nat), (mkIs k L).length = L.length
  | [], _ => rfl
  | x :: l, k => by simp [mkIs, mkIs_len l]
theorem mkIs_get : ∀ (L : List Inf) (k : Nat) {i : Nat}, i < L.length → gt (mkIs k L) i = mkIn (k + totI (L.take i)) (gt L i)
  | [], _, i, h => by simp at h
  | x :: l, k, 0, _ => by simp [mkIs, gt, totI]
  | x :: l, k, i + 1, h => by
    show gt (mkIs (k + szI x) l) i = mkIn (k + totI (x :: l.take i)) (gt l i)
    rw [mkIs_get l _ (by simpa using h)]
    congr 1
    simp only [totI, List.map_cons, List.sum_cons]
    omega
theorem mkIs_snoc (x : Inf) : ∀ (L : List Inf) (k : Nat), mkIs k (L ++ [x]) = mkIs k L ++ [mkIn (k + totI L) x]
  | [], k => by simp [mkIs, totI]
  | y :: L, k => by
    rw [List.cons_append, mkIs, mkIs_snoc x L, mkIs]
    have : k + szI y + totI L = k + totI (y :: L) := by simp only [totI, List.map_cons, List.sum_cons]; omega
    rw [this]; rfl
theorem cells5_set : ∀ {R : List IV} {i : Nat} (r : Nat) (p : List Nat) (l : List Str) (c m : Str), i < R.length → (((cells5 R).set (i * 5 + 0) (.int .i64 (r : Int))).set (i * 5 + 3) (sv c)).set (i * 5 + 4) (sv m) = cells5 (R.set i ⟨⟨r, p, l, c, m⟩, (gt R i).vp, (gt R i).vl⟩)
  | [], _, _, _, _, _, _, h => by simp at h
  | x :: R, 0, r, p, l, c, m, _ => rfl
  | x :: R, i + 1, r, p, l, c, m, h => by
    have := cells5_set (R := R) (i := i) r p l c m (by simpa using h)
    have e : ∀ (k : Nat) (u : Value) (M : List Value), (x.cs ++ M).set ((i + 1) * 5 + k) u = x.cs ++ M.set (i * 5 + k) u := fun k u M => by
      rw [List.set_append_right _ _ (by show 5 ≤ (i + 1) * 5 + k; omega)]
      congr 2
      show (i + 1) * 5 + k - 5 = i * 5 + k
      omega
    show (((x.cs ++ cells5 R).set ((i + 1) * 5 + 0) _).set ((i + 1) * 5 + 3) _).set ((i + 1) * 5 + 4) _ = x.cs ++ cells5 (R.set i ⟨⟨r, p, l, c, m⟩, (gt R i).vp, (gt R i).vl⟩)
    rw [e, e, e, this]
theorem ok_laws_heldInferenceS {v : Value} {w : World} {A : List IV} {L : List Inf} (hs : RdI w v A) (hA : A.map IV.i = mkIs 1 L) (hL : totI L ≤ 1000000000) :
    Ret Tryz.prog f_laws_heldInferenceS #[v, .int .i64 1] w (.int .i64 ((1 + totI L : Nat) : Int)) := by
  apply c_laws_heldInferenceS; unfold S_laws_heldInferenceS
  have hlen : A.length = L.length := by
    have := congrArg List.length hA
    rw [List.length_map, mkIs_len] at this
    exact this
  refine iLp (fun i : Nat => [.int .i64 ((1 + totI (L.take i) : Nat) : Int), .int .i64 (i : Int)]) (fun i w' => i ≤ L.length ∧ Ext w w') (fun i => L.length - i) 0 rfl ⟨Nat.zero_le _, Ext.refl _⟩ ?_
  rintro i w2 Kn ⟨hi, h2⟩ hKn
  have g := hs.ext h2
  intro _
  simp only [gx]
  refine iLenK g.row (iLt (iCndP (fun h3 => ?_) (fun h3 => ?_)))
  · have hi1 : i < L.length := by omega
    have hiA : i < A.length := by omega
    have hm : gt A i ∈ A := by rw [gt_eq hiA]; exact List.getElem_mem hiA
    have hge : (gt A i).i = mkIn (1 + totI (L.take i)) (gt L i) := by
      have e1 : gt (A.map IV.i) i = (gt A i).i := map_gt hiA
      rw [← e1, hA, mkIs_get L 1 hi1]
    obtain ⟨htk, hle⟩ := totI_take hi1
    have hat := cells5_at hiA
    have hp := g.prem _ hm
    have hl := g.left _ hm
    have hcap := g.row.len
    generalize hx : gt A i = x at *
    obtain ⟨xi, vp, vl⟩ := x
    have hge : xi = mkIn (1 + totI (L.take i)) (gt L i) := hge
    subst hge
    generalize gt L i = y at *
    generalize totI (L.take i) = z at *
    have hszy : szI y = y.prem.length + y.left.length + 3 := rfl
    have hp : SlI w2 vp (nats (marksN (1 + z + 1) y.prem.length)) := hp
    rw [nats_marks] at hp
    have hl : SlT w2 vl (marksT (1 + z + 1 + y.prem.length) y.left.length) := hl
    refine iFld5 (f := 0) (x := .int .i64 ((1 + z : Nat) : Int)) g.row hiA (by decide) (by rw [hat 0 (by decide)]; rfl) ?_
    refine iNe (iCndF (decide_eq_false fun h => h rfl) ?_)
    refine iAdd (by omega) ?_
    rw [show ((1 + z : Nat) : Int) + 1 = ((1 + z + 1 : Nat) : Int) by omega]
    refine iFld5 (f := 1) (x := vp) g.row hiA (by decide) (by rw [hat 1 (by decide)]; rfl) ?_
    have hml : (marks (1 + z + 1) y.prem.length).length = y.prem.length := by simp [marks]
    refine iRet (ok_laws_heldInt64S hp _ (by rw [hml]; omega)) fun w3 h23 => ?_
    have e3 : heldN (1 + z + 1) (marks (1 + z + 1) y.prem.length) = ((1 + z + 1 + y.prem.length : Nat) : Int) := by
      unfold heldN
      rw [hml, if_pos rfl]
    rw [e3]
    refine iLt (iCndF (decide_eq_false (by omega)) ?_)
    have g3 := g.ext h23
    refine iFld5 (f := 2) (x := vl) g3.row hiA (by decide) (by rw [hat 2 (by decide)]; rfl) ?_
    refine iRet (ok_laws_heldStringS (hl.ext h23) (by omega)) fun w4 h34 => ?_
    refine iLt (iCndF (decide_eq_false (by omega)) ?_)
    have g4 := g3.ext h34
    refine iFld5 (f := 3) (x := sv (markT ((1 + z + 1 + y.prem.length + y.left.length : Nat) : Int))) g4.row hiA (by decide) (by rw [hat 3 (by decide)]; rfl) ?_
    refine iRetQ (fun w' _ => ok_laws_markText ((1 + z + 1 + y.prem.length + y.left.length : Nat) : Int) (by omega) w') (iNeT ?_)
    intro w5 h45
    refine iCndF (decide_eq_false fun h => h rfl) ?_
    refine iAdd (by omega) ?_
    rw [show ((1 + z + 1 + y.prem.length + y.left.length : Nat) : Int) + 1 = ((1 + z + 1 + y.prem.length + y.left.length + 1 : Nat) : Int) by omega]
    refine iFld5 (f := 4) (x := sv (markT ((1 + z + 1 + y.prem.length + y.left.length + 1 : Nat) : Int))) (g4.ext h45).row hiA (by decide) (by rw [hat 4 (by decide)]; rfl) ?_
    refine iRetQ (fun w' _ => ok_laws_markText ((1 + z + 1 + y.prem.length + y.left.length + 1 : Nat) : Int) (by omega) w') (iNeT ?_)
    intro w6 h56
    refine iCndF (decide_eq_false fun h => h rfl) ?_
    refine iAdd (by omega) (iAdd (by omega) ?_)
    have hz : ((1 + z + 1 + y.prem.length + y.left.length + 1 : Nat) : Int) + 1 = ((1 + totI (L.take (i + 1)) : Nat) : Int) := by rw [htk, hszy]; omega
    rw [hz]
    exact hKn (i + 1) _ ⟨by omega, (((h2.trans h23).trans h34).trans h45).trans h56⟩ (by omega)
  · obtain rfl : i = L.length := by omega
    rw [List.take_length]
    exact ⟨rfl, h2⟩
/-- Inferences that are the call's own, all of them apart. -/
structure OwI (lo : Nat) (w : World) (v : Value) (R : List IV) : Prop where
  row : OwK 5 lo t_impl_Inference w v R.length (cells5 R)
  prem : ∀ j, j < R.length → Ow lo t_i64 w (gt R j).vp (ints (nats (gt R j).i.prem))
  left : ∀ j, j < R.length → Ow lo t_string w (gt R j).vl (strs (gt R j).i.left)
  dp : ∀ a b, a < R.length → b < R.length → a ≠ b → ∀ c, (gt R a).vp.ownBlock = some c → (gt R b).vp.ownBlock ≠ some c
  dl : ∀ a b, a < R.length → b < R.length → a ≠ b → ∀ c, (gt R a).vl.ownBlock = some c → (gt R b).vl.ownBlock ≠ some c
theorem OwI.ext {lo : Nat} {w w' : World} {v : Value} {R : List IV} (h : OwI lo w v R) (x : Ext w w') : OwI lo w' v R := ⟨OwK.ext h.row x, fun j hj => (h.prem j hj).ext x, fun j hj => (h.left j hj).ext x, h.dp, h.dl⟩
theorem OwI.rd {lo : Nat} {w : World} {v : Value} {R : List IV} (h : OwI lo w v R) : RdI w v R := by
  refine ⟨h.row.sl, fun x hx => ?_, fun x hx => ?_⟩
  · obtain ⟨j, hj, rfl⟩ := List.getElem_of_mem hx
    rw [← gt_eq hj]; exact (h.prem j hj).sl
  · obtain ⟨j, hj, rfl⟩ := List.getElem_of_mem hx
    rw [← gt_eq hj]; exact (h.left j hj).sl
theorem ok_laws_markInferenceS {lo : Nat} {w : World} {v : Value} {R : List IV} {M : List Inf} (h : OwI lo w v R) (hR : R.map IV.i = M) (hM : totI M ≤ 1000000000) :
    Cal Tryz.prog f_laws_markInferenceS #[v, .int .i64 1] w fun r w' => r = .int .i64 ((1 + totI M : Nat) : Int) ∧ (∃ R', OwI lo w' v R' ∧ R'.map IV.i = mkIs 1 M) ∧ Ch (fun c => lo ≤ c) w w' := by
  apply c_laws_markInferenceS; unfold S_laws_markInferenceS
  have hcap : M.length ≤ 9223372036854775807 := by
    have := h.row.sl.len
    rw [← hR, List.length_map]; exact this
  refine iLp (fun i : Nat => [.int .i64 ((1 + totI (M.take i) : Nat) : Int), .int .i64 (i : Int)]) (fun i w' => i ≤ M.length ∧ Ch (fun c => lo ≤ c) w w' ∧ ∃ R, OwI lo w' v R ∧ R.map IV.i = mkIs 1 (M.take i) ++ M.drop i) (fun i => M.length - i) 0 (by simp [totI]) ⟨Nat.zero_le _, (Ext.refl w).ch, R, h, by simpa [mkIs] using hR⟩ ?_
  clear h hR R
  rintro i w2 Kn ⟨hi, hch, R, hO, hRs⟩ hKn
  have hRl : R.length = M.length := by
    have := congrArg List.length hRs
    rw [List.length_map, List.length_append, mkIs_len, List.length_take, List.length_drop] at this
    omega
  intro _
  simp only [gx]
  refine iLenK hO.row.sl ?_
  refine iLt (iCndP (fun h3 => ?_) (fun h3 => ?_))
  · have hiR : i < R.length := by omega
    have hiM : i < M.length := by omega
    have hml : (mkIs 1 (M.take i)).length = i := by rw [mkIs_len, List.length_take]; omega
    have hx : (gt R i).i = gt M i := by
      have e1 : gt (R.map IV.i) i = (gt R i).i := map_gt hiR
      rw [← e1, hRs, gt_eq (by rw [List.length_append, hml, List.length_drop]; omega), List.getElem_append_right (by omega), gt_eq hiM]
      simp [hml]
    obtain ⟨htk, hle⟩ := totI_take hiM
    have hszy : szI (gt M i) = (gt M i).prem.length + (gt M i).left.length + 3 := rfl
    have hpr := hO.prem i hiR
    have hlf := hO.left i hiR
    rw [hx] at hpr hlf
    generalize hz : totI (M.take i) = z at *
    generalize hy : gt M i = y at *
    have keepR : ∀ {w' w'' : World} {S : Nat → Prop} {xs : List Value}, OwK 5 lo t_impl_Inference w' v R.length xs → Ch S w' w'' → (∀ c, S c → ∃ cur e, w'.heap[c]? = some (.cells cur e (0, 0)) ∧ e ≠ t_impl_Inference) → OwK 5 lo t_impl_Inference w'' v R.length xs := fun h hc hn => OwK.ch h hc fun c hc' hS => by
      obtain ⟨cur, e, h1, h2⟩ := hn c hS
      exact h2 (ne_ty ⟨cur, h1⟩ (OwK.ty h hc'))
    have keep : ∀ {w' w'' : World} {e : TypeId} {u : Value} {xs ys : List Value}, e ≠ t_impl_Inference → Ow lo e w' u xs → OwK 5 lo t_impl_Inference w' v R.length ys → Ch (fun c => v.ownBlock = some c) w' w'' → Ow lo e w'' u xs := fun hne h hr hc => h.ch hc fun c hc' hS => hne (ne_ty (h.ty hc') (OwK.ty hr hS))
    -- the rule
    refine iSt5 (f := 0) hO.row hiR (by decide) rfl fun w3 hr3 c3 => ?_
    have p3 : ∀ j, j < R.length → Ow lo t_i64 w3 (gt R j).vp (ints (nats (gt R j).i.prem)) := fun j hj => keep (by decide) (hO.prem j hj) hO.row c3
    have l3 : ∀ j, j < R.length → Ow lo t_string w3 (gt R j).vl (strs (gt R j).i.left) := fun j hj => keep (by decide) (hO.left j hj) hO.row c3
    refine iAdd (by omega) ?_
    rw [show ((1 + z : Nat) : Int) + 1 = ((1 + z + 1 : Nat) : Int) by omega]
    -- the premises
    refine iFld5 (f := 1) (x := (gt R i).vp) hr3.sl hiR (by decide) (by rw [List.getElem?_set_ne (by omega), cells5_at hiR 1 (by decide)]; rfl) ?_
    have hpi := p3 i hiR
    rw [hx] at hpi
    have hnl : (nats y.prem).length = y.prem.length := nats_length _
    refine iCall ((ok_laws_markInt64S hpi (1 + z + 1) (by rw [hnl]; omega)).mono ?_)
    rintro _ w4 ⟨rfl, hm4, hg4⟩
    rw [hnl] at hm4
    have c4 := grown_ch (S := fun c => (gt R i).vp.ownBlock = some c) hg4 fun c hc => hc
    have hr4 := keepR hr3 c4 fun c hc => by obtain ⟨cur, e⟩ := hpi.ty hc; exact ⟨cur, _, e, by decide⟩
    have p4 : ∀ j, j < R.length → j ≠ i → Ow lo t_i64 w4 (gt R j).vp (ints (nats (gt R j).i.prem)) := fun j hj hne => (p3 j hj).ch c4 fun c hc hS => hO.dp j i hj hiR hne c hc hS
    have l4 : ∀ j, j < R.length → Ow lo t_string w4 (gt R j).vl (strs (gt R j).i.left) := fun j hj => (l3 j hj).ch c4 fun c hc hS => absurd (ne_ty ((l3 j hj).ty hc) (hpi.ty hS)) (by decide)
    rw [hnl]
    -- the left side
    refine iFld5 (f := 2) (x := (gt R i).vl) hr4.sl hiR (by decide) (by rw [List.getElem?_set_ne (by omega), cells5_at hiR 2 (by decide)]; rfl) ?_
    have hli := l4 i hiR
    rw [hx] at hli
    refine iCall ((ok_laws_markStringS hli (k := 1 + z + 1 + y.prem.length) (by omega)).mono ?_)
    rintro _ w5 ⟨rfl, hT5⟩
    have c5 := hT5.ch
    have hr5 := keepR hr4 c5 fun c hc => by obtain ⟨cur, e⟩ := hli.ty hc; exact ⟨cur, _, e, by decide⟩
    have m5 : Ow lo t_i64 w5 (gt R i).vp (ints (marks (1 + z + 1) y.prem.length)) := hm4.ch c5 fun c hc hS => absurd (ne_ty (hm4.ty hc) (hli.ty hS)) (by decide)
    have p5 : ∀ j, j < R.length → j ≠ i → Ow lo t_i64 w5 (gt R j).vp (ints (nats (gt R j).i.prem)) := fun j hj hne => (p4 j hj hne).ch c5 fun c hc hS => absurd (ne_ty ((p4 j hj hne).ty hc) (hli.ty hS)) (by decide)
    have l5 : ∀ j, j < R.length → j ≠ i → Ow lo t_string w5 (gt R j).vl (strs (gt R j).i.left) := fun j hj hne => (l4 j hj).ch c5 fun c hc hS => hO.dl j i hj hiR hne c hc hS
    have t5 : Ow lo t_string w5 (gt R i).vl (strs (marksT (1 + z + 1 + y.prem.length) y.left.length)) := hT5.ow
    -- the right side and the main text
    refine iRet (ok_laws_markText _ (by omega) w5) fun w6 h56 => ?_
    refine iSt5 (f := 3) (OwK.ext hr5 h56) hiR (by decide) rfl fun w7 hr7 c7 => ?_
    refine iAdd (by omega) ?_
    rw [show ((1 + z + 1 + y.prem.length + y.left.length : Nat) : Int) + 1 = ((1 + z + 1 + y.prem.length + y.left.length + 1 : Nat) : Int) by omega]
    refine iRet (ok_laws_markText _ (by omega) w7) fun w8 h78 => ?_
    refine iSt5 (f := 4) (OwK.ext hr7 h78) hiR (by decide) rfl fun w9 hr9 c9 => ?_
    refine iAdd (by omega) (iAdd (by omega) ?_)
    have k9 : ∀ {e : TypeId} {u : Value} {xs : List Value}, e ≠ t_impl_Inference → Ow lo e w5 u xs → Ow lo e w9 u xs := fun hne h => keep hne ((keep hne (h.ext h56) (OwK.ext hr5 h56) c7).ext h78) (OwK.ext hr7 h78) c9
    have hzz : ((1 + z + 1 + y.prem.length + y.left.length + 1 : Nat) : Int) + 1 = ((1 + totI (M.take (i + 1)) : Nat) : Int) := by rw [htk, hszy]; omega
    rw [hzz]
    have own : ∀ c, v.ownBlock = some c → lo ≤ c := fun c hc => (OwK.blk hO.row c hc).1
    have h9 : Ch (fun c => lo ≤ c) w2 w9 := (((((c3.mono own).trans (c4.mono fun c hc => (hpi.blk c hc).1) fun c hc => .inl hc).trans (c5.mono fun c hc => (hli.blk c hc).1) fun c hc => .inl hc).trans (h56.ch (S := fun c => lo ≤ c)) fun c hc => .inl hc).trans (c7.mono own) fun c hc => .inl hc).trans ((h78.ch (S := fun c => lo ≤ c)).trans (c9.mono own) fun c hc => .inl hc) fun c hc => .inl hc
    have hgs : ∀ j, gt (R.set i ⟨mkIn (1 + z) y, (gt R i).vp, (gt R i).vl⟩) j = if j = i then ⟨mkIn (1 + z) y, (gt R i).vp, (gt R i).vl⟩ else gt R j := gt_set _ hiR
    have hvp : ∀ j, (gt (R.set i ⟨mkIn (1 + z) y, (gt R i).vp, (gt R i).vl⟩) j).vp = (gt R j).vp ∧ (gt (R.set i ⟨mkIn (1 + z) y, (gt R i).vp, (gt R i).vl⟩) j).vl = (gt R j).vl := fun j => by
      rw [hgs]
      by_cases e : j = i
      · rw [if_pos e, e]; exact ⟨rfl, rfl⟩
      · rw [if_neg e]; exact ⟨rfl, rfl⟩
    refine hKn (i + 1) _ ⟨by omega, hch.trans h9 fun c hc => .inl hc, R.set i ⟨mkIn (1 + z) y, (gt R i).vp, (gt R i).vl⟩, ⟨?_, fun j hj => ?_, fun j hj => ?_, fun a b ha hb => ?_, fun a b ha hb => ?_⟩, ?_⟩ (by omega)
    · rw [List.length_set]
      rw [show cells5 (R.set i ⟨mkIn (1 + z) y, (gt R i).vp, (gt R i).vl⟩) = _ from (cells5_set (1 + z) _ _ _ _ hiR).symm]
      exact hr9
    · rw [List.length_set] at hj
      rw [(hvp j).1, hgs]
      by_cases e : j = i
      · rw [if_pos e, e]
        refine k9 (by decide) ?_
        show Ow lo t_i64 w5 _ (ints (nats (marksN (1 + z + 1) y.prem.length)))
        rw [nats_marks]; exact m5
      · rw [if_neg e]; exact k9 (by decide) (p5 j hj e)
    · rw [List.length_set] at hj
      rw [(hvp j).2, hgs]
      by_cases e : j = i
      · rw [if_pos e, e]; exact k9 (by decide) t5
      · rw [if_neg e]; exact k9 (by decide) (l5 j hj e)
    · rw [List.length_set] at ha hb
      rw [(hvp a).1, (hvp b).1]; exact hO.dp a b ha hb
    · rw [List.length_set] at ha hb
      rw [(hvp a).2, (hvp b).2]; exact hO.dl a b ha hb
    · rw [List.map_set, hRs, List.take_succ_eq_append_getElem hiM, mkIs_snoc, ← gt_eq hiM, List.set_append_right _ _ (by omega), hml, Nat.sub_self, List.drop_eq_getElem_cons hiM, List.set_cons_zero, List.append_assoc, hz, hy]
      rfl
  · obtain rfl : i = M.length := by omega
    rw [List.take_length, List.drop_length, List.append_nil] at hRs
    rw [List.take_length]
    exact ⟨rfl, ⟨R, hO, hRs⟩, hch⟩
end Go.Proofs.YteifjhpddhppcaaGreat

/- Contracts: inferences added behind a proof that is being made. Conditions: none. -/
namespace Go.Vc
theorem iBuild5K {z0 z1 z2 z3 z4 a b c d f : Value} {K : Value → Prop} (ha : isCell a = true) (hb : isCell b = true) (hc : isCell c = true) (hd : isCell d = true) (hf : isCell f = true) (h : K (.agg #[a, b, c, d, f])) : xBuild #[z0, z1, z2, z3, z4] #[(0, 1), (1, 1), (2, 1), (3, 1), (4, 1)] [(0, a), (1, b), (2, c), (3, d), (4, f)] K :=
  iBuild (cs := #[a, b, c, d, f]) (by simp [Instr.fill, isCell_cells ha, isCell_cells hb, isCell_cells hc, isCell_cells hd, isCell_cells hf]) h
end Go.Vc
namespace Go.Proofs.YteifjhpddhppcaaGreat
open Go.Vc
abbrev bp (b : Nat) : Value := .pointer (some ⟨b, 0, none⟩)
def TyS (l0 : Nat) (w : World) (c : Nat) : Prop := l0 ≤ c ∧ ∃ cs, Blk t_impl_Inference w c cs
/-- What a maker of proofs may turn: its block, rows of inferences. -/
def SCh (l0 b : Nat) (w w' : World) : Prop := Ch (fun c => c = b ∨ TyS l0 w c) w w'
theorem SCh.trans {l0 b : Nat} {w w' w'' : World} (h : SCh l0 b w w') (k : SCh l0 b w' w'') : SCh l0 b w w'' := by
  refine Ch.trans h k fun c hc => ?_
  by_cases hlt : c < w.heap.size
  · by_cases hs : c = b ∨ TyS l0 w c
    · exact .inl hs
    · rcases hc with hc | ⟨h0, cs, hc⟩
      · exact absurd (.inl hc) hs
      · refine .inl (.inr ⟨h0, cs, ?_⟩)
        unfold Blk at hc ⊢
        rw [← h.block c hlt hs]; exact hc
  · exact .inr (by omega)
theorem SCh.ext {l0 b : Nat} {w w' : World} (x : Ext w w') : SCh l0 b w w' := x.ch
theorem SCh.blk {l0 b : Nat} {w w' : World} (x : Ch (fun c => c = b) w w') : SCh l0 b w w' := x.mono fun _ h => .inl h
theorem SCh.row {b k lo n : Nat} {w w' : World} {v : Value} {xs : List Value} (h : OwK k lo t_impl_Inference w v n xs) (x : Ch (fun c => v.ownBlock = some c) w w') : SCh lo b w w' := x.mono fun c hc => by
  obtain ⟨cur, hh⟩ := OwK.ty h hc
  exact .inr ⟨(OwK.blk h c hc).1, cur.toList, by unfold Blk; rw [hh]⟩
theorem Ow.sch {e' : TypeId} {l0 lo b : Nat} {e : TypeId} {w w' : World} {v : Value} {xs cs : List Value} (h : Ow lo e w v xs) (x : SCh l0 b w w') (hB : Blk e' w b cs) (h1 : e ≠ e') (h2 : e ≠ t_impl_Inference) : Ow lo e w' v xs := by
  refine Ow.ch h x fun c hc hS => ?_
  rcases hS with rfl | ⟨-, cs', hS⟩
  · exact h.ne_blk hB h1 hc
  · exact h.ne_blk hS h2 hc
/-- What stands beside the proof shares no block with its premises. -/
def Sep (w : World) (vs : List Value) (Q : List IV) : Prop := ∀ u ∈ vs, ∀ c, u.ownBlock = some c → c < w.heap.size ∧ ∀ j, j < Q.length → (gt Q j).vp.ownBlock ≠ some c
theorem Sep.le {w w' : World} {vs : List Value} {Q : List IV} (h : Sep w vs Q) (hs : w.heap.size ≤ w'.heap.size) : Sep w' vs Q := fun u hu c hc => ⟨Nat.lt_of_lt_of_le (h u hu c hc).1 hs, (h u hu c hc).2⟩
theorem Sep.snoc {w w' : World} {vs : List Value} {Q : List IV} {x : IV} (h : Sep w vs Q) (hs : w.heap.size ≤ w'.heap.size) (hx : ∀ c, x.vp.ownBlock = some c → w.heap.size ≤ c) : Sep w' vs (Q ++ [x]) := fun u hu c hc => by
  obtain ⟨h1, h2⟩ := h u hu c hc
  refine ⟨by omega, fun j hj e => ?_⟩
  rw [List.length_append, List.length_singleton] at hj
  by_cases hjl : j < Q.length
  · rw [gt_eq (by rw [List.length_append]; omega), List.getElem_append_left hjl, ← gt_eq hjl] at e
    exact h2 j hjl e
  · have : j = Q.length := by omega
    subst this
    rw [gt_end] at e
    have := hx c e
    omega
/-- A maker of proofs: its block (type e, the proof in the first cell) and the inferences so far. -/
structure SM (e : TypeId) (l0 : Nat) (w : World) (b : Nat) (vs zs : List Value) (Q : List IV) : Prop where
  lob : l0 ≤ b
  ex : ∃ vp, Blk e w b (vp :: vs) ∧ OwI l0 w vp Q ∧ Sep w zs Q
theorem SM.ext {e : TypeId} {l0 : Nat} {w w' : World} {b : Nat} {vs zs : List Value} {Q : List IV} (h : SM e l0 w b vs zs Q) (x : Ext w w') : SM e l0 w' b vs zs Q := by
  obtain ⟨h0, vp, h1, h2, h3⟩ := h
  exact ⟨h0, vp, h1.ext x, h2.ext x, h3.le x.size⟩
/-- Another row of the maker's has grown. -/
theorem SM.grow {e : TypeId} {l0 lo : Nat} {w w' : World} {b : Nat} {vs xs : List Value} {u u' : Value} {Q : List IV} (h : SM e l0 w b vs [u] Q) (he : t_i64 ≠ e) (hu : Ow lo t_i64 w u xs) (hg : w.grownBy w' u.ownBlock) (hat : u'.ownBlock = u.ownBlock ∨ ∃ c, u'.ownBlock = some c ∧ w.heap.size ≤ c) (hlt : ∀ c, u'.ownBlock = some c → c < w'.heap.size) : SM e l0 w' b vs [u'] Q := by
  obtain ⟨h0, vp, hB, hO, hS⟩ := h
  have hch := grown_ch (S := fun k => u.ownBlock = some k) hg fun k hk => hk
  have hu1 : u ∈ [u] := List.mem_singleton.2 rfl
  refine ⟨h0, vp, hB.grown hg (hu.ne_blk hB he), ⟨OwK.ch hO.row hch fun c hc hc' => absurd (ne_ty (OwK.ty hO.row hc) (hu.ty hc')) (by decide), fun j hj => (hO.prem j hj).ch hch fun c hc hc' => (hS u hu1 c hc').2 j hj hc, fun j hj => (hO.left j hj).ch hch fun c hc hc' => absurd (ne_ty ((hO.left j hj).ty hc) (hu.ty hc')) (by decide), hO.dp, hO.dl⟩, ?_⟩
  intro z hz c hc
  rw [List.mem_singleton.1 hz] at hc
  refine ⟨hlt c hc, fun j hj e' => ?_⟩
  rcases hat with e1 | ⟨c', e1, hge⟩
  · rw [e1] at hc
    exact (hS u hu1 c hc).2 j hj e'
  · rw [e1] at hc
    cases hc
    have := ((hO.prem j hj).blk _ e').2
    omega
theorem OwI.nil (l0 : Nat) (w : World) : OwI l0 w (.slice none 0 0) [] := ⟨OwK.nil _ _ _ _, fun j hj => absurd hj (Nat.not_lt_zero j), fun j hj => absurd hj (Nat.not_lt_zero j), fun a _ ha => absurd ha (Nat.not_lt_zero a), fun a _ ha => absurd ha (Nat.not_lt_zero a)⟩
theorem OwI.snoc {lo : Nat} {w w' : World} {v v' : Value} {Q : List IV} {x : IV} (h : OwI lo w v Q) (hg : w.grownBy w' v.ownBlock) (hrow : OwK 5 lo t_impl_Inference w' v' (Q.length + 1) (cells5 Q ++ x.cs)) (hp : Ow lo t_i64 w x.vp (ints (nats x.i.prem))) (hl : Ow lo t_string w x.vl (strs x.i.left))
    (hdp : ∀ j, j < Q.length → ∀ c, (gt Q j).vp.ownBlock = some c → x.vp.ownBlock ≠ some c) (hdl : ∀ j, j < Q.length → ∀ c, (gt Q j).vl.ownBlock = some c → x.vl.ownBlock ≠ some c) : OwI lo w' v' (Q ++ [x]) := by
  have hch := grown_ch (S := fun k => v.ownBlock = some k) hg fun k hk => hk
  have keep : ∀ {e : TypeId} {u : Value} {xs : List Value}, e ≠ t_impl_Inference → Ow lo e w u xs → Ow lo e w' u xs := fun hne k => k.ch hch fun c hc hS => hne (ne_ty (k.ty hc) (OwK.ty h.row hS))
  have gl : ∀ {j : Nat}, j < Q.length → gt (Q ++ [x]) j = gt Q j := fun hj => by rw [gt_eq (by rw [List.length_append]; omega), gt_eq hj, List.getElem_append_left hj]
  have ge : gt (Q ++ [x]) Q.length = x := gt_end Q x
  have hlen : (Q ++ [x]).length = Q.length + 1 := by rw [List.length_append]; rfl
  refine ⟨?_, fun j hj => ?_, fun j hj => ?_, fun a b ha hb hab c hc => ?_, fun a b ha hb hab c hc => ?_⟩
  · rw [hlen, cells5_app, show cells5 [x] = x.cs by simp [cells5]]; exact hrow
  · rw [hlen] at hj
    by_cases hjl : j < Q.length
    · rw [gl hjl]; exact keep (by decide) (h.prem j hjl)
    · have : j = Q.length := by omega
      subst this
      rw [ge]; exact keep (by decide) hp
  · rw [hlen] at hj
    by_cases hjl : j < Q.length
    · rw [gl hjl]; exact keep (by decide) (h.left j hjl)
    · have : j = Q.length := by omega
      subst this
      rw [ge]; exact keep (by decide) hl
  · rw [hlen] at ha hb
    by_cases h1 : a < Q.length
    · rw [gl h1] at hc
      by_cases h2 : b < Q.length
      · rw [gl h2]; exact h.dp a b h1 h2 hab c hc
      · have : b = Q.length := by omega
        subst this
        rw [ge]; exact hdp a h1 c hc
    · have : a = Q.length := by omega
      subst this
      rw [ge] at hc
      have h2 : b < Q.length := by omega
      rw [gl h2]
      exact fun hc' => hdp b h2 c hc' hc
  · rw [hlen] at ha hb
    by_cases h1 : a < Q.length
    · rw [gl h1] at hc
      by_cases h2 : b < Q.length
      · rw [gl h2]; exact h.dl a b h1 h2 hab c hc
      · have : b = Q.length := by omega
        subst this
        rw [ge]; exact hdl a h1 c hc
    · have : a = Q.length := by omega
      subst this
      rw [ge] at hc
      have h2 : b < Q.length := by omega
      rw [gl h2]
      exact fun hc' => hdl b h2 c hc' hc
theorem ok_slices_CloneI {lo : Nat} {v : Value} {l : List Int} {w : World} (hs : Ow lo t_i64 w v (ints l)) (hL : l.length ≤ 1099511627776) :
    Cal Tryz.prog f_slices_Clone_Si64_i64 #[v] w fun r w' => Ext w w' ∧ Ow w.heap.size t_i64 w' r (ints l) := by
  apply c_slices_Clone_Si64_i64; unfold S_slices_Clone_Si64_i64
  have hll : (ints l).length = l.length := ints_length l
  refine iNilOw hs (fun e => ?_) ?_
  · refine iCndT rfl ⟨Ext.refl _, ?_⟩
    have : ints l = [] := by
      obtain ⟨_, h | ⟨g, cap, cur, hv, _⟩⟩ := hs
      · exact List.length_eq_zero_iff.1 h.2
      · rw [e] at hv; cases hv
    rw [this]; exact Ow.nil _ _ _
  · refine iCndF rfl ?_
    refine iBs0 fun u w1 hw1 x1 ho => ?_
    refine iApp u_Si64 i_Si64 rfl ho (hs.ext x1).sl (fun y hy => by
      obtain ⟨z, _, rfl⟩ := List.mem_map.1 hy
      rfl) (by simp only [List.length_nil]; omega) (by simp only [List.length_nil]; omega) (by omega) fun u' w2 ho2 hg => ?_
    refine ⟨x1.grown hg fun b hb => (ho.blk b hb).1, by simpa using ho2⟩
theorem ok_impl_size_InfK {v : Value} {n : Nat} {xs : List Value} {w : World} (hs : SlK 5 w v n xs) : Ret Tryz.prog f_impl_size_impl_Inference #[v] w (.int .i64 (n : Int)) := by
  apply c_impl_size_impl_Inference; unfold S_impl_size_impl_Inference
  exact iLenK hs ⟨rfl, Ext.refl _⟩
abbrev SMi (l0 : Nat) (w : World) (b : Nat) (vs : List Value) (Q : List IV) : Prop := SM 50 l0 w b vs vs Q
theorem ok_impl_maker_add {l0 b : Nat} {w : World} {vs vl vq : Value} {Q : List IV} (hM : SMi l0 w b [vs] Q) {rule : Nat} {L : List Str} {ps : List Nat} {c main : Str} (hl : TxW 0 w vl L) (hp : Ow 0 t_i64 w vq (ints (nats ps))) (hL : L.length ≤ 1000000) (hP : ps.length ≤ 1000000) (hQ : Q.length ≤ 1000000) :
    Cal Tryz.prog f_impl_sequentMaker_add #[bp b, .int .i64 (rule : Int), vl, sv c, sv main, vq] w fun u w' => u = .int .i64 (Q.length : Int) ∧ SCh l0 b w w' ∧ ∃ x : IV, x.i = ⟨rule, ps, L, c, main⟩ ∧ SMi l0 w' b [vs] (Q ++ [x]) := by
  obtain ⟨hlo, vp, hB, hO, hSe⟩ := hM
  apply c_impl_sequentMaker_add; unfold S_impl_sequentMaker_add
  refine iNil (iFa (iLdB hB (i := 0) (v := vp) rfl ?_))
  intro w1 x1
  refine iCall ((ok_slices_CloneI (hp.ext x1) (by rw [nats_length]; omega)).mono ?_)
  rintro rp w2 ⟨x2, hrp⟩
  refine ⟨x2, fun w3 x3 => ?_⟩
  refine iCall ((ok_slices_CloneT (hl.ext ((x1.trans x2).trans x3)) (by omega)).mono ?_)
  rintro rl w4 ⟨x4, hrl⟩
  refine ⟨x4, iBuild5K rfl hrp.cell hrl.cell rfl rfl ?_⟩
  intro w5 x5
  refine iBs15 fun bb w6 hbb x6 hB6 => ⟨x6, fun w7 x7 => ?_⟩
  have X1 : Ext w w4 := ((x1.trans x2).trans x3).trans x4
  have x47 := (x5.trans x6).trans x7
  have X7 := X1.trans x47
  have hO7 := hO.ext X7
  have hB7 := hB.ext X7
  have hwl : l0 ≤ w.heap.size := Nat.le_trans hlo (Nat.le_of_lt hB.lt)
  have hrp7 : Ow l0 t_i64 w7 rp (ints (nats ps)) := (hrp.ext ((x3.trans x4).trans x47)).mono (Nat.le_trans hwl x1.size)
  have hrl7 : Ow l0 t_string w7 rl (strs L) := (hrl.ext x47).mono (Nat.le_trans hwl ((x1.trans x2).trans x3).size)
  have hsl : SlK 5 w7 (.slice (some ⟨bb, 0, none⟩) 1 1) 1 (IV.cs ⟨⟨rule, ps, L, c, main⟩, rp, rl⟩) := SlK.ofBlk (hB6.ext x7) rfl (by decide)
  refine iAppK u_Simpl_Inference i_Simpl_Inference rfl (by decide) hO7.row hsl (fun y hy => by
    simp only [IV.cs, List.mem_cons, List.not_mem_nil, or_false] at hy
    rcases hy with rfl | rfl | rfl | rfl | rfl
    · rfl
    · exact hrp.cell
    · exact hrl.cell
    · rfl
    · rfl) (by omega) (by omega) (Nat.le_trans hwl X7.size) fun vp' w8 hrow8 hg8 hat8 => ?_
  have hch8 := grown_ch (S := fun k => vp.ownBlock = some k) hg8 fun k hk => hk
  have hB8 := hB7.grown hg8 (fun e => owk_no hO7.row hB7 (by decide) e)
  have hO8 : OwI l0 w8 vp' (Q ++ [⟨⟨rule, ps, L, c, main⟩, rp, rl⟩]) := hO7.snoc hg8 hrow8 hrp7 hrl7 (fun j hj k hk hk' => by
    have h1 := ((hO.prem j hj).blk k hk).2
    have h2 := (hrp.blk k hk').1
    have := x1.size
    omega) (fun j hj k hk hk' => by
    have h1 := ((hO.left j hj).blk k hk).2
    have h2 := (hrl.blk k hk').1
    have := ((x1.trans x2).trans x3).size
    omega)
  refine iNil (iFa ?_)
  intro w9 x9
  have hB9 := hB8.ext x9
  refine iStB (i := 0) hB9 (by simp) hrow8.cell fun hB10 => ?_
  have hch10 := (Upd.setCell w9 b 0 vp').ch (S := fun k => k = b) rfl
  generalize w9.setCell ⟨b, 0, none⟩ vp' = w10 at *
  intro w11 x11
  have hB10 : Blk 50 w10 b [vp', vs] := hB10
  have hO9 := hO8.ext x9
  have ne9 : ∀ {e : TypeId} {k : Nat} {xs : List Value} {u : Value}, e ≠ 50 → Ow l0 e w9 u xs → Ow l0 e w10 u xs := fun hne h => h.ch hch10 fun c hc hS => h.ne_blk hB9 hne (by have hS : c = b := hS; rw [hc, hS])
  have hO10 : OwI l0 w10 vp' (Q ++ [⟨⟨rule, ps, L, c, main⟩, rp, rl⟩]) := ⟨OwK.ch hO9.row hch10 fun k hk hS => owk_no hO9.row hB9 (by decide) (by have hS : k = b := hS; rw [hk, hS]), fun j hj => ne9 (k := 0) (by decide) (hO9.prem j hj), fun j hj => ne9 (k := 0) (by decide) (hO9.left j hj), hO9.dp, hO9.dl⟩
  have hO11 := hO10.ext x11
  have hB11 := hB10.ext x11
  refine iNil (iFa (iLdB hB11 (i := 0) (v := vp') rfl ?_))
  refine iRet (ok_impl_size_InfK hO11.row.sl) fun w12 x12 => ?_
  rw [List.length_append, List.length_singleton]
  refine iSub (by omega) ?_
  have hfin := ((((SCh.ext (b := b) X7).trans (SCh.row hO7.row hch8)).trans (SCh.ext x9)).trans (SCh.blk hch10)).trans (SCh.ext (x11.trans x12))
  refine ⟨by congr 1; omega, hfin, _, rfl, hlo, vp', hB11.ext x12, hO11.ext x12, hSe.snoc hfin.size fun c hc => Nat.le_trans x1.size (hrp.blk c hc).1⟩
end Go.Proofs.YteifjhpddhppcaaGreat

/- Contracts: the inferences that are made of a step, in the program. Conditions: none. -/
namespace Go.Vc
theorem addT_ins {L : List Str} (h : Inc L) (t : Str) : addT L t = insT t L := by
  have e : setT L = L := inc_ext (inc_setT _) h fun u => mem_setT
  show (L ++ [t]).foldl (fun a x => insT x a) [] = _
  rw [List.foldl_append]
  show insT t (setT L) = _
  rw [e]
theorem addT_len (L : List Str) (t : Str) : (addT L t).length ≤ L.length + 1 := by
  have := setT_len (L ++ [t])
  rw [List.length_append, List.length_singleton] at this
  exact this
theorem makeD_four {N : Nat} {s : Ded} {g : List Nat} {a : Str} {p : Str × Str} (h : s.rule = 4 ∨ s.rule = 5) (hp : parK a 2 = some p) : makeD N s g a = [⟨1, [], setT (addT (setT s.asm) a ++ [p.1, p.2]), s.con, []⟩, ⟨3, [N], addT (setT s.asm) a, s.con, a⟩, ⟨11, [gt g 0, N + 1], setT s.asm, s.con, a⟩] := by
  unfold makeD
  rw [if_neg (by omega), if_neg (by omega), if_neg (by omega), if_pos h, hp]
theorem makeD_eight {N : Nat} {s : Ded} {g : List Nat} {a : Str} {p : Str × Str} (h : s.rule = 8) (hp : parK a 3 = some p) : makeD N s g a = [⟨10, [gt g 1], addT (addT (setT s.asm) a) p.1, s.con, []⟩, ⟨10, [gt g 2], addT (addT (setT s.asm) a) p.2, s.con, []⟩, ⟨5, [N, N + 1], addT (setT s.asm) a, s.con, a⟩, ⟨11, [gt g 0, N + 2], setT s.asm, s.con, a⟩] := by
  unfold makeD
  rw [if_neg (by omega), if_neg (by omega), if_neg (by omega), if_neg (by omega), if_neg (by omega), if_neg (by omega), if_pos h, hp]
theorem makeD_ten {N : Nat} {s : Ded} {g : List Nat} {a : Str} {p : Str × Str} (h : s.rule = 10) (hp : parK a 4 = some p) : makeD N s g a = [⟨10, [gt g 1], addT (setT s.asm) a, p.1, []⟩, ⟨1, [], addT (addT (setT s.asm) a) p.2, s.con, []⟩, ⟨8, [N, N + 1], addT (setT s.asm) a, s.con, a⟩, ⟨11, [gt g 0, N + 2], setT s.asm, s.con, a⟩] := by
  unfold makeD
  rw [if_neg (by omega), if_neg (by omega), if_neg (by omega), if_neg (by omega), if_neg (by omega), if_neg (by omega), if_neg (by omega), if_neg (by omega), hp]
end Go.Vc
namespace Go.Proofs.YteifjhpddhppcaaGreat
open Go.Vc
theorem ok_impl_imagesOf {v0 v1 : Value} {ps : List Int} {at_ : List Nat} {w : World} (h0 : SlI w v0 ps) (h1 : SlN w v1 at_) (hin : ∀ q ∈ ps, 0 ≤ q ∧ q.toNat < at_.length) (hl : ps.length ≤ 1000000) : Cal Tryz.prog f_impl_imagesOf #[v0, v1] w fun r w' => Ext w w' ∧ Ow w.heap.size t_i64 w' r (ints (nats (ps.map fun j => gt at_ j.toNat))) := by
  apply c_impl_imagesOf; unfold S_impl_imagesOf
  refine iLenI h0 ?_
  refine iLp (fun s : Value × Nat => [s.1, .int .i64 (s.2 : Int)]) (fun s w' => s.2 ≤ ps.length ∧ Ext w w' ∧ Ow w.heap.size t_i64 w' s.1 (ints (nats ((ps.take s.2).map fun j => gt at_ j.toNat)))) (fun s => ps.length - s.2) (.slice none 0 0, 0) rfl ⟨Nat.zero_le _, Ext.refl _, Ow.nil _ _ _⟩ ?_
  rintro ⟨r, i⟩ w2 Kn ⟨hi, x2, ho⟩ hKn
  have hi : i ≤ ps.length := hi
  have ho : Ow w.heap.size t_i64 w2 r (ints (nats ((ps.take i).map fun j => gt at_ j.toNat))) := ho
  intro _
  simp only [gx]
  refine iLt (iCndP (fun h => ?_) (fun h => ?_))
  · have hil : i < ps.length := by omega
    refine iIaN (h0.ext x2) hil fun p hp => ?_
    have e : ps.getD i 0 = ps[i] := by simp [hil]
    rw [e] at hp
    have etk : ps.take (i + 1) = ps.take i ++ [ps[i]] := List.take_succ_eq_append_getElem hil
    obtain ⟨q0, q1⟩ := hin _ (List.getElem_mem hil)
    generalize ps[i] = q at *
    refine iLd hp ?_
    obtain ⟨m, rfl⟩ := Int.eq_ofNat_of_zero_le q0
    rw [Int.toNat_natCast] at q1
    refine iIaNN (h1.ext x2) q1 fun p2 hp2 => ?_
    rw [show at_.getD m 0 = gt at_ m by rw [gt_eq q1]; simp [q1]] at hp2
    refine iLd hp2 ?_
    have hlen : (ints (nats ((ps.take i).map fun j => gt at_ j.toNat))).length = i := by rw [ints_length, nats_length, List.length_map, List.length_take]; omega
    refine iApp1 u_Si64 i_Si64 rfl ho rfl (by rw [hlen]; omega) (by rw [hlen]; omega) x2.size fun r' w5 ho5 hg5 => ?_
    refine iAdd (by omega) ?_
    refine hKn (r', i + 1) _ ⟨hil, x2.grown hg5 fun b hb => (ho.blk b hb).1, ?_⟩ (by show ps.length - (i + 1) < ps.length - i; omega)
    show Ow _ _ _ r' (ints (nats ((ps.take (i + 1)).map fun j => gt at_ j.toNat)))
    rw [etk, List.map_append]
    rw [show ints (nats ((ps.take i).map (fun j => gt at_ j.toNat) ++ [((m : Nat) : Int)].map fun j => gt at_ j.toNat)) = ints (nats ((ps.take i).map fun j => gt at_ j.toNat)) ++ [.int .i64 ((gt at_ m : Nat) : Int)] by simp [ints, nats]]
    exact ho5
  · have : i = ps.length := by omega
    subst this
    rw [List.take_length] at ho
    exact ⟨x2, ho⟩
theorem iIaG1 {lo : Nat} {w : World} {vg : Value} {g : List Nat} {j : Nat} {K : Value → Prop} (hg : Ow lo t_i64 w vg (ints (nats g))) (hj : j < g.length) (h : K (.int .i64 ((gt g j : Nat) : Int))) : xIa 1 vg (.int .i64 (j : Int)) fun p => xLd w p K := by
  have hs : SlN w vg g := hg.sl
  refine iIaNN hs hj fun p hp => ?_
  rw [show g.getD j 0 = gt g j by rw [gt_eq hj]; simp [hj]] at hp
  exact iLd hp h
/-- What is made behind Q. -/
def MadeQ (l0 b : Nat) (vs : Value) (Q : List IV) (M : List Inf) (w : World) : Value → World → Prop := fun u w' => SCh l0 b w w' ∧ ∃ RQ : List IV, RQ.map IV.i = M ∧ SMi l0 w' b [vs] (Q ++ RQ) ∧ u = .int .i64 ((Q.length + M.length - 1 : Nat) : Int)
theorem ok_impl_maker_eliminate {l0 b : Nat} {w : World} {vs vl vg : Value} {Q : List IV} (hM : SMi l0 w b [vs] Q) {x : DV} {g : List Nat} {a : Str} {k : Nat} {p : Str × Str} (hr : ((x.d.rule = 4 ∨ x.d.rule = 5) ∧ k = 2 ∧ 1 ≤ g.length) ∨ (x.d.rule = 8 ∧ k = 3 ∧ 3 ≤ g.length) ∨ (x.d.rule = 10 ∧ k = 4 ∧ 2 ≤ g.length)) (ha : plT a = true) (hp : parK a k = some p) (hl : TxW 0 w vl (setT x.d.asm)) (hg : Ow 0 t_i64 w vg (ints (nats g))) (hL : x.d.asm.length ≤ 12) (hQ : Q.length ≤ 100000) :
    Cal Tryz.prog f_impl_sequentMaker_eliminate #[bp b, .agg x.cs.toArray, vl, sv a, vg] w (MadeQ l0 b vs Q (makeD Q.length x.d g a) w) := by
  obtain ⟨-, hag, -, -, hac⟩ := plT_at ha
  obtain ⟨hk, hk2⟩ := parK_some hp
  have hSl : (setT x.d.asm).length ≤ 12 := Nat.le_trans (setT_len _) hL
  have hWl : (addT (setT x.d.asm) a).length ≤ 13 := by have := addT_len (setT x.d.asm) a; omega
  have hk234 : k = 2 ∨ k = 3 ∨ k = 4 := by omega
  apply c_impl_sequentMaker_eliminate; unfold S_impl_sequentMaker_eliminate
  refine iNew5 fun q1 w1 hq1 x1 hB1 => ?_
  have hB1 : Blk t_impl_Deduction w1 q1 [.int .i64 x.d.rule, x.vp, x.vl, sv x.d.con, .int .i64 x.d.num] := hB1
  refine iFa (iLdB hB1 (i := 3) (v := sv x.d.con) rfl ?_)
  intro w2 x2
  refine iCall ((ok_impl_parsed a w2).mono ?_)
  rintro va w3 ⟨x3, hva, -⟩
  have hva : FmW w2.heap.size w3 va (fT a) := hva hac
  refine ⟨x3, fun w4 x4 => ?_⟩
  refine iCall ((ok_impl_partTexts (SlK.ext hva.sl x4) hag (Nat.le_trans (pCode_size hac).1 (by decide))).mono ?_)
  rintro pv w5 ⟨x5, hpv⟩
  refine ⟨x5, fun w6 x6 => ?_⟩
  have X6 := ((((x1.trans x2).trans x3).trans x4).trans x5).trans x6
  refine iBs1 rfl rfl fun b7 w7 _ x7 hB7 => ?_
  have hl7 := hl.ext (X6.trans x7)
  refine iCall ((ok_impl_put (A := setT x.d.asm) (B := [a]) hl7.sl (Sl.ofBlk (n := 1) hB7 rfl (by decide)) hl.cell rfl (by simp only [List.length_cons, List.length_nil]; omega)).mono ?_)
  rintro vW w8 ⟨x8, hW⟩
  have X8 := (X6.trans x7).trans x8
  have hW : TxW 0 w8 vW (addT (setT x.d.asm) a) := hW.mono (Nat.zero_le _)
  have hp8 : TxW 0 w8 pv [p.1, p.2] := by
    obtain ⟨p', e1, e2⟩ := parK_kind hk234 hk
    rw [hp] at e1; cases e1
    rw [e2] at hpv
    exact (hpv.ext ((x6.trans x7).trans x8)).mono (Nat.zero_le _)
  have hM8 := hM.ext X8
  have hg8 := hg.ext X8
  have hl8 := hl.ext X8
  have hB8 := hB1.ext (((((x2.trans x3).trans x4).trans x5).trans x6).trans (x7.trans x8))
  have ad : ∀ {w' : World} {Q' : List IV} {rule : Nat} {v v2 : Value} {L : List Str} {ps : List Nat} {c main : Str} {K : Value → World → Prop}, SMi l0 w' b [vs] Q' → TxW 0 w' v L → Ow 0 t_i64 w' v2 (ints (nats ps)) → L.length ≤ 100 → ps.length ≤ 100 → Q'.length ≤ 200000 → (∀ w'' x', SCh l0 b w' w'' → x'.i = ⟨rule, ps, L, c, main⟩ → SMi l0 w'' b [vs] (Q' ++ [x']) → K (.int .i64 ((Q'.length : Nat) : Int)) w'') → callV Tryz.prog (.func (.func f_impl_sequentMaker_add) #[] #[]) [bp b, .int .i64 (rule : Int), v, sv c, sv main, v2] w' K := fun {w' Q' rule v v2 L ps c main K} h1 h2 h3 h4 h5 h6 h => by
    refine iCall ((ok_impl_maker_add h1 h2 h3 (by omega) (by omega) (by omega)).mono ?_)
    rintro _ w'' ⟨rfl, hs, x', hx', hM'⟩
    exact h w'' x' hs hx' hM'
  have kp : ∀ {w' w'' : World} {Q' : List IV} {e : TypeId} {u : Value} {xs : List Value}, SMi l0 w' b [vs] Q' → SCh l0 b w' w'' → e ≠ 50 → e ≠ t_impl_Inference → Ow 0 e w' u xs → Ow 0 e w'' u xs := fun h1 h2 h3 h4 h => by
    obtain ⟨-, vp, hBm, -⟩ := h1
    exact Ow.sch h h2 hBm h3 h4
  have two : ∀ {w' : World} {c : Nat} {m n : Nat}, Blk t_i64 w' c [.int .i64 (m : Int), .int .i64 (n : Int)] → Ow 0 t_i64 w' (.slice (some ⟨c, 0, none⟩) 2 2) (ints (nats [m, n])) := fun h => Ow.ofBlk (n := 2) h (Nat.zero_le _) rfl (by decide)
  have one : ∀ {w' : World} {c : Nat} {m : Nat}, Blk t_i64 w' c [.int .i64 (m : Int)] → Ow 0 t_i64 w' (.slice (some ⟨c, 0, none⟩) 1 1) (ints (nats [m])) := fun h => Ow.ofBlk (n := 1) h (Nat.zero_le _) rfl (by decide)
  have put1 : ∀ {w' : World} {c : Nat} {t : Str} {K : Value → World → Prop}, Ext w8 w' ∨ True → TxW 0 w' vW (addT (setT x.d.asm) a) → Blk t_string w' c [sv t] → (∀ u w'', Ext w' w'' → TxW 0 w'' u (addT (addT (setT x.d.asm) a) t) → K u w'') → callV Tryz.prog (.func (.func f_impl_put) #[] #[]) [vW, .slice (some ⟨c, 0, none⟩) 1 1] w' K := fun {w' c t K} _ h1 h2 h => by
    refine iCall ((ok_impl_put (A := addT (setT x.d.asm) a) (B := [t]) h1.sl (Sl.ofBlk (n := 1) h2 rfl (by decide)) hW.cell rfl (by simp only [List.length_cons, List.length_nil]; omega)).mono ?_)
    rintro u w'' ⟨x', hu⟩
    exact h u w'' x' (hu.mono (Nat.zero_le _))
  have hadd : ∀ t, (addT (addT (setT x.d.asm) a) t).length ≤ 100 := fun t => by have := addT_len (addT (setT x.d.asm) a) t; omega
  refine iFa (iLdB hB8 (i := 0) (v := .int .i64 x.d.rule) rfl (iEq ?_))
  refine iJnX (fun xs w' => xs = [.bool (decide (x.d.rule = 4 ∨ x.d.rule = 5))] ∧ w' = w8) (fun J hJ => ?_) ?_
  · refine iCndP (fun h4 => ?_) (fun h4 => ?_)
    · rw [decide_eq_true (.inl h4)] at hJ
      exact hJ _ _ ⟨rfl, rfl⟩
    · refine iEq (hJ _ _ ⟨?_, rfl⟩)
      rw [show decide (x.d.rule = 4 ∨ x.d.rule = 5) = decide (x.d.rule = 5) from decide_eq_decide.2 ⟨fun e => e.resolve_left h4, .inr⟩]
  rintro _ w10 ⟨rfl, rfl⟩
  intro _
  -- what stands before the cut
  refine iJnX (fun xs w' => ∃ (M : List Inf) (RQ : List IV), xs = [.int .i64 ((Q.length + M.length - 1 : Nat) : Int)] ∧ 0 < M.length ∧ M.length ≤ 3 ∧ makeD Q.length x.d g a = M ++ [⟨11, [gt g 0, Q.length + M.length - 1], setT x.d.asm, x.d.con, a⟩] ∧ RQ.map IV.i = M ∧ SCh l0 b w10 w' ∧ SMi l0 w' b [vs] (Q ++ RQ)) (fun J hJ => ?_) ?_
  rotate_left
  · rintro _ w12 ⟨M, RQ, rfl, hM0, hM3, hmk, hRQ, hs12, hM12⟩
    intro _
    simp only [gx]
    have hg12 := kp hM8 hs12 (by decide) (by decide) hg8
    have hl12 := kp hM8 hs12 (by decide) (by decide) hl8
    have hRl : RQ.length = M.length := by rw [← hRQ, List.length_map]
    refine iIaG1 (j := 0) hg12 (by omega) ?_
    refine iBs2 rfl rfl rfl fun c w13 _ x13 hB13 => ?_
    refine ad (hM12.ext x13) (hl12.ext x13) (two hB13) (by omega) (by simp) (by rw [List.length_append]; omega) fun w14 x' hs14 hx' hM14 => ?_
    refine ⟨((SCh.ext X8).trans (hs12.trans (SCh.ext x13))).trans hs14, RQ ++ [x'], ?_, by rw [← List.append_assoc]; exact hM14, ?_⟩
    · rw [hmk, List.map_append, hRQ, List.map_singleton, hx']
    · rw [hmk]
      simp only [List.length_append, List.length_singleton, hRl]
      congr 2
  show cnd (.bool (decide (x.d.rule = 4 ∨ x.d.rule = 5))) _ _
  refine iCndP (fun h45 => ?_) (fun h45 => ?_)
  · have hk2 : k = 2 := by omega
    subst hk2
    refine iCall ((ok_impl_put (A := addT (setT x.d.asm) a) (B := [p.1, p.2]) hW.sl hp8.sl hW.cell hp8.cell (by simp only [List.length_cons, List.length_nil]; omega)).mono ?_)
    rintro u w13 ⟨x13, hu⟩
    have hul : (setT (addT (setT x.d.asm) a ++ [p.1, p.2])).length ≤ 100 := by
      have := setT_len (addT (setT x.d.asm) a ++ [p.1, p.2])
      rw [List.length_append] at this
      simp only [List.length_cons, List.length_nil] at this
      omega
    refine ad (ps := []) (hM8.ext x13) (hu.mono (Nat.zero_le _)) (Ow.nil _ _ _) hul (by simp) (by omega) fun w14 y1 hs14 hy1 hM14 => ?_
    have hW14 := kp (hM8.ext x13) hs14 (by decide) (by decide) (hW.ext x13)
    refine iBs1 rfl rfl fun c w15 _ x15 hB15 => ?_
    refine ad (hM14.ext x15) (hW14.ext x15) (one hB15) (by omega) (by simp) (by rw [List.length_append]; simp; omega) fun w16 y2 hs16 hy2 hM16 => ?_
    refine hJ _ _ ⟨[⟨1, [], setT (addT (setT x.d.asm) a ++ [p.1, p.2]), x.d.con, []⟩, ⟨3, [Q.length], addT (setT x.d.asm) a, x.d.con, a⟩], [y1, y2], ?_, by simp, by simp, ?_, by rw [List.map_cons, List.map_singleton, hy1, hy2], (((SCh.ext x13).trans hs14).trans (SCh.ext x15)).trans hs16, by rw [List.append_assoc] at hM16; exact hM16⟩
    · rw [List.length_append]; rfl
    · rw [makeD_four h45 hp]; rfl
  refine iEq ?_
  refine iJnX (fun xs w' => ∃ (M : List Inf) (RQ : List IV), xs = [.int .i64 ((Q.length + M.length - 1 : Nat) : Int)] ∧ 0 < M.length ∧ M.length ≤ 3 ∧ makeD Q.length x.d g a = M ++ [⟨11, [gt g 0, Q.length + M.length - 1], setT x.d.asm, x.d.con, a⟩] ∧ RQ.map IV.i = M ∧ SCh l0 b w10 w' ∧ SMi l0 w' b [vs] (Q ++ RQ)) (fun J17 hJ17 => ?_) ?_
  rotate_left
  · rintro _ w18 ⟨M, RQ, rfl, h⟩
    exact fun _ => hJ _ _ ⟨M, RQ, rfl, h⟩
  refine iCndP (fun h8 => ?_) (fun h8 => ?_)
  · have hk3 : k = 3 ∧ 3 ≤ g.length := by omega
    obtain ⟨rfl, hg3⟩ := hk3
    -- one weakening
    refine iJnX (fun xs w' => xs = [.int .i64 ((Q.length : Nat) : Int)] ∧ SCh l0 b w10 w' ∧ ∃ y : IV, y.i = ⟨10, [gt g 1], addT (addT (setT x.d.asm) a) p.1, x.d.con, []⟩ ∧ SMi l0 w' b [vs] (Q ++ [y])) (fun J19 hJ19 => ?_) ?_
    · refine iIaG (j := 0) hp8.sl rfl (by simp) ?_
      refine iIaG1 (j := 1) hg8 (by omega) ?_
      have fin : ∀ {w' : World} {u v2 : Value}, Ext w10 w' → TxW 0 w' u (addT (addT (setT x.d.asm) a) p.1) → Ow 0 t_i64 w' v2 (ints (nats [gt g 1])) → callV Tryz.prog (.func (.func f_impl_sequentMaker_add) #[] #[]) [bp b, .int .i64 10, u, sv x.d.con, .string ⟨#[]⟩, v2] w' fun v86 w28 => ∀ w29, Ext w28 w29 → J19 [v86] w29 := fun {w' u v2} hx hu h2 => by
        refine ad (rule := 10) (main := []) (hM8.ext hx) hu h2 (hadd _) (by simp) (by omega) fun w'' y hs hy hM' => ?_
        intro w29 x29
        exact hJ19 _ _ ⟨rfl, ((SCh.ext hx).trans hs).trans (SCh.ext x29), y, hy, hM'.ext x29⟩
      intro w21 x21
      refine ⟨iBs1 rfl rfl fun c w22 _ x22 hB22 => ⟨x22, fun w23 x23 => ⟨?_, ?_⟩⟩, ?_⟩
      · have X23 := (x21.trans x22).trans x23
        refine put1 (.inr trivial) (hW.ext X23) (hB22.ext x23) fun u w24 x24 hu => ⟨x24, fun w25 x25 => ?_⟩
        refine iBs1 rfl rfl fun c2 w26 _ x26 hB26 => ⟨x26, fun w27 x27 => ?_⟩
        have xx := (x25.trans x26).trans x27
        exact fin ((X23.trans x24).trans xx) (hu.ext xx) (one (hB26.ext x27))
      · refine iBs1 rfl rfl fun c2 w30 _ x30 hB30 => ⟨x30, fun w31 x31 => ?_⟩
        have X31 := ((x21.trans x22).trans x23).trans (x30.trans x31)
        refine put1 (.inr trivial) (hW.ext X31) (hB22.ext ((x23.trans x30).trans x31)) fun u w32 x32 hu => ⟨x32, fun w33 x33 => ?_⟩
        exact fin ((X31.trans x32).trans x33) (hu.ext x33) (one (hB30.ext ((x31.trans x32).trans x33)))
      · refine iBs1 rfl rfl fun c2 w36 _ x36 hB36 => ⟨x36, fun w37 x37 => ?_⟩
        refine iBs1 rfl rfl fun c w38 _ x38 hB38 => ⟨x38, fun w39 x39 => ?_⟩
        have X39 := ((x21.trans x36).trans x37).trans (x38.trans x39)
        refine put1 (.inr trivial) (hW.ext X39) (hB38.ext x39) fun u w40 x40 hu => ⟨x40, fun w41 x41 => ?_⟩
        exact fin ((X39.trans x40).trans x41) (hu.ext x41) (one (hB36.ext ((x37.trans (x38.trans x39)).trans (x40.trans x41))))
    rintro _ w20 ⟨rfl, hs20, y1, hy1, hM20⟩
    intro _
    simp only [gx]
    have hW20 := kp hM8 hs20 (by decide) (by decide) hW
    have hp20 := kp hM8 hs20 (by decide) (by decide) hp8
    have hg20 := kp hM8 hs20 (by decide) (by decide) hg8
    have hQ1 : (Q ++ [y1]).length = Q.length + 1 := by rw [List.length_append]; rfl
    refine iJnX (fun xs w' => xs = [.int .i64 ((Q.length + 1 : Nat) : Int)] ∧ SCh l0 b w20 w' ∧ ∃ y : IV, y.i = ⟨10, [gt g 2], addT (addT (setT x.d.asm) a) p.2, x.d.con, []⟩ ∧ SMi l0 w' b [vs] ((Q ++ [y1]) ++ [y])) (fun J44 hJ44 => ?_) ?_
    · refine iIaG (j := 1) hp20.sl rfl (by simp) ?_
      refine iIaG1 (j := 2) hg20 (by omega) ?_
      have fin : ∀ {w' : World} {u v2 : Value}, Ext w20 w' → TxW 0 w' u (addT (addT (setT x.d.asm) a) p.2) → Ow 0 t_i64 w' v2 (ints (nats [gt g 2])) → callV Tryz.prog (.func (.func f_impl_sequentMaker_add) #[] #[]) [bp b, .int .i64 10, u, sv x.d.con, .string ⟨#[]⟩, v2] w' fun v86 w28 => ∀ w29, Ext w28 w29 → J44 [v86] w29 := fun {w' u v2} hx hu h2 => by
        refine ad (rule := 10) (main := []) (hM20.ext hx) hu h2 (hadd _) (by simp) (by omega) fun w'' y hs hy hM' => ?_
        intro w29 x29
        rw [hQ1]
        exact hJ44 _ _ ⟨rfl, ((SCh.ext hx).trans hs).trans (SCh.ext x29), y, hy, hM'.ext x29⟩
      intro w21 x21
      refine ⟨iBs1 rfl rfl fun c w22 _ x22 hB22 => ⟨x22, fun w23 x23 => ⟨?_, ?_⟩⟩, ?_⟩
      · have X23 := (x21.trans x22).trans x23
        refine put1 (.inr trivial) (hW20.ext X23) (hB22.ext x23) fun u w24 x24 hu => ⟨x24, fun w25 x25 => ?_⟩
        refine iBs1 rfl rfl fun c2 w26 _ x26 hB26 => ⟨x26, fun w27 x27 => ?_⟩
        have xx := (x25.trans x26).trans x27
        exact fin ((X23.trans x24).trans xx) (hu.ext xx) (one (hB26.ext x27))
      · refine iBs1 rfl rfl fun c2 w30 _ x30 hB30 => ⟨x30, fun w31 x31 => ?_⟩
        have X31 := ((x21.trans x22).trans x23).trans (x30.trans x31)
        refine put1 (.inr trivial) (hW20.ext X31) (hB22.ext ((x23.trans x30).trans x31)) fun u w32 x32 hu => ⟨x32, fun w33 x33 => ?_⟩
        exact fin ((X31.trans x32).trans x33) (hu.ext x33) (one (hB30.ext ((x31.trans x32).trans x33)))
      · refine iBs1 rfl rfl fun c2 w36 _ x36 hB36 => ⟨x36, fun w37 x37 => ?_⟩
        refine iBs1 rfl rfl fun c w38 _ x38 hB38 => ⟨x38, fun w39 x39 => ?_⟩
        have X39 := ((x21.trans x36).trans x37).trans (x38.trans x39)
        refine put1 (.inr trivial) (hW20.ext X39) (hB38.ext x39) fun u w40 x40 hu => ⟨x40, fun w41 x41 => ?_⟩
        exact fin ((X39.trans x40).trans x41) (hu.ext x41) (one (hB36.ext ((x37.trans (x38.trans x39)).trans (x40.trans x41))))
    rintro _ w45 ⟨rfl, hs45, y2, hy2, hM45⟩
    intro _
    simp only [gx]
    have hW45 := kp hM20 hs45 (by decide) (by decide) hW20
    refine iBs2 rfl rfl rfl fun c w69 _ x69 hB69 => ?_
    refine ad (rule := 5) (hM45.ext x69) (hW45.ext x69) (two hB69) (by omega) (by simp) (by rw [List.length_append, hQ1]; simp; omega) fun w70 y3 hs70 hy3 hM70 => ?_
    refine hJ17 _ _ ⟨[⟨10, [gt g 1], addT (addT (setT x.d.asm) a) p.1, x.d.con, []⟩, ⟨10, [gt g 2], addT (addT (setT x.d.asm) a) p.2, x.d.con, []⟩, ⟨5, [Q.length, Q.length + 1], addT (setT x.d.asm) a, x.d.con, a⟩], [y1, y2, y3], ?_, by simp, by simp, ?_, by rw [List.map_cons, List.map_cons, List.map_singleton, hy1, hy2, hy3], ((hs20.trans hs45).trans (SCh.ext x69)).trans hs70, by simpa using hM70⟩
    · rw [List.length_append, hQ1]; rfl
    · rw [makeD_eight h8 hp]; rfl
  · have h10 : x.d.rule = 10 ∧ k = 4 ∧ 2 ≤ g.length := by
      rcases hr with ⟨h, _⟩ | ⟨h, _⟩ | h
      · exact absurd h h45
      · exact absurd h h8
      · exact h
    obtain ⟨h10, rfl, hg2⟩ := h10
    refine iJnX (fun xs w' => xs = [.int .i64 ((Q.length : Nat) : Int)] ∧ SCh l0 b w10 w' ∧ ∃ y : IV, y.i = ⟨10, [gt g 1], addT (setT x.d.asm) a, p.1, []⟩ ∧ SMi l0 w' b [vs] (Q ++ [y])) (fun J71 hJ71 => ?_) ?_
    · refine iIaG (j := 0) hp8.sl rfl (by simp) ?_
      refine iIaG1 (j := 1) hg8 (by omega) ?_
      intro w73 x73
      refine iBs1 rfl rfl fun c w74 _ x74 hB74 => ⟨x74, fun w75 x75 => ?_⟩
      have xx := (x73.trans x74).trans x75
      refine ad (rule := 10) (main := []) (hM8.ext xx) (hW.ext xx) (one (hB74.ext x75)) (by omega) (by simp) (by omega) fun w76 y hs hy hM' => ?_
      intro w77 x77
      exact hJ71 _ _ ⟨rfl, ((SCh.ext xx).trans hs).trans (SCh.ext x77), y, hy, hM'.ext x77⟩
    rintro _ w72 ⟨rfl, hs72, y1, hy1, hM72⟩
    intro _
    simp only [gx]
    have hW72 := kp hM8 hs72 (by decide) (by decide) hW
    have hp72 := kp hM8 hs72 (by decide) (by decide) hp8
    have hQ1 : (Q ++ [y1]).length = Q.length + 1 := by rw [List.length_append]; rfl
    refine iIaG (j := 1) hp72.sl rfl (by simp) ?_
    refine iBs1 rfl rfl fun c w78 _ x78 hB78 => ?_
    refine put1 (.inr trivial) (hW72.ext x78) hB78 fun u w79 x79 hu => ?_
    have x7279 := x78.trans x79
    refine ad (rule := 1) (ps := []) (main := []) (hM72.ext x7279) hu (Ow.nil _ _ _) (hadd _) (by simp) (by omega) fun w80 y2 hs80 hy2 hM80 => ?_
    have hW80 := kp (hM72.ext x7279) hs80 (by decide) (by decide) (hW72.ext x7279)
    have hy2 : y2.i = ⟨1, [], addT (addT (setT x.d.asm) a) p.2, x.d.con, []⟩ := hy2
    rw [hQ1]
    refine iBs2 rfl rfl rfl fun c2 w81 _ x81 hB81 => ?_
    refine ad (rule := 8) (hM80.ext x81) (hW80.ext x81) (two hB81) (by omega) (by simp) (by rw [List.length_append, hQ1]; simp; omega) fun w82 y3 hs82 hy3 hM82 => ?_
    refine hJ17 _ _ ⟨[⟨10, [gt g 1], addT (setT x.d.asm) a, p.1, []⟩, ⟨1, [], addT (addT (setT x.d.asm) a) p.2, x.d.con, []⟩, ⟨8, [Q.length, Q.length + 1], addT (setT x.d.asm) a, x.d.con, a⟩], [y1, y2, y3], ?_, by simp, by simp, ?_, by rw [List.map_cons, List.map_cons, List.map_singleton, hy1, hy2, hy3], (((hs72.trans (SCh.ext x7279)).trans hs80).trans (SCh.ext x81)).trans hs82, by simpa using hM82⟩
    · rw [List.length_append, hQ1]; rfl
    · rw [makeD_ten h10 hp]; rfl
end Go.Proofs.YteifjhpddhppcaaGreat

/- Contracts: the inferences that are made of one step. Conditions: none. -/
namespace Go.Vc
theorem iIaW {w : World} {v x : Value} {xs : List Value} {j : Int} {k : IntKind} {K : Value → Prop} (hs : Sl w v xs) (h0 : 0 ≤ j) (h1 : j < xs.length) (hx : xs[j.toNat]? = some x) (h : ∀ p, (∀ w', Sl w' v xs → w'.cell? p = some x) → K (.pointer (some p))) : xIa 1 v (.int k j) K := by
  obtain ⟨a, c, rfl, h2, h3, h4⟩ := hs
  rcases h4 with rfl | ⟨b, o, rfl, hc⟩
  · simp at h1; omega
  · refine ⟨_, _, _, _, _, rfl, rfl, h0, h1, h _ fun w' hs' => ?_⟩
    have : (⟨b, o, none⟩ : Addr).add (j.toNat * 1) = ⟨b, o + j.toNat, none⟩ := by
      simp only [Addr.add]; split
      · rename_i e; simp at e; simp
      · simp
    rw [this]
    obtain ⟨a', c', e, -, -, h4'⟩ := hs'
    cases e
    rcases h4' with rfl | ⟨b', o', e2, hc'⟩
    · simp at h1; omega
    · cases e2
      rw [hc' _ (by omega)]; exact hx
theorem gt_mapD {R : List DV} {j : Nat} (h : j < R.length) : gt (R.map DV.d) j = (gt R j).d := by
  rw [gt_eq (by rw [List.length_map]; exact h), gt_eq h, List.getElem_map]
end Go.Vc
namespace Go.Proofs.YteifjhpddhppcaaGreat
open Go.Vc
theorem ok_impl_maker_step {l0 b : Nat} {w : World} {vs v1 : Value} {Q : List IV} {R : List DV} {at_ : List Nat} {j : Nat} (hM : SMi l0 w b [vs] Q) (hat : SlN w vs at_) (hR : RdD w v1 R) (hj : j < R.length) (hall : ∀ i, i < R.length → goodD (R.map DV.d) i = true) (hal : at_.length = j) (hQ : Q.length ≤ 10000) :
    Cal Tryz.prog f_impl_sequentMaker_step #[bp b, v1, .agg (gt R j).cs.toArray] w (MadeQ l0 b vs Q (makeD Q.length (gt R j).d ((gt R j).d.prem.map fun q => gt at_ q.toNat) (gt (R.map DV.d) (gt (gt R j).d.prem 0).toNat).con) w) := by
  have hmem : gt R j ∈ R := by rw [gt_eq hj]; exact List.getElem_mem hj
  have hx := hR.prem _ hmem
  have hxl := hR.asm _ hmem
  obtain ⟨hsh, hin, hrf⟩ := goodD_iff (hall j hj)
  have hplt : ∀ i, i < R.length → plT (gt R i).d.con = true := fun i hi => by
    have := (goodD_iff (hall i hi)).1
    rw [gt_mapD hi] at this
    exact (shapeD_at this).2.2
  rw [gt_mapD hj] at hsh hin hrf
  obtain ⟨hL, hpl, hcp⟩ := shapeD_at hsh
  have hxl : SlT w (gt R j).vl (gt R j).d.asm := hxl
  generalize gt R j = x at *
  have hpl3 : x.d.prem.length ≤ 3 := by
    cases hrf <;> (rename_i e _; skip) <;> simp_all
  obtain ⟨hlo, vp, hB, hO⟩ := id hM
  apply c_impl_sequentMaker_step; unfold S_impl_sequentMaker_step
  refine iNew5 fun q1 w1 hq1 x1 hB1 => ?_
  have hB1 : Blk t_impl_Deduction w1 q1 [.int .i64 x.d.rule, x.vp, x.vl, sv x.d.con, .int .i64 x.d.num] := hB1
  refine iFa (iLdB hB1 (i := 2) (v := x.vl) rfl ?_)
  refine iFa (iLdB hB1 (i := 3) (v := sv x.d.con) rfl ?_)
  intro w2 x2
  refine iCall ((ok_impl_put (A := x.d.asm) (B := []) (Sl.ext hxl (x1.trans x2)) (Sl.nil _) (SlK.lfCell hxl) rfl (by simp only [List.length_nil]; omega)).mono ?_)
  rintro v12 w3 ⟨x3, hl3⟩
  rw [List.append_nil] at hl3
  refine ⟨x3, fun w4 x4 => ?_⟩
  have X4 := ((x1.trans x2).trans x3).trans x4
  have x24 := (x2.trans x3).trans x4
  refine iFa (iLdB (hB1.ext x24) (i := 1) (v := x.vp) rfl ?_)
  refine iNil (iFa (iLdB (hB.ext X4) (i := 1) (v := vs) rfl ?_))
  intro w5 x5
  have hinm : ∀ q ∈ x.d.prem, 0 ≤ q ∧ q.toNat < at_.length := fun q hq => by
    obtain ⟨h1, h2⟩ := inD_mem hin hq
    omega
  refine iCall ((ok_impl_imagesOf (SlI.ext hx (X4.trans x5)) (SlN.ext hat (X4.trans x5)) hinm (by omega)).mono ?_)
  rintro v21 w6 ⟨x6, hg6⟩
  intro w7 x7
  have hg7 : Ow 0 t_i64 w7 v21 (ints (nats (x.d.prem.map fun q => gt at_ q.toNat))) := (hg6.ext x7).mono (Nat.zero_le _)
  have hgl : (x.d.prem.map fun q => gt at_ q.toNat).length = x.d.prem.length := List.length_map _
  generalize hge : (x.d.prem.map fun q => gt at_ q.toNat) = g at *
  have x47 := (x5.trans x6).trans x7
  have X7 := X4.trans x47
  have hl7 : TxW 0 w7 v12 (setT x.d.asm) := ((Ow.ext hl3 x4).ext x47).mono (Nat.zero_le _)
  have hSl : (setT x.d.asm).length ≤ 12 := Nat.le_trans (setT_len _) hL
  have hM7 := hM.ext X7
  have hB7 := hB.ext X7
  have hB17 := hB1.ext (x24.trans x47)
  generalize ha : (gt (R.map DV.d) (gt x.d.prem 0).toNat).con = a
  have fin : ∀ {rule : Nat} {ps : List Nat} {v2 : Value}, Ow 0 t_i64 w7 v2 (ints (nats ps)) → ps.length ≤ 100 → makeD Q.length x.d g a = [⟨rule, ps, setT x.d.asm, x.d.con, []⟩] → callV Tryz.prog (.func (.func f_impl_sequentMaker_add) #[] #[]) [bp b, .int .i64 (rule : Int), v12, sv x.d.con, .string ⟨#[]⟩, v2] w7 (MadeQ l0 b vs Q (makeD Q.length x.d g a) w) := fun {rule ps v2} h1 h2 h3 => by
    refine iCall ((ok_impl_maker_add (main := []) hM7 hl7 h1 (by omega) (by omega) (by omega)).mono ?_)
    rintro _ w' ⟨rfl, hs, x', hx', hM'⟩
    refine ⟨(SCh.ext X7).trans hs, [x'], ?_, hM', ?_⟩
    · rw [h3, List.map_singleton, hx']
    · rw [h3]; rfl
  have mk : ∀ {P : Prop} [Decidable P] {A B : List Inf}, P → (if P then A else B) = A := fun h => if_pos h
  have mn : ∀ {P : Prop} [Decidable P] {A B : List Inf}, ¬ P → (if P then A else B) = B := fun h => if_neg h
  refine iFa (iLdB hB17 (i := 0) (v := .int .i64 x.d.rule) rfl ?_)
  refine iEq (iCndP (fun h1 => ?_) (fun h1 => ?_))
  · exact fin (rule := 1) (ps := []) (Ow.nil _ _ _) (by simp) (by unfold makeD; exact mk h1)
  refine iEq (iCndP (fun h3 => ?_) (fun h3 => ?_))
  · exact fin (rule := 4) hg7 (by omega) (by unfold makeD; exact (mn h1).trans ((mn (by omega)).trans (mk h3)))
  refine iEq (iCndP (fun h6 => ?_) (fun h6 => ?_))
  · exact fin (rule := 6) hg7 (by omega) (by unfold makeD; exact (mn h1).trans ((mn (by omega)).trans ((mn h3).trans ((mn (by omega)).trans (mk h6)))))
  refine iEq (iCndP (fun h7 => ?_) (fun h7 => ?_))
  · exact fin (rule := 7) hg7 (by omega) (by unfold makeD; exact (mn h1).trans ((mn (by omega)).trans ((mn h3).trans ((mn (by omega)).trans ((mn h6).trans (mk h7))))))
  refine iEq (iCndP (fun h9 => ?_) (fun h9 => ?_))
  · exact fin (rule := 9) hg7 (by omega) (by unfold makeD; exact (mn h1).trans ((mn (by omega)).trans ((mn h3).trans ((mn (by omega)).trans ((mn h6).trans ((mn h7).trans ((mn (by omega)).trans (mk h9))))))))
  have hprem : 1 ≤ x.d.prem.length := by
    cases hrf <;> first | (rename_i e _ _ _ _; exact absurd e h1) | (rename_i e _ _ _ _; rw [e]; simp) | simp_all
  refine iEq (iCndP (fun h2 => ?_) (fun h2 => ?_))
  · have hmk : makeD Q.length x.d g a = [⟨2, [], addT (setT x.d.asm) Fm.fls.body, x.d.con, []⟩, ⟨11, [gt g 0, Q.length], setT x.d.asm, x.d.con, Fm.fls.body⟩] := by unfold makeD; exact (mn h1).trans (mk h2)
    refine ⟨fun c => c = b ∨ w7.heap.size ≤ c ∨ TyS l0 w7 c, ?_⟩
    have hg7s : Sl w7 v21 (ints (nats g)) := hg7.sl
    refine iIaW (j := 0) (x := .int .i64 ((gt g 0 : Nat) : Int)) hg7s (by omega) (by rw [ints_length, nats_length]; omega) ?_ fun p hp => iLd (hp _ hg7s) ⟨fun w14 hc => iLd (hp _ ?_) rfl, fun w15 x15 => ?_⟩
    · rw [gt_eq (show 0 < g.length by omega)]
      simp [ints, nats, show 0 < g.length by omega]
    · refine (Ow.ch hg7 hc fun c hc' hS => ?_).sl
      rcases hS with rfl | hS | ⟨-, cs, hS⟩
      · exact hg7.ne_blk hB7 (by decide) hc'
      · have := (hg7.blk c hc').2; omega
      · exact hg7.ne_blk hS (by decide) hc'
    refine iBs1 rfl rfl fun c16 w16 _ x16 hB16 => ⟨x16.ch, fun w17 x17 => ?_⟩
    have X17 := (x15.trans x16).trans x17
    refine iCall ((ok_impl_put (A := setT x.d.asm) (B := [Fm.fls.body]) (hl7.ext X17).sl (Sl.ofBlk (n := 1) (hB16.ext x17) rfl (by decide)) hl7.cell rfl (by simp only [List.length_cons, List.length_nil]; omega)).mono ?_)
    rintro v69 w18 ⟨x18, hv69⟩
    refine ⟨x18.ch, fun w19 x19 => ?_⟩
    have X19 := (X17.trans x18).trans x19
    have hal : (setT (setT x.d.asm ++ [Fm.fls.body])).length ≤ 13 := by
      have := setT_len (setT x.d.asm ++ [Fm.fls.body])
      rw [List.length_append, List.length_singleton] at this
      omega
    refine iCall ((ok_impl_maker_add (rule := 2) (ps := []) (main := []) (hM7.ext X19) ((Ow.ext hv69 x19).mono (Nat.zero_le _)) (Ow.nil _ _ _) (by omega) (by simp) (by omega)).mono ?_)
    rintro _ w20 ⟨rfl, hs20, y1, hy1, hM20⟩
    refine ⟨hs20.mono fun c hc => ?_, fun w21 x21 => ?_⟩
    · rcases hc with rfl | ⟨h0, cs, hc⟩
      · exact .inl rfl
      · by_cases hlt : c < w7.heap.size
        · refine .inr (.inr ⟨h0, cs, ?_⟩)
          unfold Blk at hc ⊢
          rw [← X19.block c hlt]; exact hc
        · exact .inr (.inl (by omega))
    refine iBs2 rfl rfl rfl fun c22 w22 _ x22 hB22 => ?_
    intro w23 x23
    have x2023 := (x21.trans x22).trans x23
    have hl20 : TxW 0 w20 v12 (setT x.d.asm) := Ow.sch (hl7.ext X19) hs20 (hB7.ext X19) (by decide) (by decide)
    refine iCall ((ok_impl_maker_add (rule := 11) (ps := [gt g 0, Q.length]) (main := Fm.fls.body) (hM20.ext x2023) (hl20.ext x2023) (Ow.ofBlk (n := 2) (hB22.ext x23) (Nat.zero_le _) rfl (by decide)) (by omega) (by simp) (by rw [List.length_append, List.length_singleton]; omega)).mono ?_)
    rintro _ w24 ⟨rfl, hs24, y2, hy2, hM24⟩
    intro w25 x25
    refine ⟨(((((SCh.ext (X7.trans X19)).trans hs20).trans (SCh.ext x2023)).trans hs24).trans (SCh.ext x25)), [y1, y2], ?_, ?_, ?_⟩
    · rw [hmk, List.map_cons, List.map_singleton, hy1, hy2]
    · have := hM24.ext x25
      rw [List.append_assoc] at this; exact this
    · rw [hmk, List.length_append]; rfl
  -- the rules that take a formula apart
  refine iLdA hB17 rfl ?_
  refine iFa (iLdB hB17 (i := 1) (v := x.vp) rfl ?_)
  refine iIaN (j := 0) (SlI.ext hx X7) hprem fun p hp => iLd hp ?_
  have hq0 : x.d.prem.getD 0 0 ∈ x.d.prem := by
    rw [List.getD_eq_getElem?_getD, List.getElem?_eq_getElem hprem]
    exact List.getElem_mem hprem
  have ha0 : a = (gt (R.map DV.d) (x.d.prem.getD 0 0).toNat).con := by
    rw [← ha]; rfl
  obtain ⟨hq1, hq2⟩ := hinm _ hq0
  generalize hqe : x.d.prem.getD 0 0 = q at *
  obtain ⟨m, rfl⟩ := Int.eq_ofNat_of_zero_le hq1
  rw [Int.toNat_natCast] at hq2 ha0
  have hmR : m < R.length := by omega
  rw [gt_mapD hmR] at ha0
  refine iFld5 (hR.ext X7).row hmR (by decide) (cellsD_at hmR 3 (by decide)) ?_
  intro w26 x26
  have elim : ∀ {k : Nat} {p : Str × Str}, ((x.d.rule = 4 ∨ x.d.rule = 5) ∧ k = 2 ∧ 1 ≤ g.length) ∨ (x.d.rule = 8 ∧ k = 3 ∧ 3 ≤ g.length) ∨ (x.d.rule = 10 ∧ k = 4 ∧ 2 ≤ g.length) → parK a k = some p →
      callV Tryz.prog (.func (.func f_impl_sequentMaker_eliminate) #[] #[]) [bp b, .agg x.cs.toArray, v12, sv a, v21] w26 fun v86 w27 => ∀ w28, Ext w27 w28 → MadeQ l0 b vs Q (makeD Q.length x.d g a) w v86 w28 := fun {k p} hr hp => by
    have hpa : plT a = true := by
      rw [ha0]
      exact hplt m hmR
    refine iCall ((ok_impl_maker_eliminate (hM7.ext x26) hr hpa hp (hl7.ext x26) (hg7.ext x26) hL (by omega)).mono ?_)
    rintro u w27 ⟨hs, RQ, e1, e2, e3⟩
    intro w28 x28
    exact ⟨((SCh.ext (X7.trans x26)).trans hs).trans (SCh.ext x28), RQ, e1, e2.ext x28, e3⟩
  show callV Tryz.prog (.func (.func f_impl_sequentMaker_eliminate) #[] #[]) [bp b, .agg x.cs.toArray, v12, sv (gt R m).d.con, v21] w26 _
  rw [← ha0]
  have con : ∀ {q : Int}, gt x.d.prem 0 = q → (gt (R.map DV.d) q.toNat).con = a := fun e => by rw [← e]; exact ha
  cases hrf with
  | r1 e => exact absurd e h1
  | r2 _ e => exact absurd e h2
  | r3 _ _ _ e => exact absurd e h3
  | r6 _ _ e => exact absurd e h6
  | r7 _ _ e => exact absurd e h7
  | r9 _ _ e => exact absurd e h9
  | r4 q p e ep _ hp => exact elim (.inl ⟨.inl e, rfl, by omega⟩) (by rw [← con (q := q) (by rw [ep]; rfl)]; exact hp)
  | r5 q p e ep _ hp => exact elim (.inl ⟨.inr e, rfl, by omega⟩) (by rw [← con (q := q) (by rw [ep]; rfl)]; exact hp)
  | r8 q q' q'' p e ep _ hp => exact elim (.inr (.inl ⟨e, rfl, by rw [hgl, ep]; simp⟩)) (by rw [← con (q := q) (by rw [ep]; rfl)]; exact hp)
  | r10 q q' p e ep _ hp => exact elim (.inr (.inr ⟨e, rfl, by rw [hgl, ep]; simp⟩)) (by rw [← con (q := q) (by rw [ep]; rfl)]; exact hp)
end Go.Proofs.YteifjhpddhppcaaGreat

/- Contracts: the reference's small parts of deductions. Conditions: none. -/
namespace Go.Vc
theorem kids_size {f y z : Fm} (h : f.kids = [y, z]) : y.size ≤ f.size ∧ z.size ≤ f.size := by
  cases f <;> simp only [Fm.kids, List.cons.injEq, reduceCtorEq, and_false, and_true] at h <;> (obtain ⟨rfl, rfl⟩ := h; simp only [Fm.size]; omega)
end Go.Vc
namespace Go.Proofs.YteifjhpddhppcaaGreat
open Go.Vc
theorem ok_spec_l25Formula (t : Str) (w : World) : Cal Tryz.prog f_spec_l25Formula #[sv t] w fun r w' => Ext w w' ∧ ∃ v, r = .tuple #[v, .bool (plT t)] ∧ (plT t = true → FmW w.heap.size w' v (fT t)) := by
  apply c_spec_l25Formula; unfold S_spec_l25Formula
  refine iCall ((ok_spec_l02Good t w).mono ?_)
  rintro r w1 ⟨x1, v, rfl, hv⟩
  refine iE20 (iE21 ?_)
  have h0 : goodT t = true → pCode t = 0 := fun h => by
    unfold goodT at h
    rw [Bool.and_eq_true, decide_eq_true_eq] at h
    exact h.1
  refine iJnX (fun xs w' => xs = [v, .bool (plT t)] ∧ Ext w1 w') (fun J hJ => ?_) ?_
  · refine iCnd (fun h => ?_) (fun h => ?_)
    · refine iRet (ok_spec_l02Plain (hv (h0 h)).sl) fun w2 x2 => ?_
      refine hJ _ _ ⟨?_, x2⟩
      unfold plT
      rw [h, Bool.true_and]; rfl
    · refine hJ _ _ ⟨?_, Ext.refl _⟩
      unfold plT
      rw [h, Bool.false_and]
  · rintro _ w3 ⟨rfl, x3⟩
    intro _
    exact ⟨x1.trans x3, v, rfl, fun h => OwK.ext (hv (plT_at h).2.2.2.2) x3⟩
theorem ok_spec_l25List {v : Value} {L : List Str} {w : World} (hs : SlT w v L) : Ret Tryz.prog f_spec_l25List #[v] w (.bool (decide (L.length ≤ 12) && L.all plT)) := by
  apply c_spec_l25List; unfold S_spec_l25List
  refine iLenStr hs (iLt (iCndP (fun h => ?_) (fun h => ?_)))
  · rw [decide_eq_false (show ¬ L.length ≤ 12 by omega), Bool.false_and]
    exact ⟨by first | trivial | rfl, Ext.refl _⟩
  rw [decide_eq_true (show L.length ≤ 12 by omega), Bool.true_and]
  refine iLp (fun i : Nat => [.int .i64 (i : Int)]) (fun i w' => i ≤ L.length ∧ Ext w w' ∧ (L.take i).all plT = true) (fun i => L.length - i) 0 rfl ⟨Nat.zero_le _, Ext.refl _, rfl⟩ ?_
  rintro i w2 Kn ⟨hi, x2, hal⟩ hKn
  intro _
  simp only [gx]
  refine iLenStr (Sl.ext hs x2) (iLt (iCndP (fun h => ?_) (fun h => ?_)))
  · have hil : i < L.length := by omega
    refine iIaT (Sl.ext hs x2) hil fun p hp => iLd hp ?_
    refine iCall ((ok_spec_l25Formula L[i] w2).mono ?_)
    rintro r w3 ⟨x3, u, rfl, -⟩
    refine iE20 (iE21 (iNot (iCnd (fun h3 => ?_) (fun h3 => ?_))))
    · refine ⟨?_, x2.trans x3⟩
      have : L.all plT = false := List.all_eq_false.2 ⟨L[i], List.getElem_mem hil, by simpa using h3⟩
      rw [this]
    · refine iAdd (by omega) ?_
      refine hKn (i + 1) _ ⟨by omega, x2.trans x3, ?_⟩ (by show L.length - (i + 1) < L.length - i; omega)
      rw [List.take_succ_eq_append_getElem hil, List.all_append, hal]
      simpa using h3
  · have : i = L.length := by omega
    subst this
    rw [List.take_length] at hal
    exact ⟨by rw [hal], x2⟩
theorem iKind {w : World} {va : Value} {a : Fm} {K : Value → Prop} (ha : FmS w va a) (h : K (.int .i64 (a.kind : Int))) : xIa 2 va (.int .i64 0) fun p => xFa 0 p fun q => xLd w q K :=
  iFld (f := 0) (j := 0) ha rfl a.size_pos (by decide) (kind_fst ha).1 h
def parV (t : Str) (k : Nat) : Value := match parK t k with
  | some p => .tuple #[sv p.1, sv p.2, .bool true]
  | none => .tuple #[.string ⟨#[]⟩, .string ⟨#[]⟩, .bool false]
theorem ok_spec_l25Parts {t : Str} (h : plT t = true) {k : Nat} (hk : k = 2 ∨ k = 3 ∨ k = 4) (w : World) : Ret Tryz.prog f_spec_l25Parts #[sv t, .int .i64 (k : Int)] w (parV t k) := by
  obtain ⟨-, hg, -, -, hc⟩ := plT_at h
  apply c_spec_l25Parts; unfold S_spec_l25Parts
  refine iCall ((ok_spec_l25Formula t w).mono ?_)
  rintro r w1 ⟨x1, v, rfl, hv⟩
  have hv := hv h
  rw [h]
  refine iE20 (iE21 ?_)
  refine iJnX (fun xs w' => xs = [.bool (!decide ((fT t).kind = k))] ∧ w' = w1) (fun J hJ => ?_) ?_
  · refine iNot (iCndF rfl ?_)
    refine iKind hv.sl (iNe (hJ _ _ ⟨?_, rfl⟩))
    congr 2
    rw [← decide_not]
    exact decide_eq_decide.2 (by omega)
  · rintro _ w3 ⟨rfl, rfl⟩
    intro _
    show cnd (.bool (!decide ((fT t).kind = k))) _ _
    by_cases hkk : (fT t).kind = k
    · rw [decide_eq_true hkk]
      refine iCndF rfl ?_
      obtain ⟨p, hp, hb⟩ := parK_kind hk hkk
      obtain ⟨-, y, z, hkids, hpe⟩ := parK_some hp
      have hsz := (pCode_size hc).1
      have hs2 : (fT t).size ≤ 1099511627776 := Nat.le_trans hsz (by decide)
      have hy : y.good ∧ z.good ∧ y.size ≤ (fT t).size ∧ z.size ≤ (fT t).size := ⟨good_kid hg y (by rw [hkids]; simp), good_kid hg z (by rw [hkids]; simp), kids_size hkids⟩
      refine iCall ((ok_spec_l02Left hv.sl hkids hs2).mono ?_)
      rintro u w4 ⟨x4, hu⟩
      refine iRet (ok_spec_l02Text hu hy.1 (by omega)) fun w5 x5 => ?_
      refine iCall ((ok_spec_l02Right (SlK.ext hv.sl (x4.trans x5)) hkids hs2).mono ?_)
      rintro u2 w6 ⟨x6, hu2⟩
      refine iRet (ok_spec_l02Text hu2 hy.2.1 (by omega)) fun w7 x7 => ?_
      refine ⟨?_, (((x1.trans x4).trans x5).trans x6).trans x7⟩
      unfold parV
      rw [hp, hpe]
    · rw [decide_eq_false hkk]
      refine iCndT rfl ⟨?_, x1⟩
      unfold parV
      rw [parK_no hk hkk]
theorem ok_spec_l25Count (r : Int) (w : World) : Ret Tryz.prog f_spec_l25Count #[.int .i64 r] w (.int .i64 (countD r)) := by
  have key : Cal Tryz.prog f_spec_l25Count #[.int .i64 r] w fun u w' => u = .int .i64 (countD r) ∧ w' = w := by
    apply c_spec_l25Count; unfold S_spec_l25Count
    unfold countD
    refine iEq (iCndP (fun h1 => ?_) (fun h1 => ?_))
    · rw [if_pos h1]; exact ⟨rfl, rfl⟩
    rw [if_neg h1]
    refine iEq ?_
    have orJ : ∀ {a b : Prop} [Decidable a] [Decidable b], ¬ a → Value.bool (decide (a ∨ b)) = .bool (decide b) := fun h => by
      congr 1; exact decide_eq_decide.2 ⟨fun e => e.resolve_left h, .inr⟩
    refine iJnX (fun xs w' => xs = [.bool (decide (r = 2 ∨ r = 4 ∨ r = 5 ∨ r = 6 ∨ r = 7 ∨ r = 9))] ∧ w' = w) (fun J1 hJ1 => ?_) ?_
    · refine iCndP (fun h => hJ1 _ _ ⟨by rw [decide_eq_true (.inl h)], rfl⟩) (fun h2 => iEq ?_)
      refine iJnX (fun xs w' => xs = [.bool (decide (r = 4 ∨ r = 5 ∨ r = 6 ∨ r = 7 ∨ r = 9))] ∧ w' = w) (fun J3 hJ3 => ?_) (fun xs w' ⟨e, e2⟩ => fun _ => hJ1 _ _ ⟨by rw [orJ h2]; rw [e]; rfl, e2⟩)
      refine iCndP (fun h => hJ3 _ _ ⟨by rw [decide_eq_true (.inl h)], rfl⟩) (fun h4 => iEq ?_)
      refine iJnX (fun xs w' => xs = [.bool (decide (r = 5 ∨ r = 6 ∨ r = 7 ∨ r = 9))] ∧ w' = w) (fun J5 hJ5 => ?_) (fun xs w' ⟨e, e2⟩ => fun _ => hJ3 _ _ ⟨by rw [orJ h4]; rw [e]; rfl, e2⟩)
      refine iCndP (fun h => hJ5 _ _ ⟨by rw [decide_eq_true (.inl h)], rfl⟩) (fun h5 => iEq ?_)
      refine iJnX (fun xs w' => xs = [.bool (decide (r = 6 ∨ r = 7 ∨ r = 9))] ∧ w' = w) (fun J7 hJ7 => ?_) (fun xs w' ⟨e, e2⟩ => fun _ => hJ5 _ _ ⟨by rw [orJ h5]; rw [e]; rfl, e2⟩)
      refine iCndP (fun h => hJ7 _ _ ⟨by rw [decide_eq_true (.inl h)], rfl⟩) (fun h6 => iEq ?_)
      refine iJnX (fun xs w' => xs = [.bool (decide (r = 7 ∨ r = 9))] ∧ w' = w) (fun J9 hJ9 => ?_) (fun xs w' ⟨e, e2⟩ => fun _ => hJ7 _ _ ⟨by rw [orJ h6]; rw [e]; rfl, e2⟩)
      exact iCndP (fun h => hJ9 _ _ ⟨by rw [decide_eq_true (.inl h)], rfl⟩) (fun h7 => iEq (hJ9 _ _ ⟨by rw [orJ h7], rfl⟩))
    rintro _ w2 ⟨rfl, rfl⟩
    intro _
    refine iCndP (fun h => ⟨by rw [if_pos h], rfl⟩) (fun h2 => ?_)
    rw [if_neg h2]
    refine iEq ?_
    refine iJnX (fun xs w' => xs = [.bool (decide (r = 3 ∨ r = 10))] ∧ w' = w2) (fun J1 hJ1 => ?_) ?_
    · exact iCndP (fun h => hJ1 _ _ ⟨by rw [decide_eq_true (.inl h)], rfl⟩) (fun h3 => iEq (hJ1 _ _ ⟨by rw [orJ h3], rfl⟩))
    rintro _ w3 ⟨rfl, rfl⟩
    intro _
    refine iCndP (fun h => ⟨by rw [if_pos h], rfl⟩) (fun h3 => ?_)
    rw [if_neg h3]
    exact iEq (iCndP (fun h => ⟨by rw [if_pos h], rfl⟩) (fun h8 => ⟨by rw [if_neg h8], rfl⟩))
  exact key.mono fun u w' ⟨h, e⟩ => ⟨h, by rw [e]; exact Ext.refl _⟩
theorem ok_spec_l01Words {v v' : Value} {A B : List Str} {w : World} (h : SlT w v A) (h' : SlT w v' B) : Ret Tryz.prog f_spec_l01Words #[v, v'] w (.bool (decide (A = B))) := by
  apply c_spec_l01Words; unfold S_spec_l01Words
  refine iLenStr h (iLenStr h' (iNe (iCndP (fun hn => ?_) (fun hn => ?_))))
  · refine ⟨?_, Ext.refl _⟩
    rw [decide_eq_false (fun e => hn (by rw [e]))]
  have hl : A.length = B.length := by omega
  have hln := Sl.len h
  rw [strs_len] at hln
  refine iLp (fun i : Nat => [.int .i64 (i : Int)]) (fun i w' => i ≤ A.length ∧ Ext w w' ∧ A.take i = B.take i) (fun i => A.length - i) 0 rfl ⟨Nat.zero_le _, Ext.refl _, rfl⟩ ?_
  rintro i w2 Kn ⟨hi, x2, he⟩ hKn
  intro _
  simp only [gx]
  refine iLenStr (Sl.ext h x2) (iLt (iCndP (fun hc => ?_) (fun hc => ?_)))
  · have hil : i < A.length := by omega
    refine iIaT (Sl.ext h x2) hil fun p hp => iLd hp ?_
    refine iIaT (Sl.ext h' x2) (show i < B.length by omega) fun p hp => iLd hp ?_
    refine iNeT ?_
    intro w3 x3
    refine iCndP (fun hne => ?_) (fun hne => ?_)
    · refine ⟨?_, x2.trans x3⟩
      rw [decide_eq_false (fun e => hne (by subst e; rfl))]
    · refine iAdd (by omega) ?_
      refine hKn (i + 1) _ ⟨by omega, x2.trans x3, ?_⟩ (by show A.length - (i + 1) < A.length - i; omega)
      rw [List.take_succ_eq_append_getElem hil, List.take_succ_eq_append_getElem (show i < B.length by omega), he, Classical.not_not.1 hne]
  · have e : i = A.length := by omega
    subst e
    rw [List.take_length, hl, List.take_length] at he
    exact ⟨by rw [decide_eq_true he], x2⟩
theorem ok_spec_l25Same {v v' : Value} {A B : List Str} {w : World} (h : SlT w v A) (h' : SlT w v' B) : Ret Tryz.prog f_spec_l25Same #[v, v'] w (.bool (decide (A = B))) := by
  apply c_spec_l25Same; unfold S_spec_l25Same
  exact iRet (ok_spec_l01Words h h') fun w1 x1 => ⟨rfl, x1⟩
theorem ok_spec_l11Copy {v : Value} {L : List Str} {w : World} (h : SlT w v L) (hL : L.length ≤ 1000000) : Cal Tryz.prog f_spec_l11Copy #[v] w fun r w' => Ext w w' ∧ Ow w.heap.size t_string w' r (strs L) := by
  apply c_spec_l11Copy; unfold S_spec_l11Copy
  refine iBs0 fun u w1 hw1 x1 ho => ?_
  refine iApp u_Sstring i_Sstring rfl ho (Sl.ext h x1) (fun y hy => by
    obtain ⟨z, _, rfl⟩ := List.mem_map.1 hy
    rfl) (by simp only [List.length_nil, strs_len]; omega) (by simp only [List.length_nil, strs_len]; omega) (by omega) fun u' w2 ho2 hg => ?_
  exact ⟨x1.grown hg fun b hb => (ho.blk b hb).1, by simpa using ho2⟩
theorem ok_spec_l25With {v v' : Value} {A B : List Str} {w : World} (h : SlT w v A) (h' : SlT w v' B) (hA : A.length ≤ 1000000) (hB : B.length ≤ 1000000) : Cal Tryz.prog f_spec_l25With #[v, v'] w fun r w' => Ext w w' ∧ Ow w.heap.size t_string w' r (strs (A ++ B)) := by
  apply c_spec_l25With; unfold S_spec_l25With
  refine iCall ((ok_spec_l11Copy h hA).mono ?_)
  rintro u w1 ⟨x1, hu⟩
  refine iApp u_Sstring i_Sstring rfl hu (Sl.ext h' x1) (fun y hy => by
    obtain ⟨z, _, rfl⟩ := List.mem_map.1 hy
    rfl) (by rw [strs_len, strs_len]; omega) (by rw [strs_len, strs_len]; omega) x1.size fun u' w2 ho2 hg => ?_
  refine ⟨x1.grown hg fun b hb => (hu.blk b hb).1, ?_⟩
  rw [show strs (A ++ B) = strs A ++ strs B by simp [strs]]; exact ho2
end Go.Proofs.YteifjhpddhppcaaGreat

/- Contracts: the reference's rules of deductions. Conditions: none. -/
namespace Go.Vc
theorem iAndJ {a : Prop} [Decidable a] {B : Bool} {J : List Value → World → Prop} {w : World} {A F : Prop} (hJ : ∀ w', Ext w w' → J [.bool (decide a && B)] w') (hA : (∀ w', Ext w w' → J [.bool B] w') → A) (hF : (∀ w', Ext w w' → J [.bool false] w') → F) : cnd (.bool (decide a)) A F := by
  refine iCndP (fun h => hA ?_) (fun h => hF ?_)
  · rw [decide_eq_true h, Bool.true_and] at hJ; exact hJ
  · rw [decide_eq_false h, Bool.false_and] at hJ; exact hJ
theorem iJnR {T : Bool} {w w9 : World} {F : (List Value → World → Prop) → Prop} (X : Ext w w9) (h : ∀ J : List Value → World → Prop, (∀ w', Ext w9 w' → J [.bool T] w') → F J) :
    jn F (fun xs w' => ∀ _ : Nat → Value, gx xs 0 = .bool T ∧ Ext w w') := by
  refine iJnX (fun xs w' => xs = [.bool T] ∧ Ext w9 w') (fun J hJ => h J fun w' x' => hJ _ _ ⟨rfl, x'⟩) ?_
  rintro _ w' ⟨rfl, x'⟩ _
  exact ⟨rfl, X.trans x'⟩
end Go.Vc
namespace Go.Proofs.YteifjhpddhppcaaGreat
open Go.Vc
theorem iParts {t : Str} (h : plT t = true) {k : Nat} (hk : k = 2 ∨ k = 3 ∨ k = 4) {w : World} {K : Value → Value → Value → World → Prop} (hn : parK t k = none → ∀ w', Ext w w' → K (.string ⟨#[]⟩) (.string ⟨#[]⟩) (.bool false) w') (hs : ∀ p, parK t k = some p → ∀ w', Ext w w' → K (sv p.1) (sv p.2) (.bool true) w') :
    callV Tryz.prog (.func (.func f_spec_l25Parts) #[] #[]) [sv t, .int .i64 (k : Int)] w fun v w' => xEx v 0 fun a => xEx v 1 fun b => xEx v 2 fun c => K a b c w' := by
  refine iRet (ok_spec_l25Parts h hk w) fun w' x' => ?_
  unfold parV
  cases e : parK t k with
  | none => exact iE30 (iE31 (iE32 (hn e _ x')))
  | some p => exact iE30 (iE31 (iE32 (hs p e _ x')))
theorem ok_spec_l25Rule {x : DV} {w : World} {v1 : Value} {G : List DV} (hxl : SlT w x.vl x.d.asm) (hG : RdD w v1 G) (hc : plT x.d.con = true) (hp : ∀ y ∈ G, plT y.d.con = true) (hn : countD x.d.rule = (G.length : Int)) (hl : x.d.asm.length ≤ 12) :
    Ret Tryz.prog f_spec_l25Rule #[.agg x.cs.toArray, v1] w (.bool (ruleS x.d (G.map fun y => jdg y.d))) := by
  have hgt : ∀ j, j < G.length → gt (G.map fun y => jdg y.d) j = ((gt G j).d.asm, (gt G j).d.con) := fun j hj => by
    rw [gt_eq (by rw [List.length_map]; exact hj), gt_eq hj, List.getElem_map]; rfl
  have hpl : ∀ j, j < G.length → plT (gt G j).d.con = true := fun j hj => hp _ (by rw [gt_eq hj]; exact List.getElem_mem hj)
  have hasm : ∀ {w' : World} {j : Nat}, Ext w w' → j < G.length → SlT w' (gt G j).vl (gt G j).d.asm := fun X hj => Sl.ext (hG.asm _ (by rw [gt_eq hj]; exact List.getElem_mem hj)) X
  generalize hGs : (G.map fun y => jdg y.d) = Gs at *
  have am : ∀ {w' : World} {j : Nat} {K : Value → Prop}, Ext w w' → j < G.length → K (gt G j).vl → xIa 5 v1 (.int .i64 (j : Int)) fun p => xFa 2 p fun q => xLd w' q K := fun X hj h =>
    iFld5 (hG.ext X).row hj (by decide) (cellsD_at hj 2 (by decide)) h
  have cn : ∀ {w' : World} {j : Nat} {K : Value → Prop}, Ext w w' → j < G.length → K (sv (gt G j).d.con) → xIa 5 v1 (.int .i64 (j : Int)) fun p => xFa 3 p fun q => xLd w' q K := fun X hj h =>
    iFld5 (hG.ext X).row hj (by decide) (cellsD_at hj 3 (by decide)) h
  apply c_spec_l25Rule; unfold S_spec_l25Rule
  refine iNew5 fun q1 w1 hq1 x1 hB1 => ?_
  have hB1 : Blk t_impl_Deduction w1 q1 [.int .i64 x.d.rule, x.vp, x.vl, sv x.d.con, .int .i64 x.d.num] := hB1
  have f0 : ∀ {w' : World} {K : Value → Prop}, Ext w1 w' → K (.int .i64 x.d.rule) → xFa 0 (.pointer (some ⟨q1, 0, none⟩)) fun q => xLd w' q K := fun X h => iFa (iLdB (hB1.ext X) (i := 0) rfl h)
  have f2 : ∀ {w' : World} {K : Value → Prop}, Ext w1 w' → K x.vl → xFa 2 (.pointer (some ⟨q1, 0, none⟩)) fun q => xLd w' q K := fun X h => iFa (iLdB (hB1.ext X) (i := 2) rfl h)
  have same : ∀ {w' : World} {j : Nat} {K : Value → Prop}, Ext w1 w' → j < G.length → K (.bool (decide ((gt G j).d.asm = x.d.asm))) → callQ Tryz.prog (.func (.func f_spec_l25Same) #[] #[]) [(gt G j).vl, x.vl] w' K := fun X hj h =>
    iRetQ (fun w'' x'' => ok_spec_l25Same (hasm (x1.trans (X.trans x'')) hj) (Sl.ext hxl (x1.trans (X.trans x'')))) h
  refine iFa (iLdB hB1 (i := 3) (v := sv x.d.con) rfl ?_)
  refine f0 (Ext.refl _) (iEq (iCndP (fun h1 => ?_) (fun h1 => ?_)))
  · have hT : ruleS x.d Gs = (decide (0 ≤ x.d.num ∧ x.d.num ≤ (x.d.asm.length : Int) - 1) && decide (gt x.d.asm x.d.num.toNat = x.d.con)) := by unfold ruleS; rw [if_pos h1]
    rw [hT]
    refine iJnR x1 fun J hJ => ?_
    refine iFa (iLdB hB1 (i := 4) (v := .int .i64 x.d.num) rfl ?_)
    refine f2 (Ext.refl _) (iLenStr (Sl.ext hxl x1) (iSub (by omega) ?_))
    refine iRet (ok_spec_l01In _ _ _ w1) fun w4 x4 => ?_
    refine iCndP (fun hr => ?_) (fun hr => ?_)
    · rw [decide_eq_true hr, Bool.true_and] at hJ
      refine f2 x4 (iFa (iLdB (hB1.ext x4) (i := 4) (v := .int .i64 x.d.num) rfl ?_))
      obtain ⟨m, hm⟩ := Int.eq_ofNat_of_zero_le hr.1
      rw [hm, Int.toNat_natCast] at hJ
      exact iIaG (Sl.ext hxl (x1.trans x4)) hm (by omega) (iEqT (hJ _ x4))
    · rw [decide_eq_false hr, Bool.false_and] at hJ
      exact hJ _ x4
  refine iEq (iCndP (fun h2 => ?_) (fun h2 => ?_))
  · have hl1 : G.length = 1 := by unfold countD at hn; rw [if_neg h1, if_pos (.inl h2)] at hn; omega
    have h0 : 0 < G.length := by omega
    have hT : ruleS x.d Gs = (decide ((gt G 0).d.asm = x.d.asm) && decide ((gt G 0).d.con = Fm.fls.body)) := by unfold ruleS; rw [if_neg h1, if_pos h2, hgt 0 h0]
    rw [hT]
    refine iJnR x1 fun J hJ => ?_
    refine am (j := 0) x1 h0 (f2 (Ext.refl _) (same (Ext.refl _) h0 ?_))
    refine iAndJ hJ (fun hJ2 => cn (j := 0) x1 h0 ?_) (fun hF => hF)
    exact iEqT (b := Fm.fls.body) hJ2
  refine iEq (iCndP (fun h3 => ?_) (fun h3 => ?_))
  · have hl1 : G.length = 2 := by unfold countD at hn; rw [if_neg h1, if_neg (by omega), if_pos (.inl h3)] at hn; omega
    have h0 : 0 < G.length := by omega
    have h1' : 1 < G.length := by omega
    have hT : ruleS x.d Gs = (match parK x.d.con 2 with | some p => decide ((gt G 0).d.asm = x.d.asm) && (decide ((gt G 1).d.asm = x.d.asm) && (decide ((gt G 0).d.con = p.1) && decide ((gt G 1).d.con = p.2))) | none => false) := by unfold ruleS; rw [if_neg h1, if_neg h2, if_pos h3, hgt 0 h0, hgt 1 h1']
    rw [hT]
    refine iParts hc (k := 2) (.inl rfl) (fun e w9 x9 => ?_) (fun p e w9 x9 => ?_)
    · rw [e]
      exact iJnR (x1.trans x9) fun J hJ => iCndF rfl hJ
    rw [e]
    have X9 := x1.trans x9
    refine iJnR X9 fun J hJ => iCndT rfl ?_
    refine am (j := 0) X9 h0 (f2 x9 (same x9 h0 ?_))
    refine iAndJ hJ (fun hJ => am (j := 1) X9 h1' (f2 x9 (same x9 h1' ?_))) (fun hF => hF)
    refine iAndJ hJ (fun hJ => cn (j := 0) X9 h0 (iEqT ?_)) (fun hF => hF)
    exact iAndJ hJ (fun hJ => cn (j := 1) X9 h1' (iEqT hJ)) (fun hF => hF)
  have same2 : ∀ {w' : World} {j : Nat} {v' : Value} {A : List Str} {K : Value → Prop}, Ext w w' → j < G.length → SlT w' v' A → K (.bool (decide ((gt G j).d.asm = A))) → callQ Tryz.prog (.func (.func f_spec_l25Same) #[] #[]) [(gt G j).vl, v'] w' K := fun X hj hA h =>
    iRetQ (fun w'' x'' => ok_spec_l25Same (hasm (X.trans x'') hj) (Sl.ext hA x'')) h
  have wth : ∀ {w' : World} {t : Str} {c : Nat} {K : Value → World → Prop}, Ext w w' → Blk t_string w' c [sv t] → (∀ u w'', Ext w' w'' → SlT w'' u (x.d.asm ++ [t]) → K u w'') → callV Tryz.prog (.func (.func f_spec_l25With) #[] #[]) [x.vl, .slice (some ⟨c, 0, none⟩) 1 1] w' K := fun X hB h => by
    refine iCall ((ok_spec_l25With (B := [_]) (Sl.ext hxl X) (Sl.ofBlk (n := 1) hB rfl (by decide)) (by omega) (by simp)).mono ?_)
    rintro u w'' ⟨x'', hu⟩
    exact h u w'' x'' hu.sl
  refine iEq ?_
  refine iJnX (fun xs w' => xs = [.bool (decide (x.d.rule = 4 ∨ x.d.rule = 5))] ∧ w' = w1) (fun J hJ => ?_) ?_
  · refine iCndP (fun h4 => ?_) (fun h4 => ?_)
    · rw [decide_eq_true (.inl h4)] at hJ
      exact hJ _ _ ⟨rfl, rfl⟩
    · refine iEq (hJ _ _ ⟨?_, rfl⟩)
      rw [show decide (x.d.rule = 4 ∨ x.d.rule = 5) = decide (x.d.rule = 5) from decide_eq_decide.2 ⟨fun e => e.resolve_left h4, .inr⟩]
  rintro _ w18 ⟨rfl, rfl⟩
  intro _
  show cnd (.bool (decide (x.d.rule = 4 ∨ x.d.rule = 5))) _ _
  refine iCndP (fun h45 => ?_) (fun h45 => ?_)
  · have hl1 : G.length = 1 := by unfold countD at hn; rw [if_neg h1, if_pos (by omega)] at hn; omega
    have h0 : 0 < G.length := by omega
    have hT : ruleS x.d Gs = (match parK (gt G 0).d.con 2 with | some p => decide ((gt G 0).d.asm = x.d.asm) && decide (x.d.con = if x.d.rule = 4 then p.1 else p.2) | none => false) := by
      unfold ruleS
      rcases h45 with h | h
      · simp only [if_pos h]; rw [if_neg h1, if_neg h2, if_neg h3, hgt 0 h0]
      · simp only [if_neg (show ¬ x.d.rule = 4 by omega)]; rw [if_neg h1, if_neg h2, if_neg h3, if_pos h, hgt 0 h0]
    rw [hT]
    refine cn (j := 0) x1 h0 (iParts (hpl 0 h0) (k := 2) (.inl rfl) (fun e w9 x9 => ?_) (fun p e w9 x9 => ?_))
    · rw [e]
      exact iJnR (x1.trans x9) fun J hJ => iCndF rfl hJ
    rw [e]
    have X9 := x1.trans x9
    refine iJnR X9 fun J hJ => iCndT rfl ?_
    refine am (j := 0) X9 h0 (f2 x9 (same x9 h0 ?_))
    refine iAndJ hJ (fun hJ => f0 x9 (iEq (iCndP (fun h4 => ?_) (fun h4 => ?_)))) (fun hF => hF)
    · rw [if_pos h4] at hJ
      refine iEqT (iCndP (fun ha => ?_) (fun ha => ?_))
      · rw [decide_eq_true ha] at hJ; exact hJ
      · rw [decide_eq_false ha] at hJ
        exact f0 x9 (iEq (iCndP (fun h5 => absurd h4 (by omega)) (fun _ => hJ)))
    · rw [if_neg h4] at hJ
      exact f0 x9 (iEq (iCndP (fun h5 => iEqT hJ) (fun h5 => absurd h45 (by omega))))
  refine iEq ?_
  refine iJnX (fun xs w' => xs = [.bool (decide (x.d.rule = 6 ∨ x.d.rule = 7))] ∧ w' = w18) (fun J hJ => ?_) ?_
  · refine iCndP (fun h4 => ?_) (fun h4 => ?_)
    · rw [decide_eq_true (.inl h4)] at hJ
      exact hJ _ _ ⟨rfl, rfl⟩
    · refine iEq (hJ _ _ ⟨?_, rfl⟩)
      rw [show decide (x.d.rule = 6 ∨ x.d.rule = 7) = decide (x.d.rule = 7) from decide_eq_decide.2 ⟨fun e => e.resolve_left h4, .inr⟩]
  rintro _ w30 ⟨rfl, rfl⟩
  intro _
  show cnd (.bool (decide (x.d.rule = 6 ∨ x.d.rule = 7))) _ _
  refine iCndP (fun h67 => ?_) (fun h67 => ?_)
  · have hl1 : G.length = 1 := by unfold countD at hn; rw [if_neg h1, if_pos (by omega)] at hn; omega
    have h0 : 0 < G.length := by omega
    have hT : ruleS x.d Gs = (match parK x.d.con 3 with | some p => decide ((gt G 0).d.asm = x.d.asm) && decide ((gt G 0).d.con = if x.d.rule = 6 then p.1 else p.2) | none => false) := by
      unfold ruleS
      rcases h67 with h | h
      · simp only [if_pos h]; rw [if_neg h1, if_neg h2, if_neg h3, if_neg (by omega), if_neg (by omega), hgt 0 h0]
      · simp only [if_neg (show ¬ x.d.rule = 6 by omega)]; rw [if_neg h1, if_neg h2, if_neg h3, if_neg (by omega), if_neg (by omega), if_pos h, hgt 0 h0]
    rw [hT]
    refine iParts hc (k := 3) (.inr (.inl rfl)) (fun e w9 x9 => ?_) (fun p e w9 x9 => ?_)
    · rw [e]
      exact iJnR (x1.trans x9) fun J hJ => iCndF rfl hJ
    rw [e]
    have X9 := x1.trans x9
    refine iJnR X9 fun J hJ => iCndT rfl ?_
    refine am (j := 0) X9 h0 (f2 x9 (same x9 h0 ?_))
    refine iAndJ hJ (fun hJ => f0 x9 (iEq (iCndP (fun h4 => ?_) (fun h4 => ?_)))) (fun hF => hF)
    · rw [if_pos h4] at hJ
      refine cn (j := 0) X9 h0 (iEqT (iCndP (fun ha => ?_) (fun ha => ?_)))
      · rw [decide_eq_true ha] at hJ; exact hJ
      · rw [decide_eq_false ha] at hJ
        exact f0 x9 (iEq (iCndP (fun h5 => absurd h4 (by omega)) (fun _ => hJ)))
    · rw [if_neg h4] at hJ
      exact f0 x9 (iEq (iCndP (fun h5 => cn (j := 0) X9 h0 (iEqT hJ)) (fun h5 => absurd h67 (by omega))))
  refine iEq (iCndP (fun h8 => ?_) (fun h8 => ?_))
  · have hl1 : G.length = 3 := by unfold countD at hn; rw [if_neg h1, if_neg (by omega), if_neg (by omega), if_pos h8] at hn; omega
    have h0 : 0 < G.length := by omega
    have h1' : 1 < G.length := by omega
    have h2' : 2 < G.length := by omega
    have hT : ruleS x.d Gs = (match parK (gt G 0).d.con 3 with | some p => decide ((gt G 0).d.asm = x.d.asm) && (decide ((gt G 1).d.asm = x.d.asm ++ [p.1]) && (decide ((gt G 2).d.asm = x.d.asm ++ [p.2]) && (decide ((gt G 1).d.con = x.d.con) && decide ((gt G 2).d.con = x.d.con)))) | none => false) := by
      unfold ruleS
      rw [if_neg h1, if_neg h2, if_neg h3, if_neg (by omega), if_neg (by omega), if_neg (by omega), if_neg (by omega), if_pos h8, hgt 0 h0, hgt 1 h1', hgt 2 h2']
    rw [hT]
    refine cn (j := 0) x1 h0 (iParts (hpl 0 h0) (k := 3) (.inr (.inl rfl)) (fun e w9 x9 => ?_) (fun p e w9 x9 => ?_))
    · rw [e]
      exact iJnR (x1.trans x9) fun J hJ => iCndF rfl fun _ a _ b _ c _ d _ e => hJ _ ((((a.trans b).trans c).trans d).trans e)
    rw [e]
    have X9 := x1.trans x9
    refine iJnR X9 fun J hJ => iCndT rfl ?_
    refine am (j := 0) X9 h0 (f2 x9 (same x9 h0 ?_))
    refine iAndJ hJ (fun hJ => am (j := 1) X9 h1' (f2 x9 ?_)) (fun hF => fun _ a _ b _ c _ d _ e => hF _ ((((a.trans b).trans c).trans d).trans e))
    intro w44 x44
    refine iBs1 rfl rfl fun c w45 _ x45 hB45 => ⟨x45, fun w46 x46 => ?_⟩
    have X46 := (x44.trans x45).trans x46
    refine wth (X9.trans X46) (hB45.ext x46) fun u w47 x47 hu => ⟨x47, ?_⟩
    have X47 := X46.trans x47
    refine same2 (X9.trans X47) h1' hu ?_
    refine iAndJ (w := w47) (fun w' x' => hJ w' (X47.trans x')) (fun hJ => am (j := 2) (X9.trans X47) h2' (f2 (x9.trans X47) ?_)) (fun hF => fun _ a _ b _ c => hF _ ((a.trans b).trans c))
    intro w48 x48
    refine iBs1 rfl rfl fun c w49 _ x49 hB49 => ⟨x49, fun w50 x50 => ?_⟩
    have X50 := (x48.trans x49).trans x50
    have X950 := (X9.trans X47).trans X50
    refine wth X950 (hB49.ext x50) fun u w51 x51 hu => ⟨x51, ?_⟩
    have X51 := X50.trans x51
    have X951 := X950.trans x51
    refine same2 X951 h2' hu ?_
    refine iAndJ (w := w51) (fun w' x' => hJ w' (X51.trans x')) (fun hJ => cn (j := 1) X951 h1' (iEqT ?_)) (fun hF => hF)
    exact iAndJ hJ (fun hJ => cn (j := 2) X951 h2' (iEqT hJ)) (fun hF => hF)
  refine iEq (iCndP (fun h9 => ?_) (fun h9 => ?_))
  · have hl1 : G.length = 1 := by unfold countD at hn; rw [if_neg h1, if_pos (by omega)] at hn; omega
    have h0 : 0 < G.length := by omega
    have hT : ruleS x.d Gs = (match parK x.d.con 4 with | some p => decide ((gt G 0).d.asm = x.d.asm ++ [p.1]) && decide ((gt G 0).d.con = p.2) | none => false) := by
      unfold ruleS
      rw [if_neg h1, if_neg h2, if_neg h3, if_neg (by omega), if_neg (by omega), if_neg (by omega), if_neg (by omega), if_neg h8, if_pos h9, hgt 0 h0]
    rw [hT]
    refine iParts hc (k := 4) (.inr (.inr rfl)) (fun e w9 x9 => ?_) (fun p e w9 x9 => ?_)
    · rw [e]
      exact iJnR (x1.trans x9) fun J hJ => iCndF rfl fun _ a _ b _ c => hJ _ ((a.trans b).trans c)
    rw [e]
    have X9 := x1.trans x9
    refine iJnR X9 fun J hJ => iCndT rfl ?_
    refine am (j := 0) X9 h0 (f2 x9 ?_)
    intro w44 x44
    refine iBs1 rfl rfl fun c w45 _ x45 hB45 => ⟨x45, fun w46 x46 => ?_⟩
    have X46 := (x44.trans x45).trans x46
    refine wth (X9.trans X46) (hB45.ext x46) fun u w47 x47 hu => ⟨x47, ?_⟩
    have X47 := X46.trans x47
    refine same2 (X9.trans X47) h0 hu ?_
    exact iAndJ (w := w47) (fun w' x' => hJ w' (X47.trans x')) (fun hJ => cn (j := 0) (X9.trans X47) h0 (iEqT hJ)) (fun hF => hF)
  have h10 : x.d.rule = 10 := by
    unfold countD at hn
    rw [if_neg h1, if_neg (by omega)] at hn
    by_cases h : x.d.rule = 10
    · exact h
    · rw [if_neg (by omega), if_neg h8] at hn; omega
  have hl1 : G.length = 2 := by unfold countD at hn; rw [if_neg h1, if_neg (by omega), if_pos (.inr h10)] at hn; omega
  have h0 : 0 < G.length := by omega
  have h1' : 1 < G.length := by omega
  have hT : ruleS x.d Gs = (match parK (gt G 0).d.con 4 with | some p => decide ((gt G 0).d.asm = x.d.asm) && (decide ((gt G 1).d.asm = x.d.asm) && (decide ((gt G 1).d.con = p.1) && decide (x.d.con = p.2))) | none => false) := by
    unfold ruleS
    rw [if_neg h1, if_neg h2, if_neg h3, if_neg (by omega), if_neg (by omega), if_neg (by omega), if_neg (by omega), if_neg h8, if_neg h9, hgt 0 h0, hgt 1 h1']
  rw [hT]
  refine cn (j := 0) x1 h0 (iParts (hpl 0 h0) (k := 4) (.inr (.inr rfl)) (fun e w9 x9 => ?_) (fun p e w9 x9 => ?_))
  · rw [e]
    exact iJnR (x1.trans x9) fun J hJ => iCndF rfl hJ
  rw [e]
  have X9 := x1.trans x9
  refine iJnR X9 fun J hJ => iCndT rfl ?_
  refine am (j := 0) X9 h0 (f2 x9 (same x9 h0 ?_))
  refine iAndJ hJ (fun hJ => am (j := 1) X9 h1' (f2 x9 (same x9 h1' ?_))) (fun hF => hF)
  refine iAndJ hJ (fun hJ => cn (j := 1) X9 h1' (iEqT ?_)) (fun hF => hF)
  exact iAndJ hJ (fun hJ => iEqT hJ) (fun hF => hF)
end Go.Proofs.YteifjhpddhppcaaGreat

/- Contracts: whether the reference holds a deduction for good. Conditions: none. -/
namespace Go.Vc
theorem iBs05 {w : World} {e : TypeId} {z0 z1 z2 z3 z4 : Value} {K : Value → World → Prop} (h : ∀ v w', Ext w w' → OwK 5 w.heap.size e w' v 0 [] → K v w') : xBs e (Value.cells (.agg #[z0, z1, z2, z3, z4])) 5 0 [] w K := by
  refine ⟨#[], ?_, h _ _ (Ext.alloc w _) (OwK.ofBlk (k := 5) (n := 0) (Blk.new w #[] e) (Nat.le_refl _) rfl (by omega))⟩
  simp [Instr.fill]
/-- What the reference asks of a step ahead of its premises. -/
def preD (s : Ded) : Bool := plT s.con && ((decide (s.asm.length ≤ 12) && s.asm.all plT) && (decide (countD s.rule = (s.prem.length : Int)) && (decide (s.rule = 1) || decide (s.num = 0))))
theorem pre_split (P : List Ded) (k : Nat) : goodD P k = (preD (gt P k) && (inD k (gt P k) && ruleS (gt P k) (givenD P (gt P k)))) := by
  unfold goodD preD shapeD
  have hl : (givenD P (gt P k)).length = (gt P k).prem.length := List.length_map _
  by_cases hc : countD (gt P k).rule = ((gt P k).prem.length : Int)
  · rw [decide_eq_true hc, ruleS_eq (by rw [hl]; exact hc), Bool.true_and]
    cases plT (gt P k).con <;> cases decide ((gt P k).asm.length ≤ 12) <;> cases (gt P k).asm.all plT <;> rfl
  · rw [decide_eq_false hc, ruleB_no (by rw [hl]; exact hc)]
    simp
end Go.Vc
namespace Go.Proofs.YteifjhpddhppcaaGreat
open Go.Vc
theorem ok_spec_l25Correct {R : List DV} {k : Nat} (hk : k < R.length) (hR : R.length ≤ 1000000000) (hg : ∀ j, j < k → goodD (R.map DV.d) j = true) {v0 : Value} {w : World} (h : RdD w v0 R) (hpb : ∀ x ∈ R, x.d.prem.length ≤ 1000000000) :
    Ret Tryz.prog f_spec_l25Correct #[v0, .int .i64 (k : Int)] w (.bool (goodD (R.map DV.d) k)) := by
  have hmem : ∀ {j : Nat}, j < R.length → gt R j ∈ R := fun hj => by rw [gt_eq hj]; exact List.getElem_mem _
  have hpm := h.prem _ (hmem hk)
  have hlm : SlT w (gt R k).vl (gt R k).d.asm := h.asm _ (hmem hk)
  have hpb := hpb _ (hmem hk)
  rw [pre_split, gt_mapD hk]
  apply c_spec_l25Correct; unfold S_spec_l25Correct
  refine iAtD h.row rfl hk ?_
  generalize hx : gt R k = x at *
  refine iBs05 fun v14 w1 x1 ho1 => ?_
  refine iNew5 fun q1 w2 hq2 x2 hB2 => ?_
  refine iStAB hB2 rfl rfl (fun y hy => DV.cell (hpm.ext (x1.trans x2)) (hlm.ext (x1.trans x2)) y (by simpa using hy)) fun w3 hu3 hB3 => ?_
  have x13 : Ext w1 w3 := x2.upd hu3 (by omega)
  have X3 := x1.trans x13
  have hB3 : Blk t_impl_Deduction w3 q1 [.int .i64 x.d.rule, x.vp, x.vl, sv x.d.con, .int .i64 x.d.num] := by simpa [DV.cs] using hB3
  refine iFa (iLdB hB3 (i := 3) (v := sv x.d.con) rfl ?_)
  refine iCall ((ok_spec_l25Formula x.d.con w3).mono ?_)
  rintro r w4 ⟨x4, u, rfl, -⟩
  refine iE20 (iE21 ?_)
  have X4 := X3.trans x4
  have hB4 := hB3.ext x4
  refine iJnB (!preD x.d) w4 (fun J hJ => ?_) (fun w6 x6 => ?_)
  · unfold preD at hJ
    refine iNot (iCnd (fun h1 => ?_) (fun h1 => ?_))
    · have h1 : plT x.d.con = false := by simpa using h1
      rw [h1, Bool.false_and] at hJ
      exact fun w' x' => hJ w' x'
    have h1 : plT x.d.con = true := by simpa using h1
    rw [h1, Bool.true_and] at hJ
    refine iFa (iLdB hB4 (i := 2) (v := x.vl) rfl ?_)
    refine iRetQ (fun w' x' => ok_spec_l25List (Sl.ext hlm (X4.trans x'))) (iNot (iCnd (fun h2 => ?_) (fun h2 => ?_)))
    · have h2 : (decide (x.d.asm.length ≤ 12) && x.d.asm.all plT) = false := (Bool.not_eq_true' _).mp h2
      rw [h2, Bool.false_and] at hJ
      exact fun w' x' => hJ w' x'
    have h2 : (decide (x.d.asm.length ≤ 12) && x.d.asm.all plT) = true := (Bool.not_eq_false' _).mp h2
    rw [h2, Bool.true_and] at hJ
    refine iFa (iLdB hB4 (i := 0) (v := .int .i64 x.d.rule) rfl ?_)
    refine iRetQ (fun w' x' => ok_spec_l25Count x.d.rule w') ?_
    refine iFa (iLdB hB4 (i := 1) (v := x.vp) rfl (iLenI (hpm.ext X4) (iNe (iCndP (fun h3 => ?_) (fun h3 => ?_)))))
    · rw [decide_eq_false h3, Bool.false_and] at hJ
      exact fun w' x' => hJ w' x'
    rw [decide_eq_true (Classical.not_not.1 h3), Bool.true_and] at hJ
    refine iFa (iLdB hB4 (i := 0) (v := .int .i64 x.d.rule) rfl (iNe (iCndP (fun h4 => ?_) (fun h4 => ?_))))
    · rw [decide_eq_false h4, Bool.false_or] at hJ
      refine iFa (iLdB hB4 (i := 4) (v := .int .i64 x.d.num) rfl (iNe ?_))
      rw [show (decide (¬ x.d.num = 0)) = !decide (x.d.num = 0) by simp]
      exact fun w' x' => hJ w' x'
    · rw [decide_eq_true (Classical.not_not.1 h4), Bool.true_or] at hJ
      exact fun w' x' => hJ w' x'
  intro _
  simp only [gx]
  have X6 := X4.trans x6
  refine iCnd (fun hs => ?_) (fun hs => ?_)
  · have hs : preD x.d = false := by simpa using hs
    rw [hs, Bool.false_and]
    exact ⟨by first | trivial | rfl, X6⟩
  have hs : preD x.d = true := by simpa using hs
  rw [hs, Bool.true_and]
  unfold preD at hs
  simp only [Bool.and_eq_true, decide_eq_true_eq] at hs
  obtain ⟨hc1, ⟨hc2, hc3⟩, hc4, -⟩ := hs
  have hB6 := hB4.ext x6
  have ho6 := OwK.ext ho1 (x13.trans (x4.trans x6))
  have hne0 : ∀ c, v14.ownBlock = some c → c ≠ q1 := fun c hc => by
    have := (OwK.blk ho1 c hc).2
    omega
  have hp6 := hpm.ext X6
  have hpsl := SlI.len hp6
  have hcl : ∀ (L : List DV), (cellsD L).length = L.length * 5 := fun L => by
    induction L with
    | nil => rfl
    | cons y L ih => rw [cellsD, List.flatMap_cons, List.length_append, ← cellsD, ih, List.length_cons]; simp [DV.cs]; omega
  refine iLp (fun s : Value × Nat => [s.1, .int .i64 (s.2 : Int)]) (fun s w' => s.2 ≤ x.d.prem.length ∧ Ext w w' ∧ Blk t_impl_Deduction w' q1 [.int .i64 x.d.rule, x.vp, x.vl, sv x.d.con, .int .i64 x.d.num] ∧ (∀ c, s.1.ownBlock = some c → c ≠ q1) ∧ (∀ q ∈ x.d.prem.take s.2, 0 ≤ q ∧ q ≤ (k : Int) - 1) ∧ OwK 5 w.heap.size t_impl_Deduction w' s.1 s.2 (cellsD ((x.d.prem.take s.2).map fun q => gt R q.toNat))) (fun s => x.d.prem.length - s.2) (v14, 0) rfl ⟨Nat.zero_le _, X6, hB6, hne0, (fun q hq => by cases hq), ho6⟩ ?_
  rintro ⟨gv, i⟩ w13 Kn ⟨hi, X13, hB13, hne, hin, hrow⟩ hKn
  have hne : ∀ c, gv.ownBlock = some c → c ≠ q1 := hne
  have hi : i ≤ x.d.prem.length := hi
  have hin : ∀ q ∈ x.d.prem.take i, 0 ≤ q ∧ q ≤ (k : Int) - 1 := hin
  have hrow : OwK 5 w.heap.size t_impl_Deduction w13 gv i (cellsD ((x.d.prem.take i).map fun q => gt R q.toNat)) := hrow
  intro _
  simp only [gx]
  refine iFa (iLdB hB13 (i := 1) (v := x.vp) rfl (iLenI (hpm.ext X13) (iLt (iCndP (fun hc => ?_) (fun hc => ?_)))))
  · have hil : i < x.d.prem.length := by omega
    have etk : x.d.prem.take (i + 1) = x.d.prem.take i ++ [x.d.prem[i]] := List.take_succ_eq_append_getElem hil
    refine iFa (iLdB hB13 (i := 1) (v := x.vp) rfl ?_)
    refine iIaN (hpm.ext X13) hil fun p hp => ?_
    have eg : x.d.prem.getD i 0 = x.d.prem[i] := by simp [hil]
    rw [eg] at hp
    refine iLd hp (iSub (by omega) ?_)
    refine iRet (ok_spec_l01In _ _ _ w13) fun w14 x14 => iNot ?_
    refine iCnd (fun hb => ?_) (fun hb => ?_)
    · refine ⟨?_, X13.trans x14⟩
      have hb : ¬ (0 ≤ x.d.prem[i] ∧ x.d.prem[i] ≤ (k : Int) - 1) := of_decide_eq_false ((Bool.not_eq_true' _).mp hb)
      have : inD k x.d = false := List.all_eq_false.2 ⟨x.d.prem[i], List.getElem_mem hil, fun e => hb (of_decide_eq_true e)⟩
      rw [this, Bool.false_and]
    have hb : 0 ≤ x.d.prem[i] ∧ x.d.prem[i] ≤ (k : Int) - 1 := of_decide_eq_true ((Bool.not_eq_false' _).mp hb)
    have X14 := X13.trans x14
    refine iFa (iLdB (hB13.ext x14) (i := 1) (v := x.vp) rfl ?_)
    refine iIaN (hpm.ext X14) hil fun p hp => ?_
    rw [eg] at hp
    refine iLd hp ?_
    generalize x.d.prem[i] = q at *
    obtain ⟨m, rfl⟩ := Int.eq_ofNat_of_zero_le hb.1
    have hm : m < R.length := by omega
    refine iAtD (h.ext X14).row rfl hm ?_
    refine iBs15 fun bb w15 hbb x15 hB15 => ?_
    have hB15 : Blk t_impl_Deduction w15 bb (gt R m).cs := hB15
    have hrow15 := OwK.ext hrow (x14.trans x15)
    refine iAppK u_Simpl_Deduction i_Simpl_Deduction rfl (by decide) hrow15 (SlK.ofBlk (k := 5) (n := 1) hB15 rfl (by decide)) (fun y hy => DV.cell (h.prem _ (hmem hm)) (h.asm _ (hmem hm)) y hy) (by omega) (by omega) (X14.trans x15).size fun v' w16 hrow16 hg16 hat16 => ?_
    refine iAdd (by omega) ?_
    have X15 := X14.trans x15
    have hB15' := hB13.ext (x14.trans x15)
    have hq1 := hB13.lt
    have X16 : Ext w w16 := X15.grown hg16 fun c hc => (OwK.blk hrow15 c hc).1
    have hB16 := hB15'.grown hg16 (fun e => hne _ e rfl)
    refine hKn (v', i + 1) _ ⟨hil, X16, hB16, fun c hc => ?_, fun q hq => ?_, ?_⟩ (by show x.d.prem.length - (i + 1) < x.d.prem.length - i; omega)
    · rcases hat16 with e | ⟨c', e, hge⟩
      · exact hne c (e ▸ hc)
      · have hc : v'.ownBlock = some c := hc
        rw [e] at hc
        cases hc
        have := (x14.trans x15).size
        omega
    · rw [etk] at hq
      rcases List.mem_append.1 hq with hq | hq
      · exact hin q hq
      · rw [List.mem_singleton.1 hq]; exact hb
    · show OwK _ _ _ _ v' (i + 1) (cellsD ((x.d.prem.take (i + 1)).map fun q => gt R q.toNat))
      rw [etk, List.map_append, cellsD_app]
      simpa [cellsD] using hrow16
  · have hie : i = x.d.prem.length := by omega
    subst hie
    rw [List.take_length] at hin hrow
    refine iLdA hB13 rfl ?_
    have hinD : inD k x.d = true := List.all_eq_true.2 fun q hq => decide_eq_true (hin q hq)
    have hG : givenD (R.map DV.d) x.d = (x.d.prem.map fun q => gt R q.toNat).map fun y => jdg y.d := by
      unfold givenD
      rw [List.map_map]
      refine List.map_congr_left fun q hq => ?_
      have := hin q hq
      show jdg (gt (R.map DV.d) q.toNat) = jdg (gt R q.toNat).d
      rw [gt_mapD (by omega)]
    rw [hinD, Bool.true_and, hG]
    have hmG : ∀ y ∈ (x.d.prem.map fun q => gt R q.toNat), ∃ j, j < k ∧ y = gt R j := fun y hy => by
      obtain ⟨q, hq, rfl⟩ := List.mem_map.1 hy
      have := hin q hq
      exact ⟨q.toNat, by omega, rfl⟩
    have hGl : (x.d.prem.map fun q => gt R q.toNat).length = x.d.prem.length := List.length_map _
    refine iRet (ok_spec_l25Rule (x := x) (G := x.d.prem.map fun q => gt R q.toNat) (Sl.ext hlm X13) ⟨by rw [hGl]; exact hrow.sl, fun y hy => ?_, fun y hy => ?_⟩ hc1 (fun y hy => ?_) (by rw [hGl]; exact hc4) hc2) fun w17 x17 => ⟨by first | trivial | rfl, X13.trans x17⟩
    · obtain ⟨j, hj, rfl⟩ := hmG y hy
      exact (h.prem _ (hmem (by omega))).ext X13
    · obtain ⟨j, hj, rfl⟩ := hmG y hy
      exact (h.asm _ (hmem (by omega))).ext X13
    · obtain ⟨j, hj, rfl⟩ := hmG y hy
      have := (goodD_iff (hg j hj)).1
      rw [gt_mapD (by omega)] at this
      exact (shapeD_at this).2.2
end Go.Proofs.YteifjhpddhppcaaGreat
