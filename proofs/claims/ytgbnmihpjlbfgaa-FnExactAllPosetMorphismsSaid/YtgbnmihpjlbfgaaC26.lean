/- Contracts: all p-morphisms between posets in the reference (l01Less, l21All, AllPosetMorphisms). Conditions: none. -/
import Derived.Test.YtgbnmihpjlbfgaaC25
namespace Go.Vc
/-- Rows with what they hold: the order does not matter. -/
def OwP (lo : Nat) (e : TypeId) (w : World) (P : List (Value × List Int)) : Prop := (∀ p ∈ P, Ow lo e w p.1 (ints p.2)) ∧ P.Pairwise fun a b => ∀ c, a.1.ownBlock = some c → b.1.ownBlock ≠ some c
theorem OwP.perm {lo : Nat} {e : TypeId} {w : World} {P Q : List (Value × List Int)} (h : OwP lo e w P) (hp : P.Perm Q) : OwP lo e w Q :=
  ⟨fun p hq => h.1 p (hp.mem_iff.2 hq), (hp.pairwise_iff (fun {x y} hxy c hc hc' => hxy c hc' hc)).1 h.2⟩
theorem OwP.ext {lo : Nat} {e : TypeId} {w w' : World} {P : List (Value × List Int)} (h : OwP lo e w P) (he : Ext w w') : OwP lo e w' P := ⟨fun p hp => (h.1 p hp).ext he, h.2⟩
theorem OwP.upd {lo : Nat} {e : TypeId} {w w' : World} {b : Nat} {P : List (Value × List Int)} (h : OwP lo e w P) (hu : Upd b w w') (hn : ∀ p ∈ P, p.1.ownBlock ≠ some b) : OwP lo e w' P := ⟨fun p hp => (h.1 p hp).upd hu (hn p hp), h.2⟩
theorem OwP.of {lo : Nat} {e : TypeId} {w : World} {vs : List Value} {ls : List (List Int)} (h : OwL lo e w vs (ls.map ints)) : OwP lo e w (vs.zip ls) ∧ (vs.zip ls).map Prod.fst = vs ∧ (vs.zip ls).map Prod.snd = ls := by
  have hl : vs.length = ls.length := by simpa using h.1
  refine ⟨⟨fun p hp => ?_, ?_⟩, List.map_fst_zip (by omega), List.map_snd_zip (by omega)⟩
  · obtain ⟨i, hi, rfl⟩ := List.getElem_of_mem hp
    rw [List.length_zip] at hi
    rw [List.getElem_zip]
    exact h.2.1 i _ _ (List.getElem?_eq_getElem (by omega)) (by rw [List.getElem?_map, List.getElem?_eq_getElem (by omega)]; rfl)
  · have := h.2.2
    rw [← List.map_fst_zip (l₁ := vs) (l₂ := ls) (by omega), List.pairwise_map] at this
    exact this
theorem OwP.to {lo : Nat} {e : TypeId} {w : World} {P : List (Value × List Int)} (h : OwP lo e w P) : OwL lo e w (P.map Prod.fst) ((P.map Prod.snd).map ints) := by
  refine ⟨by simp, fun i v l hv hl => ?_, ?_⟩
  · rw [List.getElem?_map] at hv
    rw [List.getElem?_map, List.getElem?_map] at hl
    cases hp : P[i]? with
    | none => rw [hp] at hv; cases hv
    | some p =>
      rw [hp] at hv hl
      simp at hv hl
      subst hv; subst hl
      exact h.1 p (List.mem_of_getElem? hp)
  · rw [List.pairwise_map]; exact h.2
theorem lessB_upto : ∀ (a b : List Int) (k : Nat), (∀ i, i < k → a[i]? = b[i]?) → k ≤ a.length → k ≤ b.length → lessB a b = lessB (a.drop k) (b.drop k)
  | _, _, 0, _, _, _ => rfl
  | [], _, _ + 1, _, h, _ => by simp at h
  | _ :: _, [], _ + 1, _, _, h => by simp at h
  | x :: a, y :: b, k + 1, h, h1, h2 => by
    have e : x = y := by have := h 0 (by omega); simpa using this
    subst e
    simp only [lessB, if_true, List.drop_succ_cons]
    exact lessB_upto a b k (fun i hi => by have := h (i + 1) (by omega); simpa using this) (by simpa using h1) (by simpa using h2)
end Go.Vc
namespace Go.Proofs.Ytgbnmihpjlbfgaa
open Go.Vc
theorem ok_spec_l01Less {va vb : Value} {w : World} {a b : List Int} (ha : SlI w va a) (hb : SlI w vb b) : Ret Try.prog f_spec_l01Less #[va, vb] w (.bool (lessB a b)) := by
  apply c_spec_l01Less; unfold S_spec_l01Less
  have hal := ha.len
  have hbl := hb.len
  refine iLp (fun k : Nat => [.int .i64 (k : Int)]) (fun k w' => k ≤ a.length ∧ k ≤ b.length ∧ Ext w w' ∧ ∀ i, i < k → a[i]? = b[i]?) (fun k => a.length - k) 0 rfl ⟨Nat.zero_le _, Nat.zero_le _, Ext.refl _, fun i hi => by omega⟩ ?_
  rintro k w2 Kn ⟨hka, hkb, h2, heq⟩ hKn
  have ha2 := ha.ext h2
  have hb2 := hb.ext h2
  have hup := lessB_upto a b k heq hka hkb
  (repeat first
    | (with_reducible first | refine iFa ?_ | refine iNil ?_ | refine iNilF ?_ | refine iLd (by assumption) ?_ | refine iLenN (by assumption) ?_ | refine iLenI (by assumption) ?_ | refine iLenS (by assumption) ?_ | refine iLenL ?_ | refine iEq ?_ | refine iNe ?_ | refine iLt ?_ | refine iLe ?_ | refine iNot ?_ | refine iPick ?_ | refine iE20 ?_ | refine iE21 ?_)
    | ((with_reducible show xLd _ _ _); refine iLdB (by assumption) (by first | rfl | simp) ?_) | ((with_reducible refine iLdA (by assumption) ?_ ?_); rfl)
    | ((with_reducible refine iIaNN (by assumption) ?_ (fun pa_ hpa_ => ?_)); omega) | ((with_reducible refine iIaN (by assumption) ?_ (fun pa_ hpa_ => ?_)); omega)
    | ((with_reducible refine iIaI (by assumption) ?_ ?_ (fun pa_ hpa_ => ?_)); omega; omega) | ((with_reducible refine iAdd ?_ ?_); omega) | ((with_reducible refine iSub ?_ ?_); omega)
    | ((with_reducible show xEx _ _ _); refine iEx (by rfl) ?_) | ((with_reducible refine fun (_ : Nat → Value) => ?_); (try simp only [gx, List.getD_cons_zero, List.getD_cons_succ])))
  refine iJnB (decide (k < a.length) && decide (k < b.length)) w2 (fun J hJ => ?_) (fun w4 h4 => ?_)
  · (repeat first
    | (with_reducible first | refine iFa ?_ | refine iNil ?_ | refine iNilF ?_ | refine iLd (by assumption) ?_ | refine iLenN (by assumption) ?_ | refine iLenI (by assumption) ?_ | refine iLenS (by assumption) ?_ | refine iLenL ?_ | refine iEq ?_ | refine iNe ?_ | refine iLt ?_ | refine iLe ?_ | refine iNot ?_ | refine iPick ?_ | refine iE20 ?_ | refine iE21 ?_ | refine iJn ?_)
    | ((with_reducible show xLd _ _ _); refine iLdB (by assumption) (by first | rfl | simp) ?_) | ((with_reducible refine iLdA (by assumption) ?_ ?_); rfl)
    | ((with_reducible refine iIaNN (by assumption) ?_ (fun pa_ hpa_ => ?_)); omega) | ((with_reducible refine iIaN (by assumption) ?_ (fun pa_ hpa_ => ?_)); omega)
    | ((with_reducible refine iIaI (by assumption) ?_ ?_ (fun pa_ hpa_ => ?_)); omega; omega) | ((with_reducible refine iAdd ?_ ?_); omega) | ((with_reducible refine iSub ?_ ?_); omega)
    | ((with_reducible show xEx _ _ _); refine iEx (by rfl) ?_) | ((with_reducible refine fun (_ : Nat → Value) => ?_); (try simp only [gx, List.getD_cons_zero, List.getD_cons_succ])))
    refine iCndP (fun h5 => ?_) (fun h5 => ?_)
    · (repeat first
    | (with_reducible first | refine iFa ?_ | refine iNil ?_ | refine iNilF ?_ | refine iLd (by assumption) ?_ | refine iLenN (by assumption) ?_ | refine iLenI (by assumption) ?_ | refine iLenS (by assumption) ?_ | refine iLenL ?_ | refine iEq ?_ | refine iNe ?_ | refine iLt ?_ | refine iLe ?_ | refine iNot ?_ | refine iPick ?_ | refine iE20 ?_ | refine iE21 ?_ | refine iJn ?_)
    | ((with_reducible show xLd _ _ _); refine iLdB (by assumption) (by first | rfl | simp) ?_) | ((with_reducible refine iLdA (by assumption) ?_ ?_); rfl)
    | ((with_reducible refine iIaNN (by assumption) ?_ (fun pa_ hpa_ => ?_)); omega) | ((with_reducible refine iIaN (by assumption) ?_ (fun pa_ hpa_ => ?_)); omega)
    | ((with_reducible refine iIaI (by assumption) ?_ ?_ (fun pa_ hpa_ => ?_)); omega; omega) | ((with_reducible refine iAdd ?_ ?_); omega) | ((with_reducible refine iSub ?_ ?_); omega)
    | ((with_reducible show xEx _ _ _); refine iEx (by rfl) ?_) | ((with_reducible refine fun (_ : Nat → Value) => ?_); (try simp only [gx, List.getD_cons_zero, List.getD_cons_succ])))
      have := hJ w2 (Ext.refl _)
      rw [decide_eq_true (show k < a.length by omega), Bool.true_and] at this
      have e : decide ((k : Int) < (b.length : Nat)) = decide (k < b.length) := decide_eq_decide.2 (by omega)
      rw [e]; exact this
    · have := hJ w2 (Ext.refl _)
      rw [decide_eq_false (show ¬ k < a.length by omega), Bool.false_and] at this
      exact this
  · have ha4 := ha2.ext h4
    have hb4 := hb2.ext h4
    (repeat first
    | (with_reducible first | refine iFa ?_ | refine iNil ?_ | refine iNilF ?_ | refine iLd (by assumption) ?_ | refine iLenN (by assumption) ?_ | refine iLenI (by assumption) ?_ | refine iLenS (by assumption) ?_ | refine iLenL ?_ | refine iEq ?_ | refine iNe ?_ | refine iLt ?_ | refine iLe ?_ | refine iNot ?_ | refine iPick ?_ | refine iE20 ?_ | refine iE21 ?_ | refine iJn ?_)
    | ((with_reducible show xLd _ _ _); refine iLdB (by assumption) (by first | rfl | simp) ?_) | ((with_reducible refine iLdA (by assumption) ?_ ?_); rfl)
    | ((with_reducible refine iIaNN (by assumption) ?_ (fun pa_ hpa_ => ?_)); omega) | ((with_reducible refine iIaN (by assumption) ?_ (fun pa_ hpa_ => ?_)); omega)
    | ((with_reducible refine iIaI (by assumption) ?_ ?_ (fun pa_ hpa_ => ?_)); omega; omega) | ((with_reducible refine iAdd ?_ ?_); omega) | ((with_reducible refine iSub ?_ ?_); omega)
    | ((with_reducible show xEx _ _ _); refine iEx (by rfl) ?_) | ((with_reducible refine fun (_ : Nat → Value) => ?_); (try simp only [gx, List.getD_cons_zero, List.getD_cons_succ])))
    refine iCnd (fun h5 => ?_) (fun h5 => ?_)
    · rw [Bool.and_eq_true, decide_eq_true_eq, decide_eq_true_eq] at h5
      have h5a := h5.1
      have h5b := h5.2
      have ea : a.getD k 0 = a[k] := by simp [List.getD_eq_getElem?_getD, h5a]
      have eb : b.getD k 0 = b[k] := by simp [List.getD_eq_getElem?_getD, h5b]
      rw [List.drop_eq_getElem_cons h5a, List.drop_eq_getElem_cons h5b] at hup
      simp only [lessB] at hup
      (repeat first
    | (with_reducible first | refine iFa ?_ | refine iNil ?_ | refine iNilF ?_ | refine iLd (by assumption) ?_ | refine iLenN (by assumption) ?_ | refine iLenI (by assumption) ?_ | refine iLenS (by assumption) ?_ | refine iLenL ?_ | refine iEq ?_ | refine iNe ?_ | refine iLt ?_ | refine iLe ?_ | refine iNot ?_ | refine iPick ?_ | refine iE20 ?_ | refine iE21 ?_ | refine iJn ?_)
    | ((with_reducible show xLd _ _ _); refine iLdB (by assumption) (by first | rfl | simp) ?_) | ((with_reducible refine iLdA (by assumption) ?_ ?_); rfl)
    | ((with_reducible refine iIaNN (by assumption) ?_ (fun pa_ hpa_ => ?_)); omega) | ((with_reducible refine iIaN (by assumption) ?_ (fun pa_ hpa_ => ?_)); omega)
    | ((with_reducible refine iIaI (by assumption) ?_ ?_ (fun pa_ hpa_ => ?_)); omega; omega) | ((with_reducible refine iAdd ?_ ?_); omega) | ((with_reducible refine iSub ?_ ?_); omega)
    | ((with_reducible show xEx _ _ _); refine iEx (by rfl) ?_) | ((with_reducible refine fun (_ : Nat → Value) => ?_); (try simp only [gx, List.getD_cons_zero, List.getD_cons_succ])))
      rw [ea, eb]
      intro w5 h6
      have ha5 := ha4.ext h6
      have hb5 := hb4.ext h6
      refine iCndP (fun h7 => ?_) (fun h7 => ?_)
      · rw [if_neg h7] at hup
        (repeat first
    | (with_reducible first | refine iFa ?_ | refine iNil ?_ | refine iNilF ?_ | refine iLd (by assumption) ?_ | refine iLenN (by assumption) ?_ | refine iLenI (by assumption) ?_ | refine iLenS (by assumption) ?_ | refine iLenL ?_ | refine iEq ?_ | refine iNe ?_ | refine iLt ?_ | refine iLe ?_ | refine iNot ?_ | refine iPick ?_ | refine iE20 ?_ | refine iE21 ?_ | refine iJn ?_)
    | ((with_reducible show xLd _ _ _); refine iLdB (by assumption) (by first | rfl | simp) ?_) | ((with_reducible refine iLdA (by assumption) ?_ ?_); rfl)
    | ((with_reducible refine iIaNN (by assumption) ?_ (fun pa_ hpa_ => ?_)); omega) | ((with_reducible refine iIaN (by assumption) ?_ (fun pa_ hpa_ => ?_)); omega)
    | ((with_reducible refine iIaI (by assumption) ?_ ?_ (fun pa_ hpa_ => ?_)); omega; omega) | ((with_reducible refine iAdd ?_ ?_); omega) | ((with_reducible refine iSub ?_ ?_); omega)
    | ((with_reducible show xEx _ _ _); refine iEx (by rfl) ?_) | ((with_reducible refine fun (_ : Nat → Value) => ?_); (try simp only [gx, List.getD_cons_zero, List.getD_cons_succ])))
        rw [ea, eb]
        intro w6 h8
        exact ⟨by rw [hup], h2.trans (h4.trans (h6.trans h8))⟩
      · (repeat first
    | (with_reducible first | refine iFa ?_ | refine iNil ?_ | refine iNilF ?_ | refine iLd (by assumption) ?_ | refine iLenN (by assumption) ?_ | refine iLenI (by assumption) ?_ | refine iLenS (by assumption) ?_ | refine iLenL ?_ | refine iEq ?_ | refine iNe ?_ | refine iLt ?_ | refine iLe ?_ | refine iNot ?_ | refine iPick ?_ | refine iE20 ?_ | refine iE21 ?_ | refine iJn ?_)
    | ((with_reducible show xLd _ _ _); refine iLdB (by assumption) (by first | rfl | simp) ?_) | ((with_reducible refine iLdA (by assumption) ?_ ?_); rfl)
    | ((with_reducible refine iIaNN (by assumption) ?_ (fun pa_ hpa_ => ?_)); omega) | ((with_reducible refine iIaN (by assumption) ?_ (fun pa_ hpa_ => ?_)); omega)
    | ((with_reducible refine iIaI (by assumption) ?_ ?_ (fun pa_ hpa_ => ?_)); omega; omega) | ((with_reducible refine iAdd ?_ ?_); omega) | ((with_reducible refine iSub ?_ ?_); omega)
    | ((with_reducible show xEx _ _ _); refine iEx (by rfl) ?_) | ((with_reducible refine fun (_ : Nat → Value) => ?_); (try simp only [gx, List.getD_cons_zero, List.getD_cons_succ])))
        refine hKn (k + 1) _ ⟨by omega, by omega, h2.trans (h4.trans h6), fun i hi => ?_⟩ (by omega)
        by_cases hik : i = k
        · subst hik
          rw [List.getElem?_eq_getElem h5a, List.getElem?_eq_getElem h5b, Classical.not_not.1 h7]
        · exact heq i (by omega)
    · rw [Bool.and_eq_false_iff, decide_eq_false_iff_not, decide_eq_false_iff_not] at h5
      (repeat first
    | (with_reducible first | refine iFa ?_ | refine iNil ?_ | refine iNilF ?_ | refine iLd (by assumption) ?_ | refine iLenN (by assumption) ?_ | refine iLenI (by assumption) ?_ | refine iLenS (by assumption) ?_ | refine iLenL ?_ | refine iEq ?_ | refine iNe ?_ | refine iLt ?_ | refine iLe ?_ | refine iNot ?_ | refine iPick ?_ | refine iE20 ?_ | refine iE21 ?_ | refine iJn ?_)
    | ((with_reducible show xLd _ _ _); refine iLdB (by assumption) (by first | rfl | simp) ?_) | ((with_reducible refine iLdA (by assumption) ?_ ?_); rfl)
    | ((with_reducible refine iIaNN (by assumption) ?_ (fun pa_ hpa_ => ?_)); omega) | ((with_reducible refine iIaN (by assumption) ?_ (fun pa_ hpa_ => ?_)); omega)
    | ((with_reducible refine iIaI (by assumption) ?_ ?_ (fun pa_ hpa_ => ?_)); omega; omega) | ((with_reducible refine iAdd ?_ ?_); omega) | ((with_reducible refine iSub ?_ ?_); omega)
    | ((with_reducible show xEx _ _ _); refine iEx (by rfl) ?_) | ((with_reducible refine fun (_ : Nat → Value) => ?_); (try simp only [gx, List.getD_cons_zero, List.getD_cons_succ])))
      refine ⟨?_, h2.trans h4⟩
      rw [hup]
      rcases Nat.lt_or_ge k a.length with h6 | h6
      · obtain rfl : k = b.length := by omega
        rw [List.drop_eq_nil_of_le (Nat.le_refl _), List.drop_eq_getElem_cons h6, decide_eq_false (by omega)]; rfl
      · obtain rfl : k = a.length := by omega
        rw [List.drop_eq_nil_of_le (Nat.le_refl _)]
        rcases Nat.lt_or_ge a.length b.length with h7 | h7
        · rw [List.drop_eq_getElem_cons h7, decide_eq_true (by omega)]; rfl
        · rw [List.drop_eq_nil_of_le h7, decide_eq_false (by omega)]; rfl
theorem ok_spec_l21All {f g : Fr} (hp : Po f) (hg : g.ok) {w : World} {fa ga : Value} (hfa : SlN w fa f.a) (hga : SlN w ga g.a) {most : Nat} (hmost : most ≤ 1000000) :
    Cal Try.prog f_spec_l21All #[.agg #[.int .i64 (f.n : Int), fa], .agg #[.int .i64 (g.n : Int), ga], .int .i64 (most : Int)] w fun v w' => Ext w w' ∧ ∃ L : List (List Int),
      L.Perm (findP f g (List.replicate f.n (-1)) false most) ∧ (L.Pairwise fun a b => lessB b a = false) ∧ RdLL w.heap.size w' v L := by
  apply c_spec_l21All; unfold S_spec_l21All
  have hf8 := hp.ok.1
  refine iNew fun b1 w1 hb1 h1 hB1 => ?_
  refine iNew fun b2 w2 hb2 h2 hB2 => ?_
  have hB1 := hB1.ext h2
  have hX := h1.trans h2
  (repeat first
    | (with_reducible first | refine iFa ?_ | refine iNil ?_ | refine iNilF ?_ | refine iLd (by assumption) ?_ | refine iLenN (by assumption) ?_ | refine iLenI (by assumption) ?_ | refine iLenS (by assumption) ?_ | refine iLenL ?_ | refine iEq ?_ | refine iNe ?_ | refine iLt ?_ | refine iLe ?_ | refine iNot ?_ | refine iPick ?_ | refine iE20 ?_ | refine iE21 ?_ | refine iJn ?_)
    | ((with_reducible show xLd _ _ _); refine iLdB (by assumption) (by first | rfl | simp) ?_) | ((with_reducible refine iLdA (by assumption) ?_ ?_); rfl)
    | ((with_reducible refine iIaNN (by assumption) ?_ (fun pa_ hpa_ => ?_)); omega) | ((with_reducible refine iIaN (by assumption) ?_ (fun pa_ hpa_ => ?_)); omega)
    | ((with_reducible refine iIaI (by assumption) ?_ ?_ (fun pa_ hpa_ => ?_)); omega; omega) | ((with_reducible refine iAdd ?_ ?_); omega) | ((with_reducible refine iSub ?_ ?_); omega)
    | ((with_reducible show xEx _ _ _); refine iEx (by rfl) ?_) | ((with_reducible refine fun (_ : Nat → Value) => ?_); (try simp only [gx, List.getD_cons_zero, List.getD_cons_succ])))
  intro w3 h
  have hX := hX.trans h
  have hlo := hX.size
  refine iCall ((ok_spec_l21Free f.n hf8 w3).mono ?_)
  rintro vf w4 ⟨h, ho⟩
  (try refine ⟨h, ?_⟩)
  have hX := hX.trans h
  intro w5 h
  have ho := ho.ext h
  have hX := hX.trans h
  have hlo5 := hX.size
  have hrl : (List.replicate f.n (-1 : Int)).length = f.n := List.length_replicate
  refine iCall ((ok_spec_l21Find (onto := false) (most := most) hp hg hrl (hfa.ext hX) (hga.ext hX) ho.sl hmost).mono ?_)
  rintro v w6 ⟨h, vs, hov, hol⟩
  (try refine ⟨h, ?_⟩)
  have hov := hov.mono hlo5
  have hol := hol.mono hlo5
  have hX := hX.trans h
  intro w7 h
  have hov := hov.ext h
  have hol := hol.ext h
  have hX := hX.trans h
  have hlo7 := hX.size
  generalize hF : findP f g (List.replicate f.n (-1)) false most = FL at *
  obtain ⟨hP, e1, e2⟩ := OwP.of hol
  generalize vs.zip FL = P at *
  subst e1
  have hlen : P.length ≤ 1000000 := by
    have : FL.length ≤ 1000000 := by
      rw [← hF]; unfold findP; rw [List.length_take]; omega
    rw [← e2, List.length_map] at this; exact this
  refine iLp (fun i : Nat => [.int .i64 (i : Int)]) (fun i w' => 1 ≤ i ∧ Ext w w' ∧ ∃ Q : List (Value × List Int), Q.Perm P ∧ Ow w.heap.size t_Si64 w' v (Q.map Prod.fst) ∧ OwP w.heap.size t_i64 w' Q ∧ (Q.take i).Pairwise fun a b => lessB b.2 a.2 = false) (fun i => P.length + 1 - i) 1 rfl ⟨Nat.le_refl _, hX, P, List.Perm.refl _, hov, hP, by
    cases P with
    | nil => simp
    | cons p P => simp⟩ ?_
  rintro i w9 Kn ⟨hi1, hX9, Q, hQ, hov9, hP9, hs9⟩ hKn
  have hQl : Q.length = P.length := hQ.length_eq
  have hsl9 := hov9.sl
  have hml : (Q.map Prod.fst).length = Q.length := List.length_map _
  (repeat first
    | (with_reducible first | refine iFa ?_ | refine iNil ?_ | refine iNilF ?_ | refine iLd (by assumption) ?_ | refine iLenN (by assumption) ?_ | refine iLenI (by assumption) ?_ | refine iLenS (by assumption) ?_ | refine iLenL ?_ | refine iEq ?_ | refine iNe ?_ | refine iLt ?_ | refine iLe ?_ | refine iNot ?_ | refine iPick ?_ | refine iE20 ?_ | refine iE21 ?_ | refine iJn ?_)
    | ((with_reducible show xLd _ _ _); refine iLdB (by assumption) (by first | rfl | simp) ?_) | ((with_reducible refine iLdA (by assumption) ?_ ?_); rfl)
    | ((with_reducible refine iIaNN (by assumption) ?_ (fun pa_ hpa_ => ?_)); omega) | ((with_reducible refine iIaN (by assumption) ?_ (fun pa_ hpa_ => ?_)); omega)
    | ((with_reducible refine iIaI (by assumption) ?_ ?_ (fun pa_ hpa_ => ?_)); omega; omega) | ((with_reducible refine iAdd ?_ ?_); omega) | ((with_reducible refine iSub ?_ ?_); omega)
    | ((with_reducible show xEx _ _ _); refine iEx (by rfl) ?_) | ((with_reducible refine fun (_ : Nat → Value) => ?_); (try simp only [gx, List.getD_cons_zero, List.getD_cons_succ])))
  refine iCndP (fun h10 => ?_) (fun h10 => ?_)
  · have hiQ : i < Q.length := by omega
    have hsplit : Q = Q.take i ++ Q[i] :: Q.drop (i + 1) := by
      rw [← List.drop_eq_getElem_cons hiQ, List.take_append_drop]
    refine iLp (fun s : Nat => [.int .i64 (s : Int)]) (fun k w' => Ext w w' ∧ ∃ (A C D : List (Value × List Int)) (x : Value × List Int), A.length = k ∧ C.length + k = i ∧ (A ++ x :: (C ++ D)).Perm P ∧ Ow w.heap.size t_Si64 w' v ((A ++ x :: (C ++ D)).map Prod.fst) ∧ OwP w.heap.size t_i64 w' (A ++ x :: (C ++ D)) ∧
        ((A ++ C).Pairwise fun a b => lessB b.2 a.2 = false) ∧ ∀ c ∈ C, lessB c.2 x.2 = false) (fun k => k) i rfl ⟨hX9, Q.take i, [], Q.drop (i + 1), Q[i], by rw [List.length_take]; omega, by simp, by rw [List.nil_append, ← hsplit]; exact hQ, by rw [List.nil_append, ← hsplit]; exact hov9, by rw [List.nil_append, ← hsplit]; exact hP9, by rw [List.append_nil]; exact hs9, fun c hc => by cases hc⟩ ?_
    rintro k w11 Kn11 ⟨hX11, A, C, D, x, hA, hC, hperm, hov11, hP11, hs11, hx11⟩ hKn11
    have htl : (A ++ x :: (C ++ D)).length = P.length := hperm.length_eq
    simp only [List.length_append, List.length_cons] at htl
    have hgetk : ((A ++ x :: (C ++ D)).map Prod.fst)[k]? = some x.1 := by
      rw [List.getElem?_map, List.getElem?_append_right (by omega), hA, Nat.sub_self]; rfl
    have hsl11 := hov11.sl
    have hml11 : ((A ++ x :: (C ++ D)).map Prod.fst).length = P.length := by rw [List.length_map]; exact hperm.length_eq
    (repeat first
    | (with_reducible first | refine iFa ?_ | refine iNil ?_ | refine iNilF ?_ | refine iLd (by assumption) ?_ | refine iLenN (by assumption) ?_ | refine iLenI (by assumption) ?_ | refine iLenS (by assumption) ?_ | refine iLenL ?_ | refine iEq ?_ | refine iNe ?_ | refine iLt ?_ | refine iLe ?_ | refine iNot ?_ | refine iPick ?_ | refine iE20 ?_ | refine iE21 ?_)
    | ((with_reducible show xLd _ _ _); refine iLdB (by assumption) (by first | rfl | simp) ?_) | ((with_reducible refine iLdA (by assumption) ?_ ?_); rfl)
    | ((with_reducible refine iIaNN (by assumption) ?_ (fun pa_ hpa_ => ?_)); omega) | ((with_reducible refine iIaN (by assumption) ?_ (fun pa_ hpa_ => ?_)); omega)
    | ((with_reducible refine iIaI (by assumption) ?_ ?_ (fun pa_ hpa_ => ?_)); omega; omega) | ((with_reducible refine iAdd ?_ ?_); omega) | ((with_reducible refine iSub ?_ ?_); omega)
    | ((with_reducible show xEx _ _ _); refine iEx (by rfl) ?_) | ((with_reducible refine fun (_ : Nat → Value) => ?_); (try simp only [gx, List.getD_cons_zero, List.getD_cons_succ])))
    refine iJnB (decide (0 < k) && lessB x.2 ((A.getLast?.map Prod.snd).getD x.2)) w11 (fun J hJ => ?_) (fun w13 h13 => ?_)
    · (repeat first
    | (with_reducible first | refine iFa ?_ | refine iNil ?_ | refine iNilF ?_ | refine iLd (by assumption) ?_ | refine iLenN (by assumption) ?_ | refine iLenI (by assumption) ?_ | refine iLenS (by assumption) ?_ | refine iLenL ?_ | refine iEq ?_ | refine iNe ?_ | refine iLt ?_ | refine iLe ?_ | refine iNot ?_ | refine iPick ?_ | refine iE20 ?_ | refine iE21 ?_ | refine iJn ?_)
    | ((with_reducible show xLd _ _ _); refine iLdB (by assumption) (by first | rfl | simp) ?_) | ((with_reducible refine iLdA (by assumption) ?_ ?_); rfl)
    | ((with_reducible refine iIaNN (by assumption) ?_ (fun pa_ hpa_ => ?_)); omega) | ((with_reducible refine iIaN (by assumption) ?_ (fun pa_ hpa_ => ?_)); omega)
    | ((with_reducible refine iIaI (by assumption) ?_ ?_ (fun pa_ hpa_ => ?_)); omega; omega) | ((with_reducible refine iAdd ?_ ?_); omega) | ((with_reducible refine iSub ?_ ?_); omega)
    | ((with_reducible show xEx _ _ _); refine iEx (by rfl) ?_) | ((with_reducible refine fun (_ : Nat → Value) => ?_); (try simp only [gx, List.getD_cons_zero, List.getD_cons_succ])))
      refine iCndP (fun h12 => ?_) (fun h12 => ?_)
      · have hk0 : 0 < k := by omega
        obtain ⟨A', y, rfl⟩ : ∃ A' y, A = A' ++ [y] := ⟨A.dropLast, A.getLast (by intro h; rw [h] at hA; simp at hA; omega), (List.dropLast_concat_getLast _).symm⟩
        have hA' : A'.length = k - 1 := by rw [List.length_append, List.length_singleton] at hA; omega
        have hgety : (((A' ++ [y]) ++ x :: (C ++ D)).map Prod.fst)[k - 1]? = some y.1 := by
          rw [List.append_assoc, List.getElem?_map, List.getElem?_append_right (by omega), hA', Nat.sub_self]; rfl
        refine iIa hsl11 (by omega) (by omega) fun p hpc => ?_
        rw [Int.toNat_natCast, hgetk] at hpc
        refine iLd hpc ?_
        (repeat first
    | (with_reducible first | refine iFa ?_ | refine iNil ?_ | refine iNilF ?_ | refine iLd (by assumption) ?_ | refine iLenN (by assumption) ?_ | refine iLenI (by assumption) ?_ | refine iLenS (by assumption) ?_ | refine iLenL ?_ | refine iEq ?_ | refine iNe ?_ | refine iLt ?_ | refine iLe ?_ | refine iNot ?_ | refine iPick ?_ | refine iE20 ?_ | refine iE21 ?_ | refine iJn ?_)
    | ((with_reducible show xLd _ _ _); refine iLdB (by assumption) (by first | rfl | simp) ?_) | ((with_reducible refine iLdA (by assumption) ?_ ?_); rfl)
    | ((with_reducible refine iIaNN (by assumption) ?_ (fun pa_ hpa_ => ?_)); omega) | ((with_reducible refine iIaN (by assumption) ?_ (fun pa_ hpa_ => ?_)); omega)
    | ((with_reducible refine iIaI (by assumption) ?_ ?_ (fun pa_ hpa_ => ?_)); omega; omega) | ((with_reducible refine iAdd ?_ ?_); omega) | ((with_reducible refine iSub ?_ ?_); omega)
    | ((with_reducible show xEx _ _ _); refine iEx (by rfl) ?_) | ((with_reducible refine fun (_ : Nat → Value) => ?_); (try simp only [gx, List.getD_cons_zero, List.getD_cons_succ])))
        refine iIa hsl11 (by omega) (by omega) fun p' hpc' => ?_
        rw [show ((k : Int) - 1).toNat = k - 1 by omega, hgety] at hpc'
        refine iLd hpc' ?_
        have hxs := (hP11.1 x (by simp)).sl
        have hys := (hP11.1 y (by simp)).sl
        refine iRetQ (fun w' h' => ok_spec_l01Less (Sl.ext hxs h') (Sl.ext hys h')) ?_
        intro w14 h14
        have := hJ w14 h14
        rw [decide_eq_true hk0, Bool.true_and, List.getLast?_append] at this
        simpa using this
      · intro w15 h15
        have := hJ w15 h15
        rw [decide_eq_false (show ¬ 0 < k by omega), Bool.false_and] at this
        exact this
    · have hX13 := hX11.trans h13
      have hov13 := hov11.ext h13
      have hP13 := hP11.ext h13
      have hsl13 := hov13.sl
      (repeat first
    | (with_reducible first | refine iFa ?_ | refine iNil ?_ | refine iNilF ?_ | refine iLd (by assumption) ?_ | refine iLenN (by assumption) ?_ | refine iLenI (by assumption) ?_ | refine iLenS (by assumption) ?_ | refine iLenL ?_ | refine iEq ?_ | refine iNe ?_ | refine iLt ?_ | refine iLe ?_ | refine iNot ?_ | refine iPick ?_ | refine iE20 ?_ | refine iE21 ?_ | refine iJn ?_)
    | ((with_reducible show xLd _ _ _); refine iLdB (by assumption) (by first | rfl | simp) ?_) | ((with_reducible refine iLdA (by assumption) ?_ ?_); rfl)
    | ((with_reducible refine iIaNN (by assumption) ?_ (fun pa_ hpa_ => ?_)); omega) | ((with_reducible refine iIaN (by assumption) ?_ (fun pa_ hpa_ => ?_)); omega)
    | ((with_reducible refine iIaI (by assumption) ?_ ?_ (fun pa_ hpa_ => ?_)); omega; omega) | ((with_reducible refine iAdd ?_ ?_); omega) | ((with_reducible refine iSub ?_ ?_); omega)
    | ((with_reducible show xEx _ _ _); refine iEx (by rfl) ?_) | ((with_reducible refine fun (_ : Nat → Value) => ?_); (try simp only [gx, List.getD_cons_zero, List.getD_cons_succ])))
      refine iCnd (fun h14 => ?_) (fun h14 => ?_)
      · rw [Bool.and_eq_true, decide_eq_true_eq] at h14
        have hk0 : 0 < k := h14.1
        obtain ⟨A', y, rfl⟩ : ∃ A' y, A = A' ++ [y] := ⟨A.dropLast, A.getLast (by intro h; rw [h] at hA; simp at hA; omega), (List.dropLast_concat_getLast _).symm⟩
        have hless : lessB x.2 y.2 = true := by
          have := h14.2
          rw [List.getLast?_append] at this
          simpa using this
        have hA' : A'.length = k - 1 := by rw [List.length_append, List.length_singleton] at hA; omega
        have hgety : (((A' ++ [y]) ++ x :: (C ++ D)).map Prod.fst)[k - 1]? = some y.1 := by
          rw [List.append_assoc, List.getElem?_map, List.getElem?_append_right (by omega), hA', Nat.sub_self]; rfl
        refine iIa hsl13 (by omega) (by omega) fun p hpc => ?_
        rw [Int.toNat_natCast, hgetk] at hpc
        refine iLd hpc ?_
        (repeat first
    | (with_reducible first | refine iFa ?_ | refine iNil ?_ | refine iNilF ?_ | refine iLd (by assumption) ?_ | refine iLenN (by assumption) ?_ | refine iLenI (by assumption) ?_ | refine iLenS (by assumption) ?_ | refine iLenL ?_ | refine iEq ?_ | refine iNe ?_ | refine iLt ?_ | refine iLe ?_ | refine iNot ?_ | refine iPick ?_ | refine iE20 ?_ | refine iE21 ?_ | refine iJn ?_)
    | ((with_reducible show xLd _ _ _); refine iLdB (by assumption) (by first | rfl | simp) ?_) | ((with_reducible refine iLdA (by assumption) ?_ ?_); rfl)
    | ((with_reducible refine iIaNN (by assumption) ?_ (fun pa_ hpa_ => ?_)); omega) | ((with_reducible refine iIaN (by assumption) ?_ (fun pa_ hpa_ => ?_)); omega)
    | ((with_reducible refine iIaI (by assumption) ?_ ?_ (fun pa_ hpa_ => ?_)); omega; omega) | ((with_reducible refine iAdd ?_ ?_); omega) | ((with_reducible refine iSub ?_ ?_); omega)
    | ((with_reducible show xEx _ _ _); refine iEx (by rfl) ?_) | ((with_reducible refine fun (_ : Nat → Value) => ?_); (try simp only [gx, List.getD_cons_zero, List.getD_cons_succ])))
        refine iIa hsl13 (by omega) (by omega) fun p' hpc' => ?_
        rw [show ((k : Int) - 1).toNat = k - 1 by omega, hgety] at hpc'
        refine iLd hpc' ?_
        refine iIaOwE hov13 (by omega) fun bv hbv hwr => ?_
        obtain ⟨hc1, hc2, hc3⟩ := hwr w13 _ rfl hov13
        rw [List.getElem?_eq_getElem (by omega)] at hc1
        have hyc : isCell y.1 = true := (hP13.1 y (by simp)).cell
        have hxc : isCell x.1 = true := (hP13.1 x (by simp)).cell
        refine iSt hc1 hc2 hyc ?_
        have ho16 := hc3 y.1
        have hu16 := Upd.setCell w13 bv k y.1
        have hnb : ∀ p ∈ (A' ++ [y]) ++ x :: (C ++ D), p.1.ownBlock ≠ some bv := fun p hp hbp => (hP13.1 p hp).ne_ow hov13 (by decide) hbp hbv
        have hbl := (hov13.blk bv hbv).1
        have hX16 := hX13.upd hu16 hbl
        have hP16 := hP13.upd hu16 hnb
        generalize hw16 : w13.setCell ⟨bv, k, none⟩ y.1 = w16 at *
        (repeat first
    | (with_reducible first | refine iFa ?_ | refine iNil ?_ | refine iNilF ?_ | refine iLd (by assumption) ?_ | refine iLenN (by assumption) ?_ | refine iLenI (by assumption) ?_ | refine iLenS (by assumption) ?_ | refine iLenL ?_ | refine iEq ?_ | refine iNe ?_ | refine iLt ?_ | refine iLe ?_ | refine iNot ?_ | refine iPick ?_ | refine iE20 ?_ | refine iE21 ?_ | refine iJn ?_)
    | ((with_reducible show xLd _ _ _); refine iLdB (by assumption) (by first | rfl | simp) ?_) | ((with_reducible refine iLdA (by assumption) ?_ ?_); rfl)
    | ((with_reducible refine iIaNN (by assumption) ?_ (fun pa_ hpa_ => ?_)); omega) | ((with_reducible refine iIaN (by assumption) ?_ (fun pa_ hpa_ => ?_)); omega)
    | ((with_reducible refine iIaI (by assumption) ?_ ?_ (fun pa_ hpa_ => ?_)); omega; omega) | ((with_reducible refine iAdd ?_ ?_); omega) | ((with_reducible refine iSub ?_ ?_); omega)
    | ((with_reducible show xEx _ _ _); refine iEx (by rfl) ?_) | ((with_reducible refine fun (_ : Nat → Value) => ?_); (try simp only [gx, List.getD_cons_zero, List.getD_cons_succ])))
        have hk1c : (k : Int) - 1 = ((k - 1 : Nat) : Int) := by omega
        rw [hk1c]
        refine iIaOwE ho16 (by rw [List.length_set]; omega) fun bv' hbv' hwr' => ?_
        obtain ⟨hd1, hd2, hd3⟩ := hwr' w16 _ rfl ho16
        rw [List.getElem?_eq_getElem (by rw [List.length_set]; omega)] at hd1
        refine iSt hd1 hd2 hxc ?_
        have ho17 := hd3 x.1
        obtain rfl : bv = bv' := by rw [hbv] at hbv'; exact Option.some.inj hbv'
        have hu17 := Upd.setCell w16 bv (k - 1) x.1
        have hX17 := hX16.upd hu17 hbl
        have hP17 := hP16.upd hu17 hnb
        generalize hw17 : w16.setCell ⟨bv, k - 1, none⟩ x.1 = w17 at *
        have hswap : ((((A' ++ [y]) ++ x :: (C ++ D)).map Prod.fst).set k y.1).set (k - 1) x.1 = (A' ++ x :: (y :: C ++ D)).map Prod.fst := by
          have e1 : ((A' ++ [y]) ++ x :: (C ++ D)).map Prod.fst = A'.map Prod.fst ++ (y.1 :: x.1 :: (C ++ D).map Prod.fst) := by simp
          have hAl : (A'.map Prod.fst).length = k - 1 := by rw [List.length_map, hA']
          rw [e1, List.set_append_right _ _ (by omega), hAl, show k - (k - 1) = 1 by omega, List.set_append_right _ _ (by omega), hAl, Nat.sub_self]
          simp
        rw [hswap] at ho17
        have hpsw : ((A' ++ [y]) ++ x :: (C ++ D)).Perm (A' ++ x :: (y :: C ++ D)) := by
          rw [List.append_assoc]
          exact List.Perm.append_left A' (List.Perm.swap x y _)
        (repeat first
    | (with_reducible first | refine iFa ?_ | refine iNil ?_ | refine iNilF ?_ | refine iLd (by assumption) ?_ | refine iLenN (by assumption) ?_ | refine iLenI (by assumption) ?_ | refine iLenS (by assumption) ?_ | refine iLenL ?_ | refine iEq ?_ | refine iNe ?_ | refine iLt ?_ | refine iLe ?_ | refine iNot ?_ | refine iPick ?_ | refine iE20 ?_ | refine iE21 ?_ | refine iJn ?_)
    | ((with_reducible show xLd _ _ _); refine iLdB (by assumption) (by first | rfl | simp) ?_) | ((with_reducible refine iLdA (by assumption) ?_ ?_); rfl)
    | ((with_reducible refine iIaNN (by assumption) ?_ (fun pa_ hpa_ => ?_)); omega) | ((with_reducible refine iIaN (by assumption) ?_ (fun pa_ hpa_ => ?_)); omega)
    | ((with_reducible refine iIaI (by assumption) ?_ ?_ (fun pa_ hpa_ => ?_)); omega; omega) | ((with_reducible refine iAdd ?_ ?_); omega) | ((with_reducible refine iSub ?_ ?_); omega)
    | ((with_reducible show xEx _ _ _); refine iEx (by rfl) ?_) | ((with_reducible refine fun (_ : Nat → Value) => ?_); (try simp only [gx, List.getD_cons_zero, List.getD_cons_succ])))
        rw [hk1c]
        refine hKn11 (k - 1) _ ⟨hX17, A', y :: C, D, x, hA', by rw [List.length_cons]; omega, hpsw.symm.trans hperm, ho17, hP17.perm hpsw, by simpa using hs11, fun c hc => ?_⟩ (by omega)
        rcases List.mem_cons.1 hc with rfl | hc
        · exact lessB_asymm _ _ hless
        · exact hx11 c hc
      · (repeat first
    | (with_reducible first | refine iFa ?_ | refine iNil ?_ | refine iNilF ?_ | refine iLd (by assumption) ?_ | refine iLenN (by assumption) ?_ | refine iLenI (by assumption) ?_ | refine iLenS (by assumption) ?_ | refine iLenL ?_ | refine iEq ?_ | refine iNe ?_ | refine iLt ?_ | refine iLe ?_ | refine iNot ?_ | refine iPick ?_ | refine iE20 ?_ | refine iE21 ?_ | refine iJn ?_)
    | ((with_reducible show xLd _ _ _); refine iLdB (by assumption) (by first | rfl | simp) ?_) | ((with_reducible refine iLdA (by assumption) ?_ ?_); rfl)
    | ((with_reducible refine iIaNN (by assumption) ?_ (fun pa_ hpa_ => ?_)); omega) | ((with_reducible refine iIaN (by assumption) ?_ (fun pa_ hpa_ => ?_)); omega)
    | ((with_reducible refine iIaI (by assumption) ?_ ?_ (fun pa_ hpa_ => ?_)); omega; omega) | ((with_reducible refine iAdd ?_ ?_); omega) | ((with_reducible refine iSub ?_ ?_); omega)
    | ((with_reducible show xEx _ _ _); refine iEx (by rfl) ?_) | ((with_reducible refine fun (_ : Nat → Value) => ?_); (try simp only [gx, List.getD_cons_zero, List.getD_cons_succ])))
        refine hKn (i + 1) _ ⟨by omega, hX13, A ++ x :: (C ++ D), hperm, hov13, hP13, ?_⟩ (by omega)
        have htake : (A ++ x :: (C ++ D)).take (i + 1) = A ++ x :: C := by
          have e1 : A ++ x :: (C ++ D) = (A ++ x :: C) ++ D := by simp
          rw [e1, List.take_left' (by rw [List.length_append, List.length_cons]; omega)]
        rw [htake]
        rw [List.pairwise_append] at hs11 ⊢
        obtain ⟨hsA, hsC, hAC⟩ := hs11
        refine ⟨hsA, List.pairwise_cons.2 ⟨fun c hc => hx11 c hc, hsC⟩, fun a ha c hc => ?_⟩
        rcases List.mem_cons.1 hc with rfl | hc
        · have hAne : A ≠ [] := fun h => by rw [h] at ha; cases ha
          obtain ⟨A', y, rfl⟩ : ∃ A' y, A = A' ++ [y] := ⟨A.dropLast, A.getLast hAne, (List.dropLast_concat_getLast _).symm⟩
          have hk0 : 0 < k := by rw [← hA]; simp
          rw [decide_eq_true hk0, Bool.true_and, List.getLast?_append] at h14
          have hxy : lessB c.2 y.2 = false := by simpa using h14
          rcases List.mem_append.1 ha with ha | ha
          · rw [List.pairwise_append] at hsA
            exact lessB_trans a.2 y.2 c.2 (hsA.2.2 a ha y (by simp)) hxy
          · simp at ha; subst ha; exact hxy
        · exact hAC a ha c hc
  · have : Q.take i = Q := List.take_of_length_le (by omega)
    rw [this] at hs9
    refine ⟨hX9, Q.map Prod.snd, ?_, by rw [List.pairwise_map]; exact hs9, Q.map Prod.fst, hov9, hP9.to⟩
    rw [← e2]
    exact hQ.map _
end Go.Proofs.Ytgbnmihpjlbfgaa
