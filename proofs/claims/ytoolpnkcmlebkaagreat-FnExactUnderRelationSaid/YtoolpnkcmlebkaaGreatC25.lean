/- Contracts: the first p-morphism onto a poset in the reference (l21Onto, FindImage). Conditions: none. -/
import Derived.Test.YtoolpnkcmlebkaaGreatMaC
import Derived.Test.YtoolpnkcmlebkaaGreatC24
namespace Go.Vc
theorem findP_eq {f g : Fr} (hp : Po f) (hg : g.ok) (fix : List Int) (onto : Bool) (most : Nat) : findP f g fix onto most = ((foundU f g fix onto).map nats).take most := by
  unfold findP
  rw [srch_part hp hg]
theorem replicate_neg (n : Nat) : ∀ x, x < n → (List.replicate n (-1 : Int)).getD x 0 < 0 := fun x hx => by simp [List.getD_eq_getElem?_getD, hx]
end Go.Vc
namespace Go.Proofs.YtoolpnkcmlebkaaGreat
open Go.Vc
theorem ok_spec_l21Onto {f g : Fr} (hp : Po f) (hg : g.ok) {w : World} {fa ga : Value} (hfa : SlN w fa f.a) (hga : SlN w ga g.a) :
    Cal Tryz.prog f_spec_l21Onto #[.agg #[.int .i64 (f.n : Int), fa], .agg #[.int .i64 (g.n : Int), ga]] w fun r w' => Ext w w' ∧ ∃ v, r = .tuple #[v, .bool (!(leaves (fitsB f g true false) g.n f.n []).isEmpty)] ∧
      Ow w.heap.size t_i64 w' v (ints (nats ((leaves (fitsB f g true false) g.n f.n []).headD []))) := by
  apply c_spec_l21Onto; unfold S_spec_l21Onto
  have hf8 := hp.ok.1
  have hg8 := hg.1
  refine iNew fun b1 w1 hb1 h1 hB1 => ?_
  refine iNew fun b2 w2 hb2 h2 hB2 => ?_
  have hB1 := hB1.ext h2
  have hX2 := h1.trans h2
  (repeat first
    | (with_reducible first | refine iFa ?_ | refine iNil ?_ | refine iNilF ?_ | refine iLd (by assumption) ?_ | refine iLenN (by assumption) ?_ | refine iLenI (by assumption) ?_ | refine iLenS (by assumption) ?_ | refine iLenL ?_ | refine iEq ?_ | refine iNe ?_ | refine iLt ?_ | refine iLe ?_ | refine iNot ?_ | refine iPick ?_ | refine iE20 ?_ | refine iE21 ?_ | refine iE30 ?_ | refine iE31 ?_ | refine iE32 ?_ | refine iJn ?_)
    | ((with_reducible show xLd _ _ _); refine iLdB (by assumption) (by first | rfl | simp) ?_) | ((with_reducible refine iLdA (by assumption) ?_ ?_); rfl)
    | ((with_reducible refine iIaNN (by assumption) ?_ (fun pa_ hpa_ => ?_)); omega) | ((with_reducible refine iIaN (by assumption) ?_ (fun pa_ hpa_ => ?_)); omega)
    | ((with_reducible refine iIaI (by assumption) ?_ ?_ (fun pa_ hpa_ => ?_)); omega; omega) | ((with_reducible refine iAdd ?_ ?_); omega) | ((with_reducible refine iSub ?_ ?_); omega)
    | ((with_reducible show xEx _ _ _); refine iEx (by rfl) ?_) | ((with_reducible refine fun (_ : Nat → Value) => ?_); (try simp only [gx])))
  refine iCall ((ok_spec_l21Free f.n hf8 w2).mono ?_)
  rintro vf w3 ⟨h3, ho⟩
  have hX3 := hX2.trans h3
  obtain ⟨e1, he1, hB1⟩ : ∃ e, t_i64 ≠ e ∧ Blk e w3 b1 [.int .i64 (f.n : Int), fa] := ⟨_, by decide, hB1.ext h3⟩
  obtain ⟨e2, he2, hB2⟩ : ∃ e, t_i64 ≠ e ∧ Blk e w3 b2 [.int .i64 (g.n : Int), ga] := ⟨_, by decide, hB2.ext h3⟩
  have hrl : (List.replicate f.n (-1 : Int)).length = f.n := List.length_replicate
  (repeat first
    | (with_reducible first | refine iFa ?_ | refine iNil ?_ | refine iNilF ?_ | refine iLd (by assumption) ?_ | refine iLenN (by assumption) ?_ | refine iLenI (by assumption) ?_ | refine iLenS (by assumption) ?_ | refine iLenL ?_ | refine iEq ?_ | refine iNe ?_ | refine iLt ?_ | refine iLe ?_ | refine iNot ?_ | refine iPick ?_ | refine iE20 ?_ | refine iE21 ?_ | refine iE30 ?_ | refine iE31 ?_ | refine iE32 ?_ | refine iJn ?_)
    | ((with_reducible show xLd _ _ _); refine iLdB (by assumption) (by first | rfl | simp) ?_) | ((with_reducible refine iLdA (by assumption) ?_ ?_); rfl)
    | ((with_reducible refine iIaNN (by assumption) ?_ (fun pa_ hpa_ => ?_)); omega) | ((with_reducible refine iIaN (by assumption) ?_ (fun pa_ hpa_ => ?_)); omega)
    | ((with_reducible refine iIaI (by assumption) ?_ ?_ (fun pa_ hpa_ => ?_)); omega; omega) | ((with_reducible refine iAdd ?_ ?_); omega) | ((with_reducible refine iSub ?_ ?_); omega)
    | ((with_reducible show xEx _ _ _); refine iEx (by rfl) ?_) | ((with_reducible refine fun (_ : Nat → Value) => ?_); (try simp only [gx])))
  refine iCall ((ok_spec_l21Find (onto := true) (most := 1) hp hg hrl (hfa.ext hX3) (hga.ext hX3) ho.sl (by omega)).mono ?_)
  rintro v15 w4 ⟨h4, vs, hov, hol⟩
  have hov := hov.sl
  have hX4 := hX3.trans h4
  have hB1 := hB1.ext h4
  have hB2 := hB2.ext h4
  have ho4 := (ho.ext h4).mono hX2.size
  have hvl : vs.length = min 1 (leaves (fitsB f g true false) g.n f.n []).length := by
    have h := hol.1
    rw [List.length_map, findP_eq hp hg, List.length_take, List.length_map, (found_perm hp hg (replicate_neg f.n)).length_eq] at h
    exact h
  (repeat first
    | (with_reducible first | refine iFa ?_ | refine iNil ?_ | refine iNilF ?_ | refine iLd (by assumption) ?_ | refine iLenN (by assumption) ?_ | refine iLenI (by assumption) ?_ | refine iLenS (by assumption) ?_ | refine iLenL ?_ | refine iEq ?_ | refine iNe ?_ | refine iLt ?_ | refine iLe ?_ | refine iNot ?_ | refine iPick ?_ | refine iE20 ?_ | refine iE21 ?_ | refine iE30 ?_ | refine iE31 ?_ | refine iE32 ?_ | refine iJn ?_)
    | ((with_reducible show xLd _ _ _); refine iLdB (by assumption) (by first | rfl | simp) ?_) | ((with_reducible refine iLdA (by assumption) ?_ ?_); rfl)
    | ((with_reducible refine iIaNN (by assumption) ?_ (fun pa_ hpa_ => ?_)); omega) | ((with_reducible refine iIaN (by assumption) ?_ (fun pa_ hpa_ => ?_)); omega)
    | ((with_reducible refine iIaI (by assumption) ?_ ?_ (fun pa_ hpa_ => ?_)); omega; omega) | ((with_reducible refine iAdd ?_ ?_); omega) | ((with_reducible refine iSub ?_ ?_); omega)
    | ((with_reducible show xEx _ _ _); refine iEx (by rfl) ?_) | ((with_reducible refine fun (_ : Nat → Value) => ?_); (try simp only [gx])))
  cases hL : leaves (fitsB f g true false) g.n f.n [] with
  | nil =>
    rw [hL] at hvl
    refine iCndP (fun _ => ⟨hX4, _, rfl, Ow.nil _ _ _⟩) (fun h => absurd (show (vs.length : Int) = 0 by rw [hvl]; rfl) h)
  | cons F Fs =>
    rw [hL] at hvl
    have hv1 : vs.length = 1 := by rw [hvl]; simp
    obtain ⟨hFl, hFlt, _⟩ := (mem_leaves (onto := true) (one := false) (F := F) hp.ok hg).1 (by rw [hL]; exact List.mem_cons_self)
    refine iCndP (fun h => absurd h (by omega)) (fun _ => ?_)
    refine iLp (fun k : Nat => [.int .i64 (k : Int)]) (fun k w' => k ≤ f.n ∧ Ext w w' ∧ Blk e1 w' b1 [.int .i64 (f.n : Int), fa] ∧ Blk e2 w' b2 [.int .i64 (g.n : Int), ga] ∧ Ow w.heap.size t_i64 w' vf (ints (fixK f.n F k))) (fun k => f.n - k) 0 rfl ⟨Nat.zero_le _, hX4, hB1, hB2, by rw [fixK_zero]; exact ho4⟩ ?_
    rintro k w6 Kn ⟨hk, hX6, hB16, hB26, ho6⟩ hKn
    (repeat first
    | (with_reducible first | refine iFa ?_ | refine iNil ?_ | refine iNilF ?_ | refine iLd (by assumption) ?_ | refine iLenN (by assumption) ?_ | refine iLenI (by assumption) ?_ | refine iLenS (by assumption) ?_ | refine iLenL ?_ | refine iEq ?_ | refine iNe ?_ | refine iLt ?_ | refine iLe ?_ | refine iNot ?_ | refine iPick ?_ | refine iE20 ?_ | refine iE21 ?_ | refine iE30 ?_ | refine iE31 ?_ | refine iE32 ?_ | refine iJn ?_)
    | ((with_reducible show xLd _ _ _); refine iLdB (by assumption) (by first | rfl | simp) ?_) | ((with_reducible refine iLdA (by assumption) ?_ ?_); rfl)
    | ((with_reducible refine iIaNN (by assumption) ?_ (fun pa_ hpa_ => ?_)); omega) | ((with_reducible refine iIaN (by assumption) ?_ (fun pa_ hpa_ => ?_)); omega)
    | ((with_reducible refine iIaI (by assumption) ?_ ?_ (fun pa_ hpa_ => ?_)); omega; omega) | ((with_reducible refine iAdd ?_ ?_); omega) | ((with_reducible refine iSub ?_ ?_); omega)
    | ((with_reducible show xEx _ _ _); refine iEx (by rfl) ?_) | ((with_reducible refine fun (_ : Nat → Value) => ?_); (try simp only [gx])))
    refine iCndP (fun h7 => ?_) (fun h7 => ?_)
    · have hk1 : k < f.n := by omega
      have hFk : F.getD k 0 < g.n := getD_lt hFlt (by omega)
      refine iLp (fun y : Nat => [.int .i64 (y : Int)]) (fun y w' => y ≤ F.getD k 0 ∧ Ext w w' ∧ Blk e1 w' b1 [.int .i64 (f.n : Int), fa] ∧ Blk e2 w' b2 [.int .i64 (g.n : Int), ga] ∧ ∃ l : List Int, l.length = f.n ∧ (∀ z : Int, l.set k z = (fixK f.n F k).set k z) ∧ Ow w.heap.size t_i64 w' vf (ints l)) (fun y => F.getD k 0 - y) 0 rfl ⟨Nat.zero_le _, hX6, hB16, hB26, _, fixK_len _ _ _, fun _ => rfl, ho6⟩ ?_
      rintro y w8 Kn8 ⟨hy, hX8, hB18, hB28, l, hll, hls, ho8⟩ hKn8
      (repeat first
    | (with_reducible first | refine iFa ?_ | refine iNil ?_ | refine iNilF ?_ | refine iLd (by assumption) ?_ | refine iLenN (by assumption) ?_ | refine iLenI (by assumption) ?_ | refine iLenS (by assumption) ?_ | refine iLenL ?_ | refine iEq ?_ | refine iNe ?_ | refine iLt ?_ | refine iLe ?_ | refine iNot ?_ | refine iPick ?_ | refine iE20 ?_ | refine iE21 ?_ | refine iE30 ?_ | refine iE31 ?_ | refine iE32 ?_ | refine iJn ?_)
    | ((with_reducible show xLd _ _ _); refine iLdB (by assumption) (by first | rfl | simp) ?_) | ((with_reducible refine iLdA (by assumption) ?_ ?_); rfl)
    | ((with_reducible refine iIaNN (by assumption) ?_ (fun pa_ hpa_ => ?_)); omega) | ((with_reducible refine iIaN (by assumption) ?_ (fun pa_ hpa_ => ?_)); omega)
    | ((with_reducible refine iIaI (by assumption) ?_ ?_ (fun pa_ hpa_ => ?_)); omega; omega) | ((with_reducible refine iAdd ?_ ?_); omega) | ((with_reducible refine iSub ?_ ?_); omega)
    | ((with_reducible show xEx _ _ _); refine iEx (by rfl) ?_) | ((with_reducible refine fun (_ : Nat → Value) => ?_); (try simp only [gx])))
      refine iCndP (fun h9 => ?_) (fun h9 => absurd (show (y : Int) < g.n by omega) h9)
      have hil : (ints l).length = f.n := by rw [ints_length, hll]
      refine iIaOwE ho8 (by omega) fun bu hbu hwr => ?_
      obtain ⟨hc1, hc2, hc3⟩ := hwr w8 _ rfl ho8
      rw [List.getElem?_eq_getElem (by omega)] at hc1
      refine iSt hc1 hc2 rfl ?_
      have ho9 := hc3 (.int .i64 (y : Int))
      have hset : (ints l).set k (.int .i64 (y : Int)) = ints ((fixK f.n F k).set k (y : Int)) := by rw [← hls]; simp [ints, List.map_set]
      rw [hset] at ho9
      have hu := Upd.setCell w8 bu k (.int .i64 (y : Int))
      have hX9 : Ext w (w8.setCell ⟨bu, k, none⟩ (.int .i64 (y : Int))) := hX8.upd hu (ho8.blk bu hbu).1
      have hB19 := hB18.upd hu (fun e => ho8.ne_blk hB18 he1 (by rw [hbu, e]))
      have hB29 := hB28.upd hu (fun e => ho8.ne_blk hB28 he2 (by rw [hbu, e]))
      have hfl9 : ((fixK f.n F k).set k (y : Int)).length = f.n := by rw [List.length_set, fixK_len]
      (repeat first
    | (with_reducible first | refine iFa ?_ | refine iNil ?_ | refine iNilF ?_ | refine iLd (by assumption) ?_ | refine iLenN (by assumption) ?_ | refine iLenI (by assumption) ?_ | refine iLenS (by assumption) ?_ | refine iLenL ?_ | refine iEq ?_ | refine iNe ?_ | refine iLt ?_ | refine iLe ?_ | refine iNot ?_ | refine iPick ?_ | refine iE20 ?_ | refine iE21 ?_ | refine iE30 ?_ | refine iE31 ?_ | refine iE32 ?_ | refine iJn ?_)
    | ((with_reducible show xLd _ _ _); refine iLdB (by assumption) (by first | rfl | simp) ?_) | ((with_reducible refine iLdA (by assumption) ?_ ?_); rfl)
    | ((with_reducible refine iIaNN (by assumption) ?_ (fun pa_ hpa_ => ?_)); omega) | ((with_reducible refine iIaN (by assumption) ?_ (fun pa_ hpa_ => ?_)); omega)
    | ((with_reducible refine iIaI (by assumption) ?_ ?_ (fun pa_ hpa_ => ?_)); omega; omega) | ((with_reducible refine iAdd ?_ ?_); omega) | ((with_reducible refine iSub ?_ ?_); omega)
    | ((with_reducible show xEx _ _ _); refine iEx (by rfl) ?_) | ((with_reducible refine fun (_ : Nat → Value) => ?_); (try simp only [gx])))
      refine iCall ((ok_spec_l21Find (onto := true) (most := 1) hp hg hfl9 (hfa.ext hX9) (hga.ext hX9) ho9.sl (by omega)).mono ?_)
      rintro v37 w10 ⟨h10, vs', hov', hol'⟩
      have hov' := hov'.sl
      have hX10 := hX9.trans h10
      have hB1A := hB19.ext h10
      have hB2A := hB29.ext h10
      have hoA := ho9.ext h10
      have hvl' : vs'.length = min 1 (foundU f g ((fixK f.n F k).set k (y : Int)) true).length := by
        have h := hol'.1
        rw [List.length_map, findP_eq hp hg, List.length_take, List.length_map] at h
        exact h
      (repeat first
    | (with_reducible first | refine iFa ?_ | refine iNil ?_ | refine iNilF ?_ | refine iLd (by assumption) ?_ | refine iLenN (by assumption) ?_ | refine iLenI (by assumption) ?_ | refine iLenS (by assumption) ?_ | refine iLenL ?_ | refine iEq ?_ | refine iNe ?_ | refine iLt ?_ | refine iLe ?_ | refine iNot ?_ | refine iPick ?_ | refine iE20 ?_ | refine iE21 ?_ | refine iE30 ?_ | refine iE31 ?_ | refine iE32 ?_ | refine iJn ?_)
    | ((with_reducible show xLd _ _ _); refine iLdB (by assumption) (by first | rfl | simp) ?_) | ((with_reducible refine iLdA (by assumption) ?_ ?_); rfl)
    | ((with_reducible refine iIaNN (by assumption) ?_ (fun pa_ hpa_ => ?_)); omega) | ((with_reducible refine iIaN (by assumption) ?_ (fun pa_ hpa_ => ?_)); omega)
    | ((with_reducible refine iIaI (by assumption) ?_ ?_ (fun pa_ hpa_ => ?_)); omega; omega) | ((with_reducible refine iAdd ?_ ?_); omega) | ((with_reducible refine iSub ?_ ?_); omega)
    | ((with_reducible show xEx _ _ _); refine iEx (by rfl) ?_) | ((with_reducible refine fun (_ : Nat → Value) => ?_); (try simp only [gx])))
      rcases Nat.lt_or_ge y (F.getD k 0) with hlt | hge
      · rw [greedy_none hp hg hL hk1 hlt] at hvl'
        refine iCndP (fun h => absurd h (by rw [hvl']; simp)) (fun _ => ?_)
        (repeat first
    | (with_reducible first | refine iFa ?_ | refine iNil ?_ | refine iNilF ?_ | refine iLd (by assumption) ?_ | refine iLenN (by assumption) ?_ | refine iLenI (by assumption) ?_ | refine iLenS (by assumption) ?_ | refine iLenL ?_ | refine iEq ?_ | refine iNe ?_ | refine iLt ?_ | refine iLe ?_ | refine iNot ?_ | refine iPick ?_ | refine iE20 ?_ | refine iE21 ?_ | refine iE30 ?_ | refine iE31 ?_ | refine iE32 ?_ | refine iJn ?_)
    | ((with_reducible show xLd _ _ _); refine iLdB (by assumption) (by first | rfl | simp) ?_) | ((with_reducible refine iLdA (by assumption) ?_ ?_); rfl)
    | ((with_reducible refine iIaNN (by assumption) ?_ (fun pa_ hpa_ => ?_)); omega) | ((with_reducible refine iIaN (by assumption) ?_ (fun pa_ hpa_ => ?_)); omega)
    | ((with_reducible refine iIaI (by assumption) ?_ ?_ (fun pa_ hpa_ => ?_)); omega; omega) | ((with_reducible refine iAdd ?_ ?_); omega) | ((with_reducible refine iSub ?_ ?_); omega)
    | ((with_reducible show xEx _ _ _); refine iEx (by rfl) ?_) | ((with_reducible refine fun (_ : Nat → Value) => ?_); (try simp only [gx])))
        exact hKn8 (y + 1) _ ⟨by omega, hX10, hB1A, hB2A, _, hfl9, fun z => by rw [List.set_set], hoA⟩ (by omega)
      · obtain rfl : y = F.getD k 0 := by omega
        rw [fixK_set hk1] at hvl' hoA
        have hpos := List.length_pos_iff.2 (greedy_some (k := k + 1) hp hg hL)
        refine iCndP (fun _ => ?_) (fun h => absurd (show (0 : Int) < (vs'.length : Nat) by omega) h)
        (repeat first
    | (with_reducible first | refine iFa ?_ | refine iNil ?_ | refine iNilF ?_ | refine iLd (by assumption) ?_ | refine iLenN (by assumption) ?_ | refine iLenI (by assumption) ?_ | refine iLenS (by assumption) ?_ | refine iLenL ?_ | refine iEq ?_ | refine iNe ?_ | refine iLt ?_ | refine iLe ?_ | refine iNot ?_ | refine iPick ?_ | refine iE20 ?_ | refine iE21 ?_ | refine iE30 ?_ | refine iE31 ?_ | refine iE32 ?_ | refine iJn ?_)
    | ((with_reducible show xLd _ _ _); refine iLdB (by assumption) (by first | rfl | simp) ?_) | ((with_reducible refine iLdA (by assumption) ?_ ?_); rfl)
    | ((with_reducible refine iIaNN (by assumption) ?_ (fun pa_ hpa_ => ?_)); omega) | ((with_reducible refine iIaN (by assumption) ?_ (fun pa_ hpa_ => ?_)); omega)
    | ((with_reducible refine iIaI (by assumption) ?_ ?_ (fun pa_ hpa_ => ?_)); omega; omega) | ((with_reducible refine iAdd ?_ ?_); omega) | ((with_reducible refine iSub ?_ ?_); omega)
    | ((with_reducible show xEx _ _ _); refine iEx (by rfl) ?_) | ((with_reducible refine fun (_ : Nat → Value) => ?_); (try simp only [gx])))
        exact hKn (k + 1) _ ⟨by omega, hX10, hB1A, hB2A, hoA⟩ (by omega)
    · obtain rfl : k = f.n := by omega
      rw [fixK_end hFl] at ho6
      exact ⟨hX6, vf, rfl, ho6⟩
end Go.Proofs.YtoolpnkcmlebkaaGreat
