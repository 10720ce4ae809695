/- Contracts: UnderRelation and GreatestLogics in the program and the reference. Conditions: none. -/
import Derived.Test.YtoolpnkcmlebkaaGreatC33
import Derived.Test.YtoolpnkcmlebkaaGreatClb
namespace Go.Vc
def frP (ps : List (Int × List Int)) (i : Nat) : Fr := frOf (ps.getD i (0, [])).1 (ps.getD i (0, [])).2
/-- Which of the list are those that i is under, among the first k. -/
def relK (ps : List (Int × List Int)) (i k : Nat) : Nat := setOf ((List.range k).filter fun j => decide (tell (frP ps i) (frP ps j) = 0))
theorem relK_succ (ps : List (Int × List Int)) (i k : Nat) : relK ps i (k + 1) = if tell (frP ps i) (frP ps k) = 0 then relK ps i k ||| 2 ^ k else relK ps i k := by
  unfold relK
  rw [List.range_succ, List.filter_append]
  by_cases h : tell (frP ps i) (frP ps k) = 0
  · rw [if_pos h]; simp only [List.filter_cons, List.filter_nil, h, decide_true, if_true]; rw [setOf_snoc]
  · rw [if_neg h]; simp [h]
theorem relK_lt (ps : List (Int × List Int)) (i k : Nat) : relK ps i k < 2 ^ k := setOf_lt fun _ hy => List.mem_range.1 (List.mem_filter.1 hy).1
def relL (ps : List (Int × List Int)) : List Nat := (List.range ps.length).map fun i => relK ps i ps.length
/-- Those of the list that nothing is under alone. -/
def bestB (ps : List (Int × List Int)) (i : Nat) : Bool := (List.range ps.length).all fun j => !((relL ps).getD i 0).testBit j || ((relL ps).getD j 0).testBit i
def bestK (ps : List (Int × List Int)) (k : Nat) : List Nat := (List.range k).filter (bestB ps)
theorem bestK_succ (ps : List (Int × List Int)) (k : Nat) : bestK ps (k + 1) = if bestB ps k then bestK ps k ++ [k] else bestK ps k := by
  unfold bestK
  rw [List.range_succ, List.filter_append]
  cases h : bestB ps k <;> simp [h]
theorem bestK_len (ps : List (Int × List Int)) (k : Nat) : (bestK ps k).length ≤ k := by
  have := List.length_filter_le (bestB ps) (List.range k)
  rwa [List.length_range] at this
/-- The rows while they are made. -/
def relM (ps : List (Int × List Int)) (i j : Nat) : List Nat := (List.range ps.length).map fun k => if k < i then relK ps k ps.length else if k = i then relK ps i j else 0
theorem relM_len (ps : List (Int × List Int)) (i j : Nat) : (relM ps i j).length = ps.length := by simp [relM]
theorem relM_zero (ps : List (Int × List Int)) : relM ps 0 0 = List.replicate ps.length 0 := by
  apply List.ext_getElem
  · simp [relM]
  · intro k h1 h2
    simp only [relM, List.getElem_map, List.getElem_range, List.getElem_replicate]
    by_cases h : k = 0
    · subst h; rw [if_neg (by omega), if_pos rfl]; rfl
    · rw [if_neg (by omega), if_neg h]
theorem relM_row (ps : List (Int × List Int)) (i : Nat) : relM ps (i + 1) 0 = relM ps i ps.length := by
  unfold relM
  refine List.map_congr_left fun k _ => ?_
  by_cases h : k < i
  · rw [if_pos (by omega), if_pos h]
  · by_cases h' : k = i
    · subst h'; rw [if_pos (by omega), if_neg h, if_pos rfl]
    · rw [if_neg (by omega), if_neg h, if_neg h']
      by_cases h2 : k = i + 1
      · rw [if_pos h2]; rfl
      · rw [if_neg h2]
theorem relM_end (ps : List (Int × List Int)) : relM ps ps.length 0 = relL ps := by
  unfold relM relL
  refine List.map_congr_left fun k hk => ?_
  rw [if_pos (List.mem_range.1 hk)]
theorem relM_get (ps : List (Int × List Int)) (i j : Nat) (hi : i < ps.length) : (relM ps i j).getD i 0 = relK ps i j := by simp [relM, hi]
theorem relM_same {ps : List (Int × List Int)} {i j : Nat} (h : relK ps i (j + 1) = relK ps i j) : relM ps i (j + 1) = relM ps i j := by
  unfold relM; rw [h]
theorem relM_set (ps : List (Int × List Int)) (i j : Nat) (_hi : i < ps.length) : (relM ps i j).set i (relK ps i (j + 1)) = relM ps i (j + 1) := by
  apply List.ext_getElem
  · simp [relM]
  · intro k h1 h2
    rw [List.getElem_set]
    simp only [relM, List.getElem_map, List.getElem_range]
    by_cases h : i = k
    · subst h; simp
    · rw [if_neg h]
      by_cases h' : k < i
      · rw [if_pos h', if_pos h']
      · rw [if_neg h', if_neg h', if_neg (fun e => h e.symm), if_neg (fun e => h e.symm)]
end Go.Vc
namespace Go.Proofs.YtoolpnkcmlebkaaGreat
open Go.Vc
def codeL (ps : List (Int × List Int)) : Int := if codeS ps = 0 ∧ 6 < ps.length then 3 else codeS ps
theorem codeS_zero {ps : List (Int × List Int)} (h : codeS ps = 0) : ∀ q ∈ ps, posetOk q.1 q.2 = true := by
  unfold codeS at h
  split at h
  · omega
  · rename_i h1
    intro q hq
    rw [Bool.not_eq_true, List.any_eq_false] at h1
    have := h1 q hq
    simpa using this
theorem codeL_zero {ps : List (Int × List Int)} (h : codeL ps = 0) : (∀ q ∈ ps, posetOk q.1 q.2 = true) ∧ ps.length ≤ 6 := by
  unfold codeL at h
  split at h
  · omega
  · rename_i h1
    refine ⟨codeS_zero h, ?_⟩
    rcases Nat.lt_or_ge 6 ps.length with h2 | h2
    · exact absurd ⟨h, h2⟩ h1
    · exact h2
theorem frP_po {ps : List (Int × List Int)} (h : ∀ q ∈ ps, posetOk q.1 q.2 = true) {i : Nat} (hi : i < ps.length) : Po (frP ps i) ∧ ps[i].1 = ((frP ps i).n : Int) ∧ ps[i].2 = nats (frP ps i).a := by
  have e : ps.getD i (0, []) = ps[i] := by simp [List.getD_eq_getElem?_getD, hi]
  unfold frP
  rw [e]
  exact posetOk_po (h _ (List.getElem_mem hi))
theorem rel_ok {ps : List (Int × List Int)} (hl : ps.length ≤ 6) : (⟨ps.length, relL ps⟩ : Fr).ok := by
  refine ⟨by show ps.length ≤ 8; omega, by simp [relL], fun x hx => ?_⟩
  obtain ⟨i, _, rfl⟩ := List.mem_map.1 hx
  exact relK_lt _ _ _
theorem best_within {ps : List (Int × List Int)} (hl : ps.length ≤ 6) {i : Nat} : decide (sdiff ((relL ps).getD i 0) (invC (relL ps) ps.length i) = 0) = bestB ps i := by
  rw [Bool.eq_iff_iff, decide_eq_true_eq, sdiff_eq_zero]
  unfold bestB
  simp only [List.all_eq_true, List.mem_range, Bool.or_eq_true, Bool.not_eq_true']
  constructor
  · intro h j hj
    cases hb : ((relL ps).getD i 0).testBit j
    · exact .inl rfl
    · have := h j hb
      rw [invC_bit, Bool.and_eq_true] at this
      exact .inr this.2
  · intro h j hb
    have hj := (fr_bit_lt (rel_ok hl) (x := i) (y := j) hb).2
    rw [invC_bit, Bool.and_eq_true, decide_eq_true_eq]
    refine ⟨hj, ?_⟩
    rcases h j hj with h1 | h1
    · rw [h1] at hb; cases hb
    · exact h1
theorem ok_spec_l34List {v : Value} {w : World} {ps : List (Int × List Int)} (hs : SlP w v ps) : Ret Tryz.prog f_spec_l34List #[v] w (.int .i64 (codeL ps)) := by
  apply c_spec_l34List; unfold S_spec_l34List
  refine iRet (ok_spec_l34Code hs) fun w1 h1 => ?_
  have hs1 := hs.ext h1
  unfold codeL
  refine iJnB (decide (codeS ps = 0) && decide (6 < ps.length)) w1 (fun J hJ => ?_) (fun w3 h3 => ?_)
  · (repeat first
    | (with_reducible first | refine iFa ?_ | refine iNil ?_ | refine iNilF ?_ | refine iLd (by assumption) ?_ | refine iLenN (by assumption) ?_ | refine iLenI (by assumption) ?_ | refine iLenS (by assumption) ?_ | refine iLenL ?_ | refine iEq ?_ | refine iNe ?_ | refine iLt ?_ | refine iLe ?_ | refine iNot ?_ | refine iPick ?_ | refine iE20 ?_ | refine iE21 ?_ | refine iE30 ?_ | refine iE31 ?_ | refine iE32 ?_ | refine iJn ?_)
    | ((with_reducible show xLd _ _ _); refine iLdB (by assumption) (by first | rfl | simp) ?_) | ((with_reducible refine iLdA (by assumption) ?_ ?_); rfl)
    | ((with_reducible refine iIaNN (by assumption) ?_ (fun pa_ hpa_ => ?_)); omega) | ((with_reducible refine iIaN (by assumption) ?_ (fun pa_ hpa_ => ?_)); omega)
    | ((with_reducible refine iIaI (by assumption) ?_ ?_ (fun pa_ hpa_ => ?_)); omega; omega) | ((with_reducible refine iAdd ?_ ?_); omega) | ((with_reducible refine iSub ?_ ?_); omega)
    | ((with_reducible show xEx _ _ _); refine iEx (by rfl) ?_) | ((with_reducible refine fun (_ : Nat → Value) => ?_); (try simp only [gx])))
    refine iCnd (fun h => ?_) (fun h => ?_)
    · rw [h, Bool.true_and] at hJ
      refine iLenP hs1 ?_
      (repeat first
    | (with_reducible first | refine iFa ?_ | refine iNil ?_ | refine iNilF ?_ | refine iLd (by assumption) ?_ | refine iLenN (by assumption) ?_ | refine iLenI (by assumption) ?_ | refine iLenS (by assumption) ?_ | refine iLenL ?_ | refine iEq ?_ | refine iNe ?_ | refine iLt ?_ | refine iLe ?_ | refine iNot ?_ | refine iPick ?_ | refine iE20 ?_ | refine iE21 ?_ | refine iE30 ?_ | refine iE31 ?_ | refine iE32 ?_ | refine iJn ?_)
    | ((with_reducible show xLd _ _ _); refine iLdB (by assumption) (by first | rfl | simp) ?_) | ((with_reducible refine iLdA (by assumption) ?_ ?_); rfl)
    | ((with_reducible refine iIaNN (by assumption) ?_ (fun pa_ hpa_ => ?_)); omega) | ((with_reducible refine iIaN (by assumption) ?_ (fun pa_ hpa_ => ?_)); omega)
    | ((with_reducible refine iIaI (by assumption) ?_ ?_ (fun pa_ hpa_ => ?_)); omega; omega) | ((with_reducible refine iAdd ?_ ?_); omega) | ((with_reducible refine iSub ?_ ?_); omega)
    | ((with_reducible show xEx _ _ _); refine iEx (by rfl) ?_) | ((with_reducible refine fun (_ : Nat → Value) => ?_); (try simp only [gx])))
      have e : decide ((6 : Int) < (ps.length : Nat)) = decide (6 < ps.length) := decide_eq_decide.2 (by omega)
      rw [e]
      exact hJ w1 (Ext.refl _)
    · rw [h, Bool.false_and] at hJ
      exact hJ w1 (Ext.refl _)
  · (repeat first
    | (with_reducible first | refine iFa ?_ | refine iNil ?_ | refine iNilF ?_ | refine iLd (by assumption) ?_ | refine iLenN (by assumption) ?_ | refine iLenI (by assumption) ?_ | refine iLenS (by assumption) ?_ | refine iLenL ?_ | refine iEq ?_ | refine iNe ?_ | refine iLt ?_ | refine iLe ?_ | refine iNot ?_ | refine iPick ?_ | refine iE20 ?_ | refine iE21 ?_ | refine iE30 ?_ | refine iE31 ?_ | refine iE32 ?_ | refine iJn ?_)
    | ((with_reducible show xLd _ _ _); refine iLdB (by assumption) (by first | rfl | simp) ?_) | ((with_reducible refine iLdA (by assumption) ?_ ?_); rfl)
    | ((with_reducible refine iIaNN (by assumption) ?_ (fun pa_ hpa_ => ?_)); omega) | ((with_reducible refine iIaN (by assumption) ?_ (fun pa_ hpa_ => ?_)); omega)
    | ((with_reducible refine iIaI (by assumption) ?_ ?_ (fun pa_ hpa_ => ?_)); omega; omega) | ((with_reducible refine iAdd ?_ ?_); omega) | ((with_reducible refine iSub ?_ ?_); omega)
    | ((with_reducible show xEx _ _ _); refine iEx (by rfl) ?_) | ((with_reducible refine fun (_ : Nat → Value) => ?_); (try simp only [gx])))
    refine iCnd (fun h => ?_) (fun h => ?_)
    · rw [Bool.and_eq_true, decide_eq_true_eq, decide_eq_true_eq] at h
      rw [if_pos h]; exact ⟨rfl, h1.trans h3⟩
    · rw [if_neg (fun hh => by rw [decide_eq_true hh.1, decide_eq_true hh.2] at h; cases h)]
      exact ⟨rfl, h1.trans h3⟩
theorem ok_impl_underCode {v : Value} {w : World} {ps : List (Int × List Int)} (hs : SlP w v ps) : Ret Tryz.prog f_impl_underCode #[v] w (.int .i64 (codeL ps)) := by
  apply c_impl_underCode; unfold S_impl_underCode
  refine iRet (ok_impl_sixCode hs) fun w1 h1 => ?_
  have hs1 := hs.ext h1
  unfold codeL
  refine iJnB (decide (codeS ps = 0) && decide (6 < ps.length)) w1 (fun J hJ => ?_) (fun w3 h3 => ?_)
  · (repeat first
    | (with_reducible first | refine iFa ?_ | refine iNil ?_ | refine iNilF ?_ | refine iLd (by assumption) ?_ | refine iLenN (by assumption) ?_ | refine iLenI (by assumption) ?_ | refine iLenS (by assumption) ?_ | refine iLenL ?_ | refine iEq ?_ | refine iNe ?_ | refine iLt ?_ | refine iLe ?_ | refine iNot ?_ | refine iPick ?_ | refine iE20 ?_ | refine iE21 ?_ | refine iE30 ?_ | refine iE31 ?_ | refine iE32 ?_ | refine iJn ?_)
    | ((with_reducible show xLd _ _ _); refine iLdB (by assumption) (by first | rfl | simp) ?_) | ((with_reducible refine iLdA (by assumption) ?_ ?_); rfl)
    | ((with_reducible refine iIaNN (by assumption) ?_ (fun pa_ hpa_ => ?_)); omega) | ((with_reducible refine iIaN (by assumption) ?_ (fun pa_ hpa_ => ?_)); omega)
    | ((with_reducible refine iIaI (by assumption) ?_ ?_ (fun pa_ hpa_ => ?_)); omega; omega) | ((with_reducible refine iAdd ?_ ?_); omega) | ((with_reducible refine iSub ?_ ?_); omega)
    | ((with_reducible show xEx _ _ _); refine iEx (by rfl) ?_) | ((with_reducible refine fun (_ : Nat → Value) => ?_); (try simp only [gx])))
    refine iCnd (fun h => ?_) (fun h => ?_)
    · rw [h, Bool.true_and] at hJ
      refine iLenP hs1 ?_
      (repeat first
    | (with_reducible first | refine iFa ?_ | refine iNil ?_ | refine iNilF ?_ | refine iLd (by assumption) ?_ | refine iLenN (by assumption) ?_ | refine iLenI (by assumption) ?_ | refine iLenS (by assumption) ?_ | refine iLenL ?_ | refine iEq ?_ | refine iNe ?_ | refine iLt ?_ | refine iLe ?_ | refine iNot ?_ | refine iPick ?_ | refine iE20 ?_ | refine iE21 ?_ | refine iE30 ?_ | refine iE31 ?_ | refine iE32 ?_ | refine iJn ?_)
    | ((with_reducible show xLd _ _ _); refine iLdB (by assumption) (by first | rfl | simp) ?_) | ((with_reducible refine iLdA (by assumption) ?_ ?_); rfl)
    | ((with_reducible refine iIaNN (by assumption) ?_ (fun pa_ hpa_ => ?_)); omega) | ((with_reducible refine iIaN (by assumption) ?_ (fun pa_ hpa_ => ?_)); omega)
    | ((with_reducible refine iIaI (by assumption) ?_ ?_ (fun pa_ hpa_ => ?_)); omega; omega) | ((with_reducible refine iAdd ?_ ?_); omega) | ((with_reducible refine iSub ?_ ?_); omega)
    | ((with_reducible show xEx _ _ _); refine iEx (by rfl) ?_) | ((with_reducible refine fun (_ : Nat → Value) => ?_); (try simp only [gx])))
      have e : decide ((6 : Int) < (ps.length : Nat)) = decide (6 < ps.length) := decide_eq_decide.2 (by omega)
      rw [e]
      exact hJ w1 (Ext.refl _)
    · rw [h, Bool.false_and] at hJ
      exact hJ w1 (Ext.refl _)
  · (repeat first
    | (with_reducible first | refine iFa ?_ | refine iNil ?_ | refine iNilF ?_ | refine iLd (by assumption) ?_ | refine iLenN (by assumption) ?_ | refine iLenI (by assumption) ?_ | refine iLenS (by assumption) ?_ | refine iLenL ?_ | refine iEq ?_ | refine iNe ?_ | refine iLt ?_ | refine iLe ?_ | refine iNot ?_ | refine iPick ?_ | refine iE20 ?_ | refine iE21 ?_ | refine iE30 ?_ | refine iE31 ?_ | refine iE32 ?_ | refine iJn ?_)
    | ((with_reducible show xLd _ _ _); refine iLdB (by assumption) (by first | rfl | simp) ?_) | ((with_reducible refine iLdA (by assumption) ?_ ?_); rfl)
    | ((with_reducible refine iIaNN (by assumption) ?_ (fun pa_ hpa_ => ?_)); omega) | ((with_reducible refine iIaN (by assumption) ?_ (fun pa_ hpa_ => ?_)); omega)
    | ((with_reducible refine iIaI (by assumption) ?_ ?_ (fun pa_ hpa_ => ?_)); omega; omega) | ((with_reducible refine iAdd ?_ ?_); omega) | ((with_reducible refine iSub ?_ ?_); omega)
    | ((with_reducible show xEx _ _ _); refine iEx (by rfl) ?_) | ((with_reducible refine fun (_ : Nat → Value) => ?_); (try simp only [gx])))
    refine iCnd (fun h => ?_) (fun h => ?_)
    · rw [Bool.and_eq_true, decide_eq_true_eq, decide_eq_true_eq] at h
      rw [if_pos h]; exact ⟨rfl, h1.trans h3⟩
    · rw [if_neg (fun hh => by rw [decide_eq_true hh.1, decide_eq_true hh.2] at h; cases h)]
      exact ⟨rfl, h1.trans h3⟩
theorem ok_spec_l34Relation {v : Value} {w : World} {ps : List (Int × List Int)} (hs : SlP w v ps) (hok : ∀ q ∈ ps, posetOk q.1 q.2 = true) (hl : ps.length ≤ 6) : Cal Tryz.prog f_spec_l34Relation #[v] w fun r w' => Ext w w' ∧ Ow w.heap.size t_i64 w' r (ints (nats (relL ps))) := by
  apply c_spec_l34Relation; unfold S_spec_l34Relation
  refine iBs0 fun vo w1 _ h1 ho => ?_
  refine iLp (fun s : Value × Nat => [s.1, .int .i64 (s.2 : Int)]) (fun s w' => s.2 ≤ ps.length ∧ Ext w w' ∧ Ow w.heap.size t_i64 w' s.1 (ints (nats ((List.range s.2).map fun i => relK ps i ps.length)))) (fun s => ps.length - s.2) (vo, 0) rfl ⟨Nat.zero_le _, h1, ho⟩ ?_
  rintro ⟨vo, i⟩ w3 Kn ⟨hi, h3, ho3⟩ hKn
  have hi : i ≤ ps.length := hi
  have ho3 : Ow w.heap.size t_i64 w3 vo (ints (nats ((List.range i).map fun i => relK ps i ps.length))) := ho3
  have hs3 := hs.ext h3
  (repeat first
    | (with_reducible first | refine iFa ?_ | refine iNil ?_ | refine iNilF ?_ | refine iLd (by assumption) ?_ | refine iLenN (by assumption) ?_ | refine iLenI (by assumption) ?_ | refine iLenS (by assumption) ?_ | refine iLenL ?_ | refine iEq ?_ | refine iNe ?_ | refine iLt ?_ | refine iLe ?_ | refine iNot ?_ | refine iPick ?_ | refine iE20 ?_ | refine iE21 ?_ | refine iE30 ?_ | refine iE31 ?_ | refine iE32 ?_ | refine iJn ?_)
    | ((with_reducible show xLd _ _ _); refine iLdB (by assumption) (by first | rfl | simp) ?_) | ((with_reducible refine iLdA (by assumption) ?_ ?_); rfl)
    | ((with_reducible refine iIaNN (by assumption) ?_ (fun pa_ hpa_ => ?_)); omega) | ((with_reducible refine iIaN (by assumption) ?_ (fun pa_ hpa_ => ?_)); omega)
    | ((with_reducible refine iIaI (by assumption) ?_ ?_ (fun pa_ hpa_ => ?_)); omega; omega) | ((with_reducible refine iAdd ?_ ?_); omega) | ((with_reducible refine iSub ?_ ?_); omega)
    | ((with_reducible show xEx _ _ _); refine iEx (by rfl) ?_) | ((with_reducible refine fun (_ : Nat → Value) => ?_); (try simp only [gx])))
  refine iLenP hs3 ?_
  (repeat first
    | (with_reducible first | refine iFa ?_ | refine iNil ?_ | refine iNilF ?_ | refine iLd (by assumption) ?_ | refine iLenN (by assumption) ?_ | refine iLenI (by assumption) ?_ | refine iLenS (by assumption) ?_ | refine iLenL ?_ | refine iEq ?_ | refine iNe ?_ | refine iLt ?_ | refine iLe ?_ | refine iNot ?_ | refine iPick ?_ | refine iE20 ?_ | refine iE21 ?_ | refine iE30 ?_ | refine iE31 ?_ | refine iE32 ?_ | refine iJn ?_)
    | ((with_reducible show xLd _ _ _); refine iLdB (by assumption) (by first | rfl | simp) ?_) | ((with_reducible refine iLdA (by assumption) ?_ ?_); rfl)
    | ((with_reducible refine iIaNN (by assumption) ?_ (fun pa_ hpa_ => ?_)); omega) | ((with_reducible refine iIaN (by assumption) ?_ (fun pa_ hpa_ => ?_)); omega)
    | ((with_reducible refine iIaI (by assumption) ?_ ?_ (fun pa_ hpa_ => ?_)); omega; omega) | ((with_reducible refine iAdd ?_ ?_); omega) | ((with_reducible refine iSub ?_ ?_); omega)
    | ((with_reducible show xEx _ _ _); refine iEx (by rfl) ?_) | ((with_reducible refine fun (_ : Nat → Value) => ?_); (try simp only [gx])))
  refine iCndP (fun h4 => ?_) (fun h4 => ?_)
  · have hi1 : i < ps.length := by omega
    obtain ⟨hPi, eni, eli⟩ := frP_po hok hi1
    refine iLp (fun k : Nat => [.int .i64 ((relK ps i k : Nat) : Int), .int .i64 (k : Int)]) (fun k w' => k ≤ ps.length ∧ Ext w3 w') (fun k => ps.length - k) 0 rfl ⟨Nat.zero_le _, Ext.refl _⟩ ?_
    rintro k w5 Kn5 ⟨hk, h5⟩ hKn5
    have hs5 := hs3.ext h5
    (repeat first
    | (with_reducible first | refine iFa ?_ | refine iNil ?_ | refine iNilF ?_ | refine iLd (by assumption) ?_ | refine iLenN (by assumption) ?_ | refine iLenI (by assumption) ?_ | refine iLenS (by assumption) ?_ | refine iLenL ?_ | refine iEq ?_ | refine iNe ?_ | refine iLt ?_ | refine iLe ?_ | refine iNot ?_ | refine iPick ?_ | refine iE20 ?_ | refine iE21 ?_ | refine iE30 ?_ | refine iE31 ?_ | refine iE32 ?_ | refine iJn ?_)
    | ((with_reducible show xLd _ _ _); refine iLdB (by assumption) (by first | rfl | simp) ?_) | ((with_reducible refine iLdA (by assumption) ?_ ?_); rfl)
    | ((with_reducible refine iIaNN (by assumption) ?_ (fun pa_ hpa_ => ?_)); omega) | ((with_reducible refine iIaN (by assumption) ?_ (fun pa_ hpa_ => ?_)); omega)
    | ((with_reducible refine iIaI (by assumption) ?_ ?_ (fun pa_ hpa_ => ?_)); omega; omega) | ((with_reducible refine iAdd ?_ ?_); omega) | ((with_reducible refine iSub ?_ ?_); omega)
    | ((with_reducible show xEx _ _ _); refine iEx (by rfl) ?_) | ((with_reducible refine fun (_ : Nat → Value) => ?_); (try simp only [gx])))
    refine iLenP hs5 ?_
    (repeat first
    | (with_reducible first | refine iFa ?_ | refine iNil ?_ | refine iNilF ?_ | refine iLd (by assumption) ?_ | refine iLenN (by assumption) ?_ | refine iLenI (by assumption) ?_ | refine iLenS (by assumption) ?_ | refine iLenL ?_ | refine iEq ?_ | refine iNe ?_ | refine iLt ?_ | refine iLe ?_ | refine iNot ?_ | refine iPick ?_ | refine iE20 ?_ | refine iE21 ?_ | refine iE30 ?_ | refine iE31 ?_ | refine iE32 ?_ | refine iJn ?_)
    | ((with_reducible show xLd _ _ _); refine iLdB (by assumption) (by first | rfl | simp) ?_) | ((with_reducible refine iLdA (by assumption) ?_ ?_); rfl)
    | ((with_reducible refine iIaNN (by assumption) ?_ (fun pa_ hpa_ => ?_)); omega) | ((with_reducible refine iIaN (by assumption) ?_ (fun pa_ hpa_ => ?_)); omega)
    | ((with_reducible refine iIaI (by assumption) ?_ ?_ (fun pa_ hpa_ => ?_)); omega; omega) | ((with_reducible refine iAdd ?_ ?_); omega) | ((with_reducible refine iSub ?_ ?_); omega)
    | ((with_reducible show xEx _ _ _); refine iEx (by rfl) ?_) | ((with_reducible refine fun (_ : Nat → Value) => ?_); (try simp only [gx])))
    refine iCndP (fun h6 => ?_) (fun h6 => ?_)
    · have hk1 : k < ps.length := by omega
      obtain ⟨hPk, enk, elk⟩ := frP_po hok hk1
      have hsu := relK_succ ps i k
      have hlt := Nat.lt_of_lt_of_le (relK_lt ps i k) (Nat.pow_le_pow_right (by omega) (show k ≤ 8 by omega) : 2 ^ k ≤ 2 ^ 8)
      have h2k : 2 ^ k < 2 ^ 8 := Nat.pow_lt_pow_right (by omega) (by omega)
      refine iIaP hs5 hi1 fun b o u g1 g2 g3 => ?_
      refine iLd2 g1 g2 ?_
      refine iIaP hs5 hk1 fun b' o' u' g1' g2' g3' => ?_
      refine iLd2 g1' g2' ?_
      rw [eni, enk]
      rw [eli] at g3
      rw [elk] at g3'
      refine iRetQ (fun w' h' => ok_spec_l34Telling hPi hPk (SlI.ext g3 h') (SlI.ext g3' h')) ?_
      (repeat first
    | (with_reducible first | refine iFa ?_ | refine iNil ?_ | refine iNilF ?_ | refine iLd (by assumption) ?_ | refine iLenN (by assumption) ?_ | refine iLenI (by assumption) ?_ | refine iLenS (by assumption) ?_ | refine iLenL ?_ | refine iEq ?_ | refine iNe ?_ | refine iLt ?_ | refine iLe ?_ | refine iNot ?_ | refine iPick ?_ | refine iE20 ?_ | refine iE21 ?_ | refine iE30 ?_ | refine iE31 ?_ | refine iE32 ?_ | refine iJn ?_)
    | ((with_reducible show xLd _ _ _); refine iLdB (by assumption) (by first | rfl | simp) ?_) | ((with_reducible refine iLdA (by assumption) ?_ ?_); rfl)
    | ((with_reducible refine iIaNN (by assumption) ?_ (fun pa_ hpa_ => ?_)); omega) | ((with_reducible refine iIaN (by assumption) ?_ (fun pa_ hpa_ => ?_)); omega)
    | ((with_reducible refine iIaI (by assumption) ?_ ?_ (fun pa_ hpa_ => ?_)); omega; omega) | ((with_reducible refine iAdd ?_ ?_); omega) | ((with_reducible refine iSub ?_ ?_); omega)
    | ((with_reducible show xEx _ _ _); refine iEx (by rfl) ?_) | ((with_reducible refine fun (_ : Nat → Value) => ?_); (try simp only [gx])))
      intro w6 h7
      have e : decide (((tell (frP ps i) (frP ps k) : Nat) : Int) = 0) = decide (tell (frP ps i) (frP ps k) = 0) := decide_eq_decide.2 (by omega)
      rw [e]
      refine iCndP (fun h8 => ?_) (fun h8 => ?_)
      · rw [if_pos h8] at hsu
        refine iRet (ok_spec_l01One k (by omega) w6) fun w7 h9 => ?_
        refine iBOr (by omega) (by omega) ?_
        rw [← hsu]
        (repeat first
    | (with_reducible first | refine iFa ?_ | refine iNil ?_ | refine iNilF ?_ | refine iLd (by assumption) ?_ | refine iLenN (by assumption) ?_ | refine iLenI (by assumption) ?_ | refine iLenS (by assumption) ?_ | refine iLenL ?_ | refine iEq ?_ | refine iNe ?_ | refine iLt ?_ | refine iLe ?_ | refine iNot ?_ | refine iPick ?_ | refine iE20 ?_ | refine iE21 ?_ | refine iE30 ?_ | refine iE31 ?_ | refine iE32 ?_ | refine iJn ?_)
    | ((with_reducible show xLd _ _ _); refine iLdB (by assumption) (by first | rfl | simp) ?_) | ((with_reducible refine iLdA (by assumption) ?_ ?_); rfl)
    | ((with_reducible refine iIaNN (by assumption) ?_ (fun pa_ hpa_ => ?_)); omega) | ((with_reducible refine iIaN (by assumption) ?_ (fun pa_ hpa_ => ?_)); omega)
    | ((with_reducible refine iIaI (by assumption) ?_ ?_ (fun pa_ hpa_ => ?_)); omega; omega) | ((with_reducible refine iAdd ?_ ?_); omega) | ((with_reducible refine iSub ?_ ?_); omega)
    | ((with_reducible show xEx _ _ _); refine iEx (by rfl) ?_) | ((with_reducible refine fun (_ : Nat → Value) => ?_); (try simp only [gx])))
        exact hKn5 (k + 1) _ ⟨by omega, h5.trans (h7.trans h9)⟩ (by omega)
      · rw [if_neg h8] at hsu
        (repeat first
    | (with_reducible first | refine iFa ?_ | refine iNil ?_ | refine iNilF ?_ | refine iLd (by assumption) ?_ | refine iLenN (by assumption) ?_ | refine iLenI (by assumption) ?_ | refine iLenS (by assumption) ?_ | refine iLenL ?_ | refine iEq ?_ | refine iNe ?_ | refine iLt ?_ | refine iLe ?_ | refine iNot ?_ | refine iPick ?_ | refine iE20 ?_ | refine iE21 ?_ | refine iE30 ?_ | refine iE31 ?_ | refine iE32 ?_ | refine iJn ?_)
    | ((with_reducible show xLd _ _ _); refine iLdB (by assumption) (by first | rfl | simp) ?_) | ((with_reducible refine iLdA (by assumption) ?_ ?_); rfl)
    | ((with_reducible refine iIaNN (by assumption) ?_ (fun pa_ hpa_ => ?_)); omega) | ((with_reducible refine iIaN (by assumption) ?_ (fun pa_ hpa_ => ?_)); omega)
    | ((with_reducible refine iIaI (by assumption) ?_ ?_ (fun pa_ hpa_ => ?_)); omega; omega) | ((with_reducible refine iAdd ?_ ?_); omega) | ((with_reducible refine iSub ?_ ?_); omega)
    | ((with_reducible show xEx _ _ _); refine iEx (by rfl) ?_) | ((with_reducible refine fun (_ : Nat → Value) => ?_); (try simp only [gx])))
        rw [← hsu]
        exact hKn5 (k + 1) _ ⟨by omega, h5.trans h7⟩ (by omega)
    · obtain rfl : k = ps.length := by omega
      have ho5 := ho3.ext h5
      have hil : (ints (nats ((List.range i).map fun i => relK ps i ps.length))).length = i := by rw [ints_length, nats_length, List.length_map, List.length_range]
      refine iApp1 u_Si64 i_Si64 rfl ho5 rfl (by omega) (by omega) (h3.trans h5).size fun v' w8 ho' hg => ?_
      have e : (List.range (i + 1)).map (fun i => relK ps i ps.length) = (List.range i).map (fun i => relK ps i ps.length) ++ [relK ps i ps.length] := by rw [List.range_succ, List.map_append]; rfl
      rw [ints_snoc, ← e] at ho'
      (repeat first
    | (with_reducible first | refine iFa ?_ | refine iNil ?_ | refine iNilF ?_ | refine iLd (by assumption) ?_ | refine iLenN (by assumption) ?_ | refine iLenI (by assumption) ?_ | refine iLenS (by assumption) ?_ | refine iLenL ?_ | refine iEq ?_ | refine iNe ?_ | refine iLt ?_ | refine iLe ?_ | refine iNot ?_ | refine iPick ?_ | refine iE20 ?_ | refine iE21 ?_ | refine iE30 ?_ | refine iE31 ?_ | refine iE32 ?_ | refine iJn ?_)
    | ((with_reducible show xLd _ _ _); refine iLdB (by assumption) (by first | rfl | simp) ?_) | ((with_reducible refine iLdA (by assumption) ?_ ?_); rfl)
    | ((with_reducible refine iIaNN (by assumption) ?_ (fun pa_ hpa_ => ?_)); omega) | ((with_reducible refine iIaN (by assumption) ?_ (fun pa_ hpa_ => ?_)); omega)
    | ((with_reducible refine iIaI (by assumption) ?_ ?_ (fun pa_ hpa_ => ?_)); omega; omega) | ((with_reducible refine iAdd ?_ ?_); omega) | ((with_reducible refine iSub ?_ ?_); omega)
    | ((with_reducible show xEx _ _ _); refine iEx (by rfl) ?_) | ((with_reducible refine fun (_ : Nat → Value) => ?_); (try simp only [gx])))
      exact hKn (v', i + 1) _ ⟨by show i + 1 ≤ ps.length; omega, (h3.trans h5).grown hg (fun c hc => (ho5.blk c hc).1), ho'⟩ (by show ps.length - (i + 1) < ps.length - i; omega)
  · have : i = ps.length := by omega
    subst this
    exact ⟨h3, ho3⟩
theorem ok_impl_underRelation {v : Value} {w : World} {ps : List (Int × List Int)} (hs : SlP w v ps) (hok : ∀ q ∈ ps, posetOk q.1 q.2 = true) (hl : ps.length ≤ 6) : Cal Tryz.prog f_impl_underRelation #[v] w fun r w' => Ext w w' ∧ Ow w.heap.size t_i64 w' r (ints (nats (relL ps))) := by
  apply c_impl_underRelation; unfold S_impl_underRelation
  refine iLenP hs ?_
  refine iMk (by omega) (by omega) rfl fun br w1 hbr h1 hBr => ?_
  have hlr : w.heap.size ≤ br := by omega
  have ho1 : Ow w.heap.size t_i64 w1 (.slice (some ⟨br, 0, none⟩) ps.length ps.length) (ints (nats (relM ps 0 0))) := by
    rw [relM_zero]
    have : ints (nats (List.replicate ps.length 0)) = List.replicate ps.length (.int .i64 0) := by simp [ints, nats]
    rw [this]
    exact Ow.ofBlk hBr hlr (by simp) (by omega)
  generalize hvr : Value.slice (some ⟨br, 0, none⟩) ps.length ps.length = vr at *
  refine iLenP hs ?_
  refine iLp (fun i : Nat => [.int .i64 (i : Int)]) (fun i w' => i ≤ ps.length ∧ Ext w w' ∧ Ow w.heap.size t_i64 w' vr (ints (nats (relM ps i 0)))) (fun i => ps.length - i) 0 rfl ⟨Nat.zero_le _, h1, ho1⟩ ?_
  rintro i w3 Kn ⟨hi, h3, ho3⟩ hKn
  have hs3 := hs.ext h3
  (repeat first
    | (with_reducible first | refine iFa ?_ | refine iNil ?_ | refine iNilF ?_ | refine iLd (by assumption) ?_ | refine iLenN (by assumption) ?_ | refine iLenI (by assumption) ?_ | refine iLenS (by assumption) ?_ | refine iLenL ?_ | refine iEq ?_ | refine iNe ?_ | refine iLt ?_ | refine iLe ?_ | refine iNot ?_ | refine iPick ?_ | refine iE20 ?_ | refine iE21 ?_ | refine iE30 ?_ | refine iE31 ?_ | refine iE32 ?_ | refine iJn ?_)
    | ((with_reducible show xLd _ _ _); refine iLdB (by assumption) (by first | rfl | simp) ?_) | ((with_reducible refine iLdA (by assumption) ?_ ?_); rfl)
    | ((with_reducible refine iIaNN (by assumption) ?_ (fun pa_ hpa_ => ?_)); omega) | ((with_reducible refine iIaN (by assumption) ?_ (fun pa_ hpa_ => ?_)); omega)
    | ((with_reducible refine iIaI (by assumption) ?_ ?_ (fun pa_ hpa_ => ?_)); omega; omega) | ((with_reducible refine iAdd ?_ ?_); omega) | ((with_reducible refine iSub ?_ ?_); omega)
    | ((with_reducible show xEx _ _ _); refine iEx (by rfl) ?_) | ((with_reducible refine fun (_ : Nat → Value) => ?_); (try simp only [gx])))
  refine iCndP (fun h4 => ?_) (fun h4 => ?_)
  · have hi1 : i < ps.length := by omega
    obtain ⟨hPi, eni, eli⟩ := frP_po hok hi1
    refine iIaP hs hi1 fun b o u g1 g2 g3 => ?_
    refine iLd2 (h3.cell g1) (h3.cell g2) ?_
    have huc : isCell u = true := by obtain ⟨a, c, rfl, _⟩ := id g3; rfl
    refine iNew fun b5 w4 hb5 h5 hB5 => ?_
    have h34 := h3.trans h5
    have hlb5 : w.heap.size ≤ b5 := by have := h3.size; omega
    have ho4 := ho3.ext h5
    refine iStAB hB5 rfl rfl (by
      intro y hy
      simp at hy
      rcases hy with rfl | rfl
      · rfl
      · exact huc) fun w5 hu hB5' => ?_
    obtain ⟨e5, hne5, hB5⟩ : ∃ e, t_i64 ≠ e ∧ Blk e w5 b5 [.int .i64 ps[i].1, u] := ⟨_, by decide, hB5'⟩
    have hX5 : Ext w w5 := h34.upd hu hlb5
    have ho5 := ho4.upd hu (fun e => by have := (ho3.blk b5 e).2; omega)
    refine iLenP (hs.ext hX5) ?_
    refine iLp (fun k : Nat => [.int .i64 (k : Int)]) (fun k w' => k ≤ ps.length ∧ Ext w w' ∧ Blk e5 w' b5 [.int .i64 ps[i].1, u] ∧ Ow w.heap.size t_i64 w' vr (ints (nats (relM ps i k)))) (fun k => ps.length - k) 0 rfl ⟨Nat.zero_le _, hX5, hB5, ho5⟩ ?_
    rintro k w7 Kn7 ⟨hk, hX7, hB7, ho7⟩ hKn7
    have hs7 := hs.ext hX7
    (repeat first
    | (with_reducible first | refine iFa ?_ | refine iNil ?_ | refine iNilF ?_ | refine iLd (by assumption) ?_ | refine iLenN (by assumption) ?_ | refine iLenI (by assumption) ?_ | refine iLenS (by assumption) ?_ | refine iLenL ?_ | refine iEq ?_ | refine iNe ?_ | refine iLt ?_ | refine iLe ?_ | refine iNot ?_ | refine iPick ?_ | refine iE20 ?_ | refine iE21 ?_ | refine iE30 ?_ | refine iE31 ?_ | refine iE32 ?_ | refine iJn ?_)
    | ((with_reducible show xLd _ _ _); refine iLdB (by assumption) (by first | rfl | simp) ?_) | ((with_reducible refine iLdA (by assumption) ?_ ?_); rfl)
    | ((with_reducible refine iIaNN (by assumption) ?_ (fun pa_ hpa_ => ?_)); omega) | ((with_reducible refine iIaN (by assumption) ?_ (fun pa_ hpa_ => ?_)); omega)
    | ((with_reducible refine iIaI (by assumption) ?_ ?_ (fun pa_ hpa_ => ?_)); omega; omega) | ((with_reducible refine iAdd ?_ ?_); omega) | ((with_reducible refine iSub ?_ ?_); omega)
    | ((with_reducible show xEx _ _ _); refine iEx (by rfl) ?_) | ((with_reducible refine fun (_ : Nat → Value) => ?_); (try simp only [gx])))
    refine iCndP (fun h6 => ?_) (fun h6 => ?_)
    · have hk1 : k < ps.length := by omega
      obtain ⟨hPk, enk, elk⟩ := frP_po hok hk1
      have hsu := relK_succ ps i k
      have hlt := Nat.lt_of_lt_of_le (relK_lt ps i k) (Nat.pow_le_pow_right (by omega) (show k ≤ 8 by omega) : 2 ^ k ≤ 2 ^ 8)
      have h2k : 2 ^ k < 2 ^ 8 := Nat.pow_lt_pow_right (by omega) (by omega)
      refine iIaP hs hk1 fun b' o' u' g1' g2' g3' => ?_
      refine iLd2 (hX7.cell g1') (hX7.cell g2') ?_
      have huc' : isCell u' = true := by obtain ⟨a, c, rfl, _⟩ := id g3'; rfl
      refine iNew fun b7 w8 hb7 h7 hB8 => ?_
      have hlb7 : w.heap.size ≤ b7 := by have := hX7.size; omega
      refine iStAB hB8 rfl rfl (by
        intro y hy
        simp at hy
        rcases hy with rfl | rfl
        · rfl
        · exact huc') fun w9 hu9 hB9 => ?_
      have hX79 : Ext w7 w9 := h7.upd hu9 (by omega)
      have hX9 : Ext w w9 := hX7.trans hX79
      have hB59 := hB7.ext hX79
      have ho9 := ho7.ext hX79
      have hu79 := SlI.ext g3 hX9
      have hu79' := SlI.ext g3' hX9
      have hB9 : Blk _ w9 b7 [.int .i64 ps[k].1, u'] := hB9
      (repeat first
    | (with_reducible first | refine iFa ?_ | refine iNil ?_ | refine iNilF ?_ | refine iLd (by assumption) ?_ | refine iLenN (by assumption) ?_ | refine iLenI (by assumption) ?_ | refine iLenS (by assumption) ?_ | refine iLenL ?_ | refine iEq ?_ | refine iNe ?_ | refine iLt ?_ | refine iLe ?_ | refine iNot ?_ | refine iPick ?_ | refine iE20 ?_ | refine iE21 ?_ | refine iE30 ?_ | refine iE31 ?_ | refine iE32 ?_ | refine iJn ?_)
    | ((with_reducible show xLd _ _ _); refine iLdB (by assumption) (by first | rfl | simp) ?_) | ((with_reducible refine iLdA (by assumption) ?_ ?_); rfl)
    | ((with_reducible refine iIaNN (by assumption) ?_ (fun pa_ hpa_ => ?_)); omega) | ((with_reducible refine iIaN (by assumption) ?_ (fun pa_ hpa_ => ?_)); omega)
    | ((with_reducible refine iIaI (by assumption) ?_ ?_ (fun pa_ hpa_ => ?_)); omega; omega) | ((with_reducible refine iAdd ?_ ?_); omega) | ((with_reducible refine iSub ?_ ?_); omega)
    | ((with_reducible show xEx _ _ _); refine iEx (by rfl) ?_) | ((with_reducible refine fun (_ : Nat → Value) => ?_); (try simp only [gx])))
      rw [eni, enk]
      rw [eli] at hu79
      rw [elk] at hu79'
      refine iRet (ok_impl_isUnder hPi hPk hu79 hu79') fun w10 hA => ?_
      have hX10 := hX9.trans hA
      have ho10 := ho9.ext hA
      have hB510 := hB59.ext hA
      refine iCndP (fun h8 => ?_) (fun h8 => ?_)
      · rw [if_pos h8] at hsu
        have hsl10 : SlN w10 vr (relM ps i k) := ho10.sl
        have hml := relM_len ps i k
        (repeat first
    | (with_reducible first | refine iFa ?_ | refine iNil ?_ | refine iNilF ?_ | refine iLd (by assumption) ?_ | refine iLenN (by assumption) ?_ | refine iLenI (by assumption) ?_ | refine iLenS (by assumption) ?_ | refine iLenL ?_ | refine iEq ?_ | refine iNe ?_ | refine iLt ?_ | refine iLe ?_ | refine iNot ?_ | refine iPick ?_ | refine iE20 ?_ | refine iE21 ?_ | refine iE30 ?_ | refine iE31 ?_ | refine iE32 ?_ | refine iJn ?_)
    | ((with_reducible show xLd _ _ _); refine iLdB (by assumption) (by first | rfl | simp) ?_) | ((with_reducible refine iLdA (by assumption) ?_ ?_); rfl)
    | ((with_reducible refine iIaNN (by assumption) ?_ (fun pa_ hpa_ => ?_)); omega) | ((with_reducible refine iIaN (by assumption) ?_ (fun pa_ hpa_ => ?_)); omega)
    | ((with_reducible refine iIaI (by assumption) ?_ ?_ (fun pa_ hpa_ => ?_)); omega; omega) | ((with_reducible refine iAdd ?_ ?_); omega) | ((with_reducible refine iSub ?_ ?_); omega)
    | ((with_reducible show xEx _ _ _); refine iEx (by rfl) ?_) | ((with_reducible refine fun (_ : Nat → Value) => ?_); (try simp only [gx])))
        rw [relM_get ps i k hi1]
        refine iShlOne (by omega) ?_
        refine iBOr (by omega) (by omega) ?_
        rw [← hsu]
        have hil : (ints (nats (relM ps i k))).length = ps.length := by rw [ints_length, nats_length, hml]
        refine iIaOwE ho10 (by omega) fun bu hbu hwr => ?_
        intro w11 hC
        have ho11 := ho10.ext hC
        obtain ⟨hc1, hc2, hc3⟩ := hwr w11 _ rfl ho11
        rw [List.getElem?_eq_getElem (by omega)] at hc1
        refine iSt hc1 hc2 rfl ?_
        have ho12 := hc3 (.int .i64 ((relK ps i (k + 1) : Nat) : Int))
        rw [← ints_nats_set, relM_set ps i k hi1] at ho12
        have huu := Upd.setCell w11 bu i (.int .i64 ((relK ps i (k + 1) : Nat) : Int))
        have hX12 := (hX10.trans hC).upd huu (ho10.blk bu hbu).1
        have hB512 := (hB510.ext hC).upd huu (fun e => ho11.ne_blk (hB510.ext hC) hne5 (by rw [hbu, e]))
        intro w13 hE
        (repeat first
    | (with_reducible first | refine iFa ?_ | refine iNil ?_ | refine iNilF ?_ | refine iLd (by assumption) ?_ | refine iLenN (by assumption) ?_ | refine iLenI (by assumption) ?_ | refine iLenS (by assumption) ?_ | refine iLenL ?_ | refine iEq ?_ | refine iNe ?_ | refine iLt ?_ | refine iLe ?_ | refine iNot ?_ | refine iPick ?_ | refine iE20 ?_ | refine iE21 ?_ | refine iE30 ?_ | refine iE31 ?_ | refine iE32 ?_ | refine iJn ?_)
    | ((with_reducible show xLd _ _ _); refine iLdB (by assumption) (by first | rfl | simp) ?_) | ((with_reducible refine iLdA (by assumption) ?_ ?_); rfl)
    | ((with_reducible refine iIaNN (by assumption) ?_ (fun pa_ hpa_ => ?_)); omega) | ((with_reducible refine iIaN (by assumption) ?_ (fun pa_ hpa_ => ?_)); omega)
    | ((with_reducible refine iIaI (by assumption) ?_ ?_ (fun pa_ hpa_ => ?_)); omega; omega) | ((with_reducible refine iAdd ?_ ?_); omega) | ((with_reducible refine iSub ?_ ?_); omega)
    | ((with_reducible show xEx _ _ _); refine iEx (by rfl) ?_) | ((with_reducible refine fun (_ : Nat → Value) => ?_); (try simp only [gx])))
        exact hKn7 (k + 1) _ ⟨by omega, hX12.trans hE, hB512.ext hE, ho12.ext hE⟩ (by omega)
      · rw [if_neg h8] at hsu
        (repeat first
    | (with_reducible first | refine iFa ?_ | refine iNil ?_ | refine iNilF ?_ | refine iLd (by assumption) ?_ | refine iLenN (by assumption) ?_ | refine iLenI (by assumption) ?_ | refine iLenS (by assumption) ?_ | refine iLenL ?_ | refine iEq ?_ | refine iNe ?_ | refine iLt ?_ | refine iLe ?_ | refine iNot ?_ | refine iPick ?_ | refine iE20 ?_ | refine iE21 ?_ | refine iE30 ?_ | refine iE31 ?_ | refine iE32 ?_ | refine iJn ?_)
    | ((with_reducible show xLd _ _ _); refine iLdB (by assumption) (by first | rfl | simp) ?_) | ((with_reducible refine iLdA (by assumption) ?_ ?_); rfl)
    | ((with_reducible refine iIaNN (by assumption) ?_ (fun pa_ hpa_ => ?_)); omega) | ((with_reducible refine iIaN (by assumption) ?_ (fun pa_ hpa_ => ?_)); omega)
    | ((with_reducible refine iIaI (by assumption) ?_ ?_ (fun pa_ hpa_ => ?_)); omega; omega) | ((with_reducible refine iAdd ?_ ?_); omega) | ((with_reducible refine iSub ?_ ?_); omega)
    | ((with_reducible show xEx _ _ _); refine iEx (by rfl) ?_) | ((with_reducible refine fun (_ : Nat → Value) => ?_); (try simp only [gx])))
        refine hKn7 (k + 1) _ ⟨by omega, hX10, hB510, ?_⟩ (by omega)
        rw [relM_same hsu]; exact ho10
    · obtain rfl : k = ps.length := by omega
      (repeat first
    | (with_reducible first | refine iFa ?_ | refine iNil ?_ | refine iNilF ?_ | refine iLd (by assumption) ?_ | refine iLenN (by assumption) ?_ | refine iLenI (by assumption) ?_ | refine iLenS (by assumption) ?_ | refine iLenL ?_ | refine iEq ?_ | refine iNe ?_ | refine iLt ?_ | refine iLe ?_ | refine iNot ?_ | refine iPick ?_ | refine iE20 ?_ | refine iE21 ?_ | refine iE30 ?_ | refine iE31 ?_ | refine iE32 ?_ | refine iJn ?_)
    | ((with_reducible show xLd _ _ _); refine iLdB (by assumption) (by first | rfl | simp) ?_) | ((with_reducible refine iLdA (by assumption) ?_ ?_); rfl)
    | ((with_reducible refine iIaNN (by assumption) ?_ (fun pa_ hpa_ => ?_)); omega) | ((with_reducible refine iIaN (by assumption) ?_ (fun pa_ hpa_ => ?_)); omega)
    | ((with_reducible refine iIaI (by assumption) ?_ ?_ (fun pa_ hpa_ => ?_)); omega; omega) | ((with_reducible refine iAdd ?_ ?_); omega) | ((with_reducible refine iSub ?_ ?_); omega)
    | ((with_reducible show xEx _ _ _); refine iEx (by rfl) ?_) | ((with_reducible refine fun (_ : Nat → Value) => ?_); (try simp only [gx])))
      refine hKn (i + 1) _ ⟨by omega, hX7, ?_⟩ (by omega)
      rw [relM_row]; exact ho7
  · obtain rfl : i = ps.length := by omega
    rw [relM_end] at ho3
    exact ⟨h3, ho3⟩
def urRes (ps : List (Int × List Int)) : List Int × Int := if codeL ps = 0 then (nats (relL ps), 0) else ([], codeL ps)
theorem ok_spec_UnderRelation {v : Value} {w : World} {ps : List (Int × List Int)} (hs : SlP w v ps) : Cal Tryz.prog f_spec_UnderRelation #[v] w fun r w' => Ext w w' ∧ ∃ u, r = .tuple #[u, .int .i64 (urRes ps).2] ∧ Ow w.heap.size t_i64 w' u (ints (urRes ps).1) := by
  apply c_spec_UnderRelation; unfold S_spec_UnderRelation
  refine iRet (ok_spec_l34List hs) fun w1 h1 => ?_
  unfold urRes
  (repeat first
    | (with_reducible first | refine iFa ?_ | refine iNil ?_ | refine iNilF ?_ | refine iLd (by assumption) ?_ | refine iLenN (by assumption) ?_ | refine iLenI (by assumption) ?_ | refine iLenS (by assumption) ?_ | refine iLenL ?_ | refine iEq ?_ | refine iNe ?_ | refine iLt ?_ | refine iLe ?_ | refine iNot ?_ | refine iPick ?_ | refine iE20 ?_ | refine iE21 ?_ | refine iE30 ?_ | refine iE31 ?_ | refine iE32 ?_ | refine iJn ?_)
    | ((with_reducible show xLd _ _ _); refine iLdB (by assumption) (by first | rfl | simp) ?_) | ((with_reducible refine iLdA (by assumption) ?_ ?_); rfl)
    | ((with_reducible refine iIaNN (by assumption) ?_ (fun pa_ hpa_ => ?_)); omega) | ((with_reducible refine iIaN (by assumption) ?_ (fun pa_ hpa_ => ?_)); omega)
    | ((with_reducible refine iIaI (by assumption) ?_ ?_ (fun pa_ hpa_ => ?_)); omega; omega) | ((with_reducible refine iAdd ?_ ?_); omega) | ((with_reducible refine iSub ?_ ?_); omega)
    | ((with_reducible show xEx _ _ _); refine iEx (by rfl) ?_) | ((with_reducible refine fun (_ : Nat → Value) => ?_); (try simp only [gx])))
  refine iCndP (fun hc => ?_) (fun hc => ?_)
  · rw [if_neg hc]; exact ⟨h1, _, rfl, Ow.nil _ _ _⟩
  · have hc := Classical.not_not.1 hc
    rw [if_pos hc]
    obtain ⟨hok, hl⟩ := codeL_zero hc
    refine iCall ((ok_spec_l34Relation (hs.ext h1) hok hl).mono ?_)
    rintro u w2 ⟨h2, ho⟩
    exact ⟨h1.trans h2, u, rfl, ho.mono h1.size⟩
theorem ok_impl_UnderRelation {v : Value} {w : World} {ps : List (Int × List Int)} (hs : SlP w v ps) : Cal Tryz.prog f_impl_UnderRelation #[v] w fun r w' => Ext w w' ∧ ∃ u, r = .tuple #[u, .int .i64 (urRes ps).2] ∧ Ow w.heap.size t_i64 w' u (ints (urRes ps).1) := by
  apply c_impl_UnderRelation; unfold S_impl_UnderRelation
  refine iRet (ok_impl_underCode hs) fun w1 h1 => ?_
  unfold urRes
  (repeat first
    | (with_reducible first | refine iFa ?_ | refine iNil ?_ | refine iNilF ?_ | refine iLd (by assumption) ?_ | refine iLenN (by assumption) ?_ | refine iLenI (by assumption) ?_ | refine iLenS (by assumption) ?_ | refine iLenL ?_ | refine iEq ?_ | refine iNe ?_ | refine iLt ?_ | refine iLe ?_ | refine iNot ?_ | refine iPick ?_ | refine iE20 ?_ | refine iE21 ?_ | refine iE30 ?_ | refine iE31 ?_ | refine iE32 ?_ | refine iJn ?_)
    | ((with_reducible show xLd _ _ _); refine iLdB (by assumption) (by first | rfl | simp) ?_) | ((with_reducible refine iLdA (by assumption) ?_ ?_); rfl)
    | ((with_reducible refine iIaNN (by assumption) ?_ (fun pa_ hpa_ => ?_)); omega) | ((with_reducible refine iIaN (by assumption) ?_ (fun pa_ hpa_ => ?_)); omega)
    | ((with_reducible refine iIaI (by assumption) ?_ ?_ (fun pa_ hpa_ => ?_)); omega; omega) | ((with_reducible refine iAdd ?_ ?_); omega) | ((with_reducible refine iSub ?_ ?_); omega)
    | ((with_reducible show xEx _ _ _); refine iEx (by rfl) ?_) | ((with_reducible refine fun (_ : Nat → Value) => ?_); (try simp only [gx])))
  refine iCndP (fun hc => ?_) (fun hc => ?_)
  · rw [if_neg hc]; exact ⟨h1, _, rfl, Ow.nil _ _ _⟩
  · have hc := Classical.not_not.1 hc
    rw [if_pos hc]
    obtain ⟨hok, hl⟩ := codeL_zero hc
    refine iCall ((ok_impl_underRelation (hs.ext h1) hok hl).mono ?_)
    rintro u w2 ⟨h2, ho⟩
    exact ⟨h1.trans h2, u, rfl, ho.mono h1.size⟩
theorem urRes_small (ps : List (Int × List Int)) : (urRes ps).1.length ≤ 1000000000 := by
  unfold urRes
  split
  · rename_i hc
    have := (codeL_zero hc).2
    simp [nats, relL]; omega
  · simp
def glRes (ps : List (Int × List Int)) : List Int × Int := if codeL ps = 0 then (nats (bestK ps ps.length), 0) else ([], codeL ps)
theorem ok_spec_GreatestLogics {v : Value} {w : World} {ps : List (Int × List Int)} (hs : SlP w v ps) : Cal Tryz.prog f_spec_GreatestLogics #[v] w fun r w' => Ext w w' ∧ ∃ u, r = .tuple #[u, .int .i64 (glRes ps).2] ∧ Ow w.heap.size t_i64 w' u (ints (glRes ps).1) := by
  apply c_spec_GreatestLogics; unfold S_spec_GreatestLogics
  refine iRet (ok_spec_l34List hs) fun w1 h1 => ?_
  unfold glRes
  (repeat first
    | (with_reducible first | refine iFa ?_ | refine iNil ?_ | refine iNilF ?_ | refine iLd (by assumption) ?_ | refine iLenN (by assumption) ?_ | refine iLenI (by assumption) ?_ | refine iLenS (by assumption) ?_ | refine iLenL ?_ | refine iEq ?_ | refine iNe ?_ | refine iLt ?_ | refine iLe ?_ | refine iNot ?_ | refine iPick ?_ | refine iE20 ?_ | refine iE21 ?_ | refine iE30 ?_ | refine iE31 ?_ | refine iE32 ?_ | refine iJn ?_)
    | ((with_reducible show xLd _ _ _); refine iLdB (by assumption) (by first | rfl | simp) ?_) | ((with_reducible refine iLdA (by assumption) ?_ ?_); rfl)
    | ((with_reducible refine iIaNN (by assumption) ?_ (fun pa_ hpa_ => ?_)); omega) | ((with_reducible refine iIaN (by assumption) ?_ (fun pa_ hpa_ => ?_)); omega)
    | ((with_reducible refine iIaI (by assumption) ?_ ?_ (fun pa_ hpa_ => ?_)); omega; omega) | ((with_reducible refine iAdd ?_ ?_); omega) | ((with_reducible refine iSub ?_ ?_); omega)
    | ((with_reducible show xEx _ _ _); refine iEx (by rfl) ?_) | ((with_reducible refine fun (_ : Nat → Value) => ?_); (try simp only [gx])))
  refine iCndP (fun hc => ?_) (fun hc => ?_)
  · rw [if_neg hc]; exact ⟨h1, _, rfl, Ow.nil _ _ _⟩
  · have hc := Classical.not_not.1 hc
    rw [if_pos hc]
    obtain ⟨hok, hl⟩ := codeL_zero hc
    have hrok := rel_ok hl
    have hrl : (relL ps).length = ps.length := by simp [relL]
    refine iCall ((ok_spec_l34Relation (hs.ext h1) hok hl).mono ?_)
    rintro ur w2 ⟨h2, hor⟩
    refine iBs0 fun vo w3 _ h3 ho => ?_
    have hX2 := h1.trans h2
    refine iLp (fun s : Value × Nat => [s.1, .int .i64 (s.2 : Int)]) (fun s w' => s.2 ≤ ps.length ∧ Ext w2 w' ∧ Ow w2.heap.size t_i64 w' s.1 (ints (nats (bestK ps s.2)))) (fun s => ps.length - s.2) (vo, 0) rfl ⟨Nat.zero_le _, h3, ho⟩ ?_
    rintro ⟨vo, i⟩ w5 Kn ⟨hi, h5, ho5⟩ hKn
    have hi : i ≤ ps.length := hi
    have ho5 : Ow w2.heap.size t_i64 w5 vo (ints (nats (bestK ps i))) := ho5
    have hs5 := hs.ext (hX2.trans h5)
    (repeat first
    | (with_reducible first | refine iFa ?_ | refine iNil ?_ | refine iNilF ?_ | refine iLd (by assumption) ?_ | refine iLenN (by assumption) ?_ | refine iLenI (by assumption) ?_ | refine iLenS (by assumption) ?_ | refine iLenL ?_ | refine iEq ?_ | refine iNe ?_ | refine iLt ?_ | refine iLe ?_ | refine iNot ?_ | refine iPick ?_ | refine iE20 ?_ | refine iE21 ?_ | refine iE30 ?_ | refine iE31 ?_ | refine iE32 ?_ | refine iJn ?_)
    | ((with_reducible show xLd _ _ _); refine iLdB (by assumption) (by first | rfl | simp) ?_) | ((with_reducible refine iLdA (by assumption) ?_ ?_); rfl)
    | ((with_reducible refine iIaNN (by assumption) ?_ (fun pa_ hpa_ => ?_)); omega) | ((with_reducible refine iIaN (by assumption) ?_ (fun pa_ hpa_ => ?_)); omega)
    | ((with_reducible refine iIaI (by assumption) ?_ ?_ (fun pa_ hpa_ => ?_)); omega; omega) | ((with_reducible refine iAdd ?_ ?_); omega) | ((with_reducible refine iSub ?_ ?_); omega)
    | ((with_reducible show xEx _ _ _); refine iEx (by rfl) ?_) | ((with_reducible refine fun (_ : Nat → Value) => ?_); (try simp only [gx])))
    refine iLenP hs5 ?_
    (repeat first
    | (with_reducible first | refine iFa ?_ | refine iNil ?_ | refine iNilF ?_ | refine iLd (by assumption) ?_ | refine iLenN (by assumption) ?_ | refine iLenI (by assumption) ?_ | refine iLenS (by assumption) ?_ | refine iLenL ?_ | refine iEq ?_ | refine iNe ?_ | refine iLt ?_ | refine iLe ?_ | refine iNot ?_ | refine iPick ?_ | refine iE20 ?_ | refine iE21 ?_ | refine iE30 ?_ | refine iE31 ?_ | refine iE32 ?_ | refine iJn ?_)
    | ((with_reducible show xLd _ _ _); refine iLdB (by assumption) (by first | rfl | simp) ?_) | ((with_reducible refine iLdA (by assumption) ?_ ?_); rfl)
    | ((with_reducible refine iIaNN (by assumption) ?_ (fun pa_ hpa_ => ?_)); omega) | ((with_reducible refine iIaN (by assumption) ?_ (fun pa_ hpa_ => ?_)); omega)
    | ((with_reducible refine iIaI (by assumption) ?_ ?_ (fun pa_ hpa_ => ?_)); omega; omega) | ((with_reducible refine iAdd ?_ ?_); omega) | ((with_reducible refine iSub ?_ ?_); omega)
    | ((with_reducible show xEx _ _ _); refine iEx (by rfl) ?_) | ((with_reducible refine fun (_ : Nat → Value) => ?_); (try simp only [gx])))
    refine iCndP (fun h4 => ?_) (fun h4 => ?_)
    · have hi1 : i < ps.length := by omega
      have hsu := bestK_succ ps i
      refine iLp (fun s : Bool × Nat => [.bool s.1, .int .i64 (s.2 : Int)]) (fun s w' => s.2 ≤ ps.length ∧ Ext w5 w' ∧ s.1 = (List.range s.2).all fun j => !((relL ps).getD i 0).testBit j || ((relL ps).getD j 0).testBit i) (fun s => ps.length - s.2) (true, 0) rfl ⟨Nat.zero_le _, Ext.refl _, rfl⟩ ?_
      rintro ⟨bb, k⟩ w7 Kn7 ⟨hk, h7, hbb⟩ hKn7
      have hk : k ≤ ps.length := hk
      have hbb : bb = (List.range k).all fun j => !((relL ps).getD i 0).testBit j || ((relL ps).getD j 0).testBit i := hbb
      have hs7 := hs5.ext h7
      have hr7 : SlN w7 ur (relL ps) := (hor.ext (h5.trans h7)).sl
      (repeat first
    | (with_reducible first | refine iFa ?_ | refine iNil ?_ | refine iNilF ?_ | refine iLd (by assumption) ?_ | refine iLenN (by assumption) ?_ | refine iLenI (by assumption) ?_ | refine iLenS (by assumption) ?_ | refine iLenL ?_ | refine iEq ?_ | refine iNe ?_ | refine iLt ?_ | refine iLe ?_ | refine iNot ?_ | refine iPick ?_ | refine iE20 ?_ | refine iE21 ?_ | refine iE30 ?_ | refine iE31 ?_ | refine iE32 ?_ | refine iJn ?_)
    | ((with_reducible show xLd _ _ _); refine iLdB (by assumption) (by first | rfl | simp) ?_) | ((with_reducible refine iLdA (by assumption) ?_ ?_); rfl)
    | ((with_reducible refine iIaNN (by assumption) ?_ (fun pa_ hpa_ => ?_)); omega) | ((with_reducible refine iIaN (by assumption) ?_ (fun pa_ hpa_ => ?_)); omega)
    | ((with_reducible refine iIaI (by assumption) ?_ ?_ (fun pa_ hpa_ => ?_)); omega; omega) | ((with_reducible refine iAdd ?_ ?_); omega) | ((with_reducible refine iSub ?_ ?_); omega)
    | ((with_reducible show xEx _ _ _); refine iEx (by rfl) ?_) | ((with_reducible refine fun (_ : Nat → Value) => ?_); (try simp only [gx])))
      refine iLenP hs7 ?_
      (repeat first
    | (with_reducible first | refine iFa ?_ | refine iNil ?_ | refine iNilF ?_ | refine iLd (by assumption) ?_ | refine iLenN (by assumption) ?_ | refine iLenI (by assumption) ?_ | refine iLenS (by assumption) ?_ | refine iLenL ?_ | refine iEq ?_ | refine iNe ?_ | refine iLt ?_ | refine iLe ?_ | refine iNot ?_ | refine iPick ?_ | refine iE20 ?_ | refine iE21 ?_ | refine iE30 ?_ | refine iE31 ?_ | refine iE32 ?_ | refine iJn ?_)
    | ((with_reducible show xLd _ _ _); refine iLdB (by assumption) (by first | rfl | simp) ?_) | ((with_reducible refine iLdA (by assumption) ?_ ?_); rfl)
    | ((with_reducible refine iIaNN (by assumption) ?_ (fun pa_ hpa_ => ?_)); omega) | ((with_reducible refine iIaN (by assumption) ?_ (fun pa_ hpa_ => ?_)); omega)
    | ((with_reducible refine iIaI (by assumption) ?_ ?_ (fun pa_ hpa_ => ?_)); omega; omega) | ((with_reducible refine iAdd ?_ ?_); omega) | ((with_reducible refine iSub ?_ ?_); omega)
    | ((with_reducible show xEx _ _ _); refine iEx (by rfl) ?_) | ((with_reducible refine fun (_ : Nat → Value) => ?_); (try simp only [gx])))
      refine iCndP (fun h6 => ?_) (fun h6 => ?_)
      · have hk1 : k < ps.length := by omega
        have hgi : (relL ps).getD i 0 < 2 ^ 8 := fr_lt63 hrok i
        have hgk : (relL ps).getD k 0 < 2 ^ 8 := fr_lt63 hrok k
        refine iJnB (bb && (!((relL ps).getD i 0).testBit k || ((relL ps).getD k 0).testBit i)) w7 (fun J hJ => ?_) (fun w9 h9 => ?_)
        · cases bb
          · exact iCndF rfl (hJ w7 (Ext.refl _))
          · refine iCndT rfl ?_
            (repeat first
    | (with_reducible first | refine iFa ?_ | refine iNil ?_ | refine iNilF ?_ | refine iLd (by assumption) ?_ | refine iLenN (by assumption) ?_ | refine iLenI (by assumption) ?_ | refine iLenS (by assumption) ?_ | refine iLenL ?_ | refine iEq ?_ | refine iNe ?_ | refine iLt ?_ | refine iLe ?_ | refine iNot ?_ | refine iPick ?_ | refine iE20 ?_ | refine iE21 ?_ | refine iE30 ?_ | refine iE31 ?_ | refine iE32 ?_ | refine iJn ?_)
    | ((with_reducible show xLd _ _ _); refine iLdB (by assumption) (by first | rfl | simp) ?_) | ((with_reducible refine iLdA (by assumption) ?_ ?_); rfl)
    | ((with_reducible refine iIaNN (by assumption) ?_ (fun pa_ hpa_ => ?_)); omega) | ((with_reducible refine iIaN (by assumption) ?_ (fun pa_ hpa_ => ?_)); omega)
    | ((with_reducible refine iIaI (by assumption) ?_ ?_ (fun pa_ hpa_ => ?_)); omega; omega) | ((with_reducible refine iAdd ?_ ?_); omega) | ((with_reducible refine iSub ?_ ?_); omega)
    | ((with_reducible show xEx _ _ _); refine iEx (by rfl) ?_) | ((with_reducible refine fun (_ : Nat → Value) => ?_); (try simp only [gx])))
            refine iRet (ok_spec_l01Bit _ k (by omega) (by omega) w7) fun w10 hA => ?_
            have hr10 := hr7.ext hA
            (repeat first
    | (with_reducible first | refine iFa ?_ | refine iNil ?_ | refine iNilF ?_ | refine iLd (by assumption) ?_ | refine iLenN (by assumption) ?_ | refine iLenI (by assumption) ?_ | refine iLenS (by assumption) ?_ | refine iLenL ?_ | refine iEq ?_ | refine iNe ?_ | refine iLt ?_ | refine iLe ?_ | refine iNot ?_ | refine iPick ?_ | refine iE20 ?_ | refine iE21 ?_ | refine iE30 ?_ | refine iE31 ?_ | refine iE32 ?_ | refine iJn ?_)
    | ((with_reducible show xLd _ _ _); refine iLdB (by assumption) (by first | rfl | simp) ?_) | ((with_reducible refine iLdA (by assumption) ?_ ?_); rfl)
    | ((with_reducible refine iIaNN (by assumption) ?_ (fun pa_ hpa_ => ?_)); omega) | ((with_reducible refine iIaN (by assumption) ?_ (fun pa_ hpa_ => ?_)); omega)
    | ((with_reducible refine iIaI (by assumption) ?_ ?_ (fun pa_ hpa_ => ?_)); omega; omega) | ((with_reducible refine iAdd ?_ ?_); omega) | ((with_reducible refine iSub ?_ ?_); omega)
    | ((with_reducible show xEx _ _ _); refine iEx (by rfl) ?_) | ((with_reducible refine fun (_ : Nat → Value) => ?_); (try simp only [gx])))
            refine iCnd (fun hb => ?_) (fun hb => ?_)
            · rw [hb, Bool.true_or] at hJ
              exact hJ w10 hA
            · rw [hb, Bool.false_or] at hJ
              (repeat first
    | (with_reducible first | refine iFa ?_ | refine iNil ?_ | refine iNilF ?_ | refine iLd (by assumption) ?_ | refine iLenN (by assumption) ?_ | refine iLenI (by assumption) ?_ | refine iLenS (by assumption) ?_ | refine iLenL ?_ | refine iEq ?_ | refine iNe ?_ | refine iLt ?_ | refine iLe ?_ | refine iNot ?_ | refine iPick ?_ | refine iE20 ?_ | refine iE21 ?_ | refine iE30 ?_ | refine iE31 ?_ | refine iE32 ?_ | refine iJn ?_)
    | ((with_reducible show xLd _ _ _); refine iLdB (by assumption) (by first | rfl | simp) ?_) | ((with_reducible refine iLdA (by assumption) ?_ ?_); rfl)
    | ((with_reducible refine iIaNN (by assumption) ?_ (fun pa_ hpa_ => ?_)); omega) | ((with_reducible refine iIaN (by assumption) ?_ (fun pa_ hpa_ => ?_)); omega)
    | ((with_reducible refine iIaI (by assumption) ?_ ?_ (fun pa_ hpa_ => ?_)); omega; omega) | ((with_reducible refine iAdd ?_ ?_); omega) | ((with_reducible refine iSub ?_ ?_); omega)
    | ((with_reducible show xEx _ _ _); refine iEx (by rfl) ?_) | ((with_reducible refine fun (_ : Nat → Value) => ?_); (try simp only [gx])))
              refine iRet (ok_spec_l01Bit _ i (by omega) (by omega) w10) fun w11 hB => ?_
              exact hJ w11 (hA.trans hB)
        · (repeat first
    | (with_reducible first | refine iFa ?_ | refine iNil ?_ | refine iNilF ?_ | refine iLd (by assumption) ?_ | refine iLenN (by assumption) ?_ | refine iLenI (by assumption) ?_ | refine iLenS (by assumption) ?_ | refine iLenL ?_ | refine iEq ?_ | refine iNe ?_ | refine iLt ?_ | refine iLe ?_ | refine iNot ?_ | refine iPick ?_ | refine iE20 ?_ | refine iE21 ?_ | refine iE30 ?_ | refine iE31 ?_ | refine iE32 ?_ | refine iJn ?_)
    | ((with_reducible show xLd _ _ _); refine iLdB (by assumption) (by first | rfl | simp) ?_) | ((with_reducible refine iLdA (by assumption) ?_ ?_); rfl)
    | ((with_reducible refine iIaNN (by assumption) ?_ (fun pa_ hpa_ => ?_)); omega) | ((with_reducible refine iIaN (by assumption) ?_ (fun pa_ hpa_ => ?_)); omega)
    | ((with_reducible refine iIaI (by assumption) ?_ ?_ (fun pa_ hpa_ => ?_)); omega; omega) | ((with_reducible refine iAdd ?_ ?_); omega) | ((with_reducible refine iSub ?_ ?_); omega)
    | ((with_reducible show xEx _ _ _); refine iEx (by rfl) ?_) | ((with_reducible refine fun (_ : Nat → Value) => ?_); (try simp only [gx])))
          refine hKn7 (bb && (!((relL ps).getD i 0).testBit k || ((relL ps).getD k 0).testBit i), k + 1) _ ⟨by show k + 1 ≤ ps.length; omega, h7.trans h9, ?_⟩ (by show ps.length - (k + 1) < ps.length - k; omega)
          show (bb && (!((relL ps).getD i 0).testBit k || ((relL ps).getD k 0).testBit i)) = (List.range (k + 1)).all fun j => !((relL ps).getD i 0).testBit j || ((relL ps).getD j 0).testBit i
          rw [List.range_succ, List.all_append, hbb]
          simp only [List.all_cons, List.all_nil, Bool.and_true]
      · have e : k = ps.length := by omega
        subst e
        have hbb : bb = bestB ps i := hbb
        have ho7 := ho5.ext h7
        refine iCnd (fun hb => ?_) (fun hb => ?_)
        · rw [← hbb, hb, if_pos rfl] at hsu
          have hil : (ints (nats (bestK ps i))).length ≤ i := by rw [ints_length, nats_length]; exact bestK_len _ _
          refine iApp1 u_Si64 i_Si64 rfl ho7 rfl (by omega) (by omega) (h5.trans h7).size fun v' w12 ho' hg => ?_
          rw [ints_snoc, ← hsu] at ho'
          (repeat first
    | (with_reducible first | refine iFa ?_ | refine iNil ?_ | refine iNilF ?_ | refine iLd (by assumption) ?_ | refine iLenN (by assumption) ?_ | refine iLenI (by assumption) ?_ | refine iLenS (by assumption) ?_ | refine iLenL ?_ | refine iEq ?_ | refine iNe ?_ | refine iLt ?_ | refine iLe ?_ | refine iNot ?_ | refine iPick ?_ | refine iE20 ?_ | refine iE21 ?_ | refine iE30 ?_ | refine iE31 ?_ | refine iE32 ?_ | refine iJn ?_)
    | ((with_reducible show xLd _ _ _); refine iLdB (by assumption) (by first | rfl | simp) ?_) | ((with_reducible refine iLdA (by assumption) ?_ ?_); rfl)
    | ((with_reducible refine iIaNN (by assumption) ?_ (fun pa_ hpa_ => ?_)); omega) | ((with_reducible refine iIaN (by assumption) ?_ (fun pa_ hpa_ => ?_)); omega)
    | ((with_reducible refine iIaI (by assumption) ?_ ?_ (fun pa_ hpa_ => ?_)); omega; omega) | ((with_reducible refine iAdd ?_ ?_); omega) | ((with_reducible refine iSub ?_ ?_); omega)
    | ((with_reducible show xEx _ _ _); refine iEx (by rfl) ?_) | ((with_reducible refine fun (_ : Nat → Value) => ?_); (try simp only [gx])))
          exact hKn (v', i + 1) _ ⟨by show i + 1 ≤ ps.length; omega, (h5.trans h7).grown hg (fun c hc => (ho7.blk c hc).1), ho'⟩ (by show ps.length - (i + 1) < ps.length - i; omega)
        · rw [← hbb, hb, if_neg (by simp)] at hsu
          (repeat first
    | (with_reducible first | refine iFa ?_ | refine iNil ?_ | refine iNilF ?_ | refine iLd (by assumption) ?_ | refine iLenN (by assumption) ?_ | refine iLenI (by assumption) ?_ | refine iLenS (by assumption) ?_ | refine iLenL ?_ | refine iEq ?_ | refine iNe ?_ | refine iLt ?_ | refine iLe ?_ | refine iNot ?_ | refine iPick ?_ | refine iE20 ?_ | refine iE21 ?_ | refine iE30 ?_ | refine iE31 ?_ | refine iE32 ?_ | refine iJn ?_)
    | ((with_reducible show xLd _ _ _); refine iLdB (by assumption) (by first | rfl | simp) ?_) | ((with_reducible refine iLdA (by assumption) ?_ ?_); rfl)
    | ((with_reducible refine iIaNN (by assumption) ?_ (fun pa_ hpa_ => ?_)); omega) | ((with_reducible refine iIaN (by assumption) ?_ (fun pa_ hpa_ => ?_)); omega)
    | ((with_reducible refine iIaI (by assumption) ?_ ?_ (fun pa_ hpa_ => ?_)); omega; omega) | ((with_reducible refine iAdd ?_ ?_); omega) | ((with_reducible refine iSub ?_ ?_); omega)
    | ((with_reducible show xEx _ _ _); refine iEx (by rfl) ?_) | ((with_reducible refine fun (_ : Nat → Value) => ?_); (try simp only [gx])))
          refine hKn (vo, i + 1) _ ⟨by show i + 1 ≤ ps.length; omega, h5.trans h7, ?_⟩ (by show ps.length - (i + 1) < ps.length - i; omega)
          show Ow w2.heap.size t_i64 w7 vo (ints (nats (bestK ps (i + 1))))
          rw [hsu]; exact ho7
    · have e : i = ps.length := by omega
      subst e
      exact ⟨hX2.trans h5, vo, rfl, ho5.mono hX2.size⟩
theorem ok_impl_GreatestLogics {v : Value} {w : World} {ps : List (Int × List Int)} (hs : SlP w v ps) : Cal Tryz.prog f_impl_GreatestLogics #[v] w fun r w' => Ext w w' ∧ ∃ u, r = .tuple #[u, .int .i64 (glRes ps).2] ∧ Ow w.heap.size t_i64 w' u (ints (glRes ps).1) := by
  apply c_impl_GreatestLogics; unfold S_impl_GreatestLogics
  refine iRet (ok_impl_underCode hs) fun w1 h1 => ?_
  unfold glRes
  (repeat first
    | (with_reducible first | refine iFa ?_ | refine iNil ?_ | refine iNilF ?_ | refine iLd (by assumption) ?_ | refine iLenN (by assumption) ?_ | refine iLenI (by assumption) ?_ | refine iLenS (by assumption) ?_ | refine iLenL ?_ | refine iEq ?_ | refine iNe ?_ | refine iLt ?_ | refine iLe ?_ | refine iNot ?_ | refine iPick ?_ | refine iE20 ?_ | refine iE21 ?_ | refine iE30 ?_ | refine iE31 ?_ | refine iE32 ?_ | refine iJn ?_)
    | ((with_reducible show xLd _ _ _); refine iLdB (by assumption) (by first | rfl | simp) ?_) | ((with_reducible refine iLdA (by assumption) ?_ ?_); rfl)
    | ((with_reducible refine iIaNN (by assumption) ?_ (fun pa_ hpa_ => ?_)); omega) | ((with_reducible refine iIaN (by assumption) ?_ (fun pa_ hpa_ => ?_)); omega)
    | ((with_reducible refine iIaI (by assumption) ?_ ?_ (fun pa_ hpa_ => ?_)); omega; omega) | ((with_reducible refine iAdd ?_ ?_); omega) | ((with_reducible refine iSub ?_ ?_); omega)
    | ((with_reducible show xEx _ _ _); refine iEx (by rfl) ?_) | ((with_reducible refine fun (_ : Nat → Value) => ?_); (try simp only [gx])))
  refine iCndP (fun hc => ?_) (fun hc => ?_)
  · rw [if_neg hc]; exact ⟨h1, _, rfl, Ow.nil _ _ _⟩
  · have hc := Classical.not_not.1 hc
    rw [if_pos hc]
    obtain ⟨hok, hl⟩ := codeL_zero hc
    have hrok := rel_ok hl
    have hrl : (relL ps).length = ps.length := by simp [relL]
    refine iCall ((ok_impl_underRelation (hs.ext h1) hok hl).mono ?_)
    rintro ur w2 ⟨h2, hor⟩
    have hX2 := h1.trans h2
    have hrs : SlN w2 ur (relL ps) := hor.sl
    refine iCall ((ok_impl_inverse hrok hrs).mono ?_)
    rintro ub w3 ⟨h3, hob⟩
    have hrs3 := hrs.ext h3
    have hbs3 : SlN w3 ub (inv ⟨ps.length, relL ps⟩) := hob.sl
    have hbl : (inv ⟨ps.length, relL ps⟩).length = ps.length := by simp [inv]
    have hX3 := hX2.trans h3
    (repeat first
    | (with_reducible first | refine iFa ?_ | refine iNil ?_ | refine iNilF ?_ | refine iLd (by assumption) ?_ | refine iLenN (by assumption) ?_ | refine iLenI (by assumption) ?_ | refine iLenS (by assumption) ?_ | refine iLenL ?_ | refine iEq ?_ | refine iNe ?_ | refine iLt ?_ | refine iLe ?_ | refine iNot ?_ | refine iPick ?_ | refine iE20 ?_ | refine iE21 ?_ | refine iE30 ?_ | refine iE31 ?_ | refine iE32 ?_ | refine iJn ?_)
    | ((with_reducible show xLd _ _ _); refine iLdB (by assumption) (by first | rfl | simp) ?_) | ((with_reducible refine iLdA (by assumption) ?_ ?_); rfl)
    | ((with_reducible refine iIaNN (by assumption) ?_ (fun pa_ hpa_ => ?_)); omega) | ((with_reducible refine iIaN (by assumption) ?_ (fun pa_ hpa_ => ?_)); omega)
    | ((with_reducible refine iIaI (by assumption) ?_ ?_ (fun pa_ hpa_ => ?_)); omega; omega) | ((with_reducible refine iAdd ?_ ?_); omega) | ((with_reducible refine iSub ?_ ?_); omega)
    | ((with_reducible show xEx _ _ _); refine iEx (by rfl) ?_) | ((with_reducible refine fun (_ : Nat → Value) => ?_); (try simp only [gx])))
    refine iLp (fun s : Value × Nat => [s.1, .int .i64 (s.2 : Int)]) (fun s w' => s.2 ≤ ps.length ∧ Ext w3 w' ∧ Ow w3.heap.size t_i64 w' s.1 (ints (nats (bestK ps s.2)))) (fun s => ps.length - s.2) (.slice none 0 0, 0) rfl ⟨Nat.zero_le _, Ext.refl _, Ow.nil _ _ _⟩ ?_
    rintro ⟨vo, i⟩ w5 Kn ⟨hi, h5, ho5⟩ hKn
    have hi : i ≤ ps.length := hi
    have ho5 : Ow w3.heap.size t_i64 w5 vo (ints (nats (bestK ps i))) := ho5
    have hrs5 := hrs3.ext h5
    have hbs5 := hbs3.ext h5
    (repeat first
    | (with_reducible first | refine iFa ?_ | refine iNil ?_ | refine iNilF ?_ | refine iLd (by assumption) ?_ | refine iLenN (by assumption) ?_ | refine iLenI (by assumption) ?_ | refine iLenS (by assumption) ?_ | refine iLenL ?_ | refine iEq ?_ | refine iNe ?_ | refine iLt ?_ | refine iLe ?_ | refine iNot ?_ | refine iPick ?_ | refine iE20 ?_ | refine iE21 ?_ | refine iE30 ?_ | refine iE31 ?_ | refine iE32 ?_ | refine iJn ?_)
    | ((with_reducible show xLd _ _ _); refine iLdB (by assumption) (by first | rfl | simp) ?_) | ((with_reducible refine iLdA (by assumption) ?_ ?_); rfl)
    | ((with_reducible refine iIaNN (by assumption) ?_ (fun pa_ hpa_ => ?_)); omega) | ((with_reducible refine iIaN (by assumption) ?_ (fun pa_ hpa_ => ?_)); omega)
    | ((with_reducible refine iIaI (by assumption) ?_ ?_ (fun pa_ hpa_ => ?_)); omega; omega) | ((with_reducible refine iAdd ?_ ?_); omega) | ((with_reducible refine iSub ?_ ?_); omega)
    | ((with_reducible show xEx _ _ _); refine iEx (by rfl) ?_) | ((with_reducible refine fun (_ : Nat → Value) => ?_); (try simp only [gx])))
    refine iCndP (fun h4 => ?_) (fun h4 => ?_)
    · have hi1 : i < ps.length := by omega
      have hsu := bestK_succ ps i
      have hgi : (relL ps).getD i 0 < 2 ^ 8 := fr_lt63 hrok i
      have hgb : invC (relL ps) ps.length i < 2 ^ 8 := Nat.lt_of_lt_of_le (invC_lt _ _ _) (Nat.pow_le_pow_right (by omega) (by omega))
      have hge : (inv ⟨ps.length, relL ps⟩).getD i 0 = invC (relL ps) ps.length i := inv_get ⟨ps.length, relL ps⟩ i hi1
      (repeat first
    | (with_reducible first | refine iFa ?_ | refine iNil ?_ | refine iNilF ?_ | refine iLd (by assumption) ?_ | refine iLenN (by assumption) ?_ | refine iLenI (by assumption) ?_ | refine iLenS (by assumption) ?_ | refine iLenL ?_ | refine iEq ?_ | refine iNe ?_ | refine iLt ?_ | refine iLe ?_ | refine iNot ?_ | refine iPick ?_ | refine iE20 ?_ | refine iE21 ?_ | refine iE30 ?_ | refine iE31 ?_ | refine iE32 ?_ | refine iJn ?_)
    | ((with_reducible show xLd _ _ _); refine iLdB (by assumption) (by first | rfl | simp) ?_) | ((with_reducible refine iLdA (by assumption) ?_ ?_); rfl)
    | ((with_reducible refine iIaNN (by assumption) ?_ (fun pa_ hpa_ => ?_)); omega) | ((with_reducible refine iIaN (by assumption) ?_ (fun pa_ hpa_ => ?_)); omega)
    | ((with_reducible refine iIaI (by assumption) ?_ ?_ (fun pa_ hpa_ => ?_)); omega; omega) | ((with_reducible refine iAdd ?_ ?_); omega) | ((with_reducible refine iSub ?_ ?_); omega)
    | ((with_reducible show xEx _ _ _); refine iEx (by rfl) ?_) | ((with_reducible refine fun (_ : Nat → Value) => ?_); (try simp only [gx])))
      rw [hge]
      refine iRetQ (fun w' _ => ok_impl_within _ _ (by omega) (by omega) w') ?_
      rw [best_within hl]
      intro w6 h6
      have ho6 := ho5.ext h6
      refine iCnd (fun hb => ?_) (fun hb => ?_)
      · rw [hb, if_pos rfl] at hsu
        have hil : (ints (nats (bestK ps i))).length ≤ i := by rw [ints_length, nats_length]; exact bestK_len _ _
        refine iApp1 u_Si64 i_Si64 rfl ho6 rfl (by omega) (by omega) (h5.trans h6).size fun v' w12 ho' hg => ?_
        rw [ints_snoc, ← hsu] at ho'
        (repeat first
    | (with_reducible first | refine iFa ?_ | refine iNil ?_ | refine iNilF ?_ | refine iLd (by assumption) ?_ | refine iLenN (by assumption) ?_ | refine iLenI (by assumption) ?_ | refine iLenS (by assumption) ?_ | refine iLenL ?_ | refine iEq ?_ | refine iNe ?_ | refine iLt ?_ | refine iLe ?_ | refine iNot ?_ | refine iPick ?_ | refine iE20 ?_ | refine iE21 ?_ | refine iE30 ?_ | refine iE31 ?_ | refine iE32 ?_ | refine iJn ?_)
    | ((with_reducible show xLd _ _ _); refine iLdB (by assumption) (by first | rfl | simp) ?_) | ((with_reducible refine iLdA (by assumption) ?_ ?_); rfl)
    | ((with_reducible refine iIaNN (by assumption) ?_ (fun pa_ hpa_ => ?_)); omega) | ((with_reducible refine iIaN (by assumption) ?_ (fun pa_ hpa_ => ?_)); omega)
    | ((with_reducible refine iIaI (by assumption) ?_ ?_ (fun pa_ hpa_ => ?_)); omega; omega) | ((with_reducible refine iAdd ?_ ?_); omega) | ((with_reducible refine iSub ?_ ?_); omega)
    | ((with_reducible show xEx _ _ _); refine iEx (by rfl) ?_) | ((with_reducible refine fun (_ : Nat → Value) => ?_); (try simp only [gx])))
        exact hKn (v', i + 1) _ ⟨by show i + 1 ≤ ps.length; omega, (h5.trans h6).grown hg (fun c hc => (ho6.blk c hc).1), ho'⟩ (by show ps.length - (i + 1) < ps.length - i; omega)
      · rw [hb, if_neg (by simp)] at hsu
        (repeat first
    | (with_reducible first | refine iFa ?_ | refine iNil ?_ | refine iNilF ?_ | refine iLd (by assumption) ?_ | refine iLenN (by assumption) ?_ | refine iLenI (by assumption) ?_ | refine iLenS (by assumption) ?_ | refine iLenL ?_ | refine iEq ?_ | refine iNe ?_ | refine iLt ?_ | refine iLe ?_ | refine iNot ?_ | refine iPick ?_ | refine iE20 ?_ | refine iE21 ?_ | refine iE30 ?_ | refine iE31 ?_ | refine iE32 ?_ | refine iJn ?_)
    | ((with_reducible show xLd _ _ _); refine iLdB (by assumption) (by first | rfl | simp) ?_) | ((with_reducible refine iLdA (by assumption) ?_ ?_); rfl)
    | ((with_reducible refine iIaNN (by assumption) ?_ (fun pa_ hpa_ => ?_)); omega) | ((with_reducible refine iIaN (by assumption) ?_ (fun pa_ hpa_ => ?_)); omega)
    | ((with_reducible refine iIaI (by assumption) ?_ ?_ (fun pa_ hpa_ => ?_)); omega; omega) | ((with_reducible refine iAdd ?_ ?_); omega) | ((with_reducible refine iSub ?_ ?_); omega)
    | ((with_reducible show xEx _ _ _); refine iEx (by rfl) ?_) | ((with_reducible refine fun (_ : Nat → Value) => ?_); (try simp only [gx])))
        refine hKn (vo, i + 1) _ ⟨by show i + 1 ≤ ps.length; omega, h5.trans h6, ?_⟩ (by show ps.length - (i + 1) < ps.length - i; omega)
        show Ow w3.heap.size t_i64 w6 vo (ints (nats (bestK ps (i + 1))))
        rw [hsu]; exact ho6
    · have e : i = ps.length := by omega
      subst e
      exact ⟨hX3.trans h5, vo, rfl, ho5.mono hX3.size⟩
theorem glRes_small (ps : List (Int × List Int)) : (glRes ps).1.length ≤ 1000000000 := by
  unfold glRes
  split
  · rename_i hc
    have := (codeL_zero hc).2
    have := bestK_len ps ps.length
    simp [nats]; omega
  · simp
end Go.Proofs.YtoolpnkcmlebkaaGreat
