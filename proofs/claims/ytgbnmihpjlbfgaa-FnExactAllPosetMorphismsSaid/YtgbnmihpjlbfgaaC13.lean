/- Contracts on lists of lists of int64; all maps between two frames. Conditions: none. -/
import Derived.Test.YtgbnmihpjlbfgaaC12
namespace Go.Vc
section
variable {w : World}
theorem iIaV {v : Value} {xs : List Value} {j : Nat} {k : IntKind} {K : Value → Prop} (hs : Sl w v xs) (h1 : j < xs.length) (h : ∀ p, w.cell? p = some xs[j] → K (.pointer (some p))) : xIa 1 v (.int k (j : Int)) K :=
  iIa hs (by omega) (by omega) fun p hp => h p (by rw [hp, Int.toNat_natCast, List.getElem?_eq_getElem h1])
end
theorem OwL.at {lo : Nat} {e : TypeId} {w : World} {vs : List Value} {ls : List (List Value)} (h : OwL lo e w vs ls) {i : Nat} (hi : i < vs.length) (hi' : i < ls.length) : Ow lo e w vs[i] ls[i] :=
  h.2.1 i _ _ (List.getElem?_eq_getElem hi) (List.getElem?_eq_getElem hi')
theorem OwL.ne {lo : Nat} {e : TypeId} {w : World} {vs : List Value} {ls : List (List Value)} (h : OwL lo e w vs ls) {i j : Nat} (hi : i < vs.length) (hj : j < vs.length) (hij : i ≠ j) {c : Nat} (hc : vs[i].ownBlock = some c) : vs[j].ownBlock ≠ some c := by
  have hp := List.pairwise_iff_getElem.1 h.2.2
  rcases Nat.lt_or_gt_of_ne hij with h1 | h1
  · exact hp i j hi hj h1 c hc
  · exact fun e => hp j i hj hi h1 c e hc
/-- One of the rows has turned. -/
theorem OwL.set {lo : Nat} {e : TypeId} {w w' : World} {vs : List Value} {ls : List (List Value)} (h : OwL lo e w vs ls) {i : Nat} (hi : i < vs.length) {l : List Value} (hch : Ch (fun c => vs[i].ownBlock = some c) w w') (ho : Ow lo e w' vs[i] l) : OwL lo e w' vs (ls.set i l) := by
  refine ⟨by simp [h.1], fun j v x hv hx => ?_, h.2.2⟩
  have hj := (List.getElem?_eq_some_iff.1 hv).1
  by_cases hij : i = j
  · subst hij
    rw [List.getElem?_set_self (by rw [← h.1]; exact hi)] at hx
    rw [List.getElem?_eq_getElem hi] at hv
    cases hv; cases hx
    exact ho
  · rw [List.getElem?_set_ne hij] at hx
    refine (h.2.1 j v x hv hx).ch hch fun c hc he => ?_
    rw [List.getElem?_eq_getElem hj] at hv
    cases hv
    exact h.ne hi hj hij he hc
def tot : List (List Int) → Nat
  | [] => 0
  | l :: r => l.length + tot r
theorem tot_append (a b : List (List Int)) : tot (a ++ b) = tot a + tot b := by
  induction a with
  | nil => simp [tot]
  | cons l a ih => simp only [List.cons_append, tot, ih]; omega
theorem tot_take_succ (x : List (List Int)) (k : Nat) (h : k < x.length) : tot (x.take (k + 1)) = tot (x.take k) + x[k].length := by
  rw [List.take_succ_eq_append_getElem h, tot_append]; simp [tot]
theorem tot_take_le (x : List (List Int)) (k : Nat) : tot (x.take k) ≤ tot x := by
  conv => rhs; rw [← List.take_append_drop k x]
  rw [tot_append]; omega
theorem tot_le {x : List (List Int)} {a b : Nat} (h1 : x.length ≤ a) (h2 : ∀ l ∈ x, l.length ≤ b) : tot x ≤ a * b := by
  have : ∀ x : List (List Int), (∀ l ∈ x, l.length ≤ b) → tot x ≤ x.length * b := by
    intro x
    induction x with
    | nil => simp [tot]
    | cons l x ih =>
      intro h
      have := ih fun y hy => h y (by simp [hy])
      have := h l (by simp)
      rw [tot, List.length_cons, Nat.succ_mul]; omega
  exact Nat.le_trans (this x h2) (Nat.mul_le_mul_right _ h1)
end Go.Vc
namespace Go.Proofs.Ytgbnmihpjlbfgaa
open Go.Vc
def marksL : Nat → List (List Int) → List (List Int)
  | _, [] => []
  | k, l :: r => marks k l.length :: marksL (k + l.length) r
theorem marksL_append (a b : List (List Int)) : ∀ k, marksL k (a ++ b) = marksL k a ++ marksL (k + tot a) b := by
  induction a with
  | nil => intro k; simp [marksL, tot]
  | cons l a ih =>
    intro k
    simp only [List.cons_append, marksL, ih, tot, List.cons.injEq, true_and]
    congr 2; omega
theorem marksL_length (x : List (List Int)) : ∀ k, (marksL k x).length = x.length := by
  induction x with
  | nil => intro k; rfl
  | cons l x ih => intro k; simp [marksL, ih]
theorem marksL_tot (x : List (List Int)) : ∀ k, tot (marksL k x) = tot x := by
  induction x with
  | nil => intro k; rfl
  | cons l x ih => intro k; simp [marksL, tot, ih, marks_length]
/-- A slice of slices of int64 of the call's own. -/
def RdLL (lo : Nat) (w : World) (v : Value) (x : List (List Int)) : Prop := ∃ vs, Ow lo t_Si64 w v vs ∧ OwL lo t_i64 w vs (x.map ints)
theorem RdLL.ext {lo : Nat} {w w' : World} {v : Value} {x : List (List Int)} (h : RdLL lo w v x) (he : Ext w w') : RdLL lo w' v x := let ⟨vs, h1, h2⟩ := h; ⟨vs, h1.ext he, h2.ext he⟩
theorem RdLL.mono {lo lo' : Nat} {w : World} {v : Value} {x : List (List Int)} (h : RdLL lo w v x) (hl : lo' ≤ lo) : RdLL lo' w v x := let ⟨vs, h1, h2⟩ := h; ⟨vs, h1.mono hl, h2.mono hl⟩
theorem ok_laws_eqInt64SS {lo lo' : Nat} {v v' : Value} {w : World} {x : List (List Int)} (h : RdLL lo w v x) (h' : RdLL lo' w v' x) : Ret Try.prog f_laws_eqInt64SS #[v, v'] w (.bool true) := by
  obtain ⟨vs, h1, h2⟩ := h
  obtain ⟨vs', h1', h2'⟩ := h'
  have hl1 : vs.length = x.length := by have := h2.1; rwa [List.length_map] at this
  have hl2 : vs'.length = x.length := by have := h2'.1; rwa [List.length_map] at this
  have hs := h1.sl
  have hs' := h1'.sl
  have hcap := hs.len
  apply c_laws_eqInt64SS; unfold S_laws_eqInt64SS
  (repeat first
    | (with_reducible first | refine iFa ?_ | refine iNil ?_ | refine iNilF ?_ | refine iLd (by assumption) ?_ | refine iLenN (by assumption) ?_ | refine iLenI (by assumption) ?_ | refine iLenS (by assumption) ?_ | refine iLenL ?_ | refine iEq ?_ | refine iNe ?_ | refine iLt ?_ | refine iLe ?_ | refine iNot ?_ | refine iPick ?_ | refine iE20 ?_ | refine iE21 ?_ | refine iJn ?_)
    | ((with_reducible show xLd _ _ _); refine iLdB (by assumption) (by first | rfl | simp) ?_) | ((with_reducible refine iLdA (by assumption) ?_ ?_); rfl)
    | ((with_reducible refine iIaNN (by assumption) ?_ (fun pa_ hpa_ => ?_)); omega) | ((with_reducible refine iIaN (by assumption) ?_ (fun pa_ hpa_ => ?_)); omega)
    | ((with_reducible refine iIaI (by assumption) ?_ ?_ (fun pa_ hpa_ => ?_)); omega; omega) | ((with_reducible refine iAdd ?_ ?_); omega) | ((with_reducible refine iSub ?_ ?_); omega)
    | ((with_reducible show xEx _ _ _); refine iEx (by rfl) ?_) | ((with_reducible refine fun (_ : Nat → Value) => ?_); (try simp only [gx, List.getD_cons_zero, List.getD_cons_succ])))
  refine iCndP (fun h => absurd h (by omega)) (fun _ => ?_)
  refine iLp (fun k : Nat => [.int .i64 (k : Int)]) (fun k w' => k ≤ x.length ∧ Ext w w') (fun k => x.length - k) 0 rfl ⟨Nat.zero_le _, Ext.refl _⟩ ?_
  rintro k w2 Kn ⟨hk, h3⟩ hKn
  have hs := hs.ext h3
  have hs' := hs'.ext h3
  (repeat first
    | (with_reducible first | refine iFa ?_ | refine iNil ?_ | refine iNilF ?_ | refine iLd (by assumption) ?_ | refine iLenN (by assumption) ?_ | refine iLenI (by assumption) ?_ | refine iLenS (by assumption) ?_ | refine iLenL ?_ | refine iEq ?_ | refine iNe ?_ | refine iLt ?_ | refine iLe ?_ | refine iNot ?_ | refine iPick ?_ | refine iE20 ?_ | refine iE21 ?_ | refine iJn ?_)
    | ((with_reducible show xLd _ _ _); refine iLdB (by assumption) (by first | rfl | simp) ?_) | ((with_reducible refine iLdA (by assumption) ?_ ?_); rfl)
    | ((with_reducible refine iIaNN (by assumption) ?_ (fun pa_ hpa_ => ?_)); omega) | ((with_reducible refine iIaN (by assumption) ?_ (fun pa_ hpa_ => ?_)); omega)
    | ((with_reducible refine iIaI (by assumption) ?_ ?_ (fun pa_ hpa_ => ?_)); omega; omega) | ((with_reducible refine iAdd ?_ ?_); omega) | ((with_reducible refine iSub ?_ ?_); omega)
    | ((with_reducible show xEx _ _ _); refine iEx (by rfl) ?_) | ((with_reducible refine fun (_ : Nat → Value) => ?_); (try simp only [gx, List.getD_cons_zero, List.getD_cons_succ])))
  refine iCndP (fun h4 => ?_) (fun h4 => ⟨by trivial, h3⟩)
  have hkx : k < x.length := by omega
  have hk1 : k < vs.length := by omega
  have hk2 : k < vs'.length := by omega
  refine iIaV hs hk1 fun p hp => ?_
  refine iLd hp ?_
  refine iIaV hs' hk2 fun p' hp' => ?_
  refine iLd hp' ?_
  have o1 := (h2.at hk1 (by simpa using hkx)).ext h3
  have o2 := (h2'.at hk2 (by simpa using hkx)).ext h3
  rw [List.getElem_map] at o1 o2
  refine iRetQ (fun w' h' => ok_laws_eqInt64S (o1.ext h').sl (o2.ext h').sl) ?_
  (repeat first
    | (with_reducible first | refine iFa ?_ | refine iNil ?_ | refine iNilF ?_ | refine iLd (by assumption) ?_ | refine iLenN (by assumption) ?_ | refine iLenI (by assumption) ?_ | refine iLenS (by assumption) ?_ | refine iLenL ?_ | refine iEq ?_ | refine iNe ?_ | refine iLt ?_ | refine iLe ?_ | refine iNot ?_ | refine iPick ?_ | refine iE20 ?_ | refine iE21 ?_ | refine iJn ?_)
    | ((with_reducible show xLd _ _ _); refine iLdB (by assumption) (by first | rfl | simp) ?_) | ((with_reducible refine iLdA (by assumption) ?_ ?_); rfl)
    | ((with_reducible refine iIaNN (by assumption) ?_ (fun pa_ hpa_ => ?_)); omega) | ((with_reducible refine iIaN (by assumption) ?_ (fun pa_ hpa_ => ?_)); omega)
    | ((with_reducible refine iIaI (by assumption) ?_ ?_ (fun pa_ hpa_ => ?_)); omega; omega) | ((with_reducible refine iAdd ?_ ?_); omega) | ((with_reducible refine iSub ?_ ?_); omega)
    | ((with_reducible show xEx _ _ _); refine iEx (by rfl) ?_) | ((with_reducible refine fun (_ : Nat → Value) => ?_); (try simp only [gx, List.getD_cons_zero, List.getD_cons_succ])))
  intro w3 h5
  refine iCndF (by simp) ?_
  (repeat first
    | (with_reducible first | refine iFa ?_ | refine iNil ?_ | refine iNilF ?_ | refine iLd (by assumption) ?_ | refine iLenN (by assumption) ?_ | refine iLenI (by assumption) ?_ | refine iLenS (by assumption) ?_ | refine iLenL ?_ | refine iEq ?_ | refine iNe ?_ | refine iLt ?_ | refine iLe ?_ | refine iNot ?_ | refine iPick ?_ | refine iE20 ?_ | refine iE21 ?_ | refine iJn ?_)
    | ((with_reducible show xLd _ _ _); refine iLdB (by assumption) (by first | rfl | simp) ?_) | ((with_reducible refine iLdA (by assumption) ?_ ?_); rfl)
    | ((with_reducible refine iIaNN (by assumption) ?_ (fun pa_ hpa_ => ?_)); omega) | ((with_reducible refine iIaN (by assumption) ?_ (fun pa_ hpa_ => ?_)); omega)
    | ((with_reducible refine iIaI (by assumption) ?_ ?_ (fun pa_ hpa_ => ?_)); omega; omega) | ((with_reducible refine iAdd ?_ ?_); omega) | ((with_reducible refine iSub ?_ ?_); omega)
    | ((with_reducible show xEx _ _ _); refine iEx (by rfl) ?_) | ((with_reducible refine fun (_ : Nat → Value) => ?_); (try simp only [gx, List.getD_cons_zero, List.getD_cons_succ])))
  exact hKn (k + 1) _ ⟨by omega, h3.trans h5⟩ (by omega)
theorem ok_laws_markInt64SS {lo : Nat} {v : Value} {w : World} {x : List (List Int)} (h : RdLL lo w v x) (hx : tot x ≤ 1000000000) :
    Cal Try.prog f_laws_markInt64SS #[v, .int .i64 1] w fun r w' => r = .int .i64 ((1 + tot x : Nat) : Int) ∧ RdLL lo w' v (marksL 1 x) ∧ Ch (fun c => lo ≤ c) w w' := by
  obtain ⟨vs, h1, h2⟩ := h
  have hl1 : vs.length = x.length := by have := h2.1; rwa [List.length_map] at this
  have hcap := h1.sl.len
  apply c_laws_markInt64SS; unfold S_laws_markInt64SS
  refine iLp (fun k : Nat => [.int .i64 ((1 + tot (x.take k) : Nat) : Int), .int .i64 (k : Int)]) (fun k w' => k ≤ x.length ∧ Ch (fun c => lo ≤ c) w w' ∧ Ow lo t_Si64 w' v vs ∧ OwL lo t_i64 w' vs ((marksL 1 (x.take k) ++ x.drop k).map ints)) (fun k => x.length - k) 0 (by simp [tot]) ⟨Nat.zero_le _, (Ext.refl w).ch, h1, by simpa [marksL] using h2⟩ ?_
  rintro k w2 Kn ⟨hk, hch, h1, h2⟩ hKn
  have hs := h1.sl
  (repeat first
    | (with_reducible first | refine iFa ?_ | refine iNil ?_ | refine iNilF ?_ | refine iLd (by assumption) ?_ | refine iLenN (by assumption) ?_ | refine iLenI (by assumption) ?_ | refine iLenS (by assumption) ?_ | refine iLenL ?_ | refine iEq ?_ | refine iNe ?_ | refine iLt ?_ | refine iLe ?_ | refine iNot ?_ | refine iPick ?_ | refine iE20 ?_ | refine iE21 ?_ | refine iJn ?_)
    | ((with_reducible show xLd _ _ _); refine iLdB (by assumption) (by first | rfl | simp) ?_) | ((with_reducible refine iLdA (by assumption) ?_ ?_); rfl)
    | ((with_reducible refine iIaNN (by assumption) ?_ (fun pa_ hpa_ => ?_)); omega) | ((with_reducible refine iIaN (by assumption) ?_ (fun pa_ hpa_ => ?_)); omega)
    | ((with_reducible refine iIaI (by assumption) ?_ ?_ (fun pa_ hpa_ => ?_)); omega; omega) | ((with_reducible refine iAdd ?_ ?_); omega) | ((with_reducible refine iSub ?_ ?_); omega)
    | ((with_reducible show xEx _ _ _); refine iEx (by rfl) ?_) | ((with_reducible refine fun (_ : Nat → Value) => ?_); (try simp only [gx, List.getD_cons_zero, List.getD_cons_succ])))
  refine iCndP (fun h4 => ?_) (fun h4 => ?_)
  · have hkx : k < x.length := by omega
    have hk1 : k < vs.length := by omega
    refine iIaV hs hk1 fun p hp => ?_
    refine iLd hp ?_
    have o1 := h2.at hk1 (by simp [marksL_length]; omega)
    have e1 : ((marksL 1 (x.take k) ++ x.drop k).map ints)[k]'(by simp [marksL_length]; omega) = ints x[k] := by
      have hml : (marksL 1 (x.take k)).length = k := by rw [marksL_length, List.length_take]; omega
      rw [List.getElem_map, List.getElem_append_right (by omega)]
      simp [hml]
    rw [e1] at o1
    have ht := tot_take_succ x k hkx
    have htl := tot_take_le x (k + 1)
    refine iCall ((ok_laws_markInt64S o1 (1 + tot (x.take k)) (by omega)).mono ?_)
    rintro _ w3 ⟨rfl, g1, g2⟩
    have hc3 : Ch (fun c => vs[k].ownBlock = some c) w2 w3 := grown_ch g2 fun c hc => hc
    (repeat first
    | (with_reducible first | refine iFa ?_ | refine iNil ?_ | refine iNilF ?_ | refine iLd (by assumption) ?_ | refine iLenN (by assumption) ?_ | refine iLenI (by assumption) ?_ | refine iLenS (by assumption) ?_ | refine iLenL ?_ | refine iEq ?_ | refine iNe ?_ | refine iLt ?_ | refine iLe ?_ | refine iNot ?_ | refine iPick ?_ | refine iE20 ?_ | refine iE21 ?_ | refine iJn ?_)
    | ((with_reducible show xLd _ _ _); refine iLdB (by assumption) (by first | rfl | simp) ?_) | ((with_reducible refine iLdA (by assumption) ?_ ?_); rfl)
    | ((with_reducible refine iIaNN (by assumption) ?_ (fun pa_ hpa_ => ?_)); omega) | ((with_reducible refine iIaN (by assumption) ?_ (fun pa_ hpa_ => ?_)); omega)
    | ((with_reducible refine iIaI (by assumption) ?_ ?_ (fun pa_ hpa_ => ?_)); omega; omega) | ((with_reducible refine iAdd ?_ ?_); omega) | ((with_reducible refine iSub ?_ ?_); omega)
    | ((with_reducible show xEx _ _ _); refine iEx (by rfl) ?_) | ((with_reducible refine fun (_ : Nat → Value) => ?_); (try simp only [gx, List.getD_cons_zero, List.getD_cons_succ])))
    have e2 : ((1 + tot (x.take k) + x[k].length : Nat) : Int) = ((1 + tot (x.take (k + 1)) : Nat) : Int) := by rw [ht]; omega
    rw [e2]
    refine hKn (k + 1) _ ⟨by omega, hch.trans hc3 (fun c hc => .inl (o1.blk c hc).1), h1.ch hc3 (fun c hc he => o1.ne_ow h1 (by decide) he hc), ?_⟩ (by omega)
    have := h2.set hk1 hc3 g1
    have e3 : ((marksL 1 (x.take k) ++ x.drop k).map ints).set k (ints (marks (1 + tot (x.take k)) x[k].length)) = (marksL 1 (x.take (k + 1)) ++ x.drop (k + 1)).map ints := by
      have hml : (marksL 1 (x.take k)).length = k := by rw [marksL_length, List.length_take]; omega
      rw [List.map_append, List.set_append_right _ _ (by rw [List.length_map]; omega), List.length_map, hml, Nat.sub_self, List.drop_eq_getElem_cons hkx, List.map_cons, List.set_cons_zero, List.take_succ_eq_append_getElem hkx, marksL_append]
      simp [marksL]
    rwa [e3] at this
  · obtain rfl : k = x.length := by omega
    rw [List.take_length, List.drop_length, List.append_nil] at h2
    rw [List.take_length]
    exact ⟨rfl, ⟨vs, h1, h2⟩, hch⟩
theorem ok_laws_heldInt64SS {lo : Nat} {v : Value} {w : World} {x : List (List Int)} (h : RdLL lo w v (marksL 1 x)) (hx : tot x ≤ 1000000000) : Ret Try.prog f_laws_heldInt64SS #[v, .int .i64 1] w (.int .i64 ((1 + tot x : Nat) : Int)) := by
  obtain ⟨vs, h1, h2⟩ := h
  have hl1 : vs.length = x.length := by have := h2.1; rwa [List.length_map, marksL_length] at this
  have hcap := h1.sl.len
  apply c_laws_heldInt64SS; unfold S_laws_heldInt64SS
  refine iLp (fun k : Nat => [.int .i64 ((1 + tot (x.take k) : Nat) : Int), .int .i64 (k : Int)]) (fun k w' => k ≤ x.length ∧ Ext w w') (fun k => x.length - k) 0 (by simp [tot]) ⟨Nat.zero_le _, Ext.refl w⟩ ?_
  rintro k w2 Kn ⟨hk, h3⟩ hKn
  have hs := (h1.ext h3).sl
  (repeat first
    | (with_reducible first | refine iFa ?_ | refine iNil ?_ | refine iNilF ?_ | refine iLd (by assumption) ?_ | refine iLenN (by assumption) ?_ | refine iLenI (by assumption) ?_ | refine iLenS (by assumption) ?_ | refine iLenL ?_ | refine iEq ?_ | refine iNe ?_ | refine iLt ?_ | refine iLe ?_ | refine iNot ?_ | refine iPick ?_ | refine iE20 ?_ | refine iE21 ?_ | refine iJn ?_)
    | ((with_reducible show xLd _ _ _); refine iLdB (by assumption) (by first | rfl | simp) ?_) | ((with_reducible refine iLdA (by assumption) ?_ ?_); rfl)
    | ((with_reducible refine iIaNN (by assumption) ?_ (fun pa_ hpa_ => ?_)); omega) | ((with_reducible refine iIaN (by assumption) ?_ (fun pa_ hpa_ => ?_)); omega)
    | ((with_reducible refine iIaI (by assumption) ?_ ?_ (fun pa_ hpa_ => ?_)); omega; omega) | ((with_reducible refine iAdd ?_ ?_); omega) | ((with_reducible refine iSub ?_ ?_); omega)
    | ((with_reducible show xEx _ _ _); refine iEx (by rfl) ?_) | ((with_reducible refine fun (_ : Nat → Value) => ?_); (try simp only [gx, List.getD_cons_zero, List.getD_cons_succ])))
  refine iCndP (fun h4 => ?_) (fun h4 => ?_)
  · have hkx : k < x.length := by omega
    have hk1 : k < vs.length := by omega
    refine iIaV hs hk1 fun p hp => ?_
    refine iLd hp ?_
    have o1 := (h2.at hk1 (by simp [marksL_length]; omega)).ext h3
    have e1 : ((marksL 1 x).map ints)[k]'(by simp [marksL_length]; omega) = ints (marks (1 + tot (x.take k)) x[k].length) := by
      have e0 : marksL 1 x = marksL 1 (x.take k) ++ marks (1 + tot (x.take k)) x[k].length :: marksL (1 + tot (x.take k) + x[k].length) (x.drop (k + 1)) := by
        conv => lhs; rw [← List.take_append_drop k x, marksL_append, List.drop_eq_getElem_cons hkx, marksL]
      have hml : (marksL 1 (x.take k)).length = k := by rw [marksL_length, List.length_take]; omega
      simp only [e0]
      rw [List.getElem_map, List.getElem_append_right (by omega)]
      simp [hml]
    rw [e1] at o1
    have ht := tot_take_succ x k hkx
    have htl := tot_take_le x (k + 1)
    have hh := ok_laws_heldInt64S (l := marks (1 + tot (x.take k)) x[k].length) o1.sl (1 + tot (x.take k)) (by rw [marks_length]; omega)
    unfold heldN at hh
    rw [marks_length, if_pos rfl] at hh
    refine iRet hh fun w3 h5 => ?_
    (repeat first
    | (with_reducible first | refine iFa ?_ | refine iNil ?_ | refine iNilF ?_ | refine iLd (by assumption) ?_ | refine iLenN (by assumption) ?_ | refine iLenI (by assumption) ?_ | refine iLenS (by assumption) ?_ | refine iLenL ?_ | refine iEq ?_ | refine iNe ?_ | refine iLt ?_ | refine iLe ?_ | refine iNot ?_ | refine iPick ?_ | refine iE20 ?_ | refine iE21 ?_ | refine iJn ?_)
    | ((with_reducible show xLd _ _ _); refine iLdB (by assumption) (by first | rfl | simp) ?_) | ((with_reducible refine iLdA (by assumption) ?_ ?_); rfl)
    | ((with_reducible refine iIaNN (by assumption) ?_ (fun pa_ hpa_ => ?_)); omega) | ((with_reducible refine iIaN (by assumption) ?_ (fun pa_ hpa_ => ?_)); omega)
    | ((with_reducible refine iIaI (by assumption) ?_ ?_ (fun pa_ hpa_ => ?_)); omega; omega) | ((with_reducible refine iAdd ?_ ?_); omega) | ((with_reducible refine iSub ?_ ?_); omega)
    | ((with_reducible show xEx _ _ _); refine iEx (by rfl) ?_) | ((with_reducible refine fun (_ : Nat → Value) => ?_); (try simp only [gx, List.getD_cons_zero, List.getD_cons_succ])))
    refine iCndP (fun h => absurd h (by omega)) (fun _ => ?_)
    (repeat first
    | (with_reducible first | refine iFa ?_ | refine iNil ?_ | refine iNilF ?_ | refine iLd (by assumption) ?_ | refine iLenN (by assumption) ?_ | refine iLenI (by assumption) ?_ | refine iLenS (by assumption) ?_ | refine iLenL ?_ | refine iEq ?_ | refine iNe ?_ | refine iLt ?_ | refine iLe ?_ | refine iNot ?_ | refine iPick ?_ | refine iE20 ?_ | refine iE21 ?_ | refine iJn ?_)
    | ((with_reducible show xLd _ _ _); refine iLdB (by assumption) (by first | rfl | simp) ?_) | ((with_reducible refine iLdA (by assumption) ?_ ?_); rfl)
    | ((with_reducible refine iIaNN (by assumption) ?_ (fun pa_ hpa_ => ?_)); omega) | ((with_reducible refine iIaN (by assumption) ?_ (fun pa_ hpa_ => ?_)); omega)
    | ((with_reducible refine iIaI (by assumption) ?_ ?_ (fun pa_ hpa_ => ?_)); omega; omega) | ((with_reducible refine iAdd ?_ ?_); omega) | ((with_reducible refine iSub ?_ ?_); omega)
    | ((with_reducible show xEx _ _ _); refine iEx (by rfl) ?_) | ((with_reducible refine fun (_ : Nat → Value) => ?_); (try simp only [gx, List.getD_cons_zero, List.getD_cons_succ])))
    have e2 : ((1 + tot (x.take k) + x[k].length : Nat) : Int) = ((1 + tot (x.take (k + 1)) : Nat) : Int) := by rw [ht]; omega
    rw [e2]
    exact hKn (k + 1) _ ⟨by omega, h3.trans h5⟩ (by omega)
  · obtain rfl : k = x.length := by omega
    rw [List.take_length]
    exact ⟨rfl, h3⟩
/-- Results that are lists of lists of int64. -/
def resLists {sp im : FuncId} {out : Int → List Int → Int → List Int → List (List Int) × Int}
    (hsp : ∀ {w : World} {v0 v1 : Value} {l0 l1 : List Int}, SlI w v0 l0 → SlI w v1 l1 → ∀ n0 n1 : Int, Cal Try.prog sp #[.agg #[.int .i64 n0, v0], .agg #[.int .i64 n1, v1]] w fun r w' => Ext w w' ∧ ∃ v, r = .tuple #[v, .int .i64 (out n0 l0 n1 l1).2] ∧ RdLL w.heap.size w' v (out n0 l0 n1 l1).1)
    (him : ∀ {w : World} {v0 v1 : Value} {l0 l1 : List Int}, SlI w v0 l0 → SlI w v1 l1 → ∀ n0 n1 : Int, Cal Try.prog im #[.agg #[.int .i64 n0, v0], .agg #[.int .i64 n1, v1]] w fun r w' => Ext w w' ∧ ∃ v, r = .tuple #[v, .int .i64 (out n0 l0 n1 l1).2] ∧ RdLL w.heap.size w' v (out n0 l0 n1 l1).1)
    (hsm : ∀ n0 l0 n1 l1, tot (out n0 l0 n1 l1).1 ≤ 1000000000) : ResFns sp im f_laws_eqInt64SS f_laws_markInt64SS f_laws_heldInt64SS (List (List Int)) out where
  Rd := RdLL
  ext h he := h.ext he
  ch h hc hs := by
    obtain ⟨vs, h1, h2⟩ := h
    refine ⟨vs, h1.ch hc fun c hb hS => ?_, h2.ch hc fun v hv c hb hS => ?_⟩
    · have := (h1.blk c hb).1; have := hs c hS; omega
    · have := (h2.lt hv hb).1; have := hs c hS; omega
  spec := hsp
  impl := him
  eq h h' := ok_laws_eqInt64SS h h'
  cnt := tot
  mkd := marksL 1
  small := hsm
  mark h hx := ok_laws_markInt64SS h hx
  held h hx := ok_laws_heldInt64SS h hx
end Go.Proofs.Ytgbnmihpjlbfgaa
