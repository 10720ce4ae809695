/- The law's body over two structs (an int64 and a slice of int64) with a truth and a code: once for all functions of this shape. Conditions: none. -/
import Derived.Test.YtgbnmihpjlbfgaaLw2
namespace Go.Vc
theorem iBoolNe {a b : Bool} {K : Value → Prop} (h : K (.bool (false == (a == b)))) : xBoolEq false (.bool a) (.bool b) K := ⟨_, _, rfl, rfl, h⟩
end Go.Vc
namespace Go.Proofs.Ytgbnmihpjlbfgaa
open Go.Vc
structure FrFns3 (sz to eqF : FuncId) : Prop where
  sz : ∀ {v : Value} {w : World} {l : List Int}, SlI w v l → ∀ n left : Int, 0 ≤ left ∧ left ≤ 1048576 → Ret Try.prog sz #[.agg #[.int .i64 n, v], .int .i64 left] w (.int .i64 (szN l.length left))
  to : ∀ {v : Value} {w : World} {l : List Int}, SlI w v l → ∀ n : Int, l.length ≤ 1048576 → Cal Try.prog to #[.agg #[.int .i64 n, v]] w fun r w' => Ext w w' ∧ ∃ v', r = .agg #[.int .i64 n, v'] ∧ Ow w.heap.size t_i64 w' v' (ints l)
  eq : ∀ {v v' : Value} {w : World} {l l' : List Int}, SlI w v l → SlI w v' l' → ∀ n n' : Int, Ret Try.prog eqF #[.agg #[.int .i64 n, v], .agg #[.int .i64 n', v']] w (.bool (decide (n = n' ∧ l = l')))
theorem FrFns.three {sz to eqF mF : FuncId} (h : FrFns sz to eqF mF) : FrFns3 sz to eqF := ⟨h.sz, h.to, h.eq⟩
def SLaw2b (sz to sp im eqF : FuncId) (tl tf : TypeId) (v0 v1 : Value) (w : World) (R : Value → World → Prop) : Prop :=
  xNew (Value.cells v0) tl w fun v2 w1 =>
 xNew (Value.cells v1) tl w1 fun v3 w2 =>
 xLdA w2 2 v2 fun v12 =>
 callV Try.prog (.func (.func sz) #[] #[]) [v12, (.int .i64 1048576)] w2 fun v14 w3 =>
 xLt .i64 v14 (.int .i64 0) fun v16 =>
 cnd v16 (R (.bool true) w3) (xLdA w3 2 v3 fun v17 =>
 callV Try.prog (.func (.func sz) #[] #[]) [v17, v14] w3 fun v19 w4 =>
 xLt .i64 v19 (.int .i64 0) fun v21 =>
 cnd v21 (R (.bool true) w4) (xLdA w4 2 v2 fun v23 =>
 xLdA w4 2 v3 fun v25 =>
 ∀ w5, Ext w4 w5 → callV Try.prog (.func (.func to) #[] #[]) [v23] w5 fun v24 w6 =>
 Ext w5 w6 ∧ ∀ w7, Ext w6 w7 → callV Try.prog (.func (.func to) #[] #[]) [v25] w7 fun v26 w8 =>
 callQ Try.prog (.func (.func sp) #[] #[]) [v24, v26] w8 fun v27 =>
 xEx v27 0 fun v28 =>
 xEx v27 1 fun v29 =>
 ∀ w9, Ext w8 w9 → xLdA w9 2 v2 fun v30 =>
 callV Try.prog (.func (.func to) #[] #[]) [v30] w9 fun v31 w10 =>
 xNew (Value.cells (.agg #[(.int .i64 0), (.slice none 0 0)])) tf w10 fun v8 w11 =>
 xStA Try.prog w11 2 v8 v31 fun w12 =>
 xLdA w12 2 v3 fun v32 =>
 callV Try.prog (.func (.func to) #[] #[]) [v32] w12 fun v33 w13 =>
 xNew (Value.cells (.agg #[(.int .i64 0), (.slice none 0 0)])) tf w13 fun v9 w14 =>
 xStA Try.prog w14 2 v9 v33 fun w15 =>
 xLdA w15 2 v8 fun v35 =>
 xLdA w15 2 v9 fun v36 =>
 callV Try.prog (.func (.func im) #[] #[]) [v35, v36] w15 fun v37 w16 =>
 xEx v37 0 fun v38 =>
 xEx v37 1 fun v39 =>
 jn (fun J17 =>
 xBoolEq false v38 v28 fun v42 =>
 cnd v42 (J17 [(.bool true)] w16) (xNe .i64 v39 v29 fun v46 =>
 J17 [v46] w16)) (fun xs17 w18 =>
 ∀ _ : Nat → Value, cnd (gx xs17 0) (R (.bool false) w18) (xLdA w18 2 v8 fun v48 =>
 xLdA w18 2 v2 fun v49 =>
 ∀ w19, Ext w18 w19 → callV Try.prog (.func (.func to) #[] #[]) [v49] w19 fun v50 w20 =>
 Ext w19 w20 ∧ callQ Try.prog (.func (.func eqF) #[] #[]) [v48, v50] w20 fun v51 =>
 xNot v51 fun v52 =>
 ∀ w21, Ext w20 w21 → cnd v52 (R (.bool false) w21) (xLdA w21 2 v9 fun v53 =>
 xLdA w21 2 v3 fun v54 =>
 ∀ w22, Ext w21 w22 → callV Try.prog (.func (.func to) #[] #[]) [v54] w22 fun v55 w23 =>
 Ext w22 w23 ∧ callQ Try.prog (.func (.func eqF) #[] #[]) [v53, v55] w23 fun v56 =>
 xNot v56 fun v57 =>
 ∀ w24, Ext w23 w24 → cnd v57 (R (.bool false) w24) (R (.bool true) w24))))))
theorem law2b {sz to sp im eqF : FuncId} {tl tf : TypeId} (htf : t_i64 ≠ tf) (htt : tl ≠ tf) (F : FrFns3 sz to eqF) {out : Int → List Int → Int → List Int → Bool × Int}
    (hsp : ∀ {w : World} {v0 v1 : Value} {l0 l1 : List Int}, SlI w v0 l0 → SlI w v1 l1 → ∀ n0 n1 : Int, Ret Try.prog sp #[.agg #[.int .i64 n0, v0], .agg #[.int .i64 n1, v1]] w (.tuple #[.bool (out n0 l0 n1 l1).1, .int .i64 (out n0 l0 n1 l1).2]))
    (him : ∀ {w : World} {v0 v1 : Value} {l0 l1 : List Int}, SlI w v0 l0 → SlI w v1 l1 → ∀ n0 n1 : Int, Ret Try.prog im #[.agg #[.int .i64 n0, v0], .agg #[.int .i64 n1, v1]] w (.tuple #[.bool (out n0 l0 n1 l1).1, .int .i64 (out n0 l0 n1 l1).2]))
    {w : World} {s0 s1 : Value} {l0 l1 : List Int} (hs0 : SlI w s0 l0) (hs1 : SlI w s1 l1) (n0 n1 : Int) : SLaw2b sz to sp im eqF tl tf (.agg #[.int .i64 n0, s0]) (.agg #[.int .i64 n1, s1]) w fun v' w' => v' = .bool true ∧ Ext w w' := by
  unfold SLaw2b
  have hX := Ext.refl w
  refine iNew fun b2 w1 hb2 h hB2 => ?_
  have hX := hX.trans h
  refine iNew fun b3 w2 hb3 h hB3 => ?_
  have hX := hX.trans h
  have hB2 := hB2.ext h
  (repeat first
    | (with_reducible first | refine iFa ?_ | refine iNil ?_ | refine iNilF ?_ | refine iLd (by assumption) ?_ | refine iLenN (by assumption) ?_ | refine iLenI (by assumption) ?_ | refine iLenS (by assumption) ?_ | refine iLenL ?_ | refine iEq ?_ | refine iNe ?_ | refine iLt ?_ | refine iLe ?_ | refine iNot ?_ | refine iPick ?_ | refine iE20 ?_ | refine iE21 ?_ | refine iJn ?_)
    | ((with_reducible show xLd _ _ _); refine iLdB (by assumption) (by first | rfl | simp) ?_) | ((with_reducible refine iLdA (by assumption) ?_ ?_); rfl)
    | ((with_reducible refine iIaNN (by assumption) ?_ (fun pa_ hpa_ => ?_)); omega) | ((with_reducible refine iIaN (by assumption) ?_ (fun pa_ hpa_ => ?_)); omega)
    | ((with_reducible refine iIaI (by assumption) ?_ ?_ (fun pa_ hpa_ => ?_)); omega; omega) | ((with_reducible refine iAdd ?_ ?_); omega) | ((with_reducible refine iSub ?_ ?_); omega)
    | ((with_reducible show xEx _ _ _); refine iEx (by rfl) ?_) | ((with_reducible refine fun (_ : Nat → Value) => ?_); (try simp only [gx, List.getD_cons_zero, List.getD_cons_succ])))
  refine iRet (F.sz (hs0.ext hX) n0 1048576 (by omega)) fun w3 h => ?_
  have hX := hX.trans h
  have hB2 := hB2.ext h
  have hB3 := hB3.ext h
  (repeat first
    | (with_reducible first | refine iFa ?_ | refine iNil ?_ | refine iNilF ?_ | refine iLd (by assumption) ?_ | refine iLenN (by assumption) ?_ | refine iLenI (by assumption) ?_ | refine iLenS (by assumption) ?_ | refine iLenL ?_ | refine iEq ?_ | refine iNe ?_ | refine iLt ?_ | refine iLe ?_ | refine iNot ?_ | refine iPick ?_ | refine iE20 ?_ | refine iE21 ?_ | refine iJn ?_)
    | ((with_reducible show xLd _ _ _); refine iLdB (by assumption) (by first | rfl | simp) ?_) | ((with_reducible refine iLdA (by assumption) ?_ ?_); rfl)
    | ((with_reducible refine iIaNN (by assumption) ?_ (fun pa_ hpa_ => ?_)); omega) | ((with_reducible refine iIaN (by assumption) ?_ (fun pa_ hpa_ => ?_)); omega)
    | ((with_reducible refine iIaI (by assumption) ?_ ?_ (fun pa_ hpa_ => ?_)); omega; omega) | ((with_reducible refine iAdd ?_ ?_); omega) | ((with_reducible refine iSub ?_ ?_); omega)
    | ((with_reducible show xEx _ _ _); refine iEx (by rfl) ?_) | ((with_reducible refine fun (_ : Nat → Value) => ?_); (try simp only [gx, List.getD_cons_zero, List.getD_cons_succ])))
  refine iCndP (fun h3 => ⟨rfl, hX⟩) (fun h3 => ?_)
  obtain ⟨hl0, hl0'⟩ := szN_neg _ _ h3
  (repeat first
    | (with_reducible first | refine iFa ?_ | refine iNil ?_ | refine iNilF ?_ | refine iLd (by assumption) ?_ | refine iLenN (by assumption) ?_ | refine iLenI (by assumption) ?_ | refine iLenS (by assumption) ?_ | refine iLenL ?_ | refine iEq ?_ | refine iNe ?_ | refine iLt ?_ | refine iLe ?_ | refine iNot ?_ | refine iPick ?_ | refine iE20 ?_ | refine iE21 ?_ | refine iJn ?_)
    | ((with_reducible show xLd _ _ _); refine iLdB (by assumption) (by first | rfl | simp) ?_) | ((with_reducible refine iLdA (by assumption) ?_ ?_); rfl)
    | ((with_reducible refine iIaNN (by assumption) ?_ (fun pa_ hpa_ => ?_)); omega) | ((with_reducible refine iIaN (by assumption) ?_ (fun pa_ hpa_ => ?_)); omega)
    | ((with_reducible refine iIaI (by assumption) ?_ ?_ (fun pa_ hpa_ => ?_)); omega; omega) | ((with_reducible refine iAdd ?_ ?_); omega) | ((with_reducible refine iSub ?_ ?_); omega)
    | ((with_reducible show xEx _ _ _); refine iEx (by rfl) ?_) | ((with_reducible refine fun (_ : Nat → Value) => ?_); (try simp only [gx, List.getD_cons_zero, List.getD_cons_succ])))
  refine iRet (F.sz (hs1.ext hX) n1 (szN l0.length 1048576) (by omega)) fun w4 h => ?_
  have hX := hX.trans h
  have hB2 := hB2.ext h
  have hB3 := hB3.ext h
  (repeat first
    | (with_reducible first | refine iFa ?_ | refine iNil ?_ | refine iNilF ?_ | refine iLd (by assumption) ?_ | refine iLenN (by assumption) ?_ | refine iLenI (by assumption) ?_ | refine iLenS (by assumption) ?_ | refine iLenL ?_ | refine iEq ?_ | refine iNe ?_ | refine iLt ?_ | refine iLe ?_ | refine iNot ?_ | refine iPick ?_ | refine iE20 ?_ | refine iE21 ?_ | refine iJn ?_)
    | ((with_reducible show xLd _ _ _); refine iLdB (by assumption) (by first | rfl | simp) ?_) | ((with_reducible refine iLdA (by assumption) ?_ ?_); rfl)
    | ((with_reducible refine iIaNN (by assumption) ?_ (fun pa_ hpa_ => ?_)); omega) | ((with_reducible refine iIaN (by assumption) ?_ (fun pa_ hpa_ => ?_)); omega)
    | ((with_reducible refine iIaI (by assumption) ?_ ?_ (fun pa_ hpa_ => ?_)); omega; omega) | ((with_reducible refine iAdd ?_ ?_); omega) | ((with_reducible refine iSub ?_ ?_); omega)
    | ((with_reducible show xEx _ _ _); refine iEx (by rfl) ?_) | ((with_reducible refine fun (_ : Nat → Value) => ?_); (try simp only [gx, List.getD_cons_zero, List.getD_cons_succ])))
  refine iCndP (fun h3 => ⟨rfl, hX⟩) (fun h3 => ?_)
  obtain ⟨hl1, _⟩ := szN_neg _ _ h3
  (repeat first
    | (with_reducible first | refine iFa ?_ | refine iNil ?_ | refine iNilF ?_ | refine iLd (by assumption) ?_ | refine iLenN (by assumption) ?_ | refine iLenI (by assumption) ?_ | refine iLenS (by assumption) ?_ | refine iLenL ?_ | refine iEq ?_ | refine iNe ?_ | refine iLt ?_ | refine iLe ?_ | refine iNot ?_ | refine iPick ?_ | refine iE20 ?_ | refine iE21 ?_ | refine iJn ?_)
    | ((with_reducible show xLd _ _ _); refine iLdB (by assumption) (by first | rfl | simp) ?_) | ((with_reducible refine iLdA (by assumption) ?_ ?_); rfl)
    | ((with_reducible refine iIaNN (by assumption) ?_ (fun pa_ hpa_ => ?_)); omega) | ((with_reducible refine iIaN (by assumption) ?_ (fun pa_ hpa_ => ?_)); omega)
    | ((with_reducible refine iIaI (by assumption) ?_ ?_ (fun pa_ hpa_ => ?_)); omega; omega) | ((with_reducible refine iAdd ?_ ?_); omega) | ((with_reducible refine iSub ?_ ?_); omega)
    | ((with_reducible show xEx _ _ _); refine iEx (by rfl) ?_) | ((with_reducible refine fun (_ : Nat → Value) => ?_); (try simp only [gx, List.getD_cons_zero, List.getD_cons_succ])))
  intro w5 h
  have hX := hX.trans h
  have hB2 := hB2.ext h
  have hB3 := hB3.ext h
  refine iCall ((F.to (hs0.ext hX) n0 (by omega)).mono ?_)
  rintro _ w6 ⟨h, a0, rfl, ho0⟩
  (try refine ⟨h, ?_⟩)
  have hX := hX.trans h
  have hB2 := hB2.ext h
  have hB3 := hB3.ext h
  intro w7 h
  have hX := hX.trans h
  have hB2 := hB2.ext h
  have hB3 := hB3.ext h
  have ho0 := ho0.ext h
  refine iCall ((F.to (hs1.ext hX) n1 (by omega)).mono ?_)
  rintro _ w8 ⟨h, a1, rfl, ho1⟩
  (try refine ⟨h, ?_⟩)
  have hX := hX.trans h
  have hB2 := hB2.ext h
  have hB3 := hB3.ext h
  have ho0 := ho0.ext h
  refine iRetQ (fun w' h' => hsp (ho0.ext h').sl (ho1.ext h').sl n0 n1) ?_
  (repeat first
    | (with_reducible first | refine iFa ?_ | refine iNil ?_ | refine iNilF ?_ | refine iLd (by assumption) ?_ | refine iLenN (by assumption) ?_ | refine iLenI (by assumption) ?_ | refine iLenS (by assumption) ?_ | refine iLenL ?_ | refine iEq ?_ | refine iNe ?_ | refine iLt ?_ | refine iLe ?_ | refine iNot ?_ | refine iPick ?_ | refine iE20 ?_ | refine iE21 ?_ | refine iJn ?_)
    | ((with_reducible show xLd _ _ _); refine iLdB (by assumption) (by first | rfl | simp) ?_) | ((with_reducible refine iLdA (by assumption) ?_ ?_); rfl)
    | ((with_reducible refine iIaNN (by assumption) ?_ (fun pa_ hpa_ => ?_)); omega) | ((with_reducible refine iIaN (by assumption) ?_ (fun pa_ hpa_ => ?_)); omega)
    | ((with_reducible refine iIaI (by assumption) ?_ ?_ (fun pa_ hpa_ => ?_)); omega; omega) | ((with_reducible refine iAdd ?_ ?_); omega) | ((with_reducible refine iSub ?_ ?_); omega)
    | ((with_reducible show xEx _ _ _); refine iEx (by rfl) ?_) | ((with_reducible refine fun (_ : Nat → Value) => ?_); (try simp only [gx, List.getD_cons_zero, List.getD_cons_succ])))
  intro w9 h
  have hX := hX.trans h
  have hB2 := hB2.ext h
  have hB3 := hB3.ext h
  (repeat first
    | (with_reducible first | refine iFa ?_ | refine iNil ?_ | refine iNilF ?_ | refine iLd (by assumption) ?_ | refine iLenN (by assumption) ?_ | refine iLenI (by assumption) ?_ | refine iLenS (by assumption) ?_ | refine iLenL ?_ | refine iEq ?_ | refine iNe ?_ | refine iLt ?_ | refine iLe ?_ | refine iNot ?_ | refine iPick ?_ | refine iE20 ?_ | refine iE21 ?_ | refine iJn ?_)
    | ((with_reducible show xLd _ _ _); refine iLdB (by assumption) (by first | rfl | simp) ?_) | ((with_reducible refine iLdA (by assumption) ?_ ?_); rfl)
    | ((with_reducible refine iIaNN (by assumption) ?_ (fun pa_ hpa_ => ?_)); omega) | ((with_reducible refine iIaN (by assumption) ?_ (fun pa_ hpa_ => ?_)); omega)
    | ((with_reducible refine iIaI (by assumption) ?_ ?_ (fun pa_ hpa_ => ?_)); omega; omega) | ((with_reducible refine iAdd ?_ ?_); omega) | ((with_reducible refine iSub ?_ ?_); omega)
    | ((with_reducible show xEx _ _ _); refine iEx (by rfl) ?_) | ((with_reducible refine fun (_ : Nat → Value) => ?_); (try simp only [gx, List.getD_cons_zero, List.getD_cons_succ])))
  refine iCall ((F.to (hs0.ext hX) n0 (by omega)).mono ?_)
  rintro _ w10 ⟨h, a8, rfl, ho8⟩
  have hX := hX.trans h
  have hB2 := hB2.ext h
  have hB3 := hB3.ext h
  refine iNew fun b8 w11 hb8 h hD8 => ?_
  have hlo8 : w.heap.size ≤ b8 := by have := hX.size; omega
  have hX := hX.trans h
  have hB2 := hB2.ext h
  have hB3 := hB3.ext h
  have ho8 := ho8.ext h
  refine iStAB hD8 rfl rfl (ho8.pair n0) fun w12 hu hD8' => ?_
  have hX := hX.upd hu hlo8
  have hB2 := hB2.upd hu (hB2.ne_blk hD8 htt)
  have hB3 := hB3.upd hu (hB3.ne_blk hD8 htt)
  have ho8 := ho8.upd hu (ho8.ne_blk hD8 htf)
  have hD8 := hD8'
  (repeat first
    | (with_reducible first | refine iFa ?_ | refine iNil ?_ | refine iNilF ?_ | refine iLd (by assumption) ?_ | refine iLenN (by assumption) ?_ | refine iLenI (by assumption) ?_ | refine iLenS (by assumption) ?_ | refine iLenL ?_ | refine iEq ?_ | refine iNe ?_ | refine iLt ?_ | refine iLe ?_ | refine iNot ?_ | refine iPick ?_ | refine iE20 ?_ | refine iE21 ?_ | refine iJn ?_)
    | ((with_reducible show xLd _ _ _); refine iLdB (by assumption) (by first | rfl | simp) ?_) | ((with_reducible refine iLdA (by assumption) ?_ ?_); rfl)
    | ((with_reducible refine iIaNN (by assumption) ?_ (fun pa_ hpa_ => ?_)); omega) | ((with_reducible refine iIaN (by assumption) ?_ (fun pa_ hpa_ => ?_)); omega)
    | ((with_reducible refine iIaI (by assumption) ?_ ?_ (fun pa_ hpa_ => ?_)); omega; omega) | ((with_reducible refine iAdd ?_ ?_); omega) | ((with_reducible refine iSub ?_ ?_); omega)
    | ((with_reducible show xEx _ _ _); refine iEx (by rfl) ?_) | ((with_reducible refine fun (_ : Nat → Value) => ?_); (try simp only [gx, List.getD_cons_zero, List.getD_cons_succ])))
  refine iCall ((F.to (hs1.ext hX) n1 (by omega)).mono ?_)
  rintro _ w13 ⟨h, a9, rfl, ho9⟩
  have hX := hX.trans h
  have hB2 := hB2.ext h
  have hB3 := hB3.ext h
  have ho8 := ho8.ext h
  have hD8 := hD8.ext h
  refine iNew fun b9 w14 hb9 h hD9 => ?_
  have hlo9 : w.heap.size ≤ b9 := by have := hX.size; omega
  have hne89 : b8 ≠ b9 := by have := hD8.lt; omega
  have hX := hX.trans h
  have hB2 := hB2.ext h
  have hB3 := hB3.ext h
  have ho8 := ho8.ext h
  have hD8 := hD8.ext h
  have ho9 := ho9.ext h
  refine iStAB hD9 rfl rfl (ho9.pair n1) fun w15 hu hD9' => ?_
  have hX := hX.upd hu hlo9
  have hB2 := hB2.upd hu (hB2.ne_blk hD9 htt)
  have hB3 := hB3.upd hu (hB3.ne_blk hD9 htt)
  have ho8 := ho8.upd hu (ho8.ne_blk hD9 htf)
  have ho9 := ho9.upd hu (ho9.ne_blk hD9 htf)
  have hD8 := hD8.upd hu hne89
  have hD9 := hD9'
  (repeat first
    | (with_reducible first | refine iFa ?_ | refine iNil ?_ | refine iNilF ?_ | refine iLd (by assumption) ?_ | refine iLenN (by assumption) ?_ | refine iLenI (by assumption) ?_ | refine iLenS (by assumption) ?_ | refine iLenL ?_ | refine iEq ?_ | refine iNe ?_ | refine iLt ?_ | refine iLe ?_ | refine iNot ?_ | refine iPick ?_ | refine iE20 ?_ | refine iE21 ?_ | refine iJn ?_)
    | ((with_reducible show xLd _ _ _); refine iLdB (by assumption) (by first | rfl | simp) ?_) | ((with_reducible refine iLdA (by assumption) ?_ ?_); rfl)
    | ((with_reducible refine iIaNN (by assumption) ?_ (fun pa_ hpa_ => ?_)); omega) | ((with_reducible refine iIaN (by assumption) ?_ (fun pa_ hpa_ => ?_)); omega)
    | ((with_reducible refine iIaI (by assumption) ?_ ?_ (fun pa_ hpa_ => ?_)); omega; omega) | ((with_reducible refine iAdd ?_ ?_); omega) | ((with_reducible refine iSub ?_ ?_); omega)
    | ((with_reducible show xEx _ _ _); refine iEx (by rfl) ?_) | ((with_reducible refine fun (_ : Nat → Value) => ?_); (try simp only [gx, List.getD_cons_zero, List.getD_cons_succ])))
  refine iRet (him ho8.sl ho9.sl n0 n1) fun w16 h => ?_
  have hX := hX.trans h
  have hB2 := hB2.ext h
  have hB3 := hB3.ext h
  have ho8 := ho8.ext h
  have ho9 := ho9.ext h
  have hD8 := hD8.ext h
  have hD9 := hD9.ext h
  (repeat first
    | (with_reducible first | refine iFa ?_ | refine iNil ?_ | refine iNilF ?_ | refine iLd (by assumption) ?_ | refine iLenN (by assumption) ?_ | refine iLenI (by assumption) ?_ | refine iLenS (by assumption) ?_ | refine iLenL ?_ | refine iEq ?_ | refine iNe ?_ | refine iLt ?_ | refine iLe ?_ | refine iNot ?_ | refine iPick ?_ | refine iE20 ?_ | refine iE21 ?_)
    | ((with_reducible show xLd _ _ _); refine iLdB (by assumption) (by first | rfl | simp) ?_) | ((with_reducible refine iLdA (by assumption) ?_ ?_); rfl)
    | ((with_reducible refine iIaNN (by assumption) ?_ (fun pa_ hpa_ => ?_)); omega) | ((with_reducible refine iIaN (by assumption) ?_ (fun pa_ hpa_ => ?_)); omega)
    | ((with_reducible refine iIaI (by assumption) ?_ ?_ (fun pa_ hpa_ => ?_)); omega; omega) | ((with_reducible refine iAdd ?_ ?_); omega) | ((with_reducible refine iSub ?_ ?_); omega)
    | ((with_reducible show xEx _ _ _); refine iEx (by rfl) ?_) | ((with_reducible refine fun (_ : Nat → Value) => ?_); (try simp only [gx, List.getD_cons_zero, List.getD_cons_succ])))
  refine iJnB false w16 (fun J hJ => ?_) (fun w18 h => ?_)
  · refine iBoolNe ?_
    refine iCndF (by simp) ?_
    (repeat first
    | (with_reducible first | refine iFa ?_ | refine iNil ?_ | refine iNilF ?_ | refine iLd (by assumption) ?_ | refine iLenN (by assumption) ?_ | refine iLenI (by assumption) ?_ | refine iLenS (by assumption) ?_ | refine iLenL ?_ | refine iEq ?_ | refine iNe ?_ | refine iLt ?_ | refine iLe ?_ | refine iNot ?_ | refine iPick ?_ | refine iE20 ?_ | refine iE21 ?_ | refine iJn ?_)
    | ((with_reducible show xLd _ _ _); refine iLdB (by assumption) (by first | rfl | simp) ?_) | ((with_reducible refine iLdA (by assumption) ?_ ?_); rfl)
    | ((with_reducible refine iIaNN (by assumption) ?_ (fun pa_ hpa_ => ?_)); omega) | ((with_reducible refine iIaN (by assumption) ?_ (fun pa_ hpa_ => ?_)); omega)
    | ((with_reducible refine iIaI (by assumption) ?_ ?_ (fun pa_ hpa_ => ?_)); omega; omega) | ((with_reducible refine iAdd ?_ ?_); omega) | ((with_reducible refine iSub ?_ ?_); omega)
    | ((with_reducible show xEx _ _ _); refine iEx (by rfl) ?_) | ((with_reducible refine fun (_ : Nat → Value) => ?_); (try simp only [gx, List.getD_cons_zero, List.getD_cons_succ])))
    have := hJ w16 (Ext.refl _)
    simpa using this
  have hX := hX.trans h
  have hB2 := hB2.ext h
  have hB3 := hB3.ext h
  have ho8 := ho8.ext h
  have ho9 := ho9.ext h
  have hD8 := hD8.ext h
  have hD9 := hD9.ext h
  (repeat first
    | (with_reducible first | refine iFa ?_ | refine iNil ?_ | refine iNilF ?_ | refine iLd (by assumption) ?_ | refine iLenN (by assumption) ?_ | refine iLenI (by assumption) ?_ | refine iLenS (by assumption) ?_ | refine iLenL ?_ | refine iEq ?_ | refine iNe ?_ | refine iLt ?_ | refine iLe ?_ | refine iNot ?_ | refine iPick ?_ | refine iE20 ?_ | refine iE21 ?_ | refine iJn ?_)
    | ((with_reducible show xLd _ _ _); refine iLdB (by assumption) (by first | rfl | simp) ?_) | ((with_reducible refine iLdA (by assumption) ?_ ?_); rfl)
    | ((with_reducible refine iIaNN (by assumption) ?_ (fun pa_ hpa_ => ?_)); omega) | ((with_reducible refine iIaN (by assumption) ?_ (fun pa_ hpa_ => ?_)); omega)
    | ((with_reducible refine iIaI (by assumption) ?_ ?_ (fun pa_ hpa_ => ?_)); omega; omega) | ((with_reducible refine iAdd ?_ ?_); omega) | ((with_reducible refine iSub ?_ ?_); omega)
    | ((with_reducible show xEx _ _ _); refine iEx (by rfl) ?_) | ((with_reducible refine fun (_ : Nat → Value) => ?_); (try simp only [gx, List.getD_cons_zero, List.getD_cons_succ])))
  refine iCndF rfl ?_
  (repeat first
    | (with_reducible first | refine iFa ?_ | refine iNil ?_ | refine iNilF ?_ | refine iLd (by assumption) ?_ | refine iLenN (by assumption) ?_ | refine iLenI (by assumption) ?_ | refine iLenS (by assumption) ?_ | refine iLenL ?_ | refine iEq ?_ | refine iNe ?_ | refine iLt ?_ | refine iLe ?_ | refine iNot ?_ | refine iPick ?_ | refine iE20 ?_ | refine iE21 ?_ | refine iJn ?_)
    | ((with_reducible show xLd _ _ _); refine iLdB (by assumption) (by first | rfl | simp) ?_) | ((with_reducible refine iLdA (by assumption) ?_ ?_); rfl)
    | ((with_reducible refine iIaNN (by assumption) ?_ (fun pa_ hpa_ => ?_)); omega) | ((with_reducible refine iIaN (by assumption) ?_ (fun pa_ hpa_ => ?_)); omega)
    | ((with_reducible refine iIaI (by assumption) ?_ ?_ (fun pa_ hpa_ => ?_)); omega; omega) | ((with_reducible refine iAdd ?_ ?_); omega) | ((with_reducible refine iSub ?_ ?_); omega)
    | ((with_reducible show xEx _ _ _); refine iEx (by rfl) ?_) | ((with_reducible refine fun (_ : Nat → Value) => ?_); (try simp only [gx, List.getD_cons_zero, List.getD_cons_succ])))
  intro w19 h
  have hX := hX.trans h
  have hB2 := hB2.ext h
  have hB3 := hB3.ext h
  have ho8 := ho8.ext h
  have ho9 := ho9.ext h
  have hD8 := hD8.ext h
  have hD9 := hD9.ext h
  refine iCall ((F.to (hs0.ext hX) n0 (by omega)).mono ?_)
  rintro _ w20 ⟨h, a2, rfl, ho2⟩
  (try refine ⟨h, ?_⟩)
  have hX := hX.trans h
  have hB2 := hB2.ext h
  have hB3 := hB3.ext h
  have ho8 := ho8.ext h
  have ho9 := ho9.ext h
  have hD8 := hD8.ext h
  have hD9 := hD9.ext h
  refine iRetQ (fun w' h' => F.eq (ho8.ext h').sl (ho2.ext h').sl n0 n0) ?_
  (repeat first
    | (with_reducible first | refine iFa ?_ | refine iNil ?_ | refine iNilF ?_ | refine iLd (by assumption) ?_ | refine iLenN (by assumption) ?_ | refine iLenI (by assumption) ?_ | refine iLenS (by assumption) ?_ | refine iLenL ?_ | refine iEq ?_ | refine iNe ?_ | refine iLt ?_ | refine iLe ?_ | refine iNot ?_ | refine iPick ?_ | refine iE20 ?_ | refine iE21 ?_ | refine iJn ?_)
    | ((with_reducible show xLd _ _ _); refine iLdB (by assumption) (by first | rfl | simp) ?_) | ((with_reducible refine iLdA (by assumption) ?_ ?_); rfl)
    | ((with_reducible refine iIaNN (by assumption) ?_ (fun pa_ hpa_ => ?_)); omega) | ((with_reducible refine iIaN (by assumption) ?_ (fun pa_ hpa_ => ?_)); omega)
    | ((with_reducible refine iIaI (by assumption) ?_ ?_ (fun pa_ hpa_ => ?_)); omega; omega) | ((with_reducible refine iAdd ?_ ?_); omega) | ((with_reducible refine iSub ?_ ?_); omega)
    | ((with_reducible show xEx _ _ _); refine iEx (by rfl) ?_) | ((with_reducible refine fun (_ : Nat → Value) => ?_); (try simp only [gx, List.getD_cons_zero, List.getD_cons_succ])))
  intro w21 h
  have hX := hX.trans h
  have hB2 := hB2.ext h
  have hB3 := hB3.ext h
  have ho8 := ho8.ext h
  have ho9 := ho9.ext h
  have hD8 := hD8.ext h
  have hD9 := hD9.ext h
  refine iCndF (by simp) ?_
  (repeat first
    | (with_reducible first | refine iFa ?_ | refine iNil ?_ | refine iNilF ?_ | refine iLd (by assumption) ?_ | refine iLenN (by assumption) ?_ | refine iLenI (by assumption) ?_ | refine iLenS (by assumption) ?_ | refine iLenL ?_ | refine iEq ?_ | refine iNe ?_ | refine iLt ?_ | refine iLe ?_ | refine iNot ?_ | refine iPick ?_ | refine iE20 ?_ | refine iE21 ?_ | refine iJn ?_)
    | ((with_reducible show xLd _ _ _); refine iLdB (by assumption) (by first | rfl | simp) ?_) | ((with_reducible refine iLdA (by assumption) ?_ ?_); rfl)
    | ((with_reducible refine iIaNN (by assumption) ?_ (fun pa_ hpa_ => ?_)); omega) | ((with_reducible refine iIaN (by assumption) ?_ (fun pa_ hpa_ => ?_)); omega)
    | ((with_reducible refine iIaI (by assumption) ?_ ?_ (fun pa_ hpa_ => ?_)); omega; omega) | ((with_reducible refine iAdd ?_ ?_); omega) | ((with_reducible refine iSub ?_ ?_); omega)
    | ((with_reducible show xEx _ _ _); refine iEx (by rfl) ?_) | ((with_reducible refine fun (_ : Nat → Value) => ?_); (try simp only [gx, List.getD_cons_zero, List.getD_cons_succ])))
  intro w22 h
  have hX := hX.trans h
  have hB2 := hB2.ext h
  have hB3 := hB3.ext h
  have ho8 := ho8.ext h
  have ho9 := ho9.ext h
  have hD8 := hD8.ext h
  have hD9 := hD9.ext h
  refine iCall ((F.to (hs1.ext hX) n1 (by omega)).mono ?_)
  rintro _ w23 ⟨h, a3, rfl, ho3⟩
  (try refine ⟨h, ?_⟩)
  have hX := hX.trans h
  have hB2 := hB2.ext h
  have hB3 := hB3.ext h
  have ho8 := ho8.ext h
  have ho9 := ho9.ext h
  have hD8 := hD8.ext h
  have hD9 := hD9.ext h
  refine iRetQ (fun w' h' => F.eq (ho9.ext h').sl (ho3.ext h').sl n1 n1) ?_
  (repeat first
    | (with_reducible first | refine iFa ?_ | refine iNil ?_ | refine iNilF ?_ | refine iLd (by assumption) ?_ | refine iLenN (by assumption) ?_ | refine iLenI (by assumption) ?_ | refine iLenS (by assumption) ?_ | refine iLenL ?_ | refine iEq ?_ | refine iNe ?_ | refine iLt ?_ | refine iLe ?_ | refine iNot ?_ | refine iPick ?_ | refine iE20 ?_ | refine iE21 ?_ | refine iJn ?_)
    | ((with_reducible show xLd _ _ _); refine iLdB (by assumption) (by first | rfl | simp) ?_) | ((with_reducible refine iLdA (by assumption) ?_ ?_); rfl)
    | ((with_reducible refine iIaNN (by assumption) ?_ (fun pa_ hpa_ => ?_)); omega) | ((with_reducible refine iIaN (by assumption) ?_ (fun pa_ hpa_ => ?_)); omega)
    | ((with_reducible refine iIaI (by assumption) ?_ ?_ (fun pa_ hpa_ => ?_)); omega; omega) | ((with_reducible refine iAdd ?_ ?_); omega) | ((with_reducible refine iSub ?_ ?_); omega)
    | ((with_reducible show xEx _ _ _); refine iEx (by rfl) ?_) | ((with_reducible refine fun (_ : Nat → Value) => ?_); (try simp only [gx, List.getD_cons_zero, List.getD_cons_succ])))
  intro w24 h
  have hX := hX.trans h
  refine iCndF (by simp) ?_
  exact ⟨by trivial, hX⟩
end Go.Proofs.Ytgbnmihpjlbfgaa
