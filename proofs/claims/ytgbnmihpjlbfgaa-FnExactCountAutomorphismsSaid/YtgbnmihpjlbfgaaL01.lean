/- The laws on one frame: what their bodies answer. Conditions: none. -/
import Derived.Test.YtgbnmihpjlbfgaaC11
import Derived.Test.YtgbnmihpjlbfgaaCla
namespace Go.Proofs.Ytgbnmihpjlbfgaa
open Go.Vc
theorem szN_neg (n : Nat) (left : Int) (h : ¬ szN n left < 0) : (n : Int) ≤ left ∧ szN n left = left - n := by
  unfold szN at *
  split at h
  · omega
  · rename_i h2; rw [if_neg h2]; omega
theorem autRes_shape (n : Int) (l : List Int) : ∃ a b, autRes n l = .tuple #[.int .i64 a, .int .i64 b] := by
  unfold autRes
  split
  · exact ⟨_, _, rfl⟩
  · exact ⟨_, _, rfl⟩
theorem ok_laws_FnExactCountAutomorphisms {v : Value} {w : World} {l : List Int} (hs : SlI w v l) (n : Int) : Ret Try.prog f_laws_FnExactCountAutomorphisms #[.agg #[.int .i64 n, v]] w (.bool true) := by
  obtain ⟨a, b, hr⟩ := autRes_shape n l
  apply c_laws_FnExactCountAutomorphisms; unfold S_laws_FnExactCountAutomorphisms
  refine iNew fun b1 w1 hb1 h1 hB => ?_
  (repeat first
    | with_reducible refine iFa ?_
    | with_reducible refine iNil ?_
    | with_reducible refine iNilF ?_
    | ((with_reducible show xLd _ _ _); refine iLdB (by assumption) (by first | rfl | simp) ?_)
    | with_reducible refine iLd (by assumption) ?_
    | ((with_reducible refine iLdA (by assumption) ?_ ?_); rfl)
    | with_reducible refine iLenN (by assumption) ?_
    | with_reducible refine iLenI (by assumption) ?_
    | with_reducible refine iLenS (by assumption) ?_
    | with_reducible refine iLenL ?_
    | ((with_reducible refine iIaNN (by assumption) ?_ (fun pa_ hpa_ => ?_)); omega)
    | ((with_reducible refine iIaN (by assumption) ?_ (fun pa_ hpa_ => ?_)); omega)
    | ((with_reducible refine iIaI (by assumption) ?_ ?_ (fun pa_ hpa_ => ?_)); omega; omega)
    | ((with_reducible refine iAdd ?_ ?_); omega)
    | ((with_reducible refine iSub ?_ ?_); omega)
    | with_reducible refine iEq ?_
    | with_reducible refine iNe ?_
    | with_reducible refine iLt ?_
    | with_reducible refine iLe ?_
    | with_reducible refine iNot ?_
    | with_reducible refine iPick ?_
    | with_reducible refine iE20 ?_
    | with_reducible refine iE21 ?_
    | ((with_reducible show xEx _ _ _); refine iEx (by rfl) ?_)
    | with_reducible refine iJn ?_
    | ((with_reducible refine fun (_ : Nat → Value) => ?_); (try simp only [gx, List.getD_cons_zero, List.getD_cons_succ])))
  refine iRet (ok_laws_szFrame (hs.ext h1) n 1048576 (by omega)) fun w2 h2 => ?_
  have hX2 : Ext w w2 := h1.trans h2
  have hB := hB.ext h2
  (repeat first
    | with_reducible refine iFa ?_
    | with_reducible refine iNil ?_
    | with_reducible refine iNilF ?_
    | ((with_reducible show xLd _ _ _); refine iLdB (by assumption) (by first | rfl | simp) ?_)
    | with_reducible refine iLd (by assumption) ?_
    | ((with_reducible refine iLdA (by assumption) ?_ ?_); rfl)
    | with_reducible refine iLenN (by assumption) ?_
    | with_reducible refine iLenI (by assumption) ?_
    | with_reducible refine iLenS (by assumption) ?_
    | with_reducible refine iLenL ?_
    | ((with_reducible refine iIaNN (by assumption) ?_ (fun pa_ hpa_ => ?_)); omega)
    | ((with_reducible refine iIaN (by assumption) ?_ (fun pa_ hpa_ => ?_)); omega)
    | ((with_reducible refine iIaI (by assumption) ?_ ?_ (fun pa_ hpa_ => ?_)); omega; omega)
    | ((with_reducible refine iAdd ?_ ?_); omega)
    | ((with_reducible refine iSub ?_ ?_); omega)
    | with_reducible refine iEq ?_
    | with_reducible refine iNe ?_
    | with_reducible refine iLt ?_
    | with_reducible refine iLe ?_
    | with_reducible refine iNot ?_
    | with_reducible refine iPick ?_
    | with_reducible refine iE20 ?_
    | with_reducible refine iE21 ?_
    | ((with_reducible show xEx _ _ _); refine iEx (by rfl) ?_)
    | with_reducible refine iJn ?_
    | ((with_reducible refine fun (_ : Nat → Value) => ?_); (try simp only [gx, List.getD_cons_zero, List.getD_cons_succ])))
  refine iCndP (fun h3 => ?_) (fun h3 => ?_)
  · exact ⟨rfl, hX2⟩
  · have hl := (szN_neg _ _ h3).1
    (repeat first
    | with_reducible refine iFa ?_
    | with_reducible refine iNil ?_
    | with_reducible refine iNilF ?_
    | ((with_reducible show xLd _ _ _); refine iLdB (by assumption) (by first | rfl | simp) ?_)
    | with_reducible refine iLd (by assumption) ?_
    | ((with_reducible refine iLdA (by assumption) ?_ ?_); rfl)
    | with_reducible refine iLenN (by assumption) ?_
    | with_reducible refine iLenI (by assumption) ?_
    | with_reducible refine iLenS (by assumption) ?_
    | with_reducible refine iLenL ?_
    | ((with_reducible refine iIaNN (by assumption) ?_ (fun pa_ hpa_ => ?_)); omega)
    | ((with_reducible refine iIaN (by assumption) ?_ (fun pa_ hpa_ => ?_)); omega)
    | ((with_reducible refine iIaI (by assumption) ?_ ?_ (fun pa_ hpa_ => ?_)); omega; omega)
    | ((with_reducible refine iAdd ?_ ?_); omega)
    | ((with_reducible refine iSub ?_ ?_); omega)
    | with_reducible refine iEq ?_
    | with_reducible refine iNe ?_
    | with_reducible refine iLt ?_
    | with_reducible refine iLe ?_
    | with_reducible refine iNot ?_
    | with_reducible refine iPick ?_
    | with_reducible refine iE20 ?_
    | with_reducible refine iE21 ?_
    | ((with_reducible show xEx _ _ _); refine iEx (by rfl) ?_)
    | with_reducible refine iJn ?_
    | ((with_reducible refine fun (_ : Nat → Value) => ?_); (try simp only [gx, List.getD_cons_zero, List.getD_cons_succ])))
    refine iCall ((ok_laws_toFrame (hs.ext hX2) n (by omega)).mono ?_)
    rintro _ w3 ⟨h4, v1, rfl, ho1⟩
    have hX3 : Ext w w3 := hX2.trans h4
    have hB := hB.ext h4
    refine iRet (ok_spec_CountAutomorphisms ho1.sl n) fun w4 h5 => ?_
    rw [hr]
    have hX4 : Ext w w4 := hX3.trans h5
    have hB := hB.ext h5
    (repeat first
    | with_reducible refine iFa ?_
    | with_reducible refine iNil ?_
    | with_reducible refine iNilF ?_
    | ((with_reducible show xLd _ _ _); refine iLdB (by assumption) (by first | rfl | simp) ?_)
    | with_reducible refine iLd (by assumption) ?_
    | ((with_reducible refine iLdA (by assumption) ?_ ?_); rfl)
    | with_reducible refine iLenN (by assumption) ?_
    | with_reducible refine iLenI (by assumption) ?_
    | with_reducible refine iLenS (by assumption) ?_
    | with_reducible refine iLenL ?_
    | ((with_reducible refine iIaNN (by assumption) ?_ (fun pa_ hpa_ => ?_)); omega)
    | ((with_reducible refine iIaN (by assumption) ?_ (fun pa_ hpa_ => ?_)); omega)
    | ((with_reducible refine iIaI (by assumption) ?_ ?_ (fun pa_ hpa_ => ?_)); omega; omega)
    | ((with_reducible refine iAdd ?_ ?_); omega)
    | ((with_reducible refine iSub ?_ ?_); omega)
    | with_reducible refine iEq ?_
    | with_reducible refine iNe ?_
    | with_reducible refine iLt ?_
    | with_reducible refine iLe ?_
    | with_reducible refine iNot ?_
    | with_reducible refine iPick ?_
    | with_reducible refine iE20 ?_
    | with_reducible refine iE21 ?_
    | ((with_reducible show xEx _ _ _); refine iEx (by rfl) ?_)
    | with_reducible refine iJn ?_
    | ((with_reducible refine fun (_ : Nat → Value) => ?_); (try simp only [gx, List.getD_cons_zero, List.getD_cons_succ])))
    refine iCall ((ok_laws_toFrame (hs.ext hX4) n (by omega)).mono ?_)
    rintro _ w5 ⟨h6, v2, rfl, ho2⟩
    have hX5 : Ext w w5 := hX4.trans h6
    have hB := hB.ext h6
    refine iNew fun b2 w6 hb2 h7 hD => ?_
    have hB := hB.ext h7
    have ho2 := ho2.ext h7
    have hX6 : Ext w w6 := hX5.trans h7
    refine iStAB hD rfl rfl (ho2.pair n) fun w7 hu hD' => ?_
    have hX7 : Ext w w7 := hX6.upd hu (by have := hX5.size; omega)
    have hB := hB.upd hu (hB.ne_blk hD (by decide))
    have ho2 := ho2.upd hu (ho2.ne_blk hD (by decide))
    have hD := hD'
    (repeat first
    | with_reducible refine iFa ?_
    | with_reducible refine iNil ?_
    | with_reducible refine iNilF ?_
    | ((with_reducible show xLd _ _ _); refine iLdB (by assumption) (by first | rfl | simp) ?_)
    | with_reducible refine iLd (by assumption) ?_
    | ((with_reducible refine iLdA (by assumption) ?_ ?_); rfl)
    | with_reducible refine iLenN (by assumption) ?_
    | with_reducible refine iLenI (by assumption) ?_
    | with_reducible refine iLenS (by assumption) ?_
    | with_reducible refine iLenL ?_
    | ((with_reducible refine iIaNN (by assumption) ?_ (fun pa_ hpa_ => ?_)); omega)
    | ((with_reducible refine iIaN (by assumption) ?_ (fun pa_ hpa_ => ?_)); omega)
    | ((with_reducible refine iIaI (by assumption) ?_ ?_ (fun pa_ hpa_ => ?_)); omega; omega)
    | ((with_reducible refine iAdd ?_ ?_); omega)
    | ((with_reducible refine iSub ?_ ?_); omega)
    | with_reducible refine iEq ?_
    | with_reducible refine iNe ?_
    | with_reducible refine iLt ?_
    | with_reducible refine iLe ?_
    | with_reducible refine iNot ?_
    | with_reducible refine iPick ?_
    | with_reducible refine iE20 ?_
    | with_reducible refine iE21 ?_
    | ((with_reducible show xEx _ _ _); refine iEx (by rfl) ?_)
    | with_reducible refine iJn ?_
    | ((with_reducible refine fun (_ : Nat → Value) => ?_); (try simp only [gx, List.getD_cons_zero, List.getD_cons_succ])))
    refine iRet (ok_impl_CountAutomorphisms ho2.sl n) fun w8 h8 => ?_
    rw [hr]
    have hX8 := hX7.trans h8
    have hB := hB.ext h8
    have hD := hD.ext h8
    have ho2 := ho2.ext h8
    (repeat first
    | with_reducible refine iFa ?_
    | with_reducible refine iNil ?_
    | with_reducible refine iNilF ?_
    | ((with_reducible show xLd _ _ _); refine iLdB (by assumption) (by first | rfl | simp) ?_)
    | with_reducible refine iLd (by assumption) ?_
    | ((with_reducible refine iLdA (by assumption) ?_ ?_); rfl)
    | with_reducible refine iLenN (by assumption) ?_
    | with_reducible refine iLenI (by assumption) ?_
    | with_reducible refine iLenS (by assumption) ?_
    | with_reducible refine iLenL ?_
    | ((with_reducible refine iIaNN (by assumption) ?_ (fun pa_ hpa_ => ?_)); omega)
    | ((with_reducible refine iIaN (by assumption) ?_ (fun pa_ hpa_ => ?_)); omega)
    | ((with_reducible refine iIaI (by assumption) ?_ ?_ (fun pa_ hpa_ => ?_)); omega; omega)
    | ((with_reducible refine iAdd ?_ ?_); omega)
    | ((with_reducible refine iSub ?_ ?_); omega)
    | with_reducible refine iEq ?_
    | with_reducible refine iNe ?_
    | with_reducible refine iLt ?_
    | with_reducible refine iLe ?_
    | with_reducible refine iNot ?_
    | with_reducible refine iPick ?_
    | with_reducible refine iE20 ?_
    | with_reducible refine iE21 ?_
    | ((with_reducible show xEx _ _ _); refine iEx (by rfl) ?_)
    | ((with_reducible refine fun (_ : Nat → Value) => ?_); (try simp only [gx, List.getD_cons_zero, List.getD_cons_succ])))
    refine iJnB false w8 (fun J hJ => ?_) (fun w10 h10 => ?_)
    · (repeat first
    | with_reducible refine iFa ?_
    | with_reducible refine iNil ?_
    | with_reducible refine iNilF ?_
    | ((with_reducible show xLd _ _ _); refine iLdB (by assumption) (by first | rfl | simp) ?_)
    | with_reducible refine iLd (by assumption) ?_
    | ((with_reducible refine iLdA (by assumption) ?_ ?_); rfl)
    | with_reducible refine iLenN (by assumption) ?_
    | with_reducible refine iLenI (by assumption) ?_
    | with_reducible refine iLenS (by assumption) ?_
    | with_reducible refine iLenL ?_
    | ((with_reducible refine iIaNN (by assumption) ?_ (fun pa_ hpa_ => ?_)); omega)
    | ((with_reducible refine iIaN (by assumption) ?_ (fun pa_ hpa_ => ?_)); omega)
    | ((with_reducible refine iIaI (by assumption) ?_ ?_ (fun pa_ hpa_ => ?_)); omega; omega)
    | ((with_reducible refine iAdd ?_ ?_); omega)
    | ((with_reducible refine iSub ?_ ?_); omega)
    | with_reducible refine iEq ?_
    | with_reducible refine iNe ?_
    | with_reducible refine iLt ?_
    | with_reducible refine iLe ?_
    | with_reducible refine iNot ?_
    | with_reducible refine iPick ?_
    | with_reducible refine iE20 ?_
    | with_reducible refine iE21 ?_
    | ((with_reducible show xEx _ _ _); refine iEx (by rfl) ?_)
    | with_reducible refine iJn ?_
    | ((with_reducible refine fun (_ : Nat → Value) => ?_); (try simp only [gx, List.getD_cons_zero, List.getD_cons_succ])))
      refine iCndP (fun h => absurd rfl h) (fun _ => ?_)
      (repeat first
    | with_reducible refine iFa ?_
    | with_reducible refine iNil ?_
    | with_reducible refine iNilF ?_
    | ((with_reducible show xLd _ _ _); refine iLdB (by assumption) (by first | rfl | simp) ?_)
    | with_reducible refine iLd (by assumption) ?_
    | ((with_reducible refine iLdA (by assumption) ?_ ?_); rfl)
    | with_reducible refine iLenN (by assumption) ?_
    | with_reducible refine iLenI (by assumption) ?_
    | with_reducible refine iLenS (by assumption) ?_
    | with_reducible refine iLenL ?_
    | ((with_reducible refine iIaNN (by assumption) ?_ (fun pa_ hpa_ => ?_)); omega)
    | ((with_reducible refine iIaN (by assumption) ?_ (fun pa_ hpa_ => ?_)); omega)
    | ((with_reducible refine iIaI (by assumption) ?_ ?_ (fun pa_ hpa_ => ?_)); omega; omega)
    | ((with_reducible refine iAdd ?_ ?_); omega)
    | ((with_reducible refine iSub ?_ ?_); omega)
    | with_reducible refine iEq ?_
    | with_reducible refine iNe ?_
    | with_reducible refine iLt ?_
    | with_reducible refine iLe ?_
    | with_reducible refine iNot ?_
    | with_reducible refine iPick ?_
    | with_reducible refine iE20 ?_
    | with_reducible refine iE21 ?_
    | ((with_reducible show xEx _ _ _); refine iEx (by rfl) ?_)
    | with_reducible refine iJn ?_
    | ((with_reducible refine fun (_ : Nat → Value) => ?_); (try simp only [gx, List.getD_cons_zero, List.getD_cons_succ])))
      have := hJ w8 (Ext.refl _)
      simpa using this
    · have hX10 := hX8.trans h10
      have hB := hB.ext h10
      have hD := hD.ext h10
      have ho2 := ho2.ext h10
      (repeat first
    | with_reducible refine iFa ?_
    | with_reducible refine iNil ?_
    | with_reducible refine iNilF ?_
    | ((with_reducible show xLd _ _ _); refine iLdB (by assumption) (by first | rfl | simp) ?_)
    | with_reducible refine iLd (by assumption) ?_
    | ((with_reducible refine iLdA (by assumption) ?_ ?_); rfl)
    | with_reducible refine iLenN (by assumption) ?_
    | with_reducible refine iLenI (by assumption) ?_
    | with_reducible refine iLenS (by assumption) ?_
    | with_reducible refine iLenL ?_
    | ((with_reducible refine iIaNN (by assumption) ?_ (fun pa_ hpa_ => ?_)); omega)
    | ((with_reducible refine iIaN (by assumption) ?_ (fun pa_ hpa_ => ?_)); omega)
    | ((with_reducible refine iIaI (by assumption) ?_ ?_ (fun pa_ hpa_ => ?_)); omega; omega)
    | ((with_reducible refine iAdd ?_ ?_); omega)
    | ((with_reducible refine iSub ?_ ?_); omega)
    | with_reducible refine iEq ?_
    | with_reducible refine iNe ?_
    | with_reducible refine iLt ?_
    | with_reducible refine iLe ?_
    | with_reducible refine iNot ?_
    | with_reducible refine iPick ?_
    | with_reducible refine iE20 ?_
    | with_reducible refine iE21 ?_
    | ((with_reducible show xEx _ _ _); refine iEx (by rfl) ?_)
    | with_reducible refine iJn ?_
    | ((with_reducible refine fun (_ : Nat → Value) => ?_); (try simp only [gx, List.getD_cons_zero, List.getD_cons_succ])))
      refine iCndF rfl ?_
      (repeat first
    | with_reducible refine iFa ?_
    | with_reducible refine iNil ?_
    | with_reducible refine iNilF ?_
    | ((with_reducible show xLd _ _ _); refine iLdB (by assumption) (by first | rfl | simp) ?_)
    | with_reducible refine iLd (by assumption) ?_
    | ((with_reducible refine iLdA (by assumption) ?_ ?_); rfl)
    | with_reducible refine iLenN (by assumption) ?_
    | with_reducible refine iLenI (by assumption) ?_
    | with_reducible refine iLenS (by assumption) ?_
    | with_reducible refine iLenL ?_
    | ((with_reducible refine iIaNN (by assumption) ?_ (fun pa_ hpa_ => ?_)); omega)
    | ((with_reducible refine iIaN (by assumption) ?_ (fun pa_ hpa_ => ?_)); omega)
    | ((with_reducible refine iIaI (by assumption) ?_ ?_ (fun pa_ hpa_ => ?_)); omega; omega)
    | ((with_reducible refine iAdd ?_ ?_); omega)
    | ((with_reducible refine iSub ?_ ?_); omega)
    | with_reducible refine iEq ?_
    | with_reducible refine iNe ?_
    | with_reducible refine iLt ?_
    | with_reducible refine iLe ?_
    | with_reducible refine iNot ?_
    | with_reducible refine iPick ?_
    | with_reducible refine iE20 ?_
    | with_reducible refine iE21 ?_
    | ((with_reducible show xEx _ _ _); refine iEx (by rfl) ?_)
    | with_reducible refine iJn ?_
    | ((with_reducible refine fun (_ : Nat → Value) => ?_); (try simp only [gx, List.getD_cons_zero, List.getD_cons_succ])))
      intro w11 h11
      have hX11 := hX10.trans h11
      have ho2 := ho2.ext h11
      refine iCall ((ok_laws_toFrame (hs.ext hX11) n (by omega)).mono ?_)
      rintro _ w12 ⟨h12, v3, rfl, ho3⟩
      have ho2 := ho2.ext h12
      refine ⟨h12, ?_⟩
      refine iRetQ (fun w' h' => ok_laws_eqFrame (ho2.ext h').sl (ho3.ext h').sl n n) ?_
      (repeat first
    | with_reducible refine iFa ?_
    | with_reducible refine iNil ?_
    | with_reducible refine iNilF ?_
    | ((with_reducible show xLd _ _ _); refine iLdB (by assumption) (by first | rfl | simp) ?_)
    | with_reducible refine iLd (by assumption) ?_
    | ((with_reducible refine iLdA (by assumption) ?_ ?_); rfl)
    | with_reducible refine iLenN (by assumption) ?_
    | with_reducible refine iLenI (by assumption) ?_
    | with_reducible refine iLenS (by assumption) ?_
    | with_reducible refine iLenL ?_
    | ((with_reducible refine iIaNN (by assumption) ?_ (fun pa_ hpa_ => ?_)); omega)
    | ((with_reducible refine iIaN (by assumption) ?_ (fun pa_ hpa_ => ?_)); omega)
    | ((with_reducible refine iIaI (by assumption) ?_ ?_ (fun pa_ hpa_ => ?_)); omega; omega)
    | ((with_reducible refine iAdd ?_ ?_); omega)
    | ((with_reducible refine iSub ?_ ?_); omega)
    | with_reducible refine iEq ?_
    | with_reducible refine iNe ?_
    | with_reducible refine iLt ?_
    | with_reducible refine iLe ?_
    | with_reducible refine iNot ?_
    | with_reducible refine iPick ?_
    | with_reducible refine iE20 ?_
    | with_reducible refine iE21 ?_
    | ((with_reducible show xEx _ _ _); refine iEx (by rfl) ?_)
    | with_reducible refine iJn ?_
    | ((with_reducible refine fun (_ : Nat → Value) => ?_); (try simp only [gx, List.getD_cons_zero, List.getD_cons_succ])))
      intro w13 h13
      refine iCndF (by simp) ?_
      exact ⟨by trivial, (hX11.trans h12).trans h13⟩
end Go.Proofs.Ytgbnmihpjlbfgaa
