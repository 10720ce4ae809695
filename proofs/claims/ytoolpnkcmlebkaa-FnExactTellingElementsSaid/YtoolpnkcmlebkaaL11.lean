/- The law on TellingElements: what its body answers. Conditions: none. -/
import Derived.Test.YtoolpnkcmlebkaaC33
import Derived.Test.YtoolpnkcmlebkaaLw3
namespace Go.Proofs.Ytoolpnkcmlebkaa
open Go.Vc
theorem ok_laws_FnExactTellingElements {w : World} {s0 s1 : Value} {l0 l1 : List Int} (hs0 : SlI w s0 l0) (hs1 : SlI w s1 l1) (n0 n1 : Int) : Ret Try.prog f_laws_FnExactTellingElements #[.agg #[.int .i64 n0, s0], .agg #[.int .i64 n1, s1]] w (.bool true) := by
  apply c_laws_FnExactTellingElements; unfold S_laws_FnExactTellingElements
  have hX := Ext.refl w
  refine iNew fun b2 w1 hb2 h hB2 => ?_
  have hX := hX.trans h
  refine iNew fun b3 w2 hb3 h hB3 => ?_
  have hX := hX.trans h
  have hB2 := hB2.ext h
  (repeat first
    | (with_reducible first | refine iFa ?_ | refine iNil ?_ | refine iNilF ?_ | refine iLd (by assumption) ?_ | refine iLenN (by assumption) ?_ | refine iLenI (by assumption) ?_ | refine iLenS (by assumption) ?_ | refine iLenL ?_ | refine iEq ?_ | refine iNe ?_ | refine iLt ?_ | refine iLe ?_ | refine iNot ?_ | refine iPick ?_ | refine iE20 ?_ | refine iE21 ?_ | refine iE30 ?_ | refine iE31 ?_ | refine iE32 ?_ | refine iJn ?_)
    | ((with_reducible show xLd _ _ _); refine iLdB (by assumption) (by first | rfl | simp) ?_) | ((with_reducible refine iLdA (by assumption) ?_ ?_); rfl)
    | ((with_reducible refine iIaNN (by assumption) ?_ (fun pa_ hpa_ => ?_)); omega) | ((with_reducible refine iIaN (by assumption) ?_ (fun pa_ hpa_ => ?_)); omega)
    | ((with_reducible refine iIaI (by assumption) ?_ ?_ (fun pa_ hpa_ => ?_)); omega; omega) | ((with_reducible refine iAdd ?_ ?_); omega) | ((with_reducible refine iSub ?_ ?_); omega)
    | ((with_reducible show xEx _ _ _); refine iEx (by rfl) ?_) | ((with_reducible refine fun (_ : Nat → Value) => ?_); (try simp only [gx])))
  refine iRet (ok_laws_szPoset (hs0.ext hX) n0 1048576 (by omega)) fun w3 h => ?_
  have hX := hX.trans h
  have hB2 := hB2.ext h
  have hB3 := hB3.ext h
  (repeat first
    | (with_reducible first | refine iFa ?_ | refine iNil ?_ | refine iNilF ?_ | refine iLd (by assumption) ?_ | refine iLenN (by assumption) ?_ | refine iLenI (by assumption) ?_ | refine iLenS (by assumption) ?_ | refine iLenL ?_ | refine iEq ?_ | refine iNe ?_ | refine iLt ?_ | refine iLe ?_ | refine iNot ?_ | refine iPick ?_ | refine iE20 ?_ | refine iE21 ?_ | refine iE30 ?_ | refine iE31 ?_ | refine iE32 ?_ | refine iJn ?_)
    | ((with_reducible show xLd _ _ _); refine iLdB (by assumption) (by first | rfl | simp) ?_) | ((with_reducible refine iLdA (by assumption) ?_ ?_); rfl)
    | ((with_reducible refine iIaNN (by assumption) ?_ (fun pa_ hpa_ => ?_)); omega) | ((with_reducible refine iIaN (by assumption) ?_ (fun pa_ hpa_ => ?_)); omega)
    | ((with_reducible refine iIaI (by assumption) ?_ ?_ (fun pa_ hpa_ => ?_)); omega; omega) | ((with_reducible refine iAdd ?_ ?_); omega) | ((with_reducible refine iSub ?_ ?_); omega)
    | ((with_reducible show xEx _ _ _); refine iEx (by rfl) ?_) | ((with_reducible refine fun (_ : Nat → Value) => ?_); (try simp only [gx])))
  refine iCndP (fun h3 => ⟨rfl, hX⟩) (fun h3 => ?_)
  obtain ⟨hl0, hl0'⟩ := szN_neg _ _ h3
  (repeat first
    | (with_reducible first | refine iFa ?_ | refine iNil ?_ | refine iNilF ?_ | refine iLd (by assumption) ?_ | refine iLenN (by assumption) ?_ | refine iLenI (by assumption) ?_ | refine iLenS (by assumption) ?_ | refine iLenL ?_ | refine iEq ?_ | refine iNe ?_ | refine iLt ?_ | refine iLe ?_ | refine iNot ?_ | refine iPick ?_ | refine iE20 ?_ | refine iE21 ?_ | refine iE30 ?_ | refine iE31 ?_ | refine iE32 ?_ | refine iJn ?_)
    | ((with_reducible show xLd _ _ _); refine iLdB (by assumption) (by first | rfl | simp) ?_) | ((with_reducible refine iLdA (by assumption) ?_ ?_); rfl)
    | ((with_reducible refine iIaNN (by assumption) ?_ (fun pa_ hpa_ => ?_)); omega) | ((with_reducible refine iIaN (by assumption) ?_ (fun pa_ hpa_ => ?_)); omega)
    | ((with_reducible refine iIaI (by assumption) ?_ ?_ (fun pa_ hpa_ => ?_)); omega; omega) | ((with_reducible refine iAdd ?_ ?_); omega) | ((with_reducible refine iSub ?_ ?_); omega)
    | ((with_reducible show xEx _ _ _); refine iEx (by rfl) ?_) | ((with_reducible refine fun (_ : Nat → Value) => ?_); (try simp only [gx])))
  refine iRet (ok_laws_szPoset (hs1.ext hX) n1 (szN l0.length 1048576) (by omega)) fun w4 h => ?_
  have hX := hX.trans h
  have hB2 := hB2.ext h
  have hB3 := hB3.ext h
  (repeat first
    | (with_reducible first | refine iFa ?_ | refine iNil ?_ | refine iNilF ?_ | refine iLd (by assumption) ?_ | refine iLenN (by assumption) ?_ | refine iLenI (by assumption) ?_ | refine iLenS (by assumption) ?_ | refine iLenL ?_ | refine iEq ?_ | refine iNe ?_ | refine iLt ?_ | refine iLe ?_ | refine iNot ?_ | refine iPick ?_ | refine iE20 ?_ | refine iE21 ?_ | refine iE30 ?_ | refine iE31 ?_ | refine iE32 ?_ | refine iJn ?_)
    | ((with_reducible show xLd _ _ _); refine iLdB (by assumption) (by first | rfl | simp) ?_) | ((with_reducible refine iLdA (by assumption) ?_ ?_); rfl)
    | ((with_reducible refine iIaNN (by assumption) ?_ (fun pa_ hpa_ => ?_)); omega) | ((with_reducible refine iIaN (by assumption) ?_ (fun pa_ hpa_ => ?_)); omega)
    | ((with_reducible refine iIaI (by assumption) ?_ ?_ (fun pa_ hpa_ => ?_)); omega; omega) | ((with_reducible refine iAdd ?_ ?_); omega) | ((with_reducible refine iSub ?_ ?_); omega)
    | ((with_reducible show xEx _ _ _); refine iEx (by rfl) ?_) | ((with_reducible refine fun (_ : Nat → Value) => ?_); (try simp only [gx])))
  refine iCndP (fun h3 => ⟨rfl, hX⟩) (fun h3 => ?_)
  obtain ⟨hl1, _⟩ := szN_neg _ _ h3
  (repeat first
    | (with_reducible first | refine iFa ?_ | refine iNil ?_ | refine iNilF ?_ | refine iLd (by assumption) ?_ | refine iLenN (by assumption) ?_ | refine iLenI (by assumption) ?_ | refine iLenS (by assumption) ?_ | refine iLenL ?_ | refine iEq ?_ | refine iNe ?_ | refine iLt ?_ | refine iLe ?_ | refine iNot ?_ | refine iPick ?_ | refine iE20 ?_ | refine iE21 ?_ | refine iE30 ?_ | refine iE31 ?_ | refine iE32 ?_ | refine iJn ?_)
    | ((with_reducible show xLd _ _ _); refine iLdB (by assumption) (by first | rfl | simp) ?_) | ((with_reducible refine iLdA (by assumption) ?_ ?_); rfl)
    | ((with_reducible refine iIaNN (by assumption) ?_ (fun pa_ hpa_ => ?_)); omega) | ((with_reducible refine iIaN (by assumption) ?_ (fun pa_ hpa_ => ?_)); omega)
    | ((with_reducible refine iIaI (by assumption) ?_ ?_ (fun pa_ hpa_ => ?_)); omega; omega) | ((with_reducible refine iAdd ?_ ?_); omega) | ((with_reducible refine iSub ?_ ?_); omega)
    | ((with_reducible show xEx _ _ _); refine iEx (by rfl) ?_) | ((with_reducible refine fun (_ : Nat → Value) => ?_); (try simp only [gx])))
  intro w5 h
  have hX := hX.trans h
  have hB2 := hB2.ext h
  have hB3 := hB3.ext h
  refine iCall ((ok_laws_toPoset (hs0.ext hX) n0 (by omega)).mono ?_)
  rintro _ w6 ⟨h, a0, rfl, ho0⟩
  (try refine ⟨h, ?_⟩)
  have hX := hX.trans h
  have hB2 := hB2.ext h
  have hB3 := hB3.ext h
  intro w7 h
  have hX := hX.trans h
  have hB2 := hB2.ext h
  have hB3 := hB3.ext h
  have ho0 := ho0.ext h
  refine iCall ((ok_laws_toPoset (hs1.ext hX) n1 (by omega)).mono ?_)
  rintro _ w8 ⟨h, a1, rfl, ho1⟩
  (try refine ⟨h, ?_⟩)
  have hX := hX.trans h
  have hB2 := hB2.ext h
  have hB3 := hB3.ext h
  have ho0 := ho0.ext h
  refine iRetQ (fun w' h' => ok_spec_TellingElements (ho0.ext h').sl (ho1.ext h').sl n0 n1) ?_
  (repeat first
    | (with_reducible first | refine iFa ?_ | refine iNil ?_ | refine iNilF ?_ | refine iLd (by assumption) ?_ | refine iLenN (by assumption) ?_ | refine iLenI (by assumption) ?_ | refine iLenS (by assumption) ?_ | refine iLenL ?_ | refine iEq ?_ | refine iNe ?_ | refine iLt ?_ | refine iLe ?_ | refine iNot ?_ | refine iPick ?_ | refine iE20 ?_ | refine iE21 ?_ | refine iE30 ?_ | refine iE31 ?_ | refine iE32 ?_ | refine iJn ?_)
    | ((with_reducible show xLd _ _ _); refine iLdB (by assumption) (by first | rfl | simp) ?_) | ((with_reducible refine iLdA (by assumption) ?_ ?_); rfl)
    | ((with_reducible refine iIaNN (by assumption) ?_ (fun pa_ hpa_ => ?_)); omega) | ((with_reducible refine iIaN (by assumption) ?_ (fun pa_ hpa_ => ?_)); omega)
    | ((with_reducible refine iIaI (by assumption) ?_ ?_ (fun pa_ hpa_ => ?_)); omega; omega) | ((with_reducible refine iAdd ?_ ?_); omega) | ((with_reducible refine iSub ?_ ?_); omega)
    | ((with_reducible show xEx _ _ _); refine iEx (by rfl) ?_) | ((with_reducible refine fun (_ : Nat → Value) => ?_); (try simp only [gx])))
  intro w9 h
  have hX := hX.trans h
  have hB2 := hB2.ext h
  have hB3 := hB3.ext h
  (repeat first
    | (with_reducible first | refine iFa ?_ | refine iNil ?_ | refine iNilF ?_ | refine iLd (by assumption) ?_ | refine iLenN (by assumption) ?_ | refine iLenI (by assumption) ?_ | refine iLenS (by assumption) ?_ | refine iLenL ?_ | refine iEq ?_ | refine iNe ?_ | refine iLt ?_ | refine iLe ?_ | refine iNot ?_ | refine iPick ?_ | refine iE20 ?_ | refine iE21 ?_ | refine iE30 ?_ | refine iE31 ?_ | refine iE32 ?_ | refine iJn ?_)
    | ((with_reducible show xLd _ _ _); refine iLdB (by assumption) (by first | rfl | simp) ?_) | ((with_reducible refine iLdA (by assumption) ?_ ?_); rfl)
    | ((with_reducible refine iIaNN (by assumption) ?_ (fun pa_ hpa_ => ?_)); omega) | ((with_reducible refine iIaN (by assumption) ?_ (fun pa_ hpa_ => ?_)); omega)
    | ((with_reducible refine iIaI (by assumption) ?_ ?_ (fun pa_ hpa_ => ?_)); omega; omega) | ((with_reducible refine iAdd ?_ ?_); omega) | ((with_reducible refine iSub ?_ ?_); omega)
    | ((with_reducible show xEx _ _ _); refine iEx (by rfl) ?_) | ((with_reducible refine fun (_ : Nat → Value) => ?_); (try simp only [gx])))
  refine iCall ((ok_laws_toPoset (hs0.ext hX) n0 (by omega)).mono ?_)
  rintro _ w10 ⟨h, a8, rfl, ho8⟩
  have hX := hX.trans h
  have hB2 := hB2.ext h
  have hB3 := hB3.ext h
  refine iNew fun b8 w11 hb8 h hD8 => ?_
  have hlo8 : w.heap.size ≤ b8 := by have := hX.size; omega
  have hX := hX.trans h
  have hB2 := hB2.ext h
  have hB3 := hB3.ext h
  have ho8 := ho8.ext h
  refine iStAB hD8 rfl rfl (ho8.pair n0) fun w12 hu hD8' => ?_
  have hX := hX.upd hu hlo8
  have hB2 := hB2.upd hu (hB2.ne_blk hD8 (by decide))
  have hB3 := hB3.upd hu (hB3.ne_blk hD8 (by decide))
  have ho8 := ho8.upd hu (ho8.ne_blk hD8 (by decide))
  have hD8 := hD8'
  (repeat first
    | (with_reducible first | refine iFa ?_ | refine iNil ?_ | refine iNilF ?_ | refine iLd (by assumption) ?_ | refine iLenN (by assumption) ?_ | refine iLenI (by assumption) ?_ | refine iLenS (by assumption) ?_ | refine iLenL ?_ | refine iEq ?_ | refine iNe ?_ | refine iLt ?_ | refine iLe ?_ | refine iNot ?_ | refine iPick ?_ | refine iE20 ?_ | refine iE21 ?_ | refine iE30 ?_ | refine iE31 ?_ | refine iE32 ?_ | refine iJn ?_)
    | ((with_reducible show xLd _ _ _); refine iLdB (by assumption) (by first | rfl | simp) ?_) | ((with_reducible refine iLdA (by assumption) ?_ ?_); rfl)
    | ((with_reducible refine iIaNN (by assumption) ?_ (fun pa_ hpa_ => ?_)); omega) | ((with_reducible refine iIaN (by assumption) ?_ (fun pa_ hpa_ => ?_)); omega)
    | ((with_reducible refine iIaI (by assumption) ?_ ?_ (fun pa_ hpa_ => ?_)); omega; omega) | ((with_reducible refine iAdd ?_ ?_); omega) | ((with_reducible refine iSub ?_ ?_); omega)
    | ((with_reducible show xEx _ _ _); refine iEx (by rfl) ?_) | ((with_reducible refine fun (_ : Nat → Value) => ?_); (try simp only [gx])))
  refine iCall ((ok_laws_toPoset (hs1.ext hX) n1 (by omega)).mono ?_)
  rintro _ w13 ⟨h, a9, rfl, ho9⟩
  have hX := hX.trans h
  have hB2 := hB2.ext h
  have hB3 := hB3.ext h
  have ho8 := ho8.ext h
  have hD8 := hD8.ext h
  refine iNew fun b9 w14 hb9 h hD9 => ?_
  have hlo9 : w.heap.size ≤ b9 := by have := hX.size; omega
  have hne89 : b8 ≠ b9 := by have := hD8.lt; omega
  have hX := hX.trans h
  have hB2 := hB2.ext h
  have hB3 := hB3.ext h
  have ho8 := ho8.ext h
  have hD8 := hD8.ext h
  have ho9 := ho9.ext h
  refine iStAB hD9 rfl rfl (ho9.pair n1) fun w15 hu hD9' => ?_
  have hX := hX.upd hu hlo9
  have hB2 := hB2.upd hu (hB2.ne_blk hD9 (by decide))
  have hB3 := hB3.upd hu (hB3.ne_blk hD9 (by decide))
  have ho8 := ho8.upd hu (ho8.ne_blk hD9 (by decide))
  have ho9 := ho9.upd hu (ho9.ne_blk hD9 (by decide))
  have hD8 := hD8.upd hu hne89
  have hD9 := hD9'
  (repeat first
    | (with_reducible first | refine iFa ?_ | refine iNil ?_ | refine iNilF ?_ | refine iLd (by assumption) ?_ | refine iLenN (by assumption) ?_ | refine iLenI (by assumption) ?_ | refine iLenS (by assumption) ?_ | refine iLenL ?_ | refine iEq ?_ | refine iNe ?_ | refine iLt ?_ | refine iLe ?_ | refine iNot ?_ | refine iPick ?_ | refine iE20 ?_ | refine iE21 ?_ | refine iE30 ?_ | refine iE31 ?_ | refine iE32 ?_ | refine iJn ?_)
    | ((with_reducible show xLd _ _ _); refine iLdB (by assumption) (by first | rfl | simp) ?_) | ((with_reducible refine iLdA (by assumption) ?_ ?_); rfl)
    | ((with_reducible refine iIaNN (by assumption) ?_ (fun pa_ hpa_ => ?_)); omega) | ((with_reducible refine iIaN (by assumption) ?_ (fun pa_ hpa_ => ?_)); omega)
    | ((with_reducible refine iIaI (by assumption) ?_ ?_ (fun pa_ hpa_ => ?_)); omega; omega) | ((with_reducible refine iAdd ?_ ?_); omega) | ((with_reducible refine iSub ?_ ?_); omega)
    | ((with_reducible show xEx _ _ _); refine iEx (by rfl) ?_) | ((with_reducible refine fun (_ : Nat → Value) => ?_); (try simp only [gx])))
  refine iRet (ok_impl_TellingElements ho8.sl ho9.sl n0 n1) fun w16 h => ?_
  have hX := hX.trans h
  have hB2 := hB2.ext h
  have hB3 := hB3.ext h
  have ho8 := ho8.ext h
  have ho9 := ho9.ext h
  have hD8 := hD8.ext h
  have hD9 := hD9.ext h
  (repeat first
    | (with_reducible first | refine iFa ?_ | refine iNil ?_ | refine iNilF ?_ | refine iLd (by assumption) ?_ | refine iLenN (by assumption) ?_ | refine iLenI (by assumption) ?_ | refine iLenS (by assumption) ?_ | refine iLenL ?_ | refine iEq ?_ | refine iNe ?_ | refine iLt ?_ | refine iLe ?_ | refine iNot ?_ | refine iPick ?_ | refine iE20 ?_ | refine iE21 ?_ | refine iE30 ?_ | refine iE31 ?_ | refine iE32 ?_)
    | ((with_reducible show xLd _ _ _); refine iLdB (by assumption) (by first | rfl | simp) ?_) | ((with_reducible refine iLdA (by assumption) ?_ ?_); rfl)
    | ((with_reducible refine iIaNN (by assumption) ?_ (fun pa_ hpa_ => ?_)); omega) | ((with_reducible refine iIaN (by assumption) ?_ (fun pa_ hpa_ => ?_)); omega)
    | ((with_reducible refine iIaI (by assumption) ?_ ?_ (fun pa_ hpa_ => ?_)); omega; omega) | ((with_reducible refine iAdd ?_ ?_); omega) | ((with_reducible refine iSub ?_ ?_); omega)
    | ((with_reducible show xEx _ _ _); refine iEx (by rfl) ?_) | ((with_reducible refine fun (_ : Nat → Value) => ?_); (try simp only [gx])))
  refine iJnB false w16 (fun J hJ => ?_) (fun w18 h => ?_)
  · (repeat first
    | (with_reducible first | refine iFa ?_ | refine iNil ?_ | refine iNilF ?_ | refine iLd (by assumption) ?_ | refine iLenN (by assumption) ?_ | refine iLenI (by assumption) ?_ | refine iLenS (by assumption) ?_ | refine iLenL ?_ | refine iEq ?_ | refine iNe ?_ | refine iLt ?_ | refine iLe ?_ | refine iNot ?_ | refine iPick ?_ | refine iE20 ?_ | refine iE21 ?_ | refine iE30 ?_ | refine iE31 ?_ | refine iE32 ?_ | refine iJn ?_)
    | ((with_reducible show xLd _ _ _); refine iLdB (by assumption) (by first | rfl | simp) ?_) | ((with_reducible refine iLdA (by assumption) ?_ ?_); rfl)
    | ((with_reducible refine iIaNN (by assumption) ?_ (fun pa_ hpa_ => ?_)); omega) | ((with_reducible refine iIaN (by assumption) ?_ (fun pa_ hpa_ => ?_)); omega)
    | ((with_reducible refine iIaI (by assumption) ?_ ?_ (fun pa_ hpa_ => ?_)); omega; omega) | ((with_reducible refine iAdd ?_ ?_); omega) | ((with_reducible refine iSub ?_ ?_); omega)
    | ((with_reducible show xEx _ _ _); refine iEx (by rfl) ?_) | ((with_reducible refine fun (_ : Nat → Value) => ?_); (try simp only [gx])))
    refine iCndF (by simp) ?_
    (repeat first
    | (with_reducible first | refine iFa ?_ | refine iNil ?_ | refine iNilF ?_ | refine iLd (by assumption) ?_ | refine iLenN (by assumption) ?_ | refine iLenI (by assumption) ?_ | refine iLenS (by assumption) ?_ | refine iLenL ?_ | refine iEq ?_ | refine iNe ?_ | refine iLt ?_ | refine iLe ?_ | refine iNot ?_ | refine iPick ?_ | refine iE20 ?_ | refine iE21 ?_ | refine iE30 ?_ | refine iE31 ?_ | refine iE32 ?_ | refine iJn ?_)
    | ((with_reducible show xLd _ _ _); refine iLdB (by assumption) (by first | rfl | simp) ?_) | ((with_reducible refine iLdA (by assumption) ?_ ?_); rfl)
    | ((with_reducible refine iIaNN (by assumption) ?_ (fun pa_ hpa_ => ?_)); omega) | ((with_reducible refine iIaN (by assumption) ?_ (fun pa_ hpa_ => ?_)); omega)
    | ((with_reducible refine iIaI (by assumption) ?_ ?_ (fun pa_ hpa_ => ?_)); omega; omega) | ((with_reducible refine iAdd ?_ ?_); omega) | ((with_reducible refine iSub ?_ ?_); omega)
    | ((with_reducible show xEx _ _ _); refine iEx (by rfl) ?_) | ((with_reducible refine fun (_ : Nat → Value) => ?_); (try simp only [gx])))
    have := hJ w16 (Ext.refl _)
    simpa using this
  have hX := hX.trans h
  have hB2 := hB2.ext h
  have hB3 := hB3.ext h
  have ho8 := ho8.ext h
  have ho9 := ho9.ext h
  have hD8 := hD8.ext h
  have hD9 := hD9.ext h
  (repeat first
    | (with_reducible first | refine iFa ?_ | refine iNil ?_ | refine iNilF ?_ | refine iLd (by assumption) ?_ | refine iLenN (by assumption) ?_ | refine iLenI (by assumption) ?_ | refine iLenS (by assumption) ?_ | refine iLenL ?_ | refine iEq ?_ | refine iNe ?_ | refine iLt ?_ | refine iLe ?_ | refine iNot ?_ | refine iPick ?_ | refine iE20 ?_ | refine iE21 ?_ | refine iE30 ?_ | refine iE31 ?_ | refine iE32 ?_ | refine iJn ?_)
    | ((with_reducible show xLd _ _ _); refine iLdB (by assumption) (by first | rfl | simp) ?_) | ((with_reducible refine iLdA (by assumption) ?_ ?_); rfl)
    | ((with_reducible refine iIaNN (by assumption) ?_ (fun pa_ hpa_ => ?_)); omega) | ((with_reducible refine iIaN (by assumption) ?_ (fun pa_ hpa_ => ?_)); omega)
    | ((with_reducible refine iIaI (by assumption) ?_ ?_ (fun pa_ hpa_ => ?_)); omega; omega) | ((with_reducible refine iAdd ?_ ?_); omega) | ((with_reducible refine iSub ?_ ?_); omega)
    | ((with_reducible show xEx _ _ _); refine iEx (by rfl) ?_) | ((with_reducible refine fun (_ : Nat → Value) => ?_); (try simp only [gx])))
  refine iCndF rfl ?_
  (repeat first
    | (with_reducible first | refine iFa ?_ | refine iNil ?_ | refine iNilF ?_ | refine iLd (by assumption) ?_ | refine iLenN (by assumption) ?_ | refine iLenI (by assumption) ?_ | refine iLenS (by assumption) ?_ | refine iLenL ?_ | refine iEq ?_ | refine iNe ?_ | refine iLt ?_ | refine iLe ?_ | refine iNot ?_ | refine iPick ?_ | refine iE20 ?_ | refine iE21 ?_ | refine iE30 ?_ | refine iE31 ?_ | refine iE32 ?_ | refine iJn ?_)
    | ((with_reducible show xLd _ _ _); refine iLdB (by assumption) (by first | rfl | simp) ?_) | ((with_reducible refine iLdA (by assumption) ?_ ?_); rfl)
    | ((with_reducible refine iIaNN (by assumption) ?_ (fun pa_ hpa_ => ?_)); omega) | ((with_reducible refine iIaN (by assumption) ?_ (fun pa_ hpa_ => ?_)); omega)
    | ((with_reducible refine iIaI (by assumption) ?_ ?_ (fun pa_ hpa_ => ?_)); omega; omega) | ((with_reducible refine iAdd ?_ ?_); omega) | ((with_reducible refine iSub ?_ ?_); omega)
    | ((with_reducible show xEx _ _ _); refine iEx (by rfl) ?_) | ((with_reducible refine fun (_ : Nat → Value) => ?_); (try simp only [gx])))
  intro w19 h
  have hX := hX.trans h
  have hB2 := hB2.ext h
  have hB3 := hB3.ext h
  have ho8 := ho8.ext h
  have ho9 := ho9.ext h
  have hD8 := hD8.ext h
  have hD9 := hD9.ext h
  refine iCall ((ok_laws_toPoset (hs0.ext hX) n0 (by omega)).mono ?_)
  rintro _ w20 ⟨h, a2, rfl, ho2⟩
  (try refine ⟨h, ?_⟩)
  have hX := hX.trans h
  have hB2 := hB2.ext h
  have hB3 := hB3.ext h
  have ho8 := ho8.ext h
  have ho9 := ho9.ext h
  have hD8 := hD8.ext h
  have hD9 := hD9.ext h
  refine iRetQ (fun w' h' => ok_laws_eqPoset (ho8.ext h').sl (ho2.ext h').sl n0 n0) ?_
  (repeat first
    | (with_reducible first | refine iFa ?_ | refine iNil ?_ | refine iNilF ?_ | refine iLd (by assumption) ?_ | refine iLenN (by assumption) ?_ | refine iLenI (by assumption) ?_ | refine iLenS (by assumption) ?_ | refine iLenL ?_ | refine iEq ?_ | refine iNe ?_ | refine iLt ?_ | refine iLe ?_ | refine iNot ?_ | refine iPick ?_ | refine iE20 ?_ | refine iE21 ?_ | refine iE30 ?_ | refine iE31 ?_ | refine iE32 ?_ | refine iJn ?_)
    | ((with_reducible show xLd _ _ _); refine iLdB (by assumption) (by first | rfl | simp) ?_) | ((with_reducible refine iLdA (by assumption) ?_ ?_); rfl)
    | ((with_reducible refine iIaNN (by assumption) ?_ (fun pa_ hpa_ => ?_)); omega) | ((with_reducible refine iIaN (by assumption) ?_ (fun pa_ hpa_ => ?_)); omega)
    | ((with_reducible refine iIaI (by assumption) ?_ ?_ (fun pa_ hpa_ => ?_)); omega; omega) | ((with_reducible refine iAdd ?_ ?_); omega) | ((with_reducible refine iSub ?_ ?_); omega)
    | ((with_reducible show xEx _ _ _); refine iEx (by rfl) ?_) | ((with_reducible refine fun (_ : Nat → Value) => ?_); (try simp only [gx])))
  intro w21 h
  have hX := hX.trans h
  have hB2 := hB2.ext h
  have hB3 := hB3.ext h
  have ho8 := ho8.ext h
  have ho9 := ho9.ext h
  have hD8 := hD8.ext h
  have hD9 := hD9.ext h
  refine iCndF (by simp) ?_
  (repeat first
    | (with_reducible first | refine iFa ?_ | refine iNil ?_ | refine iNilF ?_ | refine iLd (by assumption) ?_ | refine iLenN (by assumption) ?_ | refine iLenI (by assumption) ?_ | refine iLenS (by assumption) ?_ | refine iLenL ?_ | refine iEq ?_ | refine iNe ?_ | refine iLt ?_ | refine iLe ?_ | refine iNot ?_ | refine iPick ?_ | refine iE20 ?_ | refine iE21 ?_ | refine iE30 ?_ | refine iE31 ?_ | refine iE32 ?_ | refine iJn ?_)
    | ((with_reducible show xLd _ _ _); refine iLdB (by assumption) (by first | rfl | simp) ?_) | ((with_reducible refine iLdA (by assumption) ?_ ?_); rfl)
    | ((with_reducible refine iIaNN (by assumption) ?_ (fun pa_ hpa_ => ?_)); omega) | ((with_reducible refine iIaN (by assumption) ?_ (fun pa_ hpa_ => ?_)); omega)
    | ((with_reducible refine iIaI (by assumption) ?_ ?_ (fun pa_ hpa_ => ?_)); omega; omega) | ((with_reducible refine iAdd ?_ ?_); omega) | ((with_reducible refine iSub ?_ ?_); omega)
    | ((with_reducible show xEx _ _ _); refine iEx (by rfl) ?_) | ((with_reducible refine fun (_ : Nat → Value) => ?_); (try simp only [gx])))
  intro w22 h
  have hX := hX.trans h
  have hB2 := hB2.ext h
  have hB3 := hB3.ext h
  have ho8 := ho8.ext h
  have ho9 := ho9.ext h
  have hD8 := hD8.ext h
  have hD9 := hD9.ext h
  refine iCall ((ok_laws_toPoset (hs1.ext hX) n1 (by omega)).mono ?_)
  rintro _ w23 ⟨h, a3, rfl, ho3⟩
  (try refine ⟨h, ?_⟩)
  have hX := hX.trans h
  have hB2 := hB2.ext h
  have hB3 := hB3.ext h
  have ho8 := ho8.ext h
  have ho9 := ho9.ext h
  have hD8 := hD8.ext h
  have hD9 := hD9.ext h
  refine iRetQ (fun w' h' => ok_laws_eqPoset (ho9.ext h').sl (ho3.ext h').sl n1 n1) ?_
  (repeat first
    | (with_reducible first | refine iFa ?_ | refine iNil ?_ | refine iNilF ?_ | refine iLd (by assumption) ?_ | refine iLenN (by assumption) ?_ | refine iLenI (by assumption) ?_ | refine iLenS (by assumption) ?_ | refine iLenL ?_ | refine iEq ?_ | refine iNe ?_ | refine iLt ?_ | refine iLe ?_ | refine iNot ?_ | refine iPick ?_ | refine iE20 ?_ | refine iE21 ?_ | refine iE30 ?_ | refine iE31 ?_ | refine iE32 ?_ | refine iJn ?_)
    | ((with_reducible show xLd _ _ _); refine iLdB (by assumption) (by first | rfl | simp) ?_) | ((with_reducible refine iLdA (by assumption) ?_ ?_); rfl)
    | ((with_reducible refine iIaNN (by assumption) ?_ (fun pa_ hpa_ => ?_)); omega) | ((with_reducible refine iIaN (by assumption) ?_ (fun pa_ hpa_ => ?_)); omega)
    | ((with_reducible refine iIaI (by assumption) ?_ ?_ (fun pa_ hpa_ => ?_)); omega; omega) | ((with_reducible refine iAdd ?_ ?_); omega) | ((with_reducible refine iSub ?_ ?_); omega)
    | ((with_reducible show xEx _ _ _); refine iEx (by rfl) ?_) | ((with_reducible refine fun (_ : Nat → Value) => ?_); (try simp only [gx])))
  intro w24 h
  have hX := hX.trans h
  refine iCndF (by simp) ?_
  exact ⟨by trivial, hX⟩
end Go.Proofs.Ytoolpnkcmlebkaa
