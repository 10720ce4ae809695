/- Contracts: lists of posets, and their codes. Conditions: none. -/
import Derived.Test.YtoolpnkcmlebkaaGreatC20
namespace Go.Vc
/-- A slice of structs of an int64 and a slice of int64. -/
def SlP (w : World) (v : Value) (ps : List (Int × List Int)) : Prop :=
  ∃ a c, v = .slice a ps.length c ∧ ps.length ≤ c ∧ c ≤ 9223372036854775807 ∧ (ps = [] ∨ ∃ b o, a = some ⟨b, o, none⟩ ∧ ∀ (i : Nat) (n : Int) (l : List Int), ps[i]? = some (n, l) → ∃ u, w.cell? ⟨b, o + 2 * i, none⟩ = some (.int .i64 n) ∧ w.cell? ⟨b, o + 2 * i + 1, none⟩ = some u ∧ SlI w u l)
theorem SlP.ext {w w' : World} {v : Value} {ps : List (Int × List Int)} (h : SlP w v ps) (he : Ext w w') : SlP w' v ps := by
  obtain ⟨a, c, h1, h2, h3, h4⟩ := h
  refine ⟨a, c, h1, h2, h3, h4.imp id fun ⟨b, o, ha, hc⟩ => ⟨b, o, ha, fun i n l hi => ?_⟩⟩
  obtain ⟨u, g1, g2, g3⟩ := hc i n l hi
  exact ⟨u, he.cell g1, he.cell g2, g3.ext he⟩
theorem SlP.len {w : World} {v : Value} {ps : List (Int × List Int)} (h : SlP w v ps) : ps.length ≤ 9223372036854775807 := let ⟨_, _, _, h2, h3, _⟩ := h; Nat.le_trans h2 h3
section
variable {w : World}
theorem iLenP {v : Value} {ps : List (Int × List Int)} {K : Value → Prop} (hs : SlP w v ps) (h : K (.int .i64 (ps.length : Nat))) : xLenS v K := by
  obtain ⟨a, c, rfl, _⟩ := hs; exact ⟨_, _, _, rfl, h⟩
theorem iIaP {v : Value} {ps : List (Int × List Int)} {j : Nat} {k : IntKind} {K : Value → Prop} (hs : SlP w v ps) (hj : j < ps.length)
    (h : ∀ b o u, w.cell? ⟨b, o, none⟩ = some (.int .i64 ps[j].1) → w.cell? ⟨b, o + 1, none⟩ = some u → SlI w u ps[j].2 → K (.pointer (some ⟨b, o, none⟩))) : xIa 2 v (.int k (j : Int)) K := by
  obtain ⟨a, c, rfl, h2, h3, rfl | ⟨b, o, rfl, hc⟩⟩ := hs
  · simp at hj
  · obtain ⟨u, g1, g2, g3⟩ := hc j ps[j].1 ps[j].2 (List.getElem?_eq_getElem hj)
    refine ⟨_, _, _, _, _, rfl, rfl, by omega, by omega, ?_⟩
    have : (⟨b, o, none⟩ : Addr).add ((j : Int).toNat * 2) = ⟨b, o + 2 * j, none⟩ := by
      simp only [Addr.add, Int.toNat_natCast]; split
      · rename_i e; simp; omega
      · simp; omega
    rw [this]
    exact h b (o + 2 * j) u g1 g2 g3
/-- Two cells side by side. -/
theorem iLd2 {b o : Nat} {x y : Value} {K : Value → Prop} (h0 : w.cell? ⟨b, o, none⟩ = some x) (h1 : w.cell? ⟨b, o + 1, none⟩ = some y) (h : K (.agg #[x, y])) : xLdA w 2 (.pointer (some ⟨b, o, none⟩)) K := by
  refine ⟨_, #[x, y], rfl, rfl, fun i hi => ?_, h⟩
  have : (⟨b, o, none⟩ : Addr).add i = ⟨b, o + i, none⟩ := by
    simp only [Addr.add]; split
    · rename_i e; simp [e]
    · rfl
  rw [this]
  match i, hi with
  | 0, _ => simpa using h0
  | 1, _ => simpa using h1
theorem SlP.two {e : TypeId} {b : Nat} {n0 n1 : Int} {v0 v1 : Value} {l0 l1 : List Int} (hB : Blk e w b [.int .i64 n0, v0, .int .i64 n1, v1]) (h0 : SlI w v0 l0) (h1 : SlI w v1 l1) : SlP w (.slice (some ⟨b, 0, none⟩) 2 2) [(n0, l0), (n1, l1)] := by
  refine ⟨_, 2, rfl, by simp, by omega, .inr ⟨b, 0, rfl, fun i n l hi => ?_⟩⟩
  match i with
  | 0 =>
    simp at hi
    obtain ⟨rfl, rfl⟩ := hi
    exact ⟨v0, by rw [hB.cell]; rfl, by rw [hB.cell]; rfl, h0⟩
  | 1 =>
    simp at hi
    obtain ⟨rfl, rfl⟩ := hi
    exact ⟨v1, by rw [hB.cell]; rfl, by rw [hB.cell]; rfl, h1⟩
  | i + 2 => simp at hi
end
end Go.Vc
namespace Go.Proofs.YtoolpnkcmlebkaaGreat
open Go.Vc
theorem ok_CF_poset {v fv : Value} {w : World} {ps : List (Int × List Int)} (hs : SlP w v ps) (p : Int → List Int → Bool)
    (hf : ∀ w', Ext w w' → ∀ (n : Int) (l : List Int) (u : Value), SlI w' u l → callV Tryz.prog fv [.agg #[.int .i64 n, u]] w' fun r w'' => r = .bool (p n l) ∧ Ext w' w'') :
    Ret Tryz.prog f_slices_ContainsFunc_Simpl_Poset_impl_Poset #[v, fv] w (.bool (ps.any fun q => p q.1 q.2)) := by
  have hlen := hs.len
  have hidx : Cal Tryz.prog f_slices_IndexFunc_Simpl_Poset_impl_Poset #[v, fv] w fun r w' => Ext w w' ∧ ∃ j : Int, r = .int .i64 j ∧ decide (0 ≤ j) = ps.any fun q => p q.1 q.2 := by
    apply c_slices_IndexFunc_Simpl_Poset_impl_Poset; unfold S_slices_IndexFunc_Simpl_Poset_impl_Poset
    refine iLenP hs ?_
    refine iLp (fun k : Nat => [.int .i64 (k : Int)]) (fun k w' => k ≤ ps.length ∧ Ext w w' ∧ (ps.take k).any (fun q => p q.1 q.2) = false) (fun k => ps.length - k) 0 rfl ⟨Nat.zero_le _, Ext.refl _, rfl⟩ ?_
    rintro k w2 Kn ⟨hk, h2, hno⟩ hKn
    have hs2 := hs.ext h2
    (repeat first
    | (with_reducible first | refine iFa ?_ | refine iNil ?_ | refine iNilF ?_ | refine iLd (by assumption) ?_ | refine iLenN (by assumption) ?_ | refine iLenI (by assumption) ?_ | refine iLenS (by assumption) ?_ | refine iLenL ?_ | refine iEq ?_ | refine iNe ?_ | refine iLt ?_ | refine iLe ?_ | refine iNot ?_ | refine iPick ?_ | refine iE20 ?_ | refine iE21 ?_ | refine iE30 ?_ | refine iE31 ?_ | refine iE32 ?_ | refine iJn ?_)
    | ((with_reducible show xLd _ _ _); refine iLdB (by assumption) (by first | rfl | simp) ?_) | ((with_reducible refine iLdA (by assumption) ?_ ?_); rfl)
    | ((with_reducible refine iIaNN (by assumption) ?_ (fun pa_ hpa_ => ?_)); omega) | ((with_reducible refine iIaN (by assumption) ?_ (fun pa_ hpa_ => ?_)); omega)
    | ((with_reducible refine iIaI (by assumption) ?_ ?_ (fun pa_ hpa_ => ?_)); omega; omega) | ((with_reducible refine iAdd ?_ ?_); omega) | ((with_reducible refine iSub ?_ ?_); omega)
    | ((with_reducible show xEx _ _ _); refine iEx (by rfl) ?_) | ((with_reducible refine fun (_ : Nat → Value) => ?_); (try simp only [gx])))
    refine iCndP (fun h3 => ?_) (fun h3 => ?_)
    · have hk1 : k < ps.length := by omega
      have ht : ps.take (k + 1) = ps.take k ++ [ps[k]] := List.take_succ_eq_append_getElem hk1
      refine iIaP hs2 hk1 fun b o u g1 g2 g3 => ?_
      refine iLd2 g1 g2 ?_
      refine (hf w2 h2 _ _ u g3).mono ?_
      rintro _ w3 ⟨rfl, h4⟩
      refine iCnd (fun h5 => ?_) (fun h5 => ?_)
      · refine ⟨h2.trans h4, (k : Int), rfl, ?_⟩
        rw [decide_eq_true (by omega)]
        symm
        rw [List.any_eq_true]
        exact ⟨ps[k], List.getElem_mem hk1, h5⟩
      · (repeat first
    | (with_reducible first | refine iFa ?_ | refine iNil ?_ | refine iNilF ?_ | refine iLd (by assumption) ?_ | refine iLenN (by assumption) ?_ | refine iLenI (by assumption) ?_ | refine iLenS (by assumption) ?_ | refine iLenL ?_ | refine iEq ?_ | refine iNe ?_ | refine iLt ?_ | refine iLe ?_ | refine iNot ?_ | refine iPick ?_ | refine iE20 ?_ | refine iE21 ?_ | refine iE30 ?_ | refine iE31 ?_ | refine iE32 ?_ | refine iJn ?_)
    | ((with_reducible show xLd _ _ _); refine iLdB (by assumption) (by first | rfl | simp) ?_) | ((with_reducible refine iLdA (by assumption) ?_ ?_); rfl)
    | ((with_reducible refine iIaNN (by assumption) ?_ (fun pa_ hpa_ => ?_)); omega) | ((with_reducible refine iIaN (by assumption) ?_ (fun pa_ hpa_ => ?_)); omega)
    | ((with_reducible refine iIaI (by assumption) ?_ ?_ (fun pa_ hpa_ => ?_)); omega; omega) | ((with_reducible refine iAdd ?_ ?_); omega) | ((with_reducible refine iSub ?_ ?_); omega)
    | ((with_reducible show xEx _ _ _); refine iEx (by rfl) ?_) | ((with_reducible refine fun (_ : Nat → Value) => ?_); (try simp only [gx])))
        refine hKn (k + 1) _ ⟨by omega, h2.trans h4, ?_⟩ (by omega)
        rw [ht, List.any_append, hno, Bool.false_or]
        simpa using h5
    · refine ⟨h2, -1, rfl, ?_⟩
      rw [List.take_of_length_le (by omega)] at hno
      rw [hno]; rfl
  apply c_slices_ContainsFunc_Simpl_Poset_impl_Poset; unfold S_slices_ContainsFunc_Simpl_Poset_impl_Poset
  refine iCall (hidx.mono ?_)
  rintro _ w1 ⟨h1, j, rfl, hj⟩
  (repeat first
    | (with_reducible first | refine iFa ?_ | refine iNil ?_ | refine iNilF ?_ | refine iLd (by assumption) ?_ | refine iLenN (by assumption) ?_ | refine iLenI (by assumption) ?_ | refine iLenS (by assumption) ?_ | refine iLenL ?_ | refine iEq ?_ | refine iNe ?_ | refine iLt ?_ | refine iLe ?_ | refine iNot ?_ | refine iPick ?_ | refine iE20 ?_ | refine iE21 ?_ | refine iE30 ?_ | refine iE31 ?_ | refine iE32 ?_ | refine iJn ?_)
    | ((with_reducible show xLd _ _ _); refine iLdB (by assumption) (by first | rfl | simp) ?_) | ((with_reducible refine iLdA (by assumption) ?_ ?_); rfl)
    | ((with_reducible refine iIaNN (by assumption) ?_ (fun pa_ hpa_ => ?_)); omega) | ((with_reducible refine iIaN (by assumption) ?_ (fun pa_ hpa_ => ?_)); omega)
    | ((with_reducible refine iIaI (by assumption) ?_ ?_ (fun pa_ hpa_ => ?_)); omega; omega) | ((with_reducible refine iAdd ?_ ?_); omega) | ((with_reducible refine iSub ?_ ?_); omega)
    | ((with_reducible show xEx _ _ _); refine iEx (by rfl) ?_) | ((with_reducible refine fun (_ : Nat → Value) => ?_); (try simp only [gx])))
  exact ⟨by rw [hj], h1⟩
theorem ok_impl_arePosetsL {v : Value} {w : World} {ps : List (Int × List Int)} (hs : SlP w v ps) : Ret Tryz.prog f_impl_arePosets #[v] w (.int .i64 (if ps.any (fun q => !posetOk q.1 q.2) then 1 else 0)) := by
  apply c_impl_arePosets; unfold S_impl_arePosets
  refine iRet (ok_CF_poset hs (fun n l => !posetOk n l) fun w' _ n l u hu => ⟨f_impl_arePosets_1, #[], #[], rfl, ?_⟩) fun w1 h1 => ?_
  · exact (ok_impl_arePosets_1 hu n).mono fun _ _ h => h
  · cases hp : ps.any fun q => !posetOk q.1 q.2
    · exact iCndF rfl ⟨rfl, h1⟩
    · exact iCndT rfl ⟨rfl, h1⟩
/-- The code of posets that may not be large. -/
def codeS (ps : List (Int × List Int)) : Int := if ps.any (fun q => !posetOk q.1 q.2) then 1 else if ps.any (fun q => decide (6 < q.1)) then 3 else 0
theorem ok_impl_sixCode {v : Value} {w : World} {ps : List (Int × List Int)} (hs : SlP w v ps) : Ret Tryz.prog f_impl_sixCode #[v] w (.int .i64 (codeS ps)) := by
  apply c_impl_sixCode; unfold S_impl_sixCode
  unfold codeS
  refine iRet (ok_impl_arePosetsL hs) fun w1 h1 => ?_
  cases hp : ps.any fun q => !posetOk q.1 q.2
  · refine iJnB (ps.any fun q => decide (6 < q.1)) w1 (fun J hJ => ?_) (fun w3 h3 => ?_)
    · (repeat first
    | (with_reducible first | refine iFa ?_ | refine iNil ?_ | refine iNilF ?_ | refine iLd (by assumption) ?_ | refine iLenN (by assumption) ?_ | refine iLenI (by assumption) ?_ | refine iLenS (by assumption) ?_ | refine iLenL ?_ | refine iEq ?_ | refine iNe ?_ | refine iLt ?_ | refine iLe ?_ | refine iNot ?_ | refine iPick ?_ | refine iE20 ?_ | refine iE21 ?_ | refine iE30 ?_ | refine iE31 ?_ | refine iE32 ?_ | refine iJn ?_)
    | ((with_reducible show xLd _ _ _); refine iLdB (by assumption) (by first | rfl | simp) ?_) | ((with_reducible refine iLdA (by assumption) ?_ ?_); rfl)
    | ((with_reducible refine iIaNN (by assumption) ?_ (fun pa_ hpa_ => ?_)); omega) | ((with_reducible refine iIaN (by assumption) ?_ (fun pa_ hpa_ => ?_)); omega)
    | ((with_reducible refine iIaI (by assumption) ?_ ?_ (fun pa_ hpa_ => ?_)); omega; omega) | ((with_reducible refine iAdd ?_ ?_); omega) | ((with_reducible refine iSub ?_ ?_); omega)
    | ((with_reducible show xEx _ _ _); refine iEx (by rfl) ?_) | ((with_reducible refine fun (_ : Nat → Value) => ?_); (try simp only [gx])))
      refine iCndT rfl ?_
      refine iRet (ok_CF_poset (hs.ext h1) (fun n _ => decide (6 < n)) fun w' _ n l u hu => ⟨f_impl_sixCode_1, #[], #[], rfl, ?_⟩) fun w4 h4 => hJ w4 h4
      show Cal Tryz.prog f_impl_sixCode_1 #[.agg #[.int .i64 n, u]] w' _
      apply c_impl_sixCode_1; unfold S_impl_sixCode_1
      refine iNew fun b w5 hb h5 hB => ?_
      (repeat first
    | (with_reducible first | refine iFa ?_ | refine iNil ?_ | refine iNilF ?_ | refine iLd (by assumption) ?_ | refine iLenN (by assumption) ?_ | refine iLenI (by assumption) ?_ | refine iLenS (by assumption) ?_ | refine iLenL ?_ | refine iEq ?_ | refine iNe ?_ | refine iLt ?_ | refine iLe ?_ | refine iNot ?_ | refine iPick ?_ | refine iE20 ?_ | refine iE21 ?_ | refine iE30 ?_ | refine iE31 ?_ | refine iE32 ?_ | refine iJn ?_)
    | ((with_reducible show xLd _ _ _); refine iLdB (by assumption) (by first | rfl | simp) ?_) | ((with_reducible refine iLdA (by assumption) ?_ ?_); rfl)
    | ((with_reducible refine iIaNN (by assumption) ?_ (fun pa_ hpa_ => ?_)); omega) | ((with_reducible refine iIaN (by assumption) ?_ (fun pa_ hpa_ => ?_)); omega)
    | ((with_reducible refine iIaI (by assumption) ?_ ?_ (fun pa_ hpa_ => ?_)); omega; omega) | ((with_reducible refine iAdd ?_ ?_); omega) | ((with_reducible refine iSub ?_ ?_); omega)
    | ((with_reducible show xEx _ _ _); refine iEx (by rfl) ?_) | ((with_reducible refine fun (_ : Nat → Value) => ?_); (try simp only [gx])))
      exact ⟨rfl, h5⟩
    · (repeat first
    | (with_reducible first | refine iFa ?_ | refine iNil ?_ | refine iNilF ?_ | refine iLd (by assumption) ?_ | refine iLenN (by assumption) ?_ | refine iLenI (by assumption) ?_ | refine iLenS (by assumption) ?_ | refine iLenL ?_ | refine iEq ?_ | refine iNe ?_ | refine iLt ?_ | refine iLe ?_ | refine iNot ?_ | refine iPick ?_ | refine iE20 ?_ | refine iE21 ?_ | refine iE30 ?_ | refine iE31 ?_ | refine iE32 ?_ | refine iJn ?_)
    | ((with_reducible show xLd _ _ _); refine iLdB (by assumption) (by first | rfl | simp) ?_) | ((with_reducible refine iLdA (by assumption) ?_ ?_); rfl)
    | ((with_reducible refine iIaNN (by assumption) ?_ (fun pa_ hpa_ => ?_)); omega) | ((with_reducible refine iIaN (by assumption) ?_ (fun pa_ hpa_ => ?_)); omega)
    | ((with_reducible refine iIaI (by assumption) ?_ ?_ (fun pa_ hpa_ => ?_)); omega; omega) | ((with_reducible refine iAdd ?_ ?_); omega) | ((with_reducible refine iSub ?_ ?_); omega)
    | ((with_reducible show xEx _ _ _); refine iEx (by rfl) ?_) | ((with_reducible refine fun (_ : Nat → Value) => ?_); (try simp only [gx])))
      cases hq : ps.any fun q => decide (6 < q.1)
      · exact iCndF rfl ⟨rfl, h1.trans h3⟩
      · exact iCndT rfl ⟨rfl, h1.trans h3⟩
  · refine iJnB false w1 (fun J hJ => ?_) (fun w3 h3 => ?_)
    · (repeat first
    | (with_reducible first | refine iFa ?_ | refine iNil ?_ | refine iNilF ?_ | refine iLd (by assumption) ?_ | refine iLenN (by assumption) ?_ | refine iLenI (by assumption) ?_ | refine iLenS (by assumption) ?_ | refine iLenL ?_ | refine iEq ?_ | refine iNe ?_ | refine iLt ?_ | refine iLe ?_ | refine iNot ?_ | refine iPick ?_ | refine iE20 ?_ | refine iE21 ?_ | refine iE30 ?_ | refine iE31 ?_ | refine iE32 ?_ | refine iJn ?_)
    | ((with_reducible show xLd _ _ _); refine iLdB (by assumption) (by first | rfl | simp) ?_) | ((with_reducible refine iLdA (by assumption) ?_ ?_); rfl)
    | ((with_reducible refine iIaNN (by assumption) ?_ (fun pa_ hpa_ => ?_)); omega) | ((with_reducible refine iIaN (by assumption) ?_ (fun pa_ hpa_ => ?_)); omega)
    | ((with_reducible refine iIaI (by assumption) ?_ ?_ (fun pa_ hpa_ => ?_)); omega; omega) | ((with_reducible refine iAdd ?_ ?_); omega) | ((with_reducible refine iSub ?_ ?_); omega)
    | ((with_reducible show xEx _ _ _); refine iEx (by rfl) ?_) | ((with_reducible refine fun (_ : Nat → Value) => ?_); (try simp only [gx])))
      exact iCndF rfl (hJ w1 (Ext.refl _))
    · (repeat first
    | (with_reducible first | refine iFa ?_ | refine iNil ?_ | refine iNilF ?_ | refine iLd (by assumption) ?_ | refine iLenN (by assumption) ?_ | refine iLenI (by assumption) ?_ | refine iLenS (by assumption) ?_ | refine iLenL ?_ | refine iEq ?_ | refine iNe ?_ | refine iLt ?_ | refine iLe ?_ | refine iNot ?_ | refine iPick ?_ | refine iE20 ?_ | refine iE21 ?_ | refine iE30 ?_ | refine iE31 ?_ | refine iE32 ?_ | refine iJn ?_)
    | ((with_reducible show xLd _ _ _); refine iLdB (by assumption) (by first | rfl | simp) ?_) | ((with_reducible refine iLdA (by assumption) ?_ ?_); rfl)
    | ((with_reducible refine iIaNN (by assumption) ?_ (fun pa_ hpa_ => ?_)); omega) | ((with_reducible refine iIaN (by assumption) ?_ (fun pa_ hpa_ => ?_)); omega)
    | ((with_reducible refine iIaI (by assumption) ?_ ?_ (fun pa_ hpa_ => ?_)); omega; omega) | ((with_reducible refine iAdd ?_ ?_); omega) | ((with_reducible refine iSub ?_ ?_); omega)
    | ((with_reducible show xEx _ _ _); refine iEx (by rfl) ?_) | ((with_reducible refine fun (_ : Nat → Value) => ?_); (try simp only [gx])))
      exact iCndF rfl ⟨rfl, h1.trans h3⟩
theorem ok_spec_l34Code {v : Value} {w : World} {ps : List (Int × List Int)} (hs : SlP w v ps) : Ret Tryz.prog f_spec_l34Code #[v] w (.int .i64 (codeS ps)) := by
  apply c_spec_l34Code; unfold S_spec_l34Code
  have hlen := hs.len
  refine iLp (fun s : Bool × Nat => [.bool s.1, .int .i64 (s.2 : Int)]) (fun s w' => s.2 ≤ ps.length ∧ Ext w w' ∧ (ps.take s.2).any (fun q => !posetOk q.1 q.2) = false ∧ s.1 = !(ps.take s.2).any (fun q => decide (6 < q.1))) (fun s => ps.length - s.2) (true, 0) rfl ⟨Nat.zero_le _, Ext.refl _, rfl, rfl⟩ ?_
  rintro ⟨sm, k⟩ w2 Kn ⟨hk, h2, hno, hsm⟩ hKn
  have hk : k ≤ ps.length := hk
  have hno : (ps.take k).any (fun q => !posetOk q.1 q.2) = false := hno
  have hsm : sm = !(ps.take k).any (fun q => decide (6 < q.1)) := hsm
  have hs2 := hs.ext h2
  (repeat first
    | (with_reducible first | refine iFa ?_ | refine iNil ?_ | refine iNilF ?_ | refine iLd (by assumption) ?_ | refine iLenN (by assumption) ?_ | refine iLenI (by assumption) ?_ | refine iLenS (by assumption) ?_ | refine iLenL ?_ | refine iEq ?_ | refine iNe ?_ | refine iLt ?_ | refine iLe ?_ | refine iNot ?_ | refine iPick ?_ | refine iE20 ?_ | refine iE21 ?_ | refine iE30 ?_ | refine iE31 ?_ | refine iE32 ?_ | refine iJn ?_)
    | ((with_reducible show xLd _ _ _); refine iLdB (by assumption) (by first | rfl | simp) ?_) | ((with_reducible refine iLdA (by assumption) ?_ ?_); rfl)
    | ((with_reducible refine iIaNN (by assumption) ?_ (fun pa_ hpa_ => ?_)); omega) | ((with_reducible refine iIaN (by assumption) ?_ (fun pa_ hpa_ => ?_)); omega)
    | ((with_reducible refine iIaI (by assumption) ?_ ?_ (fun pa_ hpa_ => ?_)); omega; omega) | ((with_reducible refine iAdd ?_ ?_); omega) | ((with_reducible refine iSub ?_ ?_); omega)
    | ((with_reducible show xEx _ _ _); refine iEx (by rfl) ?_) | ((with_reducible refine fun (_ : Nat → Value) => ?_); (try simp only [gx])))
  refine iLenP hs2 ?_
  (repeat first
    | (with_reducible first | refine iFa ?_ | refine iNil ?_ | refine iNilF ?_ | refine iLd (by assumption) ?_ | refine iLenN (by assumption) ?_ | refine iLenI (by assumption) ?_ | refine iLenS (by assumption) ?_ | refine iLenL ?_ | refine iEq ?_ | refine iNe ?_ | refine iLt ?_ | refine iLe ?_ | refine iNot ?_ | refine iPick ?_ | refine iE20 ?_ | refine iE21 ?_ | refine iE30 ?_ | refine iE31 ?_ | refine iE32 ?_ | refine iJn ?_)
    | ((with_reducible show xLd _ _ _); refine iLdB (by assumption) (by first | rfl | simp) ?_) | ((with_reducible refine iLdA (by assumption) ?_ ?_); rfl)
    | ((with_reducible refine iIaNN (by assumption) ?_ (fun pa_ hpa_ => ?_)); omega) | ((with_reducible refine iIaN (by assumption) ?_ (fun pa_ hpa_ => ?_)); omega)
    | ((with_reducible refine iIaI (by assumption) ?_ ?_ (fun pa_ hpa_ => ?_)); omega; omega) | ((with_reducible refine iAdd ?_ ?_); omega) | ((with_reducible refine iSub ?_ ?_); omega)
    | ((with_reducible show xEx _ _ _); refine iEx (by rfl) ?_) | ((with_reducible refine fun (_ : Nat → Value) => ?_); (try simp only [gx])))
  refine iCndP (fun h3 => ?_) (fun h3 => ?_)
  · have hk1 : k < ps.length := by omega
    have ht : ps.take (k + 1) = ps.take k ++ [ps[k]] := List.take_succ_eq_append_getElem hk1
    refine iIaP hs2 hk1 fun b o u g1 g2 g3 => ?_
    refine iLd2 g1 g2 ?_
    refine iRet (ok_spec_l16Is g3 ps[k].1) fun w3 h4 => ?_
    (repeat first
    | (with_reducible first | refine iFa ?_ | refine iNil ?_ | refine iNilF ?_ | refine iLd (by assumption) ?_ | refine iLenN (by assumption) ?_ | refine iLenI (by assumption) ?_ | refine iLenS (by assumption) ?_ | refine iLenL ?_ | refine iEq ?_ | refine iNe ?_ | refine iLt ?_ | refine iLe ?_ | refine iNot ?_ | refine iPick ?_ | refine iE20 ?_ | refine iE21 ?_ | refine iE30 ?_ | refine iE31 ?_ | refine iE32 ?_ | refine iJn ?_)
    | ((with_reducible show xLd _ _ _); refine iLdB (by assumption) (by first | rfl | simp) ?_) | ((with_reducible refine iLdA (by assumption) ?_ ?_); rfl)
    | ((with_reducible refine iIaNN (by assumption) ?_ (fun pa_ hpa_ => ?_)); omega) | ((with_reducible refine iIaN (by assumption) ?_ (fun pa_ hpa_ => ?_)); omega)
    | ((with_reducible refine iIaI (by assumption) ?_ ?_ (fun pa_ hpa_ => ?_)); omega; omega) | ((with_reducible refine iAdd ?_ ?_); omega) | ((with_reducible refine iSub ?_ ?_); omega)
    | ((with_reducible show xEx _ _ _); refine iEx (by rfl) ?_) | ((with_reducible refine fun (_ : Nat → Value) => ?_); (try simp only [gx])))
    cases hp : posetOk ps[k].1 ps[k].2
    · refine iCndT rfl ⟨?_, h2.trans h4⟩
      have : ps.any (fun q => !posetOk q.1 q.2) = true := by
        rw [List.any_eq_true]
        exact ⟨ps[k], List.getElem_mem hk1, by rw [hp]; rfl⟩
      unfold codeS
      rw [this]; rfl
    · refine iCndF rfl ?_
      have hno' : (ps.take (k + 1)).any (fun q => !posetOk q.1 q.2) = false := by
        rw [ht, List.any_append, hno, Bool.false_or]; simp [hp]
      refine iJnB (sm && decide (ps[k].1 ≤ 6)) w3 (fun J hJ => ?_) (fun w5 h5 => ?_)
      · cases sm
        · exact iCndF rfl (hJ w3 (Ext.refl _))
        · refine iCndT rfl ?_
          have hs3 := hs2.ext h4
          refine iIaP hs3 hk1 fun b' o' u' g1' g2' g3' => ?_
          refine iFa ?_
          refine iLd (p := ⟨b', o', none⟩) g1' ?_
          (repeat first
    | (with_reducible first | refine iFa ?_ | refine iNil ?_ | refine iNilF ?_ | refine iLd (by assumption) ?_ | refine iLenN (by assumption) ?_ | refine iLenI (by assumption) ?_ | refine iLenS (by assumption) ?_ | refine iLenL ?_ | refine iEq ?_ | refine iNe ?_ | refine iLt ?_ | refine iLe ?_ | refine iNot ?_ | refine iPick ?_ | refine iE20 ?_ | refine iE21 ?_ | refine iE30 ?_ | refine iE31 ?_ | refine iE32 ?_ | refine iJn ?_)
    | ((with_reducible show xLd _ _ _); refine iLdB (by assumption) (by first | rfl | simp) ?_) | ((with_reducible refine iLdA (by assumption) ?_ ?_); rfl)
    | ((with_reducible refine iIaNN (by assumption) ?_ (fun pa_ hpa_ => ?_)); omega) | ((with_reducible refine iIaN (by assumption) ?_ (fun pa_ hpa_ => ?_)); omega)
    | ((with_reducible refine iIaI (by assumption) ?_ ?_ (fun pa_ hpa_ => ?_)); omega; omega) | ((with_reducible refine iAdd ?_ ?_); omega) | ((with_reducible refine iSub ?_ ?_); omega)
    | ((with_reducible show xEx _ _ _); refine iEx (by rfl) ?_) | ((with_reducible refine fun (_ : Nat → Value) => ?_); (try simp only [gx])))
          exact hJ w3 (Ext.refl _)
      · (repeat first
    | (with_reducible first | refine iFa ?_ | refine iNil ?_ | refine iNilF ?_ | refine iLd (by assumption) ?_ | refine iLenN (by assumption) ?_ | refine iLenI (by assumption) ?_ | refine iLenS (by assumption) ?_ | refine iLenL ?_ | refine iEq ?_ | refine iNe ?_ | refine iLt ?_ | refine iLe ?_ | refine iNot ?_ | refine iPick ?_ | refine iE20 ?_ | refine iE21 ?_ | refine iE30 ?_ | refine iE31 ?_ | refine iE32 ?_ | refine iJn ?_)
    | ((with_reducible show xLd _ _ _); refine iLdB (by assumption) (by first | rfl | simp) ?_) | ((with_reducible refine iLdA (by assumption) ?_ ?_); rfl)
    | ((with_reducible refine iIaNN (by assumption) ?_ (fun pa_ hpa_ => ?_)); omega) | ((with_reducible refine iIaN (by assumption) ?_ (fun pa_ hpa_ => ?_)); omega)
    | ((with_reducible refine iIaI (by assumption) ?_ ?_ (fun pa_ hpa_ => ?_)); omega; omega) | ((with_reducible refine iAdd ?_ ?_); omega) | ((with_reducible refine iSub ?_ ?_); omega)
    | ((with_reducible show xEx _ _ _); refine iEx (by rfl) ?_) | ((with_reducible refine fun (_ : Nat → Value) => ?_); (try simp only [gx])))
        refine hKn (sm && decide (ps[k].1 ≤ 6), k + 1) _ ⟨by show k + 1 ≤ ps.length; omega, h2.trans (h4.trans h5), hno', ?_⟩ (by show ps.length - (k + 1) < ps.length - k; omega)
        show (sm && decide (ps[k].1 ≤ 6)) = !(ps.take (k + 1)).any (fun q => decide (6 < q.1))
        rw [ht, List.any_append, hsm, Bool.not_or]
        congr 1
        simp only [List.any_cons, List.any_nil, Bool.or_false]
        rw [← decide_not]
        exact decide_eq_decide.2 (by omega)
  · have e1 : ps.take k = ps := List.take_of_length_le (by omega)
    rw [e1] at hno hsm
    unfold codeS
    rw [hno]
    (repeat first
    | (with_reducible first | refine iFa ?_ | refine iNil ?_ | refine iNilF ?_ | refine iLd (by assumption) ?_ | refine iLenN (by assumption) ?_ | refine iLenI (by assumption) ?_ | refine iLenS (by assumption) ?_ | refine iLenL ?_ | refine iEq ?_ | refine iNe ?_ | refine iLt ?_ | refine iLe ?_ | refine iNot ?_ | refine iPick ?_ | refine iE20 ?_ | refine iE21 ?_ | refine iE30 ?_ | refine iE31 ?_ | refine iE32 ?_ | refine iJn ?_)
    | ((with_reducible show xLd _ _ _); refine iLdB (by assumption) (by first | rfl | simp) ?_) | ((with_reducible refine iLdA (by assumption) ?_ ?_); rfl)
    | ((with_reducible refine iIaNN (by assumption) ?_ (fun pa_ hpa_ => ?_)); omega) | ((with_reducible refine iIaN (by assumption) ?_ (fun pa_ hpa_ => ?_)); omega)
    | ((with_reducible refine iIaI (by assumption) ?_ ?_ (fun pa_ hpa_ => ?_)); omega; omega) | ((with_reducible refine iAdd ?_ ?_); omega) | ((with_reducible refine iSub ?_ ?_); omega)
    | ((with_reducible show xEx _ _ _); refine iEx (by rfl) ?_) | ((with_reducible refine fun (_ : Nat → Value) => ?_); (try simp only [gx])))
    rw [hsm, Bool.not_not]
    cases hq : ps.any fun q => decide (6 < q.1)
    · exact iCndF rfl ⟨rfl, h2⟩
    · exact iCndT rfl ⟨rfl, h2⟩
end Go.Proofs.YtoolpnkcmlebkaaGreat
