/- Contracts: two posets. Conditions: none. -/
import Derived.Test.YtoolpnkcmlebkaaGreatC19
import Derived.Test.YtoolpnkcmlebkaaGreatC14
namespace Go.Vc
/-- Two structs of two cells, laid side by side. -/
theorem iBs22 {w : World} {e : TypeId} {a b c d : Value} {K : Value → World → Prop} (h : ∀ bb w', bb = w.heap.size ∧ w'.heap.size = bb + 1 → Ext w w' → Blk e w' bb [a, b, c, d] → K (.slice (some ⟨bb, 0, none⟩) 2 2) w') :
    xBs e (Value.cells (.agg #[.int .i64 0, .slice none 0 0])) 2 2 [(0, .agg #[a, b]), (1, .agg #[c, d])] w K := by
  refine ⟨#[a, b, c, d], ?_, h _ _ ⟨rfl, by simp⟩ (Ext.alloc w _) (Blk.new w #[a, b, c, d] e)⟩
  simp [Instr.fill, Value.cells, show Array.range 4 = #[0, 1, 2, 3] from rfl]
theorem iIaL2 {b n c : Nat} {j : Nat} {k : IntKind} {K : Value → Prop} (hj : j < n) (h : K (.pointer (some ⟨b, 2 * j, none⟩))) : xIa 2 (.slice (some ⟨b, 0, none⟩) n c) (.int k (j : Int)) K := by
  refine ⟨_, _, _, _, _, rfl, rfl, by omega, by omega, ?_⟩
  have : (⟨b, 0, none⟩ : Addr).add ((j : Int).toNat * 2) = ⟨b, 2 * j, none⟩ := by
    simp only [Addr.add, Int.toNat_natCast]; split
    · rename_i e; simp; omega
    · simp; omega
  rw [this]; exact h
end Go.Vc
namespace Go.Proofs.YtoolpnkcmlebkaaGreat
open Go.Vc
theorem ok_impl_arePosets_1 {v : Value} {w : World} {l : List Int} (hs : SlI w v l) (n : Int) : Ret Tryz.prog f_impl_arePosets_1 #[.agg #[.int .i64 n, v]] w (.bool (!posetOk n l)) := by
  apply c_impl_arePosets_1; unfold S_impl_arePosets_1
  refine iNew fun b w1 hb h hB => ?_
  (repeat first
    | (with_reducible first | refine iFa ?_ | refine iNil ?_ | refine iNilF ?_ | refine iLd (by assumption) ?_ | refine iLenN (by assumption) ?_ | refine iLenI (by assumption) ?_ | refine iLenS (by assumption) ?_ | refine iLenL ?_ | refine iEq ?_ | refine iNe ?_ | refine iLt ?_ | refine iLe ?_ | refine iNot ?_ | refine iPick ?_ | refine iE20 ?_ | refine iE21 ?_ | refine iE30 ?_ | refine iE31 ?_ | refine iE32 ?_ | refine iJn ?_)
    | ((with_reducible show xLd _ _ _); refine iLdB (by assumption) (by first | rfl | simp) ?_) | ((with_reducible refine iLdA (by assumption) ?_ ?_); rfl)
    | ((with_reducible refine iIaNN (by assumption) ?_ (fun pa_ hpa_ => ?_)); omega) | ((with_reducible refine iIaN (by assumption) ?_ (fun pa_ hpa_ => ?_)); omega)
    | ((with_reducible refine iIaI (by assumption) ?_ ?_ (fun pa_ hpa_ => ?_)); omega; omega) | ((with_reducible refine iAdd ?_ ?_); omega) | ((with_reducible refine iSub ?_ ?_); omega)
    | ((with_reducible show xEx _ _ _); refine iEx (by rfl) ?_) | ((with_reducible refine fun (_ : Nat → Value) => ?_); (try simp only [gx])))
  refine iRet (ok_impl_isPoset (hs.ext h) n) fun w2 h2 => ?_
  (repeat first
    | (with_reducible first | refine iFa ?_ | refine iNil ?_ | refine iNilF ?_ | refine iLd (by assumption) ?_ | refine iLenN (by assumption) ?_ | refine iLenI (by assumption) ?_ | refine iLenS (by assumption) ?_ | refine iLenL ?_ | refine iEq ?_ | refine iNe ?_ | refine iLt ?_ | refine iLe ?_ | refine iNot ?_ | refine iPick ?_ | refine iE20 ?_ | refine iE21 ?_ | refine iE30 ?_ | refine iE31 ?_ | refine iE32 ?_ | refine iJn ?_)
    | ((with_reducible show xLd _ _ _); refine iLdB (by assumption) (by first | rfl | simp) ?_) | ((with_reducible refine iLdA (by assumption) ?_ ?_); rfl)
    | ((with_reducible refine iIaNN (by assumption) ?_ (fun pa_ hpa_ => ?_)); omega) | ((with_reducible refine iIaN (by assumption) ?_ (fun pa_ hpa_ => ?_)); omega)
    | ((with_reducible refine iIaI (by assumption) ?_ ?_ (fun pa_ hpa_ => ?_)); omega; omega) | ((with_reducible refine iAdd ?_ ?_); omega) | ((with_reducible refine iSub ?_ ?_); omega)
    | ((with_reducible show xEx _ _ _); refine iEx (by rfl) ?_) | ((with_reducible refine fun (_ : Nat → Value) => ?_); (try simp only [gx])))
  exact ⟨rfl, h.trans h2⟩
def codeP (n0 : Int) (l0 : List Int) (n1 : Int) (l1 : List Int) : Int := if posetOk n0 l0 && posetOk n1 l1 then 0 else 1
theorem ok_impl_arePosets {b : Nat} {e : TypeId} {w : World} {v0 v1 : Value} {l0 l1 : List Int} (hs0 : SlI w v0 l0) (hs1 : SlI w v1 l1) (n0 n1 : Int) (hB : Blk e w b [.int .i64 n0, v0, .int .i64 n1, v1]) :
    Ret Tryz.prog f_impl_arePosets #[.slice (some ⟨b, 0, none⟩) 2 2] w (.int .i64 (codeP n0 l0 n1 l1)) := by
  have hidx : Ret Tryz.prog f_slices_IndexFunc_Simpl_Poset_impl_Poset #[.slice (some ⟨b, 0, none⟩) 2 2, .func (.func f_impl_arePosets_1) #[] #[]] w (.int .i64 (if posetOk n0 l0 then (if posetOk n1 l1 then -1 else 1) else 0)) := by
    apply c_slices_IndexFunc_Simpl_Poset_impl_Poset; unfold S_slices_IndexFunc_Simpl_Poset_impl_Poset
    (repeat first
    | (with_reducible first | refine iFa ?_ | refine iNil ?_ | refine iNilF ?_ | refine iLd (by assumption) ?_ | refine iLenN (by assumption) ?_ | refine iLenI (by assumption) ?_ | refine iLenS (by assumption) ?_ | refine iLenL ?_ | refine iEq ?_ | refine iNe ?_ | refine iLt ?_ | refine iLe ?_ | refine iNot ?_ | refine iPick ?_ | refine iE20 ?_ | refine iE21 ?_ | refine iE30 ?_ | refine iE31 ?_ | refine iE32 ?_ | refine iJn ?_)
    | ((with_reducible show xLd _ _ _); refine iLdB (by assumption) (by first | rfl | simp) ?_) | ((with_reducible refine iLdA (by assumption) ?_ ?_); rfl)
    | ((with_reducible refine iIaNN (by assumption) ?_ (fun pa_ hpa_ => ?_)); omega) | ((with_reducible refine iIaN (by assumption) ?_ (fun pa_ hpa_ => ?_)); omega)
    | ((with_reducible refine iIaI (by assumption) ?_ ?_ (fun pa_ hpa_ => ?_)); omega; omega) | ((with_reducible refine iAdd ?_ ?_); omega) | ((with_reducible refine iSub ?_ ?_); omega)
    | ((with_reducible show xEx _ _ _); refine iEx (by rfl) ?_) | ((with_reducible refine fun (_ : Nat → Value) => ?_); (try simp only [gx])))
    refine iLp (fun k : Nat => [.int .i64 (k : Int)]) (fun k w' => k ≤ 2 ∧ Ext w w' ∧ (0 < k → posetOk n0 l0 = true) ∧ (1 < k → posetOk n1 l1 = true)) (fun k => 2 - k) 0 rfl ⟨by omega, Ext.refl _, fun h => by omega, fun h => by omega⟩ ?_
    rintro k w2 Kn ⟨hk, h2, hp0, hp1⟩ hKn
    have hB := hB.ext h2
    (repeat first
    | (with_reducible first | refine iFa ?_ | refine iNil ?_ | refine iNilF ?_ | refine iLd (by assumption) ?_ | refine iLenN (by assumption) ?_ | refine iLenI (by assumption) ?_ | refine iLenS (by assumption) ?_ | refine iLenL ?_ | refine iEq ?_ | refine iNe ?_ | refine iLt ?_ | refine iLe ?_ | refine iNot ?_ | refine iPick ?_ | refine iE20 ?_ | refine iE21 ?_ | refine iE30 ?_ | refine iE31 ?_ | refine iE32 ?_ | refine iJn ?_)
    | ((with_reducible show xLd _ _ _); refine iLdB (by assumption) (by first | rfl | simp) ?_) | ((with_reducible refine iLdA (by assumption) ?_ ?_); rfl)
    | ((with_reducible refine iIaNN (by assumption) ?_ (fun pa_ hpa_ => ?_)); omega) | ((with_reducible refine iIaN (by assumption) ?_ (fun pa_ hpa_ => ?_)); omega)
    | ((with_reducible refine iIaI (by assumption) ?_ ?_ (fun pa_ hpa_ => ?_)); omega; omega) | ((with_reducible refine iAdd ?_ ?_); omega) | ((with_reducible refine iSub ?_ ?_); omega)
    | ((with_reducible show xEx _ _ _); refine iEx (by rfl) ?_) | ((with_reducible refine fun (_ : Nat → Value) => ?_); (try simp only [gx])))
    refine iCndP (fun h3 => ?_) (fun h3 => ?_)
    · have hk2 : k = 0 ∨ k = 1 := by omega
      rcases hk2 with rfl | rfl
      · refine iIaL2 (j := 0) (by omega) ?_
        refine iLdP hB (by simp) ?_
        refine iRet (ok_impl_arePosets_1 (hs0.ext h2) n0) fun w3 h4 => ?_
        refine iCnd (fun h5 => ?_) (fun h5 => ?_)
        · refine ⟨?_, h2.trans h4⟩
          rw [Bool.not_eq_true'] at h5
          rw [h5]; rfl
        · rw [Bool.not_eq_false'] at h5
          (repeat first
    | (with_reducible first | refine iFa ?_ | refine iNil ?_ | refine iNilF ?_ | refine iLd (by assumption) ?_ | refine iLenN (by assumption) ?_ | refine iLenI (by assumption) ?_ | refine iLenS (by assumption) ?_ | refine iLenL ?_ | refine iEq ?_ | refine iNe ?_ | refine iLt ?_ | refine iLe ?_ | refine iNot ?_ | refine iPick ?_ | refine iE20 ?_ | refine iE21 ?_ | refine iE30 ?_ | refine iE31 ?_ | refine iE32 ?_ | refine iJn ?_)
    | ((with_reducible show xLd _ _ _); refine iLdB (by assumption) (by first | rfl | simp) ?_) | ((with_reducible refine iLdA (by assumption) ?_ ?_); rfl)
    | ((with_reducible refine iIaNN (by assumption) ?_ (fun pa_ hpa_ => ?_)); omega) | ((with_reducible refine iIaN (by assumption) ?_ (fun pa_ hpa_ => ?_)); omega)
    | ((with_reducible refine iIaI (by assumption) ?_ ?_ (fun pa_ hpa_ => ?_)); omega; omega) | ((with_reducible refine iAdd ?_ ?_); omega) | ((with_reducible refine iSub ?_ ?_); omega)
    | ((with_reducible show xEx _ _ _); refine iEx (by rfl) ?_) | ((with_reducible refine fun (_ : Nat → Value) => ?_); (try simp only [gx])))
          exact hKn 1 _ ⟨by omega, h2.trans h4, fun _ => h5, fun h => by omega⟩ (by omega)
      · refine iIaL2 (j := 1) (by omega) ?_
        refine iLdP hB (by simp) ?_
        refine iRet (ok_impl_arePosets_1 (hs1.ext h2) n1) fun w3 h4 => ?_
        refine iCnd (fun h5 => ?_) (fun h5 => ?_)
        · refine ⟨?_, h2.trans h4⟩
          rw [Bool.not_eq_true'] at h5
          rw [h5, hp0 (by omega)]; rfl
        · rw [Bool.not_eq_false'] at h5
          (repeat first
    | (with_reducible first | refine iFa ?_ | refine iNil ?_ | refine iNilF ?_ | refine iLd (by assumption) ?_ | refine iLenN (by assumption) ?_ | refine iLenI (by assumption) ?_ | refine iLenS (by assumption) ?_ | refine iLenL ?_ | refine iEq ?_ | refine iNe ?_ | refine iLt ?_ | refine iLe ?_ | refine iNot ?_ | refine iPick ?_ | refine iE20 ?_ | refine iE21 ?_ | refine iE30 ?_ | refine iE31 ?_ | refine iE32 ?_ | refine iJn ?_)
    | ((with_reducible show xLd _ _ _); refine iLdB (by assumption) (by first | rfl | simp) ?_) | ((with_reducible refine iLdA (by assumption) ?_ ?_); rfl)
    | ((with_reducible refine iIaNN (by assumption) ?_ (fun pa_ hpa_ => ?_)); omega) | ((with_reducible refine iIaN (by assumption) ?_ (fun pa_ hpa_ => ?_)); omega)
    | ((with_reducible refine iIaI (by assumption) ?_ ?_ (fun pa_ hpa_ => ?_)); omega; omega) | ((with_reducible refine iAdd ?_ ?_); omega) | ((with_reducible refine iSub ?_ ?_); omega)
    | ((with_reducible show xEx _ _ _); refine iEx (by rfl) ?_) | ((with_reducible refine fun (_ : Nat → Value) => ?_); (try simp only [gx])))
          exact hKn 2 _ ⟨by omega, h2.trans h4, fun _ => hp0 (by omega), fun _ => h5⟩ (by omega)
    · obtain rfl : k = 2 := by omega
      refine ⟨?_, h2⟩
      rw [hp0 (by omega), hp1 (by omega)]; rfl
  have hcon : Ret Tryz.prog f_slices_ContainsFunc_Simpl_Poset_impl_Poset #[.slice (some ⟨b, 0, none⟩) 2 2, .func (.func f_impl_arePosets_1) #[] #[]] w (.bool (!(posetOk n0 l0 && posetOk n1 l1))) := by
    apply c_slices_ContainsFunc_Simpl_Poset_impl_Poset; unfold S_slices_ContainsFunc_Simpl_Poset_impl_Poset
    refine iRet hidx fun w1 h1 => ?_
    (repeat first
    | (with_reducible first | refine iFa ?_ | refine iNil ?_ | refine iNilF ?_ | refine iLd (by assumption) ?_ | refine iLenN (by assumption) ?_ | refine iLenI (by assumption) ?_ | refine iLenS (by assumption) ?_ | refine iLenL ?_ | refine iEq ?_ | refine iNe ?_ | refine iLt ?_ | refine iLe ?_ | refine iNot ?_ | refine iPick ?_ | refine iE20 ?_ | refine iE21 ?_ | refine iE30 ?_ | refine iE31 ?_ | refine iE32 ?_ | refine iJn ?_)
    | ((with_reducible show xLd _ _ _); refine iLdB (by assumption) (by first | rfl | simp) ?_) | ((with_reducible refine iLdA (by assumption) ?_ ?_); rfl)
    | ((with_reducible refine iIaNN (by assumption) ?_ (fun pa_ hpa_ => ?_)); omega) | ((with_reducible refine iIaN (by assumption) ?_ (fun pa_ hpa_ => ?_)); omega)
    | ((with_reducible refine iIaI (by assumption) ?_ ?_ (fun pa_ hpa_ => ?_)); omega; omega) | ((with_reducible refine iAdd ?_ ?_); omega) | ((with_reducible refine iSub ?_ ?_); omega)
    | ((with_reducible show xEx _ _ _); refine iEx (by rfl) ?_) | ((with_reducible refine fun (_ : Nat → Value) => ?_); (try simp only [gx])))
    refine ⟨?_, h1⟩
    cases posetOk n0 l0 <;> cases posetOk n1 l1 <;> rfl
  apply c_impl_arePosets; unfold S_impl_arePosets
  refine iRet hcon fun w1 h1 => ?_
  unfold codeP
  cases hp : posetOk n0 l0 && posetOk n1 l1
  · exact iCndT rfl ⟨rfl, h1⟩
  · exact iCndF rfl ⟨rfl, h1⟩
/-- What the program's functions on two posets hand back. -/
def imageOut (n0 : Int) (l0 : List Int) (n1 : Int) (l1 : List Int) : List Int × Int := if posetOk n0 l0 && posetOk n1 l1 then firstOut true false n0 l0 n1 l1 else ([], 1)
theorem posetOk_frame {n : Int} {l : List Int} (h : posetOk n l = true) : frameOk n l = true ∧ (l.length : Int) = n := by
  unfold posetOk at h
  rw [Bool.and_eq_true] at h
  refine ⟨h.1, ?_⟩
  have h1 := h.1
  unfold frameOk at h1
  rw [Bool.and_eq_true, Bool.and_eq_true, decide_eq_true_eq, decide_eq_true_eq] at h1
  exact h1.1.2
end Go.Proofs.YtoolpnkcmlebkaaGreat
