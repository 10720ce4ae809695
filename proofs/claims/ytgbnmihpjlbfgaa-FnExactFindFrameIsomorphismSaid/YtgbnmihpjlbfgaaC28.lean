/- Contracts: the flags of a frame and FindFrameIsomorphism, in the program and the reference. Conditions: none. -/
import Derived.Test.YtgbnmihpjlbfgaaC27
import Derived.Test.YtgbnmihpjlbfgaaMaC
import Derived.ChangeKeysEq
import Derived.Laws.StructEq
import Derived.Laws.Entries
namespace Go.Vc
section
variable {P : Program}
theorem run_eqGuard_arr (w : World) {op : BinOp} {t : TypeId} {xo yo : Operand} {a b : Array Value} (hg : P.eqGuardType P.depth t = false) : (eqGuard op t xo yo (.agg a) (.agg b)).run P w = .ok () w := by
  unfold eqGuard
  cases op <;> simp [hg]
theorem run_eqItems_ints (w : World) (d : Nat) {e : TypeId} {k : IntKind} (he : P.plainKey e = true) (hu : P.underlying e = some (.int k)) (hc : P.cellsOf e = 1) (la lb : List Int) : ∀ is : List Nat, (∀ i ∈ is, i < la.length ∧ i < lb.length) →
    (Op.eqItems (d + 1) e (P.cellsOf e) (la.map (Value.int .i64)).toArray (lb.map (Value.int .i64)).toArray is).run P w = .ok (is.all fun i => la.getD i 0 == lb.getD i 0) w
  | [], _ => by simp [Op.eqItems]
  | i :: is, h => by
    have h0 := h i (by simp)
    have ha : ((la.map (Value.int .i64)).toArray)[i * P.cellsOf e]? = some (.int .i64 (la.getD i 0)) := by
      rw [hc, Nat.mul_one]; simp [List.getD_eq_getElem?_getD, h0.1]
    have hb : ((lb.map (Value.int .i64)).toArray)[i * P.cellsOf e]? = some (.int .i64 (lb.getD i 0)) := by
      rw [hc, Nat.mul_one]; simp [List.getD_eq_getElem?_getD, h0.2]
    have ih := run_eqItems_ints w d he hu hc la lb is (fun j hj => h j (by simp [hj]))
    simp only [Op.eqItems, Sem.run_bind, run_part_plain w he ha, run_part_plain w he hb, Result.andThen_ok, run_equalIn_int w d e .i64 k _ _ hu]
    cases hb' : (la.getD i 0 == lb.getD i 0)
    · simp only [List.all_cons, hb', Bool.not_false, if_true, Sem.run_pure, Bool.false_and]
    · simp only [List.all_cons, hb', Bool.not_true, Bool.false_eq_true, if_false, Bool.true_and, ih]
theorem all_eq_list {la lb : List Int} {n : Nat} (ha : la.length = n) (hb : lb.length = n) : ((List.range n).all fun i => la.getD i 0 == lb.getD i 0) = decide (la = lb) := by
  rw [Bool.eq_iff_iff, List.all_eq_true, decide_eq_true_eq]
  constructor
  · intro h
    apply List.ext_getElem (by omega)
    intro i h1 h2
    have := h i (List.mem_range.2 (by omega))
    simpa [List.getD_eq_getElem?_getD, h1, h2] using this
  · rintro rfl i _; simp
theorem run_neq_arr (w : World) {t e : TypeId} {n : Nat} {k : IntKind} {xo yo : Operand} (hg : P.eqGuardType P.depth t = false) (ht : P.underlying t = some (.array n e)) (hi : (P.info? e).isSome = true) (he : P.plainKey e = true) (hu : P.underlying e = some (.int k)) (hc : P.cellsOf e = 1) {la lb : List Int} (ha : la.length = n) (hb : lb.length = n) :
    (do eqGuard .neq t xo yo (.agg (la.map (Value.int .i64)).toArray) (.agg (lb.map (Value.int .i64)).toArray); binOp .neq t (.agg (la.map (Value.int .i64)).toArray) (.agg (lb.map (Value.int .i64)).toArray) : Sem Value).run P w = .ok (.bool (!decide (la = lb))) w := by
  obtain ⟨i, hi⟩ := Option.isSome_iff_exists.1 hi
  have h1 := run_equalIn_array w 9999 (la.map (Value.int .i64)).toArray (lb.map (Value.int .i64)).toArray ht hi
  rw [run_eqItems_ints w 9998 he hu hc la lb _ (fun i hi => by have := List.mem_range.1 hi; omega), all_eq_list ha hb] at h1
  rw [Sem.run_bind, run_eqGuard_arr w hg, Result.andThen_ok, run_neq_struct, h1, Result.andThen_ok]
theorem iIaA {len b j : Nat} {k : IntKind} {K : Value → Prop} (hj : j < len) (h : K (.pointer (some ⟨b, j, none⟩))) : xIaA len 1 (.pointer (some ⟨b, 0, none⟩)) (.int k (j : Int)) K := by
  refine ⟨_, _, _, rfl, rfl, by omega, by omega, ?_⟩
  have : (⟨b, 0, none⟩ : Addr).add ((j : Int).toNat * 1) = ⟨b, j, none⟩ := by
    simp only [Addr.add, Int.toNat_natCast, Nat.mul_one, Nat.zero_add]; split
    · rename_i e; simp [e]
    · rfl
  rw [this]; exact h
end
/-- The flags, the first k of them set. -/
def flK (f : Fr) (k : Nat) : List Int := (List.range 11).map fun t => if t < k then (((flagI t f).toNat : Nat) : Int) else 0
theorem flK_length (f : Fr) (k : Nat) : (flK f k).length = 11 := by simp [flK]
theorem flK_set (f : Fr) (k : Nat) (_hk : k < 11) : (flK f k).set k (((flagI k f).toNat : Nat) : Int) = flK f (k + 1) := by
  apply List.ext_getElem
  · simp [flK]
  · intro i h1 h2
    rw [List.getElem_set]
    simp only [flK, List.getElem_map, List.getElem_range]
    by_cases h : k = i
    · subst h; rw [if_pos rfl, if_pos (by omega)]
    · rw [if_neg h]
      by_cases h' : i < k
      · rw [if_pos h', if_pos (by omega)]
      · rw [if_neg h', if_neg (by omega)]
theorem flK_same {f g : Fr} (h : ∀ t, flagI t f = flagI t g) : flK f 11 = flK g 11 := by
  unfold flK
  refine List.map_congr_left fun t _ => ?_
  rw [h t]
end Go.Vc
namespace Go.Proofs.Ytgbnmihpjlbfgaa
open Go.Vc
theorem ok_impl_flagsOf {f : Fr} (hf : f.ok) {v : Value} {w : World} (hs : SlN w v f.a) : Ret Try.prog f_impl_flagsOf #[.agg #[.int .i64 (f.n : Int), v]] w (.agg ((flK f 11).map (Value.int .i64)).toArray) := by
  apply c_impl_flagsOf; unfold S_impl_flagsOf
  have hX := Ext.refl w
  refine iNew fun b1 w1 hb1 h hB1 => ?_
  have hX := hX.trans h
  refine iNew fun b2 w2 hb2 h hB2 => ?_
  have hlb2 : w.heap.size ≤ b2 := by have := hX.size; omega
  have hX := hX.trans h
  have hB1 := hB1.ext h
  refine iNew fun b3 w3 hb3 h hB3 => ?_
  have hlb3 : w.heap.size ≤ b3 := by have := hX.size; omega
  have hne1 : b1 ≠ b3 := by have := hB1.lt; omega
  have hne2 : b2 ≠ b3 := by have := hB2.lt; omega
  have hne12 : b1 ≠ b2 := by have := hB1.lt; omega
  have hX := hX.trans h
  have hB1 := hB1.ext h
  have hB2 := hB2.ext h
  obtain ⟨e1, hB1⟩ : ∃ e, Blk e w3 b1 [.int .i64 (f.n : Int), v] := ⟨_, hB1⟩
  obtain ⟨e2, hB2⟩ : ∃ e, Blk e w3 b2 (ints (flK f 0)) := ⟨_, hB2⟩
  obtain ⟨e3, hB3⟩ : ∃ e, Blk e w3 b3 (ints (flK f 0)) := ⟨_, hB3⟩
  refine iLp (fun k : Nat => [.int .i64 (k : Int)]) (fun k w' => k ≤ 11 ∧ Ext w w' ∧ Blk e1 w' b1 [.int .i64 (f.n : Int), v] ∧ Blk e2 w' b2 (ints (flK f 0)) ∧ Blk e3 w' b3 (ints (flK f k))) (fun k => 11 - k) 0 rfl ⟨Nat.zero_le _, hX, hB1, hB2, hB3⟩ ?_
  rintro k w5 Kn ⟨hk, hX5, hB15, hB25, hB35⟩ hKn
  have hs5 := hs.ext hX5
  have hfl : ∀ k, (ints (flK f k)).length = 11 := fun k => by rw [ints_length, flK_length]
  (repeat first
    | (with_reducible first | refine iFa ?_ | refine iNil ?_ | refine iNilF ?_ | refine iLd (by assumption) ?_ | refine iLenN (by assumption) ?_ | refine iLenI (by assumption) ?_ | refine iLenS (by assumption) ?_ | refine iLenL ?_ | refine iEq ?_ | refine iNe ?_ | refine iLt ?_ | refine iLe ?_ | refine iNot ?_ | refine iPick ?_ | refine iE20 ?_ | refine iE21 ?_ | refine iJn ?_)
    | ((with_reducible show xLd _ _ _); refine iLdB (by assumption) (by first | rfl | simp) ?_) | ((with_reducible refine iLdA (by assumption) ?_ ?_); rfl)
    | ((with_reducible refine iIaNN (by assumption) ?_ (fun pa_ hpa_ => ?_)); omega) | ((with_reducible refine iIaN (by assumption) ?_ (fun pa_ hpa_ => ?_)); omega)
    | ((with_reducible refine iIaI (by assumption) ?_ ?_ (fun pa_ hpa_ => ?_)); omega; omega) | ((with_reducible refine iAdd ?_ ?_); omega) | ((with_reducible refine iSub ?_ ?_); omega)
    | ((with_reducible show xEx _ _ _); refine iEx (by rfl) ?_) | ((with_reducible refine fun (_ : Nat → Value) => ?_); (try simp only [gx])))
  refine iCndP (fun h4 => ?_) (fun h4 => ?_)
  · have hk1 : k < 11 := by omega
    (repeat first
    | (with_reducible first | refine iFa ?_ | refine iNil ?_ | refine iNilF ?_ | refine iLd (by assumption) ?_ | refine iLenN (by assumption) ?_ | refine iLenI (by assumption) ?_ | refine iLenS (by assumption) ?_ | refine iLenL ?_ | refine iEq ?_ | refine iNe ?_ | refine iLt ?_ | refine iLe ?_ | refine iNot ?_ | refine iPick ?_ | refine iE20 ?_ | refine iE21 ?_ | refine iJn ?_)
    | ((with_reducible show xLd _ _ _); refine iLdB (by assumption) (by first | rfl | simp) ?_) | ((with_reducible refine iLdA (by assumption) ?_ ?_); rfl)
    | ((with_reducible refine iIaNN (by assumption) ?_ (fun pa_ hpa_ => ?_)); omega) | ((with_reducible refine iIaN (by assumption) ?_ (fun pa_ hpa_ => ?_)); omega)
    | ((with_reducible refine iIaI (by assumption) ?_ ?_ (fun pa_ hpa_ => ?_)); omega; omega) | ((with_reducible refine iAdd ?_ ?_); omega) | ((with_reducible refine iSub ?_ ?_); omega)
    | ((with_reducible show xEx _ _ _); refine iEx (by rfl) ?_) | ((with_reducible refine fun (_ : Nat → Value) => ?_); (try simp only [gx])))
    refine iRet (ok_hasFlag_all hf hs5 k (by omega)) fun w6 h6 => ?_
    refine iRet (ok_impl_one _ w6) fun w7 h7 => ?_
    refine iIaA hk1 ?_
    have hX7 := hX5.trans (h6.trans h7)
    have hB37 := (hB35.ext h6).ext h7
    refine iStB hB37 (by rw [hfl]; exact hk1) rfl fun hB38 => ?_
    have hu := Upd.setCell w7 b3 k (.int .i64 (((flagI k f).toNat : Nat) : Int))
    have hset : (ints (flK f k)).set k (.int .i64 (((flagI k f).toNat : Nat) : Int)) = ints (flK f (k + 1)) := by rw [← flK_set f k hk1]; simp [ints, List.map_set]
    rw [hset] at hB38
    (repeat first
    | (with_reducible first | refine iFa ?_ | refine iNil ?_ | refine iNilF ?_ | refine iLd (by assumption) ?_ | refine iLenN (by assumption) ?_ | refine iLenI (by assumption) ?_ | refine iLenS (by assumption) ?_ | refine iLenL ?_ | refine iEq ?_ | refine iNe ?_ | refine iLt ?_ | refine iLe ?_ | refine iNot ?_ | refine iPick ?_ | refine iE20 ?_ | refine iE21 ?_ | refine iJn ?_)
    | ((with_reducible show xLd _ _ _); refine iLdB (by assumption) (by first | rfl | simp) ?_) | ((with_reducible refine iLdA (by assumption) ?_ ?_); rfl)
    | ((with_reducible refine iIaNN (by assumption) ?_ (fun pa_ hpa_ => ?_)); omega) | ((with_reducible refine iIaN (by assumption) ?_ (fun pa_ hpa_ => ?_)); omega)
    | ((with_reducible refine iIaI (by assumption) ?_ ?_ (fun pa_ hpa_ => ?_)); omega; omega) | ((with_reducible refine iAdd ?_ ?_); omega) | ((with_reducible refine iSub ?_ ?_); omega)
    | ((with_reducible show xEx _ _ _); refine iEx (by rfl) ?_) | ((with_reducible refine fun (_ : Nat → Value) => ?_); (try simp only [gx])))
    exact hKn (k + 1) _ ⟨by omega, hX7.upd hu hlb3, ((hB15.ext h6).ext h7).upd hu hne1, ((hB25.ext h6).ext h7).upd hu hne2, hB38⟩ (by omega)
  · obtain rfl : k = 11 := by omega
    refine iLdA hB35 (hfl 11) ?_
    refine iStAB hB25 (hfl 0) (by rw [List.size_toArray]; exact hfl 11) (fun u hu => ?_) fun w9 hu hB9 => ?_
    · simp [ints] at hu
      obtain ⟨a, _, rfl⟩ := hu; rfl
    · refine iLdA hB9 (by simpa using hfl 11) ?_
      refine ⟨?_, hX5.upd hu hlb2⟩
      simp [ints]
theorem ok_impl_FindFrameIsomorphism {w : World} {v0 v1 : Value} {l0 l1 : List Int} (hs0 : SlI w v0 l0) (hs1 : SlI w v1 l1) (n0 n1 : Int) : Cal Try.prog f_impl_FindFrameIsomorphism #[.agg #[.int .i64 n0, v0], .agg #[.int .i64 n1, v1]] w fun r w' => Ext w w' ∧ ∃ v, r = .tuple #[v, .int .i64 (firstOut true true n0 l0 n1 l1).2] ∧ Ow w.heap.size t_i64 w' v (ints (firstOut true true n0 l0 n1 l1).1) := by
  apply c_impl_FindFrameIsomorphism; unfold S_impl_FindFrameIsomorphism
  have hX := Ext.refl w
  refine iNew fun b2 w1 hb2 h hB2 => ?_
  have hX := hX.trans h
  refine iNew fun b3 w2 hb3 h hB3 => ?_
  have hX := hX.trans h
  have hB2 := hB2.ext h
  refine iJnB (!(frameOk n0 l0 && frameOk n1 l1)) w2 (fun J hJ => ?_) (fun w4 h => ?_)
  · (repeat first
    | (with_reducible first | refine iFa ?_ | refine iNil ?_ | refine iNilF ?_ | refine iLd (by assumption) ?_ | refine iLenN (by assumption) ?_ | refine iLenI (by assumption) ?_ | refine iLenS (by assumption) ?_ | refine iLenL ?_ | refine iEq ?_ | refine iNe ?_ | refine iLt ?_ | refine iLe ?_ | refine iNot ?_ | refine iPick ?_ | refine iE20 ?_ | refine iE21 ?_ | refine iJn ?_)
    | ((with_reducible show xLd _ _ _); refine iLdB (by assumption) (by first | rfl | simp) ?_) | ((with_reducible refine iLdA (by assumption) ?_ ?_); rfl)
    | ((with_reducible refine iIaNN (by assumption) ?_ (fun pa_ hpa_ => ?_)); omega) | ((with_reducible refine iIaN (by assumption) ?_ (fun pa_ hpa_ => ?_)); omega)
    | ((with_reducible refine iIaI (by assumption) ?_ ?_ (fun pa_ hpa_ => ?_)); omega; omega) | ((with_reducible refine iAdd ?_ ?_); omega) | ((with_reducible refine iSub ?_ ?_); omega)
    | ((with_reducible show xEx _ _ _); refine iEx (by rfl) ?_) | ((with_reducible refine fun (_ : Nat → Value) => ?_); (try simp only [gx])))
    refine iRet (ok_impl_isFrame (hs0.ext hX) n0) fun w5 h => ?_
    have hB3 := hB3.ext h
    (repeat first
    | (with_reducible first | refine iFa ?_ | refine iNil ?_ | refine iNilF ?_ | refine iLd (by assumption) ?_ | refine iLenN (by assumption) ?_ | refine iLenI (by assumption) ?_ | refine iLenS (by assumption) ?_ | refine iLenL ?_ | refine iEq ?_ | refine iNe ?_ | refine iLt ?_ | refine iLe ?_ | refine iNot ?_ | refine iPick ?_ | refine iE20 ?_ | refine iE21 ?_ | refine iJn ?_)
    | ((with_reducible show xLd _ _ _); refine iLdB (by assumption) (by first | rfl | simp) ?_) | ((with_reducible refine iLdA (by assumption) ?_ ?_); rfl)
    | ((with_reducible refine iIaNN (by assumption) ?_ (fun pa_ hpa_ => ?_)); omega) | ((with_reducible refine iIaN (by assumption) ?_ (fun pa_ hpa_ => ?_)); omega)
    | ((with_reducible refine iIaI (by assumption) ?_ ?_ (fun pa_ hpa_ => ?_)); omega; omega) | ((with_reducible refine iAdd ?_ ?_); omega) | ((with_reducible refine iSub ?_ ?_); omega)
    | ((with_reducible show xEx _ _ _); refine iEx (by rfl) ?_) | ((with_reducible refine fun (_ : Nat → Value) => ?_); (try simp only [gx])))
    cases h0 : frameOk n0 l0
    · refine iCndT rfl ?_
      have := hJ w5 h
      rwa [h0] at this
    · refine iCndF rfl ?_
      (repeat first
    | (with_reducible first | refine iFa ?_ | refine iNil ?_ | refine iNilF ?_ | refine iLd (by assumption) ?_ | refine iLenN (by assumption) ?_ | refine iLenI (by assumption) ?_ | refine iLenS (by assumption) ?_ | refine iLenL ?_ | refine iEq ?_ | refine iNe ?_ | refine iLt ?_ | refine iLe ?_ | refine iNot ?_ | refine iPick ?_ | refine iE20 ?_ | refine iE21 ?_ | refine iJn ?_)
    | ((with_reducible show xLd _ _ _); refine iLdB (by assumption) (by first | rfl | simp) ?_) | ((with_reducible refine iLdA (by assumption) ?_ ?_); rfl)
    | ((with_reducible refine iIaNN (by assumption) ?_ (fun pa_ hpa_ => ?_)); omega) | ((with_reducible refine iIaN (by assumption) ?_ (fun pa_ hpa_ => ?_)); omega)
    | ((with_reducible refine iIaI (by assumption) ?_ ?_ (fun pa_ hpa_ => ?_)); omega; omega) | ((with_reducible refine iAdd ?_ ?_); omega) | ((with_reducible refine iSub ?_ ?_); omega)
    | ((with_reducible show xEx _ _ _); refine iEx (by rfl) ?_) | ((with_reducible refine fun (_ : Nat → Value) => ?_); (try simp only [gx])))
      refine iRet (ok_impl_isFrame (hs1.ext (hX.trans h)) n1) fun w6 h6 => ?_
      (repeat first
    | (with_reducible first | refine iFa ?_ | refine iNil ?_ | refine iNilF ?_ | refine iLd (by assumption) ?_ | refine iLenN (by assumption) ?_ | refine iLenI (by assumption) ?_ | refine iLenS (by assumption) ?_ | refine iLenL ?_ | refine iEq ?_ | refine iNe ?_ | refine iLt ?_ | refine iLe ?_ | refine iNot ?_ | refine iPick ?_ | refine iE20 ?_ | refine iE21 ?_ | refine iJn ?_)
    | ((with_reducible show xLd _ _ _); refine iLdB (by assumption) (by first | rfl | simp) ?_) | ((with_reducible refine iLdA (by assumption) ?_ ?_); rfl)
    | ((with_reducible refine iIaNN (by assumption) ?_ (fun pa_ hpa_ => ?_)); omega) | ((with_reducible refine iIaN (by assumption) ?_ (fun pa_ hpa_ => ?_)); omega)
    | ((with_reducible refine iIaI (by assumption) ?_ ?_ (fun pa_ hpa_ => ?_)); omega; omega) | ((with_reducible refine iAdd ?_ ?_); omega) | ((with_reducible refine iSub ?_ ?_); omega)
    | ((with_reducible show xEx _ _ _); refine iEx (by rfl) ?_) | ((with_reducible refine fun (_ : Nat → Value) => ?_); (try simp only [gx])))
      have := hJ w6 (h.trans h6)
      rwa [h0, Bool.true_and] at this
  have hX := hX.trans h
  have hB2 := hB2.ext h
  have hB3 := hB3.ext h
  (repeat first
    | (with_reducible first | refine iFa ?_ | refine iNil ?_ | refine iNilF ?_ | refine iLd (by assumption) ?_ | refine iLenN (by assumption) ?_ | refine iLenI (by assumption) ?_ | refine iLenS (by assumption) ?_ | refine iLenL ?_ | refine iEq ?_ | refine iNe ?_ | refine iLt ?_ | refine iLe ?_ | refine iNot ?_ | refine iPick ?_ | refine iE20 ?_ | refine iE21 ?_)
    | ((with_reducible show xLd _ _ _); refine iLdB (by assumption) (by first | rfl | simp) ?_) | ((with_reducible refine iLdA (by assumption) ?_ ?_); rfl)
    | ((with_reducible refine iIaNN (by assumption) ?_ (fun pa_ hpa_ => ?_)); omega) | ((with_reducible refine iIaN (by assumption) ?_ (fun pa_ hpa_ => ?_)); omega)
    | ((with_reducible refine iIaI (by assumption) ?_ ?_ (fun pa_ hpa_ => ?_)); omega; omega) | ((with_reducible refine iAdd ?_ ?_); omega) | ((with_reducible refine iSub ?_ ?_); omega)
    | ((with_reducible show xEx _ _ _); refine iEx (by rfl) ?_) | ((with_reducible refine fun (_ : Nat → Value) => ?_); (try simp only [gx])))
  unfold firstOut
  cases hfr : frameOk n0 l0 && frameOk n1 l1
  · refine iCndT rfl ?_
    exact ⟨hX, _, rfl, Ow.nil _ _ _⟩
  · refine iCndF rfl ?_
    rw [Bool.and_eq_true] at hfr
    obtain ⟨hf, hn0, hl0⟩ := frameOk_fr hfr.1
    obtain ⟨hg, hn1, hl1⟩ := frameOk_fr hfr.2
    generalize frOf n0 l0 = f at *
    generalize frOf n1 l1 = g at *
    subst hn0; subst hl0; subst hn1; subst hl1
    have hnone : ∀ F Fs, leaves (fitsB f g true true) g.n f.n [] = F :: Fs → f.n = g.n ∧ flK f 11 = flK g 11 := by
      intro F Fs hL
      obtain ⟨h1, h2, h3⟩ := (mem_leaves (onto := true) (one := true) (F := F) hf hg).1 (by rw [hL]; exact List.mem_cons_self)
      have hn : f.n = g.n := by
        have e1 := (popc_setOf_nodup _ F rfl (fun y hy => by have := h2 y hy; have := hg.1; omega)).2 (h3.2.2 rfl)
        have e2 := h3.2.1 rfl
        omega
      exact ⟨hn, flK_same (flags_same hf hg hn h1 h2 h3)⟩
    refine iJnB (!(decide (f.n = g.n) && decide (flK f 11 = flK g 11))) w4 (fun J hJ => ?_) (fun w8 h => ?_)
    · (repeat first
    | (with_reducible first | refine iFa ?_ | refine iNil ?_ | refine iNilF ?_ | refine iLd (by assumption) ?_ | refine iLenN (by assumption) ?_ | refine iLenI (by assumption) ?_ | refine iLenS (by assumption) ?_ | refine iLenL ?_ | refine iEq ?_ | refine iNe ?_ | refine iLt ?_ | refine iLe ?_ | refine iNot ?_ | refine iPick ?_ | refine iE20 ?_ | refine iE21 ?_ | refine iJn ?_)
    | ((with_reducible show xLd _ _ _); refine iLdB (by assumption) (by first | rfl | simp) ?_) | ((with_reducible refine iLdA (by assumption) ?_ ?_); rfl)
    | ((with_reducible refine iIaNN (by assumption) ?_ (fun pa_ hpa_ => ?_)); omega) | ((with_reducible refine iIaN (by assumption) ?_ (fun pa_ hpa_ => ?_)); omega)
    | ((with_reducible refine iIaI (by assumption) ?_ ?_ (fun pa_ hpa_ => ?_)); omega; omega) | ((with_reducible refine iAdd ?_ ?_); omega) | ((with_reducible refine iSub ?_ ?_); omega)
    | ((with_reducible show xEx _ _ _); refine iEx (by rfl) ?_) | ((with_reducible refine fun (_ : Nat → Value) => ?_); (try simp only [gx])))
      refine iCndP (fun h => ?_) (fun h => ?_)
      · intro w9 h9 w10 h10 w11 h11
        have := hJ w11 (h9.trans (h10.trans h11))
        rwa [decide_eq_false (show ¬ f.n = g.n by omega)] at this
      · (repeat first
    | (with_reducible first | refine iFa ?_ | refine iNil ?_ | refine iNilF ?_ | refine iLd (by assumption) ?_ | refine iLenN (by assumption) ?_ | refine iLenI (by assumption) ?_ | refine iLenS (by assumption) ?_ | refine iLenL ?_ | refine iEq ?_ | refine iNe ?_ | refine iLt ?_ | refine iLe ?_ | refine iNot ?_ | refine iPick ?_ | refine iE20 ?_ | refine iE21 ?_ | refine iJn ?_)
    | ((with_reducible show xLd _ _ _); refine iLdB (by assumption) (by first | rfl | simp) ?_) | ((with_reducible refine iLdA (by assumption) ?_ ?_); rfl)
    | ((with_reducible refine iIaNN (by assumption) ?_ (fun pa_ hpa_ => ?_)); omega) | ((with_reducible refine iIaN (by assumption) ?_ (fun pa_ hpa_ => ?_)); omega)
    | ((with_reducible refine iIaI (by assumption) ?_ ?_ (fun pa_ hpa_ => ?_)); omega; omega) | ((with_reducible refine iAdd ?_ ?_); omega) | ((with_reducible refine iSub ?_ ?_); omega)
    | ((with_reducible show xEx _ _ _); refine iEx (by rfl) ?_) | ((with_reducible refine fun (_ : Nat → Value) => ?_); (try simp only [gx])))
        intro w12 h12
        refine iRet (ok_impl_flagsOf hf (hs0.ext (hX.trans h12))) fun w13 h13 => ?_
        (try refine ⟨h13, ?_⟩)
        intro w14 h14
        have hXE := hX.trans (h12.trans (h13.trans h14))
        refine iRet (ok_impl_flagsOf hg (hs1.ext hXE)) fun w15 h15 => ?_
        (try refine ⟨h15, ?_⟩)
        refine ⟨_, fun w' _ => run_neq_arr w' (e := t_i64) (k := .i64) (by kernel_rfl) (by kernel_rfl) (by kernel_rfl) (by kernel_rfl) (by kernel_rfl) (by kernel_rfl) (flK_length f 11) (flK_length g 11), ?_⟩
        intro w16 h16
        have := hJ w16 (h12.trans (h13.trans (h14.trans (h15.trans h16))))
        rwa [decide_eq_true (show f.n = g.n by omega), Bool.true_and] at this
    have hX := hX.trans h
    have hB2 := hB2.ext h
    have hB3 := hB3.ext h
    (repeat first
    | (with_reducible first | refine iFa ?_ | refine iNil ?_ | refine iNilF ?_ | refine iLd (by assumption) ?_ | refine iLenN (by assumption) ?_ | refine iLenI (by assumption) ?_ | refine iLenS (by assumption) ?_ | refine iLenL ?_ | refine iEq ?_ | refine iNe ?_ | refine iLt ?_ | refine iLe ?_ | refine iNot ?_ | refine iPick ?_ | refine iE20 ?_ | refine iE21 ?_ | refine iJn ?_)
    | ((with_reducible show xLd _ _ _); refine iLdB (by assumption) (by first | rfl | simp) ?_) | ((with_reducible refine iLdA (by assumption) ?_ ?_); rfl)
    | ((with_reducible refine iIaNN (by assumption) ?_ (fun pa_ hpa_ => ?_)); omega) | ((with_reducible refine iIaN (by assumption) ?_ (fun pa_ hpa_ => ?_)); omega)
    | ((with_reducible refine iIaI (by assumption) ?_ ?_ (fun pa_ hpa_ => ?_)); omega; omega) | ((with_reducible refine iAdd ?_ ?_); omega) | ((with_reducible refine iSub ?_ ?_); omega)
    | ((with_reducible show xEx _ _ _); refine iEx (by rfl) ?_) | ((with_reducible refine fun (_ : Nat → Value) => ?_); (try simp only [gx])))
    cases hE : decide (f.n = g.n) && decide (flK f 11 = flK g 11)
    · refine iCndT rfl ?_
      cases hL : leaves (fitsB f g true true) g.n f.n [] with
      | nil => exact ⟨hX, _, rfl, Ow.nil _ _ _⟩
      | cons F Fs =>
        have := hnone F Fs hL
        rw [decide_eq_true this.1, decide_eq_true this.2] at hE
        cases hE
    · refine iCndF rfl ?_
      (repeat first
    | (with_reducible first | refine iFa ?_ | refine iNil ?_ | refine iNilF ?_ | refine iLd (by assumption) ?_ | refine iLenN (by assumption) ?_ | refine iLenI (by assumption) ?_ | refine iLenS (by assumption) ?_ | refine iLenL ?_ | refine iEq ?_ | refine iNe ?_ | refine iLt ?_ | refine iLe ?_ | refine iNot ?_ | refine iPick ?_ | refine iE20 ?_ | refine iE21 ?_ | refine iJn ?_)
    | ((with_reducible show xLd _ _ _); refine iLdB (by assumption) (by first | rfl | simp) ?_) | ((with_reducible refine iLdA (by assumption) ?_ ?_); rfl)
    | ((with_reducible refine iIaNN (by assumption) ?_ (fun pa_ hpa_ => ?_)); omega) | ((with_reducible refine iIaN (by assumption) ?_ (fun pa_ hpa_ => ?_)); omega)
    | ((with_reducible refine iIaI (by assumption) ?_ ?_ (fun pa_ hpa_ => ?_)); omega; omega) | ((with_reducible refine iAdd ?_ ?_); omega) | ((with_reducible refine iSub ?_ ?_); omega)
    | ((with_reducible show xEx _ _ _); refine iEx (by rfl) ?_) | ((with_reducible refine fun (_ : Nat → Value) => ?_); (try simp only [gx])))
      refine iCall ((ok_impl_firstMorphism hf hg (onto := true) (one := true) (hs0.ext hX) (hs1.ext hX)).mono ?_)
      rintro _ w7 ⟨h, v, rfl, ho⟩
      have hlo := hX.size
      have hX := hX.trans h
      (repeat first
    | (with_reducible first | refine iFa ?_ | refine iNil ?_ | refine iNilF ?_ | refine iLd (by assumption) ?_ | refine iLenN (by assumption) ?_ | refine iLenI (by assumption) ?_ | refine iLenS (by assumption) ?_ | refine iLenL ?_ | refine iEq ?_ | refine iNe ?_ | refine iLt ?_ | refine iLe ?_ | refine iNot ?_ | refine iPick ?_ | refine iE20 ?_ | refine iE21 ?_ | refine iJn ?_)
    | ((with_reducible show xLd _ _ _); refine iLdB (by assumption) (by first | rfl | simp) ?_) | ((with_reducible refine iLdA (by assumption) ?_ ?_); rfl)
    | ((with_reducible refine iIaNN (by assumption) ?_ (fun pa_ hpa_ => ?_)); omega) | ((with_reducible refine iIaN (by assumption) ?_ (fun pa_ hpa_ => ?_)); omega)
    | ((with_reducible refine iIaI (by assumption) ?_ ?_ (fun pa_ hpa_ => ?_)); omega; omega) | ((with_reducible refine iAdd ?_ ?_); omega) | ((with_reducible refine iSub ?_ ?_); omega)
    | ((with_reducible show xEx _ _ _); refine iEx (by rfl) ?_) | ((with_reducible refine fun (_ : Nat → Value) => ?_); (try simp only [gx])))
      cases hL : leaves (fitsB f g true true) g.n f.n [] with
      | nil =>
        refine iCndT rfl ?_
        exact ⟨hX, _, rfl, Ow.nil _ _ _⟩
      | cons m ms =>
        rw [hL] at ho
        refine iCndF rfl ?_
        exact ⟨hX, v, rfl, ho.mono hlo⟩
theorem ok_spec_FindFrameIsomorphism {w : World} {v0 v1 : Value} {l0 l1 : List Int} (hs0 : SlI w v0 l0) (hs1 : SlI w v1 l1) (n0 n1 : Int) : Cal Try.prog f_spec_FindFrameIsomorphism #[.agg #[.int .i64 n0, v0], .agg #[.int .i64 n1, v1]] w fun r w' => Ext w w' ∧ ∃ v, r = .tuple #[v, .int .i64 (firstOut true true n0 l0 n1 l1).2] ∧ Ow w.heap.size t_i64 w' v (ints (firstOut true true n0 l0 n1 l1).1) := by
  apply c_spec_FindFrameIsomorphism; unfold S_spec_FindFrameIsomorphism
  have hX := Ext.refl w
  refine iNew fun b2 w1 hb2 h hB2 => ?_
  have hX := hX.trans h
  refine iNew fun b3 w2 hb3 h hB3 => ?_
  have hX := hX.trans h
  have hB2 := hB2.ext h
  refine iJnB (!(frameOk n0 l0 && frameOk n1 l1)) w2 (fun J hJ => ?_) (fun w4 h => ?_)
  · (repeat first
    | (with_reducible first | refine iFa ?_ | refine iNil ?_ | refine iNilF ?_ | refine iLd (by assumption) ?_ | refine iLenN (by assumption) ?_ | refine iLenI (by assumption) ?_ | refine iLenS (by assumption) ?_ | refine iLenL ?_ | refine iEq ?_ | refine iNe ?_ | refine iLt ?_ | refine iLe ?_ | refine iNot ?_ | refine iPick ?_ | refine iE20 ?_ | refine iE21 ?_ | refine iJn ?_)
    | ((with_reducible show xLd _ _ _); refine iLdB (by assumption) (by first | rfl | simp) ?_) | ((with_reducible refine iLdA (by assumption) ?_ ?_); rfl)
    | ((with_reducible refine iIaNN (by assumption) ?_ (fun pa_ hpa_ => ?_)); omega) | ((with_reducible refine iIaN (by assumption) ?_ (fun pa_ hpa_ => ?_)); omega)
    | ((with_reducible refine iIaI (by assumption) ?_ ?_ (fun pa_ hpa_ => ?_)); omega; omega) | ((with_reducible refine iAdd ?_ ?_); omega) | ((with_reducible refine iSub ?_ ?_); omega)
    | ((with_reducible show xEx _ _ _); refine iEx (by rfl) ?_) | ((with_reducible refine fun (_ : Nat → Value) => ?_); (try simp only [gx])))
    refine iRet (ok_spec_l05Is (hs0.ext hX) n0) fun w5 h => ?_
    have hB3 := hB3.ext h
    (repeat first
    | (with_reducible first | refine iFa ?_ | refine iNil ?_ | refine iNilF ?_ | refine iLd (by assumption) ?_ | refine iLenN (by assumption) ?_ | refine iLenI (by assumption) ?_ | refine iLenS (by assumption) ?_ | refine iLenL ?_ | refine iEq ?_ | refine iNe ?_ | refine iLt ?_ | refine iLe ?_ | refine iNot ?_ | refine iPick ?_ | refine iE20 ?_ | refine iE21 ?_ | refine iJn ?_)
    | ((with_reducible show xLd _ _ _); refine iLdB (by assumption) (by first | rfl | simp) ?_) | ((with_reducible refine iLdA (by assumption) ?_ ?_); rfl)
    | ((with_reducible refine iIaNN (by assumption) ?_ (fun pa_ hpa_ => ?_)); omega) | ((with_reducible refine iIaN (by assumption) ?_ (fun pa_ hpa_ => ?_)); omega)
    | ((with_reducible refine iIaI (by assumption) ?_ ?_ (fun pa_ hpa_ => ?_)); omega; omega) | ((with_reducible refine iAdd ?_ ?_); omega) | ((with_reducible refine iSub ?_ ?_); omega)
    | ((with_reducible show xEx _ _ _); refine iEx (by rfl) ?_) | ((with_reducible refine fun (_ : Nat → Value) => ?_); (try simp only [gx])))
    cases h0 : frameOk n0 l0
    · refine iCndT rfl ?_
      have := hJ w5 h
      rwa [h0] at this
    · refine iCndF rfl ?_
      (repeat first
    | (with_reducible first | refine iFa ?_ | refine iNil ?_ | refine iNilF ?_ | refine iLd (by assumption) ?_ | refine iLenN (by assumption) ?_ | refine iLenI (by assumption) ?_ | refine iLenS (by assumption) ?_ | refine iLenL ?_ | refine iEq ?_ | refine iNe ?_ | refine iLt ?_ | refine iLe ?_ | refine iNot ?_ | refine iPick ?_ | refine iE20 ?_ | refine iE21 ?_ | refine iJn ?_)
    | ((with_reducible show xLd _ _ _); refine iLdB (by assumption) (by first | rfl | simp) ?_) | ((with_reducible refine iLdA (by assumption) ?_ ?_); rfl)
    | ((with_reducible refine iIaNN (by assumption) ?_ (fun pa_ hpa_ => ?_)); omega) | ((with_reducible refine iIaN (by assumption) ?_ (fun pa_ hpa_ => ?_)); omega)
    | ((with_reducible refine iIaI (by assumption) ?_ ?_ (fun pa_ hpa_ => ?_)); omega; omega) | ((with_reducible refine iAdd ?_ ?_); omega) | ((with_reducible refine iSub ?_ ?_); omega)
    | ((with_reducible show xEx _ _ _); refine iEx (by rfl) ?_) | ((with_reducible refine fun (_ : Nat → Value) => ?_); (try simp only [gx])))
      refine iRet (ok_spec_l05Is (hs1.ext (hX.trans h)) n1) fun w6 h6 => ?_
      (repeat first
    | (with_reducible first | refine iFa ?_ | refine iNil ?_ | refine iNilF ?_ | refine iLd (by assumption) ?_ | refine iLenN (by assumption) ?_ | refine iLenI (by assumption) ?_ | refine iLenS (by assumption) ?_ | refine iLenL ?_ | refine iEq ?_ | refine iNe ?_ | refine iLt ?_ | refine iLe ?_ | refine iNot ?_ | refine iPick ?_ | refine iE20 ?_ | refine iE21 ?_ | refine iJn ?_)
    | ((with_reducible show xLd _ _ _); refine iLdB (by assumption) (by first | rfl | simp) ?_) | ((with_reducible refine iLdA (by assumption) ?_ ?_); rfl)
    | ((with_reducible refine iIaNN (by assumption) ?_ (fun pa_ hpa_ => ?_)); omega) | ((with_reducible refine iIaN (by assumption) ?_ (fun pa_ hpa_ => ?_)); omega)
    | ((with_reducible refine iIaI (by assumption) ?_ ?_ (fun pa_ hpa_ => ?_)); omega; omega) | ((with_reducible refine iAdd ?_ ?_); omega) | ((with_reducible refine iSub ?_ ?_); omega)
    | ((with_reducible show xEx _ _ _); refine iEx (by rfl) ?_) | ((with_reducible refine fun (_ : Nat → Value) => ?_); (try simp only [gx])))
      have := hJ w6 (h.trans h6)
      rwa [h0, Bool.true_and] at this
  have hX := hX.trans h
  have hB2 := hB2.ext h
  have hB3 := hB3.ext h
  (repeat first
    | (with_reducible first | refine iFa ?_ | refine iNil ?_ | refine iNilF ?_ | refine iLd (by assumption) ?_ | refine iLenN (by assumption) ?_ | refine iLenI (by assumption) ?_ | refine iLenS (by assumption) ?_ | refine iLenL ?_ | refine iEq ?_ | refine iNe ?_ | refine iLt ?_ | refine iLe ?_ | refine iNot ?_ | refine iPick ?_ | refine iE20 ?_ | refine iE21 ?_ | refine iJn ?_)
    | ((with_reducible show xLd _ _ _); refine iLdB (by assumption) (by first | rfl | simp) ?_) | ((with_reducible refine iLdA (by assumption) ?_ ?_); rfl)
    | ((with_reducible refine iIaNN (by assumption) ?_ (fun pa_ hpa_ => ?_)); omega) | ((with_reducible refine iIaN (by assumption) ?_ (fun pa_ hpa_ => ?_)); omega)
    | ((with_reducible refine iIaI (by assumption) ?_ ?_ (fun pa_ hpa_ => ?_)); omega; omega) | ((with_reducible refine iAdd ?_ ?_); omega) | ((with_reducible refine iSub ?_ ?_); omega)
    | ((with_reducible show xEx _ _ _); refine iEx (by rfl) ?_) | ((with_reducible refine fun (_ : Nat → Value) => ?_); (try simp only [gx])))
  unfold firstOut
  cases hfr : frameOk n0 l0 && frameOk n1 l1
  · refine iCndT rfl ?_
    exact ⟨hX, _, rfl, Ow.nil _ _ _⟩
  · refine iCndF rfl ?_
    rw [Bool.and_eq_true] at hfr
    obtain ⟨hf, hn0, hl0⟩ := frameOk_fr hfr.1
    obtain ⟨hg, hn1, hl1⟩ := frameOk_fr hfr.2
    generalize frOf n0 l0 = f at *
    generalize frOf n1 l1 = g at *
    subst hn0; subst hl0; subst hn1; subst hl1
    (repeat first
    | (with_reducible first | refine iFa ?_ | refine iNil ?_ | refine iNilF ?_ | refine iLd (by assumption) ?_ | refine iLenN (by assumption) ?_ | refine iLenI (by assumption) ?_ | refine iLenS (by assumption) ?_ | refine iLenL ?_ | refine iEq ?_ | refine iNe ?_ | refine iLt ?_ | refine iLe ?_ | refine iNot ?_ | refine iPick ?_ | refine iE20 ?_ | refine iE21 ?_ | refine iJn ?_)
    | ((with_reducible show xLd _ _ _); refine iLdB (by assumption) (by first | rfl | simp) ?_) | ((with_reducible refine iLdA (by assumption) ?_ ?_); rfl)
    | ((with_reducible refine iIaNN (by assumption) ?_ (fun pa_ hpa_ => ?_)); omega) | ((with_reducible refine iIaN (by assumption) ?_ (fun pa_ hpa_ => ?_)); omega)
    | ((with_reducible refine iIaI (by assumption) ?_ ?_ (fun pa_ hpa_ => ?_)); omega; omega) | ((with_reducible refine iAdd ?_ ?_); omega) | ((with_reducible refine iSub ?_ ?_); omega)
    | ((with_reducible show xEx _ _ _); refine iEx (by rfl) ?_) | ((with_reducible refine fun (_ : Nat → Value) => ?_); (try simp only [gx])))
    refine iCall ((ok_spec_l08Find hf hg (onto := true) (one := true) (hs0.ext hX) (hs1.ext hX) (most := 1) (by omega) (by omega)).mono ?_)
    rintro v w7 ⟨h, vs, ho, hol⟩
    have hlo := hX.size
    have hX := hX.trans h
    rw [ref_eq hf hg (fun _ => rfl)] at hol
    have hvl := hol.1
    have hsl := ho.sl
    rw [List.length_map] at hvl
    (repeat first
    | (with_reducible first | refine iFa ?_ | refine iNil ?_ | refine iNilF ?_ | refine iLd (by assumption) ?_ | refine iLenN (by assumption) ?_ | refine iLenI (by assumption) ?_ | refine iLenS (by assumption) ?_ | refine iLenL ?_ | refine iEq ?_ | refine iNe ?_ | refine iLt ?_ | refine iLe ?_ | refine iNot ?_ | refine iPick ?_ | refine iE20 ?_ | refine iE21 ?_ | refine iJn ?_)
    | ((with_reducible show xLd _ _ _); refine iLdB (by assumption) (by first | rfl | simp) ?_) | ((with_reducible refine iLdA (by assumption) ?_ ?_); rfl)
    | ((with_reducible refine iIaNN (by assumption) ?_ (fun pa_ hpa_ => ?_)); omega) | ((with_reducible refine iIaN (by assumption) ?_ (fun pa_ hpa_ => ?_)); omega)
    | ((with_reducible refine iIaI (by assumption) ?_ ?_ (fun pa_ hpa_ => ?_)); omega; omega) | ((with_reducible refine iAdd ?_ ?_); omega) | ((with_reducible refine iSub ?_ ?_); omega)
    | ((with_reducible show xEx _ _ _); refine iEx (by rfl) ?_) | ((with_reducible refine fun (_ : Nat → Value) => ?_); (try simp only [gx])))
    cases hL : leaves (fitsB f g true true) g.n f.n [] with
    | nil =>
      rw [hL] at hvl
      refine iCndP (fun _ => ?_) (fun h => absurd (show (vs.length : Int) = 0 by rw [hvl]; rfl) h)
      exact ⟨hX, _, rfl, Ow.nil _ _ _⟩
    | cons m ms =>
      rw [hL] at hvl hol
      have hv1 : vs.length = 1 := by rw [hvl]; simp
      refine iCndP (fun h => absurd h (by omega)) (fun _ => ?_)
      obtain ⟨v0, rfl⟩ : ∃ v0, vs = [v0] := by
        match vs, hv1 with
        | [v0], _ => exact ⟨v0, rfl⟩
      refine iIa hsl (by omega) (by simp) fun p hp => ?_
      refine iLd hp ?_
      exact ⟨hX, v0, rfl, (hol.2.1 0 v0 _ rfl (by simp)).mono hlo⟩
end Go.Proofs.Ytgbnmihpjlbfgaa
