/- The proof of FnUnder, part 5 of 6. Conditions: none. -/
import Derived.Test.YtikfhibcdhdglaaGreatKR34d
import Derived.Lib.AppendZerosOnto
import Derived.Lib.Overlaps
import Derived.RangeFuncNested
import Derived.RangeFuncCalls
import Derived.RangeFuncLeaves
import Derived.RangeFuncRecord
import Derived.Sort.LoopGhostIn
import Derived.TacticsIn
import Derived.OrdersIn
import Derived.Laws.Slices
/- Contracts: which rows of nodes are formulas, in the program; lists of them. Conditions: none. -/
namespace Go.Vc
/-- A whole element of k cells. -/
theorem iRdAgg6 {P : Program} {sz n j : Nat} {w : World} {v : Value} {xs ys : List Value} {k : IntKind} {K : Value → Prop} (hs : SlK sz w v n xs) (hj : j < n) (hl : ys.length = sz) (hy : ∀ i, i < sz → xs[j * sz + i]? = ys[i]?) (h : K (.agg ys.toArray)) : xIa sz v (.int k (j : Int)) fun p => xLdA w sz p K := by
  have _ := P
  refine iIaK hs hj fun b o hc => ?_
  refine ⟨_, ys.toArray, rfl, by simpa using hl, fun i hi => ?_, h⟩
  have e : (⟨b, o, none⟩ : Addr).add i = ⟨b, o + i, none⟩ := by
    simp only [Addr.add]; split
    · rename_i e; simp [e]
    · rfl
  rw [e, hc i hi, hy i hi]
  simp
/-- A variable of several cells is made and set. -/
theorem iVar6 {P : Program} {w : World} {e : TypeId} {n : Nat} {cs : Array Value} {a : Array Value} {K : Value → World → Prop} (hn : cs.size = n) (ha : a.size = n) (hc : ∀ v ∈ a.toList, isCell v = true)
    (h : ∀ b w', w.heap.size ≤ b → Ext w w' → Blk e w' b a.toList → K (.pointer (some ⟨b, 0, none⟩)) w') : xNew cs e w fun v w1 => xStA P w1 n v (.agg a) fun w2 => K v w2 := by
  refine iNew fun b w1 hb h1 hB => ?_
  refine iStAB hB (by simpa using hn) ha hc fun w2 hu hB2 => ?_
  exact h b w2 (by omega) (h1.upd hu (by omega)) hB2
end Go.Vc
namespace Go.Proofs.YtikfhibcdhdglaaGreat
open Go.Vc
theorem ok_impl_isVariableN (x : Int) (w : World) : Ret Tryz.prog f_impl_isVariable #[.int .i64 x] w (.bool (decide (0 ≤ x ∧ x ≤ 5))) := by
  apply c_impl_isVariable; unfold S_impl_isVariable
  exact iRet (ok_impl_inRange x 0 5 w) fun w1 h1 => ⟨rfl, h1⟩
theorem ok_impl_isNodeN (q : RN) (w : World) : Ret Tryz.prog f_impl_isNode #[.agg #[.int .i64 q.1, .int .i64 q.2]] w (.bool (okN q)) := by
  obtain ⟨k, s⟩ := q
  show Ret Tryz.prog f_impl_isNode #[.agg #[.int .i64 k, .int .i64 s]] w (.bool (okN (k, s)))
  have e : okN (k, s) = (decide (0 ≤ k ∧ k ≤ 6) && (decide (0 ≤ s ∧ s ≤ 5) && (decide (k = 0) || decide (s = 0)))) := rfl
  apply c_impl_isNode; unfold S_impl_isNode
  refine iNew fun p w1 _ x1 hB => ?_
  have hB : Blk _ w1 p [.int .i64 k, .int .i64 s] := hB
  refine iFa (iLdB hB (v := .int .i64 k) rfl ?_)
  refine iEq (iCndP (fun h0 => ?_) (fun h0 => ?_))
  · refine iFa (iLdB hB (v := .int .i64 s) rfl ?_)
    refine iRet (ok_impl_isVariableN _ w1) fun w2 x2 => ⟨?_, x1.trans x2⟩
    rw [e, decide_eq_true h0, decide_eq_true (by omega : 0 ≤ k ∧ k ≤ 6)]
    simp
  · refine iJnB (okN (k, s)) w1 (fun J hJ => ?_) (fun w2 x2 => fun _ => ⟨rfl, x1.trans x2⟩)
    refine iFa (iLdB hB (v := .int .i64 k) rfl ?_)
    refine iRet (ok_impl_inRange _ _ _ w1) fun w2 x2 => ?_
    rw [e, decide_eq_false h0] at hJ
    by_cases c1 : 1 ≤ k ∧ k ≤ 6
    · rw [decide_eq_true c1]
      refine iCndT rfl ?_
      refine iFa (iLdB (hB.ext x2) (v := .int .i64 s) rfl ?_)
      refine iEq ?_
      rw [decide_eq_true (by omega : 0 ≤ k ∧ k ≤ 6), Bool.true_and, Bool.false_or] at hJ
      by_cases c2 : s = 0
      · rw [decide_eq_true c2] at hJ ⊢
        rw [decide_eq_true (by omega : 0 ≤ s ∧ s ≤ 5)] at hJ
        exact hJ _ x2
      · rw [decide_eq_false c2] at hJ ⊢
        rw [Bool.and_false] at hJ
        exact hJ _ x2
    · rw [decide_eq_false c1]
      rw [decide_eq_false (by omega : ¬ (0 ≤ k ∧ k ≤ 6)), Bool.false_and] at hJ
      exact iCndF rfl (hJ _ x2)
theorem ok_ContainsFunc_N {v fv : Value} {N : List RN} {w : World} (hs : RawS w v N) (p : RN → Bool) (hf : ∀ q ∈ N, ∀ w', Ext w w' → callV Tryz.prog fv [.agg #[.int .i64 q.1, .int .i64 q.2]] w' fun u w'' => u = .bool (p q) ∧ Ext w' w'') :
    Ret Tryz.prog f_slices_ContainsFunc_Simpl_Node_impl_Node #[v, fv] w (.bool (N.any p)) := by
  have hln := hs.len
  apply c_slices_ContainsFunc_Simpl_Node_impl_Node; unfold S_slices_ContainsFunc_Simpl_Node_impl_Node
  refine iRet (v := .int .i64 (match N.findIdx? p with | some i => (i : Int) | none => -1)) ?_ fun w1 x1 => iLe ⟨?_, x1⟩
  · apply c_slices_IndexFunc_Simpl_Node_impl_Node; unfold S_slices_IndexFunc_Simpl_Node_impl_Node
    refine iLenK hs ?_
    refine iLp (fun i : Nat => [.int .i64 (i : Int)]) (fun i w' => i ≤ N.length ∧ Ext w w' ∧ ∀ x ∈ N.take i, p x = false) (fun i => N.length - i) 0 rfl ⟨Nat.zero_le _, Ext.refl _, by simp⟩ ?_
    rintro i w2 Kn ⟨hi, h2, hno⟩ hKn
    intro _
    simp only [gx]
    refine iLt (iCndP (fun h => ?_) (fun h => ?_))
    · have hil : i < N.length := by omega
      have hat := cellsN_at hil
      refine iRdAgg6 (P := Tryz.prog) (ys := [.int .i64 N[i].1, .int .i64 N[i].2]) (hs.ext h2) (by omega) rfl (fun j hj => ?_) ?_
      · rcases j with _ | _ | j
        · exact hat.1
        · exact hat.2
        · omega
      refine (hf _ (List.getElem_mem hil) w2 h2).mono ?_
      rintro u w3 ⟨rfl, x3⟩
      cases hp : p N[i]
      · refine iCndF (by first | rfl | exact hp) ?_
        refine iAdd (by omega) ?_
        refine hKn (i + 1) _ ⟨by omega, h2.trans x3, ?_⟩ (by omega)
        rw [List.take_succ_eq_append_getElem hil]
        intro x hx
        rcases List.mem_append.1 hx with hx | hx
        · exact hno x hx
        · simp at hx; rw [hx]; exact hp
      · refine iCndT (by first | rfl | exact hp) ⟨?_, h2.trans x3⟩
        have : N.findIdx? p = some i := List.findIdx?_eq_some_iff_getElem.2 ⟨hil, hp, fun j hj => by
          have := hno (N[j]'(by omega)) (List.mem_take_iff_getElem.2 ⟨j, by omega, rfl⟩)
          simp [this]⟩
        rw [this]
    · refine ⟨?_, h2⟩
      rw [List.take_of_length_le (by omega)] at hno
      have : N.findIdx? p = none := List.findIdx?_eq_none_iff.2 hno
      rw [this]
  · cases h : N.findIdx? p with
    | none =>
      have := List.findIdx?_eq_none_iff.1 h
      have h2 : N.any p = false := List.any_eq_false.2 fun x hx => by simp [this x hx]
      simp [h2]
    | some i =>
      obtain ⟨hi, hp, _⟩ := List.findIdx?_eq_some_iff_getElem.1 h
      have h2 : N.any p = true := List.any_eq_true.2 ⟨N[i], List.getElem_mem _, hp⟩
      simp [h2]
theorem ok_impl_partEndN {v : Value} {N : List RN} {i : Nat} {w : World} (hs : RawS w v N) (hok : N.all okN = true) (hi : i ≤ N.length) (hn : N.length ≤ 1099511627776) : Ret Tryz.prog f_impl_partEnd #[v, .int .i64 (i : Int)] w (.int .i64 (endN N i)) := by
  apply c_impl_partEnd; unfold S_impl_partEnd
  refine iLp (fun s : Nat × Nat => [.int .i64 (s.1 : Int), .int .i64 (s.2 : Int)]) (fun s w' => Ext w w' ∧ s.1 ≤ N.length ∧ s.2 ≤ 1 + 2 * s.1 ∧ goN (N.drop s.1) s.2 = goN (N.drop i) 1) (fun s => N.length - s.1) (i, 1) rfl ⟨Ext.refl _, hi, by show 1 ≤ 1 + 2 * i; omega, rfl⟩ ?_
  rintro ⟨j, o⟩ w2 Kn ⟨x2, hj, ho, hg⟩ hKn
  have hj : j ≤ N.length := hj
  have ho : o ≤ 1 + 2 * j := ho
  have hg : goN (N.drop j) o = goN (N.drop i) 1 := hg
  intro _
  simp only [gx]
  refine iLt (iCndP (fun h3 => ?_) (fun h3 => ?_))
  · obtain ⟨o', rfl⟩ : ∃ o', o = o' + 1 := ⟨o - 1, by omega⟩
    refine iLenK (SlK.ext hs x2) ?_
    refine iLe (iCndP (fun h4 => ?_) (fun h4 => ?_))
    · obtain rfl : j = N.length := by omega
      rw [List.drop_length] at hg
      refine ⟨?_, x2⟩
      unfold endN
      rw [← hg]; rfl
    · have hj1 : j < N.length := by omega
      have hat := cellsN_at hj1
      obtain ⟨k, s, hq, hk6, _⟩ := okN_nat (List.all_eq_true.1 hok _ (List.getElem_mem hj1))
      refine iFld (f := 0) (SlK.ext hs x2) rfl hj1 (by decide) hat.1 ?_
      have e1 : N[j].1 = (k : Int) := by rw [hq]
      rw [e1]
      refine iRet (ok_impl_partsOf k w2) fun w3 x3 => ?_
      have hak : arity k ≤ 2 := by unfold arity; split; omega; split <;> omega
      refine iSub (by omega) (iAdd (by omega) (iAdd (by omega) ?_))
      rw [show ((o' + 1 : Nat) : Int) + ((arity k : Int) - 1) = ((o' + arity k : Nat) : Int) by omega]
      refine hKn (j + 1, o' + arity k) _ ⟨x2.trans x3, by show j + 1 ≤ N.length; omega, by show o' + arity k ≤ 1 + 2 * (j + 1); omega, ?_⟩ (by show N.length - (j + 1) < N.length - j; omega)
      show goN (N.drop (j + 1)) (o' + arity k) = _
      rw [← hg, goN_drop hj1, e1, arZ_nat]
  · obtain rfl : o = 0 := by omega
    rw [goN_zero] at hg
    refine ⟨?_, x2⟩
    unfold endN
    rw [← hg]
    show Value.int .i64 (j : Int) = .int .i64 ((N.length - (N.drop j).length : Nat) : Int)
    rw [List.length_drop, show N.length - (N.length - j) = j by omega]
/-- No node of a modality. -/
def modN (q : RN) : Bool := decide (q.1 = 5) || decide (q.1 = 6)
def plainN (N : List RN) : Bool := !N.any modN
theorem ok_impl_isFormulaN {v : Value} {N : List RN} {w : World} (hs : RawS w v N) (hn : N.length ≤ 1099511627776) : Ret Tryz.prog f_impl_isFormula #[v] w (.bool (isN N)) := by
  apply c_impl_isFormula; unfold S_impl_isFormula
  refine iJnB (isN N) w (fun J hJ => ?_) (fun w2 x2 => fun _ => ⟨rfl, x2⟩)
  refine iLenK hs ?_
  refine iLe (iCndP (fun h1 => ?_) (fun h1 => ?_))
  · refine iLenK hs ?_
    refine iLe (iCndP (fun h2 => ?_) (fun h2 => ?_))
    · refine iRet (ok_ContainsFunc_N hs (fun q => !okN q) fun q hq w' x' => ?_) fun w3 x3 => ?_
      · refine iRet (v := .bool (!okN q)) ?_ fun w5 x5 => ⟨rfl, x5⟩
        apply c_impl_isFormula_1; unfold S_impl_isFormula_1
        refine iNew fun p w1 _ x1 hB => ?_
        refine iLdA hB rfl ?_
        refine iRet (ok_impl_isNodeN q w1) fun w4 x4 => ?_
        exact iNot ⟨rfl, x1.trans x4⟩
      rw [show (N.any fun q => !okN q) = !N.all okN by rw [List.not_all_eq_any_not]]
      refine iNot ?_
      rw [Bool.not_not]
      unfold isN at hJ
      rw [decide_eq_true (by omega : N.length ≤ 40), Bool.true_and] at hJ
      cases hall : N.all okN
      · refine iCndF rfl ?_
        unfold treeN at hJ
        rw [hall, Bool.false_and] at hJ
        exact hJ _ x3
      · refine iCndT rfl ?_
        refine iRet (ok_impl_partEndN (i := 0) (SlK.ext hs x3) hall (Nat.zero_le _) hn) fun w4 x4 => ?_
        refine iLenK ((SlK.ext hs x3).ext x4) ?_
        refine iEq ?_
        rw [endN_tree hall (by omega)]
        exact hJ _ (x3.trans x4)
    · unfold isN at hJ
      rw [decide_eq_false (by omega : ¬ N.length ≤ 40), Bool.false_and] at hJ
      exact hJ _ (Ext.refl _)
  · have h0 : N = [] := List.length_eq_zero_iff.1 (by omega)
    subst h0
    exact hJ _ (Ext.refl _)
theorem ok_impl_isModalN (k : Int) (w : World) : Ret Tryz.prog f_impl_isModal #[.int .i64 k] w (.bool (decide (k = 5) || decide (k = 6))) := by
  apply c_impl_isModal; unfold S_impl_isModal
  refine iJnB (decide (k = 5) || decide (k = 6)) w (fun J hJ => ?_) (fun w2 x2 => fun _ => ⟨rfl, x2⟩)
  refine iEq (iCndP (fun h => ?_) (fun h => ?_))
  · rw [decide_eq_true h, Bool.true_or] at hJ
    exact hJ _ (Ext.refl _)
  · rw [decide_eq_false h, Bool.false_or] at hJ
    exact iEq (hJ _ (Ext.refl _))
theorem ok_impl_isPlainN {v : Value} {N : List RN} {w : World} (hs : RawS w v N) : Ret Tryz.prog f_impl_isPlain #[v] w (.bool (plainN N)) := by
  apply c_impl_isPlain; unfold S_impl_isPlain
  refine iRet (ok_ContainsFunc_N hs modN fun q hq w' x' => ?_) fun w3 x3 => iNot ⟨rfl, x3⟩
  refine iRet (v := .bool (modN q)) ?_ fun w5 x5 => ⟨rfl, x5⟩
  apply c_impl_isPlain_1; unfold S_impl_isPlain_1
  refine iNew fun p w1 _ x1 hB => ?_
  have hB : Blk _ w1 p [.int .i64 q.1, .int .i64 q.2] := hB
  refine iFa (iLdB hB (v := .int .i64 q.1) rfl ?_)
  exact iRet (ok_impl_isModalN _ w1) fun w4 x4 => ⟨rfl, x1.trans x4⟩
abbrev VN := Value × List RN
structure RwN (w : World) (v : Value) (L : List VN) : Prop where
  row : Sl w v (L.map Prod.fst)
  raw : ∀ p ∈ L, RawS w p.1 p.2
theorem RwN.ext {w w' : World} {v : Value} {L : List VN} (h : RwN w v L) (x : Ext w w') : RwN w' v L := ⟨h.row.ext x, fun p hp => SlK.ext (h.raw p hp) x⟩
theorem RwN.len {w : World} {v : Value} {L : List VN} (h : RwN w v L) : L.length ≤ 9223372036854775807 := by have := h.row.len; rwa [List.length_map] at this
theorem RwN.one {w : World} {v u : Value} {N : List RN} (h : Sl w v [u]) (k : RawS w u N) : RwN w v [(u, N)] := ⟨h, fun p hp => by
  simp only [List.mem_singleton] at hp
  subst hp; exact k⟩
theorem iRdN {w : World} {v : Value} {L : List VN} {j : Nat} {k : IntKind} {K : Value → Prop} (hs : RwN w v L) (hj : j < L.length) (h : K L[j].1) : xIa 1 v (.int k (j : Int)) fun p => xLd w p K :=
  iIa (j := (j : Int)) hs.row (by omega) (by rw [List.length_map]; omega) fun p hp => iLd (by rw [hp]; simp [hj]) h
theorem ok_ContainsFunc_NN {v fv : Value} {L : List VN} {w : World} (hs : RwN w v L) (p : List RN → Bool) (hf : ∀ q ∈ L, ∀ w', Ext w w' → callV Tryz.prog fv [q.1] w' fun u w'' => u = .bool (p q.2) ∧ Ext w' w'') :
    Ret Tryz.prog f_slices_ContainsFunc_SSimpl_Node_Simpl_Node #[v, fv] w (.bool (L.any fun q => p q.2)) := by
  have hln := hs.len
  apply c_slices_ContainsFunc_SSimpl_Node_Simpl_Node; unfold S_slices_ContainsFunc_SSimpl_Node_Simpl_Node
  refine iRet (v := .int .i64 (match L.findIdx? (fun q => p q.2) with | some i => (i : Int) | none => -1)) ?_ fun w1 x1 => iLe ⟨?_, x1⟩
  · apply c_slices_IndexFunc_SSimpl_Node_Simpl_Node; unfold S_slices_IndexFunc_SSimpl_Node_Simpl_Node
    refine iLenS hs.row ?_
    rw [List.length_map]
    refine iLp (fun i : Nat => [.int .i64 (i : Int)]) (fun i w' => i ≤ L.length ∧ Ext w w' ∧ ∀ x ∈ L.take i, p x.2 = false) (fun i => L.length - i) 0 rfl ⟨Nat.zero_le _, Ext.refl _, by simp⟩ ?_
    rintro i w2 Kn ⟨hi, h2, hno⟩ hKn
    intro _
    simp only [gx]
    refine iLt (iCndP (fun h => ?_) (fun h => ?_))
    · have hil : i < L.length := by omega
      refine iRdN (hs.ext h2) hil ?_
      refine (hf _ (List.getElem_mem hil) w2 h2).mono ?_
      rintro u w3 ⟨rfl, x3⟩
      cases hp : p L[i].2
      · refine iCndF (by first | rfl | exact hp) ?_
        refine iAdd (by omega) ?_
        refine hKn (i + 1) _ ⟨by omega, h2.trans x3, ?_⟩ (by omega)
        rw [List.take_succ_eq_append_getElem hil]
        intro x hx
        rcases List.mem_append.1 hx with hx | hx
        · exact hno x hx
        · simp at hx; rw [hx]; exact hp
      · refine iCndT (by first | rfl | exact hp) ⟨?_, h2.trans x3⟩
        have : L.findIdx? (fun q => p q.2) = some i := List.findIdx?_eq_some_iff_getElem.2 ⟨hil, hp, fun j hj => by
          have := hno (L[j]'(by omega)) (List.mem_take_iff_getElem.2 ⟨j, by omega, rfl⟩)
          simp [this]⟩
        rw [this]
    · refine ⟨?_, h2⟩
      rw [List.take_of_length_le (by omega)] at hno
      have : L.findIdx? (fun q => p q.2) = none := List.findIdx?_eq_none_iff.2 hno
      rw [this]
  · cases h : L.findIdx? (fun q => p q.2) with
    | none =>
      have := List.findIdx?_eq_none_iff.1 h
      have h2 : (L.any fun q => p q.2) = false := List.any_eq_false.2 fun x hx => by simp [this x hx]
      simp [h2]
    | some i =>
      obtain ⟨hi, hp, _⟩ := List.findIdx?_eq_some_iff_getElem.1 h
      have h2 : (L.any fun q => p q.2) = true := List.any_eq_true.2 ⟨L[i], List.getElem_mem _, hp⟩
      simp [h2]
theorem ok_impl_areFormulasN {v : Value} {L : List VN} {w : World} (hs : RwN w v L) (hn : ∀ p ∈ L, p.2.length ≤ 1099511627776) : Ret Tryz.prog f_impl_areFormulas #[v] w (.bool (L.all fun q => isN q.2)) := by
  apply c_impl_areFormulas; unfold S_impl_areFormulas
  refine iRet (ok_ContainsFunc_NN hs (fun N => !isN N) fun q hq w' x' => ?_) fun w3 x3 => iNot ⟨?_, x3⟩
  · refine iRet (v := .bool (!isN q.2)) ?_ fun w5 x5 => ⟨rfl, x5⟩
    apply c_impl_areFormulas_1; unfold S_impl_areFormulas_1
    exact iRet (ok_impl_isFormulaN (SlK.ext (hs.raw q hq) x') (hn q hq)) fun w4 x4 => iNot ⟨rfl, x4⟩
  · rw [List.not_any_eq_all_not]; simp
theorem ok_impl_allPlainN {v : Value} {L : List VN} {w : World} (hs : RwN w v L) : Ret Tryz.prog f_impl_allPlain #[v] w (.bool (L.all fun q => plainN q.2)) := by
  apply c_impl_allPlain; unfold S_impl_allPlain
  refine iRet (ok_ContainsFunc_NN hs (fun N => !plainN N) fun q hq w' x' => ?_) fun w3 x3 => iNot ⟨?_, x3⟩
  · refine iRet (v := .bool (!plainN q.2)) ?_ fun w5 x5 => ⟨rfl, x5⟩
    apply c_impl_allPlain_1; unfold S_impl_allPlain_1
    exact iRet (ok_impl_isPlainN (SlK.ext (hs.raw q hq) x')) fun w4 x4 => iNot ⟨rfl, x4⟩
  · rw [List.not_any_eq_all_not]; simp
/-! ### Variables -/
def maskV (N : List RN) : Nat := setOf ((N.filter fun q => decide (q.1 = 0)).map fun q => q.2.toNat)
theorem maskV_bit (N : List RN) (v : Nat) : (maskV N).testBit v = true ↔ ∃ q ∈ N, q.1 = 0 ∧ q.2.toNat = v := by
  unfold maskV
  rw [setOf_testBit, List.contains_iff_mem, List.mem_map]
  constructor
  · rintro ⟨q, hq, e⟩
    rw [List.mem_filter, decide_eq_true_eq] at hq
    exact ⟨q, hq.1, hq.2, e⟩
  · rintro ⟨q, hq, h0, e⟩
    exact ⟨q, by rw [List.mem_filter, decide_eq_true_eq]; exact ⟨hq, h0⟩, e⟩
theorem maskV_lt {N : List RN} (h : N.all okN = true) : maskV N < 2 ^ 6 := setOf_lt fun y hy => by
  obtain ⟨q, hq, rfl⟩ := List.mem_map.1 hy
  have := okN_iff.1 (List.all_eq_true.1 h q (List.mem_filter.1 hq).1)
  omega
theorem maskV_has : ∀ (f : Fm) (v : Nat), (maskV (rawF f)).testBit v = true ↔ (0, (v : Int)) ∈ rawF f := fun f v => by
  rw [maskV_bit]
  constructor
  · rintro ⟨⟨a, b⟩, hq, h0, e⟩
    have h0 : a = 0 := h0
    have e : b.toNat = v := e
    subst h0
    have key : ∀ g : Fm, ∀ q ∈ rawF g, q.1 = 0 → 0 ≤ q.2 := by
      intro g
      induction g with
      | var x => intro q hq _; simp [rawF] at hq; subst hq; exact Int.natCast_nonneg _
      | fls => intro q hq h; simp [rawF] at hq; subst hq; exact absurd h (by decide)
      | and x y ih1 ih2 => intro q hq h; simp only [rawF, List.mem_cons, List.mem_append] at hq; rcases hq with rfl | hq | hq <;> first | exact absurd h (by decide) | exact ih1 q hq h | exact ih2 q hq h
      | or x y ih1 ih2 => intro q hq h; simp only [rawF, List.mem_cons, List.mem_append] at hq; rcases hq with rfl | hq | hq <;> first | exact absurd h (by decide) | exact ih1 q hq h | exact ih2 q hq h
      | imp x y ih1 ih2 => intro q hq h; simp only [rawF, List.mem_cons, List.mem_append] at hq; rcases hq with rfl | hq | hq <;> first | exact absurd h (by decide) | exact ih1 q hq h | exact ih2 q hq h
      | box x ih => intro q hq h; simp only [rawF, List.mem_cons] at hq; rcases hq with rfl | hq <;> first | exact absurd h (by decide) | exact ih q hq h
      | dia x ih => intro q hq h; simp only [rawF, List.mem_cons] at hq; rcases hq with rfl | hq <;> first | exact absurd h (by decide) | exact ih q hq h
    have := key f _ hq rfl
    have : b = (v : Int) := by have h2 : 0 ≤ b := this; omega
    rw [← this]; exact hq
  · intro h; exact ⟨_, h, rfl, by simp⟩
theorem ok_impl_variableMask {v : Value} {N : List RN} {w : World} (hs : RawS w v N) (hok : N.all okN = true) : Ret Tryz.prog f_impl_variableMask #[v] w (.int .i64 ((maskV N : Nat) : Int)) := by
  have hln := hs.len
  apply c_impl_variableMask; unfold S_impl_variableMask
  have hallk : ∀ k, (N.take k).all okN = true := fun k => List.all_eq_true.2 fun x hx => List.all_eq_true.1 hok x (List.mem_of_mem_take hx)
  have hsnoc : ∀ k (hk : k < N.length), maskV (N.take (k + 1)) = if N[k].1 = 0 then maskV (N.take k) ||| 2 ^ N[k].2.toNat else maskV (N.take k) := fun k hk => by
    unfold maskV
    rw [List.take_succ_eq_append_getElem hk, List.filter_append, List.map_append]
    by_cases h : N[k].1 = 0
    · rw [if_pos h, List.filter_cons_of_pos (by simpa using h)]
      exact setOf_snoc _ _
    · rw [if_neg h, List.filter_cons_of_neg (by simpa using h)]
      simp
  refine iLenK hs ?_
  refine iLp (fun k : Nat => [.int .i64 ((maskV (N.take k) : Nat) : Int), .int .i64 (k : Int)]) (fun k w' => k ≤ N.length ∧ Ext w w') (fun k => N.length - k) 0 rfl ⟨Nat.zero_le _, Ext.refl _⟩ ?_
  rintro k w2 Kn ⟨hk, x2⟩ hKn
  intro _
  simp only [gx]
  refine iLt (iCndP (fun h => ?_) (fun h => ?_))
  · have hk1 : k < N.length := by omega
    have hat := cellsN_at hk1
    have hq := okN_iff.1 (List.all_eq_true.1 hok _ (List.getElem_mem hk1))
    have h1 := maskV_lt (hallk k)
    have h2 := hsnoc k hk1
    refine iRdAgg6 (P := Tryz.prog) (ys := [.int .i64 N[k].1, .int .i64 N[k].2]) (SlK.ext hs x2) (by omega) rfl (fun j hj => ?_) ?_
    · rcases j with _ | _ | j
      · exact hat.1
      · exact hat.2
      · omega
    refine iVar6 rfl rfl (by simp [isCell]) fun b w4 _ x4 hB => ?_
    have hB : Blk _ w4 b [.int .i64 N[k].1, .int .i64 N[k].2] := hB
    refine iFa (iLdB hB (v := .int .i64 N[k].1) rfl ?_)
    refine iEq (iCndP (fun h0 => ?_) (fun h0 => ?_))
    · refine iFa (iLdB hB (v := .int .i64 N[k].2) rfl ?_)
      rw [if_pos h0] at h2
      generalize he : N[k].2 = s at *
      have hq2 : 0 ≤ s ∧ s ≤ 5 := hq.2.1
      obtain ⟨m, rfl⟩ := Int.eq_ofNat_of_zero_le hq2.1
      refine iShlOne (j := m) (by omega) ?_
      have h3 : 2 ^ m < 2 ^ 6 := Nat.pow_lt_pow_right (by omega) (by omega)
      refine iBOr (by omega) (by omega) ?_
      refine iAdd (by omega) ?_
      rw [show maskV (N.take k) ||| 2 ^ m = maskV (N.take (k + 1)) by rw [h2]; rfl]
      exact hKn (k + 1) _ ⟨by omega, x2.trans x4⟩ (by omega)
    · rw [if_neg h0] at h2
      refine iAdd (by omega) ?_
      rw [← h2]
      exact hKn (k + 1) _ ⟨by omega, x2.trans x4⟩ (by omega)
  · rw [List.take_of_length_le (by omega)]
    exact ⟨rfl, x2⟩
def maskL (L : List VN) : Nat := L.foldl (fun m p => m ||| maskV p.2) 0
theorem maskL_snoc (L : List VN) (p : VN) : maskL (L ++ [p]) = maskL L ||| maskV p.2 := by simp [maskL]
theorem maskL_bit (L : List VN) (v : Nat) : (maskL L).testBit v = true ↔ ∃ p ∈ L, (maskV p.2).testBit v = true := by
  have key : ∀ (L : List VN) (m : Nat), (L.foldl (fun m p => m ||| maskV p.2) m).testBit v = true ↔ m.testBit v = true ∨ ∃ p ∈ L, (maskV p.2).testBit v = true := by
    intro L
    induction L with
    | nil => intro m; simp
    | cons p L ih =>
      intro m
      rw [List.foldl_cons, ih, Nat.testBit_or, Bool.or_eq_true]
      simp only [List.mem_cons, exists_eq_or_imp, or_assoc]
  unfold maskL
  rw [key, Nat.zero_testBit]
  simp
theorem maskL_lt {L : List VN} (h : ∀ p ∈ L, p.2.all okN = true) : maskL L < 2 ^ 6 := by
  have key : ∀ (L : List VN) (m : Nat), m < 2 ^ 6 → (∀ p ∈ L, p.2.all okN = true) → L.foldl (fun m p => m ||| maskV p.2) m < 2 ^ 6 := by
    intro L
    induction L with
    | nil => intro m hm _; exact hm
    | cons p L ih => intro m hm h; exact ih _ (Nat.or_lt_two_pow hm (maskV_lt (h p List.mem_cons_self))) fun q hq => h q (List.mem_cons_of_mem _ hq)
  exact key L 0 (by omega) h
theorem ok_impl_variablesIn {v : Value} {L : List VN} {w : World} (hs : RwN w v L) (hok : ∀ p ∈ L, p.2.all okN = true) : Cal Tryz.prog f_impl_variablesIn #[v] w fun r w' => Ext w w' ∧ Ow w.heap.size t_i64 w' r (ints (nats (mem (maskL L)))) := by
  have hln := hs.len
  apply c_impl_variablesIn; unfold S_impl_variablesIn
  refine iLenS hs.row ?_
  rw [List.length_map]
  refine iLp (fun k : Nat => [.int .i64 ((maskL (L.take k) : Nat) : Int), .int .i64 (k : Int)]) (fun k w' => k ≤ L.length ∧ Ext w w') (fun k => L.length - k) 0 rfl ⟨Nat.zero_le _, Ext.refl _⟩ ?_
  rintro k w2 Kn ⟨hk, x2⟩ hKn
  have h1 := maskL_lt (L := L.take k) fun p hp => hok p (List.mem_of_mem_take hp)
  intro _
  simp only [gx]
  refine iLt (iCndP (fun h => ?_) (fun h => ?_))
  · have hk1 : k < L.length := by omega
    refine iRdN (hs.ext x2) hk1 ?_
    refine iRet (ok_impl_variableMask ((hs.ext x2).raw _ (List.getElem_mem hk1)) (hok _ (List.getElem_mem hk1))) fun w3 x3 => ?_
    have h2 := maskV_lt (hok _ (List.getElem_mem hk1))
    refine iBOr (by omega) (by omega) ?_
    refine iAdd (by omega) ?_
    rw [show maskL (L.take k) ||| maskV L[k].2 = maskL (L.take (k + 1)) by rw [List.take_succ_eq_append_getElem hk1, maskL_snoc]]
    exact hKn (k + 1) _ ⟨by omega, x2.trans x3⟩ (by omega)
  · rw [List.take_of_length_le (by omega)] at h1 ⊢
    refine iCall ((ok_impl_membersOf _ (by omega) w2).mono ?_)
    rintro r w3 ⟨x3, ho⟩
    exact ⟨x2.trans x3, ho.mono x2.size⟩
theorem ok_impl_fits (n k : Nat) (hn : n ≤ 256) (hk : k ≤ 1000) (w : World) : Cal Tryz.prog f_impl_fits #[.int .i64 (n : Int), .int .i64 (k : Int)] w fun r w' => w' = w ∧ ∃ b, r = .bool b := by
  apply c_impl_fits; unfold S_impl_fits
  refine iLp (fun s : Nat × Nat => [.int .i64 (s.1 : Int), .int .i64 (s.2 : Int)]) (fun s w' => w' = w ∧ s.1 ≤ 4096 ∧ s.2 ≤ k) (fun s => k - s.2) (1, 0) rfl ⟨rfl, by show 1 ≤ 4096; omega, Nat.zero_le _⟩ ?_
  rintro ⟨p, j⟩ w2 Kn ⟨rfl, hp, hj⟩ hKn
  have hp : p ≤ 4096 := hp
  have hj : j ≤ k := hj
  intro _
  simp only [gx]
  refine iLt (iCndP (fun h => ?_) (fun h => ⟨by first | trivial | rfl, _, rfl⟩))
  have hm : p * n ≤ 4096 * 256 := Nat.mul_le_mul hp hn
  have e : (p : Int) * (n : Int) = ((p * n : Nat) : Int) := by simp
  refine iMul (by omega) ?_
  rw [e]
  refine iLt (iCndP (fun h2 => ⟨by first | trivial | rfl, _, rfl⟩) (fun h2 => ?_))
  refine iAdd (by omega) ?_
  exact hKn (p * n, j + 1) _ ⟨rfl, by show p * n ≤ 4096; omega, by show j + 1 ≤ k; omega⟩ (by show k - (j + 1) < k - j; omega)
end Go.Proofs.YtikfhibcdhdglaaGreat

/- Contracts: valuations; forcing in the reference; IsForcedAt; Shows in the program and the reference. Conditions: none. -/
namespace Go.Proofs.YtikfhibcdhdglaaGreat
open Go.Vc
/-! ### Formulas -/
theorem pl_good : ∀ {a : Fm}, Fm.pl a → a.good
  | .var _, h => h
  | .fls, _ => trivial
  | .and _ _, h => ⟨pl_good h.1, pl_good h.2⟩
  | .or _ _, h => ⟨pl_good h.1, pl_good h.2⟩
  | .imp _ _, h => ⟨pl_good h.1, pl_good h.2⟩
  | .box _, h => h.elim
  | .dia _, h => h.elim
theorem plainN_cons (q : RN) (N : List RN) : plainN (q :: N) = (!modN q && plainN N) := by simp [plainN]
theorem plainN_app (M N : List RN) : plainN (M ++ N) = (plainN M && plainN N) := by simp [plainN]
theorem pl_iff : ∀ {a : Fm}, Fm.pl a ↔ a.good ∧ plainN (rawF a) = true
  | .var v => by simp [Fm.pl, Fm.good, rawF, plainN, modN]
  | .fls => by simp [Fm.pl, Fm.good, rawF, plainN, modN]
  | .and a b => by
    have h1 := pl_iff (a := a)
    have h2 := pl_iff (a := b)
    simp only [Fm.pl, Fm.good, rawF, plainN_cons, plainN_app, h1, h2, Bool.and_eq_true]
    exact ⟨fun h => ⟨⟨h.1.1, h.2.1⟩, rfl, h.1.2, h.2.2⟩, fun h => ⟨⟨h.1.1, h.2.2.1⟩, h.1.2, h.2.2.2⟩⟩
  | .or a b => by
    have h1 := pl_iff (a := a)
    have h2 := pl_iff (a := b)
    simp only [Fm.pl, Fm.good, rawF, plainN_cons, plainN_app, h1, h2, Bool.and_eq_true]
    exact ⟨fun h => ⟨⟨h.1.1, h.2.1⟩, rfl, h.1.2, h.2.2⟩, fun h => ⟨⟨h.1.1, h.2.2.1⟩, h.1.2, h.2.2.2⟩⟩
  | .imp a b => by
    have h1 := pl_iff (a := a)
    have h2 := pl_iff (a := b)
    simp only [Fm.pl, Fm.good, rawF, plainN_cons, plainN_app, h1, h2, Bool.and_eq_true]
    exact ⟨fun h => ⟨⟨h.1.1, h.2.1⟩, rfl, h.1.2, h.2.2⟩, fun h => ⟨⟨h.1.1, h.2.2.1⟩, h.1.2, h.2.2.2⟩⟩
  | .box a => by simp [Fm.pl, rawF, plainN, modN]
  | .dia a => by simp [Fm.pl, rawF, plainN, modN]
theorem isN_raw {a : Fm} (h : a.good) (hs : a.size ≤ 40) : isN (rawF a) = true := isN_iff.2 ⟨a, h, hs, rfl⟩
/-! ### Jankov's formulas are plain -/
theorem orG_pl : ∀ (l : List Nat) (a : Fm), Fm.pl a → (∀ x ∈ l, x < 6) → Fm.pl (orG a l)
  | [], _, h, _ => h
  | y :: l, a, h, hl => orG_pl l (.or a (.var y)) ⟨h, hl y List.mem_cons_self⟩ fun x hx => hl x (List.mem_cons_of_mem _ hx)
theorem jnF_pl {q : Fr} (hq : q.ok) (h6 : q.n ≤ 6) {m : Nat} (hm : m < 2 ^ q.n) : Fm.pl (jnF q m) := by
  have hl : ∀ x ∈ minL q m, x < 6 := fun x hx => by
    have := bit_lt_n hm ((mem_minL (mask63 hq hm)).1 hx).1
    omega
  unfold jnF
  generalize minL q m = l at *
  cases l with
  | nil => trivial
  | cons x l => exact orG_pl l _ (hl x List.mem_cons_self) fun y hy => hl y (List.mem_cons_of_mem _ hy)
theorem prem_pl {q : Fr} (hq : q.ok) (hr : Rooted q) (h6 : q.n ≤ 6) {a : Fm} (ha : a ∈ premF q) : Fm.pl a ∧ a.size ≤ 40 := by
  have hr1 := hr.root.1
  rcases prem_cases ha with rfl | ⟨x, y, hx, hy, ha⟩ | ⟨x, u, hx, hu, ha⟩
  · exact ⟨show rootN q < 6 by omega, by simp [Fm.size]⟩
  · have hl := and_lt8 (y := y) hq (show x < q.n by omega)
    have h1 := jnF_pl hq h6 hl
    have h2 := jnF_size hq hl
    simp only [pairF, bothF, List.mem_cons, List.not_mem_nil, or_false] at ha
    have hx6 : x < 6 := by omega
    have hy6 : y < 6 := by omega
    rcases ha with rfl | rfl
    · exact ⟨⟨⟨hx6, hy6⟩, h1⟩, by simp only [Fm.size]; omega⟩
    · exact ⟨⟨h1, hx6, hy6⟩, by simp only [Fm.size]; omega⟩
  · have h1 := jnF_pl hq h6 (upsets_lt hu)
    have h2 := jnF_size hq (upsets_lt hu)
    have h3 := jnF_pl hq h6 (impM_lt q (q.a.getD x 0) u)
    have h4 := jnF_size hq (impM_lt q (q.a.getD x 0) u)
    simp only [upF, bothF, List.mem_cons, List.not_mem_nil, or_false] at ha
    have hx6 : x < 6 := by omega
    rcases ha with rfl | rfl
    · exact ⟨⟨⟨hx6, h1⟩, h3⟩, by simp only [Fm.size]; omega⟩
    · exact ⟨⟨h3, hx6, h1⟩, by simp only [Fm.size]; omega⟩
theorem conc_pl {q : Fr} (hq : q.ok) (h6 : q.n ≤ 6) : Fm.pl (concF q) ∧ (concF q).size ≤ 40 := ⟨jnF_pl hq h6 (conc_lt q), by have := jnF_size hq (conc_lt q); show (jnF q _).size ≤ 40; omega⟩

/-! ### Valuations -/
abbrev vV (vals : List Nat) : Nat → Nat := fun v => vals.getD v 0
theorem vV_ok {f : Fr} (hp : Po f) {vals : List Nat} (h : ∀ x ∈ vals, x ∈ upsets f) : ValOk f (vV vals) := fun v => by
  show vals.getD v 0 ∈ _
  rcases Nat.lt_or_ge v vals.length with h1 | h1
  · exact h _ (getD_mem h1)
  · rw [List.getD_eq_getElem?_getD, List.getElem?_eq_none h1]; exact zero_up hp
/-! ### Forcing in the reference -/
/-! ### IsForcedAt, where all is well -/
end Go.Proofs.YtikfhibcdhdglaaGreat

/- Contracts: Shows in the program and the reference; ShowingValues. Conditions: none. -/
namespace Go.Proofs.YtikfhibcdhdglaaGreat
open Go.Vc
theorem premF_len {q : Fr} (hq : q.ok) : (premF q).length ≤ 6000 := by
  have h2 := pairsK_len hq.1 (x := q.n) (y := 0) hq.1 (by omega)
  have h3 := upsK_len hq (x := q.n) (k := 0) hq.1
  unfold premF
  rw [List.length_append, List.length_append, List.length_singleton]
  omega
/-! ### ShowingValues, where there is a part -/
end Go.Proofs.YtikfhibcdhdglaaGreat

/- Contracts: drawn posets with valuations (l17Draw, DrawShows). Conditions: none. -/
namespace Go.Vc
theorem Ow.srcD {e e' : TypeId} {lo : Nat} {w0 w w' : World} {vc v : Value} {b : Nat} {xs : List Value} (h : Ow lo e' w v xs) (hS : Vc.Src e w0 vc b w) (hne : e' ≠ e) (k : Ch (fun c => c = b) w w') : Ow lo e' w' v xs :=
  h.ch k fun c hc h' => hS.neOw h hne (by rw [hc, h'])
end Go.Vc
namespace Go.Proofs.YtikfhibcdhdglaaGreat
open Go.Vc
end Go.Proofs.YtikfhibcdhdglaaGreat

/- Memory: rows of elements of two cells that a call turns in place. No function in sight. Conditions: none. -/
namespace Go.Vc
/-- A row of cap elements of two cells, whole. -/
def Rx (e : TypeId) (w : World) (g cap : Nat) (cur : List Value) : Prop := Blk e w g cur ∧ cur.length = cap * 2 ∧ cap ≤ 9223372036854775807
theorem OwK.rx {lo n : Nat} {e : TypeId} {w : World} {v : Value} {xs : List Value} (h : OwK 2 lo e w v n xs) (hn : 0 < n) :
    ∃ g cap cur, v = .slice (some ⟨g, 0, none⟩) n cap ∧ lo ≤ g ∧ n ≤ cap ∧ Rx e w g cap cur ∧ cur.take (n * 2) = xs := by
  obtain ⟨_, ⟨_, h0⟩ | ⟨g, cap, cur, hv, hg, hh, h1, h2, h3, h4⟩⟩ := h
  · omega
  · exact ⟨g, cap, cur.toList, hv, hg, h1, ⟨by unfold Blk; rw [Array.toArray_toList]; exact hh, by simpa using h3, h2⟩, h4⟩
section
variable {P : Program} {w : World} {e : TypeId} {g cap : Nat} {cur : List Value}
theorem Rx.own {lo n : Nat} {xs : List Value} (h : Rx e w g cap cur) (hl : lo ≤ g) (hn : n ≤ cap) (hx : cur.take (n * 2) = xs) : OwK 2 lo e w (.slice (some ⟨g, 0, none⟩) n cap) n xs :=
  ⟨by rw [← hx, List.length_take, h.2.1]; omega, .inr ⟨g, cap, cur.toArray, rfl, hl, h.1, hn, h.2.2, by simpa using h.2.1, by simpa using hx⟩⟩
theorem Rx.ext {w' : World} (h : Rx e w g cap cur) (x : Ext w w') : Rx e w' g cap cur := ⟨h.1.ext x, h.2⟩
/-- A part of a list put anew. -/
def putX (cur : List Value) (o : Nat) (ys : List Value) : List Value := cur.take o ++ ys ++ cur.drop (o + ys.length)
theorem putX_len {cur : List Value} {o : Nat} {ys : List Value} (h : o + ys.length ≤ cur.length) : (putX cur o ys).length = cur.length := by
  unfold putX; rw [List.length_append, List.length_append, List.length_take, List.length_drop]; omega
theorem putX_take {cur : List Value} {o n : Nat} {ys : List Value} (h : o + ys.length ≤ cur.length) (hn : n = o + ys.length) : (putX cur o ys).take n = cur.take o ++ ys := by
  unfold putX
  have hl : (cur.take o ++ ys).length = n := by rw [List.length_append, List.length_take]; omega
  rw [List.take_append_of_le_length (by omega), List.take_of_length_le (by omega)]
theorem Rx.set (h : Rx e w g cap cur) {cur' : List Value} (hl : cur'.length = cur.length) : Rx e (w.setRow g cur'.toArray) g cap cur' ∧ Ch (fun c => c = g) w (w.setRow g cur'.toArray) :=
  ⟨⟨setRow_heap w g cur.toArray _ e (0, 0) h.1, by rw [hl]; exact h.2.1, h.2.2⟩, ⟨rfl, rfl, rfl, by rw [setRow_size]; exact Nat.le_refl _, fun c _ hc => setRow_other w g c _ hc⟩⟩
theorem SlK.srcX {k m : Nat} {x : Value} {ys : List Value} (hs : SlK k w x m ys) : ∃ a c, x = .slice a m c ∧ ys.length = m * k ∧ ((a = none ∧ m = 0) ∨ ∃ ad, a = some ad ∧ ∀ j u, ys[j]? = some u → w.cell? (ad.add j) = some u) := by
  obtain ⟨hyl, a, c, rfl, hlc, hcm, hcells⟩ := hs
  refine ⟨a, c, rfl, hyl, ?_⟩
  rcases hcells with rfl | ⟨b, o, rfl, hc⟩
  · cases a with
    | none => exact .inl ⟨rfl, rfl⟩
    | some ad =>
      refine .inr ⟨ad, rfl, fun j u hu => ?_⟩
      have : ys = [] := List.length_eq_zero_iff.1 (by omega)
      rw [this] at hu; simp at hu
  · refine .inr ⟨_, rfl, fun j u hu => ?_⟩
    have hj : j < ys.length := (List.getElem?_eq_some_iff.1 hu).1
    rw [addr_add, hc j (by omega), hu]
/-- 'append(s, x...)' where s has room. -/
theorem iAppRx {t ty : TypeId} {i m bytes : Nat} {x z : Value} {ys : List Value} {K : Value → World → Prop} (ht : P.underlying t = some (.slice e)) (hi : (P.info? e).map (fun i => (i.zero, i.size, i.bytes)) = some (some z, 2, bytes))
    (hR : Rx e w g cap cur) (hs : SlK 2 w x m ys) (hy : ∀ u ∈ ys, isCell u = true) (hroom : i + m ≤ cap)
    (h : ∀ w', Rx e w' g cap (putX cur (i * 2) ys) → Ch (fun c => c = g) w w' → K (.slice (some ⟨g, 0, none⟩) (i + m) cap) w') :
    xOp P (Builtin.append_ #[t, t] ty #[.slice (some ⟨g, 0, none⟩) i cap, x]) w K := by
  obtain ⟨inf, hi, h3⟩ := Option.map_eq_some_iff.1 hi
  simp only [Prod.mk.injEq] at h3
  obtain ⟨-, hsz, -⟩ := h3
  obtain ⟨a, c, rfl, hyl, ⟨rfl, rfl⟩ | ⟨ad, rfl, hsrc⟩⟩ := hs.srcX
  · have : ys = [] := List.length_eq_zero_iff.1 (by omega)
    subst this
    refine ⟨_, w, ?_, h w (by simpa [putX] using hR) ⟨rfl, rfl, rfl, Nat.le_refl _, fun _ _ _ => rfl⟩⟩
    have : i ≤ cap := by omega
    simp [Builtin.append_, run_underlying ht, sizeOf, typeInfo, hi, Builtin.lenOf, Builtin.firstCells, this, storeCells]
  · have hl3 := hR.2.1
    have hr := run_append_room (P := P) w t ty e inf ht hi g i cap cur.toArray hR.1 ad m c ys (by rw [hsz]; exact hyl) hsrc (fun u hu => isCell_one (hy u hu)) hroom (by simp [hsz]; omega)
    rw [hsz] at hr
    obtain ⟨h1, h2⟩ := hR.set (cur' := putX cur (i * 2) ys) (putX_len (by omega))
    exact ⟨_, _, hr, h _ h1 h2⟩
end
/-! ### Parts of slices of elements of two cells -/
theorem iHX {g o n c k : Nat} {ki : IntKind} {K : Value → Prop} (hk : k ≤ c) (h : K (.slice (some ⟨g, o, none⟩) k c)) : xSl 2 (.slice (some ⟨g, o, none⟩) n c) none (some (.int ki (k : Int))) K := by
  refine ⟨_, _, _, 0, k, rfl, ⟨ki, rfl⟩, rfl, Nat.zero_le _, hk, ?_⟩
  have e : (if c = 0 then some (⟨g, o, none⟩ : Addr) else (some (⟨g, o, none⟩ : Addr)).map (·.add (0 * 2))) = some ⟨g, o, none⟩ := by
    split
    · rfl
    · rw [Option.map_some, addr_add, Nat.zero_mul, Nat.add_zero]
  rw [e, Nat.sub_zero, Nat.sub_zero]
  exact h
/-! ### Rows of a count and a slice -/
section
variable {P : Program} {w : World}
theorem iStFX {lo : Nat} {e : TypeId} {w : World} {v x : Value} {n : Nat} {xs : List Value} {z : Int} {j f : Nat} {k : IntKind} {K : World → Prop} (hs : OwK 2 lo e w v n xs) (hz : z = (j : Int)) (hj : j < n) (hf : f < 2) (hx : isCell x = true)
    (h : ∀ w', OwK 2 lo e w' v n (xs.set (j * 2 + f) x) → Ch (fun c => v.ownBlock = some c) w w' → K w') : xIa 2 v (.int k z) fun p => xFa f p fun q => xSt w q x K := by
  subst hz
  obtain ⟨hl, ⟨-, h0⟩ | ⟨g, cap, cur, hv, hg, hh, h1, h2, h3, h4⟩⟩ := hs
  · omega
  · subst hv
    have hs : w.ownsRow lo e 2 (.slice (some ⟨g, 0, none⟩) n cap) n xs := ⟨hl, .inr ⟨g, cap, cur, rfl, hg, hh, h1, h2, h3, h4⟩⟩
    refine ⟨_, _, _, _, _, rfl, rfl, by omega, by omega, ?_⟩
    rw [Int.toNat_natCast, addr_add]
    refine ⟨_, rfl, ?_⟩
    rw [addr_add, Nat.zero_add]
    have hjf : j * 2 + f < xs.length := by omega
    refine iSt ((hs.cellAt (j * 2 + f) (by omega)).trans (List.getElem?_eq_getElem hjf)) (hs.frozenAt _) hx ?_
    exact h _ (hs.stored (j * 2 + f) x).1 ((Upd.setCell w g _ x).ch rfl)
theorem iTY {k n i : Nat} {ki : IntKind} {w : World} {v : Value} {xs : List Value} {z : Int} {K : Value → Prop} (hs : SlK k w v n xs) (hz : z = (i : Int)) (hi : i ≤ n) (h : ∀ v', SlK k w v' (n - i) (xs.drop (i * k)) → K v') : xSl k v (some (.int ki z)) none K := by
  subst hz
  obtain ⟨h0, a, c, rfl, h2, h3, h4⟩ := hs
  have hle : i * k ≤ n * k := Nat.mul_le_mul_right _ hi
  have hsub : (n - i) * k = n * k - i * k := Nat.sub_mul ..
  refine ⟨_, _, _, i, n, rfl, rfl, ⟨ki, rfl⟩, hi, h2, ?_⟩
  refine h _ ⟨by rw [List.length_drop]; omega, _, _, rfl, by omega, by omega, ?_⟩
  rcases Nat.eq_zero_or_pos (n - i) with hz | hz
  · exact .inl hz
  · rcases h4 with h4 | ⟨b, o, rfl, hc⟩
    · omega
    · refine .inr ⟨b, o + i * k, ?_, fun j hj => ?_⟩
      · rw [if_neg (by omega), Option.map_some, addr_add]
      · rw [Nat.add_assoc, hc _ (by omega), List.getElem?_drop]
end
end Go.Vc

/- Contracts: drawn formulas, and formulas bent out of shape. Conditions: none. -/
namespace Go.Vc
/-- A row of nodes of the call's own; a formula drawn. -/
abbrev RawW (lo : Nat) (e : TypeId) (w : World) (v : Value) (N : List RN) : Prop := OwK 2 lo e w v N.length (cellsN N)
theorem OwK.ne_src {k lo n : Nat} {e e' : TypeId} {w0 w : World} {vc v : Value} {b : Nat} {xs : List Value} (h : OwK k lo e' w v n xs) (hS : Vc.Src e w0 vc b w) (hne : e' ≠ e) : v.ownBlock ≠ some b := by
  intro hc
  obtain ⟨cur, h1⟩ := h.ty hc
  obtain ⟨_, _, _, _, h3, _⟩ := hS
  unfold Blk at h3
  rw [h1] at h3
  injection h3 with h3
  injection h3 with _ he _
  exact hne he
theorem OwK.src {k lo n : Nat} {e e' : TypeId} {w0 w w' : World} {vc v : Value} {b : Nat} {xs : List Value} (h : OwK k lo e' w v n xs) (hS : Vc.Src e w0 vc b w) (hne : e' ≠ e) (hch : Ch (fun c => c = b) w w') : OwK k lo e' w' v n xs :=
  h.ch hch fun c hc hb => h.ne_src hS hne (by rw [hc, hb])
def preF (y : Nat) (a : Fm) : Fm := if y = 0 then .box a else .dia a
theorem preF_cells {y : Nat} (hy : y < 2) (a : Fm) : (preF y a).cells = nd (5 + y) 0 ++ a.cells := by
  have : y = 0 ∨ y = 1 := by omega
  rcases this with rfl | rfl <;> rfl
theorem preF_size (y : Nat) (a : Fm) : (preF y a).size = 1 + a.size := by unfold preF; split <;> rfl
theorem preF_good (y : Nat) {a : Fm} (h : a.good) : (preF y a).good := by unfold preF; split <;> exact h
def binF (z : Nat) (a b : Fm) : Fm := if z = 0 then .and a b else if z = 1 then .or a b else .imp a b
theorem binF_cells {z : Nat} (hz : z < 3) (a b : Fm) : (binF z a b).cells = nd (2 + z) 0 ++ a.cells ++ b.cells := by
  have : z = 0 ∨ z = 1 ∨ z = 2 := by omega
  rcases this with rfl | rfl | rfl <;> rfl
theorem binF_size (z : Nat) (a b : Fm) : (binF z a b).size = 1 + a.size + b.size := by unfold binF; split; rfl; split <;> rfl
theorem binF_good (z : Nat) {a b : Fm} (h : a.good) (k : b.good) : (binF z a b).good := by unfold binF; split; exact ⟨h, k⟩; split <;> exact ⟨h, k⟩
theorem cellsN_set0 (N : List RN) (k : Nat) (hk : k < N.length) (x : Int) : (cellsN N).set (k * 2 + 0) (.int .i64 x) = cellsN (N.set k (x, N[k].2)) := by
  induction N generalizing k with
  | nil => simp at hk
  | cons q N ih =>
    cases k with
    | zero => rfl
    | succ k =>
      have ih := ih k (by simpa using hk)
      show (Value.int .i64 q.1 :: Value.int .i64 q.2 :: cellsN N).set ((k + 1) * 2 + 0) _ = Value.int .i64 q.1 :: Value.int .i64 q.2 :: cellsN (N.set k _)
      rw [Nat.add_zero] at ih
      rw [show (k + 1) * 2 + 0 = k * 2 + 1 + 1 by omega, List.set_cons_succ, List.set_cons_succ, ih]
      rfl
theorem cellsN_set1 (N : List RN) (k : Nat) (hk : k < N.length) (x : Int) : (cellsN N).set (k * 2 + 1) (.int .i64 x) = cellsN (N.set k (N[k].1, x)) := by
  induction N generalizing k with
  | nil => simp at hk
  | cons q N ih =>
    cases k with
    | zero => rfl
    | succ k =>
      have ih := ih k (by simpa using hk)
      show (Value.int .i64 q.1 :: Value.int .i64 q.2 :: cellsN N).set ((k + 1) * 2 + 1) _ = Value.int .i64 q.1 :: Value.int .i64 q.2 :: cellsN (N.set k _)
      rw [show (k + 1) * 2 + 1 = (k * 2 + 1) + 1 + 1 by omega, List.set_cons_succ, List.set_cons_succ, ih]
      rfl
theorem cellsN_take (N : List RN) (k : Nat) : (cellsN N).take (k * 2) = cellsN (N.take k) := by
  induction N generalizing k with
  | nil => simp [cellsN]
  | cons q N ih =>
    cases k with
    | zero => simp [cellsN]
    | succ k =>
      rw [cellsN_cons, List.take_succ_cons, cellsN_cons, ← ih k, show (k + 1) * 2 = (rcell q).length + k * 2 by show _ = 2 + k * 2; omega, List.take_length_add_append]
theorem cellsN_drop (N : List RN) (k : Nat) : (cellsN N).drop (k * 2) = cellsN (N.drop k) := by
  induction N generalizing k with
  | nil => simp [cellsN]
  | cons q N ih =>
    cases k with
    | zero => simp
    | succ k =>
      rw [cellsN_cons, List.drop_succ_cons, ← ih k, show (k + 1) * 2 = (rcell q).length + k * 2 by show _ = 2 + k * 2; omega, List.drop_length_add_append]
theorem cellsN_cell (N : List RN) : ∀ u ∈ cellsN N, isCell u = true := fun u hu => by
  obtain ⟨q, _, hq⟩ := List.mem_flatMap.1 hu
  simp only [rcell, List.mem_cons, List.not_mem_nil, or_false] at hq
  rcases hq with rfl | rfl <;> rfl
theorem iBs5D {w : World} {e : TypeId} {a b c d f : Int} {K : Value → World → Prop} (h : ∀ bb w', bb = w.heap.size ∧ w'.heap.size = bb + 1 → Ext w w' → Blk e w' bb (ints [a, b, c, d, f]) → K (.slice (some ⟨bb, 0, none⟩) 5 5) w') :
    xBs e (Value.cells (.int .i64 0)) 1 5 [(0, .int .i64 a), (1, .int .i64 b), (2, .int .i64 c), (3, .int .i64 d), (4, .int .i64 f)] w K := by
  refine ⟨#[.int .i64 a, .int .i64 b, .int .i64 c, .int .i64 d, .int .i64 f], ?_, h _ _ ⟨rfl, by simp⟩ (Ext.alloc w _) (Blk.new w #[.int .i64 a, .int .i64 b, .int .i64 c, .int .i64 d, .int .i64 f] e)⟩
  simp [Instr.fill, Value.cells, show Array.range 5 = #[0, 1, 2, 3, 4] from rfl]
end Go.Vc
namespace Go.Proofs.YtikfhibcdhdglaaGreat
open Go.Vc
theorem ok_spec_l02Draw {e : TypeId} (hneN : t_impl_Node ≠ e) {w0 : World} {vc : Value} {bs : List Nat} (hc : SlB w0 vc bs) {b k : Nat} (hk : 1 ≤ k ∧ k ≤ 6) (m : Bool) : ∀ (n : Nat) {w : World}, Vc.Src e w0 vc b w → 1 ≤ n → n ≤ 1000 →
    Drw Tryz.prog f_spec_l02Draw #[.pointer (some ⟨b, 0, none⟩), .int .i64 (n : Int), .int .i64 (k : Int), .bool m] e w0 vc b w fun r w' => ∃ f : Fm, f.good ∧ f.size ≤ n ∧ FmW w.heap.size w' r f := by
  intro n
  induction n using Nat.strongRecOn with
  | _ n ih =>
  intro w hS hn1 hn2
  apply c_spec_l02Draw; unfold S_spec_l02Draw
  refine iJnX (fun xs w' => (∃ t, xs = [.bool t] ∧ (t = false → 3 ≤ n)) ∧ Vc.Src e w0 vc b w' ∧ Ch (fun c => c = b) w w') (fun J hJ => ?_) ?_
  · refine iLe (iCndP (fun h => ?_) (fun h => ?_))
    · exact hJ _ _ ⟨⟨true, rfl, fun h => by cases h⟩, hS, (Ext.refl w).ch⟩
    · refine iCall ((ok_spec_l01Next hc hS 9).mono ?_)
      rintro _ w3 ⟨⟨x, rfl, _, _⟩, hS3, hch3⟩
      refine iEq ?_
      exact hJ _ _ ⟨⟨_, rfl, fun _ => by omega⟩, hS3, hch3⟩
  rintro _ w2 ⟨⟨t, rfl, ht⟩, hS2, hC2⟩
  intro _
  cases t with
  | true =>
    refine iCndT rfl ?_
    refine iCall ((ok_spec_l01Next hc hS2 8).mono ?_)
    rintro _ w4 ⟨⟨x, rfl, _, _⟩, hS4, hch4⟩
    have hC4 := ch_self hC2 hch4
    refine iEq (iCndP (fun _ => ?_) (fun _ => ?_))
    · refine iCall ((ok_spec_l02False w4).mono ?_)
      rintro u w5 ⟨x5, h5⟩
      exact ⟨⟨.fls, trivial, hn1, OwK.mono h5 hC4.size⟩, hS4.later x5, ch_ext hC4 x5⟩
    · refine iCall ((ok_spec_l01Next hc hS4 k).mono ?_)
      rintro _ w6 ⟨⟨y, rfl, hy, _⟩, hS6, hch6⟩
      have hy := hy (by omega)
      refine iCall ((ok_spec_l02Var y w6).mono ?_)
      rintro u w7 ⟨x7, h7⟩
      have hC6 := ch_self hC4 hch6
      exact ⟨⟨.var y, show y < 6 by omega, hn1, OwK.mono h7 hC6.size⟩, hS6.later x7, ch_ext hC6 x7⟩
  | false =>
    refine iCndF rfl ?_
    have h3 := ht rfl
    refine iJnX (fun xs w' => (∃ t, xs = [.bool t]) ∧ Vc.Src e w0 vc b w' ∧ Ch (fun c => c = b) w w') (fun J hJ => ?_) ?_
    · cases m with
      | true =>
        refine iCndT rfl ?_
        refine iCall ((ok_spec_l01Next hc hS2 3).mono ?_)
        rintro _ w10 ⟨⟨x, rfl, _, _⟩, hS10, hch10⟩
        refine iEq ?_
        exact hJ _ _ ⟨⟨_, rfl⟩, hS10, ch_self hC2 hch10⟩
      | false => exact iCndF rfl (hJ _ _ ⟨⟨_, rfl⟩, hS2, hC2⟩)
    rintro _ w9 ⟨⟨t, rfl⟩, hS9, hC9⟩
    intro _
    cases t with
    | true =>
      refine iCndT rfl ?_
      refine iCall ((ok_spec_l01Next hc hS9 2).mono ?_)
      rintro _ w11 ⟨⟨y, rfl, hy, _⟩, hS11, hch11⟩
      have hy := hy (by omega)
      have hC11 := ch_self hC9 hch11
      refine iAdd (by omega) (iSub (by omega) ?_)
      rw [show (5 : Int) + (y : Int) = ((5 + y : Nat) : Int) by omega, show (n : Int) - 1 = ((n - 1 : Nat) : Int) by omega]
      refine iCall ((ih (n - 1) (by omega) hS11 (by omega) (by omega)).mono ?_)
      rintro u w12 ⟨⟨a, ga, sa, ha⟩, hS12, hch12⟩
      have hC12 := ch_self hC11 hch12
      refine iCall ((ok_spec_l02Pre (c := preF y a) (preF_cells (by omega) a) (preF_size y a) ha.sl (by rw [preF_size]; omega)).mono ?_)
      rintro r w13 ⟨x13, hr⟩
      exact ⟨⟨preF y a, preF_good y ga, by rw [preF_size]; omega, OwK.mono hr hC12.size⟩, hS12.later x13, ch_ext hC12 x13⟩
    | false =>
      refine iCndF rfl ?_
      refine iCall ((ok_spec_l01Next hc hS9 6).mono ?_)
      rintro _ w14 ⟨⟨y, rfl, _, _⟩, hS14, hch14⟩
      have hC14 := ch_self hC9 hch14
      refine iEq (iCndP (fun _ => ?_) (fun _ => ?_))
      · refine iSub (by omega) ?_
        rw [show (n : Int) - 2 = ((n - 2 : Nat) : Int) by omega]
        refine iCall ((ih (n - 2) (by omega) hS14 (by omega) (by omega)).mono ?_)
        rintro u w15 ⟨⟨a, ga, sa, ha⟩, hS15, hch15⟩
        have hC15 := ch_self hC14 hch15
        refine iCall ((ok_spec_l02Not ha.sl (by omega)).mono ?_)
        rintro r w16 ⟨x16, hr⟩
        exact ⟨⟨.imp a .fls, ⟨ga, trivial⟩, by show 1 + a.size + 1 ≤ n; omega, OwK.mono hr hC15.size⟩, hS15.later x16, ch_ext hC15 x16⟩
      · refine iSub (by omega) ?_
        refine iCall ((ok_spec_l01Next hc hS14 _).mono ?_)
        rintro _ w17 ⟨⟨z, rfl, hz, _⟩, hS17, hch17⟩
        have hz := hz (by omega)
        have hC17 := ch_self hC14 hch17
        refine iAdd (by omega) ?_
        rw [show (1 : Int) + (z : Int) = ((1 + z : Nat) : Int) by omega]
        refine iCall ((ih (1 + z) (by omega) hS17 (by omega) (by omega)).mono ?_)
        rintro u w18 ⟨⟨a, ga, sa, ha⟩, hS18, hch18⟩
        have hC18 := ch_self hC17 hch18
        refine iCall ((ok_spec_l01Next hc hS18 3).mono ?_)
        rintro _ w19 ⟨⟨q, rfl, hq, _⟩, hS19, hch19⟩
        have hq := hq (by omega)
        have hC19 := ch_self hC18 hch19
        have ha19 := OwK.src ha hS18 hneN hch19
        refine iAdd (by omega) (iSub (by omega) (iSub (by omega) ?_))
        rw [show (2 : Int) + (q : Int) = ((2 + q : Nat) : Int) by omega, show (n : Int) - 1 - ((1 + z : Nat) : Int) = ((n - 1 - (1 + z) : Nat) : Int) by omega]
        refine iCall ((ih (n - 1 - (1 + z)) (by omega) hS19 (by omega) (by omega)).mono ?_)
        rintro u2 w20 ⟨⟨a2, ga2, sa2, ha2⟩, hS20, hch20⟩
        have hC20 := ch_self hC19 hch20
        have ha20 := OwK.src ha19 hS19 hneN hch20
        refine iCall ((ok_spec_l02Pair (c := binF q a a2) (binF_cells (by omega) a a2) (binF_size q a a2) ha20.sl ha2.sl (by rw [binF_size]; omega)).mono ?_)
        rintro r w21 ⟨x21, hr⟩
        exact ⟨⟨binF q a a2, binF_good q ga ga2, by rw [binF_size]; omega, OwK.mono hr hC20.size⟩, hS20.later x21, ch_ext hC20 x21⟩
theorem ok_spec_l02OwnD {va : Value} {w : World} {N : List RN} (ha : RawS w va N) (hsz : N.length ≤ 1000000) : Cal Tryz.prog f_spec_l02Own #[va] w fun r w' => Ext w w' ∧ RawW w.heap.size t_impl_Node w' r N := by
  apply c_spec_l02Own; unfold S_spec_l02Own
  refine iBsA0 fun u w1 _ x1 ho => ?_
  refine iAppK u_Simpl_Node i_Simpl_Node rfl (by omega) ho (SlK.ext ha x1) (cellsN_cell N) (by omega) (by omega) x1.size fun v2 w2 ho2 hg2 _ => ?_
  refine ⟨x1.grown hg2 fun c hc => (ho.blk c hc).1, ?_⟩
  show OwK 2 _ _ w2 v2 _ _
  rw [Nat.zero_add, List.nil_append] at ho2
  exact ho2
theorem ok_spec_l02Bend {e : TypeId} (hneN : t_impl_Node ≠ e) {w0 : World} {vc : Value} {bs : List Nat} (hc : SlB w0 vc bs) {b : Nat} {w : World} (hS : Vc.Src e w0 vc b w) {va : Value} {N : List RN} (ha : RawS w va N) (hN : 1 ≤ N.length ∧ N.length ≤ 1000) :
    Drw Tryz.prog f_spec_l02Bend #[.pointer (some ⟨b, 0, none⟩), va] e w0 vc b w fun r w' => ∃ M : List RN, M.length ≤ N.length + 1 ∧ RawW w.heap.size t_impl_Node w' r M := by
  apply c_spec_l02Bend; unfold S_spec_l02Bend
  have hlow := hS.ext.size
  refine iCall ((ok_spec_l02OwnD ha (by omega)).mono ?_)
  rintro v w1 ⟨x1, ho1⟩
  have hS1 := hS.later x1
  have hC1 : Ch (fun c => c = b) w w1 := x1.ch (S := fun c => c = b)
  refine iLenK ho1.sl ?_
  refine iCall ((ok_spec_l01Next hc hS1 _).mono ?_)
  rintro _ w2 ⟨⟨k, rfl, hk, _⟩, hS2, hch2⟩
  have hk := hk (by omega)
  have hkN : k < N.length := by omega
  have ho2 := OwK.src ho1 hS1 hneN hch2
  have hC2 := ch_self hC1 hch2
  refine iCall ((ok_spec_l01Next hc hS2 5).mono ?_)
  rintro _ w3 ⟨⟨x, rfl, _, _⟩, hS3, hch3⟩
  have ho3 := OwK.src ho2 hS2 hneN hch3
  have hC3 := ch_self hC2 hch3
  have turn : ∀ {w' w'' : World} {xs : List Value}, OwK 2 w.heap.size t_impl_Node w' v N.length xs → Vc.Src e w0 vc b w' → Ch (fun c => c = b) w w' → Ch (fun c => v.ownBlock = some c) w' w'' → Vc.Src e w0 vc b w'' ∧ Ch (fun c => c = b) w w'' := fun ho gS gC k =>
    ⟨gS.ch k (fun h => ho.ne_src gS hneN h) fun c hc => by have := (ho.blk c hc).1; omega, gC.trans k fun c hc => .inr (ho.blk c hc).1⟩
  refine iEq (iCndP (fun _ => ?_) (fun _ => ?_))
  · refine iCall ((ok_spec_l01Next hc hS3 9).mono ?_)
    rintro _ w4 ⟨⟨y, rfl, hy, _⟩, hS4, hch4⟩
    have hy := hy (by omega)
    have ho4 := OwK.src ho3 hS3 hneN hch4
    have hC4 := ch_self hC3 hch4
    refine iSub (by omega) ?_
    refine iStFX (f := 0) ho4 rfl hkN (by decide) rfl fun w5 ho5 hch5 => ?_
    rw [cellsN_set0 N k hkN] at ho5
    obtain ⟨gS, gC⟩ := turn ho4 hS4 hC4 hch5
    exact ⟨⟨N.set k (_, N[k].2), by rw [List.length_set]; omega, by show OwK 2 _ _ _ _ (N.set k _).length _; rw [List.length_set]; exact ho5⟩, gS, gC⟩
  refine iEq (iCndP (fun _ => ?_) (fun _ => ?_))
  · refine iBs5D fun q w6 hq x6 hB => ?_
    have hS6 := hS3.later x6
    refine iCall ((ok_spec_l01Pick hc hS6 (l := [-1, 0, 1, 5, 6]) rfl hB (by have := hS3.lt; omega) (by decide) (by decide)).mono ?_)
    rintro _ w7 ⟨⟨y, rfl, _⟩, hS7, hch7⟩
    have ho7 := OwK.src (ho3.ext x6) hS6 hneN hch7
    have hC7 := ch_self (ch_ext hC3 x6) hch7
    refine iStFX (f := 1) ho7 rfl hkN (by decide) rfl fun w8 ho8 hch8 => ?_
    rw [cellsN_set1 N k hkN] at ho8
    obtain ⟨gS, gC⟩ := turn ho7 hS7 hC7 hch8
    exact ⟨⟨N.set k (N[k].1, _), by rw [List.length_set]; omega, by show OwK 2 _ _ _ _ (N.set k _).length _; rw [List.length_set]; exact ho8⟩, gS, gC⟩
  refine iEq (iCndP (fun _ => ?_) (fun _ => ?_))
  · refine iCall ((ok_spec_l01Next hc hS3 7).mono ?_)
    rintro _ w9 ⟨⟨y, rfl, _, _⟩, hS9, hch9⟩
    have ho9 := OwK.src ho3 hS3 hneN hch9
    have hC9 := ch_self hC3 hch9
    refine iBuild1 rfl ?_
    refine iBsA fun q w10 hq x10 hB => ?_
    have ho10 := ho9.ext x10
    have hC10 := ch_ext hC9 x10
    refine iAppK u_Simpl_Node i_Simpl_Node rfl (by omega) ho10 (node_one hq hB).sl (fun u hu => ?_) (by omega) (by omega) hC10.size fun v11 w11 ho11 hg11 _ => ?_
    · simp only [List.mem_cons, List.not_mem_nil, or_false] at hu
      rcases hu with rfl | rfl <;> rfl
    obtain ⟨gS, gC⟩ := turn ho10 (hS9.later x10) hC10 (grown_ch (S := fun c => v.ownBlock = some c) hg11 fun c hc => hc)
    refine ⟨⟨N ++ [((y : Int), 0)], by simp, ?_⟩, gS, gC⟩
    show OwK 2 _ _ _ _ (N ++ [_]).length _
    rw [List.length_append, cellsN_app]
    exact ho11
  have hpos : 0 < N.length := by omega
  refine iEq (iCndP (fun _ => ?_) (fun _ => ?_))
  · obtain ⟨g, cap, cur, rfl, hg, hcap, hR, hcur⟩ := ho3.rx hpos
    refine iHX (by omega) ?_
    refine ⟨⟨N.take k, by rw [List.length_take]; omega, ?_⟩, hS3, hC3⟩
    have hlt : (N.take k).length = k := by rw [List.length_take]; omega
    show OwK 2 _ _ _ _ (N.take k).length _
    rw [hlt]
    refine hR.own hg (by omega) ?_
    rw [← cellsN_take, ← hcur, List.take_take, Nat.min_eq_left (by omega)]
  refine iEq (iCndP (fun _ => ?_) (fun _ => ?_))
  · obtain ⟨g, cap, cur, rfl, hg, hcap, hR, hcur⟩ := ho3.rx hpos
    refine iHX (by omega) ?_
    refine iAdd (by omega) ?_
    have hsl := ho3.sl
    refine iTY (i := k + 1) hsl (by omega) (by omega) fun v' hv' => ?_
    rw [cellsN_drop] at hv'
    intro w12 x12
    refine iAppRx (i := k) (m := N.length - (k + 1)) u_Simpl_Node i_Simpl_Node (hR.ext x12) (hv'.ext x12) (cellsN_cell _) (by omega) fun w13 hR13 hch13 => ?_
    intro w14 x14
    have hR14 := hR13.ext x14
    have ho12 := ho3.ext x12
    obtain ⟨gS, gC⟩ := turn ho12 (hS3.later x12) (ch_ext hC3 x12) (w'' := w13) (hch13.mono fun c hc => by rw [hc]; rfl)
    have hld : (N.drop (k + 1)).length = N.length - (k + 1) := List.length_drop
    have hlt : (N.take k ++ N.drop (k + 1)).length = k + (N.length - (k + 1)) := by rw [List.length_append, List.length_take, hld]; omega
    refine ⟨⟨N.take k ++ N.drop (k + 1), by rw [hlt]; omega, ?_⟩, gS.later x14, ch_ext gC x14⟩
    show OwK 2 _ _ _ _ (N.take k ++ N.drop (k + 1)).length _
    rw [hlt]
    refine hR14.own hg (by omega) ?_
    have hcl := hR.2.1
    have hdl : (cellsN (N.drop (k + 1))).length = (N.length - (k + 1)) * 2 := by rw [cellsN_len, hld]
    rw [putX_take (by rw [hdl]; omega) (by rw [hdl]; omega), cellsN_app, ← cellsN_take, ← hcur, List.take_take, Nat.min_eq_left (by omega)]
  · exact ⟨⟨N, by omega, ho3⟩, hS3, hC3⟩
end Go.Proofs.YtikfhibcdhdglaaGreat

/- Contracts: any drawn formulas; small ones; damaged texts. Conditions: none. -/
namespace Go.Proofs.YtikfhibcdhdglaaGreat
open Go.Vc
theorem FmW.raw {lo : Nat} {w : World} {v : Value} {f : Fm} (h : FmW lo w v f) : RawW lo t_impl_Node w v (rawF f) := by
  show OwK 2 _ _ _ _ (rawF f).length (cellsN (rawF f))
  rw [rawF_len, cellsN_raw]; exact h
theorem ok_spec_l02Any {e : TypeId} (hneN : t_impl_Node ≠ e) {w0 : World} {vc : Value} {bs : List Nat} (hc : SlB w0 vc bs) {b k : Nat} (hk : 1 ≤ k ∧ k ≤ 6) (m : Bool) {n : Nat} (hn : 1 ≤ n ∧ n ≤ 100) {w : World} (hS : Vc.Src e w0 vc b w) :
    Drw Tryz.prog f_spec_l02Any #[.pointer (some ⟨b, 0, none⟩), .int .i64 (n : Int), .int .i64 (k : Int), .bool m] e w0 vc b w fun r w' => ∃ N : List RN, N.length ≤ 200 ∧ RawW w.heap.size t_impl_Node w' r N := by
  apply c_spec_l02Any; unfold S_spec_l02Any
  refine iCall ((ok_spec_l02Draw hneN hc hk m n hS hn.1 (by omega)).mono ?_)
  rintro v w1 ⟨⟨f, gf, sf, hf⟩, hS1, hch1⟩
  refine iCall ((ok_spec_l01Next hc hS1 40).mono ?_)
  rintro _ w2 ⟨⟨x, rfl, _, _⟩, hS2, hch2⟩
  have hf2 := OwK.src hf hS1 hneN hch2
  have hC2 := ch_self hch1 hch2
  refine iEq (iCndP (fun _ => ?_) (fun _ => ?_))
  · have hr := FmW.raw hf2
    have hpos : 1 ≤ f.size := by have := f.size_kids; omega
    refine iCall ((ok_spec_l02Bend hneN hc hS2 hr.sl ⟨by rw [rawF_len]; exact hpos, by rw [rawF_len]; omega⟩).mono ?_)
    rintro u w3 ⟨⟨M, hM, hu⟩, hS3, hch3⟩
    rw [rawF_len] at hM
    exact ⟨⟨M, by omega, OwK.mono hu hC2.size⟩, hS3, ch_self hC2 hch3⟩
  refine iEq (iCndP (fun _ => ?_) (fun _ => ?_))
  · refine iLp (fun s : Value × Nat => [s.1]) (fun s w' => Vc.Src e w0 vc b w' ∧ Ch (fun c => c = b) w w' ∧ s.2 ≤ 200 ∧ ∃ f : Fm, f.good ∧ f.size = s.2 ∧ FmW w.heap.size w' s.1 f) (fun s => 200 - s.2) (v, f.size) rfl ⟨hS2, hC2, by show f.size ≤ 200; omega, f, gf, rfl, hf2⟩ ?_
    rintro ⟨u, z⟩ w5 Kn ⟨hS5, hC5, hz, a, ga, sa, ha⟩ hKn
    have sa : a.size = z := sa
    have hz : z ≤ 200 := hz
    have ha : FmW w.heap.size w5 u a := ha
    intro _
    refine iJnX (fun xs w' => (∃ t, xs = [.bool t] ∧ (t = true → z ≤ 40)) ∧ Vc.Src e w0 vc b w' ∧ Ch (fun c => c = b) w w' ∧ FmW w.heap.size w' u a) (fun J hJ => ?_) ?_
    · refine iLenK ha.sl ?_
      refine iLe (iCndP (fun h => ?_) (fun h => ?_))
      · refine iCall ((ok_spec_l01Next hc hS5 60).mono ?_)
        rintro _ w8 ⟨⟨y, rfl, _, _⟩, hS8, hch8⟩
        refine iLt ?_
        exact hJ _ _ ⟨⟨_, rfl, fun _ => by omega⟩, hS8, ch_self hC5 hch8, OwK.src ha hS5 hneN hch8⟩
      · exact hJ _ _ ⟨⟨false, rfl, fun h => by cases h⟩, hS5, hC5, ha⟩
    rintro _ w7 ⟨⟨t, rfl, ht⟩, hS7, hC7, ha7⟩
    intro _
    cases t with
    | false => exact iCndF rfl ⟨⟨rawF a, by rw [rawF_len]; omega, FmW.raw ha7⟩, hS7, hC7⟩
    | true =>
      have ht := ht rfl
      refine iCndT rfl ?_
      refine iCall ((ok_spec_l01Next hc hS7 3).mono ?_)
      rintro _ w9 ⟨⟨q, rfl, hq, _⟩, hS9, hch9⟩
      have hq := hq (by omega)
      have hC9 := ch_self hC7 hch9
      have ha9 := OwK.src ha7 hS7 hneN hch9
      refine iAdd (by omega) ?_
      rw [show (2 : Int) + (q : Int) = ((2 + q : Nat) : Int) by omega]
      refine iCall ((ok_spec_l02Draw hneN hc hk m 6 hS9 (by omega) (by omega)).mono ?_)
      rintro u2 w10 ⟨⟨a2, ga2, sa2, ha2⟩, hS10, hch10⟩
      have hC10 := ch_self hC9 hch10
      have ha10 := OwK.src ha9 hS9 hneN hch10
      refine iCall ((ok_spec_l02Pair (c := binF q a a2) (binF_cells (by omega) a a2) (binF_size q a a2) ha10.sl ha2.sl (by rw [binF_size]; omega)).mono ?_)
      rintro r w11 ⟨x11, hr⟩
      have hsz := binF_size q a a2
      exact hKn (r, (binF q a a2).size) _ ⟨hS10.later x11, ch_ext hC10 x11, by show (binF q a a2).size ≤ 200; omega, binF q a a2, binF_good q ga ga2, rfl, OwK.mono hr hC10.size⟩ (by show 200 - (binF q a a2).size < 200 - z; omega)
  · exact ⟨⟨rawF f, by rw [rawF_len]; omega, FmW.raw hf2⟩, hS2, hC2⟩
theorem ok_spec_l17Plain {e : TypeId} (hneN : t_impl_Node ≠ e) {w0 : World} {vc : Value} {bs : List Nat} (hc : SlB w0 vc bs) {b k : Nat} (hk : 1 ≤ k ∧ k ≤ 6) {n : Nat} (hn : 1 ≤ n ∧ n ≤ 100) {w : World} (hS : Vc.Src e w0 vc b w) :
    Drw Tryz.prog f_spec_l17Plain #[.pointer (some ⟨b, 0, none⟩), .int .i64 (n : Int), .int .i64 (k : Int)] e w0 vc b w fun r w' => ∃ N : List RN, N.length ≤ 200 ∧ RawW w.heap.size t_impl_Node w' r N := by
  apply c_spec_l17Plain; unfold S_spec_l17Plain
  refine iCall ((ok_spec_l01Next hc hS 30).mono ?_)
  rintro _ w1 ⟨⟨x, rfl, _, _⟩, hS1, hch1⟩
  refine iEq ?_
  refine iCall ((ok_spec_l02Any hneN hc hk _ hn hS1).mono ?_)
  rintro u w2 ⟨⟨N, hN, hu⟩, hS2, hch2⟩
  exact ⟨⟨N, hN, OwK.mono hu hch1.size⟩, hS2, ch_self hch1 hch2⟩
end Go.Proofs.YtikfhibcdhdglaaGreat

/- Contracts: the reference's partitions of a poset, which are correct, and the quotient. Conditions: none. -/
namespace Go.Vc
/-- The classes c respect the poset. -/
def corB (f : Fr) (c : List Nat) : Bool := (List.range c.length).all fun x => (List.range c.length).all fun y => !decide (c.getD x 0 = c.getD y 0) || decide (imgP (nats c) (f.a.getD x 0) = imgP (nats c) (f.a.getD y 0))
theorem corB_range (f : Fr) (n : Nat) : corB f (List.range n) = true := by
  unfold corB
  refine List.all_eq_true.2 fun x hx => List.all_eq_true.2 fun y hy => ?_
  rw [List.length_range, List.mem_range] at hx hy
  rw [Bool.or_eq_true]
  by_cases e : x = y
  · subst e; exact .inr (by simp)
  · left
    simp [List.getD_eq_getElem?_getD, hx, hy, e]
/-- The sets above of the quotient, from the first k points. -/
def quoL (f : Fr) (c : List Nat) : Nat → List Nat
  | 0 => []
  | k + 1 => if c.getD k 0 = (quoL f c k).length then quoL f c k ++ [imgP (nats c) (f.a.getD k 0)] else quoL f c k
theorem quoL_len (f : Fr) (c : List Nat) : ∀ k, (quoL f c k).length ≤ k
  | 0 => Nat.le_refl _
  | k + 1 => by
    have := quoL_len f c k
    unfold quoL
    split
    · rw [List.length_append, List.length_singleton]; omega
    · omega
abbrev VC := Value × List Nat
end Go.Vc
namespace Go.Proofs.YtikfhibcdhdglaaGreat
open Go.Vc
/-- A row of rows that may share theirs. -/
structure LLw (lo : Nat) (w : World) (v : Value) (P : List VC) : Prop where
  row : Ow lo t_Si64 w v (P.map Prod.fst)
  each : ∀ p ∈ P, Ow lo t_i64 w p.1 (ints (nats p.2))
theorem LLw.ext {lo : Nat} {w w' : World} {v : Value} {P : List VC} (h : LLw lo w v P) (x : Ext w w') : LLw lo w' v P := ⟨h.row.ext x, fun p hp => (h.each p hp).ext x⟩
theorem LLw.mono {lo lo' : Nat} {w : World} {v : Value} {P : List VC} (h : LLw lo w v P) (hl : lo' ≤ lo) : LLw lo' w v P := ⟨h.row.mono hl, fun p hp => (h.each p hp).mono hl⟩
theorem LLw.at {lo : Nat} {w : World} {v : Value} {P : List VC} (h : LLw lo w v P) {i : Nat} (hi : i < P.length) {k : IntKind} {K : Value → Prop} (hK : K P[i].1) : xIa 1 v (.int k (i : Int)) fun p => xLd w p K :=
  iIaV h.row.sl (by rw [List.length_map]; exact hi) fun p hp => iLd hp (by simpa using hK)
theorem iApLL {lo : Nat} {w : World} {v x : Value} {P : List VC} {c : List Nat} {K : Value → World → Prop} (hlo : lo ≤ w.heap.size) (h : LLw lo w v P) (hx : Ow lo t_i64 w x (ints (nats c))) (hP : P.length ≤ 1099511627776)
    (hK : ∀ v' w', LLw lo w' v' (P ++ [(x, c)]) → Ch (fun b => v.ownBlock = some b) w w' → (v'.ownBlock = v.ownBlock ∨ ∃ b, v'.ownBlock = some b ∧ w.heap.size ≤ b) → K v' w') : xBs t_Si64 (Value.cells (.slice none 0 0)) 1 1 [(0, x)] w fun y w1 => xOp Tryz.prog (Builtin.append_ #[t_SSi64, t_SSi64] t_SSi64 #[v, y]) w1 K := by
  refine iApp1A u_SSi64 i_SSi64 rfl h.row hx.cell (by rw [List.length_map]; omega) (by rw [List.length_map]; omega) hlo fun v' w' ho hg hat => hK v' w' ?_ (grown_ch hg fun b hb => hb) hat
  have key : ∀ {u : Value} {d : List Value}, Ow lo t_i64 w u d → Ow lo t_i64 w' u d := fun {u d} hu => hu.ch (grown_ch (S := fun b => v.ownBlock = some b) hg fun b hb => hb) fun b hb hv => by
    obtain ⟨_, h1⟩ := hu.ty hb
    obtain ⟨_, h2⟩ := h.row.ty hv
    rw [h1] at h2
    injection h2 with h2
    injection h2 with _ h2
    exact absurd h2 (by decide)
  refine ⟨by simpa using ho, fun p hp => ?_⟩
  rcases List.mem_append.1 hp with hp | hp
  · exact key (h.each p hp)
  · rw [List.mem_singleton] at hp
    subst hp
    exact key hx
theorem ok_spec_l21Correct {f : Fr} (hf : f.ok) {v vc : Value} {w : World} (hs : SlN w v f.a) {c : List Nat} (hc : SlN w vc c) (hl : c.length = f.n) (hy : ∀ y ∈ c, y < 62) : Ret Tryz.prog f_spec_l21Correct #[.agg #[.int .i64 (f.n : Int), v], vc] w (.bool (corB f c)) := by
  have h8 := hf.1
  have hal := hf.2.1
  have himg : ∀ {x : Nat}, x < c.length → ∀ {w'}, Ext w w' → Ret Tryz.prog f_spec_l21Images #[.int .i64 ((f.a.getD x 0 : Nat) : Int), vc] w' (.int .i64 ((imgP (nats c) (f.a.getD x 0) : Nat) : Int)) := fun {x} hx {w'} x' =>
    ok_spec_l21Images (hc.ext x') (by rw [nats_length]; omega) (fun y hy' => by
      obtain ⟨z, hz, rfl⟩ := List.mem_map.1 hy'
      have := hy z hz
      show ((z : Nat) : Int) < 62
      omega) _ (by rw [nats_length, hl]; exact hf.lt (by omega))
  apply c_spec_l21Correct; unfold S_spec_l21Correct
  refine iNew fun b w1 hb x1 hB => ?_
  have hB : Blk _ w1 b [.int .i64 (f.n : Int), v] := hB
  let row := fun x => (List.range c.length).all fun y => !decide (c.getD x 0 = c.getD y 0) || decide (imgP (nats c) (f.a.getD x 0) = imgP (nats c) (f.a.getD y 0))
  refine iLp (fun x : Nat => [.int .i64 (x : Int)]) (fun x w' => x ≤ c.length ∧ Ext w1 w' ∧ ∀ i, i < x → row i = true) (fun x => c.length - x) 0 rfl ⟨Nat.zero_le _, Ext.refl _, by omega⟩ ?_
  rintro x w3 Kn ⟨hx, x3, hr⟩ hKn
  intro _
  simp only [gx]
  refine iLenN (hc.ext (x1.trans x3)) ?_
  refine iLt (iCndP (fun h => ?_) (fun h => ?_))
  · have hxl : x < c.length := by omega
    refine iLp (fun y : Nat => [.int .i64 (y : Int)]) (fun y w' => y ≤ c.length ∧ Ext w1 w' ∧ ∀ i, i < y → (!decide (c.getD x 0 = c.getD i 0) || decide (imgP (nats c) (f.a.getD x 0) = imgP (nats c) (f.a.getD i 0))) = true) (fun y => c.length - y) 0 rfl ⟨Nat.zero_le _, x3, by omega⟩ ?_
    rintro y w5 Kn5 ⟨hyl, x5, hr5⟩ hKn5
    have X5 := x1.trans x5
    intro _
    simp only [gx]
    refine iLenN (hc.ext X5) ?_
    refine iLt (iCndP (fun h2 => ?_) (fun h2 => ?_))
    · have hyl' : y < c.length := by omega
      refine iJnB (decide (c.getD x 0 = c.getD y 0) && !decide (imgP (nats c) (f.a.getD x 0) = imgP (nats c) (f.a.getD y 0))) w5 (fun J hJ => ?_) (fun w7 x7 => ?_)
      · refine iIaNN (hc.ext X5) hxl fun p hp => iLd hp ?_
        refine iIaNN (hc.ext X5) hyl' fun p hp => iLd hp ?_
        refine iEq (iCndP (fun he => ?_) (fun he => ?_))
        · have he : c.getD x 0 = c.getD y 0 := by omega
          rw [decide_eq_true he, Bool.true_and] at hJ
          refine iFa (iLdB (hB.ext x5) (v := v) rfl ?_)
          refine iIaNN (hs.ext X5) (by omega) fun p hp => iLd hp ?_
          refine iRetQ (fun w' x' => himg hxl (X5.trans x')) ?_
          refine iFa (iLdB (hB.ext x5) (v := v) rfl ?_)
          refine iIaNN (hs.ext X5) (by omega) fun p hp => iLd hp ?_
          refine iRetQ (fun w' x' => himg hyl' (X5.trans x')) ?_
          refine iNe fun w8 x8 => ?_
          have e : decide (¬ ((imgP (nats c) (f.a.getD x 0) : Nat) : Int) = ((imgP (nats c) (f.a.getD y 0) : Nat) : Int)) = !decide (imgP (nats c) (f.a.getD x 0) = imgP (nats c) (f.a.getD y 0)) := by
            rw [← decide_not]; exact decide_eq_decide.2 (by omega)
          rw [e]
          exact hJ _ x8
        · have he : ¬ c.getD x 0 = c.getD y 0 := by omega
          rw [decide_eq_false he, Bool.false_and] at hJ
          exact fun w9 x9 => hJ _ x9
      · intro _
        simp only [gx]
        cases hb : decide (c.getD x 0 = c.getD y 0) && !decide (imgP (nats c) (f.a.getD x 0) = imgP (nats c) (f.a.getD y 0))
        · refine iCndF rfl (iAdd (by omega) ?_)
          refine hKn5 (y + 1) _ ⟨by omega, x5.trans x7, fun i hi => ?_⟩ (by omega)
          rcases Nat.lt_succ_iff_lt_or_eq.1 hi with hi | rfl
          · exact hr5 i hi
          · revert hb
            cases decide (c.getD x 0 = c.getD i 0) <;> cases decide (imgP (nats c) (f.a.getD x 0) = imgP (nats c) (f.a.getD i 0)) <;> simp
        · refine iCndT rfl ⟨?_, (x1.trans x5).trans x7⟩
          have : corB f c = false := by
            unfold corB
            rw [List.all_eq_false]
            refine ⟨x, List.mem_range.2 hxl, ?_⟩
            rw [Bool.not_eq_true, List.all_eq_false]
            refine ⟨y, List.mem_range.2 hyl', ?_⟩
            revert hb
            cases decide (c.getD x 0 = c.getD y 0) <;> cases decide (imgP (nats c) (f.a.getD x 0) = imgP (nats c) (f.a.getD y 0)) <;> simp
          rw [this]
    · refine iAdd (by omega) ?_
      refine hKn (x + 1) _ ⟨by omega, x5, fun i hi => ?_⟩ (by omega)
      rcases Nat.lt_succ_iff_lt_or_eq.1 hi with hi | rfl
      · exact hr i hi
      · exact List.all_eq_true.2 fun y hy => hr5 y (by have := List.mem_range.1 hy; omega)
  · refine ⟨?_, x1.trans x3⟩
    have : corB f c = true := List.all_eq_true.2 fun x hx' => hr x (by have := List.mem_range.1 hx'; omega)
    rw [this]
theorem ok_spec_l21Quotient {f : Fr} (hf : f.ok) {v vc : Value} {w : World} (hs : SlN w v f.a) {c : List Nat} (hc : SlN w vc c) (hl : c.length = f.n) (hy : ∀ y ∈ c, y < 62) :
    Cal Tryz.prog f_spec_l21Quotient #[.agg #[.int .i64 (f.n : Int), v], vc] w fun r w' => Ext w w' ∧ ∃ v', r = .agg #[.int .i64 ((quoL f c f.n).length : Int), v'] ∧ Ow w.heap.size t_i64 w' v' (ints (nats (quoL f c f.n))) := by
  have h8 := hf.1
  have hal := hf.2.1
  have himg : ∀ {x : Nat}, x < c.length → ∀ {w'}, Ext w w' → Ret Tryz.prog f_spec_l21Images #[.int .i64 ((f.a.getD x 0 : Nat) : Int), vc] w' (.int .i64 ((imgP (nats c) (f.a.getD x 0) : Nat) : Int)) := fun {x} hx {w'} x' =>
    ok_spec_l21Images (hc.ext x') (by rw [nats_length]; omega) (fun y hy' => by
      obtain ⟨z, hz, rfl⟩ := List.mem_map.1 hy'
      have := hy z hz
      show ((z : Nat) : Int) < 62
      omega) _ (by rw [nats_length, hl]; exact hf.lt (by omega))
  apply c_spec_l21Quotient; unfold S_spec_l21Quotient
  refine iNew fun b w1 hb x1 hB => ?_
  have hB : Blk _ w1 b [.int .i64 (f.n : Int), v] := hB
  refine iNew fun b4 w2 hb4 x2 hB4 => ?_
  refine iBs0 fun va w3 hw3 x3 ho => ?_
  have hB := hB.ext x2
  have X2 := x1.trans x2
  refine iLp (fun s : Value × Nat => [s.1, .int .i64 (s.2 : Int)]) (fun s w' => s.2 ≤ c.length ∧ Ext w2 w' ∧ Ow w2.heap.size t_i64 w' s.1 (ints (nats (quoL f c s.2)))) (fun s => c.length - s.2) (va, 0) rfl ⟨Nat.zero_le _, x3, ho⟩ ?_
  rintro ⟨va, k⟩ w5 Kn ⟨hk, x5, ho⟩ hKn
  have hk : k ≤ c.length := hk
  have ho : Ow w2.heap.size t_i64 w5 va (ints (nats (quoL f c k))) := ho
  have x5 : Ext w2 w5 := x5
  have X5 := X2.trans x5
  have hql := quoL_len f c k
  intro _
  simp only [gx]
  refine iLenN (hc.ext X5) ?_
  refine iLt (iCndP (fun h => ?_) (fun h => ?_))
  · have hkl : k < c.length := by omega
    refine iIaNN (hc.ext X5) hkl fun p hp => iLd hp ?_
    refine iLenN ho.sl ?_
    refine iEq (iCndP (fun he => ?_) (fun he => ?_))
    · have he : c.getD k 0 = (quoL f c k).length := by omega
      refine iFa (iLdB (hB.ext x5) (v := v) rfl ?_)
      refine iIaNN (hs.ext X5) (by omega) fun p hp => iLd hp ?_
      refine iRet (himg hkl X5) fun w6 x6 => ?_
      have hs2 := (x5.trans x6).size
      refine iApp1 u_Si64 i_Si64 rfl (ho.ext x6) rfl (by rw [ints_length, nats_length]; omega) (by rw [ints_length, nats_length]; omega) hs2 fun va' w8 ho8 hg8 => ?_
      refine iAdd (by omega) ?_
      refine hKn (va', k + 1) _ ⟨hkl, (x5.trans x6).grown hg8 fun b hb => (ho.blk b hb).1, ?_⟩ (by show c.length - (k + 1) < c.length - k; omega)
      show Ow w2.heap.size t_i64 w8 va' (ints (nats (quoL f c (k + 1))))
      rw [quoL, if_pos he]
      simpa [ints, nats] using ho8
    · have he : ¬ c.getD k 0 = (quoL f c k).length := by omega
      refine iAdd (by omega) ?_
      refine hKn (va, k + 1) _ ⟨hkl, x5, ?_⟩ (by show c.length - (k + 1) < c.length - k; omega)
      show Ow w2.heap.size t_i64 w5 va (ints (nats (quoL f c (k + 1))))
      rw [quoL, if_neg he]
      exact ho
  · obtain rfl : k = f.n := by omega
    refine iCall ((ok_spec_l16Make ho.sl (by omega)).mono ?_)
    rintro r w9 ⟨x9, v', rfl, ho'⟩
    have hsz := X5.size
    have hne : v'.ownBlock ≠ some b4 := fun e => by have h1 := (ho'.blk b4 e).1; have := x5.size; omega
    refine iStAB ((hB4.ext x5).ext x9) rfl rfl (ho'.pair _) fun w10 hu10 hB4' => ?_
    exact iLdA hB4' rfl ⟨(X5.trans x9).upd hu10 (by have := x1.size; omega), v', rfl, (ho'.mono hsz).upd hu10 hne⟩
end Go.Proofs.YtikfhibcdhdglaaGreat

/- Contracts: the reference's list of all partitions of a poset. Conditions: none. -/
namespace Go.Vc
def topC (l : List Nat) : Nat := l.foldl (fun t y => max t (y + 1)) 0
theorem topC_snoc (l : List Nat) (y : Nat) : topC (l ++ [y]) = max (topC l) (y + 1) := by simp [topC]
theorem topC_le {x : Nat} {l : List Nat} (h : ∀ y ∈ l, y < x) : topC l ≤ x := by
  have key : ∀ (l : List Nat) (t : Nat), (∀ y ∈ l, y < x) → t ≤ x → l.foldl (fun t y => max t (y + 1)) t ≤ x := by
    intro l
    induction l with
    | nil => exact fun t _ ht => ht
    | cons a l ih =>
      intro t hl ht
      have := hl a List.mem_cons_self
      exact ih _ (fun y hy => hl y (List.mem_cons_of_mem _ hy)) (by show max t (a + 1) ≤ x; omega)
  exact key l 0 h (Nat.zero_le _)
theorem topC_range : ∀ x : Nat, topC (List.range x) = x
  | 0 => rfl
  | x + 1 => by rw [List.range_succ, topC_snoc, topC_range x]; omega
/-- Lists of classes of the first x points, the finest among them. -/
structure PtL (x : Nat) (P : List VC) : Prop where
  all : ∀ p ∈ P, p.2.length = x ∧ ∀ y ∈ p.2, y < x
  size : P.length ≤ 9 ^ x
  disc : ∃ p ∈ P, p.2 = List.range x
end Go.Vc
namespace Go.Proofs.YtikfhibcdhdglaaGreat
open Go.Vc
theorem ok_spec_l21Partitions {f : Fr} (hf : f.ok) {v : Value} {w : World} (hs : SlN w v f.a) :
    Cal Tryz.prog f_spec_l21Partitions #[.agg #[.int .i64 (f.n : Int), v]] w fun r w' => Ext w w' ∧ ∃ Q, LLw w.heap.size w' r Q ∧ 0 < Q.length ∧ Q.length ≤ 9 ^ 8 ∧ ∀ p ∈ Q, p.2.length = f.n ∧ (∀ y ∈ p.2, y < f.n) ∧ corB f p.2 = true := by
  have h8 := hf.1
  have hpow : ∀ {x : Nat}, x ≤ 8 → 9 ^ x ≤ 43046721 := fun {x} hx => Nat.le_trans (Nat.pow_le_pow_right (by omega) hx) (by decide)
  apply c_spec_l21Partitions; unfold S_spec_l21Partitions
  refine iNew fun b w1 hb x1 hB => ?_
  have hB : Blk _ w1 b [.int .i64 (f.n : Int), v] := hB
  have hs1 := hs.ext x1
  refine iBs0 fun v12 w2 hw2 x2 ho12 => ?_
  refine iBs1 rfl ho12.cell fun b13 w3 hb13 x3 hB13 => ?_
  have hL0 : LLw w1.heap.size w3 (.slice (some ⟨b13, 0, none⟩) 1 1) [(v12, [])] := ⟨Ow.ofBlk hB13 (by omega) rfl (by omega), fun p hp => by
    rw [List.mem_singleton] at hp
    subst hp; exact ho12.ext x3⟩
  refine iLp (fun s : Value × Nat => [s.1, .int .i64 (s.2 : Int)]) (fun s w' => s.2 ≤ f.n ∧ Ext w1 w' ∧ ∃ P, LLw w1.heap.size w' s.1 P ∧ PtL s.2 P) (fun s => f.n - s.2) (.slice (some ⟨b13, 0, none⟩) 1 1, 0) rfl
    ⟨Nat.zero_le _, x2.trans x3, _, hL0, ⟨fun p hp => by
      rw [List.mem_singleton] at hp
      subst hp; exact ⟨rfl, by simp⟩, by simp, _, List.mem_singleton.2 rfl, rfl⟩⟩ ?_
  rintro ⟨vl, x⟩ w5 Kn ⟨hx, x5, P, hP, hPt⟩ hKn
  have hx : x ≤ f.n := hx
  have x5 : Ext w1 w5 := x5
  have hP : LLw w1.heap.size w5 vl P := hP
  have hPt : PtL x P := hPt
  have hs5 := x5.size
  intro _
  simp only [gx]
  refine iFa (iLdB (hB.ext x5) (v := .int .i64 (f.n : Int)) rfl ?_)
  refine iLt (iCndP (fun h => ?_) (fun h => ?_))
  · have hxn : x < f.n := by omega
    have h9 := hpow (x := x) (by omega)
    have hsz := hPt.size
    refine iBs0 fun vn w6 hw6 x6 hon => ?_
    have hN0 : LLw w5.heap.size w6 vn [] := ⟨hon, fun p hp => absurd hp (by simp)⟩
    refine iLp (fun s : Value × Nat => [s.1, .int .i64 (s.2 : Int)]) (fun s w' => s.2 ≤ P.length ∧ Ext w5 w' ∧ ∃ Q, LLw w5.heap.size w' s.1 Q ∧ (∀ p ∈ Q, p.2.length = x + 1 ∧ ∀ y ∈ p.2, y < x + 1) ∧ Q.length ≤ 9 * s.2 ∧ ((∃ p ∈ P.take s.2, p.2 = List.range x) → ∃ p ∈ Q, p.2 = List.range (x + 1))) (fun s => P.length - s.2) (vn, 0) rfl
      ⟨Nat.zero_le _, x6, [], hN0, by simp, by simp, by simp⟩ ?_
    rintro ⟨vn, i⟩ w8 Kn8 ⟨hi, x8, Q, hQ, hQa, hQs, hQd⟩ hKn8
    have hi : i ≤ P.length := hi
    have x8 : Ext w5 w8 := x8
    have hQ : LLw w5.heap.size w8 vn Q := hQ
    have hQs : Q.length ≤ 9 * i := hQs
    have hQd : (∃ p ∈ P.take i, p.2 = List.range x) → ∃ p ∈ Q, p.2 = List.range (x + 1) := hQd
    intro _
    simp only [gx]
    have hP8 := hP.ext x8
    refine iLenS hP8.row.sl ?_
    rw [List.length_map]
    refine iLt (iCndP (fun h2 => ?_) (fun h2 => ?_))
    · have hiP : i < P.length := by omega
      obtain ⟨hrl, hry⟩ := hPt.all _ (List.getElem_mem hiP)
      have hrow8 : SlN w8 P[i].1 P[i].2 := (hP8.each _ (List.getElem_mem hiP)).sl
      refine iLp (fun k : Nat => [.int .i64 ((topC (P[i].2.take k) : Nat) : Int), .int .i64 (k : Int)]) (fun k w' => k ≤ x ∧ Ext w8 w') (fun k => x - k) 0 rfl ⟨Nat.zero_le _, Ext.refl _⟩ ?_
      rintro k w10 Kn10 ⟨hk, x10⟩ hKn10
      have hP10 := hP8.ext x10
      have hrow10 := hrow8.ext x10
      intro _
      simp only [gx]
      refine hP10.at hiP (iLenN hrow10 ?_)
      refine iLt (iCndP (fun h3 => ?_) (fun h3 => ?_))
      · have hkl : k < P[i].2.length := by omega
        refine hP10.at hiP (iIaNN hrow10 hkl fun p hp => iLd hp ?_)
        have hyk := hry _ (List.getElem_mem hkl)
        have hg : P[i].2.getD k 0 = P[i].2[k] := by simp [hkl]
        rw [hg]
        refine iAdd (by omega) ?_
        rw [show ((P[i].2[k] : Nat) : Int) + 1 = ((P[i].2[k] + 1 : Nat) : Int) by omega]
        refine iMaxN (iAdd (by omega) ?_)
        rw [← topC_snoc, ← List.take_succ_eq_append_getElem hkl]
        exact hKn10 (k + 1) _ ⟨by omega, x10⟩ (by omega)
      · obtain rfl : k = x := by omega
        rw [List.take_of_length_le (by omega)]
        have htop := topC_le hry
        refine iLp (fun s : Value × Nat => [s.1, .int .i64 (s.2 : Int)]) (fun s w' => s.2 ≤ topC P[i].2 + 1 ∧ Ext w5 w' ∧ ∃ R, LLw w5.heap.size w' s.1 R ∧ (∀ p ∈ R, p.2.length = k + 1 ∧ ∀ y ∈ p.2, y < k + 1) ∧ R.length ≤ 9 * i + s.2 ∧ ((∃ p ∈ P.take i, p.2 = List.range k) → ∃ p ∈ R, p.2 = List.range (k + 1)) ∧ ∀ u, u < s.2 → ∃ p ∈ R, p.2 = P[i].2 ++ [u]) (fun s => topC P[i].2 + 1 - s.2) (vn, 0) rfl
          ⟨Nat.zero_le _, x8.trans x10, Q, hQ.ext x10, hQa, by simpa using hQs, hQd, by simp⟩ ?_
        rintro ⟨vn, u⟩ w12 Kn12 ⟨hu, x12, R, hR, hRa, hRs, hRd, hRu⟩ hKn12
        have hu : u ≤ topC P[i].2 + 1 := hu
        have x12 : Ext w5 w12 := x12
        have hR : LLw w5.heap.size w12 vn R := hR
        have hRs : R.length ≤ 9 * i + u := hRs
        have hRu : ∀ u', u' < u → ∃ p ∈ R, p.2 = P[i].2 ++ [u'] := hRu
        intro _
        simp only [gx]
        refine iLe (iCndP (fun h4 => ?_) (fun h4 => ?_))
        · have hut : u ≤ topC P[i].2 := by omega
          have hP12 := hP.ext x12
          refine hP12.at hiP ?_
          have hrow12 : SlN w12 P[i].1 P[i].2 := (hP12.each _ (List.getElem_mem hiP)).sl
          refine iCall ((ok_spec_l01Own (l := nats P[i].2) hrow12 (by rw [nats_length]; omega)).mono ?_)
          rintro v56 w13 ⟨x13, ho56⟩
          refine iApp1 u_Si64 i_Si64 rfl ho56 rfl (by rw [ints_length, nats_length]; omega) (by rw [ints_length, nats_length]; omega) x13.size fun v59 w15 ho59 hg15 => ?_
          have x15 : Ext w12 w15 := x13.grown hg15 fun b hb => (ho56.blk b hb).1
          have ho59 : Ow w12.heap.size t_i64 w15 v59 (ints (nats (P[i].2 ++ [u]))) := by simpa [ints, nats] using ho59
          have hs12 := x12.size
          have hs15 := x15.size
          refine iApLL (by omega) (hR.ext x15) (ho59.mono hs12) (by omega) fun vn' w17 hR17 hch17 _ => ?_
          refine iAdd (by omega) ?_
          refine hKn12 (vn', u + 1) _ ⟨by show u + 1 ≤ topC P[i].2 + 1; omega, (x12.trans x15).thenCh hch17 fun b hb => (hR.row.blk b hb).1, _, hR17, fun p hp => ?_, by rw [List.length_append, List.length_singleton]; show R.length + 1 ≤ 9 * i + (u + 1); omega, fun hd => ?_, fun u' hu' => ?_⟩ (by show topC P[i].2 + 1 - (u + 1) < topC P[i].2 + 1 - u; omega)
          · rcases List.mem_append.1 hp with hp | hp
            · exact hRa p hp
            · rw [List.mem_singleton] at hp
              subst hp
              refine ⟨by show (P[i].2 ++ [u]).length = k + 1; rw [List.length_append, List.length_singleton]; omega, fun y hy => ?_⟩
              rcases List.mem_append.1 hy with hy | hy
              · have := hry y hy; omega
              · rw [List.mem_singleton] at hy; omega
          · obtain ⟨p, hp, he⟩ := hRd hd
            exact ⟨p, List.mem_append_left _ hp, he⟩
          · have hu' : u' < u + 1 := hu'
            rcases Nat.lt_succ_iff_lt_or_eq.1 hu' with h | rfl
            · obtain ⟨p, hp, he⟩ := hRu u' h
              exact ⟨p, List.mem_append_left _ hp, he⟩
            · exact ⟨_, List.mem_append_right _ (List.mem_singleton.2 rfl), rfl⟩
        · refine iAdd (by omega) ?_
          refine hKn8 (vn, i + 1) _ ⟨hiP, x12, R, hR, hRa, by show R.length ≤ 9 * (i + 1); omega, fun hd => ?_⟩ (by show P.length - (i + 1) < P.length - i; omega)
          obtain ⟨p, hp, he⟩ := hd
          have hp : p ∈ P.take (i + 1) := hp
          rw [List.take_succ_eq_append_getElem hiP] at hp
          rcases List.mem_append.1 hp with hp | hp
          · exact hRd ⟨p, hp, he⟩
          · rw [List.mem_singleton] at hp
            subst hp
            have ht : topC P[i].2 = k := by rw [he, topC_range]
            obtain ⟨p, hp, he2⟩ := hRu k (by omega)
            exact ⟨p, hp, by rw [he2, he, List.range_succ]⟩
    · refine iAdd (by omega) ?_
      have hi2 : i = P.length := by omega
      subst hi2
      refine hKn (vn, x + 1) _ ⟨hxn, x5.trans x8, Q, hQ.mono hs5, ⟨hQa, ?_, hQd ?_⟩⟩ (by show f.n - (x + 1) < f.n - x; omega)
      · show Q.length ≤ 9 ^ (x + 1)
        rw [Nat.pow_succ]; omega
      · rw [List.take_length]; exact hPt.disc
  · obtain rfl : x = f.n := by omega
    have h9 := hpow (x := f.n) (by omega)
    have hsz := hPt.size
    refine iBs0 fun vo w18 hw18 x18 hoo => ?_
    have hO0 : LLw w1.heap.size w18 vo [] := ⟨hoo.mono hs5, fun p hp => absurd hp (by simp)⟩
    refine iLp (fun s : Value × Nat => [s.1, .int .i64 (s.2 : Int)]) (fun s w' => s.2 ≤ P.length ∧ Ext w5 w' ∧ (∀ b, s.1.ownBlock = some b → w5.heap.size ≤ b) ∧ ∃ Q, LLw w1.heap.size w' s.1 Q ∧ Q.length ≤ s.2 ∧ (∀ p ∈ Q, p.2.length = f.n ∧ (∀ y ∈ p.2, y < f.n) ∧ corB f p.2 = true) ∧ ((∃ p ∈ P.take s.2, p.2 = List.range f.n) → 0 < Q.length)) (fun s => P.length - s.2) (vo, 0) rfl
      ⟨Nat.zero_le _, x18, fun b hb => (hoo.blk b hb).1, [], hO0, Nat.le_refl _, by simp, by simp⟩ ?_
    rintro ⟨vo, i⟩ w20 Kn20 ⟨hi, x20, hob, Q, hQ, hQs, hQa, hQd⟩ hKn20
    have hi : i ≤ P.length := hi
    have x20 : Ext w5 w20 := x20
    have hob : ∀ b, vo.ownBlock = some b → w5.heap.size ≤ b := hob
    have hQ : LLw w1.heap.size w20 vo Q := hQ
    have hQs : Q.length ≤ i := hQs
    have hQd : (∃ p ∈ P.take i, p.2 = List.range f.n) → 0 < Q.length := hQd
    have hP20 := hP.ext x20
    intro _
    simp only [gx]
    refine iLenS hP20.row.sl ?_
    rw [List.length_map]
    refine iLt (iCndP (fun h2 => ?_) (fun h2 => ?_))
    · have hiP : i < P.length := by omega
      obtain ⟨hrl, hry⟩ := hPt.all _ (List.getElem_mem hiP)
      refine iLdA (hB.ext (x5.trans x20)) rfl ?_
      refine hP20.at hiP ?_
      have hrow : SlN w20 P[i].1 P[i].2 := (hP20.each _ (List.getElem_mem hiP)).sl
      have hsp := x5.trans x20
      refine iRetQ (fun w' x' => ok_spec_l21Correct hf ((hs1.ext hsp).ext x') (hrow.ext x') hrl (fun y hy => by have := hry y hy; omega)) ?_
      intro w21 x21
      cases hcb : corB f P[i].2
      · refine iCndF rfl (iAdd (by omega) ?_)
        refine hKn20 (vo, i + 1) _ ⟨hiP, x20.trans x21, hob, Q, hQ.ext x21, by show Q.length ≤ i + 1; omega, hQa, fun hd => ?_⟩ (by show P.length - (i + 1) < P.length - i; omega)
        obtain ⟨p, hp, he⟩ := hd
        have hp : p ∈ P.take (i + 1) := hp
        rw [List.take_succ_eq_append_getElem hiP] at hp
        rcases List.mem_append.1 hp with hp | hp
        · exact hQd ⟨p, hp, he⟩
        · rw [List.mem_singleton] at hp
          subst hp
          rw [he, corB_range] at hcb
          cases hcb
      · refine iCndT rfl ?_
        have hP21 := hP20.ext x21
        refine hP21.at hiP ?_
        have hs20 := hsp.size
        have hs21 := x21.size
        refine iApLL (by omega) (hQ.ext x21) (hP21.each _ (List.getElem_mem hiP)) (by omega) fun vo' w23 hQ23 hch23 hat => ?_
        refine iAdd (by omega) ?_
        have hs520 := x20.size
        refine hKn20 (vo', i + 1) _ ⟨hiP, (x20.trans x21).thenCh hch23 hob, fun b hb => ?_, _, hQ23, by rw [List.length_append, List.length_singleton]; show Q.length + 1 ≤ i + 1; omega, fun p hp => ?_, fun _ => by rw [List.length_append, List.length_singleton]; omega⟩ (by show P.length - (i + 1) < P.length - i; omega)
        · rcases hat with h | ⟨c, h, hc⟩
          · exact hob b (by rw [← h]; exact hb)
          · have hb : vo'.ownBlock = some b := hb
            rw [h] at hb
            injection hb with hb
            omega
        · rcases List.mem_append.1 hp with hp | hp
          · exact hQa p hp
          · rw [List.mem_singleton] at hp
            subst hp
            exact ⟨hrl, hry, hcb⟩
    · have hi2 : i = P.length := by omega
      subst hi2
      rw [List.take_length] at hQd
      exact ⟨x1.trans (x5.trans x20), Q, hQ.mono x1.size, hQd hPt.disc, by omega, hQa⟩
end Go.Proofs.YtikfhibcdhdglaaGreat

/- Contracts: draws of pairs of posets, and of a poset with a formula. Conditions: none. -/
namespace Go.Vc
theorem OwK.ne_blkD {k lo n : Nat} {e e' : TypeId} {w w' : World} {v : Value} {b : Nat} {xs cs : List Value} (h : OwK k lo e' w v n xs) (hB : Blk e w b cs) (hne : e' ≠ e) (hu : Upd b w w') : OwK k lo e' w' v n xs := by
  refine h.ch (hu.ch (S := fun c => c = b) rfl) fun c hc hb => ?_
  obtain ⟨cur, h1⟩ := h.ty hc
  unfold Blk at hB
  rw [hb, hB] at h1
  injection h1 with h1
  injection h1 with _ he _
  exact hne he.symm
end Go.Vc
namespace Go.Proofs.YtikfhibcdhdglaaGreat
open Go.Vc
theorem ok_spec_l21Pair {e : TypeId} (hne : t_i64 ≠ e) (hneS : t_Si64 ≠ e) {w0 : World} {vc : Value} {bs : List Nat} (hc : SlB w0 vc bs) {b : Nat} {w : World} (hS : Vc.Src e w0 vc b w) (size : Nat) (hw : size ≤ 8) :
    Drw Tryz.prog f_spec_l21Pair #[.pointer (some ⟨b, 0, none⟩), .int .i64 ((size + 1 : Nat) : Int)] e w0 vc b w fun r w' => ∃ (n : Int) (l : List Int) (v : Value) (nq : Int) (lq : List Int) (vq : Value), r = .tuple #[.agg #[.int .i64 n, v], .agg #[.int .i64 nq, vq]] ∧ Ow w.heap.size t_i64 w' v (ints l) ∧ Ow w.heap.size t_i64 w' vq (ints lq) := by
  apply c_spec_l21Pair; unfold S_spec_l21Pair
  have hlow := hS.ext.size
  have hbl := hS.lt
  refine iNew fun b4 w1 hb4 x1 hB4 => ?_
  have hB4 : Blk 26 w1 b4 [.int .i64 0, .slice none 0 0] := hB4
  refine iNew fun b5 w2 hb5 x2 hB5 => ?_
  have hB5 : Blk 26 w2 b5 [.int .i64 0, .slice none 0 0] := hB5
  have hS2 := hS.later (x1.trans x2)
  have X2 := x1.trans x2
  refine iCall ((ok_spec_l16Draw hne hc hS2 size hw).mono ?_)
  rintro _ w3 ⟨⟨n, l, v, rfl, hl, ho⟩, hS3, hch3⟩
  have hB4 := (hB4.ext x2).ch hch3 (by omega)
  have hB5 := hB5.ch hch3 (by omega)
  have hC3 : Ch (fun c => c = b) w w3 := ch_self X2.ch hch3
  have hs3 := hch3.size
  have hsX := X2.size
  refine iNew fun b6 w4 hb6 x4 hB6 => ?_
  have hB6 : Blk 26 w4 b6 [.int .i64 0, .slice none 0 0] := hB6
  refine iStAB hB6 rfl rfl ((ho.ext x4).pair n) fun w5 hu5 hB6' => ?_
  have hB6 : Blk 26 w5 b6 [.int .i64 n, v] := hB6'
  have X5 : Ext w3 w5 := x4.upd hu5 (by omega)
  have hS5 := hS3.later X5
  have ho5 := ho.ext X5
  have hB4 := hB4.ext X5
  have hB5 := hB5.ext X5
  have hC5 : Ch (fun c => c = b) w w5 := ch_self hC3 X5.ch
  have hs5 := X5.size
  -- the end: p and q are stored and read
  have fin : ∀ (wa : World) (nq : Int) (lq : List Int) (vq : Value), Vc.Src e w0 vc b wa → Ch (fun c => c = b) w wa → Blk 26 wa b4 [.int .i64 0, .slice none 0 0] → Blk 26 wa b5 [.int .i64 0, .slice none 0 0] → Ow w.heap.size t_i64 wa v (ints l) → Ow w.heap.size t_i64 wa vq (ints lq) →
      ∀ w19, Ext wa w19 → xStA Tryz.prog w19 2 (.pointer (some ⟨b4, 0, none⟩)) (.agg #[.int .i64 n, v]) fun w20 => ∀ w21, Ext w20 w21 → xStA Tryz.prog w21 2 (.pointer (some ⟨b5, 0, none⟩)) (.agg #[.int .i64 nq, vq]) fun w22 => ∀ w23, Ext w22 w23 → xLdA w23 2 (.pointer (some ⟨b4, 0, none⟩)) fun r24 => xLdA w23 2 (.pointer (some ⟨b5, 0, none⟩)) fun r25 =>
        (∃ (n : Int) (l : List Int) (v : Value) (nq : Int) (lq : List Int) (vq : Value), Value.tuple #[r24, r25] = .tuple #[.agg #[.int .i64 n, v], .agg #[.int .i64 nq, vq]] ∧ Ow w.heap.size t_i64 w23 v (ints l) ∧ Ow w.heap.size t_i64 w23 vq (ints lq)) ∧ Vc.Src e w0 vc b w23 ∧ Ch (fun c => c = b) w w23 := by
    intro wa nq lq vq hSa hCa hB4 hB5 hop hoq w19 x19
    have hop := hop.ext x19
    have hoq := hoq.ext x19
    have hB4 := hB4.ext x19
    have hB5 := hB5.ext x19
    refine iStAB hB4 rfl rfl (hop.pair n) fun w20 hu20 hB4' => fun w21 x21 => ?_
    have hop := (hop.upd hu20 (hop.ne_blk hB4 (by decide))).ext x21
    have hoq := (hoq.upd hu20 (hoq.ne_blk hB4 (by decide))).ext x21
    have hB5 := (hB5.upd hu20 (by omega)).ext x21
    have hB4 : Blk 26 w21 b4 [.int .i64 n, v] := hB4'.ext x21
    have hSa := ((hSa.later x19).upd hu20 (by omega) (by omega)).later x21
    refine iStAB hB5 rfl rfl (hoq.pair nq) fun w22 hu22 hB5' => fun w23 x23 => ?_
    have hop := (hop.upd hu22 (hop.ne_blk hB5 (by decide))).ext x23
    have hoq := (hoq.upd hu22 (hoq.ne_blk hB5 (by decide))).ext x23
    have hB4 := (hB4.upd hu22 (by omega)).ext x23
    have hB5 : Blk 26 w23 b5 [.int .i64 nq, vq] := hB5'.ext x23
    have hSa := (hSa.upd hu22 (by omega) (by omega)).later x23
    refine iLdA hB4 rfl (iLdA hB5 rfl ⟨⟨n, l, v, nq, lq, vq, rfl, hop, hoq⟩, hSa, ?_⟩)
    have h1 : Ch (fun c => c = b) w w21 := ((ch_self hCa x19.ch).trans (hu20.ch (S := fun c => c = b4) rfl) fun c h => .inr (by omega)).trans (x21.ch (S := fun c => c = b)) fun c h => .inl h
    exact (h1.trans (hu22.ch (S := fun c => c = b5) rfl) fun c h => .inr (by omega)).trans (x23.ch (S := fun c => c = b)) fun c h => .inl h
  refine iJnX (fun xs wq => ∃ t, xs = [.bool t] ∧ (t = true → posetOk n l = true ∧ n ≤ 6) ∧ Vc.Src e w0 vc b wq ∧ Ch (fun c => c = b) w5 wq) (fun J hJ => ?_) ?_
  · refine iLdA hB6 rfl ?_
    refine iRet (ok_spec_l16Is ho5.sl n) fun w8 x8 => ?_
    cases hp : posetOk n l
    · exact iCndF rfl (hJ _ _ ⟨false, rfl, fun h => (by cases h), hS5.later x8, x8.ch⟩)
    refine iCndT rfl ?_
    refine iFa (iLdB (hB6.ext x8) (i := 0) (v := .int .i64 n) rfl ?_)
    refine iLe (iCndP (fun h6 => ?_) (fun _ => hJ _ _ ⟨false, rfl, fun h => (by cases h), hS5.later x8, x8.ch⟩))
    refine iCall ((ok_spec_l01Next hc (hS5.later x8) 3).mono ?_)
    rintro _ w9 ⟨⟨x, rfl, _, _⟩, hS9, hch9⟩
    exact iLt (hJ _ _ ⟨_, rfl, fun _ => ⟨hp, h6⟩, hS9, ch_self x8.ch hch9⟩)
  rintro _ w7 ⟨t, rfl, ht, hS7, hch7⟩
  intro _
  simp only [gx]
  have hB6 := hB6.ch hch7 (by omega)
  have hB4 := hB4.ch hch7 (by omega)
  have hB5 := hB5.ch hch7 (by omega)
  have ho7 := ho5.srcD hS5 hne hch7
  have hC7 : Ch (fun c => c = b) w w7 := ch_self hC5 hch7
  have hs7 := hC7.size
  cases t
  · refine iCndF rfl ?_
    refine ⟨fun c => c = b, iLdA hB6 rfl ⟨fun w27 h => iLdA (hB6.ch h (by omega)) rfl rfl, fun w28 x28 => ?_⟩⟩
    refine iCall ((ok_spec_l16Draw hne hc (hS7.later x28) 3 (by omega)).mono ?_)
    rintro _ w29 ⟨⟨nq, lq, vq, rfl, _, hoq⟩, hS29, hch29⟩
    refine ⟨hch29, ?_⟩
    have hC29 : Ch (fun c => c = b) w w29 := ch_self (ch_self hC7 x28.ch) hch29
    have hs28 := x28.size
    exact fin w29 nq lq vq hS29 hC29 ((hB4.ext x28).ch hch29 (by omega)) ((hB5.ext x28).ch hch29 (by omega)) (((ho7.ext x28).srcD (hS7.later x28) hne hch29).mono (by omega)) (hoq.mono (by omega))
  · obtain ⟨hpo, h6⟩ := ht rfl
    obtain ⟨hP, hn0, hl0⟩ := posetOk_po hpo
    have hp8 := hP.ok.1
    have hQs : ∀ {w' : World}, SlI w' v l → SlN w' v (frOf n l).a := fun h => by
      unfold SlN
      rw [← hl0]; exact h
    refine iCndT rfl ?_
    refine iLdA hB6 rfl ?_
    have hU := ok_spec_l21Partitions hP.ok (hQs ho7.sl)
    rw [← hn0] at hU
    refine iCall (hU.mono ?_)
    rintro vp w10 ⟨x10, Q, hQ, hQ0, hQs9, hQa⟩
    have hS10 := hS7.later x10
    have hs10 := x10.size
    have hB6 := hB6.ext x10
    have hrowT : ∀ {w'}, Vc.Src e w0 vc b w' → Ow w7.heap.size t_Si64 w' vp (Q.map Prod.fst) → ∀ c, vp.ownBlock = some c → ¬ c = b := fun hS' h c hc' e => (hS'.neOw h hneS) (by rw [hc', e])
    refine ⟨fun c => c = b, iLdA hB6 rfl ⟨fun w12 h => iLdA (hB6.ch h (by omega)) rfl rfl, iLdA hB6 rfl ⟨fun w13 h => iLdA (hB6.ch h (by omega)) rfl rfl, iLenS hQ.row.sl fun w14 x14 => ?_⟩⟩⟩
    rw [List.length_map]
    have hQ14 := hQ.ext x14
    refine iCall ((ok_spec_l01Next hc (hS10.later x14) (Q.length : Nat)).mono ?_)
    rintro _ w15 ⟨⟨j, rfl, hj, _⟩, hS15, hch15⟩
    refine ⟨hch15, ?_⟩
    have hj : j < Q.length := by have := hj (by omega); omega
    have hS14 := hS10.later x14
    have hQ15 : LLw w7.heap.size w15 vp Q := ⟨hQ14.row.ch hch15 fun c hc' => hrowT hS14 hQ14.row c hc', fun p hp => (hQ14.each p hp).srcD hS14 hne hch15⟩
    obtain ⟨hql, hqy, _⟩ := hQa _ (List.getElem_mem hj)
    have e1 : (Q.map Prod.fst)[j]'(by rw [List.length_map]; exact hj) = Q[j].1 := by simp
    have hjm : j < (Q.map Prod.fst).length := by rw [List.length_map]; exact hj
    refine iIaOwE hQ15.row hjm fun g hg hwr => ?_
    have hrd : ∀ {w' : World}, Ow w7.heap.size t_Si64 w' vp (Q.map Prod.fst) → w'.cell? ⟨g, j, none⟩ = some Q[j].1 := fun h => by
      rw [(hwr _ _ rfl h).1, List.getElem?_eq_getElem hjm, e1]
    refine iLd (hrd hQ15.row) ⟨fun w16 h => iLd (hrd (hQ15.row.ch h fun c hc' => hrowT hS15 hQ15.row c hc')) rfl, fun w17 x17 => ?_⟩
    have ho17 := (((ho7.ext x10).ext x14).srcD hS14 hne hch15).ext x17
    have hU := ok_spec_l21Quotient hP.ok (hQs ho17.sl) ((hQ15.each _ (List.getElem_mem hj)).ext x17).sl hql (fun y hy => by have := hqy y hy; omega)
    rw [← hn0] at hU
    refine iCall (hU.mono ?_)
    rintro _ w18 ⟨x18, vq, rfl, hoq⟩
    refine ⟨x18.ch, ?_⟩
    have hC18 : Ch (fun c => c = b) w w18 := ch_self (ch_self (ch_self (ch_self (ch_self hC7 x10.ch) x14.ch) hch15) x17.ch) x18.ch
    have hs14 := x14.size
    have hs15 := hch15.size
    have hs17 := x17.size
    exact fin w18 _ _ vq ((hS15.later x17).later x18) hC18 (((((hB4.ext x10).ext x14).ch hch15 (by omega)).ext x17).ext x18) (((((hB5.ext x10).ext x14).ch hch15 (by omega)).ext x17).ext x18) ((ho17.ext x18).mono (by omega)) (hoq.mono (by omega))
theorem ok_spec_l17Pair {e : TypeId} (hne : t_i64 ≠ e) (hneN : t_impl_Node ≠ e) {w0 : World} {vc : Value} {bs : List Nat} (hc : SlB w0 vc bs) {b : Nat} {w : World} (hS : Vc.Src e w0 vc b w) :
    Drw Tryz.prog f_spec_l17Pair #[.pointer (some ⟨b, 0, none⟩)] e w0 vc b w fun r w' => ∃ (n : Int) (l : List Int) (v u : Value) (N : List RN), r = .tuple #[.agg #[.int .i64 n, v], u] ∧ Ow w.heap.size t_i64 w' v (ints l) ∧ N.length ≤ 200 ∧ RawW w.heap.size t_impl_Node w' u N := by
  apply c_spec_l17Pair; unfold S_spec_l17Pair
  have hlow := hS.ext.size
  have hbl := hS.lt
  refine iNew fun b2 w1 hb2 x1 hB2 => ?_
  have hB2 : Blk 26 w1 b2 [.int .i64 0, .slice none 0 0] := hB2
  have hS1 := hS.later x1
  refine iCall ((ok_spec_l01Next hc hS1 8).mono ?_)
  rintro _ w2 ⟨⟨x, rfl, _, _⟩, hS2, hch2⟩
  have hB2 := hB2.ch hch2 (by omega)
  have hC2 : Ch (fun c => c = b) w w2 := ch_self x1.ch hch2
  have hs2 := hC2.size
  have arm : ∀ (s : Nat) (m k : Nat), s ≤ 8 → 1 ≤ m ∧ m ≤ 100 → 1 ≤ k ∧ k ≤ 6 → callV Tryz.prog (.func (.func f_spec_l16Draw) #[] #[]) [.pointer (some ⟨b, 0, none⟩), .int .i64 ((s + 1 : Nat) : Int)] w2 fun v12 w3 => xNew (Value.cells (.agg #[(.int .i64 0), (.slice none 0 0)])) 26 w3 fun v4 w4 => xStA Tryz.prog w4 2 v4 v12 fun w5 =>
      ∃ D6 : Nat → Prop, xLdA w5 2 v4 fun v13 => (∀ w7, Ch D6 w5 w7 → xLdA w7 2 v4 fun u13 => u13 = v13) ∧ ∀ w8, Ext w5 w8 → callV Tryz.prog (.func (.func f_spec_l17Plain) #[] #[]) [.pointer (some ⟨b, 0, none⟩), .int .i64 (m : Int), .int .i64 (k : Int)] w8 fun v15 w9 =>
      Ch D6 w8 w9 ∧ ∀ w10, Ext w9 w10 → xStA Tryz.prog w10 2 (.pointer (some ⟨b2, 0, none⟩)) v13 fun w11 => ∀ w12, Ext w11 w12 → xLdA w12 2 (.pointer (some ⟨b2, 0, none⟩)) fun r13 =>
      (fun (r : Value) (w' : World) => (∃ (n : Int) (l : List Int) (v u : Value) (N : List RN), r = .tuple #[.agg #[.int .i64 n, v], u] ∧ Ow w.heap.size t_i64 w' v (ints l) ∧ N.length ≤ 200 ∧ RawW w.heap.size t_impl_Node w' u N) ∧ Vc.Src e w0 vc b w' ∧ Ch (fun c => c = b) w w') (.tuple #[r13, v15]) w12 := by
    intro s m k hs hm hk
    refine iCall ((ok_spec_l16Draw hne hc hS2 s hs).mono ?_)
    rintro _ w3 ⟨⟨n, l, v, rfl, _, ho⟩, hS3, hch3⟩
    have hs3 := hch3.size
    refine iNew fun b4 w4 hb4 x4 hB4 => ?_
    have hB4 : Blk 26 w4 b4 [.int .i64 0, .slice none 0 0] := hB4
    have hbl3 := hS3.lt
    refine iStAB hB4 rfl rfl ((ho.ext x4).pair n) fun w5 hu5 hB4' => ?_
    have hB4 : Blk 26 w5 b4 [.int .i64 n, v] := hB4'
    have X5 : Ext w3 w5 := x4.upd hu5 (by omega)
    have hS5 := hS3.later X5
    refine ⟨fun c => c = b, iLdA hB4 rfl ⟨fun w7 h => iLdA (hB4.ch h (by omega)) rfl rfl, fun w8 x8 => ?_⟩⟩
    refine iCall ((ok_spec_l17Plain hneN hc hk hm (hS5.later x8)).mono ?_)
    rintro u w9 ⟨⟨N, hN, hu⟩, hS9, hch9⟩
    refine ⟨hch9, fun w10 x10 => ?_⟩
    have X8 := X5.trans x8
    have hs8 := X8.size
    have ho10 := ((ho.ext X8).srcD (hS3.later X8) hne hch9).ext x10
    have hB10 := ((((hB2.ch hch3 (by omega)).ext X8).ch hch9 (by omega)).ext x10)
    have hC10 : Ch (fun c => c = b) w w10 := ch_self (ch_self (ch_self (ch_self hC2 hch3) X8.ch) hch9) x10.ch
    have hu10 := hu.ext x10
    refine iStAB hB10 rfl rfl (ho10.pair n) fun w11 hu11 hB11 => fun w12 x12 => ?_
    refine iLdA (hB11.ext x12) rfl ⟨⟨n, l, v, u, N, rfl, ?_, hN, ?_⟩, ?_, ?_⟩
    · exact ((ho10.upd hu11 (ho10.ne_blk hB10 (by decide))).ext x12).mono (by omega)
    · exact OwK.mono ((OwK.ne_blkD hu10 hB10 (by decide) hu11).ext x12) (by omega)
    · exact ((hS9.later x10).upd hu11 (by omega) (by omega)).later x12
    · exact (hC10.trans (hu11.ch (S := fun c => c = b2) rfl) fun c h => .inr (by omega)).trans (x12.ch (S := fun c => c = b)) fun c h => .inl h
  refine iEq (iCndP (fun _ => ?_) (fun _ => ?_))
  · exact arm 7 10 1 (by omega) (by omega) (by omega)
  · refine iEq (iCndP (fun _ => ?_) (fun _ => ?_))
    · exact arm 5 12 4 (by omega) (by omega) (by omega)
    · exact arm 3 12 2 (by omega) (by omega) (by omega)
theorem ok_spec_DrawIsPosetValid {vc : Value} {w : World} {bs : List Nat} (hc : SlB w vc bs) : Cal Tryz.prog f_spec_DrawIsPosetValid #[vc] w fun r w' => Ext w w' ∧ ∃ (n : Int) (l : List Int) (v u : Value) (N : List RN), r = .tuple #[.agg #[.int .i64 n, v], u] ∧ Ow w.heap.size t_i64 w' v (ints l) ∧ N.length ≤ 200 ∧ RawW w.heap.size t_impl_Node w' u N := by
  apply c_spec_DrawIsPosetValid; unfold S_spec_DrawIsPosetValid
  refine iNew fun b2 w1 hb2 x1 hB2 => ?_
  have hB2 : Blk 26 w1 b2 [.int .i64 0, .slice none 0 0] := hB2
  have hc1 := hc.ext x1
  refine iCall ((ok_spec_l01FromE hc1).mono ?_)
  rintro _ w2 ⟨b, rfl, hS2⟩
  have hb := hS2.lo
  have x2 := hS2.ext
  refine iCall ((ok_spec_l17Pair (by decide) (by decide) hc1 hS2).mono ?_)
  rintro _ w3 ⟨⟨n, l, v, u, N, rfl, ho, hN, hu⟩, hS3, hch3⟩
  have hs1 := x1.size
  have hs2 := x2.size
  have X3 : Ext w w3 := (x1.trans x2).thenCh hch3 fun c h => by omega
  have hB2 := (hB2.ext x2).ch hch3 (by omega)
  refine iEx (by rfl) (iEx (by rfl) ?_)
  refine iNew fun b4 w4 hb4 x4 hB4 => ?_
  have hs3 := hch3.size
  refine iStAB hB4 rfl rfl ((ho.ext x4).pair n) fun w5 hu5 hB4' => ?_
  have X5 : Ext w3 w5 := x4.upd hu5 (by omega)
  refine iLdA hB4' rfl ?_
  have hB2 := hB2.ext X5
  have ho5 := ho.ext X5
  have hu5 := hu.ext X5
  refine iStAB hB2 rfl rfl (ho5.pair n) fun w6 hu6 hB2' => ?_
  refine iLdA hB2' rfl ⟨(X3.trans X5).upd hu6 (by omega), n, l, v, u, N, rfl, (ho5.upd hu6 (ho5.ne_blk hB2 (by decide))).mono (by omega), hN, OwK.mono (OwK.ne_blkD hu5 hB2 (by decide) hu6) (by omega)⟩
end Go.Proofs.YtikfhibcdhdglaaGreat

/- Contracts: draws of pairs of posets, one perhaps an image of the other. Conditions: none. -/
namespace Go.Proofs.YtikfhibcdhdglaaGreat
open Go.Vc
theorem ok_spec_l34Pair {e : TypeId} (hne : t_i64 ≠ e) (hneS : t_Si64 ≠ e) {w0 : World} {vc : Value} {bs : List Nat} (hc : SlB w0 vc bs) {b : Nat} {w : World} (hS : Vc.Src e w0 vc b w) :
    Drw Tryz.prog f_spec_l34Pair #[.pointer (some ⟨b, 0, none⟩)] e w0 vc b w fun r w' => ∃ (n : Int) (l : List Int) (v : Value) (nq : Int) (lq : List Int) (vq : Value), r = .tuple #[.agg #[.int .i64 n, v], .agg #[.int .i64 nq, vq]] ∧ Ow w.heap.size t_i64 w' v (ints l) ∧ Ow w.heap.size t_i64 w' vq (ints lq) := by
  apply c_spec_l34Pair; unfold S_spec_l34Pair
  have hlow := hS.ext.size
  have hbl := hS.lt
  refine iNew fun b2 w1 hb2 x1 hB2 => ?_
  have hB2 : Blk 26 w1 b2 [.int .i64 0, .slice none 0 0] := hB2
  refine iNew fun b3 w2 hb3 x2 hB3 => ?_
  have hB3 : Blk 26 w2 b3 [.int .i64 0, .slice none 0 0] := hB3
  have X2 := x1.trans x2
  have hS2 := hS.later X2
  refine iCall ((ok_spec_l01Next hc hS2 30).mono ?_)
  rintro _ w3 ⟨⟨x, rfl, _, _⟩, hS3, hch3⟩
  have hB2 := (hB2.ext x2).ch hch3 (by omega)
  have hB3 := hB3.ch hch3 (by omega)
  have hC3 : Ch (fun c => c = b) w w3 := ch_self X2.ch hch3
  have hs3 := hC3.size
  have hs23 := hch3.size
  -- the end: p and q are stored and read
  have fin : ∀ (wa : World) (n : Int) (l : List Int) (v : Value) (nq : Int) (lq : List Int) (vq : Value), Vc.Src e w0 vc b wa → Ch (fun c => c = b) w wa → Blk 26 wa b2 [.int .i64 0, .slice none 0 0] → Blk 26 wa b3 [.int .i64 0, .slice none 0 0] → Ow w.heap.size t_i64 wa v (ints l) → Ow w.heap.size t_i64 wa vq (ints lq) →
      xStA Tryz.prog wa 2 (.pointer (some ⟨b2, 0, none⟩)) (.agg #[.int .i64 n, v]) fun w20 => Ch (fun c => c = b2) wa w20 ∧ ∀ w21, Ext w20 w21 → xStA Tryz.prog w21 2 (.pointer (some ⟨b3, 0, none⟩)) (.agg #[.int .i64 nq, vq]) fun w22 => ∀ w23, Ext w22 w23 → xLdA w23 2 (.pointer (some ⟨b2, 0, none⟩)) fun r24 => xLdA w23 2 (.pointer (some ⟨b3, 0, none⟩)) fun r25 =>
        (∃ (n : Int) (l : List Int) (v : Value) (nq : Int) (lq : List Int) (vq : Value), Value.tuple #[r24, r25] = .tuple #[.agg #[.int .i64 n, v], .agg #[.int .i64 nq, vq]] ∧ Ow w.heap.size t_i64 w23 v (ints l) ∧ Ow w.heap.size t_i64 w23 vq (ints lq)) ∧ Vc.Src e w0 vc b w23 ∧ Ch (fun c => c = b) w w23 := by
    intro wa n l v nq lq vq hSa hCa hB2 hB3 hop hoq
    refine iStAB hB2 rfl rfl (hop.pair n) fun w20 hu20 hB2' => ⟨hu20.ch rfl, fun w21 x21 => ?_⟩
    have hop := (hop.upd hu20 (hop.ne_blk hB2 (by decide))).ext x21
    have hoq := (hoq.upd hu20 (hoq.ne_blk hB2 (by decide))).ext x21
    have hB3 := (hB3.upd hu20 (by omega)).ext x21
    have hB2 : Blk 26 w21 b2 [.int .i64 n, v] := hB2'.ext x21
    have hSa := (hSa.upd hu20 (by omega) (by omega)).later x21
    refine iStAB hB3 rfl rfl (hoq.pair nq) fun w22 hu22 hB3' => fun w23 x23 => ?_
    have hop := (hop.upd hu22 (hop.ne_blk hB3 (by decide))).ext x23
    have hoq := (hoq.upd hu22 (hoq.ne_blk hB3 (by decide))).ext x23
    have hB2 := (hB2.upd hu22 (by omega)).ext x23
    have hB3 : Blk 26 w23 b3 [.int .i64 nq, vq] := hB3'.ext x23
    have hSa := (hSa.upd hu22 (by omega) (by omega)).later x23
    refine iLdA hB2 rfl (iLdA hB3 rfl ⟨⟨n, l, v, nq, lq, vq, rfl, hop, hoq⟩, hSa, ?_⟩)
    have h1 : Ch (fun c => c = b) w w21 := ((hCa.trans (hu20.ch (S := fun c => c = b2) rfl) fun c h => .inr (by omega))).trans (x21.ch (S := fun c => c = b)) fun c h => .inl h
    exact (h1.trans (hu22.ch (S := fun c => c = b3) rfl) fun c h => .inr (by omega)).trans (x23.ch (S := fun c => c = b)) fun c h => .inl h
  refine iEq (iCndP (fun _ => ?_) (fun _ => ?_))
  · refine iCall ((ok_spec_l16Draw hne hc hS3 7 (by omega)).mono ?_)
    rintro _ w4 ⟨⟨n, l, v, rfl, _, ho⟩, hS4, hch4⟩
    have hs4 := hch4.size
    have hbl4 := hS4.lt
    refine iNew fun b4 w5 hb4 x5 hB4 => ?_
    refine iStAB hB4 rfl rfl ((ho.ext x5).pair n) fun w6 hu6 hB4' => ?_
    have hB4 : Blk 26 w6 b4 [.int .i64 n, v] := hB4'
    have X6 : Ext w4 w6 := x5.upd hu6 (by omega)
    refine ⟨fun c => c = b, iLdA hB4 rfl ⟨fun w8 h => iLdA (hB4.ch h (by omega)) rfl rfl, fun w9 x9 => ?_⟩⟩
    have x49 := X6.trans x9
    refine iCall ((ok_spec_l16Draw hne hc (hS4.later x49) 7 (by omega)).mono ?_)
    rintro _ w10 ⟨⟨nq, lq, vq, rfl, _, hoq⟩, hS10, hch10⟩
    refine ⟨hch10, fun w11 x11 => ?_⟩
    have hC11 : Ch (fun c => c = b) w w11 := ch_self (ch_self (ch_self (ch_self hC3 hch4) x49.ch) hch10) x11.ch
    have hs49 := x49.size
    obtain ⟨a, w', h1, h2, h3, hk⟩ := fin w11 n l v nq lq vq (hS10.later x11) hC11 ((((hB2.ch hch4 (by omega)).ext x49).ch hch10 (by omega)).ext x11) ((((hB3.ch hch4 (by omega)).ext x49).ch hch10 (by omega)).ext x11)
      ((((ho.ext x49).srcD (hS4.later x49) hne hch10).ext x11).mono (by omega)) ((hoq.ext x11).mono (by omega))
    exact ⟨a, w', h1, h2, h3, hk.2⟩
  · refine iCall ((ok_spec_l21Pair hne hneS hc hS3 4 (by omega)).mono ?_)
    rintro _ w18 ⟨⟨n, l, v, nq, lq, vq, rfl, hop, hoq⟩, hS18, hch18⟩
    have hs18 := hch18.size
    have hbl18 := hS18.lt
    refine iEx (by rfl) (iEx (by rfl) ?_)
    refine iNew fun b5 w19 hb5 x19 hB5 => ?_
    refine iNew fun b6 w20 hb6 x20 hB6 => ?_
    refine iStAB (hB5.ext x20) rfl rfl ((hop.ext (x19.trans x20)).pair n) fun w21 hu21 hB5' => ?_
    have hs19 := x19.size
    have hoq21 := (hoq.ext (x19.trans x20)).upd hu21 (by intro h; have := (hoq.blk _ h).2; omega)
    refine iStAB (hB6.upd hu21 (by omega)) rfl rfl (hoq21.pair nq) fun w22 hu22 hB6' => ?_
    have hB6 : Blk 26 w22 b6 [.int .i64 nq, vq] := hB6'
    have hB5 : Blk 26 w22 b5 [.int .i64 n, v] := hB5'.upd hu22 (by omega)
    have X22 : Ext w18 w22 := ((x19.trans x20).upd hu21 (by omega)).upd hu22 (by omega)
    refine iCall ((ok_spec_l01Next hc (hS18.later X22) 2).mono ?_)
    rintro _ w23 ⟨⟨y, rfl, _, _⟩, hS23, hch23⟩
    have hB5 := hB5.ch hch23 (by omega)
    have hB6 := hB6.ch hch23 (by omega)
    have hop23 := (hop.ext X22).srcD (hS18.later X22) hne hch23
    have hoq23 := (hoq.ext X22).srcD (hS18.later X22) hne hch23
    have hs22 := X22.size
    have hs23 := hch23.size
    have hC23 : Ch (fun c => c = b) w w23 := ch_self (ch_self (ch_self hC3 hch18) X22.ch) hch23
    have hB2 := (((hB2.ch hch18 (by omega)).ext X22).ch hch23 (by omega))
    have hB3 := (((hB3.ch hch18 (by omega)).ext X22).ch hch23 (by omega))
    have hb22 := hB2.lt
    have hb33 := hB3.lt
    refine iEq (iCndP (fun _ => ?_) (fun _ => ?_))
    · refine ⟨fun c => c = b2, iLdA hB6 rfl ⟨fun w25 h => iLdA (hB6.ch h (by omega)) rfl rfl, iLdA hB5 rfl ⟨fun w26 h => iLdA (hB5.ch h (by omega)) rfl rfl, fun w27 x27 => ?_⟩⟩⟩
      exact fin w27 nq lq vq n l v (hS23.later x27) (ch_self hC23 x27.ch) (hB2.ext x27) (hB3.ext x27) ((hoq23.ext x27).mono (by omega)) ((hop23.ext x27).mono (by omega))
    · refine ⟨fun c => c = b2, iLdA hB5 rfl ⟨fun w25 h => iLdA (hB5.ch h (by omega)) rfl rfl, iLdA hB6 rfl ⟨fun w26 h => iLdA (hB6.ch h (by omega)) rfl rfl, fun w27 x27 => ?_⟩⟩⟩
      exact fin w27 n l v nq lq vq (hS23.later x27) (ch_self hC23 x27.ch) (hB2.ext x27) (hB3.ext x27) ((hop23.ext x27).mono (by omega)) ((hoq23.ext x27).mono (by omega))
theorem ok_spec_DrawTellingFormulas {vc : Value} {w : World} {bs : List Nat} (hc : SlB w vc bs) : Cal Tryz.prog f_spec_DrawTellingFormulas #[vc] w fun r w' => Ext w w' ∧ ∃ (n : Int) (l : List Int) (v : Value) (nq : Int) (lq : List Int) (vq : Value),
    r = .tuple #[.agg #[.int .i64 n, v], .agg #[.int .i64 nq, vq]] ∧ Ow w.heap.size t_i64 w' v (ints l) ∧ Ow w.heap.size t_i64 w' vq (ints lq) := by
  apply c_spec_DrawTellingFormulas; unfold S_spec_DrawTellingFormulas
  refine iNew fun b2 w1 hb2 x1 hB2 => ?_
  have hB2 : Blk 26 w1 b2 [.int .i64 0, .slice none 0 0] := hB2
  refine iNew fun b3 w2 hb3 x2 hB3 => ?_
  have hB3 : Blk 26 w2 b3 [.int .i64 0, .slice none 0 0] := hB3
  have X2 := x1.trans x2
  have hc2 := hc.ext X2
  refine iCall ((ok_spec_l01FromE hc2).mono ?_)
  rintro _ w3 ⟨b, rfl, hS3⟩
  have hb := hS3.lo
  have x3 := hS3.ext
  refine iCall ((ok_spec_l34Pair (by decide) (by decide) hc2 hS3).mono ?_)
  rintro _ w4 ⟨⟨n, l, v, nq, lq, vq, rfl, hop, hoq⟩, hS4, hch4⟩
  have X4 : Ext w w4 := (X2.trans x3).thenCh hch4 fun c h => by have := X2.size; omega
  have hs3 := x3.size
  have hsX := X2.size
  have hB2 := ((hB2.ext x2).ext x3).ch hch4 (by omega)
  have hB3 := (hB3.ext x3).ch hch4 (by omega)
  have hop := hop.mono (Nat.le_trans hsX hs3)
  have hoq := hoq.mono (Nat.le_trans hsX hs3)
  refine iEx (by rfl) (iEx (by rfl) ?_)
  refine iNew fun b4 w5 hb4 x5 hB4 => ?_
  refine iNew fun b5 w6 hb5 x6 hB5 => ?_
  have hs4 := X4.size
  have hb24 := hB2.lt
  have hb34 := hB3.lt
  refine iStAB (hB4.ext x6) rfl rfl (((hop.ext x5).ext x6).pair n) fun w7 hu7 hB4' => ?_
  have hB4 : Blk 26 w7 b4 [.int .i64 n, v] := hB4'
  refine iStAB (hB5.upd hu7 (by omega)) rfl rfl ((((hoq.ext x5).ext x6).upd hu7 (by intro h; have := (hoq.blk _ h).2; omega)).pair nq) fun w8 hu8 hB5' => ?_
  have hB5 : Blk 26 w8 b5 [.int .i64 nq, vq] := hB5'
  have hB4 := hB4.upd hu8 (by omega)
  have X48 : Ext w4 w8 := ((x5.trans x6).upd hu7 (by omega)).upd hu8 (by omega)
  refine ⟨fun c => c = b2, iLdA hB4 rfl ⟨fun w10 h => iLdA (hB4.ch h (by omega)) rfl rfl, iLdA hB5 rfl ⟨fun w11 h => iLdA (hB5.ch h (by omega)) rfl rfl, fun w12 x12 => ?_⟩⟩⟩
  have hB2 := (hB2.ext X48).ext x12
  have hB3 := (hB3.ext X48).ext x12
  have hop := (hop.ext X48).ext x12
  have hoq := (hoq.ext X48).ext x12
  refine iStAB hB2 rfl rfl (hop.pair n) fun w13 hu13 hB2' => ⟨hu13.ch rfl, fun w14 x14 => ?_⟩
  have hop := (hop.upd hu13 (hop.ne_blk hB2 (by decide))).ext x14
  have hoq := (hoq.upd hu13 (hoq.ne_blk hB2 (by decide))).ext x14
  have hB3 := (hB3.upd hu13 (by omega)).ext x14
  have hB2 : Blk 26 w14 b2 [.int .i64 n, v] := hB2'.ext x14
  refine iStAB hB3 rfl rfl (hoq.pair nq) fun w15 hu15 hB3' => fun w16 x16 => ?_
  refine iLdA ((hB2.upd hu15 (by omega)).ext x16) rfl (iLdA (hB3'.ext x16) rfl ⟨?_, n, l, v, nq, lq, vq, rfl, ?_, ?_⟩)
  · exact ((((((X4.trans X48).trans x12).upd hu13 (by omega)).trans x14).upd hu15 (by omega)).trans x16)
  · exact ((hop.upd hu15 (hop.ne_blk hB3 (by decide))).ext x16)
  · exact ((hoq.upd hu15 (hoq.ne_blk hB3 (by decide))).ext x16)
end Go.Proofs.YtikfhibcdhdglaaGreat

/- Contracts: UpsetOf, PartOfPoset, IsPosetMorphism at a morphism, IsPoset, the laws' full set. Conditions: none. -/
namespace Go.Proofs.YtikfhibcdhdglaaGreat
open Go.Vc
theorem maskB_nat {n m : Nat} (h : m < 2 ^ n) : maskB n (m : Int) = true := by
  unfold maskB
  refine decide_eq_true ⟨by omega, by omega⟩
theorem ok_impl_posetCode {f : Fr} (hP : Po f) {v : Value} {w : World} (hs : SlN w v f.a) {m : Nat} (hm : m < 2 ^ f.n) : Ret Tryz.prog f_impl_posetCode #[.agg #[.int .i64 (f.n : Int), v], .int .i64 (m : Int)] w (.int .i64 0) := by
  have h8 := hP.ok.1
  apply c_impl_posetCode; unfold S_impl_posetCode
  refine iNew fun b w1 _ x1 hB => ?_
  have hB : Blk _ w1 b [.int .i64 (f.n : Int), v] := hB
  refine iLdA hB rfl ?_
  refine iRet (ok_impl_isPoset (hs.ext x1) (f.n : Int)) fun w2 x2 => ?_
  rw [posetOk_ofJ hP]
  refine iNot (iCndF rfl ?_)
  refine iFa (iLdB (hB.ext x2) (i := 0) (v := .int .i64 (f.n : Int)) rfl ?_)
  refine iRet (ok_impl_isMask f.n (m : Int) (by omega) w2) fun w3 x3 => ?_
  rw [maskB_nat hm, decide_eq_true (by omega : f.n ≤ 30)]
  exact iNot (iCndF rfl ⟨rfl, (x1.trans x2).trans x3⟩)
theorem ok_impl_PartOfPoset {f : Fr} (hP : Po f) {v : Value} {w : World} (hs : SlN w v f.a) {m : Nat} (hm : m < 2 ^ f.n) : Cal Tryz.prog f_impl_PartOfPoset #[.agg #[.int .i64 (f.n : Int), v], .int .i64 (m : Int)] w fun r w' => Ext w w' ∧ ∃ v', r = .tuple #[.agg #[.int .i64 ((partFr f m).n : Int), v'], .int .i64 0] ∧ Ow w.heap.size t_i64 w' v' (ints (nats (partFr f m).a)) := by
  apply c_impl_PartOfPoset; unfold S_impl_PartOfPoset
  refine iNew fun b w1 hb x1 hB => ?_
  have hB : Blk _ w1 b [.int .i64 (f.n : Int), v] := hB
  refine iNew fun b4 w2 hb4 x2 hB4 => ?_
  have hB := hB.ext x2
  refine iLdA hB rfl ?_
  refine iRet (ok_impl_posetCode hP (hs.ext (x1.trans x2)) hm) fun w3 x3 => ?_
  refine iNe (iCndF (decide_eq_false (by omega)) ?_)
  refine iLdA (hB.ext x3) rfl ?_
  have X3 := (x1.trans x2).trans x3
  refine iCall ((ok_impl_Poset_on hP.ok (hs.ext X3) m hm).mono ?_)
  rintro _ w6 ⟨x6, v', rfl, ho⟩
  have hs3 := X3.size
  have hs2 := (x2.trans x3).size
  have hne : v'.ownBlock ≠ some b4 := fun e => by have := (ho.blk b4 e).1; have := x3.size; omega
  refine iStAB (((hB4.ext x3).ext x6)) rfl rfl (ho.pair _) fun w7 hu7 hB7 => ?_
  have hs1 := x1.size
  exact iLdA hB7 rfl ⟨(X3.trans x6).upd hu7 (by omega), v', rfl, (ho.mono hs3).upd hu7 hne⟩
end Go.Proofs.YtikfhibcdhdglaaGreat

/- The compiler of Vc for bodies that range over a function, and for functions that call yield. Conditions: none. -/
namespace Go.Vc
/-- Outside a loop's round, or in it. -/
def fc : Option Nat → Fence
  | none => Fence.wide
  | some l => Fence.wide.inRound l
theorem fc_fn (r : Option Nat) (f : FuncId) : (fc r).fn f := by cases r <;> trivial
theorem fc_depth (r : Option Nat) : (fc r).depth = none := by cases r <;> rfl
theorem fc_round (r : Option Nat) : (fc r).round = r := by cases r <;> rfl
section
variable {P : Program}
theorem callsIn_fc (r : Option Nat) {n : Nat} {f : FuncId} {args : Array Value} {w : World} {R : Ending → World → Prop} (h : Calls P f args w R) : CallsIn (fc r) n P f args w R := by
  cases r with
  | none => exact callsIn_wide.2 h
  | some l => exact CallsIn.inRound l (callsIn_wide.2 h)
theorem rowsIn_fc (r : Option Nat) {n : Nat} {row : String} {args : Array Value} {w : World} {R : Value → World → Prop} (h : Rows P row args w R) : RowsIn (fc r) n P row args w R := by
  intro c cs _
  obtain ⟨v, w', hR, hs⟩ := h c cs
  have := stepsIn_wide.2 hs
  cases r <;> exact ⟨v, w', hR, this⟩
theorem roundIn_fc (r : Option Nat) {n m : Nat} {l : Nat} {f : FuncId} {tmps : Array Value} {assign body : Code} {w : World} {R : Ending → World → Prop} (h : RoundIn Fence.wide m P l f tmps assign body w R) : RoundIn (fc r) n P l f tmps assign body w R := by
  refine ⟨fc_fn r f, fun c cs _ => ?_⟩
  have := h.2 c cs (room_wide _)
  cases r <;> exact this
theorem opIn_of_wp (r : Option Nat) {n : Nat} {o : Oper} {a : Act} {w : World} {K : Act → World → Prop} {Q : Exit → Act → World → Prop} (hd : ∀ c, o.op ≠ .defer c) (h : o.wp P a w K Q) : o.wpIn (fc r) n P a w K Q := by
  unfold Oper.wp at h
  unfold Oper.wpIn
  refine ⟨fun f _ => fc_fn r f, ?_⟩
  have e : o.semAt (fc r).round a.eval = execOp a.eval o := by
    rw [fc_round]
    cases r with
    | none => exact Oper.semAt_none _ _
    | some l => exact Oper.semAt_some l _ _ hd
  rw [e]
  generalize (execOp a.eval o).run P w = x at *
  have hdep : (fc r).depth.isSome = true → 1 ≤ n := fun h => by rw [fc_depth] at h; cases h
  cases x with
  | ok nx w' =>
    cases nx <;> simp only [Oper.upon, Oper.uponIn] at h ⊢ <;>
      first
        | exact h
        | exact ⟨hdep, callsIn_fc r h⟩
        | exact ⟨hdep, rowsIn_fc r h⟩
        | exact h.elim
  | halt x w' => cases x <;> simp only [Oper.upon, Oper.uponIn] at h ⊢ <;> exact h

/-- A call of a function value that may be a loop's yield. -/
def callY (P : Program) (fv : Value) (args : List Value) (w : World) (K : Value → World → Prop) : Prop :=
  callV P fv args w K ∨ ∃ l, fv = .func (.yield l) #[] #[] ∧ YieldAt Fence.wide 0 P l args.toArray w fun e w' => ∃ v, e = .returned v ∧ K v w'
theorem callY.mono {fv : Value} {args : List Value} {w : World} {K K' : Value → World → Prop} (h : callY P fv args w K) (hk : ∀ v w', K v w' → K' v w') : callY P fv args w K' := by
  rcases h with h | ⟨l, hv, fn, tmps, assign, body, hy, hr⟩
  · exact .inl (h.mono hk)
  · exact .inr ⟨l, hv, fn, tmps, assign, body, hy, hr.mono fun e w' ⟨v, he, h⟩ => ⟨v, he, hk _ _ h⟩⟩
def isYC (o : Oper) : Option (Operand × Array Operand) :=
  match o.op with
  | .call c => (match c.callee with
    | .value (.tmp t) => some (.tmp t, c.args)
    | _ => none)
  | _ => none
def hardY (P : Program) (o : Oper) (env : Env) (w : World) (K : Value → World → Prop) : Prop :=
  match isYC o with
  | some (f, args) => callY P (ev env f) (evs env args) w K
  | none => hardD P o env w K
theorem hardD_nodefer {o : Oper} {env : Env} {w : World} {K : Value → World → Prop} (h : hardD P o env w K) : ∀ c, o.op ≠ .defer c := by
  intro c e
  unfold hardD at h
  rw [e] at h
  exact h
theorem soft_nodefer {o : Oper} (h : isSoftIn P o = true) : ∀ c, o.op ≠ .defer c := by
  intro c e
  unfold isSoftIn at h
  rw [e] at h
  simp only [isSoft] at h
  rw [e] at h
  cases h
theorem hardY_ok (r : Option Nat) {o : Oper} {env : Env} {a : Act} {w : World} {K : Value → World → Prop} {Q : Exit → Act → World → Prop} (he : a.eval = ev env) (h : hardY P o env w K) : o.wpIn (fc r) 0 P a w (Nx o a K) Q := by
  unfold hardY at h
  split at h
  · rename_i f args hy
    obtain ⟨dst, op, type, pos, after, guard⟩ := o
    unfold isYC at hy
    split at hy
    · rename_i c hop
      have hop : op = .call c := hop
      subst hop
      obtain ⟨callee, cargs, argTypes⟩ := c
      split at hy
      · rename_i t hc
        have hc : callee = .value (.tmp t) := hc
        subst hc
        injection hy with hy
        injection hy with h1 h2
        subst h1; subst h2
        have hex : execOp a.eval ⟨dst, .call ⟨.value (.tmp t), cargs, argTypes⟩, type, pos, after, guard⟩ = (do let d ← Deferred.ofValue (ev env (.tmp t)) (evs env cargs).toArray; invoke d.target d.args) := by
          rw [evs_eq he, ← he]
          simp only [execOp, resolve]
        rcases h with h | ⟨l, hv, fn, tmps, assign, body, hyr, hr⟩
        · exact opIn_of_wp r (by intro c e; cases e) (upon_call hex h)
        · unfold Oper.wpIn
          refine ⟨fun f _ => fc_fn r f, ?_⟩
          have e : (⟨dst, .call ⟨.value (.tmp t), cargs, argTypes⟩, type, pos, after, guard⟩ : Oper).semAt (fc r).round a.eval = execOp a.eval ⟨dst, .call ⟨.value (.tmp t), cargs, argTypes⟩, type, pos, after, guard⟩ := by
            rw [fc_round]
            cases r with
            | none => exact Oper.semAt_none _ _
            | some l => exact Oper.semAt_some l _ _ (by intro c e; cases e)
          rw [e, hex, hv]
          have e2 : (do let d ← Deferred.ofValue (.func (.yield l) #[] #[]) (evs env cargs).toArray; invoke d.target d.args : Sem Next).run P w = (Instr.yield l (evs env cargs).toArray).run P w := by
            simp [Deferred.ofValue, invoke]
          rw [e2, hyr, Oper.uponIn_round]
          refine ⟨(fun h => by rw [fc_depth] at h; cases h), (roundIn_fc r hr).mono ?_⟩
          rintro e w' ⟨v, rfl, hK⟩
          exact ⟨v, rfl, hK⟩
      · cases hy
    · cases hy
  · exact opIn_of_wp r (hardD_nodefer h) (hard_ok he h)

/-! ### An activation with marks among its deferred calls -/
def mkD (D : Nat) : Deferred := { target := .collected D, args := #[] }
structure AgY (n : Nat) (ds : List Nat) (env : Env) (a : Act) : Prop where
  defers : a.defers = ds.map mkD
  ag : Ag n env { a with defers := [] }
variable {n : Nat}
theorem AgY.eval {ds : List Nat} {env : Env} {a : Act} (h : AgY n ds env a) : a.eval = ev env := by
  have := h.ag.eval
  rw [← this]; rfl
theorem putY_ok {ds : List Nat} {env : Env} {a : Act} {W : List Nat} {dst : Option Nat} {v : Value} {kb : Option (Option Bool)} {K : Env → Prop} (h : putD n env dst v kb K) (ha : AgY n ds env a) (hk : ∀ b, kb = some b → v = kv b) (hW : ∀ d, dst = some d → d ∈ W) :
    ∃ env', K env' ∧ AgY n ds env' (a.put dst v) ∧ Same W env env' := by
  obtain ⟨env', h1, h2, h3⟩ := putD_ok h ha.ag hk hW
  exact ⟨env', h1, ⟨by cases dst <;> exact ha.defers, by cases dst <;> exact h2⟩, h3⟩

/-- The operations of a region in the text's order; calls of function values may be calls of yield. -/
def opsY (P : Program) (n : Nat) (ops : Array Oper) : List Oper → Env → World → Cont → Prop
  | [], env, w, K => K env w
  | o :: r, env, w, K => wantD ops o env
    (fun env => match isSoftIn P o with
      | true => softD P o env w fun v kb => putD n env o.dst v kb fun env' => opsY P n ops r env' w K
      | false => hardY P o env w fun v w' => putD n env o.dst v none fun env' => opsY P n ops r env' w' K)
    (fun env => putD n env o.dst undef (some none) fun env' => opsY P n ops r env' w K)
theorem opsY_ok (r : Option Nat) {ops : Array Oper} {W : List Nat} {ds : List Nat} {Q : Exit → Act → World → Prop} {K : Cont} : ∀ (l : List Oper) (env : Env) (a : Act) (w : World),
    opsY P n ops l env w K → AgY n ds env a → (∀ o ∈ l, ∀ d, o.dst = some d → d ∈ W) →
    (∀ env' a' w', K env' w' → AgY n ds env' a' → Same W env env' → Q .normal a' w') → wpListIn (fc r) 0 P ops Q l a w := by
  intro l
  induction l with
  | nil => intro env a w h ha _ hq; exact hq env a w h ha (Same.refl _ _)
  | cons o rs ih =>
    intro env a w h ha hW hq
    have hWo : ∀ d, o.dst = some d → d ∈ W := hW o (by simp)
    have hWr : ∀ o ∈ rs, ∀ d, o.dst = some d → d ∈ W := fun o' ho => hW o' (by simp [ho])
    obtain ⟨env1, ha1, hs1, hc⟩ := wantD_ok (a := { a with defers := [] }) h ha.ag W
    have ha1 : AgY n ds env1 a := ⟨ha.defers, ha1⟩
    have next : ∀ {env2 : Env} {a' w'}, opsY P n ops rs env2 w' K → AgY n ds env2 a' → Same W env1 env2 → wpListIn (fc r) 0 P ops Q rs a' w' := fun {env2 a' w'} h2 ha2 hs2 =>
      ih env2 a' w' h2 ha2 hWr fun env' a' w' hK hA hS => hq env' a' w' hK hA ((hs1.trans hs2).trans hS)
    unfold wpListIn
    rcases hc with ⟨hw, hA⟩ | ⟨hw, hB⟩
    · have hw : Region.wanted o (yielded ops a.tmps) = true := hw
      rw [if_pos hw]
      split at hA
      · rename_i hsoft
        obtain ⟨v, kb, hrun, hp, hkb⟩ := soft_ok ha1.eval ha1.ag.ok hsoft hA
        refine opIn_of_wp r (soft_nodefer hsoft) ?_
        unfold Oper.wp
        rw [hrun w (Ext.refl w), Oper.upon_value]
        obtain ⟨env2, h2, ha2, hs2⟩ := putY_ok hp ha1 hkb hWo
        exact next h2 ha2 hs2
      · have := hardY_ok (Q := Q) r ha1.eval hA
        refine Oper.wpIn_mono (fun a' w' ⟨v, he, hp⟩ => ?_) this
        obtain ⟨env2, h2, ha2, hs2⟩ := putY_ok hp ha1 (fun b e => by cases e) hWo
        rw [he]
        exact next h2 ha2 hs2
    · have hw : Region.wanted o (yielded ops a.tmps) = false := hw
      rw [if_neg (by rw [hw]; simp)]
      obtain ⟨env2, h2, ha2, hs2⟩ := putY_ok hB ha1 (fun b e => by cases e; rfl) hWo
      exact ⟨fun f _ => fc_fn r f, next h2 ha2 hs2⟩

/-! ### Code -/
abbrev ContY := List Nat → Env → World → Prop
/-- The block D of a loop's deferred calls is open and empty. -/
def Dfo (D : Nat) (w : World) : Prop := w.heap[D]? = some (.deferred (some []))
/-- A range over a function: the function is called with a yield of which no more is known than that it does a round. -/
def xRng (P : Program) (fv : Value) (np : Nat) (w : World) (B : Nat → (World → Prop) → (World → Prop) → (Ex → World → Prop) → List Value → World → (Value → World → Prop) → Prop) (K : Nat → World → Prop) (KE : Nat → Nat → World → Prop) (KR : Nat → World → Prop) : Prop :=
  ∃ gf lb, fv = .func (.func gf) #[] lb ∧ HasB P gf ∧ ∀ (l : Nat) (LR LB : World → Prop) (LX : Ex → World → Prop) (w1 : World),
    l = w.heap.size + 1 → w1.heap.size = w.heap.size + 2 → Ext w w1 → LR w1 →
    (∀ (S : Nat → Prop) (W W' : World), Ch S W W' → ¬ S l → ¬ S w.heap.size → (LR W → LR W') ∧ (LB W → LB W') ∧ ∀ e, LX e W → LX e W') →
    (∀ args W T, LR W → args.length = np → B l LR LB LX args W T → callY P (.func (.yield l) #[] #[]) args W T) →
    Cal P gf (#[.func (.yield l) #[] #[]] ++ lb) w1 fun _ W2 =>
      (LR W2 ∧ ∀ W3, Ch (fun c => c = l) W2 W3 → Dfo w.heap.size W3 → K w.heap.size W3) ∨
      (∃ i, LX (.ext i) W2 ∧ ∀ W3, Ch (fun c => c = l) W2 W3 → Dfo w.heap.size W3 → KE i w.heap.size W3) ∨ (LX .ret W2 ∧ ∀ W3, Ch (fun c => c = l) W2 W3 → Dfo w.heap.size W3 → KR w.heap.size W3)
def natE (i j : Nat) (A B : Prop) : Prop := match Nat.beq i j with
  | true => A
  | false => B
/-- How a round ends. -/
def rdT (ex : Ex) (l : Nat) (LR : World → Prop) (LX : Ex → World → Prop) (T : Value → World → Prop) (W : World) : Prop :=
  match ex with
  | .nrm => ∀ W', Ch (fun c => c = l) W W' → LR W' → T (.bool true) W'
  | e => ∀ W', Ch (fun c => c = l) W W' → LX e W' → T (.bool false) W'
def thenY (next : ContY) (Q : Ex → ContY) : Ex → ContY
  | .nrm, ds, env, w => next ds env w
  | e, ds, env, w => Q e ds env w
def blockY (id : Nat) (Q : Ex → ContY) : Ex → ContY
  | .ext i, ds, env, w => match Nat.beq i id with
    | true => Q .nrm ds env w
    | false => Q (.ext i) ds env w
  | e, ds, env, w => Q e ds env w
def denY (P : Program) (n : Nat) : Bool → Code → Hint → (Ex → ContY) → List Nat → Env → World → Prop
  | _, .skip, _, Q, ds, env, w => Q .nrm ds env w
  | _, .label _, _, Q, ds, env, w => Q .nrm ds env w
  | _, .ret, _, Q, ds, env, w => Q .ret ds env w
  | _, .exit id, _, Q, ds, env, w => Q (.ext id) ds env w
  | _, .region _ ops false, h, Q, ds, env, w => match hK h with
    | none => opsY P n ops ops.toList env w (Q .nrm ds)
    | some keep => joinD n keep (dsts ops.toList) env (Q .nrm ds) fun J => opsY P n ops ops.toList env w J
  | false, .region id ops true, h, Q, [], env, w => den P n (.region id ops true) h (fun e => Q e []) env w
  | r, .seq a b, h, Q, ds, env, w => denY P n r a (hL h) (thenY (denY P n r b (hR h) Q) Q) ds env w
  | r, .cond c x y, h, Q, ds, env, w => condD env c (fun env => denY P n r x (hL h) Q ds env w) (fun env => denY P n r y (hR h) Q ds env w)
  | r, .block id b, h, Q, ds, env, w => denY P n r b h (blockY id Q) ds env w
  | r, .loop b, h, Q, ds, env, w => match slotsOk n ((hK h).getD []) && slotsOk n (wr b) with
    | true => lp (fun Kn xs w => ∀ ys : Nat → Value, denY P n r b (hL h) (thenY (fun ds' env' w' => ds' = ds ∧ Kn (getK ((hK h).getD []) env') w') Q) ds (bindK ((hK h).getD []) 0 xs (bindY (wr b) ys env)) w) (getK ((hK h).getD []) env) w
    | false => False
  | false, .rangeFunc g ps assign body, h, Q, [], env, w => match ps.toList with
    | [p] => (match Nat.blt p n with
      | true => xRng P (ev env g) 1 w (fun l LR LB LX args W T => denY P n true assign .leaf (fun ex ds env2 W2 => match ex with
        | .nrm => ds = [] ∧ LR W2 ∧ ∀ Wb, Ch (fun c => c = l) W2 Wb → LB Wb → denY P n true body h (fun ex ds _ W' => ds = [] ∧ LB W' ∧ rdT ex l LR LX T W') [] env2 Wb
        | _ => False) [] (⟨p, gx args 0, none⟩ :: env) W) (fun d W => Q .nrm [d] env W) (fun i d W => Q (.ext i) [d] env W) (fun d W => Q .ret [d] env W)
      | false => False)
    | _ => False
  | _, _, _, _, _, _, _ => False
/-- What is reached by a piece of code. -/
def RchY (n : Nat) (W : List Nat) (env : Env) (Q : Ex → ContY) : Exit → Act → World → Prop :=
  fun e a w => ∃ ex ds env', exOf e = some ex ∧ Q ex ds env' w ∧ AgY n ds env' a ∧ Same W env env'
theorem RchY.weaken {W W' : List Nat} {env env1 : Env} {Q : Ex → ContY} (hS : Same W' env env1) (hW : ∀ s, s ∈ W → s ∈ W') {e : Exit} {a : Act} {w : World} (h : RchY n W env1 Q e a w) : RchY n W' env Q e a w := by
  obtain ⟨ex, ds, env', h1, h2, h3, h4⟩ := h
  exact ⟨ex, ds, env', h1, h2, h3, hS.trans (h4.mono hW)⟩
theorem putObj_ch {w : World} {l : Nat} {o : Obj} : Ch (fun c => c = l) w (w.putObj l o) :=
  ⟨rfl, rfl, rfl, by rw [World.putObj_size]; exact Nat.le_refl _, fun _ _ h => World.putObj_heap_other h⟩
def codeOf : Ex → Code
  | .nrm => .skip
  | .ext i => .exit i
  | .ret => .ret
theorem denY_ok (hm : P.follows .mixedOrders = true) : ∀ (c : Code) (r : Option Nat) (h : Hint) (Q : Ex → ContY) (ds : List Nat) (env : Env) (a : Act) (w : World), (r = none → noSel c = true) → denY P n r.isSome c h Q ds env w → AgY n ds env a →
    c.wpIn (fc r) 0 P (RchY n (wr c) env Q) a w := by
  intro c
  induction c with
  | skip => intro r h Q ds env a w _ hd ha; cases r <;> exact wpIn_skip ⟨.nrm, ds, env, rfl, hd, ha, Same.refl _ _⟩
  | label l => intro r h Q ds env a w _ hd ha; cases r <;> exact wpIn_label ⟨.nrm, ds, env, rfl, hd, ha, Same.refl _ _⟩
  | ret => intro r h Q ds env a w _ hd ha; cases r <;> exact wpIn_ret ⟨.ret, ds, env, rfl, hd, ha, Same.refl _ _⟩
  | exit id => intro r h Q ds env a w _ hd ha; cases r <;> exact wpIn_exit ⟨.ext id, ds, env, rfl, hd, ha, Same.refl _ _⟩
  | goto => intro r h Q ds env a w _ hd _; cases r <;> exact hd.elim
  | refuse => intro r h Q ds env a w _ hd _; cases r <;> exact hd.elim
  | scope => intro r h Q ds env a w _ hd _; cases r <;> exact hd.elim
  | region id ops draw =>
    intro r h Q ds env a w hns hd ha
    cases draw with
    | false =>
      have hd : (match hK h with
        | none => opsY P n ops ops.toList env w (Q .nrm ds)
        | some keep => joinD n keep (dsts ops.toList) env (Q .nrm ds) fun J => opsY P n ops ops.toList env w J) := by cases r <;> exact hd
      refine wpIn_region_list ?_
      split at hd
      · exact opsY_ok r (W := dsts ops.toList) ops.toList env a w hd ha (fun o ho d hd => List.mem_filterMap.2 ⟨o, ho, hd⟩) fun env' a' w' hK hA hS => ⟨.nrm, ds, env', rfl, hK, hA, hS⟩
      · obtain ⟨J, hJ, hK⟩ := joinD_ok hd ha.ag.ok
        refine opsY_ok r (W := dsts ops.toList) ops.toList env a w hJ ha (fun o ho d hd => List.mem_filterMap.2 ⟨o, ho, hd⟩) fun env' a' w' hj hA hS => ?_
        obtain ⟨env2, h1, h2, h3⟩ := hK env' { a' with defers := [] } w' hj hA.ag hS
        exact ⟨.nrm, ds, env2, rfl, h1, ⟨hA.defers, h2⟩, h3⟩
    | true =>
      cases r with
      | some l => exact hd.elim
      | none =>
        cases ds with
        | cons d ds => exact hd.elim
        | nil =>
          have hd : den P n (.region id ops true) h (fun e => Q e []) env w := hd
          have hA : Ag n env a := by
            have h1 := ha.ag
            have h2 : a.defers = [] := ha.defers
            exact ⟨h2, h1.size, h1.vals, h1.ok⟩
          refine wpIn_wide.2 (wp_mono (den_ok hm _ h _ env a w (hns rfl) hd hA) fun e a' w' hr => ?_)
          obtain ⟨ex, env', h1, h2, h3, h4⟩ := hr
          exact ⟨ex, [], env', h1, h2, ⟨h3.defers, ⟨rfl, h3.size, h3.vals, h3.ok⟩⟩, h4⟩
  | seq x y ihx ihy =>
    intro r h Q ds env a w hns hd ha
    have hns1 : r = none → noSel x = true := fun h => by have := hns h; simp only [noSel, Bool.and_eq_true] at this; exact this.1
    have hns2 : r = none → noSel y = true := fun h => by have := hns h; simp only [noSel, Bool.and_eq_true] at this; exact this.2
    have hd : denY P n r.isSome x (hL h) (thenY (denY P n r.isSome y (hR h) Q) Q) ds env w := by cases r <;> exact hd
    refine wpIn_seq (wpIn_mono (ihx r (hL h) _ ds env a w hns1 hd ha) fun e a' w' hr => ?_)
    obtain ⟨ex, ds', env', h1, h2, h3, h4⟩ := hr
    have h4' : Same (wr (.seq x y)) env env' := h4.mono fun s hs => by simp [wr, hs]
    cases e <;> simp only [exOf, Option.some.injEq] at h1 <;> first | (cases h1; done) | skip
    · subst h1
      exact wpIn_mono (ihy r (hR h) Q ds' env' a' w' hns2 h2 h3) fun e a w hr => hr.weaken h4' fun s hs => by simp [wr, hs]
    · subst h1; exact ⟨_, ds', env', rfl, h2, h3, h4'⟩
    · subst h1; exact ⟨_, ds', env', rfl, h2, h3, h4'⟩
  | cond c x y ihx ihy =>
    intro r h Q ds env a w hns hd ha
    have hns1 : r = none → noSel x = true := fun h => by have := hns h; simp only [noSel, Bool.and_eq_true] at this; exact this.1
    have hns2 : r = none → noSel y = true := fun h => by have := hns h; simp only [noSel, Bool.and_eq_true] at this; exact this.2
    have hd : condD env c (fun env => denY P n r.isSome x (hL h) Q ds env w) (fun env => denY P n r.isSome y (hR h) Q ds env w) := by cases r <;> exact hd
    obtain ⟨b, env', hb, hA, hS, hr⟩ := condD_ok hd ha.ag (wr x ++ wr y)
    have hA : AgY n ds env' a := ⟨ha.defers, hA⟩
    have hb : a.eval c = .bool b := hb
    cases b
    · exact wpIn_cond hb (wpIn_mono (ihy r (hR h) Q ds env' a w hns2 (by simpa using hr) hA) fun e a w hr => hr.weaken hS fun s hs => by simp [hs])
    · exact wpIn_cond hb (wpIn_mono (ihx r (hL h) Q ds env' a w hns1 (by simpa using hr) hA) fun e a w hr => hr.weaken hS fun s hs => by simp [hs])
  | block id b ih =>
    intro r h Q ds env a w hns hd ha
    have hd : denY P n r.isSome b h (blockY id Q) ds env w := by cases r <;> exact hd
    refine wpIn_block (wpIn_mono (ih r h _ ds env a w hns hd ha) fun e a' w' hr => ?_)
    obtain ⟨ex, ds', env', h1, h2, h3, h4⟩ := hr
    cases e <;> simp only [exOf, Option.some.injEq] at h1 <;> first | (cases h1; done) | skip
    · subst h1; exact ⟨_, ds', env', rfl, h2, h3, h4⟩
    · rename_i i
      subst h1
      simp only [Exit.inBlock, blockY] at h2 ⊢
      split at h2
      · rename_i e
        rw [if_pos (Nat.eq_of_beq_eq_true e)]
        exact ⟨.nrm, ds', env', rfl, h2, h3, h4⟩
      · rename_i e
        rw [if_neg (fun h => by subst h; simp at e)]
        exact ⟨_, ds', env', rfl, h2, h3, h4⟩
    · subst h1; exact ⟨_, ds', env', rfl, h2, h3, h4⟩
  | loop b ih =>
    intro r h Q ds env a w hns hd ha
    have hd : (match slotsOk n ((hK h).getD []) && slotsOk n (wr b) with
      | true => lp (fun Kn xs w => ∀ ys : Nat → Value, denY P n r.isSome b (hL h) (thenY (fun ds' env' w' => ds' = ds ∧ Kn (getK ((hK h).getD []) env') w') Q) ds (bindK ((hK h).getD []) 0 xs (bindY (wr b) ys env)) w) (getK ((hK h).getD []) env) w
      | false => False) := by cases r <;> exact hd
    split at hd
    · obtain ⟨I, ⟨m0, h0⟩, hround⟩ := hd
      generalize hkk : (hK h).getD [] = keep at *
      refine wpIn_loop_ghost (fun m a' w' => ∃ env', AgY n ds env' a' ∧ Same (wr b) env env' ∧ I m (getK keep env') w') m0 ⟨env, ha, Same.refl _ _, h0⟩ ?_
      rintro m a' w' ⟨env', ha', hS', hI⟩
      have hb := hround m (getK keep env') w' hI (look env')
      refine wpIn_mono (ih r (hL h) _ ds _ a' w' hns hb ⟨ha'.defers, ha'.ag.rebind hS' ha.ag.ok⟩) fun e a2 w2 hr => ?_
      obtain ⟨ex, ds2, env2, h1, h2, h3, h4⟩ := hr
      have hS2 : Same (wr b) env env2 := (same_rebind hS').trans h4
      cases e <;> simp only [exOf, Option.some.injEq] at h1 <;> first | (cases h1; done) | skip
      · subst h1
        obtain ⟨rfl, m', hlt, hI2⟩ := h2
        exact ⟨m', hlt, env2, h3, hS2, hI2⟩
      · subst h1; exact ⟨_, ds2, env2, rfl, h2, h3, hS2⟩
      · subst h1; exact ⟨_, ds2, env2, rfl, h2, h3, hS2⟩
    · exact hd.elim
  | rangeFunc g ps assign body iha ihb =>
    intro r h Q ds env a w _ hd ha
    cases r with
    | some l => exact hd.elim
    | none =>
    cases ds with
    | cons d ds => exact hd.elim
    | nil =>
    obtain ⟨p, rfl, hp, hd⟩ : ∃ p, ps = #[p] ∧ p < n ∧ xRng P (ev env g) 1 w (fun l LR LB LX args W T => denY P n true assign .leaf (fun ex ds env2 W2 => match ex with
        | .nrm => ds = [] ∧ LR W2 ∧ ∀ Wb, Ch (fun c => c = l) W2 Wb → LB Wb → denY P n true body h (fun ex ds _ W' => ds = [] ∧ LB W' ∧ rdT ex l LR LX T W') [] env2 Wb
        | _ => False) [] (⟨p, gx args 0, none⟩ :: env) W) (fun d W => Q .nrm [d] env W) (fun i d W => Q (.ext i) [d] env W) (fun d W => Q .ret [d] env W) := by
      obtain ⟨ps⟩ := ps
      cases ps with
      | nil => exact hd.elim
      | cons p rs =>
        cases rs with
        | cons _ _ => exact hd.elim
        | nil =>
          have hd : (match Nat.blt p n with
            | true => xRng P (ev env g) 1 w (fun l LR LB LX args W T => denY P n true assign .leaf (fun ex ds env2 W2 => match ex with
              | .nrm => ds = [] ∧ LR W2 ∧ ∀ Wb, Ch (fun c => c = l) W2 Wb → LB Wb → denY P n true body h (fun ex ds _ W' => ds = [] ∧ LB W' ∧ rdT ex l LR LX T W') [] env2 Wb
              | _ => False) [] (⟨p, gx args 0, none⟩ :: env) W) (fun d W => Q .nrm [d] env W) (fun i d W => Q (.ext i) [d] env W) (fun d W => Q .ret [d] env W)
            | false => False) := hd
          cases hb : Nat.blt p n with
          | false => rw [hb] at hd; exact hd.elim
          | true => rw [hb] at hd; exact ⟨p, rfl, Nat.le_of_ble_eq_true hb, hd⟩
    obtain ⟨gf, lb, hg, hb, hd⟩ := hd
    refine wpIn_rangeFunc ?_
    intro fn hfn
    obtain ⟨rec, hrec⟩ : ∃ rec : LoopState → Option Code → Loop, rec = fun st pe => { state := st, pending := pe, fn, tmps := a.tmps, params := #[p], assign, body, defers := w.heap.size } := ⟨_, rfl⟩
    obtain ⟨W1, hW1⟩ : ∃ W1, (w.alloc (.deferred (some []))).alloc (.loop (rec .ready none)) = W1 := ⟨_, rfl⟩
    have hL1 : W1.heap[w.heap.size + 1]? = some (.loop (rec .ready none)) := by
      rw [← hW1]; have := World.alloc_heap_new (w.alloc (.deferred (some []))) (.loop (rec .ready none)); rwa [World.size_alloc] at this
    have hK1 : W1.heap[w.heap.size]? = some (.deferred (some [])) := by
      rw [← hW1]; exact (Go.RowKit.Below.heap_alloc _ _ _ (by simp)).trans (World.alloc_heap_new w _)
    have hcal := hd (w.heap.size + 1) (fun W => W.heap[w.heap.size + 1]? = some (.loop (rec .ready none)) ∧ Dfo w.heap.size W) (fun W => W.heap[w.heap.size + 1]? = some (.loop (rec .busy none)) ∧ Dfo w.heap.size W)
      (fun e W => e ≠ .nrm ∧ W.heap[w.heap.size + 1]? = some (.loop (rec .done (some (codeOf e)))) ∧ Dfo w.heap.size W) W1 rfl (by rw [← hW1]; simp) (by rw [← hW1]; exact (Ext.alloc w _).trans (Ext.alloc _ _)) ⟨hL1, hK1⟩ ?_ ?_
    · refine ⟨w.heap.size + 1, [{ target := .collected w.heap.size, args := #[] }], W1, { target := .fn (.func gf) lb, args := #[.func (.yield (w.heap.size + 1)) #[] #[]] }, W1, gf,
        #[.func (.yield (w.heap.size + 1)) #[] #[]] ++ lb, W1, ?_, ?_, ?_, ?_, (fun h => by rw [fc_depth] at h; cases h), ?_⟩
      · rw [← hW1, hrec]; exact run_enterLoop_outer _ _ _ _ _
      · have hg' : a.eval g = .func (.func gf) #[] lb := by rw [ha.eval]; exact hg
        simp only [resolve, hg']
        simp [go_sem]
      · intro f' _; exact fc_fn none f'
      · simp [invoke, go_sem, callFunc_run hb]
      · refine callsIn_fc none (hcal.2.mono ?_)
        rintro _ W2 ⟨v, rfl, h2⟩
        have hA : AgY n [w.heap.size] env { a with defers := [{ target := .collected w.heap.size, args := #[] }] ++ a.defers } := ⟨by rw [ha.defers]; rfl, ha.ag⟩
        rcases h2 with ⟨⟨hl, hk⟩, hQ⟩ | ⟨i, ⟨hne, hl, hk⟩, hQ⟩ | ⟨⟨hne, hl, hk⟩, hQ⟩
        · have hlt := (Array.getElem?_eq_some_iff.1 hl).1
          refine ⟨none, _, by have := run_endLoop (P := P) hl (by rw [hrec]; simp); rw [hrec] at this; exact this, ⟨.nrm, [w.heap.size], env, rfl, hQ _ putObj_ch ((World.putObj_heap_other (by omega)).trans hk), hA, Same.refl _ _⟩⟩
        · have hend := run_endLoop (P := P) hl (by rw [hrec]; simp)
          have hq := hQ _ putObj_ch ((World.putObj_heap_other (o := .loop { rec .done (some (codeOf (.ext i))) with state := .exhausted }) (by omega)).trans hk)
          rw [hrec] at hend hq
          exact ⟨some (.exit i), _, hend, wpIn_exit ⟨.ext i, [w.heap.size], env, rfl, hq, hA, Same.refl _ _⟩⟩
        · have hend := run_endLoop (P := P) hl (by rw [hrec]; simp)
          have hq := hQ _ putObj_ch ((World.putObj_heap_other (o := .loop { rec .done (some (codeOf .ret)) with state := .exhausted }) (by omega)).trans hk)
          rw [hrec] at hend hq
          exact ⟨some .ret, _, hend, wpIn_ret ⟨.ret, [w.heap.size], env, rfl, hq, hA, Same.refl _ _⟩⟩
    · intro S W W' hch h1 h0
      have hk : ∀ k o, ¬ S k → W.heap[k]? = some o → W'.heap[k]? = some o := fun k o hn ho => (hch.block k (Array.getElem?_eq_some_iff.1 ho).1 hn).trans ho
      exact ⟨fun h => ⟨hk _ _ h1 h.1, hk _ _ h0 h.2⟩, fun h => ⟨hk _ _ h1 h.1, hk _ _ h0 h.2⟩, fun e h => ⟨h.1, hk _ _ h1 h.2.1, hk _ _ h0 h.2.2⟩⟩
    · rintro args W T ⟨hl, hk⟩ hlen hB
      obtain ⟨v, rfl⟩ : ∃ v, args = [v] := by
        match args, hlen with
        | [v], _ => exact ⟨v, rfl⟩
      have hy := run_yield (P := P) (args := #[v]) hl (by rw [hrec]; rfl)
      rw [hrec] at hy
      refine .inr ⟨w.heap.size + 1, rfl, fn, _, assign, body, hy, roundIn_of_wpIn (F := Fence.wide) trivial ?_⟩
      have hA : AgY n [] (⟨p, gx [v] 0, none⟩ :: env) { tmps := (#[p].zip #[v]).foldl (fun t (p, v) => t.setIfInBounds p v) a.tmps, defers := [] } := by
        have := ha.ag.put hp (v := v) (k := none) (fun b e => by cases e)
        refine ⟨rfl, (show Ag n (⟨p, v, none⟩ :: env) _ from ?_)⟩
        simpa [Act.put] using this
      refine wpIn_mono (iha (some (w.heap.size + 1)) .leaf _ [] _ _ W (fun h => by cases h) hB hA) ?_
      rintro e a1 W2 ⟨ex, ds1, env1, he, hq, hA1, _⟩
      cases ex with
      | ext i => exact hq.elim
      | ret => exact hq.elim
      | nrm =>
        obtain ⟨rfl, ⟨hl2, hk2⟩, hbody⟩ := hq
        cases e <;> simp only [exOf, Option.some.injEq] at he <;> first | (cases he; done) | skip
        have hlt2 := (Array.getElem?_eq_some_iff.1 hl2).1
        have hbr := run_beginRound (P := P) hl2 (by rw [hrec])
        have hlb : (W2.putObj (w.heap.size + 1) (.loop (rec .busy none))).heap[w.heap.size + 1]? = some (.loop (rec .busy none)) := World.putObj_heap_same hlt2
        have hbr : (Instr.beginRound (w.heap.size + 1)).run P W2 = .ok () (W2.putObj (w.heap.size + 1) (.loop (rec .busy none))) := by
          rw [hbr, hrec]
        refine ⟨_, hbr, wpIn_mono (ihb (some (w.heap.size + 1)) h _ [] env1 a1 _ (fun h => by cases h) (hbody _ putObj_ch ⟨hlb, (World.putObj_heap_other (by omega)).trans hk2⟩) hA1) ?_⟩
        rintro e a3 W3 ⟨ex, ds3, env3, he, ⟨rfl, ⟨hl3, hk3⟩, hT⟩, _, _⟩
        have hlt3 := (Array.getElem?_eq_some_iff.1 hl3).1
        have fin : ∀ (jump : Option Code), (Instr.endRound (w.heap.size + 1) jump).run P W3 = .ok (.bool jump.isNone) (W3.putObj (w.heap.size + 1) (.loop (rec (if jump.isNone then .ready else .done) jump))) ∧
            (W3.putObj (w.heap.size + 1) (.loop (rec (if jump.isNone then .ready else .done) jump))).heap[w.heap.size + 1]? = some (.loop (rec (if jump.isNone then .ready else .done) jump)) ∧ Dfo w.heap.size (W3.putObj (w.heap.size + 1) (.loop (rec (if jump.isNone then .ready else .done) jump))) := fun jump => by
          have := run_endRound (P := P) jump hl3
          refine ⟨?_, World.putObj_heap_same hlt3, (World.putObj_heap_other (by omega)).trans hk3⟩
          rw [this, hrec]
        cases e <;> simp only [exOf, Option.some.injEq] at he <;> first | (cases he; done) | skip
        · subst he
          obtain ⟨f1, f2, f3⟩ := fin none
          exact ⟨_, _, f1, _, rfl, hT _ putObj_ch ⟨f2, f3⟩⟩
        · rename_i i
          subst he
          obtain ⟨f1, f2, f3⟩ := fin (some (.exit i))
          exact ⟨_, _, f1, _, rfl, hT _ putObj_ch ⟨by simp, f2, f3⟩⟩
        · subst he
          obtain ⟨f1, f2, f3⟩ := fin (some .ret)
          exact ⟨_, _, f1, _, rfl, hT _ putObj_ch ⟨by simp, f2, f3⟩⟩
/-- The end of a function: the marks among the deferred calls are taken. -/
def finY (P : Program) (fn : Func) (R : Value → World → Prop) : ContY
  | [], env, w => resD P env w fn.results.toList fun vs => R (retV vs) w
  | [d], env, w => Dfo d w ∧ ∀ w', Ch (fun c => c = d) w w' → resD P env w' fn.results.toList fun vs => R (retV vs) w'
  | _, _, _ => False
def denFY (P : Program) (fn : Func) (c : Code) (h : Hint) (args : List Value) (w : World) (R : Value → World → Prop) : Prop :=
  denY P fn.ntmps false c h (fun e ds env w => match e with
    | .nrm => finY P fn R ds env w
    | .ret => finY P fn R ds env w
    | .ext _ => False) [] (initEnv 0 args) w
theorem finY_ok {fn : Func} {R : Value → World → Prop} {ds : List Nat} {env : Env} {a : Act} {w : World} (h : finY P fn R ds env w) (ha : AgY fn.ntmps ds env a) : LeavesInM (fc none) 0 P fn a.tmps (fun e w' => ∃ v, e = .returned v ∧ R v w') a.defers .returning w := by
  match ds, h with
  | [], h =>
    rw [ha.defers]
    obtain ⟨v, hv, hR⟩ := results_ok (R := fun v => R v w) ha.ag.vals h
    exact ⟨v, hv, v, rfl, hR⟩
  | [d], h =>
    rw [ha.defers]
    obtain ⟨hd, h⟩ := h
    refine ⟨by simp, .inl ⟨_, _, rfl, run_takeDeferred hd, ?_⟩⟩
    obtain ⟨v, hv, hR⟩ := results_ok (R := fun v => R v _) ha.ag.vals (h _ putObj_ch)
    exact ⟨v, hv, v, rfl, hR⟩
/-- **A call, from the proposition that 'denY' makes.** -/
theorem cal_of_denY {f : FuncId} {fn : Func} {c : Code} {h : Hint} {args : List Value} {w : World} {R : Value → World → Prop} (hm : P.follows .mixedOrders = true)
    (hf : P.funcs[f]? = some fn) (hn : (fn.name == "runtime.NumGoroutine") = false) (hb : fn.body = some c) (hs : noSel c = true) (ha : Nat.ble args.length fn.ntmps = true)
    (hd : denFY P fn c h args w R) : Cal P f args.toArray w R := by
  refine ⟨⟨fn, hf, hn, by rw [hb]; rfl⟩, callsIn_wide.1 (callsIn_of_wp_marks (n := 0) hf hb trivial ?_ rfl)⟩
  have hle : args.length ≤ fn.ntmps := Nat.le_of_ble_eq_true ha
  have hA : Ag fn.ntmps (initEnv 0 args) { tmps := args.toArray ++ Array.replicate (fn.ntmps - args.toArray.size) undef, defers := [] } := by
    refine ⟨rfl, by simp; omega, fun s => ?_, ok_init _ _⟩
    rw [look_init]
    simp only [Nat.zero_le, if_true, Nat.sub_zero]
    by_cases h1 : s < args.length
    · simp [Array.getElem?_append, h1]
    · simp only [Array.getD_eq_getD_getElem?, Array.getElem?_append, List.size_toArray, h1, if_false]
      rw [show args.getD s undef = undef by simp [List.getD, List.getElem?_eq_none (show args.length ≤ s by omega)]]
      by_cases h2 : s - args.length < fn.ntmps - args.length
      · simp [h2]
      · simp [h2]
  refine wpIn_mono (denY_ok hm c none h _ [] _ _ w (fun _ => hs) hd ⟨rfl, hA⟩) fun e a' w' hr => ?_
  obtain ⟨ex, ds, env', h1, h2, h3, h4⟩ := hr
  cases e <;> simp only [exOf, Option.some.injEq] at h1 <;> first | (cases h1; done) | skip
  · subst h1; exact finY_ok h2 h3
  · subst h1; exact h2.elim
  · subst h1; exact finY_ok h2 h3
end
end Go.Vc

/- The plain propositions of the functions that range over a function or call a yield, by program (geny.py). Conditions: none. -/
set_option maxRecDepth 100000
namespace Go.Proofs.YtikfhibcdhdglaaGreat
open Go.Vc
/-- loop.example/g01089/impl.FollowsOn -/
abbrev f_impl_FollowsOn : FuncId := 46
def SY_impl_FollowsOn (v0 v1 v2 : Value) (w : World) (R : Value → World → Prop) : Prop :=
  xNew (Value.cells v0) 26 w fun v3 w1 =>
 xNew (Value.cells v1) 50 w1 fun v4 w2 =>
 xNew (Value.cells v2) 41 w2 fun v5 w3 =>
 xNew (Value.cells (.bool false)) 4 w3 fun v6 w4 =>
 xNew (Value.cells (.int .i64 0)) 2 w4 fun v7 w5 =>
 xLd w5 v4 fun v14 =>
 xLd w5 v5 fun v16 =>
 ∀ w6, Ext w5 w6 → (callV Tryz.prog (.func (.func 123) #[] #[]) [v14] w6 fun v15 w7 =>
 Ext w6 w7 ∧ ∀ w8, Ext w7 w8 → xBs 41 (Value.cells (.slice none 0 0)) 1 1 [(0, v16)] w8 fun v17 w9 =>
 Ext w8 w9 ∧ ∀ w10, Ext w9 w10 → xOp Tryz.prog (Builtin.append_ #[50, 50] 50 #[v15, v17]) w10 fun v18 w11 =>
 ∀ w12, Ext w11 w12 → xLdA w12 2 v3 fun v19 =>
 callV Tryz.prog (.func (.func 59) #[] #[]) [v19, v18] w12 fun v21 w13 =>
 xNe .i64 v21 (.int .i64 0) fun v23 =>
 cnd v23 (xSt w13 v6 (.bool false) fun w14 =>
 xSt w14 v7 v21 fun w15 =>
 xLd w15 v6 fun r16 =>
 xLd w15 v7 fun r17 =>
 R (.tuple #[r16, r17]) w15) (xLdA w13 2 v3 fun v25 =>
 ∀ w18, Ext w13 w18 → callV Tryz.prog (.func (.func 125) #[] #[]) [v18] w18 fun v27 w19 =>
 Ext w18 w19 ∧ ∀ w20, Ext w19 w20 → callV Tryz.prog (.func (.func 124) #[] #[]) [v25, v27] w20 fun v28 w21 =>
 ∀ w22, Ext w21 w22 → xRng Tryz.prog v28 1 w22 (fun l23 LR23 LB23 LX23 as23 W23 T23 =>
 ([] : List Nat) = [] ∧ LR23 W23 ∧ ∀ Wb23, Ch (fun c =>
 c = l23) W23 Wb23 → LB23 Wb23 → xLdA Wb23 2 v3 fun v30 =>
 callV Tryz.prog (.func (.func 126) #[] #[]) [v30] Wb23 fun v31 w24 =>
 xLd w24 v4 fun v32 =>
 xLenS v32 fun v33 =>
 lp (fun K25 xs25 w26 =>
 ∀ _ : Nat → Value, xLt .i64 (gx xs25 1) v33 fun v35 =>
 cnd v35 (xIa 1 v32 (gx xs25 1) fun v36 =>
 xLd w26 v36 fun v37 =>
 xLdA w26 2 v3 fun v39 =>
 callV Tryz.prog (.func (.func 78) #[] #[]) [v39, (gx as23 0), v37] w26 fun v42 w27 =>
 xBits iAnd .i64 (gx xs25 0) v42 fun v43 =>
 xAdd .i64 (gx xs25 1) (.int .i64 1) fun v44 =>
 ([] : List Nat) = ([] : List Nat) ∧ K25 [v43, v44] w27) (xLdA w26 2 v3 fun v46 =>
 xLd w26 v5 fun v48 =>
 callV Tryz.prog (.func (.func 78) #[] #[]) [v46, (gx as23 0), v48] w26 fun v49 w28 =>
 callV Tryz.prog (.func (.func 127) #[] #[]) [(gx xs25 0), v49] w28 fun v50 w29 =>
 xNot v50 fun v51 =>
 cnd v51 (xSt w29 v6 (.bool false) fun w30 =>
 xSt w30 v7 (.int .i64 0) fun w31 =>
 ([] : List Nat) = [] ∧ LB23 w31 ∧ rdT .ret l23 LR23 LX23 T23 w31) (([] : List Nat) = [] ∧ LB23 w29 ∧ rdT .nrm l23 LR23 LX23 T23 w29))) [v31, (.int .i64 0)] w24) (fun d23 u23 =>
 xSt u23 v6 (.bool true) fun w32 =>
 xSt w32 v7 (.int .i64 0) fun w33 =>
 Dfo d23 w33 ∧ ∀ w34, Ch (fun c =>
 c = d23) w33 w34 → xLd w34 v6 fun r35 =>
 xLd w34 v7 fun r36 =>
 R (.tuple #[r35, r36]) w34) (fun i23 d23 u23 =>
 natE i23 0 (xSt u23 v6 (.bool true) fun w40 =>
 xSt w40 v7 (.int .i64 0) fun w41 =>
 Dfo d23 w41 ∧ ∀ w42, Ch (fun c =>
 c = d23) w41 w42 → xLd w42 v6 fun r43 =>
 xLd w42 v7 fun r44 =>
 R (.tuple #[r43, r44]) w42) (False)) (fun d23 u23 =>
 Dfo d23 u23 ∧ ∀ w37, Ch (fun c =>
 c = d23) u23 w37 → xLd w37 v6 fun r38 =>
 xLd w37 v7 fun r39 =>
 R (.tuple #[r38, r39]) w37))) ∧ (xBs 41 (Value.cells (.slice none 0 0)) 1 1 [(0, v16)] w6 fun v17 w45 =>
 Ext w6 w45 ∧ ∀ w46, Ext w45 w46 → callV Tryz.prog (.func (.func 123) #[] #[]) [v14] w46 fun v15 w47 =>
 Ext w46 w47 ∧ ∀ w48, Ext w47 w48 → xOp Tryz.prog (Builtin.append_ #[50, 50] 50 #[v15, v17]) w48 fun v18 w49 =>
 ∀ w50, Ext w49 w50 → xLdA w50 2 v3 fun v19 =>
 callV Tryz.prog (.func (.func 59) #[] #[]) [v19, v18] w50 fun v21 w51 =>
 xNe .i64 v21 (.int .i64 0) fun v23 =>
 cnd v23 (xSt w51 v6 (.bool false) fun w52 =>
 xSt w52 v7 v21 fun w53 =>
 xLd w53 v6 fun r54 =>
 xLd w53 v7 fun r55 =>
 R (.tuple #[r54, r55]) w53) (xLdA w51 2 v3 fun v25 =>
 ∀ w56, Ext w51 w56 → callV Tryz.prog (.func (.func 125) #[] #[]) [v18] w56 fun v27 w57 =>
 Ext w56 w57 ∧ ∀ w58, Ext w57 w58 → callV Tryz.prog (.func (.func 124) #[] #[]) [v25, v27] w58 fun v28 w59 =>
 ∀ w60, Ext w59 w60 → xRng Tryz.prog v28 1 w60 (fun l61 LR61 LB61 LX61 as61 W61 T61 =>
 ([] : List Nat) = [] ∧ LR61 W61 ∧ ∀ Wb61, Ch (fun c =>
 c = l61) W61 Wb61 → LB61 Wb61 → xLdA Wb61 2 v3 fun v30 =>
 callV Tryz.prog (.func (.func 126) #[] #[]) [v30] Wb61 fun v31 w62 =>
 xLd w62 v4 fun v32 =>
 xLenS v32 fun v33 =>
 lp (fun K63 xs63 w64 =>
 ∀ _ : Nat → Value, xLt .i64 (gx xs63 1) v33 fun v35 =>
 cnd v35 (xIa 1 v32 (gx xs63 1) fun v36 =>
 xLd w64 v36 fun v37 =>
 xLdA w64 2 v3 fun v39 =>
 callV Tryz.prog (.func (.func 78) #[] #[]) [v39, (gx as61 0), v37] w64 fun v42 w65 =>
 xBits iAnd .i64 (gx xs63 0) v42 fun v43 =>
 xAdd .i64 (gx xs63 1) (.int .i64 1) fun v44 =>
 ([] : List Nat) = ([] : List Nat) ∧ K63 [v43, v44] w65) (xLdA w64 2 v3 fun v46 =>
 xLd w64 v5 fun v48 =>
 callV Tryz.prog (.func (.func 78) #[] #[]) [v46, (gx as61 0), v48] w64 fun v49 w66 =>
 callV Tryz.prog (.func (.func 127) #[] #[]) [(gx xs63 0), v49] w66 fun v50 w67 =>
 xNot v50 fun v51 =>
 cnd v51 (xSt w67 v6 (.bool false) fun w68 =>
 xSt w68 v7 (.int .i64 0) fun w69 =>
 ([] : List Nat) = [] ∧ LB61 w69 ∧ rdT .ret l61 LR61 LX61 T61 w69) (([] : List Nat) = [] ∧ LB61 w67 ∧ rdT .nrm l61 LR61 LX61 T61 w67))) [v31, (.int .i64 0)] w62) (fun d61 u61 =>
 xSt u61 v6 (.bool true) fun w70 =>
 xSt w70 v7 (.int .i64 0) fun w71 =>
 Dfo d61 w71 ∧ ∀ w72, Ch (fun c =>
 c = d61) w71 w72 → xLd w72 v6 fun r73 =>
 xLd w72 v7 fun r74 =>
 R (.tuple #[r73, r74]) w72) (fun i61 d61 u61 =>
 natE i61 0 (xSt u61 v6 (.bool true) fun w78 =>
 xSt w78 v7 (.int .i64 0) fun w79 =>
 Dfo d61 w79 ∧ ∀ w80, Ch (fun c =>
 c = d61) w79 w80 → xLd w80 v6 fun r81 =>
 xLd w80 v7 fun r82 =>
 R (.tuple #[r81, r82]) w80) (False)) (fun d61 u61 =>
 Dfo d61 u61 ∧ ∀ w75, Ch (fun c =>
 c = d61) u61 w75 → xLd w75 v6 fun r76 =>
 xLd w75 v7 fun r77 =>
 R (.tuple #[r76, r77]) w75)))
theorem eY_impl_FollowsOn (v0 v1 v2 : Value) (w : World) (R : Value → World → Prop) : SY_impl_FollowsOn v0 v1 v2 w R = denFY Tryz.prog Tryz.f46 (Tryz.f46.body.getD .skip) (.node none .leaf (.node none .leaf (.node none .leaf (.node none (.node none .leaf (.node none .leaf (.node none (.node none .leaf (.node (some [11, 34]) .leaf .leaf)) .leaf))) .leaf)))) [v0, v1, v2] w R := by kernel_rfl
theorem cY_impl_FollowsOn {v0 v1 v2 : Value} {w : World} {R : Value → World → Prop} (h : SY_impl_FollowsOn v0 v1 v2 w R) : Cal Tryz.prog f_impl_FollowsOn #[v0, v1, v2] w R :=
  cal_of_denY wide_any Tryz.func46 (by kernel_rfl) (show Tryz.f46.body = some (Tryz.f46.body.getD .skip) by kernel_rfl) (by kernel_rfl) (by kernel_rfl) ((eY_impl_FollowsOn v0 v1 v2 w R).mp h)
/-- (loop.example/g01089/impl.Poset).unforced -/
abbrev f_impl_Poset_unforced : FuncId := 143
def SY_impl_Poset_unforced (v0 v1 : Value) (w : World) (R : Value → World → Prop) : Prop :=
  xNew (Value.cells v0) 26 w fun v2 w1 =>
 xNew (Value.cells v1) 41 w1 fun v3 w2 =>
 xNew (Value.cells (.slice none 0 0)) 24 w2 fun v4 w3 =>
 xNew (Value.cells (.int .i64 0)) 2 w3 fun v5 w4 =>
 xNew (Value.cells (.bool false)) 4 w4 fun v6 w5 =>
 xLdA w5 2 v2 fun v9 =>
 xLd w5 v3 fun v10 =>
 ∀ w6, Ext w5 w6 → xBs 41 (Value.cells (.slice none 0 0)) 1 1 [(0, v10)] w6 fun v11 w7 =>
 Ext w6 w7 ∧ ∀ w8, Ext w7 w8 → callV Tryz.prog (.func (.func 125) #[] #[]) [v11] w8 fun v12 w9 =>
 Ext w8 w9 ∧ ∀ w10, Ext w9 w10 → callV Tryz.prog (.func (.func 124) #[] #[]) [v9, v12] w10 fun v13 w11 =>
 ∀ w12, Ext w11 w12 → xRng Tryz.prog v13 1 w12 (fun l13 LR13 LB13 LX13 as13 W13 T13 =>
 ([] : List Nat) = [] ∧ LR13 W13 ∧ ∀ Wb13, Ch (fun c =>
 c = l13) W13 Wb13 → LB13 Wb13 → xLdA Wb13 2 v2 fun v15 =>
 xLd Wb13 v3 fun v17 =>
 callV Tryz.prog (.func (.func 78) #[] #[]) [v15, (gx as13 0), v17] Wb13 fun v18 w14 =>
 xLdA w14 2 v2 fun v20 =>
 callV Tryz.prog (.func (.func 126) #[] #[]) [v20] w14 fun v21 w15 =>
 xNe .i64 v18 v21 fun v22 =>
 cnd v22 (callV Tryz.prog (.func (.func 135) #[] #[]) [(gx as13 0)] w15 fun v24 w16 =>
 xSt w16 v4 v24 fun w17 =>
 xSt w17 v5 v18 fun w18 =>
 xSt w18 v6 (.bool true) fun w19 =>
 ([] : List Nat) = [] ∧ LB13 w19 ∧ rdT .ret l13 LR13 LX13 T13 w19) (([] : List Nat) = [] ∧ LB13 w15 ∧ rdT .nrm l13 LR13 LX13 T13 w15)) (fun d13 u13 =>
 xSt u13 v4 (.slice none 0 0) fun w20 =>
 xSt w20 v5 (.int .i64 0) fun w21 =>
 xSt w21 v6 (.bool false) fun w22 =>
 Dfo d13 w22 ∧ ∀ w23, Ch (fun c =>
 c = d13) w22 w23 → xLd w23 v4 fun r24 =>
 xLd w23 v5 fun r25 =>
 xLd w23 v6 fun r26 =>
 R (.tuple #[r24, r25, r26]) w23) (fun i13 d13 u13 =>
 natE i13 0 (xSt u13 v4 (.slice none 0 0) fun w31 =>
 xSt w31 v5 (.int .i64 0) fun w32 =>
 xSt w32 v6 (.bool false) fun w33 =>
 Dfo d13 w33 ∧ ∀ w34, Ch (fun c =>
 c = d13) w33 w34 → xLd w34 v4 fun r35 =>
 xLd w34 v5 fun r36 =>
 xLd w34 v6 fun r37 =>
 R (.tuple #[r35, r36, r37]) w34) (False)) (fun d13 u13 =>
 Dfo d13 u13 ∧ ∀ w27, Ch (fun c =>
 c = d13) u13 w27 → xLd w27 v4 fun r28 =>
 xLd w27 v5 fun r29 =>
 xLd w27 v6 fun r30 =>
 R (.tuple #[r28, r29, r30]) w27)
theorem eY_impl_Poset_unforced (v0 v1 : Value) (w : World) (R : Value → World → Prop) : SY_impl_Poset_unforced v0 v1 w R = denFY Tryz.prog Tryz.f143 (Tryz.f143.body.getD .skip) .leaf [v0, v1] w R := by kernel_rfl
theorem cY_impl_Poset_unforced {v0 v1 : Value} {w : World} {R : Value → World → Prop} (h : SY_impl_Poset_unforced v0 v1 w R) : Cal Tryz.prog f_impl_Poset_unforced #[v0, v1] w R :=
  cal_of_denY wide_any Tryz.func143 (by kernel_rfl) (show Tryz.f143.body = some (Tryz.f143.body.getD .skip) by kernel_rfl) (by kernel_rfl) (by kernel_rfl) ((eY_impl_Poset_unforced v0 v1 w R).mp h)
theorem hb_impl_Poset_valuations_1 : HasB Tryz.prog f_impl_Poset_valuations_1 := ⟨_, Tryz.func203, by kernel_rfl, by kernel_rfl⟩
/-- (loop.example/g01089/impl.Poset).valuations$1$1 -/
def SY_impl_Poset_valuations_1_1 (v0 v1 v2 v3 v4 v5 : Value) (w : World) (R : Value → World → Prop) : Prop :=
  xLd w v1 fun v11 =>
 xLenS v11 fun v12 =>
 xEq .i64 v0 v12 fun v13 =>
 cnd v13 (xLd w v2 fun v14 =>
 xLd w v3 fun v15 =>
 callY Tryz.prog v14 [v15] w fun v16 w1 =>
 R v16 w1) (xLd w v4 fun v17 =>
 xLenS v17 fun v18 =>
 lp (fun K2 xs2 w3 =>
 ∀ _ : Nat → Value, xLt .i64 (gx xs2 0) v18 fun v20 =>
 cnd v20 (xIa 1 v17 (gx xs2 0) fun v21 =>
 xLd w3 v21 fun v22 =>
 xLd w3 v3 fun v23 =>
 xLd w3 v1 fun v24 =>
 xIa 1 v24 v0 fun v26 =>
 xLd w3 v26 fun v27 =>
 xIa 1 v23 v27 fun v29 =>
 ∀ w4, Ext w3 w4 → xSt w4 v29 v22 fun w5 =>
 ∀ w6, Ext w5 w6 → xLd w6 v5 fun v30 =>
 xAdd .i64 v0 (.int .i64 1) fun v32 =>
 callY Tryz.prog v30 [v32] w6 fun v33 w7 =>
 xNot v33 fun v34 =>
 cnd v34 (R (.bool false) w7) (xAdd .i64 (gx xs2 0) (.int .i64 1) fun v35 =>
 ([] : List Nat) = ([] : List Nat) ∧ K2 [v35] w7)) (R (.bool true) w3)) [(.int .i64 0)] w)
theorem eY_impl_Poset_valuations_1_1 (v0 v1 v2 v3 v4 v5 : Value) (w : World) (R : Value → World → Prop) : SY_impl_Poset_valuations_1_1 v0 v1 v2 v3 v4 v5 w R = denFY Tryz.prog Tryz.f204 (Tryz.f204.body.getD .skip) (.node none .leaf (.node none .leaf (.node none (.node none .leaf (.node (some [19]) .leaf .leaf)) .leaf))) [v0, v1, v2, v3, v4, v5] w R := by kernel_rfl
theorem cY_impl_Poset_valuations_1_1 {v0 v1 v2 v3 v4 v5 : Value} {w : World} {R : Value → World → Prop} (h : SY_impl_Poset_valuations_1_1 v0 v1 v2 v3 v4 v5 w R) : Cal Tryz.prog f_impl_Poset_valuations_1_1 #[v0, v1, v2, v3, v4, v5] w R :=
  cal_of_denY wide_any Tryz.func204 (by kernel_rfl) (show Tryz.f204.body = some (Tryz.f204.body.getD .skip) by kernel_rfl) (by kernel_rfl) (by kernel_rfl) ((eY_impl_Poset_valuations_1_1 v0 v1 v2 v3 v4 v5 w R).mp h)
end Go.Proofs.YtikfhibcdhdglaaGreat

/- Contracts: all valuations of a poset, handed to a visitor one after the other. Conditions: none. -/
namespace Go.Proofs.YtikfhibcdhdglaaGreat
open Go.Vc
theorem iClY {f : FuncId} {first cap : Array Value} {fv : Value} {args : List Value} {w : World} {K : Value → World → Prop} (hv : fv = .func (.func f) first cap) (hc : Cal Tryz.prog f (first ++ args.toArray ++ cap) w K) : callY Tryz.prog fv args w K := .inl (iClo hv hc)
/-- What is asked of the visitor 'yv': it may turn the blocks S; J holds until a bad one has come, X behind that. -/
structure Vis (f : Fr) (yv : Value) (bad : List Nat → Bool) (m : Nat) (S : Nat → Prop) (J : World → Prop) (X : List Nat → World → Prop) : Prop where
  keep : ∀ (T : Nat → Prop) (W W' : World), J W → Ch T W W' → (∀ b, T b → m ≤ b) → J W'
  lt : ∀ b, S b → b < m
  visit : ∀ (W : World) (lo : Nat) (v : Value) (c : List Nat), J W → Ow lo t_i64 W v (ints (nats c)) → m ≤ lo → (∀ b, v.ownBlock = some b → ¬ S b) → c.length = 6 → (∀ x ∈ c, x ∈ upsets f) →
    callY Tryz.prog yv [v] W fun u W' => Ch S W W' ∧ if bad c then u = .bool false ∧ X c W' else u = .bool true ∧ J W'
/-- Sets c' that are those of c outside the variables from k on, and V there. -/
def Agr (vars : List Nat) (k : Nat) (c : List Nat) (V : Nat → Nat) (c' : List Nat) : Prop := ∀ v, v < 6 → c'.getD v 0 = if v ∈ vars.drop k then V v else c.getD v 0
section
variable {f : Fr} {yv : Value} {bad : List Nat → Bool} {m : Nat} {S : Nat → Prop} {J : World → Prop} {X : List Nat → World → Prop}
/-- What fill finds in memory. -/
structure FiW (m : Nat) (vars ups : List Nat) (yv : Value) (b1 b2 b3 b4 b5 : Nat) (vv vs vu : Value) (S : Nat → Prop) (e2 e5 : TypeId) (lo : Nat) (w : World) (c : List Nat) : Prop where
  B1 : Blk 24 w b1 [vv]
  B2 : Blk e2 w b2 [yv]
  B3 : Blk 24 w b3 [vs]
  B4 : Blk 24 w b4 [vu]
  B5 : Blk e5 w b5 [.func (.func f_impl_Poset_valuations_1_1) #[] #[.pointer (some ⟨b1, 0, none⟩), .pointer (some ⟨b2, 0, none⟩), .pointer (some ⟨b3, 0, none⟩), .pointer (some ⟨b4, 0, none⟩), .pointer (some ⟨b5, 0, none⟩)]]
  nS : ¬ S b1 ∧ ¬ S b2 ∧ ¬ S b3 ∧ ¬ S b4 ∧ ¬ S b5
  ne2 : e2 ≠ t_i64
  ne5 : e5 ≠ t_i64
  V1 : ∃ l1, Ow l1 t_i64 w vv (ints (nats vars))
  nV : ∀ b, vv.ownBlock = some b → ¬ S b ∧ vs.ownBlock ≠ some b
  U1 : ∃ l1, Ow l1 t_i64 w vu (ints (nats ups))
  nU : ∀ b, vu.ownBlock = some b → ¬ S b ∧ vs.ownBlock ≠ some b
  row : Ow lo t_i64 w vs (ints (nats c))
  nR : ∀ b, vs.ownBlock = some b → ¬ S b
  hm : m ≤ lo
theorem FiW.ch {vars ups : List Nat} {b1 b2 b3 b4 b5 : Nat} {vv vs vu : Value} {e2 e5 : TypeId} {lo : Nat} {w w' : World} {c c' : List Nat} (h : FiW m vars ups yv b1 b2 b3 b4 b5 vv vs vu S e2 e5 lo w c) (k : Ch (fun b => S b ∨ vs.ownBlock = some b) w w') (hr : Ow lo t_i64 w' vs (ints (nats c'))) :
    FiW m vars ups yv b1 b2 b3 b4 b5 vv vs vu S e2 e5 lo w' c' := by
  have nb : ∀ {e : TypeId} {b : Nat} {cs : List Value}, Blk e w b cs → e ≠ t_i64 → ¬ S b → ¬ (S b ∨ vs.ownBlock = some b) := fun hB hne hn h' => h'.elim hn fun h' => h.row.ne_blk hB (fun e => hne e.symm) h'
  obtain ⟨n1, n2, n3, n4, n5⟩ := h.nS
  refine ⟨h.B1.ch k (nb h.B1 (by decide) n1), h.B2.ch k (nb h.B2 h.ne2 n2), h.B3.ch k (nb h.B3 (by decide) n3), h.B4.ch k (nb h.B4 (by decide) n4), h.B5.ch k (nb h.B5 h.ne5 n5), h.nS, h.ne2, h.ne5, ?_, h.nV, ?_, h.nU, hr, h.nR, h.hm⟩
  · obtain ⟨l1, hv⟩ := h.V1
    exact ⟨l1, hv.ch k fun b hb h' => h'.elim (h.nV b hb).1 (h.nV b hb).2⟩
  · obtain ⟨l1, hv⟩ := h.U1
    exact ⟨l1, hv.ch k fun b hb h' => h'.elim (h.nU b hb).1 (h.nU b hb).2⟩
theorem ok_fill (hP : Po f) (hvis : Vis f yv bad m S J X) {vars : List Nat} (hnd : vars.Nodup) (hv6 : ∀ v ∈ vars, v < 6) {b1 b2 b3 b4 b5 : Nat} {vv vs vu : Value} {e2 e5 : TypeId} {lo : Nat} :
    ∀ (d k : Nat), d = vars.length - k → k ≤ vars.length → ∀ (w : World) (c : List Nat), FiW m vars (upsets f) yv b1 b2 b3 b4 b5 vv vs vu S e2 e5 lo w c → J w → c.length = 6 → (∀ x ∈ c, x ∈ upsets f) →
    Cal Tryz.prog f_impl_Poset_valuations_1_1 #[.int .i64 (k : Int), .pointer (some ⟨b1, 0, none⟩), .pointer (some ⟨b2, 0, none⟩), .pointer (some ⟨b3, 0, none⟩), .pointer (some ⟨b4, 0, none⟩), .pointer (some ⟨b5, 0, none⟩)] w fun r w' =>
      Ch (fun b => S b ∨ vs.ownBlock = some b) w w' ∧ ((r = .bool false ∧ ∃ c', c'.length = 6 ∧ (∀ x ∈ c', x ∈ upsets f) ∧ bad c' = true ∧ X c' w') ∨
        (r = .bool true ∧ J w' ∧ (∃ c', Ow lo t_i64 w' vs (ints (nats c')) ∧ c'.length = 6 ∧ (∀ x ∈ c', x ∈ upsets f) ∧ ∀ v, v < 6 → v ∉ vars.drop k → c'.getD v 0 = c.getD v 0) ∧
          ∀ V : Nat → Nat, (∀ v, V v ∈ upsets f) → ∃ c', c'.length = 6 ∧ (∀ x ∈ c', x ∈ upsets f) ∧ Agr vars k c V c' ∧ bad c' = false)) := by
  intro d
  induction d with
  | zero =>
    intro k hd hk w c hF hJ hc hcu
    obtain rfl : k = vars.length := by omega
    apply cY_impl_Poset_valuations_1_1; unfold SY_impl_Poset_valuations_1_1
    obtain ⟨l1, hV⟩ := hF.V1
    refine iLdB hF.B1 (v := vv) rfl ?_
    have hVn : SlN w vv vars := hV.sl
    refine iLenN hVn ?_
    refine iEq (iCndT (by simp) ?_)
    refine iLdB hF.B2 (v := yv) rfl (iLdB hF.B3 (v := vs) rfl ?_)
    refine (hvis.visit w lo vs c hJ hF.row hF.hm hF.nR hc hcu).mono ?_
    rintro u w1 ⟨hch, hres⟩
    refine ⟨hch.mono fun b h => .inl h, ?_⟩
    cases hb : bad c
    · rw [if_neg (by rw [hb]; simp)] at hres
      obtain ⟨rfl, hJ1⟩ := hres
      refine .inr ⟨rfl, hJ1, ⟨c, hF.row.ch hch hF.nR, hc, hcu, fun v _ _ => rfl⟩, fun V _ => ⟨c, hc, hcu, fun v _ => by rw [if_neg (by simp)], hb⟩⟩
    · rw [if_pos hb] at hres
      obtain ⟨rfl, hX1⟩ := hres
      exact .inl ⟨rfl, c, hc, hcu, hb, hX1⟩
  | succ d ih =>
    intro k hd hk w c hF hJ hc hcu
    have hkl : k < vars.length := by omega
    have hl6 : vars.length ≤ 6 := by
      have h1 := (popc_setOf_nodup _ vars rfl fun y hy => Nat.lt_trans (hv6 y hy) (by decide)).2 hnd
      have h3 := popc_full (m := 6) (by decide) (setOf_lt (n := 6) hv6)
      omega
    have hdrop : vars.drop k = vars[k] :: vars.drop (k + 1) := List.drop_eq_getElem_cons hkl
    have hnk : vars[k] ∉ vars.drop (k + 1) := by
      have := hnd.sublist (List.drop_sublist k vars)
      rw [hdrop] at this
      exact (List.nodup_cons.1 this).1
    have hvk := hv6 _ (List.getElem_mem hkl)
    apply cY_impl_Poset_valuations_1_1; unfold SY_impl_Poset_valuations_1_1
    obtain ⟨l1, hV⟩ := hF.V1
    obtain ⟨l4, hU⟩ := hF.U1
    have hVn : SlN w vv vars := hV.sl
    have hUn : SlN w vu (upsets f) := hU.sl
    have hul := upsets_len hP.ok
    refine iLdB hF.B1 (v := vv) rfl (iLenN hVn (iEq (iCndF (decide_eq_false (by omega)) ?_)))
    refine iLdB hF.B4 (v := vu) rfl (iLenN hUn ?_)
    refine iLp (fun i : Nat => [.int .i64 (i : Int)]) (fun i w' => i ≤ (upsets f).length ∧ Ch (fun b => S b ∨ vs.ownBlock = some b) w w' ∧ J w' ∧ ∃ ci, FiW m vars (upsets f) yv b1 b2 b3 b4 b5 vv vs vu S e2 e5 lo w' ci ∧ ci.length = 6 ∧ (∀ x ∈ ci, x ∈ upsets f) ∧ (∀ v, v < 6 → v ∉ vars.drop k → ci.getD v 0 = c.getD v 0) ∧
      ∀ V : Nat → Nat, (∀ v, V v ∈ upsets f) → V vars[k] ∈ (upsets f).take i → ∃ c', c'.length = 6 ∧ (∀ x ∈ c', x ∈ upsets f) ∧ Agr vars k c V c' ∧ bad c' = false) (fun i => (upsets f).length - i) 0 rfl
      ⟨Nat.zero_le _, (Ext.refl w).ch, hJ, c, hF, hc, hcu, fun v _ _ => rfl, fun V _ h => by simp at h⟩ ?_
    rintro i w3 Kn ⟨hi, hk3, hJ3, ci, hF3, hci, hciu, hciV, hall⟩ hKn
    obtain ⟨l1', hV3⟩ := hF3.V1
    obtain ⟨l4', hU3⟩ := hF3.U1
    intro _
    simp only [gx]
    refine iLt (iCndP (fun h => ?_) (fun h => ?_))
    · have hi1 : i < (upsets f).length := by omega
      have hUn3 : SlN w3 vu (upsets f) := hU3.sl
      have hVn3 : SlN w3 vv vars := hV3.sl
      refine iIaNN hUn3 hi1 fun p hp => iLd hp ?_
      refine iLdB hF3.B3 (v := vs) rfl (iLdB hF3.B1 (v := vv) rfl ?_)
      refine iIaNN hVn3 hkl fun p hp => iLd hp ?_
      have hg : vars.getD k 0 = vars[k] := by simp [hkl]
      have hgu : (upsets f).getD i 0 = (upsets f)[i] := by simp [hi1]
      rw [hg, hgu]
      have hlen : (ints (nats ci)).length = 6 := by rw [ints_length, nats_length]; exact hci
      refine iIaOwE hF3.row (j := vars[k]) (by omega) fun bu hbu hwr => ?_
      intro w4 x4
      obtain ⟨h1, h2, h3⟩ := hwr w4 _ rfl (hF3.row.ext x4)
      refine iSt (by rw [h1, List.getElem?_eq_getElem (by omega)]) h2 rfl ?_
      intro w6 x6
      have hset := Upd.setCell w4 bu vars[k] (.int .i64 (((upsets f)[i] : Nat) : Int))
      have h5 := h3 (.int .i64 (((upsets f)[i] : Nat) : Int))
      have e : (ints (nats ci)).set vars[k] (.int .i64 (((upsets f)[i] : Nat) : Int)) = ints (nats (ci.set vars[k] (upsets f)[i])) := by simp [ints, nats, List.map_set]
      rw [e] at h5
      have hk36 : Ch (fun b => S b ∨ vs.ownBlock = some b) w3 w6 := ((x4.ch (S := fun b => S b ∨ vs.ownBlock = some b)).trans (hset.ch (S := fun b => S b ∨ vs.ownBlock = some b) (.inr hbu)) fun b h => .inl h).trans (x6.ch (S := fun b => S b ∨ vs.ownBlock = some b)) fun b h => .inl h
      have hF6 := hF3.ch hk36 (h5.ext x6)
      have hJ6 : J w6 := by
        refine hvis.keep (fun b => vs.ownBlock = some b) w3 w6 hJ3 (((x4.ch (S := fun b => vs.ownBlock = some b)).trans (hset.ch (S := fun b => vs.ownBlock = some b) hbu) fun b h => .inl h).trans (x6.ch (S := fun b => vs.ownBlock = some b)) fun b h => .inl h) fun b hb => ?_
        have h1 := (hF3.row.blk b hb).1
        have h2 := hF3.hm
        omega
      have hc6 : (ci.set vars[k] (upsets f)[i]).length = 6 := by rw [List.length_set]; exact hci
      have hc6u : ∀ x ∈ ci.set vars[k] (upsets f)[i], x ∈ upsets f := fun x hx => by
        rcases List.mem_or_eq_of_mem_set hx with h | rfl
        · exact hciu x h
        · exact List.getElem_mem hi1
      have hget : ∀ v, v < 6 → (ci.set vars[k] (upsets f)[i]).getD v 0 = if v = vars[k] then (upsets f)[i] else ci.getD v 0 := fun v hv => by
        rw [List.getD_eq_getElem?_getD, List.getElem?_set]
        by_cases e : vars[k] = v
        · rw [if_pos e, if_pos e.symm, if_pos (by omega)]; rfl
        · rw [if_neg e, if_neg (fun h => e h.symm), ← List.getD_eq_getElem?_getD]
      refine iLdB hF6.B5 (v := _) rfl ?_
      refine iAdd (by omega) ?_
      rw [show (k : Int) + 1 = ((k + 1 : Nat) : Int) by omega]
      refine iClY rfl ((ih (k + 1) (by omega) (by omega) w6 _ hF6 hJ6 hc6 hc6u).mono ?_)
      rintro r w7 ⟨hk7, hr⟩
      have hk37 : Ch (fun b => S b ∨ vs.ownBlock = some b) w w7 := (hk3.trans hk36 fun b h => .inl h).trans hk7 fun b h => .inl h
      rcases hr with ⟨rfl, hbad⟩ | ⟨rfl, hJ7, ⟨c7, ho7, hc7, hc7u, hc7V⟩, hall7⟩
      · exact iNot (iCndT rfl ⟨hk37, .inl ⟨by first | trivial | rfl, hbad⟩⟩)
      · refine iNot (iCndF rfl (iAdd (by omega) ⟨by first | trivial | rfl, ?_⟩))
        have hout : ∀ v, v ∉ vars.drop k → v ≠ vars[k] ∧ v ∉ vars.drop (k + 1) := fun v hv => by
          rw [hdrop, List.mem_cons, not_or] at hv; exact hv
        refine hKn (i + 1) _ ⟨by omega, hk37, hJ7, c7, hF6.ch hk7 ho7, hc7, hc7u, fun v hv hvd => ?_, fun V hV hVi => ?_⟩ (by omega)
        · obtain ⟨n1, n2⟩ := hout v hvd
          rw [hc7V v hv n2, hget v hv, if_neg n1, hciV v hv hvd]
        · rw [List.take_succ_eq_append_getElem hi1] at hVi
          rcases List.mem_append.1 hVi with hVi | hVi
          · exact hall V hV hVi
          · have hVi : V vars[k] = (upsets f)[i] := by simpa using hVi
            obtain ⟨c', h1, h2, h3, h4⟩ := hall7 V hV
            refine ⟨c', h1, h2, fun v hv => ?_, h4⟩
            rw [h3 v hv, hdrop]
            by_cases m1 : v ∈ vars.drop (k + 1)
            · rw [if_pos m1, if_pos (List.mem_cons_of_mem _ m1)]
            · rw [if_neg m1, hget v hv]
              by_cases m2 : v = vars[k]
              · rw [if_pos m2, if_pos (by rw [m2]; exact List.mem_cons_self), ← hVi, m2]
              · rw [if_neg m2, if_neg (by rw [List.mem_cons, not_or]; exact ⟨m2, m1⟩)]
                exact hciV v hv (by rw [hdrop, List.mem_cons, not_or]; exact ⟨m2, m1⟩)
    · refine ⟨hk3, .inr ⟨by first | trivial | rfl, hJ3, ⟨ci, hF3.row, hci, hciu, hciV⟩, fun V hV => ?_⟩⟩
      rw [List.take_of_length_le (by omega)] at hall
      exact hall V hV (hV _)
end
theorem ok_impl_valuations {f : Fr} (hP : Po f) {va vv : Value} {w : World} (hs : SlN w va f.a) (hcv : isCell vv = true) : Cal Tryz.prog f_impl_Poset_valuations #[.agg #[.int .i64 (f.n : Int), va], vv] w fun r w' => Ext w w' ∧ ∃ bv bu vu, r = .func (.func f_impl_Poset_valuations_1) #[] #[.pointer (some ⟨bv, 0, none⟩), .pointer (some ⟨bu, 0, none⟩)] ∧
      w.heap.size ≤ bv ∧ w.heap.size ≤ bu ∧ Blk 24 w' bv [vv] ∧ Blk 24 w' bu [vu] ∧ Ow w.heap.size t_i64 w' vu (ints (nats (upsets f))) := by
  apply c_impl_Poset_valuations; unfold S_impl_Poset_valuations
  refine iNew fun b2 w1 hb2 x1 hB2 => ?_
  refine iNew fun b3 w2 hb3 x2 hB3 => ?_
  rw [isCell_cells hcv] at hB3
  have hB3 : Blk 24 w2 b3 [vv] := hB3
  refine iLdA (hB2.ext x2) rfl ?_
  refine iCall ((ok_impl_Poset_upsets hP.ok (hs.ext (x1.trans x2))).mono ?_)
  rintro vu w3 ⟨x3, ho⟩
  refine iNew fun b5 w4 hb5 x4 hB5 => ?_
  have ho4 := ho.ext x4
  refine iStB hB5 (i := 0) (by simp [Value.cells]) ho.cell fun hB5' => ?_
  have hB5' : Blk 24 (w4.setCell ⟨b5, 0, none⟩ vu) b5 [vu] := hB5'
  have hu := Upd.setCell w4 b5 0 vu
  have hl3 := x3.size
  have h12 := (x1.trans x2).size
  refine ⟨(((x1.trans x2).trans x3).trans x4).upd hu (by omega), b3, b5, vu, rfl, by omega, by omega, ((hB3.ext x3).ext x4).upd hu (by omega), hB5', ?_⟩
  exact (ho4.upd hu fun h => by have := (ho.blk b5 h).2; omega).mono h12
theorem ok_impl_valuations_1 {f : Fr} {yv : Value} {bad : List Nat → Bool} {m : Nat} {S : Nat → Prop} {J : World → Prop} {X : List Nat → World → Prop} (hP : Po f) (hvis : Vis f yv bad m S J X) (hcy : isCell yv = true) {vars : List Nat} (hnd : vars.Nodup) (hv6 : ∀ v ∈ vars, v < 6) {bv bu : Nat} {vv vu : Value} {l1 l2 : Nat} {w : World}
    (hBv : Blk 24 w bv [vv]) (hBu : Blk 24 w bu [vu]) (hV : Ow l1 t_i64 w vv (ints (nats vars))) (hU : Ow l2 t_i64 w vu (ints (nats (upsets f)))) (hnS : ¬ S bv ∧ ¬ S bu) (hnV : ∀ b, vv.ownBlock = some b → ¬ S b) (hnU : ∀ b, vu.ownBlock = some b → ¬ S b) (hJ : J w) (hm : m ≤ w.heap.size) :
    Cal Tryz.prog f_impl_Poset_valuations_1 #[yv, .pointer (some ⟨bv, 0, none⟩), .pointer (some ⟨bu, 0, none⟩)] w fun _ w' => Ch S w w' ∧ ((∃ c, c.length = 6 ∧ (∀ x ∈ c, x ∈ upsets f) ∧ bad c = true ∧ X c w') ∨
      (J w' ∧ ∀ V : Nat → Nat, (∀ v, V v ∈ upsets f) → ∃ c, c.length = 6 ∧ (∀ x ∈ c, x ∈ upsets f) ∧ (∀ v ∈ vars, c.getD v 0 = V v) ∧ bad c = false)) := by
  have hSlt : ∀ b, S b → b < w.heap.size := fun b hb => Nat.lt_of_lt_of_le (hvis.lt b hb) hm
  apply c_impl_Poset_valuations_1; unfold S_impl_Poset_valuations_1
  refine iNew fun b3 w1 hb3 x1 hB3 => ?_
  rw [isCell_cells hcy] at hB3
  refine iMk (k := .i64) (n := 6) (by decide) (by decide) rfl fun br w2 hbr x2 hBr => ?_
  refine iNew fun b4 w3 hb4 x3 hB4 => ?_
  refine iStB hB4 (i := 0) (by simp [Value.cells]) rfl fun hB4' => ?_
  have hu4 := Upd.setCell w3 b4 0 (.slice (some ⟨br, 0, none⟩) 6 6)
  generalize hw4 : w3.setCell ⟨b4, 0, none⟩ (.slice (some ⟨br, 0, none⟩) 6 6) = w4 at *
  have hB4 : Blk 24 w4 b4 [.slice (some ⟨br, 0, none⟩) 6 6] := hB4'
  refine iNew fun b5 w5 hb5 x5 hB5 => ?_
  refine iStB hB5 (i := 0) (by simp [Value.cells]) rfl fun hB5' => ?_
  have hu6 := Upd.setCell w5 b5 0 (.func (.func f_impl_Poset_valuations_1_1) #[] #[.pointer (some ⟨bv, 0, none⟩), .pointer (some ⟨b3, 0, none⟩), .pointer (some ⟨b4, 0, none⟩), .pointer (some ⟨bu, 0, none⟩), .pointer (some ⟨b5, 0, none⟩)])
  have hsz4 : w4.heap.size = w3.heap.size := by rw [← hw4]; simp
  have hB5 := hB5'
  refine iLdB hB5' (i := 0) (v := _) rfl ?_
  have X6 : Ext w _ := ((((x1.trans x2).trans x3).upd hu4 (by omega)).trans x5).upd hu6 (by omega)
  have hrow : Ow br t_i64 _ (.slice (some ⟨br, 0, none⟩) 6 6) (ints (nats (List.replicate 6 0))) := Ow.ofBlk (((((hBr.ext x3).upd hu4 (by omega)).ext x5).upd hu6 (by omega))) (Nat.le_refl _) rfl (by decide)
  have hF : FiW m vars (upsets f) yv bv b3 b4 bu b5 vv (.slice (some ⟨br, 0, none⟩) 6 6) vu S _ _ br _ (List.replicate 6 0) :=
    { B1 := hBv.ext X6, B2 := (((((hB3.ext x2).ext x3).upd hu4 (by omega)).ext x5).upd hu6 (by omega)), B3 := ((hB4.ext x5).upd hu6 (by omega)), B4 := hBu.ext X6, B5 := hB5
      nS := ⟨hnS.1, fun h => by have := hSlt _ h; omega, fun h => by have := hSlt _ h; omega, hnS.2, fun h => by have := hSlt _ h; omega⟩
      ne2 := by decide, ne5 := by decide, V1 := ⟨l1, hV.ext X6⟩
      nV := fun b hb => ⟨hnV b hb, fun h => by
        have h1 := (hV.blk b hb).2
        have h2 : br = b := by simpa [Value.ownBlock] using h
        omega⟩
      U1 := ⟨l2, hU.ext X6⟩
      nU := fun b hb => ⟨hnU b hb, fun h => by
        have h1 := (hU.blk b hb).2
        have h2 : br = b := by simpa [Value.ownBlock] using h
        omega⟩
      row := hrow
      nR := fun b hb h => by
        have h1 := hSlt _ h
        have h2 : br = b := by simpa [Value.ownBlock] using hb
        omega
      hm := by omega }
  have hJ6 := hvis.keep (fun _ => False) w _ hJ X6.ch (fun _ h => h.elim)
  refine iClo rfl ((ok_fill hP hvis hnd hv6 _ 0 rfl (Nat.zero_le _) _ _ hF hJ6 (by simp) (fun x hx => by rw [List.eq_of_mem_replicate hx]; exact zero_up hP)).mono ?_)
  rintro r w7 ⟨hk7, hr⟩
  have hk : Ch S w w7 := (X6.ch (S := S)).trans hk7 fun b h => h.elim .inl fun h => .inr (by
    have h2 : br = b := by simpa [Value.ownBlock] using h
    omega)
  refine ⟨hk, ?_⟩
  rcases hr with ⟨_, hbad⟩ | ⟨_, hJ7, _, hall⟩
  · exact .inl hbad
  · refine .inr ⟨hJ7, fun V hV' => ?_⟩
    obtain ⟨c, h1, h2, h3, h4⟩ := hall V hV'
    refine ⟨c, h1, h2, fun v hv => ?_, h4⟩
    have := h3 v (hv6 v hv)
    rw [List.drop_zero, if_pos hv] at this
    exact this
end Go.Proofs.YtikfhibcdhdglaaGreat

/- Contracts: the code of a search over a poset's valuations. Conditions: none. -/
namespace Go.Proofs.YtikfhibcdhdglaaGreat
open Go.Vc
theorem isN_ok {N : List RN} (h : isN N = true) : N.all okN = true := by
  unfold isN treeN at h
  rw [Bool.and_eq_true, Bool.and_eq_true] at h
  exact h.2.1
theorem ok_impl_posetSearchCode {v u : Value} {L : List VN} {w : World} {n : Int} {l : List Int} (hp : SlI w v l) (hs : RwN w u L) (hn : ∀ p ∈ L, p.2.length ≤ 1099511627776) :
    Cal Tryz.prog f_impl_posetSearchCode #[.agg #[.int .i64 n, v], u] w fun r w' => Ext w w' ∧ ∃ c : Int, r = .int .i64 c ∧
      (if posetOk n l = true ∧ (L.all fun q => isN q.2) = true then (if (L.all fun q => plainN q.2) = true then c = 0 ∨ c = 3 else c = 5) else c = 1) := by
  apply c_impl_posetSearchCode; unfold S_impl_posetSearchCode
  refine iNew fun b w1 _ x1 hB => ?_
  have hB : Blk _ w1 b [.int .i64 n, v] := hB
  have hp1 := hp.ext x1
  have hs1 := hs.ext x1
  refine iJnB (!(posetOk n l && L.all fun q => isN q.2)) w1 (fun J hJ => ?_) (fun w3 x3 => ?_)
  · refine iLdA hB rfl ?_
    refine iRet (ok_impl_isPoset hp1 n) fun w4 x4 => ?_
    refine iNot ?_
    cases hpo : posetOk n l
    · rw [hpo, Bool.false_and] at hJ
      exact iCndT rfl (hJ _ x4)
    · rw [hpo, Bool.true_and] at hJ
      refine iCndF rfl ?_
      refine iRet (ok_impl_areFormulasN (hs1.ext x4) hn) fun w5 x5 => ?_
      exact iNot (hJ _ (x4.trans x5))
  · intro _
    simp only [gx]
    have hs3 := hs1.ext x3
    cases hpo : posetOk n l && L.all fun q => isN q.2
    · refine iCndT rfl ⟨x1.trans x3, 1, rfl, ?_⟩
      rw [if_neg (by rw [← Bool.and_eq_true, hpo]; simp)]
    · refine iCndF rfl ?_
      rw [Bool.and_eq_true] at hpo
      obtain ⟨hP, hn0, hl0⟩ := posetOk_po hpo.1
      refine iRet (ok_impl_allPlainN hs3) fun w6 x6 => ?_
      refine iNot ?_
      cases hpl : L.all fun q => plainN q.2
      · exact iCndT rfl ⟨(x1.trans x3).trans x6, 5, rfl, by rw [if_pos hpo]; simp⟩
      · refine iCndF rfl ?_
        refine iLdA ((hB.ext x3).ext x6) rfl ?_
        have hv : SlN w6 v (frOf n l).a := by
          have := (hp1.ext x3).ext x6
          unfold SlN
          rw [← hl0]; exact this
        have hU := ok_impl_Poset_upsets hP.ok hv
        rw [← hn0] at hU
        refine iCall (hU.mono ?_)
        rintro r7 w7 ⟨x7, ho7⟩
        refine iLenS ho7.sl ?_
        have hok : ∀ p ∈ L, p.2.all okN = true := fun p hp => isN_ok (List.all_eq_true.1 hpo.2 p hp)
        refine iCall ((ok_impl_variablesIn ((hs3.ext x6).ext x7) hok).mono ?_)
        rintro r8 w8 ⟨x8, ho8⟩
        refine iLenS ho8.sl ?_
        rw [ints_length, nats_length, ints_length, nats_length]
        have h1 := upsets_len hP.ok
        have h2 := memK_length_le (maskL L) 63
        refine iCall ((ok_impl_fits _ _ h1 (by show (memK (maskL L) 63).length ≤ 1000; omega) w8).mono ?_)
        rintro r9 w9 ⟨rfl, bb, rfl⟩
        refine iNot ?_
        have hx := (((x1.trans x3).trans x6).trans x7).trans x8
        cases bb
        · exact iCndT rfl ⟨hx, 3, rfl, by rw [if_pos hpo]; simp⟩
        · exact iCndF rfl ⟨hx, 0, rfl, by rw [if_pos hpo]; simp⟩
end Go.Proofs.YtikfhibcdhdglaaGreat

/- Contracts: validity on a poset: the visited valuations; unforced, isValid, IsPosetValid. Conditions: none. -/
namespace Go.Proofs.YtikfhibcdhdglaaGreat
open Go.Vc
theorem has_raw {v : Nat} : ∀ {a : Fm}, Fm.has v a → (0, (v : Int)) ∈ rawF a
  | .var x, h => by
    have h : x = v := h
    subst h
    exact List.mem_cons_self
  | .fls, h => h.elim
  | .and a b, h => List.mem_cons_of_mem _ (List.mem_append.2 (h.imp has_raw has_raw))
  | .or a b, h => List.mem_cons_of_mem _ (List.mem_append.2 (h.imp has_raw has_raw))
  | .imp a b, h => List.mem_cons_of_mem _ (List.mem_append.2 (h.imp has_raw has_raw))
  | .box a, h => List.mem_cons_of_mem _ (has_raw (a := a) h)
  | .dia a, h => List.mem_cons_of_mem _ (has_raw (a := a) h)
theorem has_maskV {v : Nat} {a : Fm} (h : Fm.has v a) : (maskV (rawF a)).testBit v = true := (maskV_has a v).2 (has_raw h)
theorem Dfo.ch {d : Nat} {S : Nat → Prop} {w w' : World} (h : Dfo d w) (k : Ch S w w') (hn : ¬ S d) : Dfo d w' := by
  have hlt : d < w.heap.size := by
    unfold Dfo at h
    rcases Nat.lt_or_ge d w.heap.size with h1 | h1
    · exact h1
    · rw [Array.getElem?_eq_none h1] at h; cases h
  exact (k.block d hlt hn).trans h
/-- **A range over all valuations**: the body hands on J till a bad one comes; then X stands. -/
theorem iVals {f : Fr} {bad : List Nat → Bool} {S : Nat → Prop} {J : World → Prop} {X : List Nat → World → Prop} (hP : Po f) {vars : List Nat} (hnd : vars.Nodup) (hv6 : ∀ v ∈ vars, v < 6) {bv bu : Nat} {vv vu : Value} {l1 l2 : Nat} {w : World}
    {B : Nat → (World → Prop) → (World → Prop) → (Ex → World → Prop) → List Value → World → (Value → World → Prop) → Prop} {K : Nat → World → Prop} {KE : Nat → Nat → World → Prop} {KR : Nat → World → Prop}
    (hBv : Blk 24 w bv [vv]) (hBu : Blk 24 w bu [vu]) (hV : Ow l1 t_i64 w vv (ints (nats vars))) (hU : Ow l2 t_i64 w vu (ints (nats (upsets f)))) (hnS : ¬ S bv ∧ ¬ S bu) (hnV : ∀ b, vv.ownBlock = some b → ¬ S b) (hnU : ∀ b, vu.ownBlock = some b → ¬ S b)
    (hlt : ∀ b, S b → b < w.heap.size) (hJ : J w)
    (keep : ∀ (T : Nat → Prop) (W W' : World), J W → Ch T W W' → (∀ b, T b → w.heap.size ≤ b) → J W')
    (keepX : ∀ (T : Nat → Prop) (c : List Nat) (W W' : World), X c W → Ch T W W' → (∀ b, T b → w.heap.size ≤ b) → X c W')
    (hB : ∀ (l : Nat) (LR LB : World → Prop) (LX : Ex → World → Prop), l = w.heap.size + 1 →
      (∀ (S : Nat → Prop) (W W' : World), Ch S W W' → ¬ S l → ¬ S w.heap.size → (LR W → LR W') ∧ (LB W → LB W') ∧ ∀ e, LX e W → LX e W') →
      ∀ (W : World) (lo : Nat) (v : Value) (c : List Nat), J W → LR W → w.heap.size + 2 ≤ lo → w.heap.size + 2 ≤ W.heap.size → Ow lo t_i64 W v (ints (nats c)) → c.length = 6 → (∀ x ∈ c, x ∈ upsets f) →
        B l LR LB LX [v] W fun u W' => Ch (fun b => b = l ∨ S b) W W' ∧ if bad c then u = .bool false ∧ LX .ret W' ∧ X c W' else u = .bool true ∧ LR W' ∧ J W')
    (hK : ∀ W, J W → w.heap.size + 2 ≤ W.heap.size → Dfo w.heap.size W → (∀ V : Nat → Nat, (∀ v, V v ∈ upsets f) → ∃ c, c.length = 6 ∧ (∀ x ∈ c, x ∈ upsets f) ∧ (∀ v ∈ vars, c.getD v 0 = V v) ∧ bad c = false) → K w.heap.size W)
    (hKR : ∀ W c, X c W → w.heap.size + 2 ≤ W.heap.size → Dfo w.heap.size W → c.length = 6 → (∀ x ∈ c, x ∈ upsets f) → bad c = true → KR w.heap.size W) :
    xRng Tryz.prog (.func (.func f_impl_Poset_valuations_1) #[] #[.pointer (some ⟨bv, 0, none⟩), .pointer (some ⟨bu, 0, none⟩)]) 1 w B K KE KR := by
  refine ⟨_, _, rfl, hb_impl_Poset_valuations_1, fun l LR LB LX w1 hl hsz x1 hLR hstab hyield => ?_⟩
  have hvis : Vis f (.func (.yield l) #[] #[]) bad (w.heap.size + 2) (fun b => b = l ∨ S b) (fun W => J W ∧ LR W ∧ w.heap.size + 2 ≤ W.heap.size) (fun c W => LX .ret W ∧ X c W ∧ w.heap.size + 2 ≤ W.heap.size) :=
    { keep := fun T W W' h k hT => ⟨keep T W W' h.1 k fun b hb => by have := hT b hb; omega, (hstab T W W' k (fun h => by have := hT _ h; omega) (fun h => by have := hT _ h; omega)).1 h.2.1, by have := k.size; omega⟩
      lt := fun b hb => by
        rcases hb with rfl | hb
        · omega
        · have := hlt b hb; omega
      visit := fun W lo v c hJW ho hlo hnv hc hcu => by
        refine (hyield [v] W _ hJW.2.1 rfl (hB l LR LB LX hl hstab W lo v c hJW.1 hJW.2.1 hlo hJW.2.2 ho hc hcu)).mono ?_
        rintro u W' ⟨hch, hr⟩
        have hs := hch.size
        have hs0 := hJW.2.2
        refine ⟨hch, ?_⟩
        cases hb : bad c
        · rw [if_neg (by rw [hb]; simp)] at hr
          rw [if_neg (by simp)]
          exact ⟨hr.1, hr.2.2, hr.2.1, by omega⟩
        · rw [if_pos hb] at hr
          rw [if_pos rfl]
          exact ⟨hr.1, hr.2.1, hr.2.2, by omega⟩ }
  have hl1 : ∀ {b e cs}, Blk e w b cs → b ≠ l := fun h e => by
    have := h.lt; omega
  have hJ1 : J w1 := keep (fun _ => False) w w1 hJ x1.ch (fun _ h => h.elim)
  refine (ok_impl_valuations_1 hP hvis rfl hnd hv6 (hBv.ext x1) (hBu.ext x1) (hV.ext x1) (hU.ext x1) ⟨fun h => h.elim (hl1 hBv) hnS.1, fun h => h.elim (hl1 hBu) hnS.2⟩
    (fun b hb h => h.elim (fun e => by have := (hV.blk b hb).2; omega) (hnV b hb)) (fun b hb h => h.elim (fun e => by have := (hU.blk b hb).2; omega) (hnU b hb)) ⟨hJ1, hLR, by omega⟩ (by omega)).mono ?_
  rintro _ W2 ⟨_, hr⟩
  rcases hr with ⟨c, hc, hcu, hb, hX, hX2, hX3⟩ | ⟨⟨hJ2, hLR2, hs2⟩, hall⟩
  · exact .inr (.inr ⟨hX, fun W3 k3 hd => hKR W3 c (keepX _ c W2 W3 hX2 k3 fun b hb => by omega) (by have := k3.size; omega) hd hc hcu hb⟩)
  · exact .inl ⟨hLR2, fun W3 k3 hd => hK W3 (keep _ W2 W3 hJ2 k3 fun b hb => by omega) (by have := k3.size; omega) hd hall⟩
theorem ok_impl_unforced {f : Fr} (hP : Po f) {va vn : Value} {w : World} (hs : SlN w va f.a) {a : Fm} (ha : FmS w vn a) (hcn : isCell vn = true) (hpl : Fm.pl a) (hsz : a.size ≤ 1000000) :
    Cal Tryz.prog f_impl_Poset_unforced #[.agg #[.int .i64 (f.n : Int), va], vn] w fun r w' => Ext w w' ∧ ∃ u m b, r = .tuple #[u, m, .bool b] ∧ (b = true ↔ ¬ VldP f a) := by
  have hok : (rawF a).all okN = true := List.all_eq_true.2 (rawF_ok (pl_good hpl))
  have h8 := hP.ok.1
  apply cY_impl_Poset_unforced; unfold SY_impl_Poset_unforced
  refine iNew fun b2 w1 hb2 x1 hB2 => ?_
  refine iNew fun b3 w2 hb3 x2 hB3 => ?_
  refine iNew fun b4 w3 hb4 x3 hB4 => ?_
  refine iNew fun b5 w4 hb5 x4 hB5 => ?_
  refine iNew fun b6 w5 hb6 x5 hB6 => ?_
  have hB2 : Blk _ w5 b2 [.int .i64 (f.n : Int), va] := (((hB2.ext x2).ext x3).ext x4).ext x5
  rw [isCell_cells hcn] at hB3
  have hB3 : Blk _ w5 b3 [vn] := ((hB3.ext x3).ext x4).ext x5
  have hB4 : Blk _ w5 b4 [.slice none 0 0] := (hB4.ext x4).ext x5
  have hB5 : Blk _ w5 b5 [.int .i64 0] := hB5.ext x5
  have hB6 : Blk _ w5 b6 [.bool false] := hB6
  have X5 := (((x1.trans x2).trans x3).trans x4).trans x5
  refine iLdA hB2 rfl (iLdB hB3 (v := vn) rfl ?_)
  intro w6 x6
  refine iBs1 rfl hcn fun br w7 hbr x7 hBr => ⟨x7, ?_⟩
  intro w8 x8
  have X8 := ((X5.trans x6).trans x7).trans x8
  have hN : RawS w8 vn (rawF a) := FmS.raw (SlK.ext ha X8)
  have hRw : RwN w8 (.slice (some ⟨br, 0, none⟩) 1 1) [(vn, rawF a)] := RwN.one (Ow.ofBlk (hBr.ext x8) (Nat.le_refl _) rfl (by simp)).sl hN
  have hokL : ∀ p ∈ [(vn, rawF a)], p.2.all okN = true := fun p hp => by
    rw [List.mem_singleton] at hp
    subst hp; exact hok
  refine iCall ((ok_impl_variablesIn hRw hokL).mono ?_)
  rintro vv w9 ⟨x9, hov⟩
  refine ⟨x9, ?_⟩
  intro w10 x10
  have X10 := (X8.trans x9).trans x10
  refine iCall ((ok_impl_valuations hP (hs.ext X10) hov.cell).mono ?_)
  rintro r11 w11 ⟨x11, bv, bu, vu, rfl, hbv, hbu, hBv, hBu, hou⟩
  intro w12 x12
  have X12 := (X10.trans x11).trans x12
  have x512 : Ext w5 w12 := (((((x6.trans x7).trans x8).trans x9).trans x10).trans x11).trans x12
  have hsz5 : w5.heap.size ≤ w8.heap.size := ((x6.trans x7).trans x8).size
  have hsz10 : w8.heap.size ≤ w10.heap.size := (x9.trans x10).size
  have hsz12 : w5.heap.size ≤ w12.heap.size := x512.size
  have hmem : ∀ v, v ∈ mem (maskL [(vn, rawF a)]) ↔ (maskV (rawF a)).testBit v = true := fun v => by
    rw [mem_mem (Nat.lt_of_lt_of_le (maskL_lt hokL) (by decide)), maskL_bit]
    simp
  have hvis := hov.ext ((x10.trans x11).trans x12)
  refine iVals (bad := fun c => decide (¬ frc f (vV c) a = 2 ^ f.n - 1)) (S := fun b => b = b4 ∨ b = b5 ∨ b = b6) (J := fun W => Ext w12 W) (X := fun c W => Ch (fun b => b = b4 ∨ b = b5 ∨ b = b6) w12 W ∧ (∃ u, Blk 24 W b4 [u]) ∧ (∃ m, Blk t_i64 W b5 [m]) ∧ Blk 4 W b6 [.bool true])
    hP (mem_nodup _) (fun v hv => ?_) (hBv.ext x12) (hBu.ext x12) hvis (hou.ext x12) ⟨fun h => by omega, fun h => by omega⟩ (fun b hb h => by have := (hov.blk b hb).1; omega) (fun b hb h => by have := (hou.blk b hb).1; omega)
    (fun b h => by omega) (Ext.refl _) (fun T W W' h k hT => h.thenCh k hT) (fun T c W W' h k hT => ?_) ?_ ?_ ?_
  · exact bit_lt_n (maskV_lt hok) ((hmem v).1 hv)
  · obtain ⟨h1, ⟨u, h2⟩, ⟨m, h3⟩, h4⟩ := h
    exact ⟨h1.trans k fun b hb => .inr (hT b hb), ⟨u, h2.ch k fun h => by have := hT _ h; omega⟩, ⟨m, h3.ch k fun h => by have := hT _ h; omega⟩, h4.ch k fun h => by have := hT _ h; omega⟩
  · intro l LR LB LX hl hstab W lo v c hJW hLR hlo hWs ho hc hcu
    refine ⟨rfl, hLR, fun Wb kb hLB => ?_⟩
    have XWb : Ext w12 Wb := hJW.thenCh kb fun b hb => by omega
    have hoWb := ho.ch kb fun b hb e => by have := (ho.blk b hb).1; omega
    refine iLdA (hB2.ext (x512.trans XWb)) rfl (iLdB (hB3.ext (x512.trans XWb)) (v := vn) rfl ?_)
    have hlt6 : ∀ x ∈ c, x < 2 ^ f.n := fun x hx => upsets_lt (hcu x hx)
    refine iRet (ok_impl_forced hP.ok (hs.ext (X12.trans XWb)) hoWb.sl hc hlt6 (SlK.ext ha (X12.trans XWb)) hpl hsz) fun w14 x14 => ?_
    refine iLdA (hB2.ext ((x512.trans XWb).trans x14)) rfl ?_
    refine iRet (ok_impl_Poset_all f.n h8 va w14) fun w15 x15 => ?_
    have xb15 := x14.trans x15
    have hsWb := kb.size
    have hLB15 : LB _ := (hstab (fun _ => False) Wb _ xb15.ch (fun h => h) (fun h => h)).2.1 hLB
    refine iNe (iCndP (fun hb => ?_) (fun hb => ?_))
    · have hbd : decide (¬ frc f (vV c) a = 2 ^ f.n - 1) = true := decide_eq_true fun e => hb (by rw [e])
      have hb4 := hB4.ext ((x512.trans XWb).trans xb15)
      refine iCall ((ok_slices_Clone_Si64_i64 (l := nats c) (hoWb.ext xb15).sl (by rw [nats_length]; omega)).mono ?_)
      rintro vc w16 ⟨x16, hoc⟩
      have hb4 := (hB4.ext ((x512.trans XWb).trans xb15)).ext x16
      have hb5 := (hB5.ext ((x512.trans XWb).trans xb15)).ext x16
      have hb6 := (hB6.ext ((x512.trans XWb).trans xb15)).ext x16
      refine iStB hb4 (i := 0) (by simp) hoc.cell fun hb4' => ?_
      have u4 := Upd.setCell w16 b4 0 vc
      refine iStB (hb5.upd u4 (by omega)) (i := 0) (by simp) rfl fun hb5' => ?_
      have u5 := Upd.setCell (w16.setCell ⟨b4, 0, none⟩ vc) b5 0 (.int .i64 ((frc f (vV c) a : Nat) : Int))
      refine iStB ((hb6.upd u4 (by omega)).upd u5 (by omega)) (i := 0) (by simp) rfl fun hb6' => ?_
      have u6 := Upd.setCell ((w16.setCell ⟨b4, 0, none⟩ vc).setCell ⟨b5, 0, none⟩ (.int .i64 ((frc f (vV c) a : Nat) : Int))) b6 0 (.bool true)
      generalize hw19 : ((w16.setCell ⟨b4, 0, none⟩ vc).setCell ⟨b5, 0, none⟩ (.int .i64 ((frc f (vV c) a : Nat) : Int))).setCell ⟨b6, 0, none⟩ (.bool true) = w19 at *
      have hk : Ch (fun b => b = b4 ∨ b = b5 ∨ b = b6) Wb w19 := ((((xb15.trans x16).ch (S := fun b => b = b4 ∨ b = b5 ∨ b = b6)).trans (u4.ch (S := fun b => b = b4) rfl) fun b h => .inl (.inl h)).trans (u5.ch (S := fun b => b = b5) rfl) fun b h => .inl (.inr (.inl h))).trans (u6.ch (S := fun b => b = b6) rfl) fun b h => .inl (.inr (.inr h))
      refine ⟨rfl, (hstab _ Wb w19 hk (fun h => by omega) (fun h => by omega)).2.1 hLB, fun W' k' hLX => ?_⟩
      have hs19 := hk.size
      refine ⟨((kb.mono (S' := fun b => b = l ∨ b = b4 ∨ b = b5 ∨ b = b6) fun b h => .inl h).trans (hk.mono (S' := fun b => b = l ∨ b = b4 ∨ b = b5 ∨ b = b6) fun b h => .inr h) fun b h => .inl h).trans k' fun b h => .inl (.inl h), ?_⟩
      rw [if_pos hbd]
      refine ⟨rfl, hLX, ((XWb.ch (S := fun b => b = b4 ∨ b = b5 ∨ b = b6)).trans hk fun b h => .inl h).trans k' fun b h => .inr (by omega), ⟨vc, ?_⟩, ⟨.int .i64 ((frc f (vV c) a : Nat) : Int), ?_⟩, hb6'.ch k' fun h => by omega⟩
      · exact ((hb4'.upd u5 (by omega)).upd u6 (by omega)).ch k' fun h => by omega
      · exact (hb5'.upd u6 (by omega)).ch k' fun h => by omega
    · have hbd : decide (¬ frc f (vV c) a = 2 ^ f.n - 1) = false := decide_eq_false fun e => hb fun h => e (by exact_mod_cast h)
      refine ⟨rfl, hLB15, fun W' k' hLR' => ?_⟩
      have hs15 := xb15.size
      refine ⟨(kb.trans (xb15.ch.trans k' fun b h => .inl h) fun b h => .inl h).mono fun b h => .inl h, ?_⟩
      rw [if_neg (by rw [hbd]; simp)]
      exact ⟨rfl, hLR', (XWb.trans xb15).thenCh k' fun b hb => by omega⟩
  · intro W hJW hsW hD hall
    have x5W := x512.trans hJW
    refine iStB (hB4.ext x5W) (i := 0) (by simp) rfl fun hb4' => ?_
    have u4 := Upd.setCell W b4 0 (.slice none 0 0)
    refine iStB ((hB5.ext x5W).upd u4 (by omega)) (i := 0) (by simp) rfl fun hb5' => ?_
    have u5 := Upd.setCell (W.setCell ⟨b4, 0, none⟩ (.slice none 0 0)) b5 0 (.int .i64 0)
    refine iStB (((hB6.ext x5W).upd u4 (by omega)).upd u5 (by omega)) (i := 0) (by simp) rfl fun hb6' => ?_
    have u6 := Upd.setCell ((W.setCell ⟨b4, 0, none⟩ (.slice none 0 0)).setCell ⟨b5, 0, none⟩ (.int .i64 0)) b6 0 (.bool false)
    generalize hw19 : ((W.setCell ⟨b4, 0, none⟩ (.slice none 0 0)).setCell ⟨b5, 0, none⟩ (.int .i64 0)).setCell ⟨b6, 0, none⟩ (.bool false) = w19 at *
    have hk : Ch (fun b => b = b4 ∨ b = b5 ∨ b = b6) W w19 := ((u4.ch (S := fun b => b = b4 ∨ b = b5 ∨ b = b6) (.inl rfl)).trans (u5.ch (S := fun b => b = b5) rfl) fun b h => .inl (.inr (.inl h))).trans (u6.ch (S := fun b => b = b6) rfl) fun b h => .inl (.inr (.inr h))
    refine ⟨Dfo.ch hD hk fun h => by omega, fun w23 k23 => ?_⟩
    have hs19 := hk.size
    have e4 := ((hb4'.upd u5 (by omega)).upd u6 (by omega)).ch k23 fun h => by omega
    have e5 := (hb5'.upd u6 (by omega)).ch k23 fun h => by omega
    have e6 := hb6'.ch k23 fun h => by omega
    refine iLdB e4 rfl (iLdB e5 rfl (iLdB e6 rfl ⟨?_, _, _, _, rfl, ?_⟩))
    · exact ((X5.trans x5W).thenCh hk fun b h => by omega).thenCh k23 fun b h => by omega
    · refine Iff.intro (fun h => by cases h) (fun h => ?_)
      refine (h ?_).elim
      intro V hV
      obtain ⟨c, h1, h2, h3, h4⟩ := hall V hV
      have h4 : frc f (vV c) a = 2 ^ f.n - 1 := by simpa using h4
      rw [← h4]
      exact frc_congr a fun v hv => (h3 v ((hmem v).2 (has_maskV hv))).symm
  · intro W c ⟨hX, ⟨u, h4⟩, ⟨m, h5⟩, h6⟩ hsW hD hc hcu hbd
    refine ⟨hD, fun w37 k37 => ?_⟩
    have e4 := h4.ch k37 fun h => by omega
    have e5 := h5.ch k37 fun h => by omega
    have e6 := h6.ch k37 fun h => by omega
    refine iLdB e4 rfl (iLdB e5 rfl (iLdB e6 rfl ⟨?_, _, _, _, rfl, ?_⟩))
    · exact ((X12).thenCh hX fun b h => by omega).thenCh k37 fun b h => by omega
    · refine ⟨fun _ hv => ?_, fun _ => rfl⟩
      have hbd : ¬ frc f (vV c) a = 2 ^ f.n - 1 := by simpa using hbd
      exact hbd (hv _ (vV_ok hP hcu))
theorem ok_impl_isValid {f : Fr} (hP : Po f) {va vn : Value} {w : World} (hs : SlN w va f.a) {a : Fm} (ha : FmS w vn a) (hcn : isCell vn = true) (hpl : Fm.pl a) (hsz : a.size ≤ 1000000) :
    Cal Tryz.prog f_impl_Poset_isValid #[.agg #[.int .i64 (f.n : Int), va], vn] w fun r w' => Ext w w' ∧ ∃ b, r = .bool b ∧ (b = true ↔ VldP f a) := by
  apply c_impl_Poset_isValid; unfold S_impl_Poset_isValid
  refine iNew fun b2 w1 hb2 x1 hB2 => ?_
  refine iLdA hB2 rfl ?_
  refine iCall ((ok_impl_unforced hP (hs.ext x1) (SlK.ext ha x1) hcn hpl hsz).mono ?_)
  rintro r w2 ⟨x2, u, m, b, rfl, hb⟩
  refine iEx (by rfl) (iEx (by rfl) (iEx (by rfl) ?_))
  refine iNot ⟨x1.trans x2, _, rfl, ?_⟩
  cases b
  · refine ⟨fun _ => ?_, fun _ => rfl⟩
    apply Classical.byContradiction
    intro h
    exact absurd (hb.2 h) (by simp)
  · exact ⟨fun h => (by cases h), fun h => (hb.1 rfl h).elim⟩
theorem ok_impl_IsPosetValid {n : Int} {l : List Int} {N : List RN} {v u : Value} {w : World} (hp : SlI w v l) (hu : RawS w u N) (hcu : isCell u = true) (hn : N.length ≤ 1099511627776) :
    Cal Tryz.prog f_impl_IsPosetValid #[.agg #[.int .i64 n, v], u] w fun r w' => Ext w w' ∧ ∃ (b : Bool) (c : Int), r = .tuple #[.bool b, .int .i64 c] ∧ (c = 0 → posetOk n l = true ∧ ∃ a, N = rawF a ∧ Fm.pl a ∧ a.size ≤ 40 ∧ (b = true ↔ VldP (frOf n l) a)) := by
  apply c_impl_IsPosetValid; unfold S_impl_IsPosetValid
  refine iNew fun b2 w1 hb2 x1 hB2 => ?_
  have hB2 : Blk _ w1 b2 [.int .i64 n, v] := hB2
  refine iLdA hB2 rfl ?_
  refine iBs1 rfl hcu fun br w3 hbr x3 hBr => ?_
  have hp3 := hp.ext (x1.trans x3)
  have hu3 : RawS w3 u N := SlK.ext hu (x1.trans x3)
  refine iCall ((ok_impl_posetSearchCode hp3 (RwN.one (Ow.ofBlk hBr (Nat.le_refl _) rfl (by simp)).sl hu3) fun p hp => by
    rw [List.mem_singleton] at hp
    subst hp; exact hn).mono ?_)
  rintro r w4 ⟨x4, c, rfl, hc⟩
  have X4 := (x1.trans x3).trans x4
  refine iNe (iCndP (fun hne => ?_) (fun h0 => ?_))
  · exact ⟨X4, false, c, rfl, fun h => absurd h hne⟩
  · have h0 : c = 0 := by omega
    subst h0
    obtain ⟨hpo, hN⟩ : posetOk n l = true ∧ isN N = true ∧ plainN N = true := by
      by_cases h1 : posetOk n l = true ∧ ([(u, N)].all fun q => isN q.2) = true
      · rw [if_pos h1] at hc
        by_cases h2 : ([(u, N)].all fun q => plainN q.2) = true
        · exact ⟨h1.1, by simpa using h1.2, by simpa using h2⟩
        · rw [if_neg h2] at hc
          omega
      · rw [if_neg h1] at hc
        omega
    obtain ⟨a, ga, sa, rfl⟩ := isN_iff.1 hN.1
    have hpl : Fm.pl a := pl_iff.2 ⟨ga, hN.2⟩
    obtain ⟨hP, hn0, hl0⟩ := posetOk_po hpo
    have hv : SlN w4 v (frOf n l).a := by
      have := hp3.ext x4
      unfold SlN
      rw [← hl0]; exact this
    refine iLdA ((hB2.ext x3).ext x4) rfl ?_
    have hU := ok_impl_isValid hP hv (RawS.fm (SlK.ext hu3 x4)) hcu hpl (by omega)
    rw [← hn0] at hU
    refine iCall (hU.mono ?_)
    rintro r w5 ⟨x5, b, rfl, hb⟩
    exact ⟨X4.trans x5, b, 0, rfl, fun _ => ⟨hpo, a, rfl, hpl, sa, hb⟩⟩
end Go.Proofs.YtikfhibcdhdglaaGreat

/- Contracts: FollowsOn: what follows from premises on a poset. Conditions: none. -/
namespace Go.Vc
/-- 'append(s, x)', s full and not the call's own: a new row. -/
theorem iAppC {P : Program} {w : World} {t ty e : TypeId} {z x : Value} {bytes b o q : Nat} {xs : List Value} {K : Value → World → Prop} (ht : P.underlying t = some (.slice e)) (hi : (P.info? e).map (fun i => (i.zero, i.size, i.bytes)) = some (some z, 1, bytes)) (hz : isCell z = true)
    (hs : ∀ i, i < xs.length → w.cell? ⟨b, o + i, none⟩ = xs[i]?) (hB : Blk e w q [x]) (hb : (xs.length + 1) * bytes ≤ 140737488355328) (hm : xs.length + 1 ≤ 9223372036854775807)
    (h : ∀ v' w', Ext w w' → Ow w.heap.size e w' v' (xs ++ [x]) → K v' w') : xOp P (Builtin.append_ #[t, t] ty #[.slice (some ⟨b, o, none⟩) xs.length xs.length, .slice (some ⟨q, 0, none⟩) 1 1]) w K := by
  obtain ⟨i, hi, h3⟩ := Option.map_eq_some_iff.1 hi
  simp only [Prod.mk.injEq] at h3
  obtain ⟨hz0, hsz, hby⟩ := h3
  have holds : ∀ j u, xs[j]? = some u → w.cell? ((⟨b, o, none⟩ : Addr).add j) = some u := fun j u hu => by
    have hj : j < xs.length := (List.getElem?_eq_some_iff.1 hu).1
    have e1 : (⟨b, o, none⟩ : Addr).add j = ⟨b, o + j, none⟩ := by
      simp only [Addr.add]; split
      · rename_i e; simp [e]
      · rfl
    rw [e1, hs j hj, hu]
  have hnews : ∀ j u, [x][j]? = some u → w.cell? ((⟨q, 0, none⟩ : Addr).add j) = some u := fun j u hu => by
    have hj : j < [x].length := (List.getElem?_eq_some_iff.1 hu).1
    have : j = 0 := by simpa using hj
    subst this
    have e1 : (⟨q, 0, none⟩ : Addr).add 0 = ⟨q, 0, none⟩ := by simp [Addr.add]
    rw [e1, hB.cell 0, hu]
  have hr := run_append_grow (P := P) w t ty e i z ht hi hz0 ⟨b, o, none⟩ xs.length xs.length xs (by rw [hsz, Nat.mul_one]) holds ⟨q, 0, none⟩ 1 1 [x] (by rw [hsz]; rfl) hnews (by omega) (by omega) (by rw [hby]; exact growslice_fits (by omega) hb)
  have hge := grownCap_ge w (xs.length + 1) xs.length e
  have hgm := grownCap_le_maxLen w (xs.length + 1) xs.length e (by simpa [maxLen] using hm)
  refine ⟨_, _, hr, h _ _ (grown_none ⟨rfl, rfl, rfl, by simp, fun k hk _ => heap_alloc_old w.drew _ hk⟩) ?_⟩
  refine ⟨by simp, .inr ⟨w.heap.size, _, _, by rw [List.length_append, List.length_singleton], Nat.le_refl _, heap_alloc_new w.drew _, by simpa using hge, hgm, ?_, ?_⟩⟩
  · simp only [Array.size_append, List.size_toArray, size_zeroCells, isCell_cells hz]
    simp
    omega
  · rw [List.length_append, List.length_singleton]
    simp only [Nat.mul_one, Array.toList_append, List.append_assoc]
    rw [← List.append_assoc, List.take_append_of_le_length (by simp), List.take_of_length_le (by simp)]
theorem both {α β : Type} {A Q : α → β → Prop} {B C : Prop} (h : ∀ v w, Q v w → A v w) (hb : (∀ v w, Q v w → A v w) → B) (hc : (∀ v w, Q v w → A v w) → C) : B ∧ C := ⟨hb h, hc h⟩
end Go.Vc
namespace Go.Proofs.YtikfhibcdhdglaaGreat
open Go.Vc
theorem ok_slices_ClipN {b o n c : Nat} (h0 : 0 < n) (hc : n ≤ c) (_hm : c ≤ 9223372036854775807) (w : World) : Ret Tryz.prog f_slices_Clip_SSimpl_Node_Simpl_Node #[.slice (some ⟨b, o, none⟩) n c] w (.slice (some ⟨b, o, none⟩) n n) := by
  apply c_slices_Clip_SSimpl_Node_Simpl_Node; unfold S_slices_Clip_SSimpl_Node_Simpl_Node
  refine iLenL (iLenL ?_)
  refine ⟨.slice (some ⟨b, o, none⟩) n n, fun w' _ => ?_, rfl, Ext.refl _⟩
  have hz : ∀ w, (sizeOf 41).run Tryz.prog w = .ok 1 w := Tryz.sizeOf41
  have b1 := run_sliceBound (P := Tryz.prog) w' .i64 (n : Int) c .slice3Acap (by omega) (by omega)
  have b2 := run_sliceBound (P := Tryz.prog) w' .i64 (n : Int) n .slice3B (by omega) (by omega)
  rw [Int.toNat_natCast] at b1 b2
  have hn : ¬ n = 0 := by omega
  simp only [Instr.sliceAt, Instr.slice, Instr.sliceBounds, Sem.run_bind, Sem.run_pure, run_underlying u_SSimpl_Node, Result.andThen_ok, b1, b2, hz, if_true, Option.isSome_some]
  simp [Addr.add, hn]
abbrev VFo := Value × Fm
def rawL (L : List VFo) : List VN := L.map fun p => (p.1, rawF p.2)
theorem RwN.ofF {w : World} {v : Value} {L : List VFo} (h : Sl w v (L.map Prod.fst)) (k : ∀ p ∈ L, FmS w p.1 p.2) : RwN w v (rawL L) := ⟨by simpa [rawL, Function.comp_def] using h, fun p hp => by
  obtain ⟨q, hq, rfl⟩ := List.mem_map.1 hp
  exact FmS.raw (k q hq)⟩
/-- Where the premises hold, in the first k of them. -/
def holdK (f : Fr) (V : Nat → Nat) (L : List VFo) : Nat := L.foldl (fun m p => m &&& frc f V p.2) (2 ^ f.n - 1)
theorem holdK_snoc (f : Fr) (V : Nat → Nat) (L : List VFo) (p : VFo) : holdK f V (L ++ [p]) = holdK f V L &&& frc f V p.2 := by simp [holdK]
theorem foldl_and_bitF (g : VFo → Nat) (i : Nat) : ∀ (L : List VFo) (m : Nat), (L.foldl (fun m p => m &&& g p) m).testBit i = true ↔ m.testBit i = true ∧ ∀ p ∈ L, (g p).testBit i = true
  | [], m => by simp
  | q :: L, m => by
    rw [List.foldl_cons, foldl_and_bitF g i L, Nat.testBit_and, Bool.and_eq_true, and_assoc]
    simp
theorem holdK_bit {f : Fr} {V : Nat → Nat} {L : List VFo} {i : Nat} : (holdK f V L).testBit i = true ↔ i < f.n ∧ ∀ p ∈ L, (frc f V p.2).testBit i = true := by
  unfold holdK
  rw [foldl_and_bitF, Nat.testBit_two_pow_sub_one, decide_eq_true_eq]
theorem holdK_lt {f : Fr} {V : Nat → Nat} {L : List VFo} : holdK f V L < 2 ^ f.n := by
  apply Nat.lt_of_not_le
  intro h
  obtain ⟨i, hi, hb⟩ := Nat.exists_ge_and_testBit_of_ge_two_pow h
  have := (holdK_bit.1 hb).1
  omega
/-- The formula a follows from those of L. -/
def FolP (f : Fr) (L : List Fm) (a : Fm) : Prop := ∀ V, ValOk f V → ∀ i, i < f.n → (∀ b ∈ L, (frc f V b).testBit i = true) → (frc f V a).testBit i = true
theorem ok_impl_FollowsOn {f : Fr} (hP : Po f) {va vp vn : Value} {w : World} (hs : SlN w va f.a) {L : List VFo} (h0 : 0 < L.length) (hp : Sl w vp (L.map Prod.fst)) (hF : ∀ p ∈ L, FmS w p.1 p.2 ∧ Fm.pl p.2 ∧ p.2.size ≤ 40) {a : Fm} (ha : FmS w vn a) (hcn : isCell vn = true) (hpl : Fm.pl a) (hsz : a.size ≤ 40) (hL : L.length ≤ 1000000) :
    Cal Tryz.prog f_impl_FollowsOn #[.agg #[.int .i64 (f.n : Int), va], vp, vn] w fun r w' => Ext w w' ∧ ∃ (b : Bool) (c : Int), r = .tuple #[.bool b, .int .i64 c] ∧ (c = 3 ∨ c = 0 ∧ (b = true ↔ FolP f (L.map Prod.snd) a)) := by
  have h8 := hP.ok.1
  apply cY_impl_FollowsOn; unfold SY_impl_FollowsOn
  refine iNew fun b3 w1 hb3 x1 hB3 => ?_
  refine iNew fun b4 w2 hb4 x2 hB4 => ?_
  refine iNew fun b5 w3 hb5 x3 hB5 => ?_
  refine iNew fun b6 w4 hb6 x4 hB6 => ?_
  refine iNew fun b7 w5 hb7 x5 hB7 => ?_
  have hcp : isCell vp = true := by
    obtain ⟨_, _, h, _⟩ := hp
    rw [h]; rfl
  have hB3 : Blk _ w5 b3 [.int .i64 (f.n : Int), va] := (((hB3.ext x2).ext x3).ext x4).ext x5
  rw [isCell_cells hcp] at hB4
  have hB4 : Blk _ w5 b4 [vp] := ((hB4.ext x3).ext x4).ext x5
  rw [isCell_cells hcn] at hB5
  have hB5 : Blk _ w5 b5 [vn] := (hB5.ext x4).ext x5
  have hB6 : Blk _ w5 b6 [.bool false] := hB6.ext x5
  have hB7 : Blk _ w5 b7 [.int .i64 0] := hB7
  have X5 := (((x1.trans x2).trans x3).trans x4).trans x5
  refine iLdB hB4 (v := vp) rfl (iLdB hB5 (v := vn) rfl ?_)
  intro w6 x6
  obtain ⟨ad, cap, hve, hlc, hcm, hcells'⟩ := hp
  have hlm : (L.map Prod.fst).length = L.length := List.length_map _
  have h0m : 0 < (L.map Prod.fst).length := by omega
  have hpS : ∀ {w'}, Ext w w' → Sl w' vp (L.map Prod.fst) := fun x => Sl.ext ⟨ad, cap, hve, hlc, hcm, hcells'⟩ x
  rcases hcells' with he | ⟨bb, o, rfl, hcl⟩
  · rw [he] at h0m; simp at h0m
  have hcl' : ∀ {w'}, Ext w w' → ∀ i, i < (L.map Prod.fst).length → w'.cell? ⟨bb, o + i, none⟩ = (L.map Prod.fst)[i]? := fun x i hi => by
    have := hcl i hi
    rw [List.getElem?_eq_getElem hi] at this ⊢
    exact x.cell this
  apply both (Q := fun v18 w12 => Ext w5 w12 ∧ Sl w12 v18 (L.map Prod.fst ++ [vn]))
  case hb =>
    intro hk
    rw [hve]
    refine iRet (ok_slices_ClipN h0m hlc hcm w6) fun w7 x7 => ⟨x7, fun w8 x8 => ?_⟩
    refine iBs1 rfl hcn fun bq w9 hbq x9 hBq => ⟨x9, fun w10 x10 => ?_⟩
    have x510 := (((x6.trans x7).trans x8).trans x9).trans x10
    refine iAppC u_SSimpl_Node i_SSimpl_Node rfl (hcl' (X5.trans x510)) (hBq.ext x10) (by omega) (by omega) fun v18 w11 x11 ho => ?_
    intro w12 x12
    exact hk v18 w12 ⟨(x510.trans x11).trans x12, (ho.ext x12).sl⟩
  case hc =>
    intro hk
    rw [hve]
    refine iBs1 rfl hcn fun bq w9 hbq x9 hBq => ⟨x9, fun w10 x10 => ?_⟩
    refine iRet (ok_slices_ClipN h0m hlc hcm w10) fun w7 x7 => ⟨x7, fun w8 x8 => ?_⟩
    have x58 := (((x6.trans x9).trans x10).trans x7).trans x8
    refine iAppC u_SSimpl_Node i_SSimpl_Node rfl (hcl' (X5.trans x58)) ((hBq.ext (x10.trans x7)).ext x8) (by omega) (by omega) fun v18 w11 x11 ho => ?_
    intro w12 x12
    exact hk v18 w12 ⟨(x58.trans x11).trans x12, (ho.ext x12).sl⟩
  rintro v18 w12 ⟨x12, hS12⟩
  have X12 := X5.trans x12
  have hLa : ∀ p ∈ L ++ [(vn, a)], ∀ {w'}, Ext w w' → FmS w' p.1 p.2 := fun p hp w' x => by
    rcases List.mem_append.1 hp with hp | hp
    · exact SlK.ext (hF p hp).1 x
    · rw [List.mem_singleton] at hp
      subst hp
      exact SlK.ext ha x
  have hLp : ∀ p ∈ L ++ [(vn, a)], Fm.pl p.2 ∧ p.2.size ≤ 40 := fun p hp => by
    rcases List.mem_append.1 hp with hp | hp
    · exact (hF p hp).2
    · rw [List.mem_singleton] at hp
      subst hp
      exact ⟨hpl, hsz⟩
  have hR12 : RwN w12 v18 (rawL (L ++ [(vn, a)])) := RwN.ofF (by simpa using hS12) fun p hp => hLa p hp X12
  have hrl : ∀ q ∈ rawL (L ++ [(vn, a)]), ∃ p ∈ L ++ [(vn, a)], q.2 = rawF p.2 := fun q hq => by
    obtain ⟨p, hp, rfl⟩ := List.mem_map.1 hq
    exact ⟨p, hp, rfl⟩
  refine iLdA (hB3.ext x12) rfl ?_
  refine iCall ((ok_impl_posetSearchCode (n := (f.n : Int)) (hs.ext X12) hR12 fun q hq => by
    obtain ⟨p, hp, e⟩ := hrl q hq
    rw [e, rawF_len]
    have := (hLp p hp).2
    omega).mono ?_)
  rintro _ w13 ⟨x13, c, rfl, hc⟩
  have hc : c = 0 ∨ c = 3 := by
    rw [if_pos ⟨posetOk_ofJ hP, List.all_eq_true.2 fun q hq => by
      obtain ⟨p, hp, e⟩ := hrl q hq
      rw [e]
      exact isN_raw (pl_good (hLp p hp).1) (hLp p hp).2⟩, if_pos (List.all_eq_true.2 fun q hq => by
      obtain ⟨p, hp, e⟩ := hrl q hq
      rw [e]
      exact (pl_iff.1 (hLp p hp).1).2)] at hc
    exact hc
  have x513 := x12.trans x13
  have X13 := X5.trans x513
  refine iNe (iCndP (fun hne => ?_) (fun h0c => ?_))
  · have hc3 : c = 3 := by omega
    refine iStB (hB6.ext x513) (i := 0) (by simp) rfl fun hb6' => ?_
    have u6 := Upd.setCell w13 b6 0 (.bool false)
    refine iStB ((hB7.ext x513).upd u6 (by omega)) (i := 0) (by simp) rfl fun hb7' => ?_
    have u7 := Upd.setCell (w13.setCell ⟨b6, 0, none⟩ (.bool false)) b7 0 (.int .i64 c)
    refine iLdB (hb6'.upd u7 (by omega)) rfl (iLdB hb7' rfl ⟨(X13.upd u6 (by omega)).upd u7 (by omega), false, c, rfl, .inl hc3⟩)
  have h0c : c = 0 := by omega
  clear hc
  refine iLdA (hB3.ext x513) rfl ?_
  intro w18 x18
  have hok : ∀ q ∈ rawL (L ++ [(vn, a)]), q.2.all okN = true := fun q hq => by
    obtain ⟨p, hp, e⟩ := hrl q hq
    rw [e]
    exact List.all_eq_true.2 (rawF_ok (pl_good (hLp p hp).1))
  refine iCall ((ok_impl_variablesIn (hR12.ext (x13.trans x18)) hok).mono ?_)
  rintro vv w19 ⟨x19, hov⟩
  refine ⟨x19, fun w20 x20 => ?_⟩
  have x520 := ((x513.trans x18).trans x19).trans x20
  refine iCall ((ok_impl_valuations hP (hs.ext (X5.trans x520)) hov.cell).mono ?_)
  rintro _ w21 ⟨x21, bv, bu, vu, rfl, hbv, hbu, hBv, hBu, hou⟩
  intro w22 x22
  have x522 := (x520.trans x21).trans x22
  have X22 := X5.trans x522
  have hsz5 : w5.heap.size ≤ w18.heap.size := (x513.trans x18).size
  have hsz18 : w18.heap.size ≤ w20.heap.size := (x19.trans x20).size
  have hsz22 := x522.size
  have hmem : ∀ v, v ∈ mem (maskL (rawL (L ++ [(vn, a)]))) ↔ ∃ p ∈ L ++ [(vn, a)], (maskV (rawF p.2)).testBit v = true := fun v => by
    rw [mem_mem (Nat.lt_of_lt_of_le (maskL_lt hok) (by decide)), maskL_bit]
    constructor
    · rintro ⟨q, hq, hb⟩
      obtain ⟨p, hp, e⟩ := hrl q hq
      exact ⟨p, hp, by rw [← e]; exact hb⟩
    · rintro ⟨p, hp, hb⟩
      exact ⟨_, List.mem_map.2 ⟨p, hp, rfl⟩, hb⟩
  have hvis := hov.ext ((x20.trans x21).trans x22)
  refine iVals (bad := fun c => decide (¬ sdiff (holdK f (vV c) L) (frc f (vV c) a) = 0)) (S := fun b => b = b6 ∨ b = b7) (J := fun W => Ext w22 W) (X := fun c W => Ch (fun b => b = b6 ∨ b = b7) w22 W ∧ Blk 4 W b6 [.bool false] ∧ Blk t_i64 W b7 [.int .i64 0])
    hP (mem_nodup _) (fun v hv => ?_) (hBv.ext x22) (hBu.ext x22) hvis (hou.ext x22) ⟨fun h => by omega, fun h => by omega⟩ (fun b hb h => by have := (hov.blk b hb).1; omega) (fun b hb h => by have := (hou.blk b hb).1; omega)
    (fun b h => by omega) (Ext.refl _) (fun T W W' h k hT => h.thenCh k hT) (fun T c W W' h k hT => ?_) ?_ ?_ ?_
  · obtain ⟨p, hp, hb⟩ := (hmem v).1 hv
    exact bit_lt_n (maskV_lt (List.all_eq_true.2 (rawF_ok (pl_good (hLp p hp).1)))) hb
  · obtain ⟨h1, h2, h3⟩ := h
    exact ⟨h1.trans k fun b hb => .inr (hT b hb), h2.ch k fun h => by have := hT _ h; omega, h3.ch k fun h => by have := hT _ h; omega⟩
  · intro l LR LB LX hl hstab W lo v c hJW hLR hlo hWs ho hc hcu
    refine ⟨rfl, hLR, fun Wb kb hLB => ?_⟩
    have XWb : Ext w22 Wb := hJW.thenCh kb fun b hb => by omega
    have hoWb := ho.ch kb fun b hb e => by have := (ho.blk b hb).1; omega
    have hlt6 : ∀ x ∈ c, x < 2 ^ f.n := fun x hx => upsets_lt (hcu x hx)
    have x5Wb := x522.trans XWb
    refine iLdA (hB3.ext x5Wb) rfl ?_
    refine iRet (ok_impl_Poset_all f.n h8 va Wb) fun w24 x24 => ?_
    refine iLdB ((hB4.ext x5Wb).ext x24) (v := vp) rfl ?_
    refine iLenS (hpS ((X5.trans x5Wb).trans x24)) ?_
    rw [hlm]
    refine iLp (fun k : Nat => [.int .i64 ((holdK f (vV c) (L.take k) : Nat) : Int), .int .i64 (k : Int)]) (fun k w' => k ≤ L.length ∧ Ext Wb w') (fun k => L.length - k) 0 rfl ⟨Nat.zero_le _, x24⟩ ?_
    rintro k w26 Kn ⟨hk, x26⟩ hKn
    have x526 := x5Wb.trans x26
    have X26 := X5.trans x526
    intro _
    simp only [gx]
    refine iLt (iCndP (fun hlt => ?_) (fun hlt => ?_))
    · have hkL : k < L.length := by omega
      refine iIa (j := (k : Int)) (hpS X26) (by omega) (by rw [hlm]; omega) fun p hp => ?_
      refine iLd (v := L[k].1) (by rw [hp]; simp [hkL]) ?_
      refine iLdA (hB3.ext x526) rfl ?_
      obtain ⟨hFk, hplk, hszk⟩ := hF _ (List.getElem_mem hkL)
      refine iRet (ok_impl_forced hP.ok (hs.ext X26) (hoWb.ext x26).sl hc hlt6 (SlK.ext hFk X26) hplk (by omega)) fun w27 x27 => ?_
      have hh := holdK_lt (f := f) (V := vV c) (L := L.take k)
      have h28 : 2 ^ f.n ≤ 2 ^ 8 := Nat.pow_le_pow_right (by omega) h8
      have hf8 : frc f (vV c) L[k].2 < 2 ^ f.n := frc_lt hP (vV_ok hP hcu) _
      refine iBAnd (by omega) (Nat.lt_of_lt_of_le hf8 (by omega)) (iAdd (by omega) ⟨by first | trivial | rfl, ?_⟩)
      refine hKn (k + 1) _ ⟨hkL, x26.trans x27⟩ (by omega) |> fun h => ?_
      have e : holdK f (vV c) (L.take (k + 1)) = holdK f (vV c) (L.take k) &&& frc f (vV c) L[k].2 := by rw [List.take_succ_eq_append_getElem hkL, holdK_snoc]
      rw [← e]
      exact h
    · have hkk : k = L.length := by omega
      subst hkk
      rw [List.take_length]
      refine iLdA (hB3.ext x526) rfl (iLdB (hB5.ext x526) (v := vn) rfl ?_)
      refine iRet (ok_impl_forced hP.ok (hs.ext X26) (hoWb.ext x26).sl hc hlt6 (SlK.ext ha X26) hpl (by omega)) fun w28 x28 => ?_
      have hh := holdK_lt (f := f) (V := vV c) (L := L)
      have h28 : 2 ^ f.n ≤ 2 ^ 8 := Nat.pow_le_pow_right (by omega) h8
      have hf8 : frc f (vV c) a < 2 ^ f.n := frc_lt hP (vV_ok hP hcu) _
      refine iRet (ok_impl_within (holdK f (vV c) L) (frc f (vV c) a) (by omega) (Nat.lt_of_lt_of_le hf8 (by omega)) w28) fun w29 x29 => ?_
      have xb29 := (x26.trans x28).trans x29
      have hsWb := kb.size
      have hLB29 : LB _ := (hstab (fun _ => False) Wb _ xb29.ch (fun h => h) (fun h => h)).2.1 hLB
      refine iNot ?_
      cases hd : decide (sdiff (holdK f (vV c) L) (frc f (vV c) a) = 0)
      · have hbd : decide (¬ sdiff (holdK f (vV c) L) (frc f (vV c) a) = 0) = true := by rw [decide_not, hd]; rfl
        refine iCndT rfl ?_
        have hb6 := hB6.ext (x5Wb.trans xb29)
        have hb7 := hB7.ext (x5Wb.trans xb29)
        refine iStB hb6 (i := 0) (by simp) rfl fun hb6' => ?_
        have u6 := Upd.setCell w29 b6 0 (.bool false)
        refine iStB (hb7.upd u6 (by omega)) (i := 0) (by simp) rfl fun hb7' => ?_
        have u7 := Upd.setCell (w29.setCell ⟨b6, 0, none⟩ (.bool false)) b7 0 (.int .i64 0)
        generalize hw31 : (w29.setCell ⟨b6, 0, none⟩ (.bool false)).setCell ⟨b7, 0, none⟩ (.int .i64 0) = w31 at *
        have hk31 : Ch (fun b => b = b6 ∨ b = b7) Wb w31 := ((xb29.ch (S := fun b => b = b6 ∨ b = b7)).trans (u6.ch (S := fun b => b = b6) rfl) fun b h => .inl (.inl h)).trans (u7.ch (S := fun b => b = b7) rfl) fun b h => .inl (.inr h)
        have hs31 := hk31.size
        refine ⟨by first | trivial | rfl, (hstab _ Wb w31 hk31 (fun h => by omega) (fun h => by omega)).2.1 hLB, fun W' k' hLX => ?_⟩
        refine ⟨((kb.mono (S' := fun b => b = l ∨ b = b6 ∨ b = b7) fun b h => .inl h).trans (hk31.mono (S' := fun b => b = l ∨ b = b6 ∨ b = b7) fun b h => .inr h) fun b h => .inl h).trans k' fun b h => .inl (.inl h), ?_⟩
        rw [if_pos hbd]
        exact ⟨rfl, hLX, ((XWb.ch (S := fun b => b = b6 ∨ b = b7)).trans hk31 fun b h => .inl h).trans k' fun b h => .inr (by omega), (hb6'.upd u7 (by omega)).ch k' fun h => by omega, hb7'.ch k' fun h => by omega⟩
      · have hbd : decide (¬ sdiff (holdK f (vV c) L) (frc f (vV c) a) = 0) = false := by rw [decide_not, hd]; rfl
        refine iCndF rfl ⟨by first | trivial | rfl, hLB29, fun W' k' hLR' => ?_⟩
        have hs29 := xb29.size
        refine ⟨(kb.trans (xb29.ch.trans k' fun b h => .inl h) fun b h => .inl h).mono fun b h => .inl h, ?_⟩
        rw [if_neg (by rw [hbd]; simp)]
        exact ⟨rfl, hLR', (XWb.trans xb29).thenCh k' fun b hb => by omega⟩
  · intro W hJW hsW hD hall
    have x5W := x522.trans hJW
    refine iStB (hB6.ext x5W) (i := 0) (by simp) rfl fun hb6' => ?_
    have u6 := Upd.setCell W b6 0 (.bool true)
    refine iStB ((hB7.ext x5W).upd u6 (by omega)) (i := 0) (by simp) rfl fun hb7' => ?_
    have u7 := Upd.setCell (W.setCell ⟨b6, 0, none⟩ (.bool true)) b7 0 (.int .i64 0)
    generalize hw31 : (W.setCell ⟨b6, 0, none⟩ (.bool true)).setCell ⟨b7, 0, none⟩ (.int .i64 0) = w31 at *
    have hk31 : Ch (fun b => b = b6 ∨ b = b7) W w31 := ((u6.ch (S := fun b => b = b6 ∨ b = b7) (.inl rfl)).trans (u7.ch (S := fun b => b = b7) rfl) fun b h => .inl (.inr h))
    refine ⟨Dfo.ch hD hk31 fun h => by omega, fun w34 k34 => ?_⟩
    have hs31 := hk31.size
    refine iLdB ((hb6'.upd u7 (by omega)).ch k34 fun h => by omega) rfl (iLdB (hb7'.ch k34 fun h => by omega) rfl ⟨((X5.trans x5W).thenCh hk31 fun b h => by omega).thenCh k34 fun b h => by omega, true, 0, rfl, .inr ⟨rfl, ?_⟩⟩)
    refine ⟨fun _ V hV i hi hbs => ?_, fun _ => rfl⟩
    obtain ⟨c, h1, h2, h3, h4⟩ := hall V hV
    have h4 : sdiff (holdK f (vV c) L) (frc f (vV c) a) = 0 := by simpa using h4
    have hcg : ∀ p ∈ L ++ [(vn, a)], frc f (vV c) p.2 = frc f V p.2 := fun p hp => frc_congr p.2 fun v hv => h3 v ((hmem v).2 ⟨p, hp, has_maskV hv⟩)
    rw [← hcg (vn, a) (List.mem_append_right _ (List.mem_singleton.2 rfl))]
    refine sdiff_eq_zero.1 h4 i (holdK_bit.2 ⟨hi, fun p hp => ?_⟩)
    rw [hcg p (List.mem_append_left _ hp)]
    exact hbs p.2 (List.mem_map.2 ⟨p, hp, rfl⟩)
  · intro W c ⟨hX, h6, h7⟩ hsW hD hc hcu hbd
    refine ⟨hD, fun w37 k37 => ?_⟩
    refine iLdB (h6.ch k37 fun h => by omega) rfl (iLdB (h7.ch k37 fun h => by omega) rfl ⟨(X22.thenCh hX fun b h => by omega).thenCh k37 fun b h => by omega, false, 0, rfl, .inr ⟨rfl, ?_⟩⟩)
    refine ⟨fun h => (by cases h), fun hfol => ?_⟩
    have hbd : ¬ sdiff (holdK f (vV c) L) (frc f (vV c) a) = 0 := by simpa using hbd
    refine absurd (sdiff_eq_zero.2 fun i hi => ?_) hbd
    obtain ⟨hi1, hi2⟩ := holdK_bit.1 hi
    refine hfol _ (vV_ok hP hcu) i hi1 fun b hb => ?_
    obtain ⟨p, hp, rfl⟩ := List.mem_map.1 hb
    exact hi2 p hp
end Go.Proofs.YtikfhibcdhdglaaGreat

/- Contracts: the laws' helpers: equal rows of nodes, lists of them, one bit. Conditions: none. -/
namespace Go.Proofs.YtikfhibcdhdglaaGreat
open Go.Vc
theorem ok_laws_sameNodes9 {v v' : Value} {w : World} {N : List RN} (hs : RawS w v N) (hs' : RawS w v' N) (hN : N.length ≤ 1000000000) : Ret Tryz.prog f_laws_sameNodes9 #[v, v'] w (.bool true) := by
  apply c_laws_sameNodes9; unfold S_laws_sameNodes9
  refine iLenK hs (iLenK hs' ?_)
  refine iNe (iCndP (fun h => absurd rfl h) (fun _ => ?_))
  refine iLp (fun i : Nat => [.int .i64 (i : Int)]) (fun i w' => i ≤ N.length ∧ Ext w w') (fun i => N.length - i) 0 rfl ⟨Nat.zero_le _, Ext.refl _⟩ ?_
  rintro i w2 Kn ⟨hi, x2⟩ hKn
  have hs2 : RawS w2 v N := SlK.ext hs x2
  have hs2' : RawS w2 v' N := SlK.ext hs' x2
  intro _
  simp only [gx]
  refine iLenK hs2 ?_
  refine iLt (iCndP (fun h => ?_) (fun h => ?_))
  · have hi1 : i < N.length := by omega
    obtain ⟨c1, c2⟩ := cellsN_at hi1
    have hy : ∀ j, j < 2 → (cellsN N)[i * 2 + j]? = [Value.int .i64 N[i].1, .int .i64 N[i].2][j]? := fun j hj => by
      have : j = 0 ∨ j = 1 := by omega
      rcases this with rfl | rfl
      · exact c1
      · exact c2
    refine iRdAgg6 (P := Tryz.prog) (ys := [.int .i64 N[i].1, .int .i64 N[i].2]) hs2 hi1 rfl hy ?_
    refine iRdAgg6 (P := Tryz.prog) (ys := [.int .i64 N[i].1, .int .i64 N[i].2]) hs2' hi1 rfl hy ?_
    refine iNeNode (t0 := 2) (t1 := 2) (by kernel_rfl) (by kernel_rfl) (by kernel_rfl) (by kernel_rfl) (by kernel_rfl) (by kernel_rfl) ?_
    intro w3 x3
    refine iCndF (decide_eq_false fun h => h ⟨rfl, rfl⟩) (iAdd (by omega) ?_)
    exact hKn (i + 1) _ ⟨hi1, x2.trans x3⟩ (by omega)
  · exact ⟨by first | trivial | rfl, x2⟩
theorem ok_laws_sameList9 {v v' : Value} {w : World} {A B : List (Value × Fm)} (hs : Sl w v (A.map Prod.fst)) (hs' : Sl w v' (B.map Prod.fst)) (hA : ∀ p ∈ A, FmS w p.1 p.2) (hB : ∀ p ∈ B, FmS w p.1 p.2) (he : A.map Prod.snd = B.map Prod.snd) (hsz : ∀ p ∈ A, p.2.size ≤ 1000000) : Ret Tryz.prog f_laws_sameList9 #[v, v'] w (.bool true) := by
  apply c_laws_sameList9; unfold S_laws_sameList9
  have hl : A.length = B.length := by have := congrArg List.length he; simpa using this
  have hcap := hs.len
  rw [List.length_map] at hcap
  have lenA : ∀ w', Ext w w' → ∀ {K : Value → Prop}, K (.int .i64 (A.length : Nat)) → xLenS v K := fun w' x _ h => iLenS (Sl.ext hs x) (by rw [List.length_map]; exact h)
  refine lenA w (Ext.refl _) ?_
  refine iLenS hs' ?_
  rw [List.length_map, ← hl]
  refine iNe (iCndP (fun h => absurd rfl h) (fun _ => ?_))
  refine iLp (fun i : Nat => [.int .i64 (i : Int)]) (fun i w' => i ≤ A.length ∧ Ext w w') (fun i => A.length - i) 0 rfl ⟨Nat.zero_le _, Ext.refl _⟩ ?_
  rintro i w2 Kn ⟨hi, x2⟩ hKn
  intro _
  simp only [gx]
  refine lenA w2 x2 ?_
  refine iLt (iCndP (fun h => ?_) (fun h => ?_))
  · have hi1 : i < A.length := by omega
    have hi2 : i < B.length := by omega
    have hee : A[i].2 = B[i].2 := by
      have h1 : (A.map Prod.snd)[i]? = (B.map Prod.snd)[i]? := by rw [he]
      rw [List.getElem?_map, List.getElem?_map, List.getElem?_eq_getElem hi1, List.getElem?_eq_getElem hi2] at h1
      exact Option.some.inj h1
    refine iIa (j := (i : Int)) (Sl.ext hs x2) (by omega) (by rw [List.length_map]; omega) fun p hp => iLd (v := A[i].1) (by rw [hp]; simp [hi1]) ?_
    refine iIa (j := (i : Int)) (Sl.ext hs' x2) (by omega) (by rw [List.length_map]; omega) fun p hp => iLd (v := B[i].1) (by rw [hp]; simp [hi2]) ?_
    have o1 := FmS.raw (SlK.ext (hA _ (List.getElem_mem hi1)) x2)
    have o2 := FmS.raw (SlK.ext (hB _ (List.getElem_mem hi2)) x2)
    rw [← hee] at o2
    have := hsz _ (List.getElem_mem hi1)
    refine iRetQ (fun w' h' => ok_laws_sameNodes9 (SlK.ext o1 h') (SlK.ext o2 h') (by rw [rawF_len]; omega)) ?_
    refine iNot ?_
    intro w3 x3
    refine iCndF rfl ?_
    refine iAdd (by omega) ?_
    exact hKn (i + 1) _ ⟨by omega, x2.trans x3⟩ (by omega)
  · exact ⟨by first | trivial | rfl, x2⟩
theorem ok_laws_bit9U (m i : Nat) (hm : m < 2 ^ 62) (hi : i < 62) (w : World) : Ret Tryz.prog f_laws_bit9 #[.int .i64 (m : Int), .int .i64 (i : Int)] w (.bool (m.testBit i)) := by
  apply c_laws_bit9; unfold S_laws_bit9
  refine iJnB (m.testBit i) w (fun J hJ => ?_) (fun w2 x2 => fun _ => ⟨rfl, x2⟩)
  refine iLe ?_
  refine iCndP (fun _ => ?_) (fun h => by omega)
  refine iLt ?_
  refine iCndP (fun _ => ?_) (fun h => by omega)
  refine iConvU (by omega) ?_
  refine ⟨_, _, _, rfl, rfl, by omega, ?_⟩
  refine ⟨_, _, rfl, rfl, ?_⟩
  rw [bit_of_shr (by omega) (by omega)]
  refine iEq ?_
  have e : decide (((m.testBit i).toNat : Int) = 1) = m.testBit i := by cases m.testBit i <;> rfl
  rw [e]
  exact hJ _ (Ext.refl _)
end Go.Proofs.YtikfhibcdhdglaaGreat

/- The laws' helpers on rows of formulas: equal, marked, held. Conditions: none. -/
namespace Go.Vc
section
variable {P : Program} {w : World}
end
end Go.Vc
namespace Go.Proofs.YtikfhibcdhdglaaGreat
open Go.Vc
end Go.Proofs.YtikfhibcdhdglaaGreat

/- Contracts: TellingFormulas in the program and the reference, and the law on it. Conditions: none. -/
namespace Go.Vc
theorem mem_pos {m : Nat} (hm : m < 2 ^ 63) (h : ¬ m = 0) : 0 < (mem m).length := by
  apply Nat.pos_of_ne_zero
  intro e
  apply h
  apply Nat.eq_of_testBit_eq
  intro i
  rw [Nat.zero_testBit, Bool.eq_false_iff]
  intro hb
  have := (mem_mem hm).2 hb
  rw [List.length_eq_zero_iff.1 e] at this
  cases this
theorem iIaNN0 {w : World} {v : Value} {l : List Nat} {k : IntKind} {K : Value → Prop} (hs : SlN w v l) (h0 : 0 < l.length) (h : K (.int .i64 ((l.getD 0 0 : Nat) : Int))) : xIa 1 v (.int k 0) fun p => xLd w p K := by
  refine iIa (j := 0) hs (by omega) (by rw [ints_length, nats_length]; omega) fun p hp => ?_
  refine iLd (hp.trans ?_) h
  simp [ints, nats, List.getD_eq_getElem?_getD, h0]
theorem tell_lt (f g : Fr) : tell f g < 2 ^ g.n := tellK_lt f g g.n
end Go.Vc
namespace Go.Proofs.YtikfhibcdhdglaaGreat
open Go.Vc
/-- What TellingFormulas returns: premises, the conclusion's nodes, the element, the code. -/
def tfX (f g : Fr) : Nat := (mem (tell f g)).getD 0 0
def tfP (f g : Fr) : Fr := partFr g (g.a.getD (tfX f g) 0)
def tfR (n0 : Int) (l0 : List Int) (n1 : Int) (l1 : List Int) : (List Fm × Nat × List Value) × Int × Int :=
  if codeS [(n0, l0), (n1, l1)] = 0 then (if tell (frOf n0 l0) (frOf n1 l1) = 0 then (([], 0, []), 0, 4) else if 5 < (tfP (frOf n0 l0) (frOf n1 l1)).n then (([], 0, []), 0, 3) else ((premF (tfP (frOf n0 l0) (frOf n1 l1)), (concF (tfP (frOf n0 l0) (frOf n1 l1))).size, (concF (tfP (frOf n0 l0) (frOf n1 l1))).cells), ((tfX (frOf n0 l0) (frOf n1 l1) : Nat) : Int), 0)) else (([], 0, []), 0, codeS [(n0, l0), (n1, l1)])
/-- Premises and conclusion in rows of the call's own, each in its own. -/
def TfW (lo : Nat) (w : World) (pv cv : Value) (x : List Fm × Nat × List Value) : Prop :=
  ∃ L, RF lo w pv L ∧ EF lo w L ∧ L.map Prod.snd = x.1 ∧ OwK 2 lo t_impl_Node w cv x.2.1 x.2.2 ∧ ∀ p ∈ L, ∀ c, p.1.ownBlock = some c → cv.ownBlock ≠ some c
theorem TfW.nil (lo : Nat) (w : World) : TfW lo w (.slice none 0 0) (.slice none 0 0) ([], 0, []) := ⟨[], Ow.nil _ _ _, EF.nil _ _, rfl, OwK.nil _ _ _ _, fun p hp => (by cases hp)⟩
theorem TfW.ext {lo : Nat} {w w' : World} {pv cv : Value} {x : List Fm × Nat × List Value} (h : TfW lo w pv cv x) (k : Ext w w') : TfW lo w' pv cv x := by
  obtain ⟨L, h1, h2, h3, h4, h5⟩ := h
  exact ⟨L, Ow.ext h1 k, h2.ext k, h3, OwK.ext h4 k, h5⟩
theorem tf_facts {f g : Fr} (hg : Po g) (h : ¬ tell f g = 0) : tfX f g < g.n ∧ 0 < (mem (tell f g)).length ∧ Po (tfP f g) ∧ Rooted (tfP f g) := by
  have hlt := tell_lt f g
  have hp := mem_pos (mask63 hg.ok hlt) h
  have hx : tfX f g < g.n := mem_lt hg.ok hlt (getD_mem hp)
  exact ⟨hx, hp, part_po hg (hg.ok.lt hx), cone_rooted hg hx⟩
theorem ok_impl_TellingFormulas {w : World} {v0 v1 : Value} {l0 l1 : List Int} (hs0 : SlI w v0 l0) (hs1 : SlI w v1 l1) (n0 n1 : Int) : Cal Tryz.prog f_impl_TellingFormulas #[.agg #[.int .i64 n0, v0], .agg #[.int .i64 n1, v1]] w fun r w' => Ext w w' ∧ ∃ pv cv, r = .tuple #[pv, cv, .int .i64 (tfR n0 l0 n1 l1).2.1, .int .i64 (tfR n0 l0 n1 l1).2.2] ∧ TfW w.heap.size w' pv cv (tfR n0 l0 n1 l1).1 := by
  apply c_impl_TellingFormulas; unfold S_impl_TellingFormulas
  have hX := Ext.refl w
  refine iNew fun b2 w1 hb2 h hB2 => ?_
  have hX := hX.trans h
  refine iNew fun b3 w2 hb3 h hB3 => ?_
  have hX := hX.trans h
  have hB2 := hB2.ext h
  ((with_reducible refine iLdA (by assumption) ?_ ?_); rfl; (with_reducible refine iLdA (by assumption) ?_ ?_); rfl)
  refine iBs22 fun bb w3 hbb h hBB => ?_
  have hX := hX.trans h
  have hB2 := hB2.ext h
  have hB3 := hB3.ext h
  refine iRet (ok_impl_sixCode (SlP.two hBB (hs0.ext hX) (hs1.ext hX))) fun w4 h => ?_
  have hX := hX.trans h
  have hB2 := hB2.ext h
  have hB3 := hB3.ext h
  unfold tfR
  ((with_reducible refine iNe ?_))
  refine iCndP (fun hc => ?_) (fun hc => ?_)
  · rw [if_neg hc]; exact ⟨hX, _, _, rfl, TfW.nil _ _⟩
  · have hc := Classical.not_not.1 hc
    rw [if_pos hc]
    obtain ⟨h0, h1, _, _⟩ := codeS_two hc
    obtain ⟨hP, hn0, hl0⟩ := posetOk_po h0
    obtain ⟨hQ, hn1, hl1⟩ := posetOk_po h1
    generalize frOf n0 l0 = f at *
    generalize frOf n1 l1 = g at *
    subst hn0; subst hl0; subst hn1; subst hl1
    ((with_reducible refine iLdA (by assumption) ?_ ?_); rfl; (with_reducible refine iLdA (by assumption) ?_ ?_); rfl)
    refine iRet (ok_impl_telling hP hQ (hs0.ext hX) (hs1.ext hX)) fun w5 h => ?_
    have hX := hX.trans h
    have hB2 := hB2.ext h
    have hB3 := hB3.ext h
    refine iEq (iCndP (fun ht => ?_) (fun ht => ?_))
    · have ht : tell f g = 0 := by exact_mod_cast ht
      rw [if_pos ht]; exact ⟨hX, _, _, rfl, TfW.nil _ _⟩
    · have ht : ¬ tell f g = 0 := fun e => ht (by exact_mod_cast e)
      rw [if_neg ht]
      obtain ⟨fx, fl0, fp, fr⟩ := tf_facts (f := f) hQ ht
      refine iCall ((ok_impl_membersOf (tell f g) (mask63 hQ.ok (tell_lt f g)) w5).mono ?_)
      rintro mv w6 ⟨h, hm⟩
      have hX := hX.trans h
      have hB2 := hB2.ext h
      have hB3 := hB3.ext h
      have hms : SlN w6 mv (mem (tell f g)) := hm.sl
      refine iIaNN0 hms fl0 ?_
      refine iLdA hB3 rfl ?_
      refine iCall ((ok_impl_Poset_cone hQ.ok (hs1.ext hX) (tfX f g) fx).mono ?_)
      rintro _ w7 ⟨h, v', rfl, ho'⟩
      have hX := hX.trans h
      have hB2 := hB2.ext h
      have hB3 := hB3.ext h
      refine iNew fun b11 w8 hb11 x8 hB8 => ?_
      have ho8 := ho'.ext x8
      refine iStAB hB8 rfl rfl (ho8.pair _) fun w9 hu9 hB9 => ?_
      have x79 : Ext w7 w9 := x8.upd hu9 (by omega)
      have hX9 := hX.trans x79
      have hs9 : SlN w9 v' (tfP f g).a := (ho'.ext x79).sl
      have hB9 : Blk t_impl_Poset w9 b11 [.int .i64 ((tfP f g).n : Int), v'] := hB9
      refine iLdA hB9 rfl ?_
      refine iRet (ok_impl_jankovCode fp fr hs9) fun w10 x10 => ?_
      have hX10 := hX9.trans x10
      by_cases h5 : 5 < (tfP f g).n
      · rw [if_pos h5, if_pos h5]
        refine iNe (iCndP (fun _ => ?_) (fun h => absurd (show ¬ (3 : Int) = 0 by decide) h))
        exact ⟨hX10, _, _, rfl, TfW.nil _ _⟩
      · rw [if_neg h5, if_neg h5]
        refine iNe (iCndP (fun h => absurd rfl h) (fun _ => ?_))
        have hB10 := hB9.ext x10
        have hs10 := hs9.ext x10
        refine iLdA hB10 rfl ?_
        refine iLdA hB10 rfl ?_
        intro w11 x11
        refine iCall ((ok_impl_premises fp.ok fr (hs10.ext x11)).mono ?_)
        rintro pv w12 ⟨x12, L, hR, hE, hL⟩
        refine ⟨x12, fun w13 x13 => ?_⟩
        refine iCall ((ok_impl_conclusion fp.ok fr (hs10.ext (x11.trans (x12.trans x13)))).mono ?_)
        rintro cv w14 ⟨x14, hcv⟩
        intro w15 x15
        have X11 := hX10.trans x11
        refine ⟨X11.trans (x12.trans (x13.trans (x14.trans x15))), pv, cv, rfl, L, Ow.mono (Ow.ext hR (x13.trans (x14.trans x15))) X11.size, (hE.ext (x13.trans (x14.trans x15))).mono X11.size, hL, OwK.mono (OwK.ext hcv x15) (X11.trans (x12.trans x13)).size, fun p hp c hc hc' => ?_⟩
        have q1 := ((hE.1 p hp).blk c hc).2
        have q2 := (OwK.blk hcv c hc').1
        have := x13.size
        omega
theorem ok_spec_TellingFormulas {w : World} {v0 v1 : Value} {l0 l1 : List Int} (hs0 : SlI w v0 l0) (hs1 : SlI w v1 l1) (n0 n1 : Int) : Cal Tryz.prog f_spec_TellingFormulas #[.agg #[.int .i64 n0, v0], .agg #[.int .i64 n1, v1]] w fun r w' => Ext w w' ∧ ∃ pv cv, r = .tuple #[pv, cv, .int .i64 (tfR n0 l0 n1 l1).2.1, .int .i64 (tfR n0 l0 n1 l1).2.2] ∧ TfW w.heap.size w' pv cv (tfR n0 l0 n1 l1).1 := by
  apply c_spec_TellingFormulas; unfold S_spec_TellingFormulas
  have hX := Ext.refl w
  refine iNew fun b2 w1 hb2 h hB2 => ?_
  have hX := hX.trans h
  refine iNew fun b3 w2 hb3 h hB3 => ?_
  have hX := hX.trans h
  have hB2 := hB2.ext h
  ((with_reducible refine iLdA (by assumption) ?_ ?_); rfl; (with_reducible refine iLdA (by assumption) ?_ ?_); rfl)
  refine iBs22 fun bb w3 hbb h hBB => ?_
  have hX := hX.trans h
  have hB2 := hB2.ext h
  have hB3 := hB3.ext h
  refine iRet (ok_spec_l34Code (SlP.two hBB (hs0.ext hX) (hs1.ext hX))) fun w4 h => ?_
  have hX := hX.trans h
  have hB2 := hB2.ext h
  have hB3 := hB3.ext h
  unfold tfR
  ((with_reducible refine iNe ?_))
  refine iCndP (fun hc => ?_) (fun hc => ?_)
  · rw [if_neg hc]; exact ⟨hX, _, _, rfl, TfW.nil _ _⟩
  · have hc := Classical.not_not.1 hc
    rw [if_pos hc]
    obtain ⟨h0, h1, _, _⟩ := codeS_two hc
    obtain ⟨hP, hn0, hl0⟩ := posetOk_po h0
    obtain ⟨hQ, hn1, hl1⟩ := posetOk_po h1
    generalize frOf n0 l0 = f at *
    generalize frOf n1 l1 = g at *
    subst hn0; subst hl0; subst hn1; subst hl1
    ((with_reducible refine iLdA (by assumption) ?_ ?_); rfl; (with_reducible refine iLdA (by assumption) ?_ ?_); rfl)
    refine iRet (ok_spec_l34Telling hP hQ (hs0.ext hX) (hs1.ext hX)) fun w5 h => ?_
    have hX := hX.trans h
    have hB2 := hB2.ext h
    have hB3 := hB3.ext h
    refine iEq (iCndP (fun ht => ?_) (fun ht => ?_))
    · have ht : tell f g = 0 := by exact_mod_cast ht
      rw [if_pos ht]; exact ⟨hX, _, _, rfl, TfW.nil _ _⟩
    · have ht : ¬ tell f g = 0 := fun e => ht (by exact_mod_cast e)
      rw [if_neg ht]
      obtain ⟨fx, fl0, fp, fr⟩ := tf_facts (f := f) hQ ht
      refine iCall ((ok_spec_l01List (tell f g) (mask63 hQ.ok (tell_lt f g)) w5).mono ?_)
      rintro mv w6 ⟨h, hm⟩
      have hX := hX.trans h
      have hB2 := hB2.ext h
      have hB3 := hB3.ext h
      have hms : SlN w6 mv (mem (tell f g)) := hm.sl
      refine iIaNN0 hms fl0 ?_
      refine iLdA hB3 rfl ?_
      refine iCall ((ok_spec_l34Cone hQ.ok (hs1.ext hX) (tfX f g) fx).mono ?_)
      rintro _ w7 ⟨h, v', rfl, ho'⟩
      have hX := hX.trans h
      have hB2 := hB2.ext h
      have hB3 := hB3.ext h
      refine iNew fun b11 w8 hb11 x8 hB8 => ?_
      have ho8 := ho'.ext x8
      refine iStAB hB8 rfl rfl (ho8.pair _) fun w9 hu9 hB9 => ?_
      have x79 : Ext w7 w9 := x8.upd hu9 (by omega)
      have hX9 := hX.trans x79
      have hs9 : SlN w9 v' (tfP f g).a := (ho'.ext x79).sl
      have hB9 : Blk t_impl_Poset w9 b11 [.int .i64 ((tfP f g).n : Int), v'] := hB9
      ((with_reducible refine iFa ?_); refine iLdB (by assumption) (by first | rfl | simp) ?_; (with_reducible refine iLt ?_))
      refine iCndP (fun h5 => ?_) (fun h5 => ?_)
      · have h5 : 5 < (tfP f g).n := by omega
        rw [if_pos h5]
        exact ⟨hX9, _, _, rfl, TfW.nil _ _⟩
      · have h5 : ¬ 5 < (tfP f g).n := by omega
        rw [if_neg h5]
        refine iLdA hB9 rfl ?_
        refine iLdA hB9 rfl ?_
        intro w11 x11
        refine iCall ((ok_spec_premises fp.ok fr (hs9.ext x11)).mono ?_)
        rintro pv w12 ⟨x12, L, hR, hE, hL⟩
        refine ⟨x12, fun w13 x13 => ?_⟩
        refine iCall ((ok_spec_conclusion fp.ok fr (hs9.ext (x11.trans (x12.trans x13)))).mono ?_)
        rintro cv w14 ⟨x14, hcv⟩
        intro w15 x15
        have X11 := hX9.trans x11
        refine ⟨X11.trans (x12.trans (x13.trans (x14.trans x15))), pv, cv, rfl, L, Ow.mono (Ow.ext hR (x13.trans (x14.trans x15))) X11.size, (hE.ext (x13.trans (x14.trans x15))).mono X11.size, hL, OwK.mono (OwK.ext hcv x15) (X11.trans (x12.trans x13)).size, fun p hp c hc hc' => ?_⟩
        have q1 := ((hE.1 p hp).blk c hc).2
        have q2 := (OwK.blk hcv c hc').1
        have := x13.size
        omega
end Go.Proofs.YtikfhibcdhdglaaGreat

/- The laws' helpers: sizes of codes, equal lists and frames. Conditions: none. -/
namespace Go.Vc
end Go.Vc
namespace Go.Proofs.YtikfhibcdhdglaaGreat
open Go.Vc
theorem ok_laws_big {vc : Value} {w : World} {bs : List Nat} (hc : SlB w vc bs) : Ret Tryz.prog f_laws_big #[vc] w (.bool (decide ((4096 : Int) < (bs.length : Nat)))) := by
  apply c_laws_big; unfold S_laws_big
  refine iLenB hc ?_
  refine iLt ?_
  exact ⟨rfl, Ext.refl _⟩
end Go.Proofs.YtikfhibcdhdglaaGreat

/- The law on what is under what: its contract. Conditions: none. -/
namespace Go.Proofs.YtikfhibcdhdglaaGreat
open Go.Vc
theorem rawF_injU {a b : Fm} (h : rawF a = rawF b) : a = b := cells_inj (by rw [← cellsN_raw, ← cellsN_raw, h])
theorem tell_bit {f g : Fr} {x : Nat} (hx : x < g.n) : (tell f g).testBit x = (partOut f (partFr g (g.a.getD x 0))).isNone := by
  unfold tell tellK
  rw [setOf_testBit, Bool.eq_iff_iff, List.contains_iff_mem, List.mem_filter]
  unfold tellB
  exact ⟨fun h => h.2, fun h => ⟨List.mem_range.2 hx, h⟩⟩
theorem tfX_not {f g : Fr} (hf : Po f) (hg : Po g) (h : ¬ tell f g = 0) : ¬ Bel f (tfP f g) := by
  obtain ⟨hx, hp, hP, _⟩ := tf_facts hg h
  have hb : (tell f g).testBit (tfX f g) = true := (mem_mem (mask63 hg.ok (tell_lt f g))).1 (getD_mem hp)
  rw [tell_bit hx] at hb
  intro hB
  have := (bel_iff hf hP.ok).2 hB
  unfold tfP at this
  cases ho : partOut f (partFr g (g.a.getD (tfX f g) 0)) with
  | none => rw [ho] at this; cases this
  | some y => rw [ho] at hb; cases hb
theorem fol_under {f g : Fr} (hf : Po f) (hg : Po g) (h : ¬ tell f g = 0) : FolP f (premF (tfP f g)) (concF (tfP f g)) := by
  obtain ⟨hx, hp, hP, hr⟩ := tf_facts hg h
  intro V hV i hi hb
  apply Classical.byContradiction
  intro hn
  exact tfX_not hf hg h (jankov hf hP hr hV hb hn)
theorem fol_own {q : Fr} (hq : Po q) (hr : Rooted q) : ¬ FolP q (premF q) (concF q) := by
  intro h
  obtain ⟨k, hk, hk2⟩ := hr
  have hrl : rootN q < q.n := by
    unfold rootN
    have := List.findIdx_lt_length_of_exists (xs := List.range q.n) (p := fun x => decide (q.a.getD x 0 = 2 ^ q.n - 1)) ⟨k, List.mem_range.2 hk, decide_eq_true hk2⟩
    rwa [List.length_range] at this
  have h1 := h (ownV q) (ownV_ok hq) (rootN q) hrl fun b hb => by
    rw [own_prem hq ⟨k, hk, hk2⟩ hb, Nat.testBit_two_pow_sub_one]
    exact decide_eq_true hrl
  exact ((own_conc hq ⟨k, hk, hk2⟩).1 h1).2 rfl
theorem partRes_code {n0 n1 : Int} {l0 l1 : List Int} (h0 : posetOk n0 l0 = true) (h1 : posetOk n1 l1 = true) : (partRes n0 l0 n1 l1).2.2 = if (partOut (frOf n0 l0) (frOf n1 l1)).isSome then 0 else 4 := by
  unfold partRes
  rw [h0, h1]; rfl
theorem ok_laws_FnUnder {w : World} {vc : Value} {bs : List Nat} (hc : SlB w vc bs) : Ret Tryz.prog f_laws_FnUnder #[vc] w (.bool true) := by
  apply c_laws_FnUnder; unfold S_laws_FnUnder
  refine iRet (ok_laws_big hc) fun w1 x1 => ?_
  refine iCndP (fun _ => ⟨rfl, x1⟩) (fun _ => ?_)
  refine iCall ((ok_spec_DrawTellingFormulas (hc.ext x1)).mono ?_)
  rintro _ w2 ⟨x2, n, l, v, nq, lq, vq, rfl, hov, hoq⟩
  refine iEx (by rfl) (iEx (by rfl) ?_)
  have X2 := x1.trans x2
  have hs2 := hov.sl
  have hq2 := hoq.sl
  refine iNew fun b3 w3 hb3 x3 hB3 => ?_
  refine iNew fun b6 w4 hb6 x4 hB6 => ?_
  refine iStAB (hB3.ext x4) rfl rfl ((hov.ext (x3.trans x4)).pair n) fun w5 hu5 hB3' => ?_
  refine iStAB (hB6.upd hu5 (by omega)) rfl rfl (fun u hu => ?_) fun w6 hu6 hB6' => ?_
  · simp at hu
    rcases hu with rfl | rfl
    · rfl
    · exact hoq.cell
  have x26 : Ext w2 w6 := ((x3.trans x4).upd hu5 (by omega)).upd hu6 (by omega)
  have hB3 : Blk 26 w6 b3 [.int .i64 n, v] := hB3'.upd hu6 (by omega)
  have hB6 : Blk 26 w6 b6 [.int .i64 nq, vq] := hB6'
  have hs6 : SlI w6 v l := Sl.ext hs2 x26
  have hq6 : SlI w6 vq lq := Sl.ext hq2 x26
  have X6 := X2.trans x26
  clear hB3' hB6' hu5 hu6 hs2 hq2 hov hoq
  refine iLdA hB3 rfl (iLdA hB6 rfl ?_)
  refine iCall ((ok_impl_TellingFormulas hs6 hq6 n nq).mono ?_)
  rintro _ w7 ⟨x7, pv, cv, rfl, hT⟩
  refine iEx (by rfl) (iEx (by rfl) (iEx (by rfl) (iEx (by rfl) ?_)))
  refine iLdA (hB3.ext x7) rfl (iLdA (hB6.ext x7) rfl ?_)
  refine iCall ((ok_spec_TellingFormulas (hs6.ext x7) (hq6.ext x7) n nq).mono ?_)
  rintro _ w8 ⟨x8, pv', cv', rfl, hT'⟩
  refine iEx (by rfl) (iEx (by rfl) (iEx (by rfl) (iEx (by rfl) ?_)))
  have x68 := x7.trans x8
  have hT8 := hT.ext x8
  -- both rows read alike
  obtain ⟨L, hL1, hL2, hL3, hL4, _⟩ := hT8
  obtain ⟨L', hL1', hL2', hL3', hL4', _⟩ := hT'
  have hN : ∃ N : List RN, (tfR n l nq lq).1.2.1 = N.length ∧ (tfR n l nq lq).1.2.2 = cellsN N ∧ N.length ≤ 1000000 ∧ (∀ a ∈ (tfR n l nq lq).1.1, a.size ≤ 40) := by
    unfold tfR
    by_cases h1 : codeS [(n, l), (nq, lq)] = 0
    · rw [if_pos h1]
      obtain ⟨hpp, hpq, _, _⟩ := codeS_two h1
      by_cases h2 : tell (frOf n l) (frOf nq lq) = 0
      · rw [if_pos h2]; exact ⟨[], rfl, rfl, by simp, by simp⟩
      · rw [if_neg h2]
        by_cases h3 : 5 < (tfP (frOf n l) (frOf nq lq)).n
        · rw [if_pos h3]; exact ⟨[], rfl, rfl, by simp, by simp⟩
        · rw [if_neg h3]
          obtain ⟨_, _, hP, hr⟩ := tf_facts (posetOk_po hpq).1 h2
          refine ⟨rawF (concF (tfP (frOf n l) (frOf nq lq))), (rawF_len _).symm, (cellsN_raw _).symm, ?_, fun a ha => (prem_pl hP.ok hr (by omega) ha).2⟩
          rw [rawF_len]
          have := (conc_pl hP.ok (by omega)).2
          omega
    · rw [if_neg h1]; exact ⟨[], rfl, rfl, by simp, by simp⟩
  obtain ⟨N, hN1, hN2, hN3, hN4⟩ := hN
  have hcvN : RawS w8 cv N := by
    have h := hL4.sl
    rw [hN1, hN2] at h
    exact h
  have hcvN' : RawS w8 cv' N := by
    have h := hL4'.sl
    rw [hN1, hN2] at h
    exact h
  refine iJnB false w8 (fun J hJ => ?_) (fun w10 x10 => fun _ => iCndF rfl ?_)
  · refine iNe (iCndF (decide_eq_false fun h => h rfl) ?_)
    refine iRet (ok_laws_sameList9 hL1.sl hL1'.sl (fun p hp => (hL2.1 p hp).sl) (fun p hp => (hL2'.1 p hp).sl) (by rw [hL3, hL3']) (fun p hp => by
      have := hN4 p.2 (by rw [← hL3]; exact List.mem_map.2 ⟨p, hp, rfl⟩)
      omega)) fun w11 x11 => ?_
    refine iNot (iCndF rfl ?_)
    refine iRet (ok_laws_sameNodes9 (SlK.ext hcvN x11) (SlK.ext hcvN' x11) (by omega)) fun w12 x12 => ?_
    refine iNot (iCndF rfl ?_)
    refine iNe ?_
    rw [decide_eq_false (fun h : ¬ (tfR n l nq lq).2.1 = (tfR n l nq lq).2.1 => h rfl)]
    exact hJ _ (x11.trans x12)
  have x610 := x68.trans x10
  have X10 := X6.trans x610
  refine iLdA (hB3.ext x610) rfl (iLdA (hB6.ext x610) rfl ?_)
  refine iRet (ok_impl_IsUnder (hs6.ext x610) (hq6.ext x610) n nq) fun w13 x13 => iEx (by rfl) (iEx (by rfl) ?_)
  have x613 := x610.trans x13
  have X13 := X6.trans x613
  have hone : (tfR n l nq lq).2.2 = if codeS [(n, l), (nq, lq)] = 0 then (if tell (frOf n l) (frOf nq lq) = 0 then 4 else if 5 < (tfP (frOf n l) (frOf nq lq)).n then 3 else 0) else codeS [(n, l), (nq, lq)] := by
    unfold tfR
    split
    · split
      · rfl
      · split <;> rfl
    · rfl
  have hthree : (underRes n l nq lq).2 = codeS [(n, l), (nq, lq)] := by
    unfold underRes
    split
    · rename_i h; exact h.symm
    · rfl
  have hcode : codeS [(n, l), (nq, lq)] = 0 ∨ codeS [(n, l), (nq, lq)] = 1 ∨ codeS [(n, l), (nq, lq)] = 3 := by
    unfold codeS
    split
    · exact .inr (.inl rfl)
    · split
      · exact .inr (.inr rfl)
      · exact .inl rfl
  generalize hO : (tfR n l nq lq).2.2 = one at *
  generalize hU : (underRes n l nq lq).2 = three at *
  refine iEq (iCndP (fun h1 => ?_) (fun h1 => ?_))
  · have : three = 1 := by
      rw [h1] at hone
      split at hone
      · split at hone
        · cases hone
        · split at hone <;> cases hone
      · rw [hthree, ← hone]
    rw [this]
    exact iEq ⟨rfl, X13⟩
  refine iNe (iCndP (fun h3 => ?_) (fun h3 => ?_))
  · have hc3 : codeS [(n, l), (nq, lq)] = 3 := by
      rcases hcode with h | h | h
      · exact absurd (hthree.trans h) h3
      · rw [if_neg (by rw [h]; decide), h] at hone
        exact absurd hone h1
      · exact h
    rw [if_neg (by rw [hc3]; decide), hc3] at hone
    rw [hthree, hc3, hone]
    refine iJnB true w13 (fun J hJ => ?_) (fun w15 x15 => fun _ => ⟨rfl, X13.trans x15⟩)
    exact iEq (iCndT rfl (iEq (hJ _ (Ext.refl _))))
  have hcz : codeS [(n, l), (nq, lq)] = 0 := by rw [← hthree]; exact Classical.not_not.1 h3
  obtain ⟨hpp, hpq, hn6, hq6n⟩ := codeS_two hcz
  obtain ⟨hP, hn0, hl0⟩ := posetOk_po hpp
  obtain ⟨hQ, hn1, hl1⟩ := posetOk_po hpq
  have hP8 := hP.ok.1
  have hQ8 := hQ.ok.1
  rw [if_pos hcz] at hone
  have hund : (underRes n l nq lq).1 = decide (tell (frOf n l) (frOf nq lq) = 0) := by
    unfold underRes
    rw [if_pos hcz]
  have htr : tellRes n l nq lq = (((tell (frOf n l) (frOf nq lq) : Nat) : Int), 0) := by
    unfold tellRes
    rw [if_pos hcz]
  have hpN : ∀ {w'}, SlI w' v l → SlN w' v (frOf n l).a := fun h => by
    unfold SlN
    rw [← hl0]; exact h
  have hqN : ∀ {w'}, SlI w' vq lq → SlN w' vq (frOf nq lq).a := fun h => by
    unfold SlN
    rw [← hl1]; exact h
  rw [hund]
  refine iLdA (hB3.ext x613) rfl (iLdA (hB6.ext x613) rfl ?_)
  refine iRet (ok_impl_TellingElements (hs6.ext x613) (hq6.ext x613) n nq) fun w16 x16 => ?_
  rw [htr]
  refine iEx (by rfl) (iEx (by rfl) ?_)
  have x616 := x613.trans x16
  have htl := tell_lt (frOf n l) (frOf nq lq)
  refine iJnB false w16 (fun J hJ => ?_) (fun w18 x18 => fun _ => iCndF rfl ?_)
  · refine iNe (iCndF rfl ?_)
    refine iEq ?_
    have e1 : decide (((tell (frOf n l) (frOf nq lq) : Nat) : Int) = 0) = decide (tell (frOf n l) (frOf nq lq) = 0) := decide_eq_decide.2 (by omega)
    rw [e1]
    refine ⟨_, _, rfl, rfl, ?_⟩
    rw [show (false == (decide (tell (frOf n l) (frOf nq lq) = 0) == decide (tell (frOf n l) (frOf nq lq) = 0))) = false by cases decide (tell (frOf n l) (frOf nq lq) = 0) <;> rfl]
    refine iCndF rfl ?_
    refine iEq ⟨_, _, rfl, rfl, ?_⟩
    have e2 : decide (one = 4) = decide (tell (frOf n l) (frOf nq lq) = 0) := by
      refine decide_eq_decide.2 ⟨fun h => ?_, fun h => ?_⟩
      · rw [hone] at h
        split at h
        · assumption
        · split at h <;> cases h
      · rw [hone, if_pos h]
    rw [e2, show (false == (decide (tell (frOf n l) (frOf nq lq) = 0) == decide (tell (frOf n l) (frOf nq lq) = 0))) = false by cases decide (tell (frOf n l) (frOf nq lq) = 0) <;> rfl]
    exact hJ _ (Ext.refl _)
  have x618 := x616.trans x18
  refine iLp (fun e : Nat => [.int .i64 (e : Int)]) (fun e w' => e ≤ (frOf nq lq).n ∧ Ext w18 w') (fun e => (frOf nq lq).n - e) 0 rfl ⟨Nat.zero_le _, Ext.refl _⟩ ?_
  rintro e w20 Kn ⟨he, x20⟩ hKn
  have x620 := x618.trans x20
  have X20 := X6.trans x620
  intro _
  simp only [gx]
  refine iFa (iLdB (hB6.ext x620) (i := 0) (v := .int .i64 nq) rfl ?_)
  -- a cone of q in its own box, drawn before or behind the call
  have cone : ∀ {w20 : World}, Ext w6 w20 → ∀ {x : Nat}, x < (frOf nq lq).n → ∀ {A : Value → Value → World → Prop}, (∀ (b : Nat) (vk : Value) (w31 : World), Ext w20 w31 → Blk 26 w31 b [.int .i64 (((partFr (frOf nq lq) ((frOf nq lq).a.getD x 0)).n : Nat) : Int), vk] → SlN w31 vk (partFr (frOf nq lq) ((frOf nq lq).a.getD x 0)).a → A (.int .i64 0) (.pointer (some ⟨b, 0, none⟩)) w31) → ∀ w25, Ext w20 w25 →
      (callV Tryz.prog (.func (.func f_impl_PartOfPoset) #[] #[]) [.agg #[.int .i64 nq, vq], .int .i64 (((frOf nq lq).a.getD x 0 : Nat) : Int)] w25 fun v129 w26 => xEx v129 0 fun v130 => xEx v129 1 fun v131 => ∀ w27, Ext w26 w27 → xNew (Value.cells (.agg #[(.int .i64 0), (.slice none 0 0)])) 26 w27 fun v18 w28 => Ch (fun c => w20.heap.size ≤ c) w27 w28 ∧ ∀ w29, Ext w28 w29 → xStA Tryz.prog w29 2 v18 v130 fun w30 => Ch (fun c => w20.heap.size ≤ c) w29 w30 ∧ ∀ w31, Ext w30 w31 → A v131 v18 w31) ∧
      (xNew (Value.cells (.agg #[(.int .i64 0), (.slice none 0 0)])) 26 w25 fun v18 w36 => Ch (fun c => w20.heap.size ≤ c) w25 w36 ∧ ∀ w37, Ext w36 w37 → callV Tryz.prog (.func (.func f_impl_PartOfPoset) #[] #[]) [.agg #[.int .i64 nq, vq], .int .i64 (((frOf nq lq).a.getD x 0 : Nat) : Int)] w37 fun v129 w38 => xEx v129 0 fun v130 => xEx v129 1 fun v131 => ∀ w39, Ext w38 w39 → xStA Tryz.prog w39 2 v18 v130 fun w40 => Ch (fun c => w20.heap.size ≤ c) w39 w40 ∧ ∀ w41, Ext w40 w41 → A v131 v18 w41) := by
    intro w20 x620 x hx A hA w25 x25
    have hs25 := x25.size
    have hup : ∀ {w'}, Ext w20 w' → Cal Tryz.prog f_impl_PartOfPoset #[.agg #[.int .i64 nq, vq], .int .i64 (((frOf nq lq).a.getD x 0 : Nat) : Int)] w' fun r w'' => Ext w' w'' ∧ ∃ v', r = .tuple #[.agg #[.int .i64 ((partFr (frOf nq lq) ((frOf nq lq).a.getD x 0)).n : Int), v'], .int .i64 0] ∧ Ow w'.heap.size t_i64 w'' v' (ints (nats (partFr (frOf nq lq) ((frOf nq lq).a.getD x 0)).a)) := fun {w'} h => by
      have := ok_impl_PartOfPoset hQ (hqN (hq6.ext (x620.trans h))) (hQ.ok.lt hx)
      rw [← hn1] at this
      exact this
    constructor
    · refine iCall ((hup x25).mono ?_)
      rintro _ w26 ⟨x26, vk, rfl, hok⟩
      refine iEx (by rfl) (iEx (by rfl) ?_)
      intro w27 x27
      refine iNew fun b w28 hb x28 hB => ⟨x28.ch, fun w29 x29 => ?_⟩
      have hs27 := (x26.trans x27).size
      have hok := ((hok.ext x27).ext x28).ext x29
      refine iStAB (hB.ext x29) rfl rfl (hok.pair _) fun w30 hu30 hB30 => ⟨hu30.ch (by show w20.heap.size ≤ b; omega), fun w31 x31 => ?_⟩
      exact hA b vk w31 ((((((x25.trans x26).trans x27).trans x28).trans x29).upd hu30 (by omega)).trans x31) (hB30.ext x31) ((hok.upd hu30 (hok.ne_blk (hB.ext x29) (by decide))).ext x31).sl
    · refine iNew fun b w36 hb x36 hB => ⟨x36.ch, fun w37 x37 => ?_⟩
      refine iCall ((hup ((x25.trans x36).trans x37)).mono ?_)
      rintro _ w38 ⟨x38, vk, rfl, hok⟩
      refine iEx (by rfl) (iEx (by rfl) ?_)
      intro w39 x39
      have hB := ((hB.ext x37).ext x38).ext x39
      have hok := hok.ext x39
      refine iStAB hB rfl rfl (hok.pair _) fun w40 hu40 hB40 => ⟨hu40.ch (by show w20.heap.size ≤ b; omega), fun w41 x41 => ?_⟩
      exact hA b vk w41 ((((((x25.trans x36).trans x37).trans x38).trans x39).upd hu40 (by omega)).trans x41) (hB40.ext x41) ((hok.upd hu40 (hok.ne_blk hB (by decide))).ext x41).sl
  refine iLt (iCndP (fun hlt => ?_) (fun hlt => ?_))
  · have heq : e < (frOf nq lq).n := by omega
    have hqa := hqN (hq6.ext x620)
    have hae : e < (frOf nq lq).a.length := by rw [hQ.ok.2.1]; exact heq
    have hB6' := hB6.ext x620
    have hb6lt := hB6'.lt
    refine ⟨fun c => w20.heap.size ≤ c, iLdA hB6' rfl ⟨fun w22 h => iLdA (hB6'.ch h (by omega)) rfl rfl, iFa (iLdB hB6' (i := 1) (v := vq) rfl ⟨fun w23 h => iLdB (hB6'.ch h (by omega)) (i := 1) (v := vq) rfl rfl, ?_⟩)⟩⟩
    refine iIaNN hqa hae fun p hp => iLd hp ⟨fun w24 h => iLd ((h.toExt fun b hb => hb).cell hp) rfl, ?_⟩
    refine cone x620 heq (fun b vk w31 x31 hBk hk => ?_)
    have x631 := x620.trans x31
    refine iLdA (hB3.ext x631) rfl (iLdA hBk rfl ?_)
    refine iCall ((ok_impl_FindPart (hs6.ext x631) hk n _).mono ?_)
    rintro _ w32 ⟨x32, vF, rfl, _⟩
    refine iEx (by rfl) (iEx (by rfl) (iEx (by rfl) ?_))
    have hPk := part_po hQ (hQ.ok.lt heq)
    have hcodeF := partRes_code hpp (posetOk_ofJ hPk)
    rw [frOf_nats] at hcodeF
    rw [hcodeF]
    refine iJnB false w32 (fun J hJ => ?_) (fun w34 x34 => fun _ => iCndF rfl ?_)
    · refine iNe (iCndF rfl ?_)
      refine iEq ?_
      refine iRet (ok_laws_bit9U (tell (frOf n l) (frOf nq lq)) e (Nat.lt_of_lt_of_le htl (Nat.pow_le_pow_right (by omega) (by omega))) (by omega) w32) fun w35 x35 => ?_
      rw [tell_bit heq]
      refine ⟨_, _, rfl, rfl, ?_⟩
      cases ho : partOut (frOf n l) (partFr (frOf nq lq) ((frOf nq lq).a.getD e 0)) with
      | none => exact hJ _ x35
      | some y => exact hJ _ x35
    · exact iAdd (by omega) (hKn (e + 1) _ ⟨heq, (x20.trans x31).trans (x32.trans x34)⟩ (by omega))
  · refine iCall ((ok_spec_DrawIsPosetValid (hc.ext X20)).mono ?_)
    rintro _ w46 ⟨x46, n', l', v', u, N', rfl, hov, hN', hou⟩
    refine iEx (by rfl) (iEx (by rfl) ?_)
    refine iNew fun b23 w47 hb23 x47 hB23 => ?_
    have hs46 := x46.size
    refine iStAB hB23 rfl rfl ((hov.ext x47).pair n') fun w48 hu48 _ => ?_
    have x648 : Ext w6 w48 := (((x620.trans x46).trans x47).upd hu48 (by have := (x620.trans x46).size; omega))
    have hu : RawS w48 u N' := by
      have h1 : Ext w46 w48 := x47.upd hu48 (by omega)
      exact (hou.ext h1).sl
    refine iLdA (hB3.ext x648) rfl ?_
    refine iCall ((ok_impl_IsPosetValid (hs6.ext x648) hu hou.cell (by omega)).mono ?_)
    rintro _ w49 ⟨x49, bp, cp, rfl, hvp⟩
    refine iEx (by rfl) (iEx (by rfl) ?_)
    have x649 := x648.trans x49
    refine iLdA (hB6.ext x649) rfl ?_
    refine iCall ((ok_impl_IsPosetValid (hq6.ext x649) (SlK.ext hu x49) hou.cell (by omega)).mono ?_)
    rintro _ w50 ⟨x50, bq, cq, rfl, hvq⟩
    refine iEx (by rfl) (iEx (by rfl) ?_)
    have x650 := x649.trans x50
    refine iJnB false w50 (fun J hJ => ?_) (fun w52 x52 => fun _ => iCndF rfl ?_)
    · refine iCndP (fun ht => ?_) (fun _ => hJ _ (Ext.refl _))
      refine iEq (iCndP (fun hc1 => ?_) (fun _ => hJ _ (Ext.refl _)))
      refine iEq (iCndP (fun hc2 => ?_) (fun _ => hJ _ (Ext.refl _)))
      obtain ⟨_, a, ha, _, _, hva⟩ := hvp hc1
      obtain ⟨_, a', ha', _, _, hva'⟩ := hvq hc2
      have e : a = a' := rawF_injU (by rw [← ha, ha'])
      subst e
      cases bp
      · exact iCndF rfl (hJ _ (Ext.refl _))
      · refine iCndT rfl (iNot ?_)
        have := hva'.2 (vld_under hP hQ ((tell_iff hP hQ).1 ht) (hva.1 rfl))
        rw [this]
        exact hJ _ (Ext.refl _)
    have x652 := x650.trans x52
    have X52 := X6.trans x652
    refine iNe (iCndP (fun _ => ⟨by first | trivial | rfl, X52⟩) (fun h0 => ?_))
    have h0 : one = 0 := Classical.not_not.1 h0
    have htn : ¬ tell (frOf n l) (frOf nq lq) = 0 := fun h => by
      rw [if_pos h, h0] at hone
      cases hone
    rw [if_neg htn] at hone
    have h5 : ¬ 5 < (tfP (frOf n l) (frOf nq lq)).n := fun h => by
      rw [if_pos h, h0] at hone
      cases hone
    obtain ⟨hx, _, hPk, hr⟩ := tf_facts hQ htn
    have htfR : (tfR n l nq lq).1 = (premF (tfP (frOf n l) (frOf nq lq)), (concF (tfP (frOf n l) (frOf nq lq))).size, (concF (tfP (frOf n l) (frOf nq lq))).cells) ∧ (tfR n l nq lq).2.1 = ((tfX (frOf n l) (frOf nq lq) : Nat) : Int) := by
      unfold tfR
      rw [if_pos hcz, if_neg htn, if_neg h5]
      exact ⟨rfl, rfl⟩
    rw [htfR.1] at hL3 hL4
    rw [htfR.2]
    have hL3 : L.map Prod.snd = premF (tfP (frOf n l) (frOf nq lq)) := hL3
    have hL4 : OwK 2 w6.heap.size t_impl_Node w8 cv (concF (tfP (frOf n l) (frOf nq lq))).size (concF (tfP (frOf n l) (frOf nq lq))).cells := hL4
    have hLl : L.length = (premF (tfP (frOf n l) (frOf nq lq))).length := by rw [← hL3, List.length_map]
    have hLn := premF_len hPk.ok
    have hL0 : 0 < L.length := by
      rw [hLl]
      exact List.length_pos_of_mem (prem_root _)
    have hcpl := conc_pl hPk.ok (by omega)
    have hLF : ∀ {w'}, Ext w8 w' → ∀ p ∈ L, FmS w' p.1 p.2 ∧ Fm.pl p.2 ∧ p.2.size ≤ 40 := fun x p hp => ⟨SlK.ext (hL2.1 p hp).sl x, prem_pl hPk.ok hr (by omega) (by rw [← hL3]; exact List.mem_map.2 ⟨p, hp, rfl⟩)⟩
    have hcF : ∀ {w'}, Ext w8 w' → FmS w' cv (concF (tfP (frOf n l) (frOf nq lq))) := fun x => SlK.ext hL4.sl x
    have x852 : Ext w8 w52 := ((((((x10.trans x13).trans x16).trans x18).trans x20).trans ((x46.trans x47).upd hu48 (by omega))).trans (x49.trans x50)).trans x52
    refine iLdA (hB3.ext x652) rfl ?_
    have hfol := fun {w'} (x : Ext w8 w') (x' : Ext w6 w') => ok_impl_FollowsOn hP (hpN (hs6.ext x')) hL0 (Sl.ext hL1.sl x) (hLF x) (hcF x) hL4.cell hcpl.1 hcpl.2 (by omega)
    rw [← hn0] at hfol
    refine iCall ((hfol x852 x652).mono ?_)
    rintro _ w53 ⟨x53, bf, cf, rfl, hbf⟩
    refine iEx (by rfl) (iEx (by rfl) ?_)
    rw [hL3] at hbf
    have hfP := fol_under hP hQ htn
    have hbf : cf = 3 ∨ cf = 0 ∧ bf = true := hbf.imp id fun h => ⟨h.1, h.2.2 hfP⟩
    have x653 := x652.trans x53
    have hB6' := hB6.ext x653
    have hqa := hqN (hq6.ext x653)
    have hxa : tfX (frOf n l) (frOf nq lq) < (frOf nq lq).a.length := by rw [hQ.ok.2.1]; exact hx
    refine ⟨fun c => w53.heap.size ≤ c, iLdA hB6' rfl ⟨fun w22 h => iLdA (hB6'.ext (h.toExt fun b hb => hb)) rfl rfl, iFa (iLdB hB6' (i := 1) (v := vq) rfl ⟨fun w23 h => iLdB (hB6'.ext (h.toExt fun b hb => hb)) (i := 1) (v := vq) rfl rfl, ?_⟩)⟩⟩
    refine iIaNN hqa hxa fun p hp => iLd hp ⟨fun w24 h => iLd ((h.toExt fun b hb => hb).cell hp) rfl, ?_⟩
    refine cone x653 hx (fun b vk w64 x64 hBk hk => ?_)
    have x664 := x653.trans x64
    have x864 := (x852.trans x53).trans x64
    refine iLdA hBk rfl ?_
    refine iCall ((ok_impl_FollowsOn hPk hk hL0 (Sl.ext hL1.sl x864) (hLF x864) (hcF x864) hL4.cell hcpl.1 hcpl.2 (by omega)).mono ?_)
    rintro _ w65 ⟨x65, bi, ci, rfl, hbi⟩
    refine iEx (by rfl) (iEx (by rfl) ?_)
    rw [hL3] at hbi
    have hbi : ci = 3 ∨ ci = 0 ∧ bi = false := hbi.imp id fun h => ⟨h.1, Bool.eq_false_iff.2 fun e => fol_own hPk hr (h.2.1 e)⟩
    refine iJnB true w65 (fun J hJ => ?_) (fun w67 x67 => fun _ => ⟨rfl, (X6.trans x664).trans (x65.trans x67)⟩)
    have inner : xEq .i64 (.int .i64 ci) (.int .i64 3) fun v223 => cnd v223 (J [.bool true] w65) (xEq .i64 (.int .i64 ci) (.int .i64 0) fun v226 => cnd v226 (xNot (.bool bi) fun v229 => J [v229] w65) (J [.bool false] w65)) := by
      rcases hbi with h | ⟨h, h'⟩
      · rw [h]; exact iEq (iCndT rfl (hJ _ (Ext.refl _)))
      · rw [h, h']; exact iEq (iCndF rfl (iEq (iCndT rfl (iNot (hJ _ (Ext.refl _))))))
    refine iEq (iCndT rfl ?_)
    rcases hbf with h | ⟨h, h'⟩
    · rw [h]; exact iEq (iCndT rfl inner)
    · rw [h, h']; exact iEq (iCndF rfl (iEq (iCndT rfl (iCndT rfl inner))))
end Go.Proofs.YtikfhibcdhdglaaGreat
