/- The proof of FnExactAllHomomorphisms, part 3 of 5. Conditions: none. -/
import Derived.Test.YtfhdhdgabdpmkaaKR20b
/- Contracts of the laws' own functions on lists of int64 and on frames. Conditions: none. -/
namespace Go.Proofs.Ytfhdhdgabdpmkaa
open Go.Vc
def szN (n : Nat) (left : Int) : Int := if left - n < 0 then -1 else left - n
def marks (k n : Nat) : List Int := (List.range n).map fun i => ((k + i : Nat) : Int)
def heldN (k : Nat) (l : List Int) : Int := if l = marks k l.length then ((k + l.length : Nat) : Int) else -1

theorem take_succ_ints (l : List Int) (k : Nat) (h : k < l.length) : (ints l).take (k + 1) = (ints l).take k ++ [.int .i64 (l.getD k 0)] := by
  rw [List.take_succ_eq_append_getElem (by simpa [ints] using h)]
  simp [ints, h]
theorem set_fill {α : Type} (l : List α) (z x : α) (k n : Nat) (hk : k < n) (hl : l.length = k) : (l ++ List.replicate (n - k) z).set k x = (l ++ [x]) ++ List.replicate (n - (k + 1)) z := by
  have : n - k = (n - (k + 1)) + 1 := by omega
  rw [this, List.replicate_succ, List.set_append_right _ _ (by omega)]
  simp [hl]

theorem ok_laws_szInt64S {v : Value} {w : World} {l : List Int} (hs : SlI w v l) (left : Int) (h0 : 0 ≤ left ∧ left ≤ 1048576) : Ret Try.prog f_laws_szInt64S #[v, .int .i64 left] w (.int .i64 (szN l.length left)) := by
  have hl := hs.len
  apply c_laws_szInt64S; unfold S_laws_szInt64S
  ((with_reducible refine iLenI (by assumption) ?_); refine iSub (by omega) ?_; (with_reducible refine iLt ?_))
  refine iCndP (fun h1 => ?_) (fun h1 => ?_)
  all_goals exact ⟨by simp [szN, h1], Ext.refl _⟩
theorem ok_laws_toInt64S {v : Value} {w : World} {l : List Int} (hs : SlI w v l) (hl : l.length ≤ 1048576) :
    Cal Try.prog f_laws_toInt64S #[v] w fun v' w' => Ext w w' ∧ Ow w.heap.size t_i64 w' v' (ints l) := by
  apply c_laws_toInt64S; unfold S_laws_toInt64S
  ((with_reducible refine iLenI (by assumption) ?_))
  refine iMk (n := l.length) (by omega) (by omega) rfl fun b w1 hb h1 hB => ?_
  refine iLp (fun k : Nat => [.int .i64 (k : Int)]) (fun k w' => k ≤ l.length ∧ Ext w w' ∧ Blk t_i64 w' b ((ints l).take k ++ List.replicate (l.length - k) (Value.int .i64 0))) (fun k => l.length - k) 0 rfl ⟨Nat.zero_le _, h1, by simpa using hB⟩ ?_
  rintro k w2 Kn ⟨hk, h2, hB⟩ hKn
  have hs2 := hs.ext h2
  (intro _; (try simp only [gx]); (with_reducible refine iLenI (by assumption) ?_; refine iLt ?_))
  have hlen : ((ints l).take k ++ List.replicate (l.length - k) (Value.int .i64 0)).length = l.length := by simp [ints]; omega
  refine iCndP (fun h3 => ?_) (fun h3 => ?_)
  · ((with_reducible refine iIaN (by assumption) ?_ (fun pa_ hpa_ => ?_)); omega; (with_reducible refine iLd (by assumption) ?_))
    refine iIaL (by omega) ?_
    refine iStB (e := t_i64) (i := 0 + k) hB (by omega) rfl fun hB2 => ?_
    (refine iAdd (by omega) ?_)
    refine hKn (k + 1) _ ⟨by omega, ext_set h2 (by simp; omega) _, ?_⟩ (by omega)
    rw [Nat.zero_add, set_fill _ _ _ k _ (by omega) (by simp [ints]; omega)] at hB2
    rw [take_succ_ints l k (by omega)]
    simpa using hB2
  · obtain rfl : k = l.length := by omega
    refine ⟨h2, Ow.ofBlk (cs := ints l) ?_ (by omega) (by simp [ints]) (by omega)⟩
    have : (ints l).take l.length = ints l := List.take_of_length_le (by simp [ints])
    simpa [this] using hB
theorem ok_laws_eqInt64S {v v' : Value} {w : World} {l l' : List Int} (hs : SlI w v l) (hs' : SlI w v' l') : Ret Try.prog f_laws_eqInt64S #[v, v'] w (.bool (decide (l = l'))) := by
  have hl := hs.len
  have hl' := hs'.len
  apply c_laws_eqInt64S; unfold S_laws_eqInt64S
  ((with_reducible refine iLenI (by assumption) ?_; refine iLenI (by assumption) ?_; refine iNe ?_))
  refine iCndP (fun h1 => ?_) (fun h1 => ?_)
  · exact ⟨by simp; intro e; exact h1 (by rw [e]), Ext.refl _⟩
  have hn : l.length = l'.length := by omega
  refine iLp (fun k : Nat => [.int .i64 (k : Int)]) (fun k w' => k ≤ l.length ∧ Ext w w' ∧ l.take k = l'.take k) (fun k => l.length - k) 0 rfl ⟨Nat.zero_le _, Ext.refl _, by simp⟩ ?_
  rintro k w2 Kn ⟨hk, h2, ht⟩ hKn
  have hs2 := hs.ext h2
  have hs2' := hs'.ext h2
  (intro _; (try simp only [gx]); (with_reducible refine iLenI (by assumption) ?_; refine iLt ?_))
  refine iCndP (fun h3 => ?_) (fun h3 => ?_)
  · ((with_reducible refine iIaN (by assumption) ?_ (fun pa_ hpa_ => ?_)); omega; (with_reducible refine iLd (by assumption) ?_); (with_reducible refine iIaN (by assumption) ?_ (fun pa_ hpa_ => ?_)); omega; (with_reducible refine iLd (by assumption) ?_; refine iNe ?_))
    intro w3 h23
    have hk1 : k < l.length := by omega
    have hk2 : k < l'.length := by omega
    refine iCndP (fun h4 => ?_) (fun h4 => ?_)
    · refine ⟨by simp; intro e; exact h4 (by rw [e]), h2.trans h23⟩
    · (refine iAdd (by omega) ?_)
      refine hKn (k + 1) _ ⟨by omega, h2.trans h23, ?_⟩ (by omega)
      rw [List.take_succ_eq_append_getElem hk1, List.take_succ_eq_append_getElem hk2, ht]
      simp [hk1, hk2] at h4
      rw [h4]
  · have : l = l' := by
      rw [List.take_of_length_le (by omega), List.take_of_length_le (by omega)] at ht; exact ht
    exact ⟨by simp [this], h2⟩
/-- What marking leaves. -/
theorem marks_take (k : Nat) (l : List Int) (j : Nat) (hj : j < l.length) : ((ints (marks k j)) ++ (ints l).drop j).set j (.int .i64 ((k + j : Nat) : Int)) = ints (marks k (j + 1)) ++ (ints l).drop (j + 1) := by
  have h1 : (ints (marks k j)).length = j := by simp [ints, marks]
  rw [List.set_append_right _ _ (by omega), h1, Nat.sub_self, List.drop_eq_getElem_cons (by simpa [ints] using hj)]
  simp [marks, ints, List.range_succ]
theorem ok_laws_markInt64S {lo : Nat} {v : Value} {w : World} {l : List Int} (hs : Ow lo t_i64 w v (ints l)) (k : Nat) (hk : k + l.length ≤ 9223372036854775807) :
    Cal Try.prog f_laws_markInt64S #[v, .int .i64 (k : Int)] w fun v' w' => v' = .int .i64 ((k + l.length : Nat) : Int) ∧ Ow lo t_i64 w' v (ints (marks k l.length)) ∧ w.grownBy w' v.ownBlock := by
  apply c_laws_markInt64S; unfold S_laws_markInt64S
  refine iLp (fun j : Nat => [.int .i64 ((k + j : Nat) : Int), .int .i64 (j : Int)]) (fun j w' => j ≤ l.length ∧ Ow lo t_i64 w' v (ints (marks k j) ++ (ints l).drop j) ∧ w.grownBy w' v.ownBlock) (fun j => l.length - j) 0 rfl ⟨Nat.zero_le _, by simpa [marks, ints] using hs, ⟨rfl, rfl, rfl, Nat.le_refl _, fun _ _ _ => rfl⟩⟩ ?_
  rintro j w2 Kn ⟨hj, h2, hg⟩ hKn
  have hsl : Sl w2 v _ := h2.sl
  have hlen : (ints (marks k j) ++ (ints l).drop j).length = l.length := by simp [ints, marks]; omega
  (intro _; (try simp only [gx]); (with_reducible refine iLenS (by assumption) ?_; refine iLt ?_))
  rw [hlen]
  refine iCndP (fun h3 => ?_) (fun h3 => ?_)
  · refine iIaOw h2 (by omega) (by omega) fun b o ho hlo hlt hc hf hst => ?_
    have hc' : ∃ x, w2.cell? ⟨b, o, none⟩ = some x := ⟨_, hc.trans (List.getElem?_eq_getElem (by omega))⟩
    obtain ⟨x, hx⟩ := hc'
    refine iSt hx hf rfl ?_
    (refine iAdd (by omega) ?_; refine iAdd (by omega) ?_)
    refine hKn (j + 1) _ ⟨by omega, ?_, ?_⟩ (by omega)
    · have := hst (.int .i64 ((k + j : Nat) : Int))
      rw [Int.toNat_natCast, marks_take k l j (by omega)] at this
      exact this
    · rw [ho]
      exact ⟨hg.os, hg.tape, hg.output, by have := hg.size; simpa using this, fun i hi hne => by
        rw [ho] at hg
        rw [Go.RowKit.Below.heap_setCell _ _ _ _ (fun e => hne (by rw [e]))]; exact hg.block i hi hne⟩
  · obtain rfl : j = l.length := by omega
    refine ⟨rfl, ?_, hg⟩
    rw [List.drop_of_length_le (by simp [ints])] at h2
    simpa using h2
/-- What asking back answers. -/
theorem ok_laws_heldInt64S {v : Value} {w : World} {l : List Int} (hs : SlI w v l) (k : Nat) (hk : k + l.length ≤ 9223372036854775807) : Ret Try.prog f_laws_heldInt64S #[v, .int .i64 (k : Int)] w (.int .i64 (heldN k l)) := by
  apply c_laws_heldInt64S; unfold S_laws_heldInt64S
  refine iLp (fun j : Nat => [.int .i64 ((k + j : Nat) : Int), .int .i64 (j : Int)]) (fun j w' => j ≤ l.length ∧ Ext w w' ∧ l.take j = marks k j) (fun j => l.length - j) 0 rfl ⟨Nat.zero_le _, Ext.refl _, by simp [marks]⟩ ?_
  rintro j w2 Kn ⟨hj, h2, ht⟩ hKn
  have hs2 := hs.ext h2
  (intro _; (try simp only [gx]); (with_reducible refine iLenI (by assumption) ?_; refine iLt ?_))
  refine iCndP (fun h3 => ?_) (fun h3 => ?_)
  · ((with_reducible refine iIaN (by assumption) ?_ (fun pa_ hpa_ => ?_)); omega; (with_reducible refine iLd (by assumption) ?_; refine iNe ?_))
    have hj1 : j < l.length := by omega
    have hg : l.getD j 0 = l[j] := by simp [hj1]
    rw [hg]
    refine iCndP (fun h4 => ?_) (fun h4 => ?_)
    · refine ⟨?_, h2⟩
      have : l ≠ marks k l.length := by
        intro e
        apply h4
        have : l[j]? = (marks k l.length)[j]? := congrArg (·[j]?) e
        simp [marks, hj1] at this
        omega
      simp [heldN, this]
    · (refine iAdd (by omega) ?_; refine iAdd (by omega) ?_)
      refine hKn (j + 1) _ ⟨by omega, h2, ?_⟩ (by omega)
      rw [List.take_succ_eq_append_getElem hj1, ht]
      have : l[j] = ((k + j : Nat) : Int) := by omega
      simp [marks, List.range_succ, this]
  · obtain rfl : j = l.length := by omega
    rw [List.take_of_length_le (Nat.le_refl _)] at ht
    exact ⟨by simp only [heldN, if_pos ht], h2⟩
theorem ok_laws_szModalAlgebra {v : Value} {w : World} {l : List Int} (hs : SlI w v l) (n left : Int) (h0 : 0 ≤ left ∧ left ≤ 1048576) : Ret Try.prog f_laws_szModalAlgebra #[.agg #[.int .i64 n, v], .int .i64 left] w (.int .i64 (szN l.length left)) := by
  apply c_laws_szModalAlgebra; unfold S_laws_szModalAlgebra
  refine iNew fun b w1 hb h1 hB => ?_
  have hs1 := hs.ext h1
  ((with_reducible refine iFa ?_); refine iLdB (by assumption) (by first | rfl | simp) ?_)
  refine iRet (ok_laws_szInt64S hs1 left h0) fun w2 h2 => ?_
  ((with_reducible refine iLt ?_))
  refine iCndP (fun h3 => ?_) (fun h3 => ?_)
  · refine ⟨?_, h1.trans h2⟩
    unfold szN at *
    split at h3
    · rename_i h; simp [h]
    · omega
  · exact ⟨rfl, h1.trans h2⟩
theorem ok_laws_toModalAlgebra {v : Value} {w : World} {l : List Int} (hs : SlI w v l) (n : Int) (hl : l.length ≤ 1048576) :
    Cal Try.prog f_laws_toModalAlgebra #[.agg #[.int .i64 n, v]] w fun r w' => Ext w w' ∧ ∃ v', r = .agg #[.int .i64 n, v'] ∧ Ow w.heap.size t_i64 w' v' (ints l) := by
  apply c_laws_toModalAlgebra; unfold S_laws_toModalAlgebra
  refine iNew fun b1 w1 e1 h1 B1 => ?_
  refine iNew fun b2 w2 e2 h2 B2 => ?_
  refine iNew fun b3 w3 e3 h3 B3 => ?_
  have z1 := h1.size
  have z2 := h2.size
  have B1 := (B1.ext h2).ext h3
  have B2 := B2.ext h3
  have h03 := (h1.trans h2).trans h3
  have hs3 := hs.ext h03
  ((with_reducible refine iFa ?_); refine iLdB (by assumption) (by first | rfl | simp) ?_; (with_reducible refine iFa ?_))
  refine iStB B3 (by decide) rfl fun B3 => ?_
  have B3 : Blk _ _ b3 [.int .i64 n, .slice none 0 0] := B3
  have u4 := Upd.setCell w3 b3 (0 + 0) (.int .i64 n)
  have B1 := B1.upd u4 (by omega)
  have B2 := B2.upd u4 (by omega)
  have h04 := h03.upd u4 (by omega)
  have hs4 := hs.ext h04
  ((with_reducible refine iFa ?_); refine iLdB (by assumption) (by first | rfl | simp) ?_)
  refine iCall ((ok_laws_toInt64S hs4 hl).mono ?_)
  rintro v' w5 ⟨h5, ho⟩
  have B2 := B2.ext h5
  have B3 := B3.ext h5
  ((with_reducible refine iFa ?_))
  refine iStB B3 (by simp) (by obtain ⟨_, _, hv, _⟩ := ho.sl; rw [hv]; rfl) fun B3 => ?_
  have B3 : Blk _ _ b3 [.int .i64 n, v'] := B3
  have u6 := Upd.setCell w5 b3 (0 + 1) v'
  have B2 := B2.upd u6 (by omega)
  have hb5 : ∀ k, v'.ownBlock = some k → b3 < k := fun k hk => by have := (ho.blk k hk).1; have := u4.size; omega
  have ho := ho.upd u6 (fun e => by have := hb5 _ e; omega)
  have h06 := (h04.trans h5).upd u6 (by omega)
  ((with_reducible refine iLdA (by assumption) ?_ ?_); rfl)
  refine iStAB (cs := [.int .i64 0, .slice none 0 0]) B2 rfl rfl (by
    intro x hx
    simp at hx
    rcases hx with rfl | rfl
    · rfl
    · obtain ⟨_, _, hv, _⟩ := ho.sl; rw [hv]; rfl) fun w7 u7 B2 => ?_
  have ho := ho.upd u7 (fun e => by have := hb5 _ e; omega)
  ((with_reducible refine iLdA (by assumption) ?_ ?_); rfl)
  refine ⟨h06.upd u7 (by omega), v', rfl, ho.mono (by have := h04.size; omega)⟩
theorem ok_laws_eqModalAlgebra {v v' : Value} {w : World} {l l' : List Int} (hs : SlI w v l) (hs' : SlI w v' l') (n n' : Int) :
    Ret Try.prog f_laws_eqModalAlgebra #[.agg #[.int .i64 n, v], .agg #[.int .i64 n', v']] w (.bool (decide (n = n' ∧ l = l'))) := by
  apply c_laws_eqModalAlgebra; unfold S_laws_eqModalAlgebra
  refine iNew fun b1 w1 e1 h1 B1 => ?_
  refine iNew fun b2 w2 e2 h2 B2 => ?_
  have B1 := B1.ext h2
  have hs2 := hs.ext (h1.trans h2)
  have hs2' := hs'.ext (h1.trans h2)
  ((with_reducible refine iFa ?_); refine iLdB (by assumption) (by first | rfl | simp) ?_; (with_reducible refine iFa ?_); refine iLdB (by assumption) (by first | rfl | simp) ?_; (with_reducible refine iNe ?_))
  refine iCndP (fun h3 => ?_) (fun h3 => ?_)
  · exact ⟨by simp [h3], h1.trans h2⟩
  · ((with_reducible refine iFa ?_); refine iLdB (by assumption) (by first | rfl | simp) ?_; (with_reducible refine iFa ?_); refine iLdB (by assumption) (by first | rfl | simp) ?_)
    refine iRet (ok_laws_eqInt64S hs2 hs2') fun w3 h4 => ?_
    ((with_reducible refine iNot ?_))
    have h3 : n = n' := by omega
    refine iCnd (fun h5 => ?_) (fun h5 => ?_)
    · exact ⟨by simp at h5; simp [h3, h5], (h1.trans h2).trans h4⟩
    · exact ⟨by simp at h5; simp [h3, h5], (h1.trans h2).trans h4⟩
theorem ok_laws_markModalAlgebra {lo : Nat} {v : Value} {w : World} {l : List Int} (hs : Ow lo t_i64 w v (ints l)) (n : Int) (k : Nat) (hk : k + l.length ≤ 9223372036854775807) :
    Cal Try.prog f_laws_markModalAlgebra #[.agg #[.int .i64 n, v], .int .i64 (k : Int)] w fun v' w' => v' = .int .i64 ((k + l.length : Nat) : Int) ∧ Ow lo t_i64 w' v (ints (marks k l.length)) ∧ w.grownBy w' v.ownBlock := by
  apply c_laws_markModalAlgebra; unfold S_laws_markModalAlgebra
  refine iNew fun b1 w1 e1 h1 B1 => ?_
  have hs1 := hs.ext h1
  ((with_reducible refine iFa ?_); refine iLdB (by assumption) (by first | rfl | simp) ?_)
  refine iCall ((ok_laws_markInt64S hs1 k hk).mono ?_)
  rintro v' w2 ⟨rfl, ho, hg⟩
  exact ⟨rfl, ho, ⟨hg.os.trans h1.os, hg.tape.trans h1.tape, hg.output.trans h1.output, Nat.le_trans h1.size hg.size, fun i hi hne => (hg.block i (by have := h1.size; omega) hne).trans (h1.block i hi)⟩⟩
end Go.Proofs.Ytfhdhdgabdpmkaa

/- The law's body over two structs (an int64 and a slice of int64) with a result and a code: once for all functions of this shape. Conditions: none. -/
namespace Go.Proofs.Ytfhdhdgabdpmkaa
open Go.Vc
theorem szN_neg (n : Nat) (left : Int) (h : ¬ szN n left < 0) : (n : Int) ≤ left ∧ szN n left = left - n := by
  unfold szN at *
  split at h
  · omega
  · rename_i h2; rw [if_neg h2]; omega
/-- What the law's helpers do with a struct of an int64 and a slice of int64. -/
structure FrFns (sz to eqF mF : FuncId) : Prop where
  sz : ∀ {v : Value} {w : World} {l : List Int}, SlI w v l → ∀ n left : Int, 0 ≤ left ∧ left ≤ 1048576 → Ret Try.prog sz #[.agg #[.int .i64 n, v], .int .i64 left] w (.int .i64 (szN l.length left))
  to : ∀ {v : Value} {w : World} {l : List Int}, SlI w v l → ∀ n : Int, l.length ≤ 1048576 → Cal Try.prog to #[.agg #[.int .i64 n, v]] w fun r w' => Ext w w' ∧ ∃ v', r = .agg #[.int .i64 n, v'] ∧ Ow w.heap.size t_i64 w' v' (ints l)
  eq : ∀ {v v' : Value} {w : World} {l l' : List Int}, SlI w v l → SlI w v' l' → ∀ n n' : Int, Ret Try.prog eqF #[.agg #[.int .i64 n, v], .agg #[.int .i64 n', v']] w (.bool (decide (n = n' ∧ l = l')))
  mark : ∀ {lo : Nat} {v : Value} {w : World} {l : List Int}, Ow lo t_i64 w v (ints l) → ∀ (n : Int) (k : Nat), k + l.length ≤ 9223372036854775807 →
    Cal Try.prog mF #[.agg #[.int .i64 n, v], .int .i64 (k : Int)] w fun v' w' => v' = .int .i64 ((k + l.length : Nat) : Int) ∧ Ow lo t_i64 w' v (ints (marks k l.length)) ∧ w.grownBy w' v.ownBlock
/-- What is asked of the result and of the functions on it. -/
structure ResFns (sp im eqR mR hR : FuncId) (X : Type) (out : Int → List Int → Int → List Int → X × Int) where
  Rd : Nat → World → Value → X → Prop
  ext : ∀ {lo w w' v x}, Rd lo w v x → Ext w w' → Rd lo w' v x
  ch : ∀ {lo w w' v x S}, Rd lo w v x → Ch S w w' → (∀ c, S c → c < lo) → Rd lo w' v x
  spec : ∀ {w v0 v1 l0 l1}, SlI w v0 l0 → SlI w v1 l1 → ∀ n0 n1 : Int, Cal Try.prog sp #[.agg #[.int .i64 n0, v0], .agg #[.int .i64 n1, v1]] w fun r w' => Ext w w' ∧ ∃ v, r = .tuple #[v, .int .i64 (out n0 l0 n1 l1).2] ∧ Rd w.heap.size w' v (out n0 l0 n1 l1).1
  impl : ∀ {w v0 v1 l0 l1}, SlI w v0 l0 → SlI w v1 l1 → ∀ n0 n1 : Int, Cal Try.prog im #[.agg #[.int .i64 n0, v0], .agg #[.int .i64 n1, v1]] w fun r w' => Ext w w' ∧ ∃ v, r = .tuple #[v, .int .i64 (out n0 l0 n1 l1).2] ∧ Rd w.heap.size w' v (out n0 l0 n1 l1).1
  eq : ∀ {lo lo' w v v' x}, Rd lo w v x → Rd lo' w v' x → Ret Try.prog eqR #[v, v'] w (.bool true)
  cnt : X → Nat
  mkd : X → X
  small : ∀ n0 l0 n1 l1, cnt (out n0 l0 n1 l1).1 ≤ 1000000000
  mark : ∀ {lo w v x}, Rd lo w v x → cnt x ≤ 1000000000 → Cal Try.prog mR #[v, .int .i64 1] w fun r w' => r = .int .i64 ((1 + cnt x : Nat) : Int) ∧ Rd lo w' v (mkd x) ∧ Ch (fun c => lo ≤ c) w w'
  held : ∀ {lo w v x}, Rd lo w v (mkd x) → cnt x ≤ 1000000000 → Ret Try.prog hR #[v, .int .i64 1] w (.int .i64 ((1 + cnt x : Nat) : Int))
def SLaw2 (sz to sp im eqR eqF mF mR hR : FuncId) (tl tf : TypeId) (v0 v1 : Value) (w : World) (R : Value → World → Prop) : Prop :=
  xNew (Value.cells v0) tl w fun v2 w1 =>
 xNew (Value.cells v1) tl w1 fun v3 w2 =>
 xLdA w2 2 v2 fun v17 =>
 callV Try.prog (.func (.func sz) #[] #[]) [v17, (.int .i64 1048576)] w2 fun v19 w3 =>
 xLt .i64 v19 (.int .i64 0) fun v21 =>
 cnd v21 (R (.bool true) w3) (xLdA w3 2 v3 fun v22 =>
 callV Try.prog (.func (.func sz) #[] #[]) [v22, v19] w3 fun v24 w4 =>
 xLt .i64 v24 (.int .i64 0) fun v26 =>
 cnd v26 (R (.bool true) w4) (xLdA w4 2 v2 fun v28 =>
 xLdA w4 2 v3 fun v30 =>
 ∀ w5, Ext w4 w5 → callV Try.prog (.func (.func to) #[] #[]) [v28] w5 fun v29 w6 =>
 Ext w5 w6 ∧ ∀ w7, Ext w6 w7 → callV Try.prog (.func (.func to) #[] #[]) [v30] w7 fun v31 w8 =>
 ∀ w9, Ext w8 w9 → callV Try.prog (.func (.func sp) #[] #[]) [v29, v31] w9 fun v32 w10 =>
 xEx v32 0 fun v33 =>
 xEx v32 1 fun v34 =>
 ∀ w11, Ext w10 w11 → xLdA w11 2 v2 fun v35 =>
 callV Try.prog (.func (.func to) #[] #[]) [v35] w11 fun v36 w12 =>
 xNew (Value.cells (.agg #[(.int .i64 0), (.slice none 0 0)])) tf w12 fun v8 w13 =>
 xStA Try.prog w13 2 v8 v36 fun w14 =>
 xLdA w14 2 v3 fun v37 =>
 callV Try.prog (.func (.func to) #[] #[]) [v37] w14 fun v38 w15 =>
 xNew (Value.cells (.agg #[(.int .i64 0), (.slice none 0 0)])) tf w15 fun v9 w16 =>
 xStA Try.prog w16 2 v9 v38 fun w17 =>
 xLdA w17 2 v8 fun v40 =>
 xLdA w17 2 v9 fun v41 =>
 callV Try.prog (.func (.func im) #[] #[]) [v40, v41] w17 fun v42 w18 =>
 xEx v42 0 fun v43 =>
 xEx v42 1 fun v44 =>
 jn (fun J19 =>
 callV Try.prog (.func (.func eqR) #[] #[]) [v43, v33] w18 fun v47 w21 =>
 xNot v47 fun v48 =>
 cnd v48 (J19 [(.bool true)] w21) (xNe .i64 v44 v34 fun v52 =>
 J19 [v52] w21)) (fun xs19 w20 =>
 ∀ _ : Nat → Value, cnd (gx xs19 0) (R (.bool false) w20) (xLdA w20 2 v8 fun v54 =>
 xLdA w20 2 v2 fun v55 =>
 ∀ w22, Ext w20 w22 → callV Try.prog (.func (.func to) #[] #[]) [v55] w22 fun v56 w23 =>
 Ext w22 w23 ∧ callQ Try.prog (.func (.func eqF) #[] #[]) [v54, v56] w23 fun v57 =>
 xNot v57 fun v58 =>
 ∀ w24, Ext w23 w24 → cnd v58 (R (.bool false) w24) (xLdA w24 2 v9 fun v59 =>
 xLdA w24 2 v3 fun v60 =>
 ∀ w25, Ext w24 w25 → callV Try.prog (.func (.func to) #[] #[]) [v60] w25 fun v61 w26 =>
 Ext w25 w26 ∧ callQ Try.prog (.func (.func eqF) #[] #[]) [v59, v61] w26 fun v62 =>
 xNot v62 fun v63 =>
 ∀ w27, Ext w26 w27 → cnd v63 (R (.bool false) w27) (xLdA w27 2 v8 fun v64 =>
 callV Try.prog (.func (.func mF) #[] #[]) [v64, (.int .i64 1)] w27 fun v66 w28 =>
 xLdA w28 2 v9 fun v67 =>
 callV Try.prog (.func (.func mF) #[] #[]) [v67, v66] w28 fun v69 w29 =>
 jn (fun J30 =>
 xLt .i64 v69 (.int .i64 0) fun v71 =>
 cnd v71 (J30 [(.bool true)] w29) (callV Try.prog (.func (.func eqR) #[] #[]) [v43, v33] w29 fun v75 w32 =>
 xNot v75 fun v76 =>
 cnd v76 (J30 [(.bool true)] w32) (xNe .i64 v44 v34 fun v81 =>
 J30 [v81] w32))) (fun xs30 w31 =>
 ∀ _ : Nat → Value, cnd (gx xs30 0) (R (.bool false) w31) (callV Try.prog (.func (.func mR) #[] #[]) [v43, (.int .i64 1)] w31 fun v85 w33 =>
 callV Try.prog (.func (.func hR) #[] #[]) [v43, (.int .i64 1)] w33 fun v88 w34 =>
 xLt .i64 v88 (.int .i64 0) fun v90 =>
 cnd v90 (R (.bool false) w34) (xNe .i64 v88 v85 fun v93 =>
 cnd v93 (R (.bool false) w34) (xLdA w34 2 v2 fun v95 =>
 xLdA w34 2 v3 fun v97 =>
 ∀ w35, Ext w34 w35 → callV Try.prog (.func (.func to) #[] #[]) [v95] w35 fun v96 w36 =>
 Ext w35 w36 ∧ ∀ w37, Ext w36 w37 → callV Try.prog (.func (.func to) #[] #[]) [v97] w37 fun v98 w38 =>
 ∀ w39, Ext w38 w39 → callV Try.prog (.func (.func im) #[] #[]) [v96, v98] w39 fun v99 w40 =>
 xEx v99 0 fun v100 =>
 xEx v99 1 fun v101 =>
 ∀ w41, Ext w40 w41 → jn (fun J42 =>
 callV Try.prog (.func (.func eqR) #[] #[]) [v100, v33] w41 fun v104 w44 =>
 xNot v104 fun v105 =>
 cnd v105 (J42 [(.bool true)] w44) (xNe .i64 v101 v34 fun v109 =>
 J42 [v109] w44)) (fun xs42 w43 =>
 ∀ _ : Nat → Value, cnd (gx xs42 0) (R (.bool false) w43) (callV Try.prog (.func (.func hR) #[] #[]) [v43, (.int .i64 1)] w43 fun v113 w45 =>
 xLt .i64 v113 (.int .i64 0) fun v115 =>
 cnd v115 (R (.bool false) w45) (xNe .i64 v113 v85 fun v118 =>
 cnd v118 (R (.bool false) w45) (R (.bool true) w45))))))))))))))
theorem law2 {sz to sp im eqR eqF mF mR hR : FuncId} {tl tf : TypeId} (htl : t_i64 ≠ tl) (htf : t_i64 ≠ tf) (htt : tl ≠ tf) (F : FrFns sz to eqF mF) {X : Type} {out : Int → List Int → Int → List Int → X × Int} (G : ResFns sp im eqR mR hR X out)
    {w : World} {s0 s1 : Value} {l0 l1 : List Int} (hs0 : SlI w s0 l0) (hs1 : SlI w s1 l1) (n0 n1 : Int) : SLaw2 sz to sp im eqR eqF mF mR hR tl tf (.agg #[.int .i64 n0, s0]) (.agg #[.int .i64 n1, s1]) w fun v' w' => v' = .bool true ∧ Ext w w' := by
  unfold SLaw2
  have hX := Ext.refl w
  refine iNew fun b2 w1 hb2 h hB2 => ?_
  have hX := hX.trans h
  refine iNew fun b3 w2 hb3 h hB3 => ?_
  have hX := hX.trans h
  have hB2 := hB2.ext h
  ((with_reducible refine iLdA (by assumption) ?_ ?_); rfl)
  refine iRet (F.sz (hs0.ext hX) n0 1048576 (by omega)) fun w3 h => ?_
  have hX := hX.trans h
  have hB2 := hB2.ext h
  have hB3 := hB3.ext h
  ((with_reducible refine iLt ?_))
  refine iCndP (fun h3 => ⟨rfl, hX⟩) (fun h3 => ?_)
  obtain ⟨hl0, hl0'⟩ := szN_neg _ _ h3
  ((with_reducible refine iLdA (by assumption) ?_ ?_); rfl)
  refine iRet (F.sz (hs1.ext hX) n1 (szN l0.length 1048576) (by omega)) fun w4 h => ?_
  have hX := hX.trans h
  have hB2 := hB2.ext h
  have hB3 := hB3.ext h
  ((with_reducible refine iLt ?_))
  refine iCndP (fun h3 => ⟨rfl, hX⟩) (fun h3 => ?_)
  obtain ⟨hl1, _⟩ := szN_neg _ _ h3
  ((with_reducible refine iLdA (by assumption) ?_ ?_); rfl; (with_reducible refine iLdA (by assumption) ?_ ?_); rfl)
  intro w5 h
  have hX := hX.trans h
  have hB2 := hB2.ext h
  have hB3 := hB3.ext h
  refine iCall ((F.to (hs0.ext hX) n0 (by omega)).mono ?_)
  rintro _ w6 ⟨h, a0, rfl, ho0⟩
  (try refine ⟨h, ?_⟩)
  have hX := hX.trans h
  have hB2 := hB2.ext h
  have hB3 := hB3.ext h
  intro w7 h
  have hX := hX.trans h
  have hB2 := hB2.ext h
  have hB3 := hB3.ext h
  have ho0 := ho0.ext h
  refine iCall ((F.to (hs1.ext hX) n1 (by omega)).mono ?_)
  rintro _ w8 ⟨h, a1, rfl, ho1⟩
  (try refine ⟨h, ?_⟩)
  have hX := hX.trans h
  have hB2 := hB2.ext h
  have hB3 := hB3.ext h
  have ho0 := ho0.ext h
  intro w9 h
  have hX := hX.trans h
  have hB2 := hB2.ext h
  have hB3 := hB3.ext h
  have ho0 := ho0.ext h
  have ho1 := ho1.ext h
  refine iCall ((G.spec ho0.sl ho1.sl n0 n1).mono ?_)
  rintro _ w10 ⟨h, r1, rfl, hr1⟩
  (try refine ⟨h, ?_⟩)
  have hX := hX.trans h
  have hB2 := hB2.ext h
  have hB3 := hB3.ext h
  have hX0 := hX
  have hs0 := hs0.ext hX0
  have hs1 := hs1.ext hX0
  have hX := Ext.refl w10
  have hfin : ∀ w', Ext w10 w' → (.bool true : Value) = .bool true ∧ Ext w w' := fun w' h => ⟨rfl, hX0.trans h⟩
  ((with_reducible refine iE20 ?_; refine iE21 ?_))
  intro w11 h
  have hX := hX.trans h
  have hB2 := hB2.ext h
  have hB3 := hB3.ext h
  ((with_reducible refine iLdA (by assumption) ?_ ?_); rfl)
  refine iCall ((F.to (hs0.ext hX) n0 (by omega)).mono ?_)
  rintro _ w12 ⟨h, a8, rfl, ho8⟩
  have ho8 := ho8.mono hX.size
  have hX := hX.trans h
  have hB2 := hB2.ext h
  have hB3 := hB3.ext h
  refine iNew fun b8 w13 hb8 h hD8 => ?_
  have hlo8 : w10.heap.size ≤ b8 := by have := hX.size; omega
  have hX := hX.trans h
  have hB2 := hB2.ext h
  have hB3 := hB3.ext h
  have ho8 := ho8.ext h
  refine iStAB hD8 rfl rfl (ho8.pair n0) fun w14 hu hD8' => ?_
  have hX := hX.upd hu hlo8
  have hB2 := hB2.upd hu (hB2.ne_blk hD8 htt)
  have hB3 := hB3.upd hu (hB3.ne_blk hD8 htt)
  have ho8 := ho8.upd hu (ho8.ne_blk hD8 htf)
  have hD8 := hD8'
  ((with_reducible refine iLdA (by assumption) ?_ ?_); rfl)
  refine iCall ((F.to (hs1.ext hX) n1 (by omega)).mono ?_)
  rintro _ w15 ⟨h, a9, rfl, ho9⟩
  have hd98 : ∀ c, a9.ownBlock = some c → a8.ownBlock ≠ some c := fun c hc h8 => by have := (ho9.blk c hc).1; have := (ho8.blk c h8).2; omega
  have ho9 := ho9.mono hX.size
  have hX := hX.trans h
  have hB2 := hB2.ext h
  have hB3 := hB3.ext h
  have ho8 := ho8.ext h
  have hD8 := hD8.ext h
  refine iNew fun b9 w16 hb9 h hD9 => ?_
  have hlo9 : w10.heap.size ≤ b9 := by have := hX.size; omega
  have hne89 : b8 ≠ b9 := by have := hD8.lt; omega
  have hX := hX.trans h
  have hB2 := hB2.ext h
  have hB3 := hB3.ext h
  have ho8 := ho8.ext h
  have hD8 := hD8.ext h
  have ho9 := ho9.ext h
  refine iStAB hD9 rfl rfl (ho9.pair n1) fun w17 hu hD9' => ?_
  have hX := hX.upd hu hlo9
  have hB2 := hB2.upd hu (hB2.ne_blk hD9 htt)
  have hB3 := hB3.upd hu (hB3.ne_blk hD9 htt)
  have ho8 := ho8.upd hu (ho8.ne_blk hD9 htf)
  have ho9 := ho9.upd hu (ho9.ne_blk hD9 htf)
  have hD8 := hD8.upd hu hne89
  have hD9 := hD9'
  ((with_reducible refine iLdA (by assumption) ?_ ?_); rfl; (with_reducible refine iLdA (by assumption) ?_ ?_); rfl)
  refine iCall ((G.impl ho8.sl ho9.sl n0 n1).mono ?_)
  rintro _ w18 ⟨h, r2, rfl, hr2⟩
  have hb8' := fun c (hc : a8.ownBlock = some c) => (ho8.blk c hc).2
  have hb9' := fun c (hc : a9.ownBlock = some c) => (ho9.blk c hc).2
  have hb2' := hB2.lt
  have hb3' := hB3.lt
  have hhi := hX.size
  have hX := hX.trans h
  have hB2 := hB2.ext h
  have hB3 := hB3.ext h
  have ho8 := ho8.ext h
  have ho9 := ho9.ext h
  have hD8 := hD8.ext h
  have hD9 := hD9.ext h
  have hsm := G.small n0 l0 n1 l1
  generalize hoc : out n0 l0 n1 l1 = oc at *
  ((with_reducible refine iE20 ?_; refine iE21 ?_))
  refine iJnB false w18 (fun J hJ => ?_) (fun w20 h => ?_)
  · refine iRet (G.eq hr2 (G.ext hr1 hX)) fun w21 h => ?_
    ((with_reducible refine iNot ?_))
    refine iCndF rfl ?_
    ((with_reducible refine iNe ?_))
    have := hJ w21 h
    simpa using this
  have hX := hX.trans h
  have hB2 := hB2.ext h
  have hB3 := hB3.ext h
  have ho8 := ho8.ext h
  have ho9 := ho9.ext h
  have hD8 := hD8.ext h
  have hD9 := hD9.ext h
  have hr2 := G.ext hr2 h
  (intro _; (try simp only [gx]))
  refine iCndF rfl ?_
  ((with_reducible refine iLdA (by assumption) ?_ ?_); rfl; (with_reducible refine iLdA (by assumption) ?_ ?_); rfl)
  intro w22 h
  have hX := hX.trans h
  have hB2 := hB2.ext h
  have hB3 := hB3.ext h
  have ho8 := ho8.ext h
  have ho9 := ho9.ext h
  have hD8 := hD8.ext h
  have hD9 := hD9.ext h
  have hr2 := G.ext hr2 h
  refine iCall ((F.to (hs0.ext hX) n0 (by omega)).mono ?_)
  rintro _ w23 ⟨h, a2, rfl, ho2⟩
  (try refine ⟨h, ?_⟩)
  have hX := hX.trans h
  have hB2 := hB2.ext h
  have hB3 := hB3.ext h
  have ho8 := ho8.ext h
  have ho9 := ho9.ext h
  have hD8 := hD8.ext h
  have hD9 := hD9.ext h
  have hr2 := G.ext hr2 h
  refine iRetQ (fun w' h' => F.eq (ho8.ext h').sl (ho2.ext h').sl n0 n0) ?_
  ((with_reducible refine iNot ?_))
  intro w24 h
  have hX := hX.trans h
  have hB2 := hB2.ext h
  have hB3 := hB3.ext h
  have ho8 := ho8.ext h
  have ho9 := ho9.ext h
  have hD8 := hD8.ext h
  have hD9 := hD9.ext h
  have hr2 := G.ext hr2 h
  refine iCndF (by simp) ?_
  ((with_reducible refine iLdA (by assumption) ?_ ?_); rfl; (with_reducible refine iLdA (by assumption) ?_ ?_); rfl)
  intro w25 h
  have hX := hX.trans h
  have hB2 := hB2.ext h
  have hB3 := hB3.ext h
  have ho8 := ho8.ext h
  have ho9 := ho9.ext h
  have hD8 := hD8.ext h
  have hD9 := hD9.ext h
  have hr2 := G.ext hr2 h
  refine iCall ((F.to (hs1.ext hX) n1 (by omega)).mono ?_)
  rintro _ w26 ⟨h, a3, rfl, ho3⟩
  (try refine ⟨h, ?_⟩)
  have hX := hX.trans h
  have hB2 := hB2.ext h
  have hB3 := hB3.ext h
  have ho8 := ho8.ext h
  have ho9 := ho9.ext h
  have hD8 := hD8.ext h
  have hD9 := hD9.ext h
  have hr2 := G.ext hr2 h
  refine iRetQ (fun w' h' => F.eq (ho9.ext h').sl (ho3.ext h').sl n1 n1) ?_
  ((with_reducible refine iNot ?_))
  intro w27 h
  have hX := hX.trans h
  have hB2 := hB2.ext h
  have hB3 := hB3.ext h
  have ho8 := ho8.ext h
  have ho9 := ho9.ext h
  have hD8 := hD8.ext h
  have hD9 := hD9.ext h
  have hr2 := G.ext hr2 h
  refine iCndF (by simp) ?_
  ((with_reducible refine iLdA (by assumption) ?_ ?_); rfl)
  -- the copies marked
  refine iCall ((F.mark ho8 n0 1 (by omega)).mono ?_)
  rintro _ w28 ⟨rfl, _, hg⟩
  have hX := hX.grown hg fun c hc => (ho8.blk c hc).1
  have hr2 := G.ch hr2 (grown_ch (S := fun c => a8.ownBlock = some c) hg (fun c hc => hc)) (fun c hc => hb8' c hc)
  have hB2 := hB2.grown hg (ho8.ne_blk hB2 htl)
  have hB3 := hB3.grown hg (ho8.ne_blk hB3 htl)
  have hD9 := hD9.grown hg (ho8.ne_blk hD9 htf)
  have ho9 := ho9.grown hg (by
    cases hc : a9.ownBlock with
    | none => exact .inl rfl
    | some c => exact .inr fun e => hd98 c hc e.symm)
  ((with_reducible refine iLdA (by assumption) ?_ ?_); rfl)
  refine iCall ((F.mark ho9 n1 (1 + l0.length) (by omega)).mono ?_)
  rintro _ w29 ⟨rfl, _, hg⟩
  have hX := hX.grown hg fun c hc => (ho9.blk c hc).1
  have hr2 := G.ch hr2 (grown_ch (S := fun c => a9.ownBlock = some c) hg (fun c hc => hc)) (fun c hc => hb9' c hc)
  have hB2 := hB2.grown hg (ho9.ne_blk hB2 htl)
  have hB3 := hB3.grown hg (ho9.ne_blk hB3 htl)
  refine iJnB false w29 (fun J hJ => ?_) (fun w31 h => ?_)
  · ((with_reducible refine iLt ?_))
    refine iCndP (fun h => absurd h (by omega)) (fun _ => ?_)
    refine iRet (G.eq hr2 (G.ext hr1 hX)) fun w32 h => ?_
    ((with_reducible refine iNot ?_))
    refine iCndF rfl ?_
    ((with_reducible refine iNe ?_))
    have := hJ w32 h
    simpa using this
  have hX := hX.trans h
  have hB2 := hB2.ext h
  have hB3 := hB3.ext h
  have hr2 := G.ext hr2 h
  (intro _; (try simp only [gx]))
  refine iCndF rfl ?_
  refine iCall ((G.mark hr2 hsm).mono ?_)
  rintro _ w33 ⟨rfl, hr2, hch⟩
  have hX := hX.thenCh hch fun c hc => Nat.le_trans hhi hc
  have hB2 := hB2.ch hch (by show ¬ _ ≤ b2; omega)
  have hB3 := hB3.ch hch (by show ¬ _ ≤ b3; omega)
  refine iRet (G.held hr2 hsm) fun w34 h => ?_
  have hX := hX.trans h
  have hB2 := hB2.ext h
  have hB3 := hB3.ext h
  have hr2 := G.ext hr2 h
  ((with_reducible refine iLt ?_))
  refine iCndP (fun h => absurd h (by omega)) (fun _ => ?_)
  ((with_reducible refine iNe ?_))
  refine iCndP (fun h => absurd rfl h) (fun _ => ?_)
  ((with_reducible refine iLdA (by assumption) ?_ ?_); rfl; (with_reducible refine iLdA (by assumption) ?_ ?_); rfl)
  intro w35 h
  have hX := hX.trans h
  have hr2 := G.ext hr2 h
  refine iCall ((F.to (hs0.ext hX) n0 (by omega)).mono ?_)
  rintro _ w36 ⟨h, a4, rfl, ho4⟩
  (try refine ⟨h, ?_⟩)
  have hX := hX.trans h
  have hr2 := G.ext hr2 h
  intro w37 h
  have hX := hX.trans h
  have ho4 := ho4.ext h
  have hr2 := G.ext hr2 h
  refine iCall ((F.to (hs1.ext hX) n1 (by omega)).mono ?_)
  rintro _ w38 ⟨h, a5, rfl, ho5⟩
  (try refine ⟨h, ?_⟩)
  have hX := hX.trans h
  have ho4 := ho4.ext h
  have hr2 := G.ext hr2 h
  intro w39 h
  have hX := hX.trans h
  have ho4 := ho4.ext h
  have ho5 := ho5.ext h
  have hr2 := G.ext hr2 h
  have hout := G.impl ho4.sl ho5.sl n0 n1
  rw [hoc] at hout
  refine iCall (hout.mono ?_)
  rintro _ w40 ⟨h, r3, rfl, hr3⟩
  (try refine ⟨h, ?_⟩)
  have hX := hX.trans h
  have hr2 := G.ext hr2 h
  ((with_reducible refine iE20 ?_; refine iE21 ?_))
  intro w41 h
  have hX := hX.trans h
  have hr2 := G.ext hr2 h
  have hr3 := G.ext hr3 h
  refine iJnB false w41 (fun J hJ => ?_) (fun w43 h => ?_)
  · refine iRet (G.eq hr3 (G.ext hr1 hX)) fun w44 h => ?_
    ((with_reducible refine iNot ?_))
    refine iCndF rfl ?_
    ((with_reducible refine iNe ?_))
    have := hJ w44 h
    simpa using this
  have hX := hX.trans h
  have hr2 := G.ext hr2 h
  (intro _; (try simp only [gx]))
  refine iCndF rfl ?_
  refine iRet (G.held hr2 hsm) fun w45 h => ?_
  have hX := hX.trans h
  ((with_reducible refine iLt ?_))
  refine iCndP (fun h => absurd h (by omega)) (fun _ => ?_)
  ((with_reducible refine iNe ?_))
  refine iCndP (fun h => absurd rfl h) (fun _ => ?_)
  have := hfin _ hX
  simpa using this
end Go.Proofs.Ytfhdhdgabdpmkaa

/- Contracts: the first map that the search finds; the functions that hand it back. Conditions: none. -/
namespace Go.Vc
theorem Blk.same {e : TypeId} {w w' : World} {b : Nat} {cs : List Value} (h : Blk e w b cs) (hs : w'.heap[b]? = w.heap[b]?) : Blk e w' b cs := by
  unfold Blk at *
  rw [hs]; exact h
theorem Ow.same {lo : Nat} {e : TypeId} {w w' : World} {v : Value} {xs : List Value} (h : Ow lo e w v xs) (hs : ∀ c, v.ownBlock = some c → w'.heap[c]? = w.heap[c]?) : Ow lo e w' v xs := by
  obtain ⟨h0, h | ⟨g, cap, cur, hv, hg, hh, h1⟩⟩ := h
  · exact ⟨h0, .inl h⟩
  · exact ⟨h0, .inr ⟨g, cap, cur, hv, hg, by rw [hs g (by rw [hv]; rfl)]; exact hh, h1⟩⟩
theorem OwL.same {lo : Nat} {e : TypeId} {w w' : World} {vs : List Value} {ls : List (List Value)} (h : OwL lo e w vs ls) (hs : ∀ v ∈ vs, ∀ c, v.ownBlock = some c → w'.heap[c]? = w.heap[c]?) : OwL lo e w' vs ls :=
  ⟨h.1, fun i v l hv hl => (h.2.1 i v l hv hl).same (hs v (List.mem_of_getElem? hv)), h.2.2⟩
end Go.Vc
namespace Go.Proofs.Ytfhdhdgabdpmkaa
open Go.Vc
theorem marks_length (k n : Nat) : (marks k n).length = n := by simp [marks]
theorem leaves_mem {f g : Fr} {onto one : Bool} {l : List Nat} (h : l ∈ leaves (fitsB f g onto one) g.n f.n []) : l.length = f.n ∧ ∀ y ∈ l, y < g.n := by
  unfold leaves at h
  split at h
  · obtain ⟨h1, h2⟩ := dfs_lt _ _ _ _ l h
    refine ⟨by simpa using h1, fun y hy => ?_⟩
    rcases h2 y hy with h3 | h3
    · cases h3
    · exact h3
  · cases h
end Go.Proofs.Ytfhdhdgabdpmkaa

/- Contracts: the properties that make a frame a poset, in the reference. Conditions: none. -/
namespace Go.Vc
end Go.Vc
namespace Go.Proofs.Ytfhdhdgabdpmkaa
open Go.Vc
end Go.Proofs.Ytfhdhdgabdpmkaa

/- The law's body over two structs (an int64 and a slice of int64) with a truth and a code: once for all functions of this shape. Conditions: none. -/
namespace Go.Vc
end Go.Vc
namespace Go.Proofs.Ytfhdhdgabdpmkaa
open Go.Vc
end Go.Proofs.Ytfhdhdgabdpmkaa

/- Contracts of the functions on modal algebras. Conditions: none. -/
namespace Go.Vc
/-- What is asked of the operation of an algebra. -/
def pairB (a : List Nat) (x y : Nat) : Bool := decide (a.getD (x &&& y) 0 = a.getD x 0 &&& a.getD y 0)
def algIn (a : List Nat) : Bool := decide (a.getD (a.length - 1) 0 = a.length - 1) && (List.range a.length).all fun x => (List.range x).all fun y => pairB a x y
/-- The worlds that a world sees, up to v. -/
def algMask (a : List Nat) (n w v : Nat) : Nat := setOf ((List.range v).filter fun u => !(a.getD (2 ^ n - 1 - 2 ^ u) 0).testBit w)
theorem algMask_succ (a : List Nat) (n w v : Nat) : algMask a n w (v + 1) = if (a.getD (2 ^ n - 1 - 2 ^ v) 0).testBit w then algMask a n w v else algMask a n w v ||| 2 ^ v := by
  unfold algMask
  rw [List.range_succ, List.filter_append]
  cases h : (a.getD (2 ^ n - 1 - 2 ^ v) 0).testBit w
  · simp only [List.filter_cons, List.filter_nil, h, Bool.not_false, if_true]
    rw [setOf_snoc]; simp
  · simp only [List.filter_cons, List.filter_nil, h, Bool.not_true, if_true]
    simp
theorem algMask_lt (a : List Nat) (n w v : Nat) : algMask a n w v < 2 ^ v := setOf_lt fun _ hy => List.mem_range.1 (List.mem_filter.1 hy).1
def algFr (n : Nat) (a : List Nat) : Fr := ⟨n, (List.range n).map fun w => algMask a n w n⟩
theorem algFr_ok {n : Nat} (a : List Nat) (hn : n ≤ 8) : (algFr n a).ok := ⟨hn, by simp [algFr], fun x hx => by
  obtain ⟨w, _, rfl⟩ := List.mem_map.1 hx
  exact algMask_lt _ _ _ _⟩
theorem and_le_lt {x y m : Nat} (hx : x < m) : x &&& y < m := Nat.lt_of_le_of_lt Nat.and_le_left hx
theorem two_pow_add_le {u n : Nat} (h : u < n) : 2 ^ u ≤ 2 ^ n - 1 := by
  have := Nat.pow_lt_pow_right (a := 2) (by omega) h
  omega
theorem sdiff_full {u n : Nat} (h : u < n) : sdiff (2 ^ n - 1) (2 ^ u) = 2 ^ n - 1 - 2 ^ u := by
  apply Nat.eq_of_testBit_eq
  intro i
  rw [testBit_sdiff, full_testBit, show 2 ^ n - 1 - 2 ^ u = 2 ^ n - (2 ^ u + 1) by omega, Nat.testBit_two_pow_sub_succ (Nat.pow_lt_pow_right (by omega) h)]
end Go.Vc
namespace Go.Proofs.Ytfhdhdgabdpmkaa
open Go.Vc
def algOk (n : Int) (l : List Int) : Bool := decide (0 ≤ n ∧ n ≤ 5) && (decide ((l.length : Int) = ((2 ^ n.toNat : Nat) : Int)) && (l.all (maskB n.toNat) && algIn (l.map Int.toNat)))
theorem masks_nats {m : Nat} {l : List Int} (h : l.all (maskB m) = true) : l = nats (l.map Int.toNat) ∧ ∀ x ∈ l.map Int.toNat, x < 2 ^ m := by
  rw [List.all_eq_true] at h
  have hx : ∀ x ∈ l, 0 ≤ x ∧ x ≤ ((2 ^ m - 1 : Nat) : Int) := fun x hx => by
    have := h x hx
    unfold maskB at this
    simpa using this
  refine ⟨?_, ?_⟩
  · show l = (l.map Int.toNat).map Int.ofNat
    rw [List.map_map]
    conv => lhs; rw [← List.map_id l]
    refine List.map_congr_left fun x h4 => ?_
    have := hx x h4
    simp only [id, Function.comp, Int.ofNat_eq_natCast]
    omega
  · intro y hy
    obtain ⟨x, h4, rfl⟩ := List.mem_map.1 hy
    have := hx x h4
    have hp := Nat.two_pow_pos m
    omega
theorem getD_lt_all {a : List Nat} {m : Nat} (h : ∀ x ∈ a, x < m) (hm : 0 < m) (i : Nat) : a.getD i 0 < m := by
  by_cases hi : i < a.length
  · exact getD_lt h hi
  · simp [List.getD_eq_getElem?_getD, List.getElem?_eq_none (Nat.le_of_not_lt hi)]; exact hm
theorem ok_spec_l15Is {v : Value} {w : World} {l : List Int} (hs : SlI w v l) (n : Int) : Ret Try.prog f_spec_l15Is #[.agg #[.int .i64 n, v]] w (.bool (algOk n l)) := by
  apply c_spec_l15Is; unfold S_spec_l15Is
  have hX := Ext.refl w
  refine iNew fun b w1 hb h hB => ?_
  have hX := hX.trans h
  have hs := hs.ext h
  refine iJnB (!(decide (0 ≤ n ∧ n ≤ 5) && (decide ((l.length : Int) = ((2 ^ n.toNat : Nat) : Int)) && l.all (maskB n.toNat)))) w1 (fun J hJ => ?_) (fun w3 h => ?_)
  · ((with_reducible refine iFa ?_); refine iLdB (by assumption) (by first | rfl | simp) ?_)
    refine iRetQ (fun w' _ => ok_spec_l01In _ _ _ w') ?_
    ((with_reducible refine iNot ?_))
    cases hn : decide (0 ≤ n ∧ n ≤ 5)
    · refine iCndT rfl ?_
      intro w4 h4
      have := hJ w4 h4
      rwa [hn] at this
    · refine iCndF rfl ?_
      rw [hn] at hJ
      obtain ⟨m, rfl⟩ := Int.eq_ofNat_of_zero_le (of_decide_eq_true hn).1
      have hm5 := (of_decide_eq_true hn).2
      rw [Int.toNat_natCast] at hJ
      ((with_reducible refine iFa ?_); refine iLdB (by assumption) (by first | rfl | simp) ?_; (with_reducible refine iLenI (by assumption) ?_; refine iFa ?_); refine iLdB (by assumption) (by first | rfl | simp) ?_)
      refine iRetQ (fun w' _ => ok_spec_l01One m (by omega) w') ?_
      ((with_reducible refine iNe ?_))
      refine iCndP (fun h4 => ?_) (fun h4 => ?_)
      · intro w5 h5
        have := hJ w5 h5
        rwa [decide_eq_false h4] at this
      · have h4 : (l.length : Int) = ((2 ^ m : Nat) : Int) := by omega
        rw [decide_eq_true h4] at hJ
        ((with_reducible refine iFa ?_); refine iLdB (by assumption) (by first | rfl | simp) ?_; (with_reducible refine iFa ?_); refine iLdB (by assumption) (by first | rfl | simp) ?_)
        refine iRetQ (fun w' h' => ok_spec_l01Masks (hs.ext h') m (by omega)) ?_
        ((with_reducible refine iNot ?_))
        intro w6 h6
        exact hJ w6 h6
  have hX := hX.trans h
  have hs := hs.ext h
  have hB := hB.ext h
  (intro _; (try simp only [gx]))
  have hcut : algOk n l = ((decide (0 ≤ n ∧ n ≤ 5) && (decide ((l.length : Int) = ((2 ^ n.toNat : Nat) : Int)) && l.all (maskB n.toNat))) && algIn (l.map Int.toNat)) := by
    unfold algOk; simp only [Bool.and_assoc]
  cases hg : (decide (0 ≤ n ∧ n ≤ 5) && (decide ((l.length : Int) = ((2 ^ n.toNat : Nat) : Int)) && l.all (maskB n.toNat)))
  · refine iCndT rfl ?_
    rw [hcut, hg]
    exact ⟨rfl, hX⟩
  · refine iCndF rfl ?_
    rw [hcut, hg, Bool.true_and]
    rw [Bool.and_eq_true, Bool.and_eq_true, decide_eq_true_eq, decide_eq_true_eq] at hg
    obtain ⟨hn, hlen, hall⟩ := hg
    obtain ⟨m, rfl⟩ := Int.eq_ofNat_of_zero_le hn.1
    rw [Int.toNat_natCast] at hlen hall
    obtain ⟨hl, hlt⟩ := masks_nats hall
    generalize l.map Int.toNat = a at *
    subst hl
    have hal : a.length = 2 ^ m := by rw [nats_length] at hlen; omega
    have hs : SlN _ v a := hs
    have hm5 : m ≤ 5 := by omega
    have h32 : 2 ^ m ≤ 32 := Nat.pow_le_pow_right (n := 2) (by omega) hm5
    have hp := Nat.two_pow_pos m
    have hget : ∀ i, a.getD i 0 < 32 := fun i => Nat.lt_of_lt_of_le (getD_lt_all hlt hp i) h32
    ((with_reducible refine iFa ?_); refine iLdB (by assumption) (by first | rfl | simp) ?_)
    refine iRet (ok_spec_l01Full m (by omega) w3) fun w7 h => ?_
    have hX := hX.trans h
    have hs := hs.ext h
    have hB := hB.ext h
    ((with_reducible refine iFa ?_); refine iLdB (by assumption) (by first | rfl | simp) ?_; (with_reducible refine iIaNN (by assumption) ?_ (fun pa_ hpa_ => ?_)); omega; (with_reducible refine iLd (by assumption) ?_; refine iNe ?_))
    refine iCndP (fun h4 => ?_) (fun h4 => ?_)
    · refine ⟨?_, hX⟩
      unfold algIn
      rw [hal, decide_eq_false (by omega)]; rfl
    have hfull : a.getD (a.length - 1) 0 = a.length - 1 := by rw [hal]; omega
    have hno : ∀ x y, x < 2 ^ m → y < x → pairB a x y = false → (.bool false : Value) = .bool (algIn a) := by
      intro x y hx hy hpq
      have : ((List.range a.length).all fun x => (List.range x).all fun y => pairB a x y) = false := by
        rw [List.all_eq_false]
        refine ⟨x, List.mem_range.2 (by omega), ?_⟩
        rw [Bool.not_eq_true, List.all_eq_false]
        exact ⟨y, List.mem_range.2 hy, by rw [hpq]; simp⟩
      unfold algIn
      rw [this, Bool.and_false]
    refine iLp (fun k : Nat => [.int .i64 (k : Int)]) (fun k w' => k ≤ 2 ^ m ∧ Ext w7 w' ∧ ∀ x, x < k → ∀ y, y < x → pairB a x y = true) (fun k => 2 ^ m - k) 0 rfl ⟨Nat.zero_le _, Ext.refl _, fun x hx => by omega⟩ ?_
    rintro k w9 Kn ⟨hk, h9, hdone⟩ hKn
    (intro _; (try simp only [gx]); (with_reducible refine iLe ?_))
    refine iCndP (fun h5 => ?_) (fun h5 => ?_)
    · have hk1 : k < 2 ^ m := by omega
      refine iLp (fun j : Nat => [.int .i64 (j : Int)]) (fun j w' => j ≤ k ∧ Ext w7 w' ∧ ∀ y, y < j → pairB a k y = true) (fun j => k - j) 0 rfl ⟨Nat.zero_le _, h9, fun x hx => by omega⟩ ?_
      rintro j w11 Kn2 ⟨hj, h11, hdone2⟩ hKn2
      have hs := hs.ext h11
      have hB := hB.ext h11
      (intro _; (try simp only [gx]); (with_reducible refine iLt ?_))
      refine iCndP (fun h6 => ?_) (fun h6 => ?_)
      · have hj1 : j < k := by omega
        have hand : k &&& j < 2 ^ m := and_le_lt hk1
        have g1 := hget k
        have g2 := hget j
        ((with_reducible refine iFa ?_); refine iLdB (by assumption) (by first | rfl | simp) ?_)
        refine iBAnd (by omega) (by omega) ?_
        ((with_reducible refine iIaNN (by assumption) ?_ (fun pa_ hpa_ => ?_)); omega; (with_reducible refine iLd (by assumption) ?_; refine iFa ?_); refine iLdB (by assumption) (by first | rfl | simp) ?_; (with_reducible refine iIaNN (by assumption) ?_ (fun pa_ hpa_ => ?_)); omega; (with_reducible refine iLd (by assumption) ?_; refine iFa ?_); refine iLdB (by assumption) (by first | rfl | simp) ?_; (with_reducible refine iIaNN (by assumption) ?_ (fun pa_ hpa_ => ?_)); omega; (with_reducible refine iLd (by assumption) ?_))
        refine iBAnd (by omega) (by omega) ?_
        ((with_reducible refine iNe ?_))
        intro w12 h12
        refine iCndP (fun h7 => ?_) (fun h7 => ?_)
        · exact ⟨hno k j hk1 hj1 (decide_eq_false (by omega)), hX.trans (h11.trans h12)⟩
        · (refine iAdd (by omega) ?_)
          refine hKn2 (j + 1) _ ⟨by omega, h11.trans h12, fun y hy => ?_⟩ (by omega)
          by_cases hyj : y < j
          · exact hdone2 y hyj
          · obtain rfl : y = j := by omega
            exact decide_eq_true (by omega)
      · (refine iAdd (by omega) ?_)
        refine hKn (k + 1) _ ⟨by omega, h11, fun x hx => ?_⟩ (by omega)
        by_cases hxk : x < k
        · exact hdone x hxk
        · obtain rfl : x = k := by omega
          obtain rfl : j = x := by omega
          exact hdone2
    · refine ⟨?_, hX.trans h9⟩
      have : ((List.range a.length).all fun x => (List.range x).all fun y => pairB a x y) = true := by
        rw [List.all_eq_true]
        intro x hx
        rw [List.all_eq_true]
        exact fun y hy => hdone x (by have := List.mem_range.1 hx; omega) y (List.mem_range.1 hy)
      unfold algIn
      rw [this, decide_eq_true hfull]; rfl
theorem ok_impl_ModalAlgebra_full {v : Value} (m : Nat) (hm : m ≤ 61) (w : World) : Ret Try.prog f_impl_ModalAlgebra_full #[.agg #[.int .i64 (m : Int), v]] w (.int .i64 ((2 ^ m - 1 : Nat) : Int)) := by
  apply c_impl_ModalAlgebra_full; unfold S_impl_ModalAlgebra_full
  refine iNew fun b w1 hb h hB => ?_
  ((with_reducible refine iFa ?_); refine iLdB (by assumption) (by first | rfl | simp) ?_)
  refine iShlOne (by omega) ?_
  have h2 : 2 ^ m ≤ 2 ^ 61 := Nat.pow_le_pow_right (by omega) hm
  have hp := Nat.two_pow_pos m
  (refine iSub (by omega) ?_)
  refine ⟨?_, h⟩
  rw [show ((2 ^ m : Nat) : Int) - 1 = ((2 ^ m - 1 : Nat) : Int) by omega]
theorem ok_impl_ModalAlgebra_isElement {v : Value} (m : Nat) (hm : m ≤ 61) (x : Int) (w : World) : Ret Try.prog f_impl_ModalAlgebra_isElement #[.agg #[.int .i64 (m : Int), v], .int .i64 x] w (.bool (maskB m x)) := by
  apply c_impl_ModalAlgebra_isElement; unfold S_impl_ModalAlgebra_isElement
  refine iNew fun b w1 hb h hB => ?_
  ((with_reducible refine iLdA (by assumption) ?_ ?_); rfl)
  refine iRet (ok_impl_ModalAlgebra_full m hm w1) fun w2 h2 => ?_
  refine iRet (ok_impl_inRange x 0 _ w2) fun w3 h3 => ?_
  exact ⟨rfl, h.trans (h2.trans h3)⟩
theorem ok_impl_isModalAlgebra {v : Value} {w : World} {l : List Int} (hs : SlI w v l) (n : Int) : Ret Try.prog f_impl_isModalAlgebra #[.agg #[.int .i64 n, v]] w (.bool (algOk n l)) := by
  apply c_impl_isModalAlgebra; unfold S_impl_isModalAlgebra
  have hX := Ext.refl w
  refine iNew fun b w1 hb h hB => ?_
  have hX := hX.trans h
  have hs := hs.ext h
  refine iJnB (!(decide (0 ≤ n ∧ n ≤ 5) && (decide ((l.length : Int) = ((2 ^ n.toNat : Nat) : Int)) && l.all (maskB n.toNat)))) w1 (fun J hJ => ?_) (fun w3 h => ?_)
  · ((with_reducible refine iFa ?_); refine iLdB (by assumption) (by first | rfl | simp) ?_)
    refine iRetQ (fun w' _ => ok_impl_inRange _ _ _ w') ?_
    ((with_reducible refine iNot ?_))
    cases hn : decide (0 ≤ n ∧ n ≤ 5)
    · refine iCndT rfl ?_
      intro w4 h4
      have := hJ w4 h4
      rwa [hn] at this
    · refine iCndF rfl ?_
      rw [hn] at hJ
      obtain ⟨m, rfl⟩ := Int.eq_ofNat_of_zero_le (of_decide_eq_true hn).1
      have hm5 := (of_decide_eq_true hn).2
      rw [Int.toNat_natCast] at hJ
      have h32 : 2 ^ m ≤ 32 := Nat.pow_le_pow_right (n := 2) (by omega) (show m ≤ 5 by omega)
      have hp := Nat.two_pow_pos m
      ((with_reducible refine iFa ?_); refine iLdB (by assumption) (by first | rfl | simp) ?_)
      refine iRetQ (fun w' h' => ok_impl_size_i64 (hs.ext h')) ?_
      rw [ints_length]
      ((with_reducible refine iLdA (by assumption) ?_ ?_); rfl)
      refine iRetQ (fun w' _ => ok_impl_ModalAlgebra_full m (by omega) w') ?_
      (refine iAdd (by omega) ?_; (with_reducible refine iNe ?_))
      refine iCndP (fun h4 => ?_) (fun h4 => ?_)
      · intro w5 h5
        have := hJ w5 h5
        rwa [decide_eq_false (show ¬ (l.length : Int) = ((2 ^ m : Nat) : Int) by omega)] at this
      · have h4 : (l.length : Int) = ((2 ^ m : Nat) : Int) := by omega
        rw [decide_eq_true h4] at hJ
        ((with_reducible refine iFa ?_); refine iLdB (by assumption) (by first | rfl | simp) ?_)
        refine iRetQ (fun w' h' => ok_slices_ContainsFunc_Si64_i64 (hs.ext h') (fun x => !maskB m x) ?_) ?_
        · intro w2 h2 x _
          refine iClo rfl ?_
          have hB' := hB.ext (h'.trans h2)
          refine c_impl_isModalAlgebra_1 ?_
          show S_impl_isModalAlgebra_1 (.int .i64 x) (.pointer (some ⟨b, 0, none⟩)) w2 _
          unfold S_impl_isModalAlgebra_1
          ((with_reducible refine iLdA (by assumption) ?_ ?_); rfl)
          refine iRet (ok_impl_ModalAlgebra_isElement m (by omega) x w2) fun w3 h3 => ?_
          ((with_reducible refine iNot ?_))
          exact ⟨by trivial, h3⟩
        · (skip)
          intro w6 h6
          rw [← List.not_all_eq_any_not]
          exact hJ w6 h6
  have hX := hX.trans h
  have hs := hs.ext h
  have hB := hB.ext h
  (intro _; (try simp only [gx]))
  have hcut : algOk n l = ((decide (0 ≤ n ∧ n ≤ 5) && (decide ((l.length : Int) = ((2 ^ n.toNat : Nat) : Int)) && l.all (maskB n.toNat))) && algIn (l.map Int.toNat)) := by
    unfold algOk; simp only [Bool.and_assoc]
  cases hg : (decide (0 ≤ n ∧ n ≤ 5) && (decide ((l.length : Int) = ((2 ^ n.toNat : Nat) : Int)) && l.all (maskB n.toNat)))
  · refine iCndT rfl ?_
    rw [hcut, hg]
    exact ⟨rfl, hX⟩
  · refine iCndF rfl ?_
    rw [hcut, hg, Bool.true_and]
    rw [Bool.and_eq_true, Bool.and_eq_true, decide_eq_true_eq, decide_eq_true_eq] at hg
    obtain ⟨hn, hlen, hall⟩ := hg
    obtain ⟨m, rfl⟩ := Int.eq_ofNat_of_zero_le hn.1
    rw [Int.toNat_natCast] at hlen hall
    obtain ⟨hl, hlt⟩ := masks_nats hall
    generalize l.map Int.toNat = a at *
    subst hl
    have hal : a.length = 2 ^ m := by rw [nats_length] at hlen; omega
    have hs : SlN _ v a := hs
    have hm5 : m ≤ 5 := by omega
    have h32 : 2 ^ m ≤ 32 := Nat.pow_le_pow_right (n := 2) (by omega) hm5
    have hp := Nat.two_pow_pos m
    have hget : ∀ i, a.getD i 0 < 32 := fun i => Nat.lt_of_lt_of_le (getD_lt_all hlt hp i) h32
    have hno : ∀ x y, x < 2 ^ m → y < x → pairB a x y = false → (.bool false : Value) = .bool (algIn a) := by
      intro x y hx hy hpq
      have : ((List.range a.length).all fun x => (List.range x).all fun y => pairB a x y) = false := by
        rw [List.all_eq_false]
        refine ⟨x, List.mem_range.2 (by omega), ?_⟩
        rw [Bool.not_eq_true, List.all_eq_false]
        exact ⟨y, List.mem_range.2 hy, by rw [hpq]; simp⟩
      unfold algIn
      rw [this, Bool.and_false]
    ((with_reducible refine iFa ?_); refine iLdB (by assumption) (by first | rfl | simp) ?_; (with_reducible refine iLenN (by assumption) ?_))
    refine iLp (fun k : Nat => [.int .i64 (k : Int)]) (fun k w' => k ≤ 2 ^ m ∧ Ext w3 w' ∧ ∀ x, x < k → ∀ y, y < x → pairB a x y = true) (fun k => 2 ^ m - k) 0 rfl ⟨Nat.zero_le _, Ext.refl _, fun x hx => by omega⟩ ?_
    rintro k w8 Kn ⟨hk, h9, hdone⟩ hKn
    (intro _; (try simp only [gx]); (with_reducible refine iLt ?_))
    refine iCndP (fun h5 => ?_) (fun h5 => ?_)
    · have hk1 : k < 2 ^ m := by omega
      refine iLp (fun j : Nat => [.int .i64 (j : Int)]) (fun j w' => j ≤ k ∧ Ext w3 w' ∧ ∀ y, y < j → pairB a k y = true) (fun j => k - j) 0 rfl ⟨Nat.zero_le _, h9, fun x hx => by omega⟩ ?_
      rintro j w11 Kn2 ⟨hj, h11, hdone2⟩ hKn2
      have hs := hs.ext h11
      have hB := hB.ext h11
      (intro _; (try simp only [gx]); (with_reducible refine iLt ?_))
      refine iCndP (fun h6 => ?_) (fun h6 => ?_)
      · have hj1 : j < k := by omega
        have hand : k &&& j < 2 ^ m := and_le_lt hk1
        have g1 := hget k
        have g2 := hget j
        ((with_reducible refine iFa ?_); refine iLdB (by assumption) (by first | rfl | simp) ?_)
        refine iBAnd (by omega) (by omega) ?_
        ((with_reducible refine iIaNN (by assumption) ?_ (fun pa_ hpa_ => ?_)); omega; (with_reducible refine iLd (by assumption) ?_; refine iFa ?_); refine iLdB (by assumption) (by first | rfl | simp) ?_; (with_reducible refine iIaNN (by assumption) ?_ (fun pa_ hpa_ => ?_)); omega; (with_reducible refine iLd (by assumption) ?_; refine iFa ?_); refine iLdB (by assumption) (by first | rfl | simp) ?_; (with_reducible refine iIaNN (by assumption) ?_ (fun pa_ hpa_ => ?_)); omega; (with_reducible refine iLd (by assumption) ?_))
        refine iBAnd (by omega) (by omega) ?_
        ((with_reducible refine iNe ?_))
        intro w12 h12
        refine iCndP (fun h7 => ?_) (fun h7 => ?_)
        · exact ⟨hno k j hk1 hj1 (decide_eq_false (by omega)), hX.trans (h11.trans h12)⟩
        · (refine iAdd (by omega) ?_)
          refine hKn2 (j + 1) _ ⟨by omega, h11.trans h12, fun y hy => ?_⟩ (by omega)
          by_cases hyj : y < j
          · exact hdone2 y hyj
          · obtain rfl : y = j := by omega
            exact decide_eq_true (by omega)
      · (refine iAdd (by omega) ?_)
        refine hKn (k + 1) _ ⟨by omega, h11, fun x hx => ?_⟩ (by omega)
        by_cases hxk : x < k
        · exact hdone x hxk
        · obtain rfl : x = k := by omega
          obtain rfl : j = x := by omega
          exact hdone2
    · have hs := hs.ext h9
      have hB := hB.ext h9
      have hpairs : ((List.range a.length).all fun x => (List.range x).all fun y => pairB a x y) = true := by
        rw [List.all_eq_true]
        intro x hx
        rw [List.all_eq_true]
        exact fun y hy => hdone x (by have := List.mem_range.1 hx; omega) y (List.mem_range.1 hy)
      ((with_reducible refine iFa ?_); refine iLdB (by assumption) (by first | rfl | simp) ?_; (with_reducible refine iLdA (by assumption) ?_ ?_); rfl)
      refine iRetQ (fun w' _ => ok_impl_ModalAlgebra_full m (by omega) w') ?_
      ((with_reducible refine iIaNN (by assumption) ?_ (fun pa_ hpa_ => ?_)); omega; (with_reducible refine iLd (by assumption) ?_); (with_reducible refine iLdA (by assumption) ?_ ?_); rfl)
      refine iRetQ (fun w' _ => ok_impl_ModalAlgebra_full m (by omega) w') ?_
      ((with_reducible refine iEq ?_))
      intro w12 h12
      refine ⟨?_, hX.trans (h9.trans h12)⟩
      unfold algIn
      rw [hpairs, Bool.and_true, hal]
      exact congrArg Value.bool (decide_eq_decide.2 (by omega))
theorem ok_spec_l05Make {v : Value} {w : World} {l : List Int} (hs : SlI w v l) (hl : l.length ≤ 1099511627776) : Cal Try.prog f_spec_l05Make #[v] w fun r w' => Ext w w' ∧ ∃ v', r = .agg #[.int .i64 (l.length : Int), v'] ∧ Ow w.heap.size t_i64 w' v' (ints l) := by
  apply c_spec_l05Make; unfold S_spec_l05Make
  have hX := Ext.refl w
  refine iNew fun b w1 hb h hB => ?_
  have hlb : w.heap.size ≤ b := by have := hX.size; omega
  have h0 := h
  have hX := hX.trans h
  have hs := hs.ext h
  ((with_reducible refine iLenI (by assumption) ?_))
  refine iCall ((ok_spec_l01Own hs hl).mono ?_)
  rintro v' w2 ⟨h, ho⟩
  have hob : v'.ownBlock ≠ some b := fun e => by have := (ho.blk b e).1; have := hB.lt; omega
  have hX := hX.trans h
  have hB := hB.ext h
  obtain ⟨va, vn, vc, rfl⟩ := ho.shape
  refine iBuild (cs := #[.int .i64 (l.length : Int), .slice va vn vc]) (by simp [Instr.fill, Value.cells]) ?_
  refine iStAB hB rfl rfl (ho.pair _) fun w3 hu hB => ?_
  have hX := hX.upd hu hlb
  have ho := ho.upd hu hob
  ((with_reducible refine iLdA (by assumption) ?_ ?_); rfl)
  exact ⟨hX, _, rfl, ho.mono (by have := h0.size; omega)⟩
theorem ok_impl_frameOf {lo : Nat} {v : Value} {w : World} {l : List Int} (hs : Ow lo t_i64 w v (ints l)) : Cal Try.prog f_impl_frameOf #[v] w fun r w' => Ext w w' ∧ ∃ v', r = .agg #[.int .i64 (l.length : Int), v'] ∧ Ow lo t_i64 w' v' (ints l) := by
  apply c_impl_frameOf; unfold S_impl_frameOf
  have hX := Ext.refl w
  refine iNew fun b w1 hb h hB => ?_
  have hlb : w.heap.size ≤ b := by have := hX.size; omega
  have hob : v.ownBlock ≠ some b := hs.lt (by omega)
  have hX := hX.trans h
  have hs := hs.ext h
  refine iRet (ok_impl_size_i64 hs.sl) fun w2 h => ?_
  rw [ints_length]
  have hX := hX.trans h
  have hB := hB.ext h
  have hs := hs.ext h
  obtain ⟨va, vn, vc, rfl⟩ := hs.shape
  refine iBuild (cs := #[.int .i64 (l.length : Int), .slice va vn vc]) (by simp [Instr.fill, Value.cells]) ?_
  refine iStAB hB rfl rfl (hs.pair _) fun w3 hu hB => ?_
  have hX := hX.upd hu hlb
  have ho := hs.upd hu hob
  ((with_reducible refine iLdA (by assumption) ?_ ?_); rfl)
  exact ⟨hX, _, rfl, ho⟩
/-- The relation of an algebra. -/
theorem ok_spec_l15FrameO {v : Value} {w : World} {a : List Nat} {m : Nat} (hs : SlN w v a) (hm5 : m ≤ 5) (hal : a.length = 2 ^ m) (hlt : ∀ x ∈ a, x < 2 ^ m) : Cal Try.prog f_spec_l15Frame #[.agg #[.int .i64 (m : Int), v]] w fun r w' => Ext w w' ∧ ∃ v', r = .agg #[.int .i64 (m : Int), v'] ∧ Ow w.heap.size t_i64 w' v' (ints (nats (algFr m a).a)) := by
  apply c_spec_l15Frame; unfold S_spec_l15Frame
  have hX := Ext.refl w
  have hs0 := hs
  have h32 : 2 ^ m ≤ 32 := Nat.pow_le_pow_right (n := 2) (by omega) hm5
  have hp := Nat.two_pow_pos m
  have hget : ∀ i, a.getD i 0 < 32 := fun i => Nat.lt_of_lt_of_le (getD_lt_all hlt hp i) h32
  refine iNew fun b1 w1 hb1 h hB1 => ?_
  have hlb1 : w.heap.size ≤ b1 := by have := hX.size; omega
  have hX := hX.trans h
  have hs := hs.ext h
  refine iNew fun b2 w2 hb2 h hB2 => ?_
  have hlb2 : w.heap.size ≤ b2 := by have := hX.size; omega
  have hX := hX.trans h
  have hs := hs.ext h
  have hB1 := hB1.ext h
  refine iBs0 fun v3 w3 _ h ho3 => ?_
  have hlo := hX.size
  have hb2' := hB2.lt
  have hX := hX.trans h
  have hs := hs.ext h
  have hB1 := hB1.ext h
  have hB2 := hB2.ext h
  refine ⟨fun j xs w' => ∃ (k : Nat) (u : Value), xs = [u, .int .i64 (k : Int)] ∧ j = m - k ∧ k ≤ m ∧ Ext w w' ∧ Blk _ w' b1 _ ∧ Blk _ w' b2 _ ∧ Ow w2.heap.size t_i64 w' u (ints (nats ((List.range k).map fun x => algMask a m x m))), ⟨m, 0, _, rfl, rfl, Nat.zero_le _, hX, hB1, hB2, ho3⟩, ?_⟩
  rintro j xs w5 ⟨k, u, rfl, rfl, hk, hX, hB1, hB2, ho⟩
  have hs := hs0.ext hX
  have hil : (ints (nats ((List.range k).map fun x => algMask a m x m))).length = k := by rw [ints_length, nats_length]; simp
  (intro _; (try simp only [gx]); (with_reducible refine iFa ?_); refine iLdB (by assumption) (by first | rfl | simp) ?_; (with_reducible refine iLt ?_))
  refine iCndP (fun h4 => ?_) (fun h4 => ?_)
  · have hk1 : k < m := by omega
    refine iLp (fun j : Nat => [.int .i64 ((algMask a m k j : Nat) : Int), .int .i64 (j : Int)]) (fun j w' => j ≤ m ∧ Ext w5 w') (fun j => m - j) 0 (by simp [algMask, setOf]) ⟨Nat.zero_le _, Ext.refl _⟩ ?_
    rintro j w7 Kn2 ⟨hj, h7⟩ hKn2
    have hs7 := hs.ext h7
    have hB17 := hB1.ext h7
    have hB27 := hB2.ext h7
    have ho7 := ho.ext h7
    have hmask : algMask a m k j < 2 ^ 5 := Nat.lt_of_lt_of_le (algMask_lt a m k j) (Nat.pow_le_pow_right (by omega) (by omega))
    (intro _; (try simp only [gx]); (with_reducible refine iFa ?_); refine iLdB (by assumption) (by first | rfl | simp) ?_; (with_reducible refine iLt ?_))
    refine iCndP (fun h5 => ?_) (fun h5 => ?_)
    · have hj1 : j < m := by omega
      have hpj := two_pow_add_le hj1
      have hpj2 := Nat.two_pow_pos j
      ((with_reducible refine iFa ?_); refine iLdB (by assumption) (by first | rfl | simp) ?_; (with_reducible refine iFa ?_); refine iLdB (by assumption) (by first | rfl | simp) ?_)
      refine iRetQ (fun w' _ => ok_spec_l01Full m (by omega) w') ?_
      refine iRetQ (fun w' _ => ok_spec_l01One j (by omega) w') ?_
      (refine iSub (by omega) ?_)
      have hix : ((2 ^ m - 1 : Nat) : Int) - ((2 ^ j : Nat) : Int) = ((2 ^ m - 1 - 2 ^ j : Nat) : Int) := by omega
      rw [hix]
      ((with_reducible refine iIaNN (by assumption) ?_ (fun pa_ hpa_ => ?_)); omega; (with_reducible refine iLd (by assumption) ?_))
      have hg := hget (2 ^ m - 1 - 2 ^ j)
      refine iRetQ (fun w' _ => ok_spec_l01Bit (a.getD (2 ^ m - 1 - 2 ^ j) 0) k (by omega) (by omega) w') ?_
      ((with_reducible refine iNot ?_))
      intro w8 h8
      have hsu := algMask_succ a m k j
      cases hbit : (a.getD (2 ^ m - 1 - 2 ^ j) 0).testBit k
      · rw [hbit, if_neg (by simp)] at hsu
        refine iCndT rfl ?_
        refine iRet (ok_spec_l01One j (by omega) w8) fun w9 h9 => ?_
        have h2j : 2 ^ j < 2 ^ 5 := Nat.pow_lt_pow_right (by omega) (by omega)
        refine iBOr (by omega) (by omega) ?_
        (refine iAdd (by omega) ?_)
        rw [← hsu]
        exact hKn2 (j + 1) _ ⟨by omega, h7.trans (h8.trans h9)⟩ (by omega)
      · rw [hbit, if_pos rfl] at hsu
        refine iCndF rfl ?_
        (refine iAdd (by omega) ?_)
        rw [← hsu]
        exact hKn2 (j + 1) _ ⟨by omega, h7.trans h8⟩ (by omega)
    · obtain rfl : j = m := by omega
      have hsz := hX.size
      have hsz2 := h7.size
      refine iApp1 u_Si64 i_Si64 rfl ho7 rfl (by omega) (by omega) (by have := (hB27).lt; omega) fun u' w11 ho' hg => ?_
      have hub1 := ho7.lt (b := b1)
      (refine iAdd (by omega) ?_)
      have hne1 : u.ownBlock ≠ some b1 := fun e => by have := (ho7.blk b1 e).1; have := hB1.lt; omega
      have hne2 : u.ownBlock ≠ some b2 := fun e => by have := (ho7.blk b2 e).1; omega
      refine ⟨j - (k + 1), by omega, k + 1, u', rfl, rfl, by omega, (hX.trans h7).grown hg (fun c hc => by have := (ho7.blk c hc).1; omega), hB17.grown hg hne1, hB27.grown hg hne2, ?_⟩
      rw [ints_snoc] at ho'
      rw [List.range_succ, List.map_append]; exact ho'
  · obtain rfl : k = m := by omega
    refine iCall ((ok_spec_l05Make ho.sl (by rw [nats_length]; simp; omega)).mono ?_)
    rintro _ w12 ⟨h12, v', rfl, ho12⟩
    have hB212 := hB2.ext h12
    have hne : v'.ownBlock ≠ some b2 := fun e => by have := (ho12.blk b2 e).1; have := hB2.lt; omega
    refine iStAB hB212 rfl rfl (ho12.pair _) fun w13 hu hB13 => ?_
    have ho13 := ho12.upd hu hne
    have hlm : (nats ((List.range k).map fun x => algMask a k x k)).length = k := by rw [nats_length]; simp
    ((with_reducible refine iLdA (by assumption) ?_ ?_); rfl)
    refine ⟨(hX.trans h12).upd hu hlb2, v', ?_, ho13.mono hX.size⟩
    rw [hlm]
end Go.Proofs.Ytfhdhdgabdpmkaa

/- Contracts: the properties that make a frame a poset, in the program. Conditions: none. -/
namespace Go.Vc
end Go.Vc
namespace Go.Proofs.Ytfhdhdgabdpmkaa
open Go.Vc
theorem getD_of_lt {l : List Nat} {j : Nat} (h : j < l.length) : l.getD j 0 = l[j] := by simp [List.getD_eq_getElem?_getD, h]
theorem ok_slices_Equal_Si64_i64 {v v' : Value} {w : World} {l l' : List Int} (hs : SlI w v l) (hs' : SlI w v' l') : Ret Try.prog f_slices_Equal_Si64_i64 #[v, v'] w (.bool (decide (l = l'))) := by
  have hl := hs.len
  have hl' := hs'.len
  apply c_slices_Equal_Si64_i64; unfold S_slices_Equal_Si64_i64
  ((with_reducible refine iLenI (by assumption) ?_; refine iLenI (by assumption) ?_; refine iNe ?_))
  refine iCndP (fun h => ?_) (fun h => ?_)
  · refine ⟨?_, Ext.refl _⟩
    rw [decide_eq_false]
    rintro rfl
    exact h rfl
  · ((with_reducible refine iLenI (by assumption) ?_))
    have hll : l.length = l'.length := by omega
    refine iLp (fun k : Nat => [.int .i64 (k : Int)]) (fun k w' => k ≤ l.length ∧ Ext w w' ∧ l.take k = l'.take k) (fun k => l.length - k) 0 rfl ⟨Nat.zero_le _, Ext.refl _, by simp⟩ ?_
    rintro k w2 Kn ⟨hk, h2, hk2⟩ hKn
    have hs2 := hs.ext h2
    have hs2' := hs'.ext h2
    (intro _; (try simp only [gx]); (with_reducible refine iLt ?_))
    refine iCndP (fun h3 => ?_) (fun h3 => ?_)
    · have hk1 : k < l.length := by omega
      ((with_reducible refine iIaN (by assumption) ?_ (fun pa_ hpa_ => ?_)); omega; (with_reducible refine iLd (by assumption) ?_); (with_reducible refine iIaN (by assumption) ?_ (fun pa_ hpa_ => ?_)); omega; (with_reducible refine iLd (by assumption) ?_; refine iNe ?_))
      intro w3 h4
      refine iCndP (fun h5 => ?_) (fun h5 => ?_)
      · refine ⟨?_, h2.trans h4⟩
        rw [decide_eq_false]
        rintro rfl
        exact h5 rfl
      · (refine iAdd (by omega) ?_)
        refine hKn (k + 1) _ ⟨by omega, h2.trans h4, ?_⟩ (by omega)
        rw [List.take_succ_eq_append_getElem hk1, List.take_succ_eq_append_getElem (show k < l'.length by omega), hk2]
        have e1 : l.getD k 0 = l[k] := by simp [List.getD_eq_getElem?_getD, hk1]
        have e2 : l'.getD k 0 = l'[k]'(by omega) := by simp [List.getD_eq_getElem?_getD, show k < l'.length by omega]
        have h5 : l.getD k 0 = l'.getD k 0 := Decidable.not_not.1 h5
        rw [e1, e2] at h5
        rw [h5]
    · refine ⟨?_, h2⟩
      obtain rfl : k = l.length := by omega
      rw [List.take_length, hll, List.take_length] at hk2
      rw [decide_eq_true hk2]
end Go.Proofs.Ytfhdhdgabdpmkaa

/- Contracts: posets. Conditions: none. -/
namespace Go.Vc
end Go.Vc
namespace Go.Proofs.Ytfhdhdgabdpmkaa
open Go.Vc
end Go.Proofs.Ytfhdhdgabdpmkaa

/- Plain facts on the reference's search for p-morphisms, which goes by depth and leaves elements open. No program in sight. Conditions: none. -/
namespace Go.Vc
section
variable {f g : Fr} {fix : List Int} {onto : Bool} {ord : List Nat}
end
end Go.Vc

/- Plain facts on posets: depths, and the order by depth. No program in sight. Conditions: none. -/
namespace Go.Vc
end Go.Vc

/- Plain facts: both searches for p-morphisms find the same maps; the order on lists. No program in sight. Conditions: none. -/
namespace Go.Vc
/-- The order on lists. -/
def lessB : List Int → List Int → Bool
  | [], [] => false
  | [], _ :: _ => true
  | _ :: _, [] => false
  | x :: a, y :: b => if x = y then lessB a b else decide (x < y)
theorem lessB_irr : ∀ a, lessB a a = false
  | [] => rfl
  | x :: a => by simp [lessB, lessB_irr a]
theorem lessB_anti : ∀ a b, lessB a b = false → lessB b a = false → a = b
  | [], [], _, _ => rfl
  | [], _ :: _, h, _ => by simp [lessB] at h
  | _ :: _, [], _, h => by simp [lessB] at h
  | x :: a, y :: b, h1, h2 => by
    simp only [lessB] at h1 h2
    by_cases h : x = y
    · subst h
      rw [if_pos rfl] at h1 h2
      rw [lessB_anti a b h1 h2]
    · rw [if_neg h, decide_eq_false_iff_not] at h1
      rw [if_neg (fun e => h e.symm), decide_eq_false_iff_not] at h2
      omega
theorem lessB_asymm : ∀ a b, lessB a b = true → lessB b a = false
  | [], [], _ => rfl
  | [], _ :: _, _ => rfl
  | _ :: _, [], h => by simp [lessB] at h
  | x :: a, y :: b, h1 => by
    simp only [lessB] at h1 ⊢
    by_cases h : x = y
    · subst h
      rw [if_pos rfl] at h1 ⊢
      exact lessB_asymm a b h1
    · rw [if_neg h, decide_eq_true_eq] at h1
      rw [if_neg (fun e => h e.symm), decide_eq_false_iff_not]
      omega
/-- 'Not less' goes on. -/
theorem lessB_trans : ∀ a b c, lessB b a = false → lessB c b = false → lessB c a = false
  | [], [], [], _, _ => rfl
  | [], [], _ :: _, _, _ => rfl
  | [], _ :: _, [], _, h => by simp [lessB] at h
  | [], _ :: _, _ :: _, _, _ => rfl
  | _ :: _, [], _, h, _ => by simp [lessB] at h
  | _ :: _, _ :: _, [], _, h => by simp [lessB] at h
  | x :: a, y :: b, z :: c, h1, h2 => by
    simp only [lessB] at h1 h2 ⊢
    by_cases h : y = x
    · subst h
      rw [if_pos rfl] at h1
      by_cases h' : z = y
      · subst h'
        rw [if_pos rfl] at h2 ⊢
        exact lessB_trans a b c h1 h2
      · rw [if_neg h'] at h2 ⊢; exact h2
    · rw [if_neg h, decide_eq_false_iff_not] at h1
      by_cases h' : z = y
      · subst h'
        rw [if_neg h, decide_eq_false_iff_not]; exact h1
      · rw [if_neg h', decide_eq_false_iff_not] at h2
        rw [if_neg (by omega), decide_eq_false_iff_not]; omega
theorem lessB_append : ∀ (p a b : List Int), lessB (p ++ a) (p ++ b) = lessB a b
  | [], _, _ => rfl
  | x :: p, a, b => by simp [lessB, lessB_append p a b]
theorem nats_append (a b : List Nat) : nats (a ++ b) = nats a ++ nats b := by simp [nats]
theorem exts_sorted (m : Nat) : ∀ (d : Nat) (im : List Nat), (exts m d im).Pairwise fun a b => lessB (nats a) (nats b) = true
  | 0, im => by simp [exts]
  | d + 1, im => by
    simp only [exts]
    rw [List.pairwise_flatMap]
    refine ⟨fun y _ => exts_sorted m d _, ?_⟩
    refine List.Pairwise.imp ?_ (List.pairwise_lt_range (n := m))
    intro y y' hlt a ha b hb
    have h1 := (exts_spec m d _ a ha).2.1
    have h2 := (exts_spec m d _ b hb).2.1
    have e1 := List.take_append_drop (im ++ [y]).length a
    have e2 := List.take_append_drop (im ++ [y']).length b
    rw [h1] at e1
    rw [h2] at e2
    rw [← e1, ← e2, List.append_assoc, List.append_assoc, nats_append, nats_append im, lessB_append]
    simp only [List.singleton_append, nats, List.map_cons, lessB]
    rw [if_neg (by show ¬ ((y : Nat) : Int) = ((y' : Nat) : Int); omega), decide_eq_true_eq]
    show ((y : Nat) : Int) < ((y' : Nat) : Int)
    omega
theorem dfs_sorted (ok : List Nat → Bool) (m d : Nat) (im : List Nat) : (dfs ok m d im).Pairwise fun a b => lessB (nats a) (nats b) = true := by
  rw [dfs_eq]; exact (exts_sorted m d im).filter _
theorem leaves_sorted (ok : List Nat → Bool) (m d : Nat) (im : List Nat) : (leaves ok m d im).Pairwise fun a b => lessB (nats a) (nats b) = true := by
  unfold leaves
  split
  · exact dfs_sorted ok m d im
  · exact List.Pairwise.nil
theorem nodup_of_sorted {L : List (List Nat)} (h : L.Pairwise fun a b => lessB (nats a) (nats b) = true) : L.Nodup :=
  h.imp fun {a b} hab e => by subst e; rw [lessB_irr] at hab; cases hab
section
variable {f g : Fr} {fix : List Int} {onto : Bool}
end
end Go.Vc

/- Contracts on lists of lists of int64; all maps between two frames. Conditions: none. -/
namespace Go.Vc
section
variable {w : World}
theorem iIaV {v : Value} {xs : List Value} {j : Nat} {k : IntKind} {K : Value → Prop} (hs : Sl w v xs) (h1 : j < xs.length) (h : ∀ p, w.cell? p = some xs[j] → K (.pointer (some p))) : xIa 1 v (.int k (j : Int)) K :=
  iIa hs (by omega) (by omega) fun p hp => h p (by rw [hp, Int.toNat_natCast, List.getElem?_eq_getElem h1])
end
theorem OwL.at {lo : Nat} {e : TypeId} {w : World} {vs : List Value} {ls : List (List Value)} (h : OwL lo e w vs ls) {i : Nat} (hi : i < vs.length) (hi' : i < ls.length) : Ow lo e w vs[i] ls[i] :=
  h.2.1 i _ _ (List.getElem?_eq_getElem hi) (List.getElem?_eq_getElem hi')
theorem OwL.ne {lo : Nat} {e : TypeId} {w : World} {vs : List Value} {ls : List (List Value)} (h : OwL lo e w vs ls) {i j : Nat} (hi : i < vs.length) (hj : j < vs.length) (hij : i ≠ j) {c : Nat} (hc : vs[i].ownBlock = some c) : vs[j].ownBlock ≠ some c := by
  have hp := List.pairwise_iff_getElem.1 h.2.2
  rcases Nat.lt_or_gt_of_ne hij with h1 | h1
  · exact hp i j hi hj h1 c hc
  · exact fun e => hp j i hj hi h1 c e hc
/-- One of the rows has turned. -/
theorem OwL.set {lo : Nat} {e : TypeId} {w w' : World} {vs : List Value} {ls : List (List Value)} (h : OwL lo e w vs ls) {i : Nat} (hi : i < vs.length) {l : List Value} (hch : Ch (fun c => vs[i].ownBlock = some c) w w') (ho : Ow lo e w' vs[i] l) : OwL lo e w' vs (ls.set i l) := by
  refine ⟨by simp [h.1], fun j v x hv hx => ?_, h.2.2⟩
  have hj := (List.getElem?_eq_some_iff.1 hv).1
  by_cases hij : i = j
  · subst hij
    rw [List.getElem?_set_self (by rw [← h.1]; exact hi)] at hx
    rw [List.getElem?_eq_getElem hi] at hv
    cases hv; cases hx
    exact ho
  · rw [List.getElem?_set_ne hij] at hx
    refine (h.2.1 j v x hv hx).ch hch fun c hc he => ?_
    rw [List.getElem?_eq_getElem hj] at hv
    cases hv
    exact h.ne hi hj hij he hc
def tot : List (List Int) → Nat
  | [] => 0
  | l :: r => l.length + tot r
theorem tot_append (a b : List (List Int)) : tot (a ++ b) = tot a + tot b := by
  induction a with
  | nil => simp [tot]
  | cons l a ih => simp only [List.cons_append, tot, ih]; omega
theorem tot_take_succ (x : List (List Int)) (k : Nat) (h : k < x.length) : tot (x.take (k + 1)) = tot (x.take k) + x[k].length := by
  rw [List.take_succ_eq_append_getElem h, tot_append]; simp [tot]
theorem tot_take_le (x : List (List Int)) (k : Nat) : tot (x.take k) ≤ tot x := by
  conv => rhs; rw [← List.take_append_drop k x]
  rw [tot_append]; omega
theorem tot_le {x : List (List Int)} {a b : Nat} (h1 : x.length ≤ a) (h2 : ∀ l ∈ x, l.length ≤ b) : tot x ≤ a * b := by
  have : ∀ x : List (List Int), (∀ l ∈ x, l.length ≤ b) → tot x ≤ x.length * b := by
    intro x
    induction x with
    | nil => simp [tot]
    | cons l x ih =>
      intro h
      have := ih fun y hy => h y (by simp [hy])
      have := h l (by simp)
      rw [tot, List.length_cons, Nat.succ_mul]; omega
  exact Nat.le_trans (this x h2) (Nat.mul_le_mul_right _ h1)
end Go.Vc
namespace Go.Proofs.Ytfhdhdgabdpmkaa
open Go.Vc
def marksL : Nat → List (List Int) → List (List Int)
  | _, [] => []
  | k, l :: r => marks k l.length :: marksL (k + l.length) r
theorem marksL_append (a b : List (List Int)) : ∀ k, marksL k (a ++ b) = marksL k a ++ marksL (k + tot a) b := by
  induction a with
  | nil => intro k; simp [marksL, tot]
  | cons l a ih =>
    intro k
    simp only [List.cons_append, marksL, ih, tot, List.cons.injEq, true_and]
    congr 2; omega
theorem marksL_length (x : List (List Int)) : ∀ k, (marksL k x).length = x.length := by
  induction x with
  | nil => intro k; rfl
  | cons l x ih => intro k; simp [marksL, ih]
/-- A slice of slices of int64 of the call's own. -/
def RdLL (lo : Nat) (w : World) (v : Value) (x : List (List Int)) : Prop := ∃ vs, Ow lo t_Si64 w v vs ∧ OwL lo t_i64 w vs (x.map ints)
theorem RdLL.ext {lo : Nat} {w w' : World} {v : Value} {x : List (List Int)} (h : RdLL lo w v x) (he : Ext w w') : RdLL lo w' v x := let ⟨vs, h1, h2⟩ := h; ⟨vs, h1.ext he, h2.ext he⟩
theorem RdLL.mono {lo lo' : Nat} {w : World} {v : Value} {x : List (List Int)} (h : RdLL lo w v x) (hl : lo' ≤ lo) : RdLL lo' w v x := let ⟨vs, h1, h2⟩ := h; ⟨vs, h1.mono hl, h2.mono hl⟩
theorem ok_laws_eqInt64SS {lo lo' : Nat} {v v' : Value} {w : World} {x : List (List Int)} (h : RdLL lo w v x) (h' : RdLL lo' w v' x) : Ret Try.prog f_laws_eqInt64SS #[v, v'] w (.bool true) := by
  obtain ⟨vs, h1, h2⟩ := h
  obtain ⟨vs', h1', h2'⟩ := h'
  have hl1 : vs.length = x.length := by have := h2.1; rwa [List.length_map] at this
  have hl2 : vs'.length = x.length := by have := h2'.1; rwa [List.length_map] at this
  have hs := h1.sl
  have hs' := h1'.sl
  have hcap := hs.len
  apply c_laws_eqInt64SS; unfold S_laws_eqInt64SS
  ((with_reducible refine iLenS (by assumption) ?_; refine iLenS (by assumption) ?_; refine iNe ?_))
  refine iCndP (fun h => absurd h (by omega)) (fun _ => ?_)
  refine iLp (fun k : Nat => [.int .i64 (k : Int)]) (fun k w' => k ≤ x.length ∧ Ext w w') (fun k => x.length - k) 0 rfl ⟨Nat.zero_le _, Ext.refl _⟩ ?_
  rintro k w2 Kn ⟨hk, h3⟩ hKn
  have hs := hs.ext h3
  have hs' := hs'.ext h3
  (intro _; (try simp only [gx]); (with_reducible refine iLenS (by assumption) ?_; refine iLt ?_))
  refine iCndP (fun h4 => ?_) (fun h4 => ⟨by trivial, h3⟩)
  have hkx : k < x.length := by omega
  have hk1 : k < vs.length := by omega
  have hk2 : k < vs'.length := by omega
  refine iIaV hs hk1 fun p hp => ?_
  refine iLd hp ?_
  refine iIaV hs' hk2 fun p' hp' => ?_
  refine iLd hp' ?_
  have o1 := (h2.at hk1 (by simpa using hkx)).ext h3
  have o2 := (h2'.at hk2 (by simpa using hkx)).ext h3
  rw [List.getElem_map] at o1 o2
  refine iRetQ (fun w' h' => ok_laws_eqInt64S (o1.ext h').sl (o2.ext h').sl) ?_
  ((with_reducible refine iNot ?_))
  intro w3 h5
  refine iCndF (by simp) ?_
  (refine iAdd (by omega) ?_)
  exact hKn (k + 1) _ ⟨by omega, h3.trans h5⟩ (by omega)
theorem ok_laws_markInt64SS {lo : Nat} {v : Value} {w : World} {x : List (List Int)} (h : RdLL lo w v x) (hx : tot x ≤ 1000000000) :
    Cal Try.prog f_laws_markInt64SS #[v, .int .i64 1] w fun r w' => r = .int .i64 ((1 + tot x : Nat) : Int) ∧ RdLL lo w' v (marksL 1 x) ∧ Ch (fun c => lo ≤ c) w w' := by
  obtain ⟨vs, h1, h2⟩ := h
  have hl1 : vs.length = x.length := by have := h2.1; rwa [List.length_map] at this
  have hcap := h1.sl.len
  apply c_laws_markInt64SS; unfold S_laws_markInt64SS
  refine iLp (fun k : Nat => [.int .i64 ((1 + tot (x.take k) : Nat) : Int), .int .i64 (k : Int)]) (fun k w' => k ≤ x.length ∧ Ch (fun c => lo ≤ c) w w' ∧ Ow lo t_Si64 w' v vs ∧ OwL lo t_i64 w' vs ((marksL 1 (x.take k) ++ x.drop k).map ints)) (fun k => x.length - k) 0 (by simp [tot]) ⟨Nat.zero_le _, (Ext.refl w).ch, h1, by simpa [marksL] using h2⟩ ?_
  rintro k w2 Kn ⟨hk, hch, h1, h2⟩ hKn
  have hs := h1.sl
  (intro _; (try simp only [gx]); (with_reducible refine iLenS (by assumption) ?_; refine iLt ?_))
  refine iCndP (fun h4 => ?_) (fun h4 => ?_)
  · have hkx : k < x.length := by omega
    have hk1 : k < vs.length := by omega
    refine iIaV hs hk1 fun p hp => ?_
    refine iLd hp ?_
    have o1 := h2.at hk1 (by simp [marksL_length]; omega)
    have e1 : ((marksL 1 (x.take k) ++ x.drop k).map ints)[k]'(by simp [marksL_length]; omega) = ints x[k] := by
      have hml : (marksL 1 (x.take k)).length = k := by rw [marksL_length, List.length_take]; omega
      rw [List.getElem_map, List.getElem_append_right (by omega)]
      simp [hml]
    rw [e1] at o1
    have ht := tot_take_succ x k hkx
    have htl := tot_take_le x (k + 1)
    refine iCall ((ok_laws_markInt64S o1 (1 + tot (x.take k)) (by omega)).mono ?_)
    rintro _ w3 ⟨rfl, g1, g2⟩
    have hc3 : Ch (fun c => vs[k].ownBlock = some c) w2 w3 := grown_ch g2 fun c hc => hc
    (refine iAdd (by omega) ?_)
    have e2 : ((1 + tot (x.take k) + x[k].length : Nat) : Int) = ((1 + tot (x.take (k + 1)) : Nat) : Int) := by rw [ht]; omega
    rw [e2]
    refine hKn (k + 1) _ ⟨by omega, hch.trans hc3 (fun c hc => .inl (o1.blk c hc).1), h1.ch hc3 (fun c hc he => o1.ne_ow h1 (by decide) he hc), ?_⟩ (by omega)
    have := h2.set hk1 hc3 g1
    have e3 : ((marksL 1 (x.take k) ++ x.drop k).map ints).set k (ints (marks (1 + tot (x.take k)) x[k].length)) = (marksL 1 (x.take (k + 1)) ++ x.drop (k + 1)).map ints := by
      have hml : (marksL 1 (x.take k)).length = k := by rw [marksL_length, List.length_take]; omega
      rw [List.map_append, List.set_append_right _ _ (by rw [List.length_map]; omega), List.length_map, hml, Nat.sub_self, List.drop_eq_getElem_cons hkx, List.map_cons, List.set_cons_zero, List.take_succ_eq_append_getElem hkx, marksL_append]
      simp [marksL]
    rwa [e3] at this
  · obtain rfl : k = x.length := by omega
    rw [List.take_length, List.drop_length, List.append_nil] at h2
    rw [List.take_length]
    exact ⟨rfl, ⟨vs, h1, h2⟩, hch⟩
theorem ok_laws_heldInt64SS {lo : Nat} {v : Value} {w : World} {x : List (List Int)} (h : RdLL lo w v (marksL 1 x)) (hx : tot x ≤ 1000000000) : Ret Try.prog f_laws_heldInt64SS #[v, .int .i64 1] w (.int .i64 ((1 + tot x : Nat) : Int)) := by
  obtain ⟨vs, h1, h2⟩ := h
  have hl1 : vs.length = x.length := by have := h2.1; rwa [List.length_map, marksL_length] at this
  have hcap := h1.sl.len
  apply c_laws_heldInt64SS; unfold S_laws_heldInt64SS
  refine iLp (fun k : Nat => [.int .i64 ((1 + tot (x.take k) : Nat) : Int), .int .i64 (k : Int)]) (fun k w' => k ≤ x.length ∧ Ext w w') (fun k => x.length - k) 0 (by simp [tot]) ⟨Nat.zero_le _, Ext.refl w⟩ ?_
  rintro k w2 Kn ⟨hk, h3⟩ hKn
  have hs := (h1.ext h3).sl
  (intro _; (try simp only [gx]); (with_reducible refine iLenS (by assumption) ?_; refine iLt ?_))
  refine iCndP (fun h4 => ?_) (fun h4 => ?_)
  · have hkx : k < x.length := by omega
    have hk1 : k < vs.length := by omega
    refine iIaV hs hk1 fun p hp => ?_
    refine iLd hp ?_
    have o1 := (h2.at hk1 (by simp [marksL_length]; omega)).ext h3
    have e1 : ((marksL 1 x).map ints)[k]'(by simp [marksL_length]; omega) = ints (marks (1 + tot (x.take k)) x[k].length) := by
      have e0 : marksL 1 x = marksL 1 (x.take k) ++ marks (1 + tot (x.take k)) x[k].length :: marksL (1 + tot (x.take k) + x[k].length) (x.drop (k + 1)) := by
        conv => lhs; rw [← List.take_append_drop k x, marksL_append, List.drop_eq_getElem_cons hkx, marksL]
      have hml : (marksL 1 (x.take k)).length = k := by rw [marksL_length, List.length_take]; omega
      simp only [e0]
      rw [List.getElem_map, List.getElem_append_right (by omega)]
      simp [hml]
    rw [e1] at o1
    have ht := tot_take_succ x k hkx
    have htl := tot_take_le x (k + 1)
    have hh := ok_laws_heldInt64S (l := marks (1 + tot (x.take k)) x[k].length) o1.sl (1 + tot (x.take k)) (by rw [marks_length]; omega)
    unfold heldN at hh
    rw [marks_length, if_pos rfl] at hh
    refine iRet hh fun w3 h5 => ?_
    ((with_reducible refine iLt ?_))
    refine iCndP (fun h => absurd h (by omega)) (fun _ => ?_)
    (refine iAdd (by omega) ?_)
    have e2 : ((1 + tot (x.take k) + x[k].length : Nat) : Int) = ((1 + tot (x.take (k + 1)) : Nat) : Int) := by rw [ht]; omega
    rw [e2]
    exact hKn (k + 1) _ ⟨by omega, h3.trans h5⟩ (by omega)
  · obtain rfl : k = x.length := by omega
    rw [List.take_length]
    exact ⟨rfl, h3⟩
/-- Results that are lists of lists of int64. -/
def resLists {sp im : FuncId} {out : Int → List Int → Int → List Int → List (List Int) × Int}
    (hsp : ∀ {w : World} {v0 v1 : Value} {l0 l1 : List Int}, SlI w v0 l0 → SlI w v1 l1 → ∀ n0 n1 : Int, Cal Try.prog sp #[.agg #[.int .i64 n0, v0], .agg #[.int .i64 n1, v1]] w fun r w' => Ext w w' ∧ ∃ v, r = .tuple #[v, .int .i64 (out n0 l0 n1 l1).2] ∧ RdLL w.heap.size w' v (out n0 l0 n1 l1).1)
    (him : ∀ {w : World} {v0 v1 : Value} {l0 l1 : List Int}, SlI w v0 l0 → SlI w v1 l1 → ∀ n0 n1 : Int, Cal Try.prog im #[.agg #[.int .i64 n0, v0], .agg #[.int .i64 n1, v1]] w fun r w' => Ext w w' ∧ ∃ v, r = .tuple #[v, .int .i64 (out n0 l0 n1 l1).2] ∧ RdLL w.heap.size w' v (out n0 l0 n1 l1).1)
    (hsm : ∀ n0 l0 n1 l1, tot (out n0 l0 n1 l1).1 ≤ 1000000000) : ResFns sp im f_laws_eqInt64SS f_laws_markInt64SS f_laws_heldInt64SS (List (List Int)) out where
  Rd := RdLL
  ext h he := h.ext he
  ch h hc hs := by
    obtain ⟨vs, h1, h2⟩ := h
    refine ⟨vs, h1.ch hc fun c hb hS => ?_, h2.ch hc fun v hv c hb hS => ?_⟩
    · have := (h1.blk c hb).1; have := hs c hS; omega
    · have := (h2.lt hv hb).1; have := hs c hS; omega
  spec := hsp
  impl := him
  eq h h' := ok_laws_eqInt64SS h h'
  cnt := tot
  mkd := marksL 1
  small := hsm
  mark h hx := ok_laws_markInt64SS h hx
  held h hx := ok_laws_heldInt64SS h hx
end Go.Proofs.Ytfhdhdgabdpmkaa

/- Contracts: all maps between two frames. Conditions: none. -/
namespace Go.Proofs.Ytfhdhdgabdpmkaa
open Go.Vc
end Go.Proofs.Ytfhdhdgabdpmkaa

/- Contracts: two posets. Conditions: none. -/
namespace Go.Vc
end Go.Vc
namespace Go.Proofs.Ytfhdhdgabdpmkaa
open Go.Vc
end Go.Proofs.Ytfhdhdgabdpmkaa

/- Contracts: the reference's search for p-morphisms. Conditions: none. -/
namespace Go.Proofs.Ytfhdhdgabdpmkaa
open Go.Vc
end Go.Proofs.Ytfhdhdgabdpmkaa

/- Contracts: the reference's search for p-morphisms, the recursion. Conditions: none. -/
namespace Go.Vc
end Go.Vc
namespace Go.Proofs.Ytfhdhdgabdpmkaa
open Go.Vc
end Go.Proofs.Ytfhdhdgabdpmkaa

/- Contracts: depths in posets, and the reference's search for p-morphisms from its start. Conditions: none. -/
namespace Go.Vc
end Go.Vc
namespace Go.Proofs.Ytfhdhdgabdpmkaa
open Go.Vc
end Go.Proofs.Ytfhdhdgabdpmkaa

/- Contracts: the reference's search for p-morphisms from its start (l21Find). Conditions: none. -/
namespace Go.Vc
end Go.Vc
namespace Go.Proofs.Ytfhdhdgabdpmkaa
open Go.Vc
end Go.Proofs.Ytfhdhdgabdpmkaa

/- Contracts: the first p-morphism onto a poset in the reference (l21Onto, FindImage). Conditions: none. -/
namespace Go.Vc
end Go.Vc
namespace Go.Proofs.Ytfhdhdgabdpmkaa
open Go.Vc
end Go.Proofs.Ytfhdhdgabdpmkaa

/- Contracts: all p-morphisms between posets in the reference (l01Less, l21All, AllPosetMorphisms). Conditions: none. -/
namespace Go.Vc
/-- Rows with what they hold: the order does not matter. -/
def OwP (lo : Nat) (e : TypeId) (w : World) (P : List (Value × List Int)) : Prop := (∀ p ∈ P, Ow lo e w p.1 (ints p.2)) ∧ P.Pairwise fun a b => ∀ c, a.1.ownBlock = some c → b.1.ownBlock ≠ some c
theorem OwP.perm {lo : Nat} {e : TypeId} {w : World} {P Q : List (Value × List Int)} (h : OwP lo e w P) (hp : P.Perm Q) : OwP lo e w Q :=
  ⟨fun p hq => h.1 p (hp.mem_iff.2 hq), (hp.pairwise_iff (fun hxy c hc hc' => hxy c hc' hc)).1 h.2⟩
theorem OwP.ext {lo : Nat} {e : TypeId} {w w' : World} {P : List (Value × List Int)} (h : OwP lo e w P) (he : Ext w w') : OwP lo e w' P := ⟨fun p hp => (h.1 p hp).ext he, h.2⟩
theorem OwP.of {lo : Nat} {e : TypeId} {w : World} {vs : List Value} {ls : List (List Int)} (h : OwL lo e w vs (ls.map ints)) : OwP lo e w (vs.zip ls) ∧ (vs.zip ls).map Prod.fst = vs ∧ (vs.zip ls).map Prod.snd = ls := by
  have hl : vs.length = ls.length := by simpa using h.1
  refine ⟨⟨fun p hp => ?_, ?_⟩, List.map_fst_zip (by omega), List.map_snd_zip (by omega)⟩
  · obtain ⟨i, hi, rfl⟩ := List.getElem_of_mem hp
    rw [List.length_zip] at hi
    rw [List.getElem_zip]
    exact h.2.1 i _ _ (List.getElem?_eq_getElem (by omega)) (by rw [List.getElem?_map, List.getElem?_eq_getElem (by omega)]; rfl)
  · have := h.2.2
    rw [← List.map_fst_zip (l₁ := vs) (l₂ := ls) (by omega), List.pairwise_map] at this
    exact this
theorem OwP.to {lo : Nat} {e : TypeId} {w : World} {P : List (Value × List Int)} (h : OwP lo e w P) : OwL lo e w (P.map Prod.fst) ((P.map Prod.snd).map ints) := by
  refine ⟨by simp, fun i v l hv hl => ?_, ?_⟩
  · rw [List.getElem?_map] at hv
    rw [List.getElem?_map, List.getElem?_map] at hl
    cases hp : P[i]? with
    | none => rw [hp] at hv; cases hv
    | some p =>
      rw [hp] at hv hl
      simp at hv hl
      subst hv; subst hl
      exact h.1 p (List.mem_of_getElem? hp)
  · rw [List.pairwise_map]; exact h.2
theorem lessB_upto : ∀ (a b : List Int) (k : Nat), (∀ i, i < k → a[i]? = b[i]?) → k ≤ a.length → k ≤ b.length → lessB a b = lessB (a.drop k) (b.drop k)
  | _, _, 0, _, _, _ => rfl
  | [], _, _ + 1, _, h, _ => by simp at h
  | _ :: _, [], _ + 1, _, _, h => by simp at h
  | x :: a, y :: b, k + 1, h, h1, h2 => by
    have e : x = y := by have := h 0 (by omega); simpa using this
    subst e
    simp only [lessB, if_true, List.drop_succ_cons]
    exact lessB_upto a b k (fun i hi => by have := h (i + 1) (by omega); simpa using this) (by simpa using h1) (by simpa using h2)
end Go.Vc
namespace Go.Proofs.Ytfhdhdgabdpmkaa
open Go.Vc
theorem ok_spec_l01Less {va vb : Value} {w : World} {a b : List Int} (ha : SlI w va a) (hb : SlI w vb b) : Ret Try.prog f_spec_l01Less #[va, vb] w (.bool (lessB a b)) := by
  apply c_spec_l01Less; unfold S_spec_l01Less
  have hal := ha.len
  have hbl := hb.len
  refine iLp (fun k : Nat => [.int .i64 (k : Int)]) (fun k w' => k ≤ a.length ∧ k ≤ b.length ∧ Ext w w' ∧ ∀ i, i < k → a[i]? = b[i]?) (fun k => a.length - k) 0 rfl ⟨Nat.zero_le _, Nat.zero_le _, Ext.refl _, fun i hi => by omega⟩ ?_
  rintro k w2 Kn ⟨hka, hkb, h2, heq⟩ hKn
  have ha2 := ha.ext h2
  have hb2 := hb.ext h2
  have hup := lessB_upto a b k heq hka hkb
  (intro _; (try simp only [gx]))
  refine iJnB (decide (k < a.length) && decide (k < b.length)) w2 (fun J hJ => ?_) (fun w4 h4 => ?_)
  · ((with_reducible refine iLenI (by assumption) ?_; refine iLt ?_))
    refine iCndP (fun h5 => ?_) (fun h5 => ?_)
    · ((with_reducible refine iLenI (by assumption) ?_; refine iLt ?_))
      have := hJ w2 (Ext.refl _)
      rw [decide_eq_true (show k < a.length by omega), Bool.true_and] at this
      have e : decide ((k : Int) < (b.length : Nat)) = decide (k < b.length) := decide_eq_decide.2 (by omega)
      rw [e]; exact this
    · have := hJ w2 (Ext.refl _)
      rw [decide_eq_false (show ¬ k < a.length by omega), Bool.false_and] at this
      exact this
  · have ha4 := ha2.ext h4
    have hb4 := hb2.ext h4
    (intro _; (try simp only [gx]))
    refine iCnd (fun h5 => ?_) (fun h5 => ?_)
    · rw [Bool.and_eq_true, decide_eq_true_eq, decide_eq_true_eq] at h5
      have h5a := h5.1
      have h5b := h5.2
      have ea : a.getD k 0 = a[k] := by simp [List.getD_eq_getElem?_getD, h5a]
      have eb : b.getD k 0 = b[k] := by simp [List.getD_eq_getElem?_getD, h5b]
      rw [List.drop_eq_getElem_cons h5a, List.drop_eq_getElem_cons h5b] at hup
      simp only [lessB] at hup
      ((with_reducible refine iIaN (by assumption) ?_ (fun pa_ hpa_ => ?_)); omega; (with_reducible refine iLd (by assumption) ?_); (with_reducible refine iIaN (by assumption) ?_ (fun pa_ hpa_ => ?_)); omega; (with_reducible refine iLd (by assumption) ?_; refine iNe ?_))
      rw [ea, eb]
      intro w5 h6
      have ha5 := ha4.ext h6
      have hb5 := hb4.ext h6
      refine iCndP (fun h7 => ?_) (fun h7 => ?_)
      · rw [if_neg h7] at hup
        ((with_reducible refine iIaN (by assumption) ?_ (fun pa_ hpa_ => ?_)); omega; (with_reducible refine iLd (by assumption) ?_); (with_reducible refine iIaN (by assumption) ?_ (fun pa_ hpa_ => ?_)); omega; (with_reducible refine iLd (by assumption) ?_; refine iLt ?_))
        rw [ea, eb]
        intro w6 h8
        exact ⟨by rw [hup], h2.trans (h4.trans (h6.trans h8))⟩
      · (refine iAdd (by omega) ?_)
        refine hKn (k + 1) _ ⟨by omega, by omega, h2.trans (h4.trans h6), fun i hi => ?_⟩ (by omega)
        by_cases hik : i = k
        · subst hik
          rw [List.getElem?_eq_getElem h5a, List.getElem?_eq_getElem h5b, Classical.not_not.1 h7]
        · exact heq i (by omega)
    · rw [Bool.and_eq_false_iff, decide_eq_false_iff_not, decide_eq_false_iff_not] at h5
      ((with_reducible refine iLenI (by assumption) ?_; refine iLenI (by assumption) ?_; refine iLt ?_))
      refine ⟨?_, h2.trans h4⟩
      rw [hup]
      rcases Nat.lt_or_ge k a.length with h6 | h6
      · obtain rfl : k = b.length := by omega
        rw [List.drop_eq_nil_of_le (Nat.le_refl _), List.drop_eq_getElem_cons h6, decide_eq_false (by omega)]; rfl
      · obtain rfl : k = a.length := by omega
        rw [List.drop_eq_nil_of_le (Nat.le_refl _)]
        rcases Nat.lt_or_ge a.length b.length with h7 | h7
        · rw [List.drop_eq_getElem_cons h7, decide_eq_true (by omega)]; rfl
        · rw [List.drop_eq_nil_of_le h7, decide_eq_false (by omega)]; rfl
end Go.Proofs.Ytfhdhdgabdpmkaa

/- Contracts: cmp.Compare and slices.Compare on int64. Conditions: none. -/
namespace Go.Vc
/-- What slices.Compare answers. -/
def cmpI (a b : List Int) : Int := if lessB a b = true then -1 else if lessB b a = true then 1 else 0
theorem cmpI_neg {a b : List Int} : cmpI a b < 0 ↔ lessB a b = true := by
  unfold cmpI
  split
  · rename_i h; simp [h]
  · rename_i h
    split <;> simp [h]
end Go.Vc
namespace Go.Proofs.Ytfhdhdgabdpmkaa
open Go.Vc
theorem ok_cmp_isNaN_i64 (x : Int) (w : World) : Ret Try.prog f_cmp_isNaN_i64 #[.int .i64 x] w (.bool false) := by
  apply c_cmp_isNaN_i64; unfold S_cmp_isNaN_i64
  refine iNe ?_
  rw [decide_eq_false (fun h => h rfl)]
  exact ⟨rfl, Ext.refl _⟩
theorem ok_cmp_Compare_i64 (x y : Int) (w : World) : Ret Try.prog f_cmp_Compare_i64 #[.int .i64 x, .int .i64 y] w (.int .i64 (if x < y then -1 else if y < x then 1 else 0)) := by
  apply c_cmp_Compare_i64; unfold S_cmp_Compare_i64
  refine iRet (ok_cmp_isNaN_i64 x w) fun w1 h1 => ?_
  refine iRet (ok_cmp_isNaN_i64 y w1) fun w2 h2 => ?_
  refine iCndF rfl (iCndF rfl ?_)
  refine iLt ?_
  refine iCndP (fun h => ?_) (fun h => ?_)
  · rw [if_pos h]; exact ⟨rfl, h1.trans h2⟩
  · rw [if_neg h]
    refine iLt ?_
    refine iCndP (fun h => ?_) (fun h => ?_)
    · rw [if_pos h]; exact ⟨rfl, h1.trans h2⟩
    · rw [if_neg h]; exact ⟨rfl, h1.trans h2⟩
theorem ok_slices_CompareX {va vb : Value} {w : World} {a b : List Int} (ha : SlI w va a) (hb : SlI w vb b) : Ret Try.prog f_slices_Compare_Si64_i64 #[va, vb] w (.int .i64 (cmpI a b)) := by
  apply c_slices_Compare_Si64_i64; unfold S_slices_Compare_Si64_i64
  have hal := ha.len
  have hbl := hb.len
  ((with_reducible refine iLenI (by assumption) ?_))
  refine iLp (fun k : Nat => [.int .i64 (k : Int)]) (fun k w' => k ≤ a.length ∧ k ≤ b.length ∧ Ext w w' ∧ ∀ i, i < k → a[i]? = b[i]?) (fun k => a.length - k) 0 rfl ⟨Nat.zero_le _, Nat.zero_le _, Ext.refl _, fun i hi => by omega⟩ ?_
  rintro k w2 Kn ⟨hka, hkb, h2, heq⟩ hKn
  have ha2 := ha.ext h2
  have hb2 := hb.ext h2
  have hup := lessB_upto a b k heq hka hkb
  have hup2 := lessB_upto b a k (fun i hi => (heq i hi).symm) hkb hka
  (intro _; (try simp only [gx]); (with_reducible refine iLt ?_))
  refine iCndP (fun h5 => ?_) (fun h5 => ?_)
  · have h5a : k < a.length := by omega
    have ea : a.getD k 0 = a[k] := by simp [List.getD_eq_getElem?_getD, h5a]
    ((with_reducible refine iIaN (by assumption) ?_ (fun pa_ hpa_ => ?_)); omega; (with_reducible refine iLd (by assumption) ?_; refine iLenI (by assumption) ?_; refine iLe ?_))
    rw [ea]
    refine iCndP (fun h6 => ?_) (fun h6 => ?_)
    · obtain rfl : k = b.length := by omega
      rw [List.drop_eq_nil_of_le (Nat.le_refl _), List.drop_eq_getElem_cons h5a] at hup hup2
      refine ⟨?_, h2⟩
      unfold cmpI
      rw [hup, hup2]
      simp [lessB]
    · have h5b : k < b.length := by omega
      have eb : b.getD k 0 = b[k] := by simp [List.getD_eq_getElem?_getD, h5b]
      rw [List.drop_eq_getElem_cons h5a, List.drop_eq_getElem_cons h5b] at hup hup2
      simp only [lessB] at hup hup2
      ((with_reducible refine iIaN (by assumption) ?_ (fun pa_ hpa_ => ?_)); omega; (with_reducible refine iLd (by assumption) ?_))
      rw [eb]
      refine iRet (ok_cmp_Compare_i64 a[k] b[k] w2) fun w3 h3 => ?_
      refine iNe ?_
      refine iCndP (fun h7 => ?_) (fun h7 => ?_)
      · refine ⟨?_, h2.trans h3⟩
        have hne : ¬ a[k] = b[k] := fun e => h7 (by rw [e]; simp)
        unfold cmpI
        rw [hup, hup2, if_neg hne, if_neg (show ¬ b[k] = a[k] from fun e => hne e.symm)]
        by_cases hlt : a[k] < b[k]
        · rw [if_pos hlt, if_pos (by simpa using hlt)]
        · rw [if_neg hlt, if_pos (by omega), if_neg (by simpa using hlt), if_pos (by rw [decide_eq_true_eq]; omega)]
      · have he : a[k] = b[k] := by
          rcases Int.lt_trichotomy a[k] b[k] with h | h | h
          · exact absurd (by rw [if_pos h]; decide) h7
          · exact h
          · exact absurd (by rw [if_neg (by omega), if_pos h]; decide) h7
        (refine iAdd (by omega) ?_)
        refine hKn (k + 1) _ ⟨by omega, by omega, h2.trans h3, fun i hi => ?_⟩ (by omega)
        by_cases hik : i = k
        · subst hik
          rw [List.getElem?_eq_getElem h5a, List.getElem?_eq_getElem h5b, he]
        · exact heq i (by omega)
  · obtain rfl : k = a.length := by omega
    rw [List.drop_eq_nil_of_le (Nat.le_refl _)] at hup hup2
    ((with_reducible refine iLenI (by assumption) ?_; refine iLenI (by assumption) ?_; refine iLt ?_))
    refine iCndP (fun h6 => ?_) (fun h6 => ?_)
    · have h7 : a.length < b.length := by omega
      refine ⟨?_, h2⟩
      unfold cmpI
      rw [hup, hup2, List.drop_eq_getElem_cons h7]
      simp [lessB]
    · refine ⟨?_, h2⟩
      unfold cmpI
      rw [hup, hup2, List.drop_eq_nil_of_le (by omega)]
      simp [lessB]
end Go.Proofs.Ytfhdhdgabdpmkaa

/- Contracts: sorting slices of slices of int64 in place by slices.Compare (the parts of pdqsort). Conditions: none. -/
namespace Go.Vc
section
universe u
variable {α : Type u} {enc : α → Value} {P : Program}
/-- The call's own slice v holds L', and nothing else has turned. -/
structure Turn (lo : Nat) (e : TypeId) (enc : α → Value) (v : Value) (w w' : World) (L' : List α) : Prop where
  ow : Ow lo e w' v (L'.map enc)
  ch : Ch (fun c => v.ownBlock = some c) w w'
theorem Turn.refl {lo : Nat} {e : TypeId} {v : Value} {w : World} {L : List α} (h : Ow lo e w v (L.map enc)) : Turn lo e enc v w w L := ⟨h, (Ext.refl w).ch⟩
theorem Turn.ext {lo : Nat} {e : TypeId} {v : Value} {w w' w'' : World} {L : List α} (h : Turn lo e enc v w w' L) (k : Ext w' w'') : Turn lo e enc v w w'' L :=
  ⟨h.ow.ext k, h.ch.trans (k.ch (S := fun _ => False)) fun _ e => e.elim⟩
theorem Turn.trans {lo : Nat} {e : TypeId} {v : Value} {w w' w'' : World} {L L' : List α} (h : Turn lo e enc v w w' L) (k : Turn lo e enc v w' w'' L') : Turn lo e enc v w w'' L' :=
  ⟨k.ow, h.ch.trans k.ch fun _ e => .inl e⟩
theorem iRdO [Inhabited α] {lo : Nat} {e : TypeId} {w : World} {v : Value} {L : List α} {z : Int} {j : Nat} {k : IntKind} {K : Value → Prop} (hs : Ow lo e w v (L.map enc)) (hz : z = (j : Int)) (hj : j < L.length) (h : K (enc (gt L j))) : xIa 1 v (.int k z) fun p => xLd w p K := by
  subst hz
  refine iIaOw hs (by omega) (by rw [List.length_map]; omega) fun b o _ _ _ hc _ _ => iLd (hc.trans ?_) h
  rw [Int.toNat_natCast, gt_eq hj]
  simp [hj]
theorem iWr2 {lo : Nat} {e : TypeId} {w : World} {v : Value} {L : List α} {z z' : Int} {i j : Nat} {k k' : IntKind} {x y : α} {K : World → Prop} (hE : ∀ x, isCell (enc x) = true) (hs : Ow lo e w v (L.map enc)) (hz : z = (i : Int)) (hz' : z' = (j : Int)) (hi : i < L.length) (hj : j < L.length)
    (h : ∀ w', Turn lo e enc v w w' ((L.set i x).set j y) → K w') :
    xIa 1 v (.int k z) fun p => ∀ w1, Ext w w1 → xSt w1 p (enc x) fun w2 => xIa 1 v (.int k' z') fun q => ∀ w3, Ext w2 w3 → xSt w3 q (enc y) fun w4 => ∀ w5, Ext w4 w5 → K w5 := by
  subst hz
  subst hz'
  refine iIaOwE hs (by rw [List.length_map]; exact hi) fun b hb H => ?_
  intro w1 h1
  obtain ⟨hc, hf, hset⟩ := H w1 _ rfl (hs.ext h1)
  refine iSt (hc.trans (List.getElem?_eq_getElem (by rw [List.length_map]; exact hi))) hf (hE x) ?_
  have hs2 := hset (enc x)
  have hc2 : Ch (fun c => v.ownBlock = some c) w (w1.setCell ⟨b, i, none⟩ (enc x)) := (h1.ch (S := fun c => v.ownBlock = some c)).trans ((Upd.setCell w1 b i _).ch (S := fun c => v.ownBlock = some c) hb) fun _ e => .inl e
  refine iIaOwE hs2 (by rw [List.length_set, List.length_map]; exact hj) fun b' hb' H' => ?_
  intro w3 h3
  obtain ⟨hc3, hf3, hset3⟩ := H' w3 _ rfl (hs2.ext h3)
  refine iSt (hc3.trans (List.getElem?_eq_getElem (by rw [List.length_set, List.length_map]; exact hj))) hf3 (hE y) ?_
  intro w5 h5
  refine h w5 (Turn.ext ⟨?_, ?_⟩ h5)
  · have := hset3 (enc y)
    rwa [← List.map_set, ← List.map_set] at this
  · exact (hc2.trans (h3.ch (S := fun c => v.ownBlock = some c)) fun _ e => .inl e).trans ((Upd.setCell w3 b' j _).ch (S := fun c => v.ownBlock = some c) hb') fun _ e => .inl e
end
/-- An element: a slice, and what it holds. -/
abbrev VL := Value × List Int
instance : Inhabited VL := ⟨(.slice none 0 0, [])⟩
def encV (x : VL) : Value := if isCell x.1 = true then x.1 else .slice none 0 0
theorem encV_cell (x : VL) : isCell (encV x) = true := by
  unfold encV
  split
  · assumption
  · rfl
theorem encV_eq {x : VL} (h : isCell x.1 = true) : encV x = x.1 := if_pos h
abbrev evL (L : List VL) : List Value := L.map encV
theorem evs_len (L : List VL) : (evL L).length = L.length := List.length_map ..
def ltV (a b : VL) : Bool := lessB a.2 b.2
theorem ordrV : Ordr ltV := ⟨fun {a b} h => lessB_asymm a.2 b.2 h, fun {a b c} h k => lessB_trans a.2 b.2 c.2 h k⟩
/-- The rows of the elements can be read. -/
def RowsV (e : TypeId) (w : World) (L : List VL) : Prop := ∀ x ∈ L, Ow 0 e w (encV x) (ints x.2)
theorem RowsV.ext {e : TypeId} {w w' : World} {L : List VL} (h : RowsV e w L) (x : Ext w w') : RowsV e w' L := fun y hy => (h y hy).ext x
theorem RowsV.ch {e e' : TypeId} {w w' : World} {L : List VL} {c : Nat} {cs : List Value} (h : RowsV e w L) (hB : Blk e' w c cs) (hne : e ≠ e') (x : Ch (fun k => k = c) w w') : RowsV e w' L := fun y hy => (h y hy).ch x fun _ hk e => (h y hy).ne_blk hB hne (by rw [← e]; exact hk)
theorem RowsV.turn {lo : Nat} {e e' : TypeId} {v : Value} {w w' : World} {L L' : List VL} (h : RowsV e w L) (hs : Ow lo e' w v (evL L)) (hne : e ≠ e') (ht : Turn lo e' encV v w w' L') (hp : List.Perm L' L) : RowsV e w' L' := fun y hy =>
  (h y (hp.mem_iff.1 hy)).ch ht.ch fun _ hk hk' => (h y (hp.mem_iff.1 hy)).ne_ow hs hne hk hk'
end Go.Vc
namespace Go.Proofs.Ytfhdhdgabdpmkaa
open Go.Vc
abbrev cmpV : Value := .func (.func f_slices_Compare_Si64_i64) #[] #[]
theorem cmp_call {w : World} {L : List VL} {i j : Nat} {K : Value → World → Prop} (hr : RowsV t_i64 w L) (hi : i < L.length) (hj : j < L.length) (h : ∀ w', Ext w w' → K (.bool (ltV (gt L i) (gt L j))) w') : callV Try.prog cmpV [encV (gt L i), encV (gt L j)] w fun r w2 => xLt .i64 r (.int .i64 0) fun b => K b w2 := by
  have h1 := (hr (gt L i) (by rw [gt_eq hi]; exact List.getElem_mem _)).sl
  have h2 := (hr (gt L j) (by rw [gt_eq hj]; exact List.getElem_mem _)).sl
  refine iRet (ok_slices_CompareX h1 h2) fun w' x => ?_
  refine iLt ?_
  have e : decide (cmpI (gt L i).2 (gt L j).2 < 0) = ltV (gt L i) (gt L j) := by
    rw [Bool.eq_iff_iff, decide_eq_true_eq, cmpI_neg]; rfl
  rw [e]
  exact h w' x
theorem iCm {w : World} {L : List VL} {i j : Nat} {G : Value → World → Prop} (hr : RowsV t_i64 w L) (hi : i < L.length) (hj : j < L.length) (h : ∀ w', Ext w w' → G (.bool (ltV (gt L i) (gt L j))) w') : ∀ w1, Ext w w1 → callV Try.prog cmpV [encV (gt L i), encV (gt L j)] w1 fun r w2 => xLt .i64 r (.int .i64 0) fun b => ∀ w3, Ext w2 w3 → G b w3 :=
  fun _ x1 => cmp_call (hr.ext x1) hi hj fun _ x2 _ x3 => h _ ((x1.trans x2).trans x3)
theorem iCmN {w : World} {L : List VL} {i j : Nat} {G : Value → World → Prop} (hr : RowsV t_i64 w L) (hi : i < L.length) (hj : j < L.length) (h : ∀ w', Ext w w' → G (.bool (!ltV (gt L i) (gt L j))) w') : ∀ w1, Ext w w1 → callV Try.prog cmpV [encV (gt L i), encV (gt L j)] w1 fun r w2 => xLt .i64 r (.int .i64 0) fun b => xNot b fun c => ∀ w3, Ext w2 w3 → G c w3 :=
  fun _ x1 => cmp_call (hr.ext x1) hi hj fun _ x2 => iNot fun _ x3 => h _ ((x1.trans x2).trans x3)
theorem ok_slices_insertionSortV {lo : Nat} {w : World} {v : Value} {L : List VL} {a b : Nat} (hs : Ow lo t_Si64 w v (evL L)) (hrw : RowsV t_i64 w L) (hab : a ≤ b) (hb : b ≤ L.length) (hL : L.length ≤ 1152921504606846976) :
    Cal Try.prog f_slices_insertionSortCmpFunc_Si64 #[v, .int .i64 (a : Int), .int .i64 (b : Int), cmpV] w fun _ w' => ∃ L', Turn lo t_Si64 encV v w w' L' ∧ SwR a b L L' ∧ Srt ltV a b L' := by
  apply c_slices_insertionSortCmpFunc_Si64; unfold S_slices_insertionSortCmpFunc_Si64
  (refine iAdd (by omega) ?_)
  refine iLp (fun i : Nat => [.int .i64 (i : Int)]) (fun i w' => a + 1 ≤ i ∧ i ≤ b + 1 ∧ ∃ L', Turn lo t_Si64 encV v w w' L' ∧ SwR a b L L' ∧ Srt ltV a i L') (fun i => b + 1 - i) (a + 1) (by simp) ⟨Nat.le_refl _, by omega, L, Turn.refl hs, .refl, Srt.short (Nat.le_refl _)⟩ ?_
  rintro i w2 Kn ⟨hi, hib, L1, ht1, hw1, hs1⟩ hKn
  intro _
  simp only [gx]
  refine iLt ?_
  refine iCndP (fun h => ?_) (fun h => ?_)
  · have hl1 := hw1.len
    refine iLp (fun j : Nat => [.int .i64 (j : Int)]) (fun j w' => a ≤ j ∧ j ≤ i ∧ ∃ L', Turn lo t_Si64 encV v w w' L' ∧ SwR a b L L' ∧ Ins ltV a i j L') (fun j => j) i rfl ⟨by omega, Nat.le_refl _, L1, ht1, hw1, Ins.init hs1⟩ ?_
    rintro j w4 Kn2 ⟨haj, hji, L2, ht2, hw2, hin⟩ hKn2
    have hl2 := hw2.len
    intro _
    simp only [gx]
    refine iJnB (decide (a < j) && ltV (gt L2 j) (gt L2 (j - 1))) w4 (fun J hJ => ?_) (fun w6 h6 => ?_)
    · refine iLt ?_
      refine iCndP (fun h5 => ?_) (fun h5 => ?_)
      · rw [decide_eq_true (show a < j by omega), Bool.true_and] at hJ
        refine iRdO (j := j) ht2.ow rfl (by omega) ?_
        (refine iSub (by omega) ?_)
        refine iRdO (j := j - 1) ht2.ow (by omega) (by omega) ?_
        exact iCm (hrw.turn hs (by decide) ht2 hw2.perm) (by omega) (by omega) hJ
      · rw [decide_eq_false (show ¬ a < j by omega), Bool.false_and] at hJ
        exact fun _ x8 _ x9 => hJ _ (x8.trans x9)
    · intro _
      simp only [gx]
      have ht6 := ht2.ext h6
      cases hc : decide (a < j) && ltV (gt L2 j) (gt L2 (j - 1))
      · refine iCndF rfl ?_
        (refine iAdd (by omega) ?_)
        refine hKn (i + 1) _ ⟨by omega, by omega, L2, ht6, hw2, hin.done ordrV ?_ hji⟩ (by omega)
        rw [Bool.and_eq_false_iff, decide_eq_false_iff_not] at hc
        rcases hc with hc | hc
        · exact .inl (by omega)
        · rcases Nat.lt_or_ge a j with h' | h'
          · exact .inr ⟨h', hc⟩
          · exact .inl h'
      · rw [Bool.and_eq_true, decide_eq_true_eq] at hc
        refine iCndT rfl ?_
        (refine iSub (by omega) ?_; refine iSub (by omega) ?_)
        refine iRdO (j := j - 1) ht6.ow (by omega) (by omega) ?_
        refine iRdO (j := j) ht6.ow rfl (by omega) ?_
        refine iWr2 (i := j) (j := j - 1) encV_cell ht6.ow rfl (by omega) (by omega) (by omega) fun w13 h13 => ?_
        (refine iSub (by omega) ?_)
        rw [show (j : Int) - 1 = ((j - 1 : Nat) : Int) by omega]
        exact hKn2 (j - 1) _ ⟨by omega, by omega, sw L2 j (j - 1), ht6.trans h13, .step hw2 (by omega) (by omega) (by omega) (by omega) hb, hin.swap ordrV hc.1 hji (by omega) hc.2⟩ (by omega)
  · exact ⟨L1, ht1, hw1, hs1.mono (Nat.le_refl _) (by omega)⟩
theorem ok_slices_reverseRangeCmpFunc_Si64 {lo : Nat} {w : World} {v : Value} {L : List VL} {a b : Nat} (hs : Ow lo t_Si64 w v (evL L)) (hab : a ≤ b) (hb : b ≤ L.length) (hL : L.length ≤ 1152921504606846976) :
    Cal Try.prog f_slices_reverseRangeCmpFunc_Si64 #[v, .int .i64 (a : Int), .int .i64 (b : Int), cmpV] w fun _ w' => ∃ L', Turn lo t_Si64 encV v w w' L' ∧ SwR a b L L' := by
  apply c_slices_reverseRangeCmpFunc_Si64; unfold S_slices_reverseRangeCmpFunc_Si64
  (refine iSub (by omega) ?_)
  refine iLp (fun s : Nat × Int => [.int .i64 (s.1 : Int), .int .i64 s.2]) (fun s w' => a ≤ s.1 ∧ s.1 ≤ b ∧ -1 ≤ s.2 ∧ s.2 < b ∧ (b : Int) - s.2 ≤ s.1 - a + 1 ∧ ∃ L', Turn lo t_Si64 encV v w w' L' ∧ SwR a b L L') (fun s => b - s.1) (a, (b : Int) - 1) rfl ⟨Nat.le_refl _, hab, by show -1 ≤ (b : Int) - 1; omega, by show (b : Int) - 1 < b; omega, by show (b : Int) - ((b : Int) - 1) ≤ a - a + 1; omega, L, Turn.refl hs, .refl⟩ ?_
  rintro ⟨i, j⟩ w2 Kn ⟨hi, hib, hj, hjb, hij, L1, ht1, hw1⟩ hKn
  have hi : a ≤ i := hi
  have hib : i ≤ b := hib
  have hj : -1 ≤ j := hj
  have hjb : j < b := hjb
  have hij : (b : Int) - j ≤ i - a + 1 := hij
  have hl1 := hw1.len
  intro _
  simp only [gx]
  refine iLt ?_
  refine iCndP (fun h => ?_) (fun h => ?_)
  · refine iRdO (j := j.toNat) ht1.ow (by omega) (by omega) ?_
    refine iRdO (j := i) ht1.ow rfl (by omega) ?_
    refine iWr2 (i := i) (j := j.toNat) encV_cell ht1.ow rfl (by omega) (by omega) (by omega) fun w7 h7 => ?_
    (refine iAdd (by omega) ?_; refine iSub (by omega) ?_)
    exact hKn (i + 1, j - 1) _ ⟨by show a ≤ i + 1; omega, by show i + 1 ≤ b; omega, by show -1 ≤ j - 1; omega, by show j - 1 < b; omega, by show (b : Int) - (j - 1) ≤ ((i + 1 : Nat) : Int) - a + 1; omega, sw L1 i j.toNat, ht1.trans h7, .step hw1 hi (by omega) (by omega) (by omega) hb⟩ (by show b - (i + 1) < b - i; omega)
  · exact ⟨L1, ht1, hw1⟩
theorem ok_slices_siftDownCmpFunc_Si64 {lo0 : Nat} {w : World} {v : Value} {L : List VL} {lo hi first : Nat} (hs : Ow lo0 t_Si64 w v (evL L)) (hrw : RowsV t_i64 w L) (hlo : lo ≤ hi) (hb : first + hi ≤ L.length) (hL : L.length ≤ 1152921504606846976) (hh : Heap ltV first (lo + 1) hi L) :
    Cal Try.prog f_slices_siftDownCmpFunc_Si64 #[v, .int .i64 (lo : Int), .int .i64 (hi : Int), .int .i64 (first : Int), cmpV] w fun _ w' => ∃ L', Turn lo0 t_Si64 encV v w w' L' ∧ SwR (first + lo) (first + hi) L L' ∧ Heap ltV first lo hi L' := by
  apply c_slices_siftDownCmpFunc_Si64; unfold S_slices_siftDownCmpFunc_Si64
  refine iLp (fun r : Nat => [.int .i64 (r : Int)]) (fun r w' => lo ≤ r ∧ r ≤ hi ∧ ∃ L', Turn lo0 t_Si64 encV v w w' L' ∧ SwR (first + lo) (first + hi) L L' ∧ Sift ltV first lo hi r L') (fun r => hi - r) lo rfl ⟨Nat.le_refl _, hlo, L, Turn.refl hs, .refl, Sift.init hh⟩ ?_
  rintro r w2 Kn ⟨hr, hrh, L1, ht1, hw1, hsf⟩ hKn
  have hl1 := hw1.len
  intro _
  simp only [gx]
  refine iMul (by omega) ?_
  (refine iAdd (by omega) ?_; (with_reducible refine iLe ?_))
  refine iCndP (fun h => ?_) (fun h => ?_)
  · exact ⟨L1, ht1, hw1, hsf.done fun c hc hch => by omega⟩
  · have hlr : r < hi := by omega
    refine iJnB (decide (2 * r + 2 < hi) && ltV (gt L1 (first + (2 * r + 1))) (gt L1 (first + (2 * r + 2)))) w2 (fun J hJ => ?_) (fun w4 h4 => ?_)
    · (refine iAdd (by omega) ?_; (with_reducible refine iLt ?_))
      refine iCndP (fun h5 => ?_) (fun h5 => ?_)
      · rw [decide_eq_true (show 2 * r + 2 < hi by omega), Bool.true_and] at hJ
        (refine iAdd (by omega) ?_)
        refine iRdO (j := first + (2 * r + 1)) ht1.ow (by omega) (by omega) ?_
        (refine iAdd (by omega) ?_; refine iAdd (by omega) ?_)
        refine iRdO (j := first + (2 * r + 2)) ht1.ow (by omega) (by omega) ?_
        exact iCm (hrw.turn hs (by decide) ht1 hw1.perm) (by omega) (by omega) hJ
      · rw [decide_eq_false (show ¬ 2 * r + 2 < hi by omega), Bool.false_and] at hJ
        exact fun _ x8 _ x9 => hJ _ (x8.trans x9)
    · intro _
      simp only [gx]
      have ht4 := ht1.ext h4
      refine iJnX (fun xs w8 => Ext w4 w8 ∧ ∃ c : Nat, xs = [.int .i64 (c : Int)] ∧ (c = 2 * r + 1 ∨ c = 2 * r + 2) ∧ c < hi ∧ ∀ d, (d = 2 * r + 1 ∨ d = 2 * r + 2) → d < hi → ltV (gt L1 (first + c)) (gt L1 (first + d)) = false) (fun J hJ => ?_) ?_
      · cases hc : decide (2 * r + 2 < hi) && ltV (gt L1 (first + (2 * r + 1))) (gt L1 (first + (2 * r + 2)))
        · refine iCndF rfl ?_
          refine hJ _ _ ⟨Ext.refl _, 2 * r + 1, rfl, .inl rfl, by omega, fun d hd hdh => ?_⟩
          rcases hd with hd | hd
          · subst hd; exact ordrV.rfl _
          · subst hd; rw [decide_eq_true hdh, Bool.true_and] at hc; exact hc
        · rw [Bool.and_eq_true, decide_eq_true_eq] at hc
          refine iCndT rfl ?_
          (refine iAdd (by omega) ?_)
          refine hJ _ _ ⟨Ext.refl _, 2 * r + 2, rfl, .inr rfl, hc.1, fun d hd hdh => ?_⟩
          rcases hd with hd | hd
          · subst hd; exact ordrV.asym hc.2
          · subst hd; exact ordrV.rfl _
      · rintro xs w8 ⟨h8, c, rfl, hc, hch, hmax⟩
        intro _
        simp only [gx]
        have ht8 := ht4.ext h8
        (refine iAdd (by omega) ?_)
        refine iRdO (j := first + r) ht8.ow (by omega) (by omega) ?_
        (refine iAdd (by omega) ?_)
        refine iRdO (j := first + c) ht8.ow (by omega) (by omega) ?_
        refine iCmN (hrw.turn hs (by decide) ht8 hw1.perm) (by omega) (by omega) fun w9 h9 => ?_
        have ht9 := ht8.ext h9
        refine iCnd (fun h5 => ?_) (fun h5 => ?_)
        · refine ⟨L1, ht9, hw1, hsf.done fun d hd hdh => ?_⟩
          have h5 : ltV (gt L1 (first + r)) (gt L1 (first + c)) = false := by simpa using h5
          exact ordrV.tr (hmax d hd hdh) h5
        · have h5 : ltV (gt L1 (first + r)) (gt L1 (first + c)) = true := by simpa using h5
          (refine iAdd (by omega) ?_; refine iAdd (by omega) ?_; refine iAdd (by omega) ?_)
          refine iRdO (j := first + c) ht9.ow (by omega) (by omega) ?_
          (refine iAdd (by omega) ?_)
          refine iRdO (j := first + r) ht9.ow (by omega) (by omega) ?_
          refine iWr2 (i := first + r) (j := first + c) encV_cell ht9.ow (by omega) (by omega) (by omega) (by omega) fun w14 h14 => ?_
          exact hKn c _ ⟨by omega, by omega, sw L1 (first + r) (first + c), ht9.trans h14, .step hw1 (by omega) (by omega) (by omega) (by omega) (by omega), hsf.swap ordrV hr hc hch (by omega) h5 hmax⟩ (by omega)
theorem ok_slices_heapSortCmpFunc_Si64 {lo : Nat} {w : World} {v : Value} {L : List VL} {a b : Nat} (hs : Ow lo t_Si64 w v (evL L)) (hrw : RowsV t_i64 w L) (hab : a < b) (hb : b ≤ L.length) (hL : L.length ≤ 1152921504606846976) :
    Cal Try.prog f_slices_heapSortCmpFunc_Si64 #[v, .int .i64 (a : Int), .int .i64 (b : Int), cmpV] w fun _ w' => ∃ L', Turn lo t_Si64 encV v w w' L' ∧ SwR a b L L' ∧ Srt ltV a b L' := by
  apply c_slices_heapSortCmpFunc_Si64; unfold S_slices_heapSortCmpFunc_Si64
  obtain ⟨n, rfl⟩ : ∃ n, b = a + n := ⟨b - a, by omega⟩
  (refine iSub (by omega) ?_; refine iSub (by omega) ?_)
  refine iQuo (by omega) ?_
  refine iLp (fun s : Nat => [.int .i64 ((s : Int) - 1)]) (fun s w' => s ≤ n ∧ ∃ L', Turn lo t_Si64 encV v w w' L' ∧ SwR a (a + n) L L' ∧ Heap ltV a s n L') (fun s => s) ((n - 1) / 2 + 1) (by congr 2; omega) ⟨by omega, L, Turn.refl hs, .refl, fun p c h1 h2 h3 => by omega⟩ ?_
  rintro s w2 Kn ⟨hsn, L1, ht1, hw1, hh⟩ hKn
  have hl1 := hw1.len
  intro _
  simp only [gx]
  refine iLe ?_
  refine iCndP (fun h => ?_) (fun h => ?_)
  · rw [show (s : Int) - 1 = ((s - 1 : Nat) : Int) by omega, show ((a + n : Nat) : Int) - a = (n : Int) by omega]
    refine iCall ?_
    refine (ok_slices_siftDownCmpFunc_Si64 (lo := s - 1) (hi := n) (first := a) ht1.ow (hrw.turn hs (by decide) ht1 hw1.perm) (by omega) (by omega) (by omega) (by rw [show s - 1 + 1 = s by omega]; exact hh)).mono fun _ w3 h3 => ?_
    obtain ⟨L2, ht2, hw2, hh2⟩ := h3
    (refine iSub (by omega) ?_)
    exact hKn (s - 1) _ ⟨by omega, L2, ht1.trans ht2, hw1.trans (hw2.mono (by omega) (Nat.le_refl _) (by omega)), hh2⟩ (by omega)
  · (refine iSub (by omega) ?_)
    have hs0 : s = 0 := by omega
    subst hs0
    refine iLp (fun s : Nat => [.int .i64 ((s : Int) - 1)]) (fun s w' => s ≤ n ∧ ∃ L', Turn lo t_Si64 encV v w w' L' ∧ SwR a (a + n) L L' ∧ Heap ltV a 0 s L' ∧ (∀ p q, a ≤ p → p < q → a + s ≤ q → q < a + n → ltV (gt L' q) (gt L' p) = false)) (fun s => s) n (by congr 2; omega) ⟨Nat.le_refl _, L1, ht1, hw1, hh, fun p q h1 h2 h3 h4 => by omega⟩ ?_
    rintro s w5 Kn5 ⟨hsn, L2, ht2, hw2, hh2, hpr⟩ hKn5
    have hl2 := hw2.len
    intro _
    simp only [gx]
    refine iLe ?_
    refine iCndP (fun h5 => ?_) (fun h5 => ?_)
    · (refine iAdd (by omega) ?_; refine iAdd (by omega) ?_)
      refine iRdO (j := a + (s - 1)) ht2.ow (by omega) (by omega) ?_
      refine iRdO (j := a) ht2.ow rfl (by omega) ?_
      refine iWr2 (i := a) (j := a + (s - 1)) encV_cell ht2.ow rfl (by omega) (by omega) (by omega) fun w10 h10 => ?_
      rw [show (s : Int) - 1 = ((s - 1 : Nat) : Int) by omega]
      have e : ∀ k, gt (sw L2 a (a + (s - 1))) k = if k = a + (s - 1) then gt L2 a else if k = a then gt L2 (a + (s - 1)) else gt L2 k := gt_sw (by omega) (by omega)
      have hw3 : SwR a (a + n) L2 (sw L2 a (a + (s - 1))) := .one (by omega) (by omega) (by omega) (by omega) (by omega)
      have htop := Heap.top ordrV hh2
      refine iCall ?_
      refine (ok_slices_siftDownCmpFunc_Si64 (L := sw L2 a (a + (s - 1))) (lo := 0) (hi := s - 1) (first := a) h10.ow (hrw.turn hs (by decide) (ht2.trans h10) (hw2.trans hw3).perm) (by omega) (by rw [hw3.len]; omega) (by rw [hw3.len]; omega) (fun p c h1 h2 h3 => by
        rw [e, e, if_neg (by omega), if_neg (by omega), if_neg (by omega), if_neg (by omega)]
        exact hh2 p c (by omega) h2 (by omega))).mono fun _ w11 h11 => ?_
      obtain ⟨L4, ht4, hw4, hh4⟩ := h11
      (refine iSub (by omega) ?_)
      refine hKn5 (s - 1) _ ⟨by omega, L4, (ht2.trans h10).trans ht4, (hw2.trans hw3).trans (hw4.mono (by omega) (by omega) (by rw [hw3.len]; omega)), hh4, fun p q h1 h2 h3 h4 => ?_⟩ (by omega)
      rw [hw4.out (k := q) (by omega)]
      have main : ∀ p, a ≤ p → p < q → ltV (gt (sw L2 a (a + (s - 1))) q) (gt (sw L2 a (a + (s - 1))) p) = false := fun p h1 h2 => by
        rw [e, e]
        by_cases hq : q = a + (s - 1)
        · rw [if_pos hq, if_neg (by omega)]
          split
          · exact htop _ (by omega)
          · obtain ⟨k, rfl⟩ : ∃ k, p = a + k := ⟨p - a, by omega⟩
            exact htop _ (by omega)
        · rw [if_neg hq, if_neg (by omega)]
          split
          · exact hpr a q (by omega) (by omega) (by omega) h4
          · split
            · exact hpr _ q (by omega) (by omega) (by omega) h4
            · exact hpr p q h1 h2 (by omega) h4
      rcases Nat.lt_or_ge p (a + (s - 1)) with hp | hp
      · exact hw4.all (p := fun x => ltV (gt (sw L2 a (a + (s - 1))) q) x = false) (fun k hk hk' => main k (by omega) (by omega)) p (by omega) hp
      · rw [hw4.out (k := p) (by omega)]; exact main p h1 h2
    · exact ⟨L2, ht2, hw2, fun p q h1 h2 h3 => hpr p q h1 h2 (by omega) h3⟩
end Go.Proofs.Ytfhdhdgabdpmkaa

/- Contracts: lengths of numbers in bits. Conditions: none. -/
namespace Go.Vc
def len8 : Str := [0, 1, 2, 2, 3, 3, 3, 3, 4, 4, 4, 4, 4, 4, 4, 4, 5, 5, 5, 5, 5, 5, 5, 5, 5, 5, 5, 5, 5, 5, 5, 5, 6, 6, 6, 6, 6, 6, 6, 6, 6, 6, 6, 6, 6, 6, 6, 6, 6, 6, 6, 6, 6, 6, 6, 6, 6, 6, 6, 6, 6, 6, 6, 6,
  7, 7, 7, 7, 7, 7, 7, 7, 7, 7, 7, 7, 7, 7, 7, 7, 7, 7, 7, 7, 7, 7, 7, 7, 7, 7, 7, 7, 7, 7, 7, 7, 7, 7, 7, 7, 7, 7, 7, 7, 7, 7, 7, 7, 7, 7, 7, 7, 7, 7, 7, 7, 7, 7, 7, 7, 7, 7, 7, 7, 7, 7, 7, 7,
  8, 8, 8, 8, 8, 8, 8, 8, 8, 8, 8, 8, 8, 8, 8, 8, 8, 8, 8, 8, 8, 8, 8, 8, 8, 8, 8, 8, 8, 8, 8, 8, 8, 8, 8, 8, 8, 8, 8, 8, 8, 8, 8, 8, 8, 8, 8, 8, 8, 8, 8, 8, 8, 8, 8, 8, 8, 8, 8, 8, 8, 8, 8, 8,
  8, 8, 8, 8, 8, 8, 8, 8, 8, 8, 8, 8, 8, 8, 8, 8, 8, 8, 8, 8, 8, 8, 8, 8, 8, 8, 8, 8, 8, 8, 8, 8, 8, 8, 8, 8, 8, 8, 8, 8, 8, 8, 8, 8, 8, 8, 8, 8, 8, 8, 8, 8, 8, 8, 8, 8, 8, 8, 8, 8, 8, 8, 8, 8]
theorem len8_ok : ∀ x : Fin 256, x.val < 2 ^ (len8.getD x.val 0).toNat ∧ (1 ≤ x.val → 2 ^ (len8.getD x.val 0).toNat ≤ 2 * x.val) ∧ (len8.getD x.val 0).toNat ≤ 8 := by decide +kernel
theorem iShrV {a j : Nat} {K : Value → Prop} (hj : j ≤ 64) (h : K (.int .u64 ((a / 2 ^ j : Nat) : Int))) : xSh iShr .u64 (.int .u64 (a : Int)) (.int .u64 (j : Int)) K := by
  refine ⟨_, _, _, rfl, rfl, by omega, ?_⟩
  rw [show iShr .u64 (a : Int) (j : Int) = ((a / 2 ^ j : Nat) : Int) by
    unfold iShr
    rw [Int.toNat_natCast, show IntKind.u64.bits = 64 from rfl, Nat.min_eq_left hj, Int.fdiv_eq_ediv_of_nonneg _ (Int.le_of_lt (Int.pow_pos (by omega)))]
    push_cast
    rfl]
  exact h
end Go.Vc
namespace Go.Proofs.Ytfhdhdgabdpmkaa
open Go.Vc
set_option maxRecDepth 20000 in
theorem ok_math_bits_Len64 {n : Nat} (hn : n < 2 ^ 63) (w : World) : Cal Try.prog f_math_bits_Len64 #[.int .u64 (n : Int)] w fun r w' => Ext w w' ∧ ∃ k : Nat, r = .int .i64 (k : Int) ∧ n < 2 ^ k ∧ (1 ≤ n → 2 ^ k ≤ 2 * n) ∧ k ≤ 64 := by
  apply c_math_bits_Len64; unfold S_math_bits_Len64
  -- at each join: what is left of n, and by how many bits it was shifted
  have stage : ∀ {x m s : Nat}, x = n / 2 ^ m → x / 2 ^ s = n / 2 ^ (m + s) := fun {x m s} h => by rw [h, Nat.div_div_eq_div_mul, ← Nat.pow_add]
  ((with_reducible refine iLe ?_))
  refine iJnX (fun xs w' => Ext w w' ∧ ∃ x m : Nat, xs = [.int .u64 (x : Int), .int .i64 (m : Int)] ∧ x = n / 2 ^ m ∧ x < 2 ^ 32 ∧ (1 ≤ m → 1 ≤ x) ∧ m ≤ 32) (fun J hJ => ?_) ?_
  · refine iCndP (fun h => ?_) (fun h => ?_)
    · refine iShrV (j := 32) (by omega) ?_
      exact hJ _ _ ⟨Ext.refl _, _, 32, rfl, rfl, by omega, by omega, by omega⟩
    · exact hJ _ _ ⟨Ext.refl _, n, 0, rfl, by simp, by omega, by omega, by omega⟩
  rintro xs w2 ⟨h2, x, m, rfl, hx, hx32, hm1, hm⟩
  intro _
  simp only [gx]
  ((with_reducible refine iLe ?_))
  refine iJnX (fun xs w' => Ext w w' ∧ ∃ x m : Nat, xs = [.int .u64 (x : Int), .int .i64 (m : Int)] ∧ x = n / 2 ^ m ∧ x < 2 ^ 16 ∧ (1 ≤ m → 1 ≤ x) ∧ m ≤ 48) (fun J hJ => ?_) ?_
  · refine iCndP (fun h => ?_) (fun h => ?_)
    · refine iShrV (j := 16) (by omega) ?_
      (refine iAdd (by omega) ?_)
      exact hJ _ _ ⟨h2, _, m + 16, rfl, stage hx, by omega, by omega, by omega⟩
    · exact hJ _ _ ⟨h2, x, m, rfl, hx, by omega, hm1, by omega⟩
  rintro xs w4 ⟨h4, x, m, rfl, hx, hx16, hm1, hm⟩
  intro _
  simp only [gx]
  ((with_reducible refine iLe ?_))
  refine iJnX (fun xs w' => Ext w w' ∧ ∃ x m : Nat, xs = [.int .u64 (x : Int), .int .i64 (m : Int)] ∧ x = n / 2 ^ m ∧ x < 2 ^ 8 ∧ (1 ≤ m → 1 ≤ x) ∧ m ≤ 56) (fun J hJ => ?_) ?_
  · refine iCndP (fun h => ?_) (fun h => ?_)
    · refine iShrV (j := 8) (by omega) ?_
      (refine iAdd (by omega) ?_)
      exact hJ _ _ ⟨h4, _, m + 8, rfl, stage hx, by omega, by omega, by omega⟩
    · exact hJ _ _ ⟨h4, x, m, rfl, hx, by omega, hm1, by omega⟩
  rintro xs w6 ⟨h6, x, m, rfl, hx, hx8, hm1, hm⟩
  intro _
  simp only [gx]
  obtain ⟨t1, t2, t3⟩ : x < 2 ^ (len8.getD x 0).toNat ∧ (1 ≤ x → 2 ^ (len8.getD x 0).toNat ≤ 2 * x) ∧ (len8.getD x 0).toNat ≤ 8 := len8_ok ⟨x, hx8⟩
  refine ⟨_, _, rfl, ?_⟩
  rw [IntWalk.u8_in _ (by omega)]
  refine iIs (l := len8) (j := x) (by show x < 256; omega) ?_
  refine iConv64 (by omega) ?_
  refine iAdd (by omega) ?_
  refine ⟨h6, m + (len8.getD x 0).toNat, by first | rfl | (push_cast; rfl), ?_, fun h1 => ?_, by omega⟩
  · have := Nat.lt_div_mul_add (a := n) (b := 2 ^ m) (Nat.two_pow_pos m)
    rw [← hx] at this
    have h3 : (x + 1) * 2 ^ m ≤ 2 ^ (len8.getD x 0).toNat * 2 ^ m := Nat.mul_le_mul_right _ t1
    rw [Nat.pow_add, Nat.mul_comm (2 ^ m)]
    rw [Nat.add_mul] at h3
    omega
  · rcases Nat.eq_zero_or_pos x with h0 | h0
    · have hm0 : m = 0 := by omega
      subst hm0
      simp at hx
      omega
    · have h3 := Nat.mul_le_mul_left (2 ^ m) (t2 h0)
      have h4 : 2 ^ m * x ≤ n := by rw [hx]; exact Nat.mul_div_le n (2 ^ m)
      rw [Nat.pow_add]
      rw [Nat.mul_left_comm] at h3
      omega
theorem ok_math_bits_Len {n : Nat} (hn : n < 2 ^ 63) (w : World) : Cal Try.prog f_math_bits_Len #[.int .u64 (n : Int)] w fun r w' => Ext w w' ∧ ∃ k : Nat, r = .int .i64 (k : Int) ∧ n < 2 ^ k ∧ (1 ≤ n → 2 ^ k ≤ 2 * n) ∧ k ≤ 64 := by
  apply c_math_bits_Len; unfold S_math_bits_Len
  exact iCall (ok_math_bits_Len64 hn w)
end Go.Proofs.Ytfhdhdgabdpmkaa

/- Contracts: the helpers of pdqsort that draw places. Conditions: none. -/
namespace Go.Vc
theorem iAndV {a : Int} {m : Nat} {K : Value → Prop} (hm : m < 2 ^ 64) (h : ∀ x : Nat, x ≤ m → K (.int .u64 (x : Int))) : xBits iAnd .u64 (.int .u64 a) (.int .u64 (m : Int)) K := by
  refine ⟨_, _, rfl, rfl, ?_⟩
  have e : iAnd .u64 a (m : Int) = (((BitVec.ofInt 64 a &&& BitVec.ofInt 64 (m : Int)).toNat : Nat) : Int) := by
    rw [show iAnd .u64 a (m : Int) = IntKind.u64.wrap ((BitVec.ofInt 64 a &&& BitVec.ofInt 64 (m : Int)).toNat : Nat) from rfl]
    exact IntWalk.u64_in _ (by have := (BitVec.ofInt 64 a &&& BitVec.ofInt 64 (m : Int)).isLt; omega)
  rw [e]
  refine h _ ?_
  rw [BitVec.toNat_and, ofInt_nat, BitVec.toNat_ofNat, Nat.mod_eq_of_lt (a := m) (by omega)]
  exact Nat.and_le_right
theorem iStC {e : TypeId} {w : World} {b : Nat} {old v : Value} {K : World → Prop} (hb : Blk e w b [old]) (hv : isCell v = true) (h : ∀ w', Blk e w' b [v] → Ch (fun c => c = b) w w' → K w') : xSt w (.pointer (some ⟨b, 0, none⟩)) v K :=
  iStB hb (by simp) hv fun h2 => h _ h2 ((Upd.setCell w b 0 v).ch rfl)
end Go.Vc
namespace Go.Proofs.Ytfhdhdgabdpmkaa
open Go.Vc
theorem ok_slices_nextPowerOfTwo {n : Nat} (h1 : 1 ≤ n) (hn : n ≤ 1152921504606846976) (w : World) : Cal Try.prog f_slices_nextPowerOfTwo #[.int .i64 (n : Int)] w fun r w' => Ext w w' ∧ ∃ m : Nat, r = .int .u64 (m : Int) ∧ 1 ≤ m ∧ m ≤ 2 * n := by
  apply c_slices_nextPowerOfTwo; unfold S_slices_nextPowerOfTwo
  refine iConvU (by omega) ?_
  refine iCall ?_
  refine (ok_math_bits_Len (by omega) w).mono fun r w1 h => ?_
  obtain ⟨h1', k, rfl, hk1, hk2, hk3⟩ := h
  have hk := hk2 h1
  refine ⟨_, _, _, rfl, rfl, by omega, ?_⟩
  have e : iShl .u64 1 (k : Int) = ((2 ^ k : Nat) : Int) := by
    rw [show iShl .u64 1 (k : Int) = IntKind.u64.wrap (1 * 2 ^ min (k : Int).toNat 64) from rfl, Int.toNat_natCast, Nat.min_eq_left hk3, Int.one_mul, show ((2 : Int) ^ k) = ((2 ^ k : Nat) : Int) by push_cast; rfl]
    exact IntWalk.u64_in _ (by omega)
  rw [e]
  exact ⟨h1', 2 ^ k, rfl, Nat.two_pow_pos k, hk⟩
theorem ok_slices_xorshift_Next {e : TypeId} {w : World} {b : Nat} {x : Int} (hb : Blk e w b [.int .u64 x]) : Cal Try.prog f_slices_xorshift_Next #[.pointer (some ⟨b, 0, none⟩)] w fun r w' => ∃ y : Int, r = .int .u64 y ∧ Blk e w' b [.int .u64 y] ∧ Ch (fun c => c = b) w w' := by
  apply c_slices_xorshift_Next; unfold S_slices_xorshift_Next
  ((with_reducible refine iNil ?_); refine iLdB (by assumption) (by first | rfl | simp) ?_; (with_reducible refine iNil ?_); refine iLdB (by assumption) (by first | rfl | simp) ?_)
  refine ⟨_, _, _, rfl, rfl, by omega, ?_⟩
  refine ⟨_, _, rfl, rfl, ?_⟩
  ((with_reducible refine iNil ?_))
  intro w1 h1
  refine iStC (hb.ext h1) rfl fun w2 hb2 h2 => ?_
  intro w3 h3
  have hb3 := hb2.ext h3
  have c3 := ch_ext ((h1.ch.trans h2 fun _ e => .inl e)) h3
  clear hb2 h2
  ((with_reducible refine iNil ?_); refine iLdB (by assumption) (by first | rfl | simp) ?_; (with_reducible refine iNil ?_); refine iLdB (by assumption) (by first | rfl | simp) ?_)
  refine ⟨_, _, _, rfl, rfl, by omega, ?_⟩
  refine ⟨_, _, rfl, rfl, ?_⟩
  ((with_reducible refine iNil ?_))
  intro w4 h4
  refine iStC (hb3.ext h4) rfl fun w5 hb5 h5 => ?_
  intro w6 h6
  have hb6 := hb5.ext h6
  have c6 := ch_ext (ch_self (ch_ext c3 h4) h5) h6
  clear hb5 hb3 hb c3
  ((with_reducible refine iNil ?_); refine iLdB (by assumption) (by first | rfl | simp) ?_; (with_reducible refine iNil ?_); refine iLdB (by assumption) (by first | rfl | simp) ?_)
  refine ⟨_, _, _, rfl, rfl, by omega, ?_⟩
  refine ⟨_, _, rfl, rfl, ?_⟩
  ((with_reducible refine iNil ?_))
  intro w7 h7
  refine iStC (hb6.ext h7) rfl fun w8 hb8 h8 => ?_
  intro w9 h9
  have hb9 := hb8.ext h9
  have c9 := ch_ext (ch_self (ch_ext c6 h7) h8) h9
  clear hb8 hb6 c6
  ((with_reducible refine iNil ?_); refine iLdB (by assumption) (by first | rfl | simp) ?_)
  exact ⟨_, rfl, hb9, c9⟩
theorem ok_slices_breakPatternsCmpFunc_Si64 {lo : Nat} {w : World} {v : Value} {L : List VL} {a b : Nat} (hs : Ow lo t_Si64 w v (evL L)) (hab : a ≤ b) (hb : b ≤ L.length) (hL : L.length ≤ 1152921504606846976) :
    Cal Try.prog f_slices_breakPatternsCmpFunc_Si64 #[v, .int .i64 (a : Int), .int .i64 (b : Int), cmpV] w fun _ w' => ∃ L', Turn lo t_Si64 encV v w w' L' ∧ SwR a b L L' := by
  apply c_slices_breakPatternsCmpFunc_Si64; unfold S_slices_breakPatternsCmpFunc_Si64
  obtain ⟨n, rfl⟩ : ∃ n, b = a + n := ⟨b - a, by omega⟩
  refine iSub (by omega) ?_
  rw [show ((a + n : Nat) : Int) - a = (n : Int) by omega]
  refine iLe ?_
  refine iCndP (fun h => ?_) (fun h => ?_)
  · refine iConvU (by omega) ?_
    refine iNew fun c w1 hc1 h1 hb1 => ?_
    refine iStB hb1 (by simp [Value.cells]) rfl fun hb2 => ?_
    have x2 : Ext w (w1.setCell ⟨c, 0, none⟩ (.int .u64 (n : Int))) := ext_set h1 (by show w.heap.size ≤ c; omega) _
    refine iCall ?_
    refine (ok_slices_nextPowerOfTwo (by omega) (by omega) _).mono fun r w3 h3 => ?_
    obtain ⟨h3, m, rfl, hm1, hm2⟩ := h3
    have hb3 := hb2.ext h3
    have hs3 := (hs.ext x2).ext h3
    have hne : v.ownBlock ≠ some c := hs.lt (by omega)
    refine iQuo (by omega) ?_
    refine iMul (by omega) ?_
    refine iAdd (by omega) ?_
    refine iSub (by omega) ?_
    refine iLp (fun i : Nat => [.int .i64 (i : Int)]) (fun i w' => a + n / 4 * 2 - 1 ≤ i ∧ (∃ x, Blk 92 w' c [.int .u64 x]) ∧ ∃ L', Turn lo t_Si64 encV v w w' L' ∧ SwR a (a + n) L L') (fun i => a + n - i) (a + n / 4 * 2 - 1) (by congr 2; omega)
      ⟨Nat.le_refl _, ⟨_, hb3⟩, L, ⟨hs3, ((x2.trans h3).ch)⟩, .refl⟩ ?_
    rintro i w5 Kn ⟨hi, ⟨x, hb5⟩, L1, ht1, hw1⟩ hKn
    have hl1 := hw1.len
    intro _
    simp only [gx]
    refine iQuo (by omega) ?_
    refine iMul (by omega) ?_
    refine iAdd (by omega) ?_
    refine iAdd (by omega) ?_
    refine iLe ?_
    refine iCndP (fun h5 => ?_) (fun h5 => ?_)
    · refine iCall ?_
      refine (ok_slices_xorshift_Next hb5).mono fun r w6 h6 => ?_
      obtain ⟨y, rfl, hb6, hc6⟩ := h6
      have hs6 := ht1.ow.ch hc6 fun c' hc' e => hne (e ▸ hc')
      refine ⟨_, _, rfl, rfl, ?_⟩
      rw [show IntKind.u64.wrap ((m : Int) - 1) = ((m - 1 : Nat) : Int) by rw [IntWalk.u64_in _ (by omega)]; omega]
      refine iAndV (by omega) fun x hx => ?_
      refine iConv64 (by omega) ?_
      refine iLe ?_
      refine iJnX (fun xs w8 => Ext w6 w8 ∧ ∃ z : Nat, xs = [.int .i64 (z : Int)] ∧ z < n) (fun J hJ => ?_) ?_
      · refine iCndP (fun h7 => ?_) (fun h7 => ?_)
        · refine iSub (by omega) ?_
          rw [show (x : Int) - n = ((x - n : Nat) : Int) by omega]
          exact hJ _ _ ⟨Ext.refl _, x - n, rfl, by omega⟩
        · exact hJ _ _ ⟨Ext.refl _, x, rfl, by omega⟩
      rintro xs w8 ⟨h8, z, rfl, hz⟩
      intro _
      simp only [gx]
      have hs8 := hs6.ext h8
      have hb8 := hb6.ext h8
      have hc8 := ch_ext hc6 h8
      refine iAdd (by omega) ?_
      refine iAdd (by omega) ?_
      refine iRdO (j := a + z) hs8 (by omega) (by omega) ?_
      refine iRdO (j := i) hs8 rfl (by omega) ?_
      refine iWr2 (i := i) (j := a + z) encV_cell hs8 rfl (by omega) (by omega) (by omega) fun w13 h13 => ?_
      refine iAdd (by omega) ?_
      refine hKn (i + 1) _ ⟨by omega, ⟨_, hb8.ch h13.ch fun e => hne e⟩, sw L1 i (a + z), ⟨h13.ow, ?_⟩, .step hw1 (by omega) (by omega) (by omega) (by omega) hb⟩ (by omega)
      refine (ht1.ch.trans hc8 fun c' e => .inr ?_).trans h13.ch fun _ e => .inl e
      omega
    · exact ⟨L1, ht1, hw1⟩
  · exact ⟨L, Turn.refl hs, .refl⟩
end Go.Proofs.Ytfhdhdgabdpmkaa

/- Contracts: pivots, partitions and the trial of insertion of pdqsort. Conditions: none. -/
namespace Go.Proofs.Ytfhdhdgabdpmkaa
open Go.Vc
theorem ok_slices_order2CmpFunc_Si64 {lo : Nat} {e : TypeId} {w : World} {v : Value} {L : List VL} {i j c n : Nat} (hs : Ow lo t_Si64 w v (evL L)) (hrw : RowsV t_i64 w L) (hi : i < L.length) (hj : j < L.length) (_hte : t_i64 ≠ e) (hb : Blk e w c [.int .i64 (n : Int)]) (hn : n ≤ 1000) :
    Cal Try.prog f_slices_order2CmpFunc_Si64 #[v, .int .i64 (i : Int), .int .i64 (j : Int), .pointer (some ⟨c, 0, none⟩), cmpV] w fun r w' => ∃ i' j' m : Nat, r = .tuple #[.int .i64 (i' : Int), .int .i64 (j' : Int)] ∧ ((i' = i ∧ j' = j) ∨ (i' = j ∧ j' = i)) ∧ m ≤ n + 1 ∧ Blk e w' c [.int .i64 (m : Int)] ∧ Ch (fun d => d = c) w w' := by
  apply c_slices_order2CmpFunc_Si64; unfold S_slices_order2CmpFunc_Si64
  refine iRdO (j := j) hs rfl hj ?_
  refine iRdO (j := i) hs rfl hi ?_
  refine iCm hrw (by omega) (by omega) fun w1 h1 => ?_
  have hb1 := hb.ext h1
  refine iCnd (fun h => ?_) (fun h => ?_)
  · ((with_reducible refine iNil ?_); refine iLdB (by assumption) (by first | rfl | simp) ?_; refine iAdd (by omega) ?_; (with_reducible refine iNil ?_))
    refine iStC hb1 rfl fun w2 hb2 hc2 => ?_
    exact ⟨j, i, n + 1, rfl, .inr ⟨rfl, rfl⟩, Nat.le_refl _, hb2, (h1.ch.trans hc2 fun _ e => .inl e)⟩
  · exact ⟨i, j, n, rfl, .inl ⟨rfl, rfl⟩, by omega, hb1, h1.ch⟩
theorem ok_slices_medianCmpFunc_Si64 {lo : Nat} {e : TypeId} {w : World} {v : Value} {L : List VL} {i j k c n : Nat} (hs : Ow lo t_Si64 w v (evL L)) (hrw : RowsV t_i64 w L) (hne : v.ownBlock ≠ some c) (hi : i < L.length) (hj : j < L.length) (hk : k < L.length) (hte : t_i64 ≠ e) (hb : Blk e w c [.int .i64 (n : Int)]) (hn : n ≤ 900) :
    Cal Try.prog f_slices_medianCmpFunc_Si64 #[v, .int .i64 (i : Int), .int .i64 (j : Int), .int .i64 (k : Int), .pointer (some ⟨c, 0, none⟩), cmpV] w fun r w' => ∃ t m : Nat, r = .int .i64 (t : Int) ∧ (t = i ∨ t = j ∨ t = k) ∧ m ≤ n + 3 ∧ Blk e w' c [.int .i64 (m : Int)] ∧ Ch (fun d => d = c) w w' := by
  apply c_slices_medianCmpFunc_Si64; unfold S_slices_medianCmpFunc_Si64
  refine iCall ?_
  refine (ok_slices_order2CmpFunc_Si64 hs hrw hi hj hte hb (by omega)).mono fun r w1 h1 => ?_
  obtain ⟨i1, j1, n1, rfl, h1, hn1, hb1, hc1⟩ := h1
  have hs1 := hs.ch hc1 fun d hd e => hne (e ▸ hd)
  have hrw1 := hrw.ch hb hte hc1
  ((with_reducible refine iE20 ?_; refine iE21 ?_))
  refine iCall ?_
  refine (ok_slices_order2CmpFunc_Si64 (i := j1) hs1 hrw1 (by rcases h1 with h | h <;> omega) hk hte hb1 (by omega)).mono fun r w2 h2 => ?_
  obtain ⟨j2, k2, n2, rfl, h2, hn2, hb2, hc2⟩ := h2
  have hs2 := hs1.ch hc2 fun d hd e => hne (e ▸ hd)
  have hrw2 := hrw1.ch hb1 hte hc2
  ((with_reducible refine iE20 ?_; refine iE21 ?_))
  refine iCall ?_
  refine (ok_slices_order2CmpFunc_Si64 (i := i1) (j := j2) hs2 hrw2 (by rcases h1 with h | h <;> omega) (by rcases h1 with h | h <;> rcases h2 with h' | h' <;> omega) hte hb2 (by omega)).mono fun r w3 h3 => ?_
  obtain ⟨i3, j3, n3, rfl, h3, hn3, hb3, hc3⟩ := h3
  ((with_reducible refine iE20 ?_; refine iE21 ?_))
  exact ⟨j3, n3, rfl, by rcases h1 with h | h <;> rcases h2 with h' | h' <;> rcases h3 with h'' | h'' <;> omega, by omega, hb3, ch_self (ch_self hc1 hc2) hc3⟩
theorem ok_slices_medianAdjacentCmpFunc_Si64 {lo : Nat} {e : TypeId} {w : World} {v : Value} {L : List VL} {i c n : Nat} (hs : Ow lo t_Si64 w v (evL L)) (hrw : RowsV t_i64 w L) (hne : v.ownBlock ≠ some c) (h1 : 1 ≤ i) (hi : i + 1 < L.length) (hL : L.length ≤ 1152921504606846976) (hte : t_i64 ≠ e) (hb : Blk e w c [.int .i64 (n : Int)]) (hn : n ≤ 900) :
    Cal Try.prog f_slices_medianAdjacentCmpFunc_Si64 #[v, .int .i64 (i : Int), .pointer (some ⟨c, 0, none⟩), cmpV] w fun r w' => ∃ t m : Nat, r = .int .i64 (t : Int) ∧ (t = i - 1 ∨ t = i ∨ t = i + 1) ∧ m ≤ n + 3 ∧ Blk e w' c [.int .i64 (m : Int)] ∧ Ch (fun d => d = c) w w' := by
  apply c_slices_medianAdjacentCmpFunc_Si64; unfold S_slices_medianAdjacentCmpFunc_Si64
  (refine iSub (by omega) ?_; refine iAdd (by omega) ?_)
  rw [show (i : Int) - 1 = ((i - 1 : Nat) : Int) by omega]
  refine iCall ?_
  exact ok_slices_medianCmpFunc_Si64 (i := i - 1) (j := i) (k := i + 1) hs hrw hne (by omega) (by omega) hi hte hb hn
theorem ok_slices_choosePivotCmpFunc_Si64 {lo : Nat} {w : World} {v : Value} {L : List VL} {a b : Nat} (hs : Ow lo t_Si64 w v (evL L)) (hrw : RowsV t_i64 w L) (hab : a + 8 ≤ b) (hb : b ≤ L.length) (hL : L.length ≤ 1152921504606846976) :
    Cal Try.prog f_slices_choosePivotCmpFunc_Si64 #[v, .int .i64 (a : Int), .int .i64 (b : Int), cmpV] w fun r w' => Ext w w' ∧ ∃ t : Nat, ∃ x : Int, r = .tuple #[.int .i64 (t : Int), .int .i64 x] ∧ a ≤ t ∧ t < b := by
  apply c_slices_choosePivotCmpFunc_Si64; unfold S_slices_choosePivotCmpFunc_Si64
  obtain ⟨n, rfl⟩ : ∃ n, b = a + n := ⟨b - a, by omega⟩
  refine iSub (by omega) ?_
  rw [show ((a + n : Nat) : Int) - a = (n : Int) by omega]
  refine iNew fun c w1 hc1 h1 hb1 => ?_
  have hne : v.ownBlock ≠ some c := hs.lt (by omega)
  have hs1 := hs.ext h1
  have hrw1 := hrw.ext h1
  have new : ∀ {w' : World}, Ch (fun d => d = c) w1 w' → Ext w w' := fun {w'} h => h1.thenCh h fun d e => by omega
  refine iQuo (by omega) ?_
  refine iMul (by omega) ?_
  refine iAdd (by omega) ?_
  refine iQuo (by omega) ?_
  refine iMul (by omega) ?_
  refine iAdd (by omega) ?_
  refine iQuo (by omega) ?_
  refine iMul (by omega) ?_
  refine iAdd (by omega) ?_
  refine iLe ?_
  rw [show (a : Int) + (n : Int) / 4 * 1 = ((a + n / 4 * 1 : Nat) : Int) by omega, show (a : Int) + (n : Int) / 4 * 2 = ((a + n / 4 * 2 : Nat) : Int) by omega, show (a : Int) + (n : Int) / 4 * 3 = ((a + n / 4 * 3 : Nat) : Int) by omega]
  refine iJnX (fun xs w' => ∃ t m : Nat, xs = [.int .i64 (t : Int)] ∧ a ≤ t ∧ t < a + n ∧ Blk 3 w' c [.int .i64 (m : Int)] ∧ Ch (fun d => d = c) w1 w') (fun J hJ => ?_) ?_
  · refine iCndP (fun h => ?_) (fun h => ?_)
    · refine iLe ?_
      refine iJnX (fun xs w' => ∃ i j k m : Nat, xs = [.int .i64 (i : Int), .int .i64 (j : Int), .int .i64 (k : Int)] ∧ a ≤ i ∧ i < a + n ∧ a ≤ j ∧ j < a + n ∧ a ≤ k ∧ k < a + n ∧ m ≤ 9 ∧ Blk 3 w' c [.int .i64 (m : Int)] ∧ Ch (fun d => d = c) w1 w') (fun J' hJ' => ?_) ?_
      · refine iCndP (fun h5 => ?_) (fun h5 => ?_)
        · refine iCall ?_
          refine (ok_slices_medianAdjacentCmpFunc_Si64 (n := 0) hs1 hrw1 hne (by omega) (by omega) hL (by decide) hb1 (by omega)).mono fun r w2 h2 => ?_
          obtain ⟨i, m1, rfl, hi, hm1, hb2, hc2⟩ := h2
          have hs2 := hs1.ch hc2 fun d hd e => hne (e ▸ hd)
          have hrw2 := hrw1.ch hb1 (by decide) hc2
          refine iCall ?_
          refine (ok_slices_medianAdjacentCmpFunc_Si64 hs2 hrw2 hne (by omega) (by omega) hL (by decide) hb2 (by omega)).mono fun r w3 h3 => ?_
          obtain ⟨j, m2, rfl, hj, hm2, hb3, hc3⟩ := h3
          have hs3 := hs2.ch hc3 fun d hd e => hne (e ▸ hd)
          have hrw3 := hrw2.ch hb2 (by decide) hc3
          refine iCall ?_
          refine (ok_slices_medianAdjacentCmpFunc_Si64 hs3 hrw3 hne (by omega) (by omega) hL (by decide) hb3 (by omega)).mono fun r w4 h4 => ?_
          obtain ⟨k, m3, rfl, hk, hm3, hb4, hc4⟩ := h4
          exact hJ' _ _ ⟨i, j, k, m3, rfl, by omega, by omega, by omega, by omega, by omega, by omega, by omega, hb4, ch_self (ch_self hc2 hc3) hc4⟩
        · exact hJ' _ _ ⟨_, _, _, 0, rfl, by omega, by omega, by omega, by omega, by omega, by omega, by omega, hb1, (Ext.refl _).ch⟩
      rintro xs w5 ⟨i, j, k, m, rfl, h11, h12, h21, h22, h31, h32, hm, hb5, hc5⟩
      intro _
      simp only [gx]
      have hs5 := hs1.ch hc5 fun d hd e => hne (e ▸ hd)
      have hrw5 := hrw1.ch hb1 (by decide) hc5
      refine iCall ?_
      refine (ok_slices_medianCmpFunc_Si64 hs5 hrw5 hne (i := i) (j := j) (k := k) (by omega) (by omega) (by omega) (by decide) hb5 (by omega)).mono fun r w6 h6 => ?_
      obtain ⟨t, m', rfl, ht, hm', hb6, hc6⟩ := h6
      exact hJ _ _ ⟨t, m', rfl, by omega, by omega, hb6, ch_self hc5 hc6⟩
    · omega
  rintro xs w3 ⟨t, m, rfl, ht1, ht2, hb3, hc3⟩
  intro _
  simp only [gx]
  (refine iLdB (by assumption) (by first | rfl | simp) ?_; (with_reducible refine iEq ?_))
  refine iCndP (fun h => ?_) (fun h => ?_)
  · exact ⟨new hc3, t, 1, rfl, ht1, ht2⟩
  · ((with_reducible refine iEq ?_))
    refine iCndP (fun h => ?_) (fun h => ?_)
    · exact ⟨new hc3, t, 2, rfl, ht1, ht2⟩
    · exact ⟨new hc3, t, 0, rfl, ht1, ht2⟩
theorem ok_slices_partitionEqualCmpFunc_Si64 {lo : Nat} {w : World} {v : Value} {L : List VL} {a b t : Nat} (hs : Ow lo t_Si64 w v (evL L)) (hrw : RowsV t_i64 w L) (hat : a ≤ t) (htb : t < b) (hb : b ≤ L.length) (hL : L.length ≤ 1152921504606846976) :
    Cal Try.prog f_slices_partitionEqualCmpFunc_Si64 #[v, .int .i64 (a : Int), .int .i64 (b : Int), .int .i64 (t : Int), cmpV] w fun r w' => ∃ L' : List VL, ∃ m : Nat, r = .int .i64 (m : Int) ∧ Turn lo t_Si64 encV v w w' L' ∧ SwR a b L L' ∧ a < m ∧ m ≤ b ∧ (∀ k, a ≤ k → k < m → ltV (gt L t) (gt L' k) = false) := by
  apply c_slices_partitionEqualCmpFunc_Si64; unfold S_slices_partitionEqualCmpFunc_Si64
  refine iRdO (j := t) hs rfl (by omega) ?_
  refine iRdO (j := a) hs rfl (by omega) ?_
  refine iWr2 (i := a) (j := t) encV_cell hs rfl rfl (by omega) (by omega) fun w5 h5 => ?_
  have e0 : gt (sw L a t) a = gt L t := by rw [gt_sw (by omega) (by omega)]; split <;> simp_all
  (refine iAdd (by omega) ?_; refine iSub (by omega) ?_)
  refine iLp (fun s : Nat × Int => [.int .i64 (s.1 : Int), .int .i64 s.2]) (fun s w' => a + 1 ≤ s.1 ∧ s.1 ≤ b ∧ (s.1 : Int) - 1 ≤ s.2 + 1 ∧ s.2 < b ∧ ∃ L', Turn lo t_Si64 encV v w w' L' ∧ SwR a b L L' ∧ gt L' a = gt L t ∧ ∀ k, a ≤ k → k < s.1 → ltV (gt L t) (gt L' k) = false) (fun s => b - s.1) (a + 1, (b : Int) - 1) rfl
    ⟨Nat.le_refl _, by show a + 1 ≤ b; omega, by show ((a + 1 : Nat) : Int) - 1 ≤ (b : Int) - 1 + 1; omega, by show (b : Int) - 1 < b; omega, sw L a t, h5, .one (Nat.le_refl _) (by omega) hat htb hb, e0, fun k h1 h2 => by have h2 : k < a + 1 := h2; rw [show k = a by omega, e0]; exact ordrV.rfl _⟩ ?_
  rintro ⟨i0, j0⟩ w7 Kn ⟨hi0, hib0, hij0, hjb0, L1, ht1, hw1, he1, hq1⟩ hKn
  have hi0 : a + 1 ≤ i0 := hi0
  have hib0 : i0 ≤ b := hib0
  have hij0 : (i0 : Int) - 1 ≤ j0 + 1 := hij0
  have hjb0 : j0 < b := hjb0
  have hq1 : ∀ k, a ≤ k → k < i0 → ltV (gt L t) (gt L1 k) = false := hq1
  have hl1 := hw1.len
  intro _
  simp only [gx]
  refine iLp (fun i : Nat => [.int .i64 (i : Int)]) (fun i w' => i0 ≤ i ∧ i ≤ b ∧ (i : Int) - 1 ≤ j0 + 1 ∧ Ext w7 w' ∧ ∀ k, a ≤ k → k < i → ltV (gt L t) (gt L1 k) = false) (fun i => b - i) i0 rfl ⟨Nat.le_refl _, hib0, hij0, Ext.refl _, hq1⟩ ?_
  rintro i w9 Kn9 ⟨hi, hib, hij, h9, hq⟩ hKn9
  intro _
  simp only [gx]
  have ht9 := ht1.ext h9
  refine iJnB (decide ((i : Int) ≤ j0) && !ltV (gt L1 a) (gt L1 i)) w9 (fun J hJ => ?_) (fun w11 h11 => ?_)
  · refine iLe ?_
    refine iCndP (fun h => ?_) (fun h => ?_)
    · rw [decide_eq_true h, Bool.true_and] at hJ
      refine iRdO (j := a) ht9.ow rfl (by omega) ?_
      refine iRdO (j := i) ht9.ow rfl (by omega) ?_
      exact iCmN (hrw.turn hs (by decide) ht9 hw1.perm) (by omega) (by omega) hJ
    · rw [decide_eq_false h, Bool.false_and] at hJ
      exact fun _ x8 _ x9 => hJ _ (x8.trans x9)
  intro _
  simp only [gx]
  have h9' := h9.trans h11
  cases hc : decide ((i : Int) ≤ j0) && !ltV (gt L1 a) (gt L1 i)
  rotate_left
  · rw [Bool.and_eq_true, decide_eq_true_eq, Bool.not_eq_true'] at hc
    refine iCndT rfl ?_
    (refine iAdd (by omega) ?_)
    refine hKn9 (i + 1) _ ⟨by omega, by omega, by omega, h9', fun k h1 h2 => ?_⟩ (by omega)
    by_cases hk : k = i
    · rw [hk, ← he1]; exact hc.2
    · exact hq k h1 (by omega)
  refine iCndF rfl ?_
  refine iLp (fun j : Int => [.int .i64 j]) (fun j w' => j ≤ j0 ∧ (i : Int) - 1 ≤ j + 1 ∧ Ext w7 w' ∧ (j < j0 → (i : Int) - 1 ≤ j)) (fun j => (j + 2).toNat) j0 rfl ⟨Int.le_refl _, hij, h9', fun h => by omega⟩ ?_
  rintro j w15 Kn15 ⟨hjj, hij2, h15, hij3⟩ hKn15
  intro _
  simp only [gx]
  have ht15 := ht1.ext h15
  refine iJnB (decide ((i : Int) ≤ j) && ltV (gt L1 a) (gt L1 j.toNat)) w15 (fun J hJ => ?_) (fun w17 h17 => ?_)
  · refine iLe ?_
    refine iCndP (fun h => ?_) (fun h => ?_)
    · rw [decide_eq_true h, Bool.true_and] at hJ
      refine iRdO (j := a) ht15.ow rfl (by omega) ?_
      refine iRdO (j := j.toNat) ht15.ow (by omega) (by omega) ?_
      exact iCm (hrw.turn hs (by decide) ht15 hw1.perm) (by omega) (by omega) hJ
    · rw [decide_eq_false h, Bool.false_and] at hJ
      exact fun _ x8 _ x9 => hJ _ (x8.trans x9)
  intro _
  simp only [gx]
  have ht17 := ht15.ext h17
  cases hc2 : decide ((i : Int) ≤ j) && ltV (gt L1 a) (gt L1 j.toNat)
  rotate_left
  · rw [Bool.and_eq_true, decide_eq_true_eq] at hc2
    refine iCndT rfl ?_
    refine iSub (by omega) ?_
    exact hKn15 (j - 1) _ ⟨by omega, by omega, h15.trans h17, fun _ => by omega⟩ (by omega)
  refine iCndF rfl ?_
  refine iLt ?_
  refine iCndP (fun h => ?_) (fun h => ?_)
  · exact ⟨L1, i, rfl, ht17, hw1, by omega, hib, hq⟩
  · have hlt : ltV (gt L1 a) (gt L1 j.toNat) = false := by
      rw [decide_eq_true (show (i : Int) ≤ j by omega), Bool.true_and] at hc2; exact hc2
    refine iRdO (j := j.toNat) ht17.ow (by omega) (by omega) ?_
    refine iRdO (j := i) ht17.ow rfl (by omega) ?_
    refine iWr2 (i := i) (j := j.toNat) encV_cell ht17.ow rfl (by omega) (by omega) (by omega) fun w24 h24 => ?_
    refine iAdd (by omega) ?_
    refine iSub (by omega) ?_
    have eS : ∀ k, gt (sw L1 i j.toNat) k = if k = j.toNat then gt L1 i else if k = i then gt L1 j.toNat else gt L1 k := gt_sw (by omega) (by omega)
    refine hKn (i + 1, j - 1) _ ⟨by show a + 1 ≤ i + 1; omega, by show i + 1 ≤ b; omega, by show ((i + 1 : Nat) : Int) - 1 ≤ j - 1 + 1; omega, by show j - 1 < b; omega, sw L1 i j.toNat, ht17.trans h24, .step hw1 (by omega) (by omega) (by omega) (by omega) hb, by rw [eS, if_neg (by omega), if_neg (by omega)]; exact he1, fun k h1 h2 => ?_⟩ (by show b - (i + 1) < b - i0; omega)
    have h2 : k < i + 1 := h2
    rw [eS]
    by_cases hk : k = i
    · subst hk
      split
      · rename_i hkj; rw [← hkj, he1] at hlt; exact hlt
      · rw [if_pos rfl, ← he1]; exact hlt
    · rw [if_neg (by omega), if_neg hk]; exact hq k h1 (by omega)
end Go.Proofs.Ytfhdhdgabdpmkaa

/- Contracts: partition, the trial of insertion and pdqsort itself, on strings. Conditions: none. -/
namespace Go.Vc
theorem part_end {L : List VL} {a b j : Nat} {pv : VL} (haj : a ≤ j) (hjb : j < b) (hb : b ≤ L.length) (he : gt L a = pv) (h1 : ∀ k, a + 1 ≤ k → k ≤ j → ltV (gt L k) pv = true) (h2 : ∀ k, j < k → k < b → ltV (gt L k) pv = false) : Parted ltV a b j (sw L j a) := by
  have e : ∀ k, gt (sw L j a) k = if k = a then gt L j else if k = j then gt L a else gt L k := gt_sw (by omega) (by omega)
  have ej : gt (sw L j a) j = pv := by
    rw [e]
    split
    · rename_i h; rw [h]; exact he
    · rw [if_pos rfl]; exact he
  refine ⟨fun k hk hk' => ?_, fun k hk hk' => ?_⟩
  · rw [ej, e]
    by_cases hka : k = a
    · rw [if_pos hka]; exact h1 j (by omega) (Nat.le_refl _)
    · rw [if_neg hka, if_neg (by omega)]; exact h1 k (by omega) (by omega)
  · rw [ej, e, if_neg (by omega), if_neg (by omega)]; exact h2 k hk hk'
end Go.Vc
namespace Go.Proofs.Ytfhdhdgabdpmkaa
open Go.Vc
theorem ok_slices_partitionCmpFunc_Si64 {lo : Nat} {w : World} {v : Value} {L : List VL} {a b t : Nat} (hs : Ow lo t_Si64 w v (evL L)) (hrw : RowsV t_i64 w L) (hat : a ≤ t) (htb : t < b) (hb : b ≤ L.length) (hL : L.length ≤ 1152921504606846976) :
    Cal Try.prog f_slices_partitionCmpFunc_Si64 #[v, .int .i64 (a : Int), .int .i64 (b : Int), .int .i64 (t : Int), cmpV] w fun r w' => ∃ L' : List VL, ∃ m : Nat, ∃ y : Bool, r = .tuple #[.int .i64 (m : Int), .bool y] ∧ Turn lo t_Si64 encV v w w' L' ∧ SwR a b L L' ∧ a ≤ m ∧ m < b ∧ Parted ltV a b m L' := by
  apply c_slices_partitionCmpFunc_Si64; unfold S_slices_partitionCmpFunc_Si64
  refine iRdO (j := t) hs rfl (by omega) ?_
  refine iRdO (j := a) hs rfl (by omega) ?_
  refine iWr2 (i := a) (j := t) encV_cell hs rfl rfl (by omega) (by omega) fun w7 h5 => ?_
  have h5 : Turn lo t_Si64 encV v w w7 (sw L a t) := h5
  have e0 : gt (sw L a t) a = gt L t := by rw [gt_sw (by omega) (by omega)]; split <;> simp_all
  have hw0 : SwR a b L (sw L a t) := .one (Nat.le_refl _) (by omega) hat htb hb
  have hl0 := hw0.len
  generalize sw L a t = L0 at h5 e0 hw0 hl0
  (refine iAdd (by omega) ?_; refine iSub (by omega) ?_)
  obtain ⟨i0, hi0⟩ : ∃ i0, i0 = a + 1 := ⟨_, rfl⟩
  obtain ⟨j0, hj0⟩ : ∃ j0 : Int, j0 = (b : Int) - 1 := ⟨_, rfl⟩
  rw [show (a : Int) + 1 = (i0 : Int) by omega, ← hj0]
  refine iLp (fun i : Nat => [.int .i64 (i : Int)]) (fun i w' => i0 ≤ i ∧ (i : Int) ≤ j0 + 1 ∧ Ext w7 w' ∧ ∀ k, a + 1 ≤ k → k < i → ltV (gt L0 k) (gt L t) = true) (fun i => b - i) i0 rfl ⟨Nat.le_refl _, by omega, Ext.refl _, fun k h1 h2 => by omega⟩ ?_
  rintro i w9 Kn9 ⟨hi, hij, h9, hq⟩ hKn9
  intro _
  simp only [gx]
  have ht9 := h5.ext h9
  refine iJnB (decide ((i : Int) ≤ j0) && ltV (gt L0 i) (gt L0 a)) w9 (fun J hJ => ?_) (fun w11 h11 => ?_)
  · refine iLe ?_
    refine iCndP (fun h => ?_) (fun h => ?_)
    · rw [decide_eq_true h, Bool.true_and] at hJ
      refine iRdO (j := i) ht9.ow rfl (by omega) ?_
      refine iRdO (j := a) ht9.ow rfl (by omega) ?_
      exact iCm (hrw.turn hs (by decide) ht9 hw0.perm) (by omega) (by omega) hJ
    · rw [decide_eq_false h, Bool.false_and] at hJ
      exact fun _ x8 _ x9 => hJ _ (x8.trans x9)
  intro _
  simp only [gx]
  have h9' := h9.trans h11
  cases hc : decide ((i : Int) ≤ j0) && ltV (gt L0 i) (gt L0 a)
  rotate_left
  · rw [Bool.and_eq_true, decide_eq_true_eq] at hc
    refine iCndT rfl ?_
    (refine iAdd (by omega) ?_)
    refine hKn9 (i + 1) _ ⟨by omega, by omega, h9', fun k h1 h2 => ?_⟩ (by omega)
    by_cases hk : k = i
    · rw [hk, ← e0]; exact hc.2
    · exact hq k h1 (by omega)
  refine iCndF rfl ?_
  refine iLp (fun j : Int => [.int .i64 j]) (fun j w' => j ≤ j0 ∧ (i : Int) ≤ j + 1 ∧ Ext w7 w' ∧ ∀ k : Nat, j < k → k < b → ltV (gt L0 k) (gt L t) = false) (fun j => (j + 2).toNat) j0 rfl ⟨Int.le_refl _, hij, h9', fun k h1 h2 => by omega⟩ ?_
  rintro j w15 Kn15 ⟨hjj, hij2, h15, hq2⟩ hKn15
  intro _
  simp only [gx]
  have ht15 := h5.ext h15
  refine iJnB (decide ((i : Int) ≤ j) && !ltV (gt L0 j.toNat) (gt L0 a)) w15 (fun J hJ => ?_) (fun w17 h17 => ?_)
  · refine iLe ?_
    refine iCndP (fun h => ?_) (fun h => ?_)
    · rw [decide_eq_true h, Bool.true_and] at hJ
      refine iRdO (j := j.toNat) ht15.ow (by omega) (by omega) ?_
      refine iRdO (j := a) ht15.ow rfl (by omega) ?_
      exact iCmN (hrw.turn hs (by decide) ht15 hw0.perm) (by omega) (by omega) hJ
    · rw [decide_eq_false h, Bool.false_and] at hJ
      exact fun _ x8 _ x9 => hJ _ (x8.trans x9)
  intro _
  simp only [gx]
  have ht17 := ht15.ext h17
  cases hc2 : decide ((i : Int) ≤ j) && !ltV (gt L0 j.toNat) (gt L0 a)
  rotate_left
  · rw [Bool.and_eq_true, decide_eq_true_eq, Bool.not_eq_true'] at hc2
    refine iCndT rfl ?_
    refine iSub (by omega) ?_
    refine hKn15 (j - 1) _ ⟨by omega, by omega, h15.trans h17, fun k h1 h2 => ?_⟩ (by omega)
    by_cases hk : (k : Int) = j
    · rw [show k = j.toNat by omega, ← e0]; exact hc2.2
    · exact hq2 k (by omega) h2
  refine iCndF rfl ?_
  refine iLt ?_
  refine iCndP (fun h => ?_) (fun h => ?_)
  · refine iRdO (j := a) ht17.ow rfl (by omega) ?_
    refine iRdO (j := j.toNat) ht17.ow (by omega) (by omega) ?_
    refine iWr2 (i := j.toNat) (j := a) encV_cell ht17.ow (by omega) rfl (by omega) (by omega) fun w22 h22 => ?_
    exact ⟨sw L0 j.toNat a, j.toNat, true, by rw [Int.toNat_of_nonneg (by omega)], ht17.trans h22, .step hw0 (by omega) (by omega) (Nat.le_refl _) (by omega) hb, by omega, by omega, part_end (by omega) (by omega) (by omega) e0 (fun k h1 h2 => hq k h1 (by omega)) (fun k h1 h2 => hq2 k (by omega) h2)⟩
  have hlt1 : ltV (gt L0 i) (gt L t) = false := by
    rw [decide_eq_true (show (i : Int) ≤ j0 by omega), Bool.true_and, e0] at hc; exact hc
  have hlt2 : ltV (gt L0 j.toNat) (gt L t) = true := by
    rw [decide_eq_true (show (i : Int) ≤ j by omega), Bool.true_and, Bool.not_eq_false', e0] at hc2; exact hc2
  have hne : i ≠ j.toNat := fun e => by rw [e, hlt2] at hlt1; cases hlt1
  refine iRdO (j := j.toNat) ht17.ow (by omega) (by omega) ?_
  refine iRdO (j := i) ht17.ow rfl (by omega) ?_
  refine iWr2 (i := i) (j := j.toNat) encV_cell ht17.ow rfl (by omega) (by omega) (by omega) fun w24 h24 => ?_
  refine iAdd (by omega) ?_
  refine iSub (by omega) ?_
  have eS : ∀ k, gt (sw L0 i j.toNat) k = if k = j.toNat then gt L0 i else if k = i then gt L0 j.toNat else gt L0 k := gt_sw (by omega) (by omega)
  have nx1 : ∀ k, a + 1 ≤ k → k < i + 1 → ltV (gt (sw L0 i j.toNat) k) (gt L t) = true := fun k h1 h2 => by
    rw [eS, if_neg (by omega)]
    by_cases hk : k = i
    · rw [if_pos hk]; exact hlt2
    · rw [if_neg hk]; exact hq k h1 (by omega)
  have nx2 : ∀ k : Nat, j - 1 < k → k < b → ltV (gt (sw L0 i j.toNat) k) (gt L t) = false := fun k h1 h2 => by
    rw [eS]
    by_cases hk : k = j.toNat
    · rw [if_pos hk]; exact hlt1
    · rw [if_neg hk, if_neg (by omega)]; exact hq2 k (by omega) h2
  have nxe : gt (sw L0 i j.toNat) a = gt L t := by rw [eS, if_neg (by omega), if_neg (by omega)]; exact e0
  refine iLp (fun s : Nat × Int => [.int .i64 (s.1 : Int), .int .i64 s.2]) (fun s w' => a + 1 ≤ s.1 ∧ (s.1 : Int) ≤ s.2 + 1 ∧ s.2 < b ∧ ∃ L', Turn lo t_Si64 encV v w w' L' ∧ SwR a b L L' ∧ gt L' a = gt L t ∧ (∀ k, a + 1 ≤ k → k < s.1 → ltV (gt L' k) (gt L t) = true) ∧ ∀ k : Nat, s.2 < k → k < b → ltV (gt L' k) (gt L t) = false) (fun s => b - s.1) (i + 1, j - 1) rfl
    ⟨by show a + 1 ≤ i + 1; omega, by show ((i + 1 : Nat) : Int) ≤ j - 1 + 1; omega, by show j - 1 < b; omega, sw L0 i j.toNat, ht17.trans h24, .step hw0 (by omega) (by omega) (by omega) (by omega) hb, nxe, nx1, nx2⟩ ?_
  clear hKn9 hKn15 nxe nx1 nx2 eS hq hq2
  rintro ⟨i1, j1⟩ w29 Kn ⟨hi1, hij1, hjb1, L1, ht1, hw1, he1, hq1, hq21⟩ hKn
  have hi1 : a + 1 ≤ i1 := hi1
  have hij1 : (i1 : Int) ≤ j1 + 1 := hij1
  have hjb1 : j1 < b := hjb1
  have hl1 := hw1.len
  intro _
  simp only [gx]
  refine iLp (fun i : Nat => [.int .i64 (i : Int)]) (fun i w' => i1 ≤ i ∧ (i : Int) ≤ j1 + 1 ∧ Ext w29 w' ∧ ∀ k, a + 1 ≤ k → k < i → ltV (gt L1 k) (gt L t) = true) (fun i => b - i) i1 rfl ⟨Nat.le_refl _, by omega, Ext.refl _, hq1⟩ ?_
  rintro i w9 Kn9 ⟨hi, hij, h9, hq⟩ hKn9
  intro _
  simp only [gx]
  have ht9 := ht1.ext h9
  refine iJnB (decide ((i : Int) ≤ j1) && ltV (gt L1 i) (gt L1 a)) w9 (fun J hJ => ?_) (fun w11 h11 => ?_)
  · refine iLe ?_
    refine iCndP (fun h => ?_) (fun h => ?_)
    · rw [decide_eq_true h, Bool.true_and] at hJ
      refine iRdO (j := i) ht9.ow rfl (by omega) ?_
      refine iRdO (j := a) ht9.ow rfl (by omega) ?_
      exact iCm (hrw.turn hs (by decide) ht9 hw1.perm) (by omega) (by omega) hJ
    · rw [decide_eq_false h, Bool.false_and] at hJ
      exact fun _ x8 _ x9 => hJ _ (x8.trans x9)
  intro _
  simp only [gx]
  have h9' := h9.trans h11
  cases hc : decide ((i : Int) ≤ j1) && ltV (gt L1 i) (gt L1 a)
  rotate_left
  · rw [Bool.and_eq_true, decide_eq_true_eq] at hc
    refine iCndT rfl ?_
    (refine iAdd (by omega) ?_)
    refine hKn9 (i + 1) _ ⟨by omega, by omega, h9', fun k h1 h2 => ?_⟩ (by omega)
    by_cases hk : k = i
    · rw [hk, ← he1]; exact hc.2
    · exact hq k h1 (by omega)
  refine iCndF rfl ?_
  refine iLp (fun j : Int => [.int .i64 j]) (fun j w' => j ≤ j1 ∧ (i : Int) ≤ j + 1 ∧ Ext w29 w' ∧ ∀ k : Nat, j < k → k < b → ltV (gt L1 k) (gt L t) = false) (fun j => (j + 2).toNat) j1 rfl ⟨Int.le_refl _, hij, h9', hq21⟩ ?_
  rintro j w15 Kn15 ⟨hjj, hij2, h15, hq2⟩ hKn15
  intro _
  simp only [gx]
  have ht15 := ht1.ext h15
  refine iJnB (decide ((i : Int) ≤ j) && !ltV (gt L1 j.toNat) (gt L1 a)) w15 (fun J hJ => ?_) (fun w17 h17 => ?_)
  · refine iLe ?_
    refine iCndP (fun h => ?_) (fun h => ?_)
    · rw [decide_eq_true h, Bool.true_and] at hJ
      refine iRdO (j := j.toNat) ht15.ow (by omega) (by omega) ?_
      refine iRdO (j := a) ht15.ow rfl (by omega) ?_
      exact iCmN (hrw.turn hs (by decide) ht15 hw1.perm) (by omega) (by omega) hJ
    · rw [decide_eq_false h, Bool.false_and] at hJ
      exact fun _ x8 _ x9 => hJ _ (x8.trans x9)
  intro _
  simp only [gx]
  have ht17 := ht15.ext h17
  cases hc2 : decide ((i : Int) ≤ j) && !ltV (gt L1 j.toNat) (gt L1 a)
  rotate_left
  · rw [Bool.and_eq_true, decide_eq_true_eq, Bool.not_eq_true'] at hc2
    refine iCndT rfl ?_
    refine iSub (by omega) ?_
    refine hKn15 (j - 1) _ ⟨by omega, by omega, h15.trans h17, fun k h1 h2 => ?_⟩ (by omega)
    by_cases hk : (k : Int) = j
    · rw [show k = j.toNat by omega, ← he1]; exact hc2.2
    · exact hq2 k (by omega) h2
  refine iCndF rfl ?_
  refine iLt ?_
  refine iCndP (fun h => ?_) (fun h => ?_)
  · refine iRdO (j := a) ht17.ow rfl (by omega) ?_
    refine iRdO (j := j.toNat) ht17.ow (by omega) (by omega) ?_
    refine iWr2 (i := j.toNat) (j := a) encV_cell ht17.ow (by omega) rfl (by omega) (by omega) fun w22 h22 => ?_
    exact ⟨sw L1 j.toNat a, j.toNat, false, by rw [Int.toNat_of_nonneg (by omega)], ht17.trans h22, .step hw1 (by omega) (by omega) (Nat.le_refl _) (by omega) hb, by omega, by omega, part_end (by omega) (by omega) (by omega) he1 (fun k h1 h2 => hq k h1 (by omega)) (fun k h1 h2 => hq2 k (by omega) h2)⟩
  have hlt1 : ltV (gt L1 i) (gt L t) = false := by
    rw [decide_eq_true (show (i : Int) ≤ j1 by omega), Bool.true_and, he1] at hc; exact hc
  have hlt2 : ltV (gt L1 j.toNat) (gt L t) = true := by
    rw [decide_eq_true (show (i : Int) ≤ j by omega), Bool.true_and, Bool.not_eq_false', he1] at hc2; exact hc2
  have hne : i ≠ j.toNat := fun e => by rw [e, hlt2] at hlt1; cases hlt1
  refine iRdO (j := j.toNat) ht17.ow (by omega) (by omega) ?_
  refine iRdO (j := i) ht17.ow rfl (by omega) ?_
  refine iWr2 (i := i) (j := j.toNat) encV_cell ht17.ow rfl (by omega) (by omega) (by omega) fun w24 h24 => ?_
  refine iAdd (by omega) ?_
  refine iSub (by omega) ?_
  have eS : ∀ k, gt (sw L1 i j.toNat) k = if k = j.toNat then gt L1 i else if k = i then gt L1 j.toNat else gt L1 k := gt_sw (by omega) (by omega)
  have nx1 : ∀ k, a + 1 ≤ k → k < i + 1 → ltV (gt (sw L1 i j.toNat) k) (gt L t) = true := fun k h1 h2 => by
    rw [eS, if_neg (by omega)]
    by_cases hk : k = i
    · rw [if_pos hk]; exact hlt2
    · rw [if_neg hk]; exact hq k h1 (by omega)
  have nx2 : ∀ k : Nat, j - 1 < k → k < b → ltV (gt (sw L1 i j.toNat) k) (gt L t) = false := fun k h1 h2 => by
    rw [eS]
    by_cases hk : k = j.toNat
    · rw [if_pos hk]; exact hlt1
    · rw [if_neg hk, if_neg (by omega)]; exact hq2 k (by omega) h2
  have nxe : gt (sw L1 i j.toNat) a = gt L t := by rw [eS, if_neg (by omega), if_neg (by omega)]; exact he1
  exact hKn (i + 1, j - 1) _ ⟨by show a + 1 ≤ i + 1; omega, by show ((i + 1 : Nat) : Int) ≤ j - 1 + 1; omega, by show j - 1 < b; omega, sw L1 i j.toNat, ht17.trans h24, .step hw1 (by omega) (by omega) (by omega) (by omega) hb, nxe, nx1, nx2⟩ (by show b - (i + 1) < b - i1; omega)
theorem ok_slices_partialInsertionSortCmpFunc_Si64 {lo : Nat} {w : World} {v : Value} {L : List VL} {a b : Nat} (hs : Ow lo t_Si64 w v (evL L)) (hrw : RowsV t_i64 w L) (hab : a < b) (hb : b ≤ L.length) (hL : L.length ≤ 1152921504606846976) (hbl : Blw ltV a b L) :
    Cal Try.prog f_slices_partialInsertionSortCmpFunc_Si64 #[v, .int .i64 (a : Int), .int .i64 (b : Int), cmpV] w fun r w' => ∃ y : Bool, ∃ L' : List VL, r = .bool y ∧ Turn lo t_Si64 encV v w w' L' ∧ SwR a b L L' ∧ (y = true → Srt ltV a b L') := by
  apply c_slices_partialInsertionSortCmpFunc_Si64; unfold S_slices_partialInsertionSortCmpFunc_Si64
  (refine iAdd (by omega) ?_)
  refine iLp (fun s : Nat × Nat => [.int .i64 (s.1 : Int), .int .i64 (s.2 : Int)]) (fun s w' => a + 1 ≤ s.1 ∧ s.1 ≤ b ∧ s.2 ≤ 5 ∧ ∃ L', Turn lo t_Si64 encV v w w' L' ∧ SwR a b L L' ∧ Srt ltV a s.1 L') (fun s => 5 - s.2) (a + 1, 0) rfl ⟨Nat.le_refl _, by show a + 1 ≤ b; omega, Nat.zero_le _, L, Turn.refl hs, .refl, Srt.short (Nat.le_refl _)⟩ ?_
  rintro ⟨i0, r⟩ w2 Kn ⟨hi0, hib0, hr, L1, ht1, hw1, hs1⟩ hKn
  have hi0 : a + 1 ≤ i0 := hi0
  have hib0 : i0 ≤ b := hib0
  have hr : r ≤ 5 := hr
  have hs1 : Srt ltV a i0 L1 := hs1
  have hl1 := hw1.len
  intro _
  simp only [gx]
  refine iLt ?_
  refine iCndP (fun h5 => ?_) (fun h5 => ?_)
  rotate_left
  · exact ⟨false, L1, rfl, ht1, hw1, fun h => by cases h⟩
  refine iLp (fun i : Nat => [.int .i64 (i : Int)]) (fun i w' => i0 ≤ i ∧ i ≤ b ∧ Ext w2 w' ∧ Srt ltV a i L1) (fun i => b - i) i0 rfl ⟨Nat.le_refl _, hib0, Ext.refl _, hs1⟩ ?_
  rintro i w4 Kn4 ⟨hi, hib, h4, hsi⟩ hKn4
  intro _
  simp only [gx]
  have ht4 := ht1.ext h4
  refine iJnB (decide (i < b) && !ltV (gt L1 i) (gt L1 (i - 1))) w4 (fun J hJ => ?_) (fun w6 h6 => ?_)
  · refine iLt ?_
    refine iCndP (fun h => ?_) (fun h => ?_)
    · rw [decide_eq_true (show i < b by omega), Bool.true_and] at hJ
      refine iRdO (j := i) ht4.ow rfl (by omega) ?_
      refine iSub (by omega) ?_
      refine iRdO (j := i - 1) ht4.ow (by omega) (by omega) ?_
      exact iCmN (hrw.turn hs (by decide) ht4 hw1.perm) (by omega) (by omega) hJ
    · rw [decide_eq_false (show ¬ i < b by omega), Bool.false_and] at hJ
      exact fun _ x8 _ x9 => hJ _ (x8.trans x9)
  intro _
  simp only [gx]
  have ht6 := ht4.ext h6
  cases hc : decide (i < b) && !ltV (gt L1 i) (gt L1 (i - 1))
  rotate_left
  · rw [Bool.and_eq_true, decide_eq_true_eq, Bool.not_eq_true'] at hc
    refine iCndT rfl ?_
    refine iAdd (by omega) ?_
    refine hKn4 (i + 1) _ ⟨by omega, by omega, h4.trans h6, fun p q g1 g2 g3 => ?_⟩ (by omega)
    by_cases hq : q = i
    · subst hq
      by_cases hp : p = q - 1
      · rw [hp]; exact hc.2
      · exact ordrV.tr (hsi p (q - 1) g1 (by omega) (by omega)) hc.2
    · exact hsi p q g1 g2 (by omega)
  refine iCndF rfl ?_
  refine iEq ?_
  refine iCndP (fun h => ?_) (fun h => ?_)
  · have : i = b := by omega
    subst this
    exact ⟨true, L1, rfl, ht6, hw1, fun _ => hsi⟩
  have hlt : ltV (gt L1 i) (gt L1 (i - 1)) = true := by
    rw [decide_eq_true (show i < b by omega), Bool.true_and, Bool.not_eq_false'] at hc; exact hc
  refine iSub (by omega) ?_
  refine iLt ?_
  refine iCndP (fun h7 => ?_) (fun h7 => ?_)
  · exact ⟨false, L1, rfl, ht6, hw1, fun h => by cases h⟩
  refine iSub (by omega) ?_
  refine iSub (by omega) ?_
  refine iRdO (j := i - 1) ht6.ow (by omega) (by omega) ?_
  refine iRdO (j := i) ht6.ow rfl (by omega) ?_
  refine iWr2 (i := i) (j := i - 1) encV_cell ht6.ow rfl (by omega) (by omega) (by omega) fun w13 h13 => ?_
  have h13 : Turn lo t_Si64 encV v w6 w13 (sw L1 i (i - 1)) := h13
  have hw2 : SwR a b L1 (sw L1 i (i - 1)) := .one (by omega) (by omega) (by omega) (by omega) (by omega)
  have hs2 : Srt ltV a (i - 1) (sw L1 i (i - 1)) := (hsi.mono (Nat.le_refl _) (by omega)).out (SwR.one (a := i - 1) (b := b) (by omega) (by omega) (by omega) (by omega) (by omega)) (.inr (Nat.le_refl _))
  have ht13 := ht6.trans h13
  have hw13 := hw1.trans hw2
  generalize sw L1 i (i - 1) = L2 at h13 hw2 hs2 ht13 hw13
  have hl2 := hw13.len
  have hbl2 : Blw ltV a b L2 := hbl.keep hw13 (Nat.le_refl _) (Nat.le_refl _)
  refine iSub (by omega) ?_
  refine iLe ?_
  refine iJnX (fun _ w' => ∃ L', Turn lo t_Si64 encV v w w' L' ∧ SwR a b L L' ∧ Srt ltV a i L') (fun J hJ => ?_) ?_
  · refine iCndP (fun h8 => ?_) (fun h8 => ?_)
    · refine iSub (by omega) ?_
      refine iLp (fun j : Nat => [.int .i64 (j : Int)]) (fun j w' => a ≤ j ∧ j ≤ i - 1 ∧ ∃ L', Turn lo t_Si64 encV v w w' L' ∧ SwR a b L L' ∧ Blw ltV a b L' ∧ Ins ltV a (i - 1) j L') (fun j => j) (i - 1) (by congr 2; omega) ⟨by omega, Nat.le_refl _, L2, ht13, hw13, hbl2, Ins.init hs2⟩ ?_
      rintro j w17 Kn17 ⟨haj, hji, L3, ht3, hw3, hbl3, hin⟩ hKn17
      have hl3 := hw3.len
      intro _
      simp only [gx]
      refine iLe ?_
      refine iCndP (fun h9 => ?_) (fun h9 => ?_)
      · refine iRdO (j := j) ht3.ow rfl (by omega) ?_
        refine iSub (by omega) ?_
        refine iRdO (j := j - 1) ht3.ow (by omega) (by omega) ?_
        refine iCmN (hrw.turn hs (by decide) ht3 hw3.perm) (by omega) (by omega) fun w18 h18 => ?_
        have ht18 := ht3.ext h18
        refine iCnd (fun h10 => ?_) (fun h10 => ?_)
        · have h10 : ltV (gt L3 j) (gt L3 (j - 1)) = false := by simpa using h10
          refine hJ _ _ ⟨L3, ht18, hw3, ?_⟩
          have := hin.done ordrV (by rcases Nat.lt_or_ge a j with h' | h'; exact .inr ⟨h', h10⟩; exact .inl h') hji
          rwa [show i - 1 + 1 = i by omega] at this
        · have h10 : ltV (gt L3 j) (gt L3 (j - 1)) = true := by simpa using h10
          have haj' : a < j := by
            rcases Nat.lt_or_ge a j with h' | h'
            · exact h'
            · have e : j = a := by omega
              subst e
              have := hbl3 j (Nat.le_refl _) (by omega) (by omega)
              rw [h10] at this; cases this
          refine iSub (by omega) ?_
          refine iSub (by omega) ?_
          refine iRdO (j := j - 1) ht18.ow (by omega) (by omega) ?_
          refine iRdO (j := j) ht18.ow rfl (by omega) ?_
          refine iWr2 (i := j) (j := j - 1) encV_cell ht18.ow rfl (by omega) (by omega) (by omega) fun w23 h23 => ?_
          refine iSub (by omega) ?_
          rw [show (j : Int) - 1 = ((j - 1 : Nat) : Int) by omega]
          have hw4 : SwR a b L3 (sw L3 j (j - 1)) := .one (by omega) (by omega) (by omega) (by omega) (by omega)
          exact hKn17 (j - 1) _ ⟨by omega, by omega, sw L3 j (j - 1), ht18.trans h23, hw3.trans hw4, hbl3.keep hw4 (Nat.le_refl _) (Nat.le_refl _), hin.swap ordrV haj' hji (by omega) h10⟩ (by omega)
      · refine hJ _ _ ⟨L3, ht3, hw3, ?_⟩
        have := hin.done ordrV (.inl (by omega)) hji
        rwa [show i - 1 + 1 = i by omega] at this
    · exact hJ _ _ ⟨L2, ht13, hw13, Srt.short (by omega)⟩
  rintro xs w15 ⟨L3, ht3, hw3, hs3⟩
  have hl3 := hw3.len
  intro _
  refine iSub (by omega) ?_
  refine iLe ?_
  refine iCndP (fun h8 => ?_) (fun h8 => ?_)
  · refine iAdd (by omega) ?_
    refine iLp (fun j : Nat => [.int .i64 (j : Int)]) (fun j w' => i + 1 ≤ j ∧ j ≤ b ∧ ∃ L', Turn lo t_Si64 encV v w w' L' ∧ SwR a b L L' ∧ Srt ltV a i L') (fun j => b - j) (i + 1) rfl ⟨Nat.le_refl _, by omega, L3, ht3, hw3, hs3⟩ ?_
    rintro j w25 Kn25 ⟨hij, hjb, L4, ht4, hw4, hs4⟩ hKn25
    have hl4 := hw4.len
    intro _
    simp only [gx]
    refine iLt ?_
    refine iCndP (fun h9 => ?_) (fun h9 => ?_)
    · refine iRdO (j := j) ht4.ow rfl (by omega) ?_
      refine iSub (by omega) ?_
      refine iRdO (j := j - 1) ht4.ow (by omega) (by omega) ?_
      refine iCmN (hrw.turn hs (by decide) ht4 hw4.perm) (by omega) (by omega) fun w26 h26 => ?_
      have ht26 := ht4.ext h26
      refine iCnd (fun h10 => ?_) (fun h10 => ?_)
      · refine iAdd (by omega) ?_
        exact hKn (i, r + 1) _ ⟨by show a + 1 ≤ i; omega, hib, by show r + 1 ≤ 5; omega, L4, ht26, hw4, hs4⟩ (by show 5 - (r + 1) < 5 - r; omega)
      · refine iSub (by omega) ?_
        refine iSub (by omega) ?_
        refine iRdO (j := j - 1) ht26.ow (by omega) (by omega) ?_
        refine iRdO (j := j) ht26.ow rfl (by omega) ?_
        refine iWr2 (i := j) (j := j - 1) encV_cell ht26.ow rfl (by omega) (by omega) (by omega) fun w31 h31 => ?_
        refine iAdd (by omega) ?_
        exact hKn25 (j + 1) _ ⟨by omega, by omega, sw L4 j (j - 1), ht26.trans h31, .step hw4 (by omega) (by omega) (by omega) (by omega) hb, hs4.out (SwR.one (a := i) (b := b) (by omega) (by omega) (by omega) (by omega) (by omega)) (.inr (Nat.le_refl _))⟩ (by omega)
    · refine iAdd (by omega) ?_
      exact hKn (i, r + 1) _ ⟨by show a + 1 ≤ i; omega, hib, by show r + 1 ≤ 5; omega, L4, ht4, hw4, hs4⟩ (by show 5 - (r + 1) < 5 - r; omega)
  · refine iAdd (by omega) ?_
    exact hKn (i, r + 1) _ ⟨by show a + 1 ≤ i; omega, hib, by show r + 1 ≤ 5; omega, L3, ht3, hw3, hs3⟩ (by show 5 - (r + 1) < 5 - r; omega)
theorem ok_slices_pdqsortCmpFunc_Si64 {lo : Nat} {v : Value} : ∀ (n : Nat) {w : World} {L : List VL} {a b : Nat} {lim : Int}, b - a ≤ n → Ow lo t_Si64 w v (evL L) → RowsV t_i64 w L → a ≤ b → b ≤ L.length → L.length ≤ 1152921504606846976 → Blw ltV a b L → 0 ≤ lim ∧ lim ≤ 64 →
    Cal Try.prog f_slices_pdqsortCmpFunc_Si64 #[v, .int .i64 (a : Int), .int .i64 (b : Int), .int .i64 lim, cmpV] w fun _ w' => ∃ L', Turn lo t_Si64 encV v w w' L' ∧ SwR a b L L' ∧ Srt ltV a b L' := by
  intro n
  induction n using Nat.strongRecOn with
  | ind n ih =>
  intro w L a0 b0 lim0 hn hs hrw hab hb hL hbl hlim
  apply c_slices_pdqsortCmpFunc_Si64; unfold S_slices_pdqsortCmpFunc_Si64
  refine iLp (fun s : Nat × Nat × Int × Bool × Bool => [.int .i64 (s.1 : Int), .int .i64 (s.2.1 : Int), .int .i64 s.2.2.1, .bool s.2.2.2.1, .bool s.2.2.2.2]) (fun s w' => a0 ≤ s.1 ∧ s.1 ≤ s.2.1 ∧ s.2.1 ≤ b0 ∧ (0 ≤ s.2.2.1 ∧ s.2.2.1 ≤ 64) ∧ ∃ L', Turn lo t_Si64 encV v w w' L' ∧ SwR a0 b0 L L' ∧ Blw ltV s.1 s.2.1 L' ∧ Crs ltV a0 b0 s.1 s.2.1 L') (fun s => s.2.1 - s.1) (a0, b0, lim0, true, true) rfl
    ⟨Nat.le_refl _, hab, Nat.le_refl _, hlim, L, Turn.refl hs, .refl, hbl, Crs.all⟩ ?_
  rintro ⟨a, b, lim, bal, par⟩ w2 Kn ⟨ha, hab, hbb, hlim, L1, ht1, hw1, hbl1, hcr1⟩ hKn
  have ha : a0 ≤ a := ha
  have hab : a ≤ b := hab
  have hbb : b ≤ b0 := hbb
  have hlim : 0 ≤ lim ∧ lim ≤ 64 := hlim
  have hbl1 : Blw ltV a b L1 := hbl1
  have hcr1 : Crs ltV a0 b0 a b L1 := hcr1
  have hl1 := hw1.len
  intro _
  simp only [gx]
  -- a sorted window closes the work
  have fin : ∀ {L' L'' : List VL} {w' : World} {a b : Nat}, Turn lo t_Si64 encV v w w' L'' → SwR a0 b0 L L' → SwR a b L' L'' → a0 ≤ a → b ≤ b0 → Crs ltV a0 b0 a b L' → Srt ltV a b L'' → ∃ L', Turn lo t_Si64 encV v w w' L' ∧ SwR a0 b0 L L' ∧ Srt ltV a0 b0 L' :=
    fun {L' L'' w' a b} h1 h2 h3 h4 h5 h6 h7 => ⟨L'', h1, h2.trans (h3.mono h4 h5 (by rw [h2.len]; exact hb)), h6.done h3 h4 h5 h7⟩
  refine iSub (by omega) ?_
  refine iLe ?_
  refine iCndP (fun h => ?_) (fun h => ?_)
  · refine iCall ?_
    refine (ok_slices_insertionSortV ht1.ow (hrw.turn hs (by decide) ht1 hw1.perm) hab (by omega) (by omega)).mono fun _ w3 h3 => ?_
    obtain ⟨L2, ht2, hw2, hs2⟩ := h3
    exact fin (ht1.trans ht2) hw1 hw2 ha hbb hcr1 hs2
  refine iEq ?_
  refine iCndP (fun h0 => ?_) (fun h0 => ?_)
  · refine iCall ?_
    refine (ok_slices_heapSortCmpFunc_Si64 ht1.ow (hrw.turn hs (by decide) ht1 hw1.perm) (by omega) (by omega) (by omega)).mono fun _ w3 h3 => ?_
    obtain ⟨L2, ht2, hw2, hs2⟩ := h3
    exact fin (ht1.trans ht2) hw1 hw2 ha hbb hcr1 hs2
  refine iNot ?_
  refine iJnX (fun xs w' => ∃ l2 : Int, ∃ L', xs = [.int .i64 l2] ∧ (0 ≤ l2 ∧ l2 ≤ 64) ∧ Turn lo t_Si64 encV v w w' L' ∧ SwR a b L1 L') (fun J hJ => ?_) ?_
  · refine iCnd (fun _ => ?_) (fun _ => ?_)
    · refine iCall ?_
      refine (ok_slices_breakPatternsCmpFunc_Si64 ht1.ow hab (by omega) (by omega)).mono fun _ w3 h3 => ?_
      obtain ⟨L2, ht2, hw2⟩ := h3
      refine iSub (by omega) ?_
      exact hJ _ _ ⟨lim - 1, L2, rfl, by omega, ht1.trans ht2, hw2⟩
    · exact hJ _ _ ⟨lim, L1, rfl, hlim, ht1, .refl⟩
  rintro xs w6 ⟨lim, L2, rfl, hlim, ht2, hw2⟩
  have hl2 := hw2.len
  intro _
  simp only [gx]
  refine iCall ?_
  refine (ok_slices_choosePivotCmpFunc_Si64 ht2.ow (hrw.turn hs (by decide) ht2 (hw2.perm.trans hw1.perm)) (by omega) (by omega) (by omega)).mono fun r w8 h8 => ?_
  obtain ⟨h8, t, x, rfl, hat, htb⟩ := h8
  have ht8 := ht2.ext h8
  refine iE20 ?_
  refine iE21 ?_
  refine iEq ?_
  refine iJnX (fun xs w' => ∃ t : Nat, ∃ x : Int, ∃ L', xs = [.int .i64 (t : Int), .int .i64 x] ∧ a ≤ t ∧ t < b ∧ Turn lo t_Si64 encV v w w' L' ∧ SwR a b L1 L') (fun J hJ => ?_) ?_
  · refine iCndP (fun _ => ?_) (fun _ => ?_)
    · refine iCall ?_
      refine (ok_slices_reverseRangeCmpFunc_Si64 ht8.ow hab (by omega) (by omega)).mono fun _ w3 h3 => ?_
      obtain ⟨L3, ht3, hw3⟩ := h3
      refine iSub (by omega) ?_
      refine iSub (by omega) ?_
      refine iSub (by omega) ?_
      exact hJ _ _ ⟨b - 1 - (t - a), 1, L3, by congr 2; omega, by omega, by omega, ht8.trans ht3, hw2.trans hw3⟩
    · exact hJ _ _ ⟨t, x, L2, rfl, hat, htb, ht8, hw2⟩
  clear hat htb
  rintro xs w10 ⟨t, x, L3, rfl, hat, htb, ht3, hw3⟩
  intro _
  simp only [gx]
  refine iJnX (fun xs w' => ∃ y : Bool, xs = [.bool y] ∧ Ext w10 w') (fun J hJ => ?_) ?_
  · refine iCnd (fun _ => ?_) (fun _ => ?_)
    · refine iCnd (fun _ => ?_) (fun _ => ?_)
      · refine iEq ?_
        exact hJ _ _ ⟨_, rfl, Ext.refl _⟩
      · exact hJ _ _ ⟨false, rfl, Ext.refl _⟩
    · exact hJ _ _ ⟨false, rfl, Ext.refl _⟩
  rintro xs w13 ⟨y, rfl, h13⟩
  intro _
  simp only [gx]
  have ht13 := ht3.ext h13
  have hl3 := hw3.len
  refine iJnX (fun _ w' => ∃ L', Turn lo t_Si64 encV v w w' L' ∧ SwR a b L1 L') (fun J hJ => ?_) ?_
  · refine iCnd (fun _ => ?_) (fun _ => ?_)
    · refine iCall ?_
      refine (ok_slices_partialInsertionSortCmpFunc_Si64 ht13.ow (hrw.turn hs (by decide) ht13 (hw3.perm.trans hw1.perm)) (by omega) (by omega) (by omega) (hbl1.keep hw3 (Nat.le_refl _) (Nat.le_refl _))).mono fun r w3 h3 => ?_
      obtain ⟨y', L4, rfl, ht4, hw4, hs4⟩ := h3
      refine iCnd (fun hy => ?_) (fun hy => ?_)
      · exact fin (ht13.trans ht4) hw1 (hw3.trans hw4) ha hbb hcr1 (hs4 hy)
      · exact hJ _ _ ⟨L4, ht13.trans ht4, hw3.trans hw4⟩
    · exact hJ _ _ ⟨L3, ht13, hw3⟩
  clear ht3 hw3 ht13 ht8 ht2 hw2 hl2 hl3
  rintro xs w15 ⟨L3, ht3, hw3⟩
  have hl3 := hw3.len
  have hw3' : SwR a0 b0 L L3 := hw1.trans (hw3.mono ha hbb (by omega))
  have hbl3 : Blw ltV a b L3 := hbl1.keep hw3 (Nat.le_refl _) (Nat.le_refl _)
  have hcr3 : Crs ltV a0 b0 a b L3 := hcr1.keep hw3 ha hbb
  intro _
  refine iJnB (decide (0 < a) && !ltV (gt L3 (a - 1)) (gt L3 t)) w15 (fun J hJ => ?_) (fun w18 h18 => ?_)
  · refine iLt ?_
    refine iCndP (fun h5 => ?_) (fun h5 => ?_)
    · rw [decide_eq_true (show 0 < a by omega), Bool.true_and] at hJ
      refine iSub (by omega) ?_
      refine iRdO (j := a - 1) ht3.ow (by omega) (by omega) ?_
      refine iRdO (j := t) ht3.ow rfl (by omega) ?_
      exact iCmN (hrw.turn hs (by decide) ht3 hw3'.perm) (by omega) (by omega) hJ
    · rw [decide_eq_false (show ¬ 0 < a by omega), Bool.false_and] at hJ
      exact fun _ x8 _ x9 => hJ _ (x8.trans x9)
  intro _
  simp only [gx]
  have ht18 := ht3.ext h18
  cases hc : decide (0 < a) && !ltV (gt L3 (a - 1)) (gt L3 t)
  rotate_left
  · rw [Bool.and_eq_true, decide_eq_true_eq, Bool.not_eq_true'] at hc
    refine iCndT rfl ?_
    refine iCall ?_
    refine (ok_slices_partitionEqualCmpFunc_Si64 ht18.ow (hrw.turn hs (by decide) ht18 hw3'.perm) hat htb (by omega) (by omega)).mono fun r w21 h21 => ?_
    obtain ⟨L4, m, rfl, ht4, hw4, ham, hmb, hle⟩ := h21
    have hge : ∀ k, a ≤ k → k < b → ltV (gt L4 k) (gt L3 t) = false := hw4.all (p := fun z => ltV z (gt L3 t) = false) fun k hk hk' => ordrV.tr hc.2 (hbl3 k hk hk' (by omega))
    refine hKn (m, b, lim, bal, par) _ ⟨by show a0 ≤ m; omega, hmb, hbb, hlim, L4, ht18.trans ht4, hw3'.trans (hw4.mono ha hbb (by rw [hw3'.len]; omega)), equal_blw ordrV hge hle ham, equal_up ordrV (hcr3.keep hw4 ha hbb) hge hle hmb⟩ (by show b - m < b - a; omega)
  refine iCndF rfl ?_
  refine iCall ?_
  refine (ok_slices_partitionCmpFunc_Si64 ht18.ow (hrw.turn hs (by decide) ht18 hw3'.perm) hat htb (by omega) (by omega)).mono fun r w22 h22 => ?_
  obtain ⟨L4, m, y', rfl, ht4, hw4, ham, hmb, hpt⟩ := h22
  have hl4 := hw4.len
  have ht22 := ht18.trans ht4
  have hw4' : SwR a0 b0 L L4 := hw3'.trans (hw4.mono ha hbb (by rw [hw3'.len]; omega))
  have hbl4 : Blw ltV a b L4 := hbl3.keep hw4 (Nat.le_refl _) (Nat.le_refl _)
  have hcr4 : Crs ltV a0 b0 a b L4 := hcr3.keep hw4 ha hbb
  refine iE20 ?_
  refine iE21 ?_
  refine iSub (by omega) ?_
  refine iSub (by omega) ?_
  refine iQuo (by omega) ?_
  refine iLt ?_
  refine iCndP (fun h5 => ?_) (fun h5 => ?_)
  · refine iLe ?_
    refine iCall ?_
    refine (ih (m - a) (by omega) (Nat.le_refl _) ht22.ow (hrw.turn hs (by decide) ht22 hw4'.perm) ham (by omega) (by omega) (hbl4.low (by omega)) hlim).mono fun _ w23 h23 => ?_
    obtain ⟨L5, ht5, hw5, hs5⟩ := h23
    have hw5' : SwR a b L4 L5 := hw5.mono (Nat.le_refl _) (by omega) (by omega)
    have hpt5 := hpt.lowS hw5
    refine iAdd (by omega) ?_
    exact hKn (m + 1, b, lim, _, y') _ ⟨by show a0 ≤ m + 1; omega, by show m + 1 ≤ b; omega, hbb, hlim, L5, ht22.trans ht5, hw4'.trans (hw5'.mono ha hbb (by rw [hw4'.len]; omega)), hpt5.blw, hpt5.up ordrV (hcr4.keep hw5' ha hbb) hs5⟩ (by show b - (m + 1) < b - a; omega)
  · refine iLe ?_
    refine iAdd (by omega) ?_
    refine iCall ?_
    refine (ih (b - (m + 1)) (by omega) (a := m + 1) (Nat.le_refl _) ht22.ow (hrw.turn hs (by decide) ht22 hw4'.perm) (by omega) (by omega) (by omega) hpt.blw hlim).mono fun _ w23 h23 => ?_
    obtain ⟨L5, ht5, hw5, hs5⟩ := h23
    have hw5' : SwR a b L4 L5 := hw5.mono (by omega) (Nat.le_refl _) (by omega)
    have hpt5 := hpt.highS hw5
    exact hKn (a, m, lim, _, y') _ ⟨ha, ham, by show m ≤ b0; omega, hlim, L5, ht22.trans ht5, hw4'.trans (hw5'.mono ha hbb (by rw [hw4'.len]; omega)), (hbl4.keep hw5' (Nat.le_refl _) (Nat.le_refl _)).low (Nat.le_of_lt hmb), hpt5.down ordrV (hcr4.keep hw5' ha hbb) hs5⟩ (by show m - a < b - a; omega)
theorem ok_slices_SortFunc_SSi64_Si64 {lo : Nat} {w : World} {v : Value} {L : List VL} (hs : Ow lo t_Si64 w v (evL L)) (hrw : RowsV t_i64 w L) (hL : L.length ≤ 1152921504606846976) :
    Cal Try.prog f_slices_SortFunc_SSi64_Si64 #[v, cmpV] w fun _ w' => ∃ L' : List VL, Ow lo t_Si64 w' v (evL L') ∧ Ch (fun c => v.ownBlock = some c) w w' ∧ List.Perm L' L ∧ L'.Pairwise fun x y => ltV y x = false := by
  apply c_slices_SortFunc_SSi64_Si64; unfold S_slices_SortFunc_SSi64_Si64
  refine iLenS hs.sl ?_
  rw [evs_len]
  refine iConvU (by omega) ?_
  refine iCall ?_
  refine (ok_math_bits_Len (by omega) w).mono fun r w1 h1 => ?_
  obtain ⟨h1, k, rfl, -, -, hk⟩ := h1
  refine iCall ?_
  refine (ok_slices_pdqsortCmpFunc_Si64 (a := 0) (b := L.length) (lim := (k : Int)) L.length (by omega) (hs.ext h1) (hrw.ext h1) (Nat.zero_le _) (Nat.le_refl _) hL (fun k _ _ h => by omega) (by omega)).mono fun _ w2 h2 => ?_
  obtain ⟨L', ht, hw, hst⟩ := h2
  rw [← hw.len] at hst
  exact ⟨L', ht.ow, (h1.ch (S := fun c => v.ownBlock = some c)).trans ht.ch fun _ e => .inl e, hw.perm, hst.pairwise⟩
end Go.Proofs.Ytfhdhdgabdpmkaa

/- Plain facts on lists in order without doubles: insertion, equal neighbours dropped, one list for each set; posets in order. No program in sight. Conditions: none. -/
namespace Go.Vc
section
variable {α : Type} {lt : α → α → Bool}
/-- A total order that tells all apart. -/
structure OrdA (lt : α → α → Bool) : Prop where
  o : Ordr lt
  anti : ∀ {a b}, lt a b = false → lt b a = false → a = b
theorem OrdA.tot (O : OrdA lt) (a b : α) : lt a b = true ∨ a = b ∨ lt b a = true := by
  cases h1 : lt a b
  · cases h2 : lt b a
    · exact .inr (.inl (O.anti h1 h2))
    · exact .inr (.inr rfl)
  · exact .inl rfl
theorem OrdA.trans (O : OrdA lt) {a b c : α} (h : lt a b = true) (k : lt b c = true) : lt a c = true := O.o.lt_le h (O.o.asym k)
abbrev IncA (lt : α → α → Bool) (L : List α) : Prop := L.Pairwise fun x y => lt x y = true
/-- Two lists in order with the same members are the same. -/
theorem incA_ext (O : OrdA lt) : ∀ {A B : List α}, IncA lt A → IncA lt B → (∀ x, x ∈ A ↔ x ∈ B) → A = B
  | [], [], _, _, _ => rfl
  | [], y :: B, _, _, h => by have := (h y).2 List.mem_cons_self; cases this
  | x :: A, [], _, _, h => by have := (h x).1 List.mem_cons_self; cases this
  | x :: A, y :: B, hA, hB, h => by
    rw [IncA, List.pairwise_cons] at hA hB
    have irr : ∀ z, lt z z = false := O.o.rfl
    have e : x = y := by
      rcases List.mem_cons.1 ((h x).1 List.mem_cons_self) with e | e
      · exact e
      · rcases List.mem_cons.1 ((h y).2 List.mem_cons_self) with e' | e'
        · exact e'.symm
        · have h1 := hB.1 x e
          have h2 := hA.1 y e'
          rw [O.o.asym h1] at h2; cases h2
    subst e
    rw [incA_ext O hA.2 hB.2 fun z => ?_]
    have hz := h z
    simp only [List.mem_cons] at hz
    constructor
    · intro hm
      rcases hz.1 (.inr hm) with e | e
      · subst e; have := hA.1 z hm; rw [irr] at this; cases this
      · exact e
    · intro hm
      rcases hz.2 (.inr hm) with e | e
      · subst e; have := hB.1 z hm; rw [irr] at this; cases this
      · exact e
/-- Laid into a list in order, if it is not there. -/
def insA (lt : α → α → Bool) (t : α) : List α → List α
  | [] => [t]
  | x :: l => if lt x t then x :: insA lt t l else if lt t x then t :: x :: l else x :: l
theorem mem_insA (O : OrdA lt) {t x : α} : ∀ {l : List α}, x ∈ insA lt t l ↔ x = t ∨ x ∈ l
  | [] => by simp [insA]
  | y :: l => by
    unfold insA
    split
    · rw [List.mem_cons, mem_insA O, List.mem_cons]
      constructor
      · rintro (h | h | h)
        · exact .inr (.inl h)
        · exact .inl h
        · exact .inr (.inr h)
      · rintro (h | h | h)
        · exact .inr (.inl h)
        · exact .inl h
        · exact .inr (.inr h)
    · rename_i h1
      split
      · simp
      · rename_i h2
        have := O.anti (by simpa using h1) (by simpa using h2)
        subst this; simp
theorem inc_insA (O : OrdA lt) {t : α} : ∀ {l : List α}, IncA lt l → IncA lt (insA lt t l)
  | [], _ => by simp [insA, IncA]
  | y :: l, h => by
    have h' := List.pairwise_cons.1 h
    unfold insA
    split
    · rename_i hy
      refine List.pairwise_cons.2 ⟨fun z hz => ?_, inc_insA O h'.2⟩
      rcases (mem_insA O).1 hz with e | e
      · subst e; exact hy
      · exact h'.1 z e
    · split
      · rename_i hty
        refine List.pairwise_cons.2 ⟨fun z hz => ?_, h⟩
        rcases List.mem_cons.1 hz with e | e
        · subst e; exact hty
        · exact O.trans hty (h'.1 z e)
      · exact h
theorem insA_split {t : α} [Inhabited α] : ∀ {l : List α} {k : Nat}, k ≤ l.length → (∀ i, i < k → lt (gt l i) t = true) → insA lt t l = l.take k ++ insA lt t (l.drop k)
  | _, 0, _, _ => rfl
  | [], k + 1, hk, _ => by simp at hk
  | x :: l, k + 1, hk, h => by
    have h0 : lt x t = true := h 0 (by omega)
    have := insA_split (t := t) (l := l) (k := k) (by simpa using hk) fun i hi => h (i + 1) (by omega)
    rw [insA, if_pos h0, this]
    rfl
theorem insA_len (t : α) : ∀ l : List α, (insA lt t l).length ≤ l.length + 1
  | [] => by simp [insA]
  | x :: l => by
    have := insA_len t l
    unfold insA
    split <;> (try split) <;> simp [List.length_cons] <;> omega
/-- The set of a list's members, in order. -/
def setA (lt : α → α → Bool) (l : List α) : List α := l.foldl (fun a x => insA lt x a) []
theorem setA_snoc (l : List α) (x : α) : setA lt (l ++ [x]) = insA lt x (setA lt l) := by simp [setA]
theorem inc_setA (O : OrdA lt) (l : List α) : IncA lt (setA lt l) := by
  unfold setA
  suffices h : ∀ (l a : List α), IncA lt a → IncA lt (l.foldl (fun a x => insA lt x a) a) from h l [] List.Pairwise.nil
  intro l
  induction l with
  | nil => intro a h; exact h
  | cons x l ih => intro a h; exact ih _ (inc_insA O h)
theorem mem_setA (O : OrdA lt) {x : α} {l : List α} : x ∈ setA lt l ↔ x ∈ l := by
  unfold setA
  suffices h : ∀ (l a : List α), x ∈ l.foldl (fun a x => insA lt x a) a ↔ x ∈ l ∨ x ∈ a by simpa using h l []
  intro l
  induction l with
  | nil => intro a; simp
  | cons y l ih =>
    intro a
    rw [List.foldl_cons, ih, mem_insA O, List.mem_cons]
    constructor
    · rintro (h | h | h)
      · exact .inl (.inr h)
      · exact .inl (.inl h)
      · exact .inr h
    · rintro ((h | h) | h)
      · exact .inr (.inl h)
      · exact .inl h
      · exact .inr (.inr h)
theorem setA_len (l : List α) : (setA lt l).length ≤ l.length := by
  suffices h : ∀ (l a : List α), (l.foldl (fun a x => insA lt x a) a).length ≤ a.length + l.length by simpa [setA] using h l []
  intro l
  induction l with
  | nil => intro a; simp
  | cons y l ih =>
    intro a
    have := ih (insA lt y a)
    have := insA_len (lt := lt) y a
    rw [List.foldl_cons, List.length_cons]; omega
variable {β : Type} {key : β → α}
/-- Those whose key is not the key of the one before. -/
def ddA (lt : α → α → Bool) (key : β → α) : List β → List β
  | [] => []
  | x :: l => go x l [x]
 where go (x : β) : List β → List β → List β
  | [], acc => acc
  | y :: l, acc => if lt (key x) (key y) || lt (key y) (key x) then go y l (acc ++ [y]) else go y l acc
theorem ddA_go_snoc (x : β) : ∀ (l acc : List β) (y : β), ddA.go lt key x (l ++ [y]) acc = if lt (key ((x :: l).getLastD x)) (key y) || lt (key y) (key ((x :: l).getLastD x)) then ddA.go lt key x l acc ++ [y] else ddA.go lt key x l acc
  | [], acc, y => by simp [ddA.go]
  | z :: l, acc, y => by
    simp only [List.cons_append, ddA.go]
    have e : (x :: z :: l).getLastD x = (z :: l).getLastD z := by simp [List.getLastD]
    rw [e]
    split <;> exact ddA_go_snoc z l _ y
theorem ddA_take [Inhabited β] {l : List β} {i : Nat} (h0 : 1 ≤ i) (hi : i < l.length) : ddA lt key (l.take (i + 1)) = if lt (key (gt l (i - 1))) (key (gt l i)) || lt (key (gt l i)) (key (gt l (i - 1))) then ddA lt key (l.take i) ++ [gt l i] else ddA lt key (l.take i) := by
  match l, hi with
  | x :: l, hi =>
    obtain ⟨k, rfl⟩ : ∃ k, i = k + 1 := ⟨i - 1, by omega⟩
    have hk : k < l.length := by simpa using hi
    have e2 : (x :: l).take (k + 1 + 1) = x :: (l.take k ++ [gt l k]) := by rw [List.take_succ_cons, List.take_succ_eq_append_getElem hk, gt_eq hk]
    have e3 : gt (x :: l) (k + 1) = gt l k := rfl
    have e4 : (x :: l.take k).getLastD x = gt (x :: l) (k + 1 - 1) := by
      cases k with
      | zero => simp [gt]
      | succ k =>
        rw [List.take_succ_eq_append_getElem (by omega), ← List.cons_append, List.getLastD_concat]
        show l[k] = gt l k
        rw [gt_eq (by omega)]
    rw [e2, List.take_succ_cons]
    show ddA.go lt key x (l.take k ++ [gt l k]) [x] = _
    rw [ddA_go_snoc, e4, e3]
    rfl
theorem ddA_one [Inhabited β] {l : List β} (h : 0 < l.length) : ddA lt key (l.take 1) = [gt l 0] := by
  cases l with
  | nil => simp at h
  | cons x l => rfl
theorem ddA_spec [Inhabited β] (O : OrdA lt) {l : List β} (hs : l.Pairwise fun x y => lt (key y) (key x) = false) : ∀ k, k ≤ l.length → List.Sublist (ddA lt key (l.take k)) (l.take k) ∧ IncA lt ((ddA lt key (l.take k)).map key) ∧ (∀ a, a ∈ (l.take k).map key → a ∈ (ddA lt key (l.take k)).map key) := by
  intro k
  induction k with
  | zero => intro _; simp [ddA]
  | succ k ih =>
    intro hk
    obtain ⟨h1, h2, h3⟩ := ih (by omega)
    rcases Nat.eq_zero_or_pos k with h0 | h0
    · subst h0
      rw [ddA_one (by omega)]
      cases l with
      | nil => simp at hk
      | cons x l => simp [gt, IncA]
    have et : l.take (k + 1) = l.take k ++ [gt l k] := by rw [List.take_succ_eq_append_getElem hk, gt_eq hk]
    have hpre : gt l (k - 1) ∈ l.take k := by
      rw [gt_eq (by omega), List.mem_take_iff_getElem]
      exact ⟨k - 1, by omega, rfl⟩
    rw [ddA_take h0 hk]
    have hall : ∀ b ∈ l.take k, lt (key (gt l k)) (key b) = false := by
      have := List.Pairwise.sublist (List.take_sublist (k + 1) l) hs
      rw [et, List.pairwise_append] at this
      exact fun b hb => this.2.2 b hb _ (by simp)
    split
    · rename_i hlt
      rw [hall _ hpre, Bool.or_false] at hlt
      refine ⟨?_, ?_, ?_⟩
      · rw [et]; exact h1.append (List.Sublist.refl _)
      · rw [List.map_append]
        refine List.pairwise_append.2 ⟨h2, by simp, fun a ha b hb => ?_⟩
        simp only [List.map_cons, List.map_nil, List.mem_singleton] at hb
        subst hb
        obtain ⟨c, hc, rfl⟩ := List.mem_map.1 ha
        have hc' := h1.subset hc
        -- c stands at or before k - 1
        have hle : lt (key (gt l (k - 1))) (key c) = false := by
          rw [List.mem_take_iff_getElem] at hc'
          obtain ⟨i, hi, rfl⟩ := hc'
          rcases Nat.lt_or_ge i (k - 1) with h | h
          · rw [gt_eq (by omega)]
            exact (List.pairwise_iff_getElem.1 hs) i (k - 1) (by omega) (by omega) h
          · have : i = k - 1 := by omega
            subst this
            rw [gt_eq (by omega)]
            exact O.o.rfl _
        exact O.o.le_lt hle hlt
      · intro a ha
        rw [et, List.map_append, List.mem_append] at ha
        rw [List.map_append, List.mem_append]
        rcases ha with ha | ha
        · exact .inl (h3 a ha)
        · exact .inr ha
    · rename_i hlt
      rw [Bool.or_eq_true, not_or] at hlt
      have e : key (gt l (k - 1)) = key (gt l k) := O.anti (by simpa using hlt.1) (by simpa using hlt.2)
      refine ⟨?_, h2, ?_⟩
      · rw [et]; exact h1.trans (List.sublist_append_left _ _)
      · intro a ha
        rw [et, List.map_append, List.mem_append] at ha
        rcases ha with ha | ha
        · exact h3 a ha
        · simp only [List.map_cons, List.map_nil, List.mem_singleton] at ha
          subst ha
          rw [← e]
          exact h3 _ (List.mem_map_of_mem hpre)
theorem ddA_set [Inhabited β] (O : OrdA lt) {l : List β} {m : List α} (hs : l.Pairwise fun x y => lt (key y) (key x) = false) (hp : ∀ a, a ∈ l.map key ↔ a ∈ m) : (ddA lt key l).map key = setA lt m := by
  obtain ⟨h1, h2, h3⟩ := ddA_spec O hs l.length (Nat.le_refl _)
  rw [List.take_length] at h1 h2 h3
  refine incA_ext O h2 (inc_setA O m) fun x => ?_
  rw [mem_setA O, ← hp]
  exact ⟨fun h => (h1.map key).subset h, h3 x⟩
end
end Go.Vc

/- Contracts: equal neighbours dropped from slices of slices, sorted lists without doubles. Conditions: none. -/
namespace Go.Vc
section
variable {P : Program} {w : World} {lo : Nat} {e : TypeId}
theorem Ow.openV {v : Value} {xs : List Value} (hs : Ow lo e w v xs) (hne : xs ≠ []) : ∃ g cap, v = .slice (some ⟨g, 0, none⟩) xs.length cap ∧ xs.length ≤ cap ∧ cap ≤ 9223372036854775807 := by
  obtain ⟨_, ⟨_, h0⟩ | ⟨g, cap, cur, hv, _, _, h1, h2, _⟩⟩ := hs
  · exact absurd (List.length_eq_zero_iff.1 h0) hne
  · exact ⟨g, cap, hv, h1, h2⟩
theorem Ow.atV {g n cap : Nat} {xs : List Value} (hs : Ow lo e w (.slice (some ⟨g, 0, none⟩) n cap) xs) (hn : xs.length = n) {j : Nat} (hj : j < n) : w.cell? ⟨g, j, none⟩ = xs[j]? := by
  have h : w.ownsRow lo e 1 (.slice (some ⟨g, 0, none⟩) n cap) n xs := by unfold Ow at hs; rw [hn] at hs; exact hs
  exact h.cellAt j (by omega)
theorem iSlTailV {g n cap k : Nat} {ki : IntKind} {K : Value → Prop} (hk : k < n) (hc : n ≤ cap) (h : K (.slice (some ⟨g, k, none⟩) (n - k) (cap - k))) : xSl 1 (.slice (some ⟨g, 0, none⟩) n cap) (some (.int ki (k : Int))) none K := by
  refine ⟨_, _, _, k, n, rfl, rfl, ⟨ki, rfl⟩, by omega, hc, ?_⟩
  rw [if_neg (by omega), Option.map_some, addr_add, Nat.zero_add, Nat.mul_one]
  exact h
theorem iSlHeadV {g n cap k : Nat} {ki : IntKind} {K : Value → Prop} (hk : k ≤ n) (hc : n ≤ cap) (h : K (.slice (some ⟨g, 0, none⟩) k cap)) : xSl 1 (.slice (some ⟨g, 0, none⟩) n cap) none (some (.int ki (k : Int))) K := by
  refine ⟨_, _, _, 0, k, rfl, ⟨ki, rfl⟩, rfl, Nat.zero_le _, by omega, ?_⟩
  have e : (if cap = 0 then some (⟨g, 0, none⟩ : Addr) else (some (⟨g, 0, none⟩ : Addr)).map (·.add (0 * 1))) = some ⟨g, 0, none⟩ := by
    split
    · rfl
    · simp [Addr.add]
  rw [e, Nat.sub_zero, Nat.sub_zero]
  exact h
theorem iClrV {t ty : TypeId} {z : Value} {bytes g n cap k : Nat} {xs : List Value} {K : Value → World → Prop} (ht : P.underlying t = some (.slice e)) (hi : (P.info? e).map (fun i => (i.zero, i.size, i.bytes)) = some (some z, 1, bytes)) (hz : isCell z = true)
    (hs : Ow lo e w (.slice (some ⟨g, 0, none⟩) n cap) xs) (hn : xs.length = n) (hk : k < n) (h : ∀ w', Ow lo e w' (.slice (some ⟨g, 0, none⟩) k cap) (xs.take k) → Ch (fun c => c = g) w w' → K (.tuple #[]) w') :
    xOp P (Builtin.clear_ #[t] ty #[.slice (some ⟨g, k, none⟩) (n - k) (cap - k)]) w K := by
  obtain ⟨i, hi, h3⟩ := Option.map_eq_some_iff.1 hi
  simp only [Prod.mk.injEq] at h3
  obtain ⟨hz0, -, -⟩ := h3
  obtain ⟨-, ⟨hv, -⟩ | ⟨g', cap', cur, hv, hg, hh, h1, h2, h3, h4⟩⟩ := hs
  · cases hv
  · injection hv with e1 e2 e3
    injection e1 with e1
    injection e1 with e1
    subst e1
    subst e3
    rw [hn] at h1 h4
    rw [Nat.mul_one] at h3 h4
    have hzc : (Builtin.zeroCells z.cells (n - k)).toList = List.replicate (n - k) z := by
      rw [isCell_cells hz]
      simp [Builtin.zeroCells]
      apply List.ext_getElem
      · simp
      · intro i h1 h2
        simp [Nat.mod_one]
    have hrun := run_storeCells_at P g k e (List.replicate (n - k) z) 0 cur w hh (by rw [List.length_replicate]; omega) (fun v hv => isCell_one (by rw [List.eq_of_mem_replicate hv]; exact hz))
    refine ⟨_, _, ?_, h (w.setRow g (cur.toList.take (k + 0) ++ List.replicate (n - k) z ++ cur.toList.drop (k + 0 + (List.replicate (n - k) z).length)).toArray) ?_ ?_⟩
    · obtain ⟨m, hm⟩ : ∃ m, n - k = m + 1 := ⟨n - k - 1, by omega⟩
      rw [hm] at hrun hzc ⊢
      simp [Builtin.clear_, run_underlying ht, zeroValue, run_info hi, hz0, hzc, hrun]
    · refine ⟨by simp, .inr ⟨g, cap, _, ?_, hg, setRow_heap w g cur _ e (0, 0) hh, by rw [List.length_take]; omega, h2, ?_, ?_⟩⟩
      · rw [List.length_take, hn, Nat.min_eq_left (by omega)]
      · simp; omega
      · rw [List.length_take, hn, Nat.min_eq_left (by omega), Nat.mul_one, Nat.add_zero, List.take_append_of_le_length (by simp; omega), List.take_append_of_le_length (by simp; omega), List.take_take, Nat.min_self, ← h4, List.take_take, Nat.min_eq_left (by omega)]
    · exact ⟨rfl, rfl, rfl, by rw [setRow_size]; exact Nat.le_refl _, fun c _ hc => setRow_other w g c _ hc⟩
end
theorem ordL : OrdA lessB where
  o := ⟨fun {a b} h => lessB_asymm a b h, fun {a b c} h k => lessB_trans a b c h k⟩
  anti := fun {a b} h k => lessB_anti a b h k
theorem ltL_ne {a b : List Int} : (lessB a b || lessB b a) = decide (¬ a = b) := by
  rw [Bool.eq_iff_iff, Bool.or_eq_true, decide_eq_true_eq]
  constructor
  · rintro (h | h) e
    · subst e; rw [lessB_irr] at h; cases h
    · subst e; rw [lessB_irr] at h; cases h
  · intro h
    rcases ordL.tot a b with h1 | h1 | h1
    · exact .inl h1
    · exact absurd h1 h
    · exact .inr h1
abbrev ddV (L : List VL) : List VL := ddA lessB Prod.snd L
theorem ddV_take {L : List VL} {i : Nat} (h0 : 1 ≤ i) (hi : i < L.length) : ddV (L.take (i + 1)) = if (gt L i).2 = (gt L (i - 1)).2 then ddV (L.take i) else ddV (L.take i) ++ [gt L i] := by
  rw [ddV, ddA_take h0 hi, ltL_ne]
  by_cases h : (gt L i).2 = (gt L (i - 1)).2
  · rw [if_pos h, if_neg (by simp [h])]
  · rw [if_neg h, if_pos (by simpa using fun e => h e.symm)]
theorem ddV_idk {L : List VL} : ∀ k, k ≤ L.length → (∀ i, 1 ≤ i → i < k → ¬ (gt L i).2 = (gt L (i - 1)).2) → ddV (L.take k) = L.take k := by
  intro k
  induction k with
  | zero => intro _ _; rfl
  | succ k ih =>
    intro hk h
    rcases Nat.eq_zero_or_pos k with h0 | h0
    · subst h0
      rw [ddV, ddA_one (by omega), List.take_succ_eq_append_getElem (by omega), gt_eq (by omega)]; rfl
    · rw [ddV_take h0 (by omega), if_neg (h k h0 (by omega)), ih (by omega) fun i h1 h2 => h i h1 (by omega), List.take_succ_eq_append_getElem (by omega), gt_eq (by omega)]
theorem ddV_id {L : List VL} (h : ∀ i, 1 ≤ i → i < L.length → ¬ (gt L i).2 = (gt L (i - 1)).2) : ddV L = L := by
  have := ddV_idk L.length (Nat.le_refl _) h
  rwa [List.take_length] at this
theorem evs_get (L : List VL) {j : Nat} (hj : j < L.length) : (evL L)[j]? = some (encV (gt L j)) := by rw [gt_eq hj]; simp [evL, hj]
theorem evs_take (L : List VL) (k : Nat) : (evL L).take k = evL (L.take k) := by simp [evL, List.map_take]
theorem RowsV.at {e : TypeId} {w : World} {L : List VL} (h : RowsV e w L) {i : Nat} (hi : i < L.length) : SlI w (encV (gt L i)) (gt L i).2 := (h _ (by rw [gt_eq hi]; exact List.getElem_mem _)).sl
end Go.Vc
namespace Go.Proofs.Ytfhdhdgabdpmkaa
open Go.Vc
theorem iEqV {w : World} {x y : VL} {G : Value → World → Prop} (hx : SlI w (encV x) x.2) (hy : SlI w (encV y) y.2) (h : ∀ w', Ext w w' → G (.bool (decide (x.2 = y.2))) w') : ∀ w1, Ext w w1 → callV Try.prog (.func (.func f_slices_Equal_Si64_i64) #[] #[]) [encV x, encV y] w1 fun r w2 => ∀ w3, Ext w2 w3 → G r w3 :=
  fun _ x1 => iRet (ok_slices_Equal_Si64_i64 (hx.ext x1) (hy.ext x1)) fun _ x2 _ x3 => h _ ((x1.trans x2).trans x3)
theorem iNeV {w : World} {x y : VL} {G : Value → World → Prop} (hx : SlI w (encV x) x.2) (hy : SlI w (encV y) y.2) (h : ∀ w', Ext w w' → G (.bool (decide (¬ x.2 = y.2))) w') : ∀ w1, Ext w w1 → callV Try.prog (.func (.func f_slices_Equal_Si64_i64) #[] #[]) [encV x, encV y] w1 fun r w2 => xNot r fun c => ∀ w3, Ext w2 w3 → G c w3 :=
  fun _ x1 => iRet (ok_slices_Equal_Si64_i64 (hx.ext x1) (hy.ext x1)) fun _ x2 => iNot fun _ x3 => by
    have := h _ ((x1.trans x2).trans x3)
    rwa [decide_not] at this
theorem ok_slices_CompactFunc_SSi64_Si64 {lo : Nat} {w : World} {v : Value} {L : List VL} (hs : Ow lo t_Si64 w v (evL L)) (hrw : RowsV t_i64 w L) (hL : L.length ≤ 1152921504606846976) :
    Cal Try.prog f_slices_CompactFunc_SSi64_Si64 #[v, .func (.func f_slices_Equal_Si64_i64) #[] #[]] w fun r w' => Ow lo t_Si64 w' r (evL (ddV L)) ∧ Ch (fun c => v.ownBlock = some c) w w' ∧ r.ownBlock = v.ownBlock := by
  apply c_slices_CompactFunc_SSi64_Si64; unfold S_slices_CompactFunc_SSi64_Si64
  refine iLenS hs.sl ?_
  rw [evs_len]
  refine iLt ?_
  refine iCndP (fun h => ?_) (fun h => ?_)
  · rw [ddV_id (fun i h1 h2 => by omega)]
    exact ⟨hs, (Ext.refl w).ch, by first | trivial | rfl⟩
  obtain ⟨g, cap, hv, hcap, hcm⟩ := hs.openV (by intro e; have := evs_len L; rw [e] at this; simp at this; omega)
  rw [evs_len] at hv hcap
  refine iLp (fun k : Nat => [.int .i64 (k : Int)]) (fun k w' => 1 ≤ k ∧ k ≤ L.length ∧ Ext w w' ∧ ∀ i, 1 ≤ i → i < k → ¬ (gt L i).2 = (gt L (i - 1)).2) (fun k => L.length - k) 1 rfl ⟨Nat.le_refl _, by omega, Ext.refl _, fun i h1 h2 => by omega⟩ ?_
  rintro k w2 Kn ⟨hk1, hkn, h2, hne⟩ hKn
  have hs2 := hs.ext h2
  intro _
  simp only [gx]
  refine iLenS hs2.sl ?_
  rw [evs_len]
  refine iLt ?_
  refine iCndP (fun h3 => ?_) (fun h3 => ?_)
  rotate_left
  · rw [ddV_id (fun i h1 h2 => hne i h1 (by omega))]
    exact ⟨hs2, h2.ch, by first | trivial | rfl⟩
  refine iRdO (j := k) hs2 rfl (by omega) ?_
  refine iSub (by omega) ?_
  refine iRdO (j := k - 1) hs2 (by omega) (by omega) ?_
  have hr2 := hrw.ext h2
  refine iEqV (hr2.at (by omega)) (hr2.at (by omega)) fun w3 h23 => ?_
  have hs3 := hs2.ext h23
  refine iCndP (fun h4 => ?_) (fun h4 => ?_)
  rotate_left
  · refine iAdd (by omega) ?_
    refine hKn (k + 1) _ ⟨by omega, by omega, h2.trans h23, fun i h1 h5 => ?_⟩ (by omega)
    by_cases hi : i = k
    · subst hi; exact h4
    · exact hne i h1 (by omega)
  subst hv
  refine iSlTailV (k := k) (by omega) hcap ?_
  refine iLp (fun s : Nat × Nat => [.int .i64 (s.1 : Int), .int .i64 (s.2 : Int)]) (fun s w' => k ≤ s.1 ∧ s.1 + 1 ≤ k + s.2 ∧ k + s.2 ≤ L.length ∧ ∃ M, Turn lo t_Si64 encV (.slice (some ⟨g, 0, none⟩) L.length cap) w w' M ∧ M.length = L.length ∧ M.take s.1 = ddV (L.take (k + s.2)) ∧ ∀ j, k + s.2 ≤ j + 1 → gt M j = gt L j) (fun s => L.length - s.2) (k, 1) rfl
    ⟨Nat.le_refl _, Nat.le_refl _, by show k + 1 ≤ L.length; omega, L, ⟨hs3, (h2.trans h23).ch⟩, rfl, by show L.take k = ddV (L.take (k + 1)); rw [ddV_take hk1 (by omega), if_pos h4, ddV_idk k (by omega) hne], fun _ _ => rfl⟩ ?_
  rintro ⟨kk, k2⟩ w5 Kn5 ⟨hkk, hkk2, hk2, M, ht, hM, hMt, hMe⟩ hKn5
  have hkk : k ≤ kk := hkk
  have hkk2 : kk + 1 ≤ k + k2 := hkk2
  have hk2 : k + k2 ≤ L.length := hk2
  have hMt : M.take kk = ddV (L.take (k + k2)) := hMt
  have hMe : ∀ j, k + k2 ≤ j + 1 → gt M j = gt L j := hMe
  intro _
  simp only [gx]
  refine iLenL ?_
  refine iLt ?_
  refine iCndP (fun h5 => ?_) (fun h5 => ?_)
  · refine iIaL (j := k2) (by omega) ?_
    refine iLd (ht.ow.atV (by rw [List.length_map]; exact hM) (j := k + k2) (by omega) |>.trans (evs_get M (by omega))) ?_
    refine iSub (by omega) ?_
    rw [show (k2 : Int) - 1 = ((k2 - 1 : Nat) : Int) by omega]
    refine iIaL (j := k2 - 1) (by omega) ?_
    refine iLd (ht.ow.atV (by rw [List.length_map]; exact hM) (j := k + (k2 - 1)) (by omega) |>.trans (evs_get M (by omega))) ?_
    have e1 := hMe (k + k2) (by omega)
    have e2 := hMe (k + (k2 - 1)) (by omega)
    have hr5 : RowsV t_i64 w5 L := fun y hy => (hrw y hy).ch ht.ch fun c hc hc' => (hrw y hy).ne_ow hs (by decide) hc hc'
    refine iNeV (by rw [e1]; exact hr5.at (by omega)) (by rw [e2]; exact hr5.at (by omega)) fun w6 h56 => ?_
    have ht6 := ht.ext h56
    have edd := ddV_take (L := L) (i := k + k2) (by omega) (by omega)
    rw [← e1, show k + k2 - 1 = k + (k2 - 1) by omega, ← e2] at edd
    refine iCndP (fun h6 => ?_) (fun h6 => ?_)
    · rw [if_neg h6, ← hMt] at edd
      refine iIaL (j := k2) (by omega) ?_
      refine iLd (ht6.ow.atV (by rw [List.length_map]; exact hM) (j := k + k2) (by omega) |>.trans (evs_get M (by omega))) ?_
      refine iIaOw ht6.ow (by omega) (by rw [List.length_map]; omega) fun b o hb _ _ hc hf hset => ?_
      refine iSt (hc.trans (List.getElem?_eq_getElem (by rw [List.length_map]; omega))) hf (encV_cell _) ?_
      have hset := hset (encV (gt M (k + k2)))
      rw [Int.toNat_natCast, ← List.map_set] at hset
      refine iAdd (by omega) ?_
      refine iAdd (by omega) ?_
      refine hKn5 (kk + 1, k2 + 1) _ ⟨by show k ≤ kk + 1; omega, by show kk + 1 + 1 ≤ k + (k2 + 1); omega, by show k + (k2 + 1) ≤ L.length; omega, M.set kk (gt M (k + k2)), ⟨hset, ht6.ch.trans ((Upd.setCell w6 b o _).ch (S := fun c => Value.ownBlock (.slice (some ⟨g, 0, none⟩) L.length cap) = some c) hb) fun _ e => .inl e⟩, by rw [List.length_set]; exact hM, ?_, fun j hj => ?_⟩ (by show L.length - (k2 + 1) < L.length - k2; omega)
      · show (M.set kk (gt M (k + k2))).take (kk + 1) = ddV (L.take (k + (k2 + 1)))
        rw [show k + (k2 + 1) = k + k2 + 1 by omega, edd, List.take_succ_eq_append_getElem (by rw [List.length_set]; omega), List.getElem_set_self, List.take_set_of_le (Nat.le_refl _)]
      · have hj : k + (k2 + 1) ≤ j + 1 := hj
        rw [gt_set _ (by omega), if_neg (by omega)]
        exact hMe j (by omega)
    · rw [if_pos (Classical.not_not.1 h6), ← hMt] at edd
      refine iAdd (by omega) ?_
      exact hKn5 (kk, k2 + 1) _ ⟨hkk, by show kk + 1 ≤ k + (k2 + 1); omega, by show k + (k2 + 1) ≤ L.length; omega, M, ht6, hM, edd.symm, fun j hj => hMe j (by have hj : k + (k2 + 1) ≤ j + 1 := hj; omega)⟩ (by show L.length - (k2 + 1) < L.length - k2; omega)
  · have hend : k + k2 = L.length := by omega
    rw [hend, List.take_length] at hMt
    refine iSlTailV (k := kk) (by omega) hcap ?_
    refine iClrV u_SSi64 i_SSi64 rfl ht.ow (by rw [List.length_map]; exact hM) (by omega) fun w8 h8 hc8 => ?_
    refine iSlHeadV (k := kk) (by omega) hcap ?_
    rw [show (List.map encV M).take kk = evL (M.take kk) from evs_take M kk, hMt] at h8
    exact ⟨h8, ht.ch.trans hc8 fun c hc => .inl (by rw [hc]; rfl), rfl⟩
theorem ok_impl_sortedLists {lo : Nat} {w : World} {v : Value} {L : List VL} (hs : Ow lo t_Si64 w v (evL L)) (hrw : RowsV t_i64 w L) (hL : L.length ≤ 1152921504606846976) :
    Cal Try.prog f_impl_sortedLists #[v] w fun r w' => ∃ M : List VL, Ow lo t_Si64 w' r (evL M) ∧ Ch (fun c => v.ownBlock = some c) w w' ∧ M.map Prod.snd = setA lessB (L.map Prod.snd) ∧ (∃ L', List.Perm L' L ∧ List.Sublist M L') := by
  apply c_impl_sortedLists; unfold S_impl_sortedLists
  refine iCall ((ok_slices_SortFunc_SSi64_Si64 hs hrw hL).mono ?_)
  rintro _ w1 ⟨L', ho, hch, hp, hpw⟩
  have hr1 : RowsV t_i64 w1 L' := fun y hy => (hrw y (hp.mem_iff.1 hy)).ch hch fun c hc hc' => (hrw y (hp.mem_iff.1 hy)).ne_ow hs (by decide) hc hc'
  refine iCall ((ok_slices_CompactFunc_SSi64_Si64 ho hr1 (by rw [hp.length_eq]; exact hL)).mono ?_)
  rintro r w2 ⟨h1, h2, h3⟩
  have hsp := (ddA_spec (key := Prod.snd) ordL hpw L'.length (Nat.le_refl _)).1
  rw [List.take_length] at hsp
  exact ⟨_, h1, hch.trans h2 fun c hc => .inl hc, ddA_set ordL hpw (fun a => (hp.map Prod.snd).mem_iff), L', hp, hsp⟩
end Go.Proofs.Ytfhdhdgabdpmkaa

/- Contracts: rows of rows in order without doubles, in the reference. Conditions: none. -/
namespace Go.Vc
section
universe u
variable {α : Type u} {enc : α → Value} {w : World}
theorem iRdS [Inhabited α] {v : Value} {L : List α} {j : Nat} {k : IntKind} {K : Value → Prop} (hs : Sl w v (L.map enc)) (hj : j < L.length) (h : K (enc (gt L j))) : xIa 1 v (.int k (j : Int)) fun p => xLd w p K :=
  iIaV hs (by rw [List.length_map]; exact hj) fun p hc => iLd hc (by rw [List.getElem_map, ← gt_eq hj]; exact h)
end
end Go.Vc
namespace Go.Proofs.Ytfhdhdgabdpmkaa
open Go.Vc
theorem ok_spec_l01Same {va vb : Value} {w : World} {a b : List Int} (ha : SlI w va a) (hb : SlI w vb b) : Ret Try.prog f_spec_l01Same #[va, vb] w (.bool (decide (a = b))) := by
  apply c_spec_l01Same; unfold S_spec_l01Same
  have hal := ha.len
  have hbl := hb.len
  ((with_reducible refine iLenI (by assumption) ?_; refine iLenI (by assumption) ?_; refine iNe ?_))
  refine iCndP (fun h => ?_) (fun h => ?_)
  · rw [decide_eq_false (fun e => h (by rw [e]))]
    exact ⟨rfl, Ext.refl _⟩
  have hlen : a.length = b.length := by omega
  refine iLp (fun k : Nat => [.int .i64 (k : Int)]) (fun k w' => k ≤ a.length ∧ Ext w w' ∧ ∀ i, i < k → a[i]? = b[i]?) (fun k => a.length - k) 0 rfl ⟨Nat.zero_le _, Ext.refl _, fun i hi => by omega⟩ ?_
  rintro k w2 Kn ⟨hka, h2, heq⟩ hKn
  have ha2 := ha.ext h2
  have hb2 := hb.ext h2
  (intro _; (try simp only [gx]); (with_reducible refine iLenI (by assumption) ?_; refine iLt ?_))
  refine iCndP (fun h5 => ?_) (fun h5 => ?_)
  · have h5a : k < a.length := by omega
    have h5b : k < b.length := by omega
    have ea : a.getD k 0 = a[k] := by simp [List.getD_eq_getElem?_getD, h5a]
    have eb : b.getD k 0 = b[k] := by simp [List.getD_eq_getElem?_getD, h5b]
    ((with_reducible refine iIaN (by assumption) ?_ (fun pa_ hpa_ => ?_)); omega; (with_reducible refine iLd (by assumption) ?_); (with_reducible refine iIaN (by assumption) ?_ (fun pa_ hpa_ => ?_)); omega; (with_reducible refine iLd (by assumption) ?_; refine iNe ?_))
    rw [ea, eb]
    intro w3 h3
    refine iCndP (fun h7 => ?_) (fun h7 => ?_)
    · rw [decide_eq_false (fun e => h7 (by subst e; rfl))]
      exact ⟨rfl, h2.trans h3⟩
    · (refine iAdd (by omega) ?_)
      refine hKn (k + 1) _ ⟨by omega, h2.trans h3, fun i hi => ?_⟩ (by omega)
      by_cases hik : i = k
      · subst hik
        rw [List.getElem?_eq_getElem h5a, List.getElem?_eq_getElem h5b, Classical.not_not.1 h7]
      · exact heq i (by omega)
  · rw [decide_eq_true (List.ext_getElem? fun i => ?_)]
    · exact ⟨rfl, h2⟩
    rcases Nat.lt_or_ge i k with h | h
    · exact heq i h
    · rw [List.getElem?_eq_none (by omega), List.getElem?_eq_none (by omega)]
theorem ok_spec_l04Sorted {w : World} {v : Value} {P : List VL} (hv : Sl w v (P.map Prod.fst)) (hP : ∀ p ∈ P, SlI w p.1 p.2) (hPl : ∀ p ∈ P, p.2.length ≤ 1000000) (hlen : P.length ≤ 1000000) :
    Cal Try.prog f_spec_l04Sorted #[v] w fun r w' => Ext w w' ∧ RdLL w.heap.size w' r (setA lessB (P.map Prod.snd)) := by
  apply c_spec_l04Sorted; unfold S_spec_l04Sorted
  refine iBs0 fun u0 w1 _ h1 hu0 => ?_
  refine iLp (fun s : Nat × Value => [s.2, .int .i64 (s.1 : Int)]) (fun s w' => s.1 ≤ P.length ∧ Ext w w' ∧ ∃ Q : List VL, Ow w.heap.size t_Si64 w' s.2 (Q.map Prod.fst) ∧ OwP w.heap.size t_i64 w' Q ∧ Q.map Prod.snd = setA lessB ((P.map Prod.snd).take s.1)) (fun s => P.length - s.1) (0, u0) rfl ⟨Nat.zero_le _, h1, [], hu0, ⟨fun p hp => (by cases hp), List.Pairwise.nil⟩, rfl⟩ ?_
  rintro ⟨i, u⟩ w2 Kn ⟨hi, h2, Q, ho, hQ, hQs⟩ hKn
  have hi : i ≤ P.length := hi
  have h2 : Ext w w2 := h2
  have ho : Ow w.heap.size t_Si64 w2 u (Q.map Prod.fst) := ho
  have hQs : Q.map Prod.snd = setA lessB ((P.map Prod.snd).take i) := hQs
  have hQl : Q.length ≤ i := by
    have e := congrArg List.length hQs
    rw [List.length_map] at e
    have := setA_len (lt := lessB) ((P.map Prod.snd).take i)
    rw [List.length_take] at this
    omega
  have hv2 := hv.ext h2
  intro _
  simp only [gx]
  refine iLenS hv2 ?_
  rw [List.length_map]
  refine iLt ?_
  refine iCndP (fun h3 => ?_) (fun h3 => ?_)
  rotate_left
  · obtain rfl : i = P.length := by omega
    rw [List.take_of_length_le (by simp)] at hQs
    exact ⟨h2, Q.map Prod.fst, ho, by rw [← hQs]; exact hQ.to⟩
  have hi1 : i < P.length := by omega
  have hxm : gt P i ∈ P := by rw [gt_eq hi1]; exact List.getElem_mem _
  have etk : (P.map Prod.snd).take (i + 1) = (P.map Prod.snd).take i ++ [(gt P i).2] := by
    rw [List.take_succ_eq_append_getElem (by simpa using hi1), List.getElem_map, gt_eq hi1]
  have hset : setA lessB ((P.map Prod.snd).take (i + 1)) = insA lessB (gt P i).2 (Q.map Prod.snd) := by rw [etk, setA_snoc, ← hQs]
  generalize hx : (gt P i).2 = x at *
  have hxw : SlI w (gt P i).1 x := by rw [← hx]; exact hP _ hxm
  have hxl : x.length ≤ 1000000 := by rw [← hx]; exact hPl _ hxm
  have hgq : ∀ k, k < Q.length → gt (Q.map Prod.snd) k = (gt Q k).2 := fun k hk => by
    rw [gt_eq (by simpa using hk), gt_eq hk, List.getElem_map]
  have hqs : ∀ {w'}, Ext w2 w' → ∀ k, k < Q.length → SlI w' (gt Q k).1 (gt Q k).2 := fun h k hk => ((hQ.1 _ (by rw [gt_eq hk]; exact List.getElem_mem _)).ext h).sl
  refine iLp (fun k : Nat => [.int .i64 (k : Int)]) (fun k w' => k ≤ Q.length ∧ Ext w2 w' ∧ ∀ j, j < k → lessB (gt (Q.map Prod.snd) j) x = true) (fun k => Q.length - k) 0 rfl ⟨Nat.zero_le _, Ext.refl _, fun j hj => by omega⟩ ?_
  rintro k w3 Kn3 ⟨hk, h23, hlt⟩ hKn3
  have ho3 := ho.ext h23
  have hv3 := hv2.ext h23
  intro _
  simp only [gx]
  refine iJnB (decide (k < Q.length) && lessB (gt Q k).2 x) w3 (fun J hJ => ?_) (fun w4 h4 => ?_)
  · refine iLenS ho3.sl ?_
    rw [List.length_map]
    refine iLt ?_
    refine iCndP (fun h => ?_) (fun h => ?_)
    · rw [decide_eq_true (show k < Q.length by omega), Bool.true_and] at hJ
      refine iRdO (j := k) ho3 rfl (by omega) ?_
      refine iRdS (j := i) hv3 hi1 ?_
      refine iRetQ (fun w' h' => ok_spec_l01Less (hqs (h23.trans h') k (by omega)) (((hxw.ext h2).ext h23).ext h')) ?_
      exact hJ
    · rw [decide_eq_false (show ¬ k < Q.length by omega), Bool.false_and] at hJ
      exact hJ
  intro _
  simp only [gx]
  have ho4 := ho3.ext h4
  have hv4 := hv3.ext h4
  have h24 := h23.trans h4
  cases hc : decide (k < Q.length) && lessB (gt Q k).2 x
  rotate_left
  · rw [Bool.and_eq_true, decide_eq_true_eq] at hc
    refine iCndT rfl ?_
    refine iAdd (by omega) ?_
    refine hKn3 (k + 1) _ ⟨by omega, h24, fun j hj => ?_⟩ (by omega)
    by_cases hjk : j = k
    · subst hjk; rw [hgq j hc.1]; exact hc.2
    · exact hlt j (by omega)
  refine iCndF rfl ?_
  have hsp := insA_split (t := x) (l := Q.map Prod.snd) (k := k) (by simpa using hk) hlt
  refine iJnB (decide (k < Q.length) && decide ((gt Q k).2 = x)) w4 (fun J hJ => ?_) (fun w6 h6 => ?_)
  · refine iLenS ho4.sl ?_
    rw [List.length_map]
    refine iLt ?_
    refine iCndP (fun h => ?_) (fun h => ?_)
    · rw [decide_eq_true (show k < Q.length by omega), Bool.true_and] at hJ
      refine iRdO (j := k) ho4 rfl (by omega) ?_
      refine iRdS (j := i) hv4 hi1 ?_
      refine iRetQ (fun w' h' => ok_spec_l01Same (hqs (h24.trans h') k (by omega)) (((hxw.ext h2).ext h24).ext h')) ?_
      exact hJ
    · rw [decide_eq_false (show ¬ k < Q.length by omega), Bool.false_and] at hJ
      exact hJ
  intro _
  simp only [gx]
  have ho6 := ho4.ext h6
  have hv6 := hv4.ext h6
  have h26 := h24.trans h6
  have hX6 := h2.trans h26
  have hQ6 := hQ.ext h26
  cases hc2 : decide (k < Q.length) && decide ((gt Q k).2 = x)
  rotate_left
  · rw [Bool.and_eq_true, decide_eq_true_eq, decide_eq_true_eq] at hc2
    refine iCndT rfl ?_
    refine iAdd (by omega) ?_
    refine hKn (i + 1, u) _ ⟨by show i + 1 ≤ P.length; omega, hX6, Q, ho6, hQ6, ?_⟩ (by show P.length - (i + 1) < P.length - i; omega)
    show Q.map Prod.snd = setA lessB ((P.map Prod.snd).take (i + 1))
    have hkm : k < (Q.map Prod.snd).length := by simpa using hc2.1
    have hgk : (Q.map Prod.snd)[k] = x := by rw [← gt_eq hkm, hgq k hc2.1]; exact hc2.2
    rw [hset, hsp, List.drop_eq_getElem_cons hkm, hgk, insA, lessB_irr, if_neg (by decide), if_neg (by decide)]
    have := List.take_append_drop k (Q.map Prod.snd)
    rw [List.drop_eq_getElem_cons hkm, hgk] at this
    exact this.symm
  · refine iCndF rfl ?_
    have hres : insA lessB x (Q.map Prod.snd) = (Q.map Prod.snd).take k ++ [x] ++ (Q.map Prod.snd).drop k := by
      rw [hsp]
      rcases Nat.lt_or_ge k Q.length with h | h
      · rw [decide_eq_true h, Bool.true_and] at hc hc2
        have hkm : k < (Q.map Prod.snd).length := by simpa using h
        have hgk : (Q.map Prod.snd)[k] = (gt Q k).2 := by rw [← gt_eq hkm, hgq k h]
        rw [List.drop_eq_getElem_cons hkm, hgk, insA, hc, if_neg (by decide)]
        rcases ordL.tot (gt Q k).2 x with h' | h' | h'
        · rw [hc] at h'; cases h'
        · exact absurd h' (of_decide_eq_false hc2)
        · rw [if_pos h']; simp
      · rw [List.drop_of_length_le (by simpa using h)]; simp [insA]
    have hcell : ∀ y ∈ Q.map Prod.fst, isCell y = true := fun y hy => by
      obtain ⟨p, hp, rfl⟩ := List.mem_map.1 hy
      exact (hQ.1 p hp).cell
    have hml : (Q.map Prod.fst).length = Q.length := List.length_map _
    refine iBs0 fun v7 w7 hw7 h7 ho7 => ?_
    have ho67 := ho6.ext h7
    refine iSlTo ho67.sl (by rw [hml]; exact hk) fun y hy => ?_
    refine iAppA u_SSi64 i_SSi64 rfl ho7 hy (fun z hz => hcell z (List.mem_of_mem_take hz)) (by rw [List.length_take, List.length_nil]; omega) (by rw [List.length_take, List.length_nil]; omega) (by omega) fun v8 w8 ho8 hg8 _ => ?_
    have hX8 := h7.grown hg8 fun b hb => (ho7.blk b hb).1
    have hX8' := hX6.trans hX8
    refine iRdS (j := i) (hv6.ext hX8) hi1 ?_
    refine iCall ((ok_spec_l01Own (hxw.ext hX8') (by omega)).mono ?_)
    rintro nr w9 ⟨h9, hnr⟩
    have ho9 := ho8.ext h9
    have hX9 := hX8.trans h9
    have hll : ([] ++ List.take k (Q.map Prod.fst)).length = k := by simp; omega
    refine iApp1A u_SSi64 i_SSi64 rfl ho9 hnr.cell (by rw [hll]; omega) (by rw [hll]; omega) (by have := hX9.size; omega) fun v10 w10 ho10 hg10 _ => ?_
    have hX10 := hX9.grown hg10 fun b hb => (ho9.blk b hb).1
    have ho610 := ho6.ext hX10
    have hnr10 := hnr.ch (grown_ch (S := fun c => v8.ownBlock = some c) hg10 fun c hc => hc) fun c hc he => hnr.ne_ow ho9 (by decide) hc he
    refine iSlFrom ho610.sl (by rw [hml]; exact hk) fun y' hy' => ?_
    have hll2 : (([] ++ List.take k (Q.map Prod.fst)) ++ [nr]).length = k + 1 := by rw [List.length_append, hll]; rfl
    refine iAppA u_SSi64 i_SSi64 rfl ho10 hy' (fun z hz => hcell z (List.mem_of_mem_drop hz)) (by rw [hll2, List.length_drop, hml]; omega) (by rw [hll2, List.length_drop, hml]; omega) (by have := hX10.size; omega) fun v11 w11 ho11 hg11 _ => ?_
    have hX11 := hX10.grown hg11 fun b hb => (ho10.blk b hb).1
    have hnr11 := hnr10.ch (grown_ch (S := fun c => v10.ownBlock = some c) hg11 fun c hc => hc) fun c hc he => hnr10.ne_ow ho10 (by decide) hc he
    refine iAdd (by omega) ?_
    have hlo6 := hX6.size
    have hQ11 := hQ6.ext hX11
    refine hKn (i + 1, v11) _ ⟨by show i + 1 ≤ P.length; omega, hX6.trans hX11, Q.take k ++ (nr, x) :: Q.drop k, ?_, ?_, ?_⟩ (by show P.length - (i + 1) < P.length - i; omega)
    · have e : (Q.take k ++ (nr, x) :: Q.drop k).map Prod.fst = [] ++ List.take k (Q.map Prod.fst) ++ [nr] ++ List.drop k (Q.map Prod.fst) := by
        rw [List.map_append, List.map_cons, List.map_take, List.map_drop]; simp
      show Ow _ _ _ v11 _
      rw [e]
      exact ho11.mono hlo6
    · refine OwP.perm (P := (nr, x) :: Q) ⟨fun p hp => ?_, List.pairwise_cons.2 ⟨fun p hp c hc hc' => ?_, hQ11.2⟩⟩ ?_
      · rcases List.mem_cons.1 hp with rfl | hp
        · exact hnr11.mono (by have := hX8.size; omega)
        · exact hQ11.1 p hp
      · have a1 := (hnr.blk c hc).1
        have a2 := ((hQ6.1 p hp).blk c hc').2
        have := hX8.size
        omega
      · have := (List.perm_middle (a := (nr, x)) (l₁ := Q.take k) (l₂ := Q.drop k)).symm
        rwa [List.take_append_drop] at this
    · show (Q.take k ++ (nr, x) :: Q.drop k).map Prod.snd = setA lessB ((P.map Prod.snd).take (i + 1))
      rw [hset, hres, List.map_append, List.map_cons, List.map_take, List.map_drop]; simp
end Go.Proofs.Ytfhdhdgabdpmkaa

/- Plain facts on duals of maps: they tell the maps apart; as many as the maps. No program in sight. Conditions: none. -/
namespace Go.Vc
/-- Which of the first k elements go into a mask. -/
def pullK (im : List Nat) (mask k : Nat) : Nat := setOf ((List.range k).filter fun x => mask.testBit (im.getD x 0))
def pullN (im : List Nat) (mask : Nat) : Nat := pullK im mask im.length
theorem pullK_succ (im : List Nat) (mask k : Nat) : pullK im mask (k + 1) = if mask.testBit (im.getD k 0) then pullK im mask k ||| 2 ^ k else pullK im mask k := by
  unfold pullK
  rw [List.range_succ, List.filter_append]
  cases h : mask.testBit (im.getD k 0)
  · simp only [List.filter_cons, List.filter_nil, h]
    simp
  · simp only [List.filter_cons, List.filter_nil, h, if_true]
    rw [setOf_snoc]
theorem pullK_lt (im : List Nat) (mask k : Nat) : pullK im mask k < 2 ^ k := setOf_lt fun _ hy => List.mem_range.1 (List.mem_filter.1 hy).1
theorem pullN_testBit (im : List Nat) (mask x : Nat) (hx : x < im.length) : (pullN im mask).testBit x = mask.testBit (im.getD x 0) := by
  unfold pullN pullK
  rw [setOf_testBit, List.contains_eq_mem, Bool.eq_iff_iff, decide_eq_true_eq, List.mem_filter, List.mem_range]
  exact ⟨fun h => h.2, fun h => ⟨hx, h⟩⟩
/-- The dual of a map into n elements. -/
def dualK (im : List Nat) (k : Nat) : List Nat := (List.range k).map (pullN im)
def dualN (n : Nat) (im : List Nat) : List Nat := dualK im (2 ^ n)
theorem dualK_succ (im : List Nat) (k : Nat) : dualK im (k + 1) = dualK im k ++ [pullN im k] := by simp [dualK, List.range_succ]
theorem dualK_len (im : List Nat) (k : Nat) : (dualK im k).length = k := by simp [dualK]
theorem dualN_inj {n : Nat} {im im' : List Nat} (hl : im.length = im'.length) (h : ∀ y ∈ im, y < n) (e : dualN n im = dualN n im') : im = im' := by
  refine List.ext_getElem hl fun x h1 h2 => ?_
  have hy : im[x] < n := h _ (List.getElem_mem h1)
  have hp : 2 ^ im[x] < 2 ^ n := Nat.pow_lt_pow_right (by omega) hy
  have e1 : pullN im (2 ^ im[x]) = pullN im' (2 ^ im[x]) := by
    have := congrArg (fun l : List Nat => l[2 ^ im[x]]?) e
    simpa [dualN, dualK, hp] using this
  have e2 := congrArg (fun m : Nat => m.testBit x) e1
  simp only [pullN_testBit _ _ _ h1, pullN_testBit _ _ _ h2] at e2
  have g1 : im.getD x 0 = im[x] := by simp [List.getD_eq_getElem?_getD, h1]
  have g2 : im'.getD x 0 = im'[x] := by simp [List.getD_eq_getElem?_getD, h2]
  rw [g1, g2, Nat.testBit_two_pow_self] at e2
  rw [Nat.testBit_two_pow] at e2
  exact of_decide_eq_true e2.symm
section
variable {α : Type} {lt : α → α → Bool}
theorem insA_new {t : α} (O : OrdA lt) : ∀ {l : List α}, t ∉ l → (insA lt t l).length = l.length + 1
  | [], _ => by simp [insA]
  | x :: l, h => by
    rw [List.mem_cons, not_or] at h
    unfold insA
    split
    · simp [insA_new O h.2]
    · rename_i h1
      split
      · simp
      · rename_i h2
        exact absurd (O.anti (by simpa using h1) (by simpa using h2)).symm h.1
theorem setA_new (O : OrdA lt) {l : List α} (h : l.Nodup) : (setA lt l).length = l.length := by
  suffices H : ∀ k, k ≤ l.length → (setA lt (l.take k)).length = k by
    have := H l.length (Nat.le_refl _)
    rwa [List.take_length] at this
  intro k
  induction k with
  | zero => intro _; rfl
  | succ k ih =>
    intro hk
    have hk' : k < l.length := by omega
    rw [List.take_succ_eq_append_getElem hk', setA_snoc, insA_new O, ih (by omega)]
    rw [mem_setA O, List.mem_take_iff_getElem]
    rintro ⟨i, hi, he⟩
    have := (List.nodup_iff_pairwise_ne.1 h)
    have := (List.pairwise_iff_getElem.1 this) i k (by omega) hk' (by omega)
    exact this he
end
theorem ints_inj : ∀ {a b : List Nat}, nats a = nats b → a = b
  | [], [], _ => rfl
  | [], y :: b, h => by simp [nats] at h
  | x :: a, [], h => by simp [nats] at h
  | x :: a, y :: b, h => by
    simp only [nats, List.map_cons, List.cons.injEq] at h
    rw [ints_inj (a := a) (b := b) h.2, Int.ofNat.inj h.1]
/-- The duals of maps, in order. -/
def homL (n : Nat) (L : List (List Nat)) : List (List Int) := setA lessB (L.map fun im => nats (dualN n im))
theorem homL_len {n d : Nat} {L : List (List Nat)} (hn : L.Nodup) (h : ∀ im ∈ L, im.length = d ∧ ∀ y ∈ im, y < n) : (homL n L).length = L.length := by
  have ord : OrdA lessB := ⟨⟨fun {a b} h => lessB_asymm a b h, fun {a b c} h k => lessB_trans a b c h k⟩, fun {a b} h k => lessB_anti a b h k⟩
  unfold homL
  rw [setA_new ord, List.length_map]
  rw [List.nodup_iff_pairwise_ne, List.pairwise_map]
  refine List.Pairwise.imp_of_mem ?_ (List.nodup_iff_pairwise_ne.1 hn)
  intro a b ha hb hne e
  exact hne (dualN_inj ((h a ha).1.trans (h b hb).1.symm) (h a ha).2 (ints_inj e))
theorem homL_take {n d : Nat} {L : List (List Nat)} (hn : L.Nodup) (h : ∀ im ∈ L, im.length = d ∧ ∀ y ∈ im, y < n) :
    (if 200 < (homL n (L.take 201)).length then (([], 3) : List (List Int) × Int) else (homL n (L.take 201), 0)) = if 200 < (homL n L).length then ([], 3) else (homL n L, 0) := by
  rw [homL_len hn h, homL_len (d := d) (hn.sublist (List.take_sublist _ _)) fun im hi => h im (List.mem_of_mem_take hi), List.length_take]
  by_cases hl : 200 < L.length
  · rw [if_pos hl, if_pos (by omega)]
  · rw [if_neg hl, if_neg (by omega), List.take_of_length_le (by omega)]
end Go.Vc

/- Contracts: the frame of an algebra in the program; isomorphic algebras. Conditions: none. -/
namespace Go.Proofs.Ytfhdhdgabdpmkaa
open Go.Vc
/-- The masks while world w is under way with seen world v. -/
def algRow (a : List Nat) (m v w : Nat) : List Nat := (List.range m).map fun x => algMask a m x (if x < w then v + 1 else v)
theorem algRow_zero (a : List Nat) (m v : Nat) : algRow a m v 0 = (List.range m).map fun x => algMask a m x v := by
  unfold algRow
  exact List.map_congr_left fun x _ => by rw [if_neg (by omega)]
theorem algRow_full (a : List Nat) (m v : Nat) : algRow a m v m = algRow a m (v + 1) 0 := by
  rw [algRow_zero]
  unfold algRow
  exact List.map_congr_left fun x hx => by rw [if_pos (List.mem_range.1 hx)]
theorem algRow_get (a : List Nat) (m v w : Nat) (hw : w < m) : (algRow a m v w)[w]'(by simp [algRow]; exact hw) = algMask a m w v := by
  simp [algRow]
theorem algRow_step (a : List Nat) (m v w : Nat) (_hw : w < m) : (algRow a m v w).set w (algMask a m w (v + 1)) = algRow a m v (w + 1) := by
  apply List.ext_getElem
  · simp [algRow]
  · intro i h1 h2
    have hi : i < m := by simpa [algRow] using h2
    rw [List.getElem_set]
    split
    · rename_i h; subst h; simp [algRow]
    · rename_i h
      simp only [algRow, List.getElem_map, List.getElem_range]
      congr 1
      split <;> split <;> omega
theorem algRow_same (a : List Nat) (m v w : Nat) (hw : w < m) (h : algMask a m w (v + 1) = algMask a m w v) : algRow a m v (w + 1) = algRow a m v w := by
  rw [← algRow_step a m v w hw, h]
  apply List.ext_getElem
  · simp
  · intro i h1 h2
    rw [List.getElem_set]
    split
    · rename_i h; subst h; exact (algRow_get a m v w hw).symm
    · rfl
theorem ok_impl_ModalAlgebra_frameO {v : Value} {w : World} {a : List Nat} {m : Nat} (hs : SlN w v a) (hm5 : m ≤ 5) (hal : a.length = 2 ^ m) (hlt : ∀ x ∈ a, x < 2 ^ m) : Cal Try.prog f_impl_ModalAlgebra_frame #[.agg #[.int .i64 (m : Int), v]] w fun r w' => Ext w w' ∧ ∃ v', r = .agg #[.int .i64 (m : Int), v'] ∧ Ow w.heap.size t_i64 w' v' (ints (nats (algFr m a).a)) := by
  apply c_impl_ModalAlgebra_frame; unfold S_impl_ModalAlgebra_frame
  have hX := Ext.refl w
  have hs0 := hs
  have h32 : 2 ^ m ≤ 32 := Nat.pow_le_pow_right (n := 2) (by omega) hm5
  have hp := Nat.two_pow_pos m
  have hget : ∀ i, a.getD i 0 < 32 := fun i => Nat.lt_of_lt_of_le (getD_lt_all hlt hp i) h32
  refine iNew fun b1 w1 hb1 h hB1 => ?_
  have hX := hX.trans h
  refine iNew fun b2 w2 hb2 h hB2 => ?_
  have hlb2 : w.heap.size ≤ b2 := by have := hX.size; omega
  have hX := hX.trans h
  have hB1 := hB1.ext h
  ((with_reducible refine iFa ?_); refine iLdB (by assumption) (by first | rfl | simp) ?_)
  refine iMk (n := m) (by omega) (by omega) rfl fun c w3 hc h hC => ?_
  have hlc : w.heap.size ≤ c := by have := hX.size; omega
  have hb1c : b1 ≠ c := by have := hB1.lt; omega
  have hb2c : b2 ≠ c := by have := hB2.lt; omega
  have hX := hX.trans h
  have hB1 := hB1.ext h
  have hB2 := hB2.ext h
  ((with_reducible refine iFa ?_); refine iLdB (by assumption) (by first | rfl | simp) ?_)
  have hrow0 : List.replicate m (Value.int .i64 0) = ints (nats (algRow a m 0 0)) := by
    rw [algRow_zero]
    apply List.ext_getElem
    · simp [ints, nats]
    · intro i h1 h2
      simp [ints, nats, algMask, setOf]
  rw [hrow0] at hC
  have hrl : ∀ x y, (algRow a m x y).length = m := fun x y => by simp [algRow]
  refine iLp (fun k : Nat => [.int .i64 (k : Int)]) (fun k w' => k ≤ m ∧ Ext w w' ∧ Blk _ w' b1 _ ∧ Blk _ w' b2 _ ∧ Blk t_i64 w' c (ints (nats (algRow a m k 0)))) (fun k => m - k) 0 rfl ⟨Nat.zero_le _, hX, hB1, hB2, hC⟩ ?_
  rintro k w5 Kn ⟨hk, hX, hB1, hB2, hC⟩ hKn
  (intro _; (try simp only [gx]); (with_reducible refine iLt ?_))
  refine iCndP (fun h4 => ?_) (fun h4 => ?_)
  · have hk1 : k < m := by omega
    ((with_reducible refine iFa ?_); refine iLdB (by assumption) (by first | rfl | simp) ?_)
    refine iLp (fun j : Nat => [.int .i64 (j : Int)]) (fun j w' => j ≤ m ∧ Ext w w' ∧ Blk _ w' b1 _ ∧ Blk _ w' b2 _ ∧ Blk t_i64 w' c (ints (nats (algRow a m k j)))) (fun j => m - j) 0 rfl ⟨Nat.zero_le _, hX, hB1, hB2, hC⟩ ?_
    rintro j w7 Kn2 ⟨hj, hX, hB1, hB2, hC⟩ hKn2
    have hs := hs0.ext hX
    (intro _; (try simp only [gx]); (with_reducible refine iLt ?_))
    refine iCndP (fun h5 => ?_) (fun h5 => ?_)
    · have hj1 : j < m := by omega
      have hpk := two_pow_add_le hk1
      have hpk2 := Nat.two_pow_pos k
      ((with_reducible refine iFa ?_); refine iLdB (by assumption) (by first | rfl | simp) ?_; (with_reducible refine iLdA (by assumption) ?_ ?_); rfl)
      refine iRetQ (fun w' _ => ok_impl_ModalAlgebra_full m (by omega) w') ?_
      refine iShlOne (by omega) ?_
      refine iBAndNot (by omega) (by omega) ?_
      rw [sdiff_full hk1]
      ((with_reducible refine iIaNN (by assumption) ?_ (fun pa_ hpa_ => ?_)); omega; (with_reducible refine iLd (by assumption) ?_))
      have hg := hget (2 ^ m - 1 - 2 ^ k)
      refine iRetQ (fun w' _ => ok_impl_has (a.getD (2 ^ m - 1 - 2 ^ k) 0) j (by omega) (by omega) w') ?_
      ((with_reducible refine iNot ?_))
      intro w8 h
      have hX := hX.trans h
      have hB1 := hB1.ext h
      have hB2 := hB2.ext h
      have hC := hC.ext h
      have hsu := algMask_succ a m j k
      have hm32 : algMask a m j k < 2 ^ 5 := Nat.lt_of_lt_of_le (algMask_lt a m j k) (Nat.pow_le_pow_right (by omega) (by omega))
      cases hbit : (a.getD (2 ^ m - 1 - 2 ^ k) 0).testBit j
      · rw [hbit, if_neg (by simp)] at hsu
        refine iCndT rfl ?_
        refine iIaL hj1 ?_
        refine iLdB hC (v := .int .i64 ((algMask a m j k : Nat) : Int)) ?_ ?_
        · simp [ints, nats, algRow, hj1]
        refine iShlOne (by omega) ?_
        have h2k : 2 ^ k < 2 ^ 5 := Nat.pow_lt_pow_right (by omega) (by omega)
        refine iBOr (by omega) (by omega) ?_
        rw [← hsu]
        refine iIaL hj1 ?_
        intro w9 h
        have hX := hX.trans h
        have hB1 := hB1.ext h
        have hB2 := hB2.ext h
        have hC := hC.ext h
        refine iStB hC (by simp [ints, nats, algRow, hj1]) rfl fun hC' => ?_
        have hu := Upd.setCell w9 c (0 + j) (.int .i64 ((algMask a m j (k + 1) : Nat) : Int))
        have hX := hX.upd hu hlc
        have hB1 := hB1.upd hu hb1c
        have hB2 := hB2.upd hu hb2c
        have e1 : (ints (nats (algRow a m k j))).set (0 + j) (.int .i64 ((algMask a m j (k + 1) : Nat) : Int)) = ints (nats (algRow a m k (j + 1))) := by
          rw [Nat.zero_add, ← algRow_step a m k j hj1]
          simp [ints, nats, List.map_set]
        rw [e1] at hC'
        intro w11 h
        have hC := hC'.ext h
        have hX := hX.trans h
        have hB1 := hB1.ext h
        have hB2 := hB2.ext h
        (refine iAdd (by omega) ?_)
        exact hKn2 (j + 1) _ ⟨by omega, hX, hB1, hB2, hC⟩ (by omega)
      · rw [hbit, if_pos rfl] at hsu
        refine iCndF rfl ?_
        (refine iAdd (by omega) ?_)
        refine hKn2 (j + 1) _ ⟨by omega, hX, hB1, hB2, ?_⟩ (by omega)
        rw [algRow_same a m k j hj1 hsu]; exact hC
    · obtain rfl : j = m := by omega
      (refine iAdd (by omega) ?_)
      rw [algRow_full] at hC
      exact hKn (k + 1) _ ⟨by omega, hX, hB1, hB2, hC⟩ (by omega)
  · obtain rfl : k = m := by omega
    have ho : Ow w.heap.size t_i64 w5 (.slice (some ⟨c, 0, none⟩) k k) (ints (nats (algRow a k k 0))) := Ow.ofBlk hC hlc (by rw [ints_length, nats_length, hrl]) (by omega)
    refine iCall ((ok_impl_frameOf ho).mono ?_)
    rintro _ w12 ⟨h12, v', rfl, ho12⟩
    have hB212 := hB2.ext h12
    have hne : v'.ownBlock ≠ some b2 := ho12.ne_blk hB212 (by decide)
    refine iStAB hB212 rfl rfl (ho12.pair _) fun w13 hu hB13 => ?_
    have ho13 := ho12.upd hu hne
    have hlm : (nats (algRow a k k 0)).length = k := by rw [nats_length, hrl]
    ((with_reducible refine iLdA (by assumption) ?_ ?_); rfl)
    refine ⟨(hX.trans h12).upd hu hlb2, v', ?_, ?_⟩
    · rw [hlm]
    · have := ho13
      rw [algRow_zero] at this
      exact this
theorem algOk_of {n : Int} {l : List Int} (h : algOk n l = true) : ∃ (m : Nat) (a : List Nat), n = (m : Int) ∧ l = nats a ∧ m ≤ 5 ∧ a.length = 2 ^ m ∧ (∀ x ∈ a, x < 2 ^ m) ∧ n.toNat = m ∧ l.map Int.toNat = a := by
  unfold algOk at h
  rw [Bool.and_eq_true, Bool.and_eq_true, Bool.and_eq_true, decide_eq_true_eq, decide_eq_true_eq] at h
  obtain ⟨hn, hlen, hall, _⟩ := h
  obtain ⟨m, rfl⟩ := Int.eq_ofNat_of_zero_le hn.1
  rw [Int.toNat_natCast] at hlen hall
  obtain ⟨hl, hlt⟩ := masks_nats hall
  refine ⟨m, l.map Int.toNat, rfl, hl, by omega, by rw [List.length_map]; omega, hlt, Int.toNat_natCast m, rfl⟩
end Go.Proofs.Ytfhdhdgabdpmkaa

/- Contracts: duals of maps in the program and in the reference. Conditions: none. -/
namespace Go.Proofs.Ytfhdhdgabdpmkaa
open Go.Vc
theorem ok_impl_pull {v : Value} {w : World} {im : List Nat} (hs : SlN w v im) (hl : im.length ≤ 60) (hy : ∀ y ∈ im, y ≤ 60) (m : Nat) (hm : m < 2 ^ 62) : Ret Try.prog f_impl_pull #[v, .int .i64 (m : Int)] w (.int .i64 ((pullN im m : Nat) : Int)) := by
  apply c_impl_pull; unfold S_impl_pull
  ((with_reducible refine iLenN (by assumption) ?_))
  refine iLp (fun k : Nat => [.int .i64 ((pullK im m k : Nat) : Int), .int .i64 (k : Int)]) (fun k w' => k ≤ im.length ∧ Ext w w') (fun k => im.length - k) 0 rfl ⟨Nat.zero_le _, Ext.refl _⟩ ?_
  rintro k w2 Kn ⟨hk, h2⟩ hKn
  have hs2 := hs.ext h2
  (intro _; (try simp only [gx]); (with_reducible refine iLt ?_))
  refine iCndP (fun h3 => ?_) (fun h3 => ?_)
  · have hk1 : k < im.length := by omega
    have hsu := pullK_succ im m k
    have hx : im.getD k 0 ≤ 60 := by rw [getD_of_lt hk1]; exact hy _ (List.getElem_mem hk1)
    have hlt := Nat.lt_of_lt_of_le (pullK_lt im m k) (Nat.pow_le_pow_right (by omega) (show k ≤ 62 by omega) : 2 ^ k ≤ 2 ^ 62)
    have h2k : 2 ^ k < 2 ^ 62 := Nat.pow_lt_pow_right (by omega) (by omega)
    ((with_reducible refine iIaNN (by assumption) ?_ (fun pa_ hpa_ => ?_)); omega; (with_reducible refine iLd (by assumption) ?_))
    refine iRet (ok_impl_has m _ (by omega) (by omega) w2) fun w3 h4 => ?_
    refine iCnd (fun h5 => ?_) (fun h5 => ?_)
    · rw [h5, if_pos rfl] at hsu
      refine iShlOne (by omega) ?_
      refine iBOr (by omega) (by omega) ?_
      rw [← hsu]
      (refine iAdd (by omega) ?_)
      exact hKn (k + 1) _ ⟨by omega, h2.trans h4⟩ (by omega)
    · rw [h5, if_neg (by simp)] at hsu
      (refine iAdd (by omega) ?_)
      rw [← hsu]
      exact hKn (k + 1) _ ⟨by omega, h2.trans h4⟩ (by omega)
  · obtain rfl : k = im.length := by omega
    exact ⟨rfl, h2⟩
theorem ok_impl_dualOf {v : Value} {w : World} {im : List Nat} (hs : SlN w v im) (hl : im.length ≤ 60) (n : Nat) (hn : n ≤ 5) (hy : ∀ y ∈ im, y < n) : Cal Try.prog f_impl_dualOf #[v, .int .i64 (n : Int)] w fun r w' => Ext w w' ∧ Ow w.heap.size t_i64 w' r (ints (nats (dualN n im))) := by
  apply c_impl_dualOf; unfold S_impl_dualOf
  refine iShlOne (by omega) ?_
  have h32 : 2 ^ n ≤ 32 := Nat.pow_le_pow_right (i := n) (j := 5) (by omega) hn
  unfold dualN
  refine iLp (fun s : Nat × Value => [s.2, .int .i64 (s.1 : Int)]) (fun s w' => s.1 ≤ 2 ^ n ∧ Ext w w' ∧ Ow w.heap.size t_i64 w' s.2 (ints (nats (dualK im s.1)))) (fun s => 2 ^ n - s.1) (0, .slice none 0 0) rfl ⟨Nat.zero_le _, Ext.refl _, Ow.nil _ _ _⟩ ?_
  rintro ⟨k, u⟩ w2 Kn ⟨hk, h2, ho⟩ hKn
  have hk : k ≤ 2 ^ n := hk
  have h2 : Ext w w2 := h2
  have ho : Ow w.heap.size t_i64 w2 u (ints (nats (dualK im k))) := ho
  have hs2 := hs.ext h2
  (intro _; (try simp only [gx]); (with_reducible refine iLt ?_))
  refine iCndP (fun h3 => ?_) (fun h3 => ?_)
  · have hk1 : k < 2 ^ n := by omega
    refine iRet (ok_impl_pull hs2 hl (fun y hy' => by have := hy y hy'; omega) k (by omega)) fun w3 h4 => ?_
    have ho := ho.ext h4
    have hX := h2.trans h4
    have hlk := dualK_len im k
    refine iApp1 u_Si64 i_Si64 rfl ho rfl (by rw [ints_length, nats_length]; omega) (by rw [ints_length, nats_length]; omega) hX.size fun v' w4 ho' hg => ?_
    (refine iAdd (by omega) ?_)
    refine hKn (k + 1, v') _ ⟨by show k + 1 ≤ 2 ^ n; omega, hX.grown hg (fun b hb => (ho.blk b hb).1), ?_⟩ (by show 2 ^ n - (k + 1) < 2 ^ n - k; omega)
    show Ow _ _ _ v' (ints (nats (dualK im (k + 1))))
    rw [dualK_succ]
    simpa [ints, nats] using ho'
  · obtain rfl : k = 2 ^ n := by omega
    exact ⟨h2, ho⟩
theorem ok_spec_l08Pull {v vv : Value} {w : World} {im ms : List Nat} (hs : SlN w v im) (hv : SlN w vv ms) (hl : im.length ≤ 60) (hy : ∀ y ∈ im, y ≤ 60) (hm : ∀ m ∈ ms, m < 2 ^ 62) (hml : ms.length ≤ 1000) : Cal Try.prog f_spec_l08Pull #[v, vv] w fun r w' => Ext w w' ∧ Ow w.heap.size t_i64 w' r (ints (nats (ms.map (pullN im)))) := by
  apply c_spec_l08Pull; unfold S_spec_l08Pull
  refine iBs0 fun u0 w1 _ h1 hu0 => ?_
  have hX1 := h1.size
  refine iLp (fun s : Nat × Value => [s.2, .int .i64 (s.1 : Int)]) (fun s w' => s.1 ≤ ms.length ∧ Ext w w' ∧ Ow w.heap.size t_i64 w' s.2 (ints (nats ((ms.take s.1).map (pullN im))))) (fun s => ms.length - s.1) (0, u0) rfl ⟨Nat.zero_le _, h1, hu0⟩ ?_
  rintro ⟨k, u⟩ w2 Kn ⟨hk, h2, ho⟩ hKn
  have hk : k ≤ ms.length := hk
  have h2 : Ext w w2 := h2
  have ho : Ow w.heap.size t_i64 w2 u (ints (nats ((ms.take k).map (pullN im)))) := ho
  have hs2 := hs.ext h2
  have hv2 := hv.ext h2
  (intro _; (try simp only [gx]); (with_reducible refine iLenN (by assumption) ?_; refine iLt ?_))
  refine iCndP (fun h3 => ?_) (fun h3 => ?_)
  · have hk1 : k < ms.length := by omega
    have em : ms.getD k 0 = ms[k] := getD_of_lt hk1
    have hmk : ms.getD k 0 < 2 ^ 62 := by rw [em]; exact hm _ (List.getElem_mem hk1)
    refine iLp (fun x : Nat => [.int .i64 ((pullK im (ms.getD k 0) x : Nat) : Int), .int .i64 (x : Int)]) (fun x w' => x ≤ im.length ∧ Ext w2 w') (fun x => im.length - x) 0 (by simp [pullK, setOf]) ⟨Nat.zero_le _, Ext.refl _⟩ ?_
    rintro x w3 Kn2 ⟨hx, h23⟩ hKn2
    have hs3 := hs2.ext h23
    have hv3 := hv2.ext h23
    have ho3 := ho.ext h23
    (intro _; (try simp only [gx]); (with_reducible refine iLenN (by assumption) ?_; refine iLt ?_))
    refine iCndP (fun h5 => ?_) (fun h5 => ?_)
    · have hx1 : x < im.length := by omega
      have hsu := pullK_succ im (ms.getD k 0) x
      have hxi : im.getD x 0 ≤ 60 := by rw [getD_of_lt hx1]; exact hy _ (List.getElem_mem hx1)
      have hlt := Nat.lt_of_lt_of_le (pullK_lt im (ms.getD k 0) x) (Nat.pow_le_pow_right (by omega) (show x ≤ 62 by omega) : 2 ^ x ≤ 2 ^ 62)
      have h2k : 2 ^ x < 2 ^ 62 := Nat.pow_lt_pow_right (by omega) (by omega)
      ((with_reducible refine iIaNN (by assumption) ?_ (fun pa_ hpa_ => ?_)); omega; (with_reducible refine iLd (by assumption) ?_); (with_reducible refine iIaNN (by assumption) ?_ (fun pa_ hpa_ => ?_)); omega; (with_reducible refine iLd (by assumption) ?_))
      refine iRetQ (fun w' _ => ok_spec_l01Bit (ms.getD k 0) _ (by omega) (by omega) w') ?_
      intro w4 h4
      refine iCnd (fun h6 => ?_) (fun h6 => ?_)
      · rw [h6, if_pos rfl] at hsu
        refine iRet (ok_spec_l01One x (by omega) w4) fun w5 h45 => ?_
        refine iBOr (by omega) (by omega) ?_
        rw [← hsu]
        (refine iAdd (by omega) ?_)
        exact hKn2 (x + 1) _ ⟨by omega, h23.trans (h4.trans h45)⟩ (by omega)
      · rw [h6, if_neg (by simp)] at hsu
        (refine iAdd (by omega) ?_)
        rw [← hsu]
        exact hKn2 (x + 1) _ ⟨by omega, h23.trans h4⟩ (by omega)
    · obtain rfl : x = im.length := by omega
      have hX := h2.trans h23
      have hlk : ((ms.take k).map (pullN im)).length = k := by simp; omega
      refine iApp1 u_Si64 i_Si64 rfl ho3 rfl (by rw [ints_length, nats_length]; omega) (by rw [ints_length, nats_length]; omega) hX.size fun v' w4 ho' hg => ?_
      (refine iAdd (by omega) ?_)
      refine hKn (k + 1, v') _ ⟨by show k + 1 ≤ ms.length; omega, hX.grown hg (fun b hb => (ho3.blk b hb).1), ?_⟩ (by show ms.length - (k + 1) < ms.length - k; omega)
      show Ow _ _ _ v' (ints (nats ((ms.take (k + 1)).map (pullN im))))
      rw [List.take_succ_eq_append_getElem hk1, List.map_append, ← em]
      simpa [ints, nats, pullN] using ho'
  · obtain rfl : k = ms.length := by omega
    rw [List.take_length] at ho
    exact ⟨h2, ho⟩
theorem ok_spec_l15Dual {lo : Nat} {v u : Value} {w : World} {im : List Nat} (hs : SlN w v im) (hl : im.length ≤ 60) (n : Nat) (hn : n ≤ 5) (hy : ∀ y ∈ im, y < n) (hlo : lo ≤ w.heap.size) : Cal Try.prog f_spec_l15Dual #[.agg #[.int .i64 (n : Int), u], v] w fun r w' => Ext w w' ∧ Ow lo t_i64 w' r (ints (nats (dualN n im))) := by
  apply c_spec_l15Dual; unfold S_spec_l15Dual
  have h32 : 2 ^ n ≤ 32 := Nat.pow_le_pow_right (i := n) (j := 5) (by omega) hn
  have h1p := Nat.two_pow_pos n
  have hX := Ext.refl w
  refine iNew fun b2 w1 hb2 h hB2 => ?_
  have hX := hX.trans h
  refine iBs0 fun u0 w2 _ h hu0 => ?_
  have hX := hX.trans h
  have hB2 := hB2.ext h
  have hsz := hX.size
  have hu0 := hu0.mono (show w.heap.size ≤ _ by omega)
  refine iLp (fun s : Nat × Value => [s.2, .int .i64 (s.1 : Int)]) (fun s w' => s.1 ≤ 2 ^ n ∧ Ext w w' ∧ Blk 46 w' b2 [.int .i64 (n : Int), u] ∧ Ow w.heap.size t_i64 w' s.2 (ints (nats (List.range s.1)))) (fun s => 2 ^ n - s.1) (0, u0) rfl ⟨Nat.zero_le _, hX, hB2, hu0⟩ ?_
  rintro ⟨k, u1⟩ w3 Kn ⟨hk, h3, hB3, ho⟩ hKn
  have hk : k ≤ 2 ^ n := hk
  have h3 : Ext w w3 := h3
  have ho : Ow w.heap.size t_i64 w3 u1 (ints (nats (List.range k))) := ho
  have hs3 := hs.ext h3
  (intro _; (try simp only [gx]); (with_reducible refine iFa ?_); refine iLdB (by assumption) (by first | rfl | simp) ?_)
  refine iRet (ok_spec_l01Full n (by omega) w3) fun w4 h4 => ?_
  have ho := ho.ext h4
  have hB3 := hB3.ext h4
  have hX4 := h3.trans h4
  ((with_reducible refine iLe ?_))
  refine iCndP (fun h5 => ?_) (fun h5 => ?_)
  · have hk1 : k < 2 ^ n := by omega
    refine iApp1 u_Si64 i_Si64 rfl ho rfl (by rw [ints_length, nats_length, List.length_range]; omega) (by rw [ints_length, nats_length, List.length_range]; omega) hX4.size fun v' w5 ho' hg => ?_
    (refine iAdd (by omega) ?_)
    refine hKn (k + 1, v') _ ⟨by show k + 1 ≤ 2 ^ n; omega, hX4.grown hg (fun b hb => (ho.blk b hb).1), hB3.grown hg (ho.ne_blk hB3 (by decide)), ?_⟩ (by show 2 ^ n - (k + 1) < 2 ^ n - k; omega)
    show Ow _ _ _ v' (ints (nats (List.range (k + 1))))
    rw [List.range_succ]
    simpa [ints, nats] using ho'
  · obtain rfl : k = 2 ^ n := by omega
    refine iCall ((ok_spec_l08Pull (hs3.ext h4) ho.sl hl (fun y hy' => by have := hy y hy'; omega) (fun m hm => by have := List.mem_range.1 hm; omega) (by rw [List.length_range]; omega)).mono ?_)
    rintro r w6 ⟨h6, ho6⟩
    exact ⟨hX4.trans h6, ho6.mono (by have := hX4.size; omega)⟩
end Go.Proofs.Ytfhdhdgabdpmkaa

/- Contracts: the program's search where the visitor's blocks are older than the frames; all homomorphisms in the program. Conditions: none. -/
namespace Go.Vc
/-- The state of the search. -/
structure RunZ {P : Program} {ti : TypeId} {vis : Value} {n m : Nat} {cont : List (List Nat) → Bool} (V : Visitor P ti vis n m cont) (f g : Fr) (onto one : Bool) (e : TypeId) (Z : Nat → Prop) (w0 : World) (fa ga : Value) (b : Nat) (w : World) (im : List Nat) (vim : Value) (S : Nat → Prop) (vl : List (List Nat)) : Prop where
  ext : Ch Z w0 w
  blk : Blk e w b [.int .i64 (f.n : Int), fa, .int .i64 (g.n : Int), ga, vim, vis, .bool onto, .bool one]
  ow : Ow w0.heap.size ti w vim (ints (nats im))
  j : V.J S vl w
  sb : ¬ S b
  sv : ∀ c, vim.ownBlock = some c → ¬ S c
  s0 : ∀ k, S k → Z k ∨ w0.heap.size ≤ k
theorem RunZ.later {P : Program} {ti : TypeId} {vis : Value} {n m : Nat} {cont : List (List Nat) → Bool} {V : Visitor P ti vis n m cont} {f g : Fr} {onto one : Bool} {e : TypeId} {Z : Nat → Prop} {w0 : World} {fa ga : Value} {b : Nat} {w w' : World} {im : List Nat} {vim : Value} {S : Nat → Prop} {vl : List (List Nat)}
    (h : RunZ V f g onto one e Z w0 fa ga b w im vim S vl) (he : Ext w w') : RunZ V f g onto one e Z w0 fa ga b w' im vim S vl :=
  ⟨h.ext.trans (he.ch (S := fun _ => False)) (fun _ h => h.elim), h.blk.ext he, h.ow.ext he, V.keep h.j he.size fun k hk => he.block k (V.below h.j k hk), h.sb, h.sv, h.s0⟩
theorem OwP.ch {S : Nat → Prop} {lo : Nat} {e : TypeId} {w w' : World} {P : List (Value × List Int)} (h : OwP lo e w P) (k : Ch S w w') (hn : ∀ p ∈ P, ∀ c, p.1.ownBlock = some c → ¬ S c) : OwP lo e w' P := ⟨fun p hp => (h.1 p hp).ch k (hn p hp), h.2⟩
theorem OwP.sub {lo : Nat} {e : TypeId} {w : World} {P Q : List (Value × List Int)} (h : OwP lo e w P) (k : List.Sublist Q P) : OwP lo e w Q := ⟨fun p hp => h.1 p (k.subset hp), h.2.sublist k⟩
theorem OwP.enc {lo : Nat} {e : TypeId} {w : World} {P : List VL} (h : OwP lo e w P) : evL P = P.map Prod.fst := List.map_congr_left fun p hp => encV_eq (h.1 p hp).cell
end Go.Vc
namespace Go.Proofs.Ytfhdhdgabdpmkaa
open Go.Vc
/-- All homomorphisms, as the search finds their maps. -/
def homM (m0 m1 : Nat) (a0 a1 : List Nat) : List (List Nat) := leaves (fitsB (algFr m1 a1) (algFr m0 a0) false false) m0 m1 []
def homOut (n0 : Int) (l0 : List Int) (n1 : Int) (l1 : List Int) : List (List Int) × Int :=
  if algOk n0 l0 && algOk n1 l1 then
    if 200 < (homL n0.toNat (homM n0.toNat n1.toNat (l0.map Int.toNat) (l1.map Int.toNat))).length then ([], 3) else (homL n0.toNat (homM n0.toNat n1.toNat (l0.map Int.toNat) (l1.map Int.toNat)), 0)
  else ([], 1)
theorem ok_impl_morphismSearch_runZ {f g : Fr} (hf : f.ok) (hg : g.ok) {onto one : Bool} {e : TypeId} (he1 : t_i64 ≠ e) {vis : Value} {cont : List (List Nat) → Bool} (V : Visitor Try.prog t_i64 vis f.n g.n cont) {Z : Nat → Prop} {w0 : World} {fa ga : Value} (hfa : ∀ w', Ch Z w0 w' → SlN w' fa f.a) (hga : ∀ w', Ch Z w0 w' → SlN w' ga g.a) {b : Nat} (hb : w0.heap.size ≤ b) :
    ∀ (d : Nat) (im : List Nat) (w : World) (vim : Value) (S : Nat → Prop) (vl : List (List Nat)), im.length + d = f.n → (∀ y ∈ im, y < g.n) → (vl = [] ∨ cont vl = true) → vl.length + g.n ^ d ≤ 100000000 →
      RunZ V f g onto one e Z w0 fa ga b w im vim S vl →
      Cal Try.prog f_impl_morphismSearch_run #[.pointer (some ⟨b, 0, none⟩)] w fun v w' => v = .bool (visitAll cont vl (leaves (fitsB f g onto one) g.n d im)).2 ∧ ∃ vim' S',
        RunZ V f g onto one e Z w0 fa ga b w' im vim' S' (visitAll cont vl (leaves (fitsB f g onto one) g.n d im)).1 := by
  have hf8 := hf.1
  have hg8 := hg.1
  intro d
  induction d with
  | zero =>
    intro im w vim S vl hlen hm hvl hcap hst
    apply c_impl_morphismSearch_run; unfold S_impl_morphismSearch_run
    refine iRet (ok_impl_morphismSearch_fits hf hg (by omega) hm hst.blk (hfa _ hst.ext) (hga _ hst.ext) hst.ow.sl) fun w1 h1 => ?_
    have hst := hst.later h1
    ((with_reducible refine iNot ?_))
    cases hfit : fitsB f g onto one im
    · refine iCndT rfl ?_
      unfold leaves
      rw [hfit]
      exact ⟨rfl, vim, S, hst⟩
    · refine iCndF rfl ?_
      have hB := hst.blk
      have hsl : SlN w1 vim im := hst.ow.sl
      ((with_reducible refine iNil ?_; refine iFa ?_); refine iLdB (by assumption) (by first | rfl | simp) ?_; (with_reducible refine iLenN (by assumption) ?_; refine iNil ?_; refine iFa ?_; refine iFa ?_); refine iLdB (by assumption) (by first | rfl | simp) ?_; (with_reducible refine iEq ?_))
      intro w2 h2
      have hst := hst.later h2
      have hB := hst.blk
      refine iCndP (fun h3 => ?_) (fun h3 => absurd (show (im.length : Int) = f.n by omega) h3)
      ((with_reducible refine iNil ?_; refine iFa ?_); refine iLdB (by assumption) (by first | rfl | simp) ?_; (with_reducible refine iNil ?_; refine iFa ?_); refine iLdB (by assumption) (by first | rfl | simp) ?_)
      intro w3 h3
      have hst := hst.later h3
      refine callV.mono (V.visit hst.j hvl (by simp at hcap; omega) hst.ow (by omega) hm hst.sv) ?_
      rintro _ w4 ⟨rfl, S', hj, hch, hS'⟩
      intro w5 h5
      have hL : visitAll cont vl (leaves (fitsB f g onto one) g.n 0 im) = (vl ++ [im], cont (vl ++ [im])) := by
        unfold leaves
        rw [hfit, if_pos rfl]
        simp only [dfs, visitAll]
        cases cont (vl ++ [im]) <;> simp
      rw [hL]
      have hB3 := hst.blk
      refine ⟨rfl, vim, S', RunZ.later ⟨hst.ext.trans hch hst.s0, hB3.ch hch hst.sb, hst.ow.ch hch hst.sv, hj, fun h => ?_, fun c hc h => ?_, fun k hk => ?_⟩ h5⟩
      · rcases hS' _ h with h | h
        · exact hst.sb h
        · have := hB3.lt; omega
      · rcases hS' _ h with h | h
        · exact hst.sv c hc h
        · have := (hst.ow.blk c hc).2; omega
      · rcases hS' _ hk with h | h
        · exact hst.s0 k h
        · exact .inr (by have := hst.ext.size; omega)
  | succ d ih =>
    intro im w vim S vl hlen hm hvl hcap hst
    apply c_impl_morphismSearch_run; unfold S_impl_morphismSearch_run
    refine iRet (ok_impl_morphismSearch_fits hf hg (by omega) hm hst.blk (hfa _ hst.ext) (hga _ hst.ext) hst.ow.sl) fun w1 h1 => ?_
    have hst := hst.later h1
    ((with_reducible refine iNot ?_))
    cases hfit : fitsB f g onto one im
    · refine iCndT rfl ?_
      unfold leaves
      rw [hfit]
      exact ⟨rfl, vim, S, hst⟩
    · refine iCndF rfl ?_
      have hB := hst.blk
      have hsl : SlN w1 vim im := hst.ow.sl
      ((with_reducible refine iNil ?_; refine iFa ?_); refine iLdB (by assumption) (by first | rfl | simp) ?_; (with_reducible refine iLenN (by assumption) ?_; refine iNil ?_; refine iFa ?_; refine iFa ?_); refine iLdB (by assumption) (by first | rfl | simp) ?_; (with_reducible refine iEq ?_))
      intro w2 h2
      have hst := hst.later h2
      have hB := hst.blk
      refine iCndP (fun h3 => absurd h3 (by omega)) (fun h3 => ?_)
      have hL : leaves (fitsB f g onto one) g.n (d + 1) im = (List.range g.n).flatMap fun y => leaves (fitsB f g onto one) g.n d (im ++ [y]) := by
        rw [leaves, hfit, if_pos rfl, dfs_succ]; rfl
      rw [hL]
      ((with_reducible refine iNil ?_; refine iFa ?_; refine iFa ?_); refine iLdB (by assumption) (by first | rfl | simp) ?_)
      refine iLp (fun k : Nat => [.int .i64 (k : Int)]) (fun k w' => k ≤ g.n ∧ ∃ vim' S' vl', RunZ V f g onto one e Z w0 fa ga b w' im vim' S' vl' ∧
          visitAll cont vl ((List.range k).flatMap fun y => leaves (fitsB f g onto one) g.n d (im ++ [y])) = (vl', true)) (fun k => g.n - k) 0 rfl ⟨Nat.zero_le _, vim, S, vl, hst, by simp [visitAll]⟩ ?_
      rintro k w7 Kn ⟨hk, vim', S', vl', hst', hvis⟩ hKn
      have hB7 := hst'.blk
      have hvl' : vl' = [] ∨ cont vl' = true := by
        have := visitAll_cont cont ((List.range k).flatMap fun y => leaves (fitsB f g onto one) g.n d (im ++ [y])) vl hvl (by rw [hvis])
        rwa [hvis] at this
      have hlen' : vl'.length ≤ vl.length + k * g.n ^ d := by
        have h1 := visitAll_len cont ((List.range k).flatMap fun y => leaves (fitsB f g onto one) g.n d (im ++ [y])) vl
        rw [hvis] at h1
        have h2 := flat_length (fitsB f g onto one) g.n d im k
        simp only at h1
        omega
      (intro _; (try simp only [gx]); (with_reducible refine iLt ?_))
      refine iCndP (fun h4 => ?_) (fun h4 => ?_)
      · have hk1 : k < g.n := by omega
        have hcap' : vl'.length + g.n ^ d ≤ 100000000 := by
          have h1 : (k + 1) * g.n ^ d ≤ g.n * g.n ^ d := Nat.mul_le_mul_right _ hk1
          rw [Nat.succ_mul] at h1
          rw [Nat.pow_succ, Nat.mul_comm] at hcap
          omega
        ((with_reducible refine iNil ?_; refine iFa ?_); refine iLdB (by assumption) (by first | rfl | simp) ?_)
        have hil : (ints (nats im)).length = im.length := by rw [ints_length, nats_length]
        refine iApp1A u_Si64 i_Si64 rfl hst'.ow rfl (by omega) (by omega) hst'.ext.size fun v' w9 ho hgr hat => ?_
        rw [ints_snoc] at ho
        have hvb : vim'.ownBlock ≠ some b := hst'.ow.ne_blk hB7 (fun h => he1 h)
        have hB9 := hB7.grown hgr hvb
        ((with_reducible refine iNil ?_; refine iFa ?_))
        refine iStB hB9 (by simp) ho.cell fun hB10 => ?_
        have hu := Upd.setCell w9 b 4 v'
        have hv'b : v'.ownBlock ≠ some b := ho.ne_blk hB9 (fun h => he1 h)
        have hch : Ch (fun c => c = b ∨ vim'.ownBlock = some c) w7 (w9.setCell ⟨b, 4, none⟩ v') := (grown_ch hgr (fun c hc => .inr hc)).trans (hu.ch (S := fun c => c = b) rfl) (fun c hc => .inl (.inl hc))
        have hst10 : RunZ V f g onto one e Z w0 fa ga b (w9.setCell ⟨b, 4, none⟩ v') (im ++ [k]) v' S' vl' := by
          refine ⟨hst'.ext.trans hch (fun c hc => .inr ?_), hB10, ho.upd hu hv'b, V.keep hst'.j hch.size (fun c hc => hch.block c (V.below hst'.j c hc) ?_), hst'.sb, fun c hc h => ?_, hst'.s0⟩
          · rcases hc with rfl | hc
            · exact hb
            · exact (hst'.ow.blk c hc).1
          · rintro (rfl | h)
            · exact hst'.sb hc
            · exact hst'.sv c h hc
          · rcases hat with h1 | ⟨c', h1, h2⟩
            · exact hst'.sv c (by rw [← h1]; exact hc) h
            · rw [h1] at hc; cases hc
              have := V.below hst'.j _ h
              omega
        have hm' : ∀ y ∈ im ++ [k], y < g.n := fun y hy => by
          simp at hy
          rcases hy with hy | rfl
          · exact hm y hy
          · omega
        refine iCall ((ih (im ++ [k]) _ v' S' vl' (by simp; omega) hm' hvl' hcap' hst10).mono ?_)
        rintro _ w11 ⟨rfl, vim2, S2, hst11⟩
        have hB11 := hst11.blk
        have hl11 : (im ++ [k]).length = im.length + 1 := by simp
        have hsl11 : SlN w11 vim2 (im ++ [k]) := hst11.ow.sl
        ((with_reducible refine iNil ?_; refine iFa ?_); refine iLdB (by assumption) (by first | rfl | simp) ?_; (with_reducible refine iNil ?_; refine iFa ?_); refine iLdB (by assumption) (by first | rfl | simp) ?_; (with_reducible refine iLenN (by assumption) ?_); refine iSub (by omega) ?_)
        have hln : ((im ++ [k]).length : Int) - 1 = ((ints (nats im)).length : Nat) := by rw [hil]; simp
        rw [hln]
        refine iSlDown (by rw [ints_snoc]; exact hst11.ow) fun vim3 hv3 ho3 => ?_
        ((with_reducible refine iNil ?_; refine iFa ?_))
        intro w12 h12
        have hst12 := hst11.later h12
        have hB12 := hst12.blk
        have ho12 := ho3.ext h12
        refine iStB hB12 (by simp) ho3.cell fun hB13 => ?_
        have hu13 := Upd.setCell w12 b 4 vim3
        intro w14 h14
        have hv3b : vim3.ownBlock ≠ some b := by rw [hv3]; exact hst12.ow.ne_blk hB12 (fun h => he1 h)
        have hst14 : RunZ V f g onto one e Z w0 fa ga b w14 im vim3 S2 (visitAll cont vl' (leaves (fitsB f g onto one) g.n d (im ++ [k]))).1 := by
          refine RunZ.later (w := w12.setCell ⟨b, 4, none⟩ vim3) ⟨hst12.ext.trans (hu13.ch (S := fun c => c = b) rfl) (fun c hc => .inr (by subst hc; exact hb)), hB13, ho12.upd hu13 hv3b, V.keep hst12.j (by rw [hu13.size]; exact Nat.le_refl _) (fun c hc => hu13.block c fun h => hst12.sb (h ▸ hc)), hst12.sb, fun c hc => hst12.sv c (by rw [← hv3]; exact hc), hst12.s0⟩ h14
        have hstep : visitAll cont vl ((List.range (k + 1)).flatMap fun y => leaves (fitsB f g onto one) g.n d (im ++ [y])) = visitAll cont vl' (leaves (fitsB f g onto one) g.n d (im ++ [k])) := by
          rw [List.range_succ, List.flatMap_append, visitAll_append, hvis, if_pos rfl]; simp
        ((with_reducible refine iNot ?_))
        cases hr : (visitAll cont vl' (leaves (fitsB f g onto one) g.n d (im ++ [k]))).2
        · refine iCndT rfl ?_
          obtain ⟨j, hj⟩ : ∃ j, g.n = (k + 1) + j := ⟨g.n - (k + 1), by omega⟩
          have hrg : List.range g.n = List.range (k + 1) ++ (List.range j).map (k + 1 + ·) := by rw [hj, List.range_add]
          have hall : visitAll cont vl ((List.range g.n).flatMap fun y => leaves (fitsB f g onto one) g.n d (im ++ [y])) = ((visitAll cont vl' (leaves (fitsB f g onto one) g.n d (im ++ [k]))).1, false) := by
            rw [hrg, List.flatMap_append, visitAll_append, hstep, hr, if_neg (by simp)]
          rw [hall]
          exact ⟨rfl, vim3, S2, hst14⟩
        · refine iCndF rfl ?_
          (refine iAdd (by omega) ?_)
          refine hKn (k + 1) _ ⟨by omega, vim3, S2, _, hst14, ?_⟩ (by omega)
          rw [hstep, ← hr]
      · obtain rfl : k = g.n := by omega
        rw [hvis]
        exact ⟨rfl, vim', S', hst'⟩
theorem ok_impl_homomorphisms_1 {lo : Nat} {v fv bx : Value} {w : World} {c ca : Nat} {e1 e2 : TypeId} (he1 : t_Si64 ≠ e1) (he2 : t_i64 ≠ e1) {vs : List Value} {L : List (List Value)} {im : List Nat} {n : Nat} (hs : SlN w v im) (hl : im.length ≤ 60) (hn5 : n ≤ 5) (hy : ∀ y ∈ im, y < n) (hc : Blk e1 w c [fv]) (ha : Blk e2 w ca [.int .i64 (n : Int), bx]) (hf : Ow lo t_Si64 w fv vs) (hL : OwL lo t_i64 w vs L) (hn : vs.length ≤ 1000000000) (hlo : lo ≤ w.heap.size) :
    Cal Try.prog f_impl_homomorphisms_1 #[v, .pointer (some ⟨c, 0, none⟩), .pointer (some ⟨ca, 0, none⟩)] w fun r w' => r = .bool true ∧ ∃ fv' v', Blk e1 w' c [fv'] ∧ Ow lo t_Si64 w' fv' (vs ++ [v']) ∧ OwL lo t_i64 w' (vs ++ [v']) (L ++ [ints (nats (dualN n im))]) ∧ Ch (fun k => k = c ∨ fv.ownBlock = some k) w w' ∧
      (fv'.ownBlock = fv.ownBlock ∨ ∃ k, fv'.ownBlock = some k ∧ w.heap.size ≤ k) ∧ ∀ k, v'.ownBlock = some k → w.heap.size ≤ k := by
  apply c_impl_homomorphisms_1; unfold S_impl_homomorphisms_1
  have hX := Ext.refl w
  (refine iLdB (by assumption) (by first | rfl | simp) ?_; (with_reducible refine iFa ?_); refine iLdB (by assumption) (by first | rfl | simp) ?_)
  intro w1 h
  have hX := hX.trans h
  have hs := hs.ext h
  have hc := hc.ext h
  have hf := hf.ext h
  have hL := hL.ext h
  have hlo1 := hX.size
  refine iCall ((ok_impl_dualOf hs hl n hn5 hy).mono ?_)
  rintro v' w2 ⟨h, ho⟩
  (try refine ⟨h, ?_⟩)
  have hnew : ∀ u ∈ vs, ∀ k, u.ownBlock = some k → v'.ownBlock ≠ some k := fun u hu k hk e => by have := (hL.lt hu hk).2; have := (ho.blk k e).1; omega
  have hX := hX.trans h
  have hc := hc.ext h
  have hf := hf.ext h
  have hL := hL.ext h
  intro w3 h
  have hX := hX.trans h
  have hc := hc.ext h
  have hf := hf.ext h
  have hL := hL.ext h
  have ho := ho.ext h
  refine iBs1 rfl ho.cell fun bb w4 hbb h hB => ?_
  (try refine ⟨h, ?_⟩)
  have hX := hX.trans h
  have hc := hc.ext h
  have hf := hf.ext h
  have hL := hL.ext h
  have ho := ho.ext h
  intro w5 h
  have hX := hX.trans h
  have hc := hc.ext h
  have hf := hf.ext h
  have hL := hL.ext h
  have ho := ho.ext h
  have hB := hB.ext h
  have hlo5 := hX.size
  refine iAppA u_SSi64 i_SSi64 rfl hf (Sl.ofBlk hB rfl (by omega)) (fun u hu => by simp at hu; subst hu; exact ho.cell) (by simp; omega) (by simp; omega) (by omega) fun fv' w6 hf' hg hat => ?_
  have hfc : fv.ownBlock ≠ some c := hf.ne_blk hc he1
  have hc6 := hc.grown hg hfc
  have hch6 : Ch (fun k => k = c ∨ fv.ownBlock = some k) w w6 := (hX.ch (S := fun k => k = c ∨ fv.ownBlock = some k)).trans (grown_ch (S := fun k => fv.ownBlock = some k) hg fun k hk => hk) fun k hk => .inl (.inr hk)
  have hg6 := grown_ch (S := fun k => fv.ownBlock = some k) hg fun k hk => hk
  have hL6 := hL.ch hg6 fun u hu k hk he => by
    obtain ⟨x, hx⟩ := hL.ow hu
    exact hx.ne_ow hf (by decide) hk he
  have ho6 := ho.ch hg6 fun k hk he => ho.ne_ow hf (by decide) hk he
  intro w7 h7
  have hc7 := hc6.ext h7
  have hf7 := hf'.ext h7
  have hL7 := hL6.ext h7
  have ho7 := ho6.ext h7
  refine iStB hc7 (by simp) hf'.cell fun hc8 => ?_
  have hu := Upd.setCell w7 c 0 fv'
  have hf8 := hf7.upd hu (hf7.ne_blk hc7 he1)
  have hL8 := hL7.ch (hu.ch (S := fun k => k = c) rfl) fun u hu k hk he => by
    obtain ⟨x, hx⟩ := hL7.ow hu
    exact hx.ne_blk hc7 he2 (by rw [hk, he])
  have ho8 := ho7.upd hu (ho7.ne_blk hc7 he2)
  intro w9 h9
  have hc9 := hc8.ext h9
  have hf9 := hf8.ext h9
  have hs9 := hf9.sl
  refine ⟨rfl, fv', v', hc9, hf9, (hL8.ext h9).snoc ((ho8.ext h9).mono (by omega)) hnew, ?_, hat.imp id (fun ⟨k, e, hk⟩ => ⟨k, e, by omega⟩), fun k hk => ?_⟩
  · exact ((hch6.trans (h7.ch (S := fun _ => False)) (fun _ h => h.elim)).trans (hu.ch (S := fun k => k = c) rfl) (fun k hk => .inl (.inl hk))).trans (h9.ch (S := fun _ => False)) (fun _ h => h.elim)
  · have := (ho.blk k hk).1; omega
end Go.Proofs.Ytfhdhdgabdpmkaa

/- Contracts: all homomorphisms between two modal algebras, in the program. Conditions: none. -/
namespace Go.Proofs.Ytfhdhdgabdpmkaa
open Go.Vc
def visHom (c ca lo : Nat) (hlo : lo ≤ c) (e1 e2 : TypeId) (he1 : t_Si64 ≠ e1) (he2 : t_i64 ≠ e1) (bx : Value) (n m : Nat) (hn : n ≤ 8) (hm : m ≤ 5) : Visitor Try.prog t_i64 (.func (.func f_impl_homomorphisms_1) #[] #[.pointer (some ⟨c, 0, none⟩), .pointer (some ⟨ca, 0, none⟩)]) n m (fun _ => true) where
  J S l w := ∃ fv vs, S = (fun k => k = c ∨ k = ca ∨ fv.ownBlock = some k ∨ ∃ v ∈ vs, v.ownBlock = some k) ∧ Blk e1 w c [fv] ∧ Blk e2 w ca [.int .i64 (m : Int), bx] ∧ Ow lo t_Si64 w fv vs ∧ OwL lo t_i64 w vs (l.map fun x => ints (nats (dualN m x))) ∧ ca ≠ c ∧ fv.ownBlock ≠ some ca
  below := by
    rintro S l w ⟨fv, vs, rfl, h1, h0, h2, h3, _⟩ k (rfl | rfl | hk | ⟨v, hv, hk⟩)
    · exact h1.lt
    · exact h0.lt
    · exact (h2.blk k hk).2
    · exact (h3.lt hv hk).2
  keep := by
    rintro S l w w' ⟨fv, vs, rfl, h1, h0, h2, h3, h4⟩ _ hk
    exact ⟨fv, vs, rfl, h1.same (hk c (.inl rfl)), h0.same (hk ca (.inr (.inl rfl))), h2.same fun k hb => hk k (.inr (.inr (.inl hb))), h3.same fun v hv k hb => hk k (.inr (.inr (.inr ⟨v, hv, hb⟩))), h4⟩
  visit := by
    rintro S l w u lo' im ⟨fv, vs, rfl, h1, h0, h2, h3, h4, h5⟩ _ hl ho hlen hy _
    have hvl : vs.length = l.length := by simpa using h3.1
    refine iClo rfl ((ok_impl_homomorphisms_1 (im := im) he1 he2 ho.sl (by omega) hm hy h1 h0 h2 h3 (by omega) (by have := h1.lt; omega)).mono ?_)
    rintro r w' ⟨rfl, fv', v', g1, g2, g3, g4, g5, g6⟩
    refine ⟨rfl, _, ⟨fv', vs ++ [v'], rfl, g1, ?_, g2, by simpa using g3, h4, ?_⟩, g4.mono (fun k hk => ?_), fun k hk => ?_⟩
    · refine h0.ch g4 ?_
      rintro (h | h)
      · exact h4 h
      · exact h5 h
    · rcases g5 with h | ⟨k, h, hk⟩
      · rw [h]; exact h5
      · rw [h]; intro e; cases e; have := h0.lt; omega
    · rcases hk with rfl | hk
      · exact .inl rfl
      · exact .inr (.inr (.inl hk))
    · rcases hk with rfl | rfl | hk | ⟨v, hv, hk⟩
      · exact .inl (.inl rfl)
      · exact .inl (.inr (.inl rfl))
      · rcases g5 with h | ⟨k', h, hk'⟩
        · exact .inl (.inr (.inr (.inl (by rw [← h]; exact hk))))
        · rw [h] at hk; cases hk; exact .inr hk'
      · rcases List.mem_append.1 hv with hv | hv
        · exact .inl (.inr (.inr (.inr ⟨v, hv, hk⟩)))
        · simp at hv; subst hv
          exact .inr (g6 k hk)
theorem homM_mem {m0 m1 : Nat} {a0 a1 : List Nat} : ∀ im ∈ homM m0 m1 a0 a1, im.length = m1 ∧ ∀ y ∈ im, y < m0 := fun _ h => leaves_mem (f := algFr m1 a1) (g := algFr m0 a0) h
theorem homM_nodup {m0 m1 : Nat} {a0 a1 : List Nat} : (homM m0 m1 a0 a1).Nodup := nodup_of_sorted (leaves_sorted _ _ _ _)
theorem pow55 {a b : Nat} (ha : a ≤ 5) (hb : b ≤ 5) : a ^ b ≤ 3125 :=
  Nat.le_trans (Nat.pow_le_pow_left ha b) (Nat.pow_le_pow_right (n := 5) (by omega) hb)
theorem homM_len {m0 m1 : Nat} {a0 a1 : List Nat} (h0 : m0 ≤ 5) (h1 : m1 ≤ 5) : (homM m0 m1 a0 a1).length ≤ 3125 := Nat.le_trans (leaves_length _ _ _ _) (pow55 h0 h1)
theorem ok_impl_homomorphisms {w : World} {v0 v1 : Value} {m0 m1 : Nat} {a0 a1 : List Nat} (hs0 : SlN w v0 a0) (hs1 : SlN w v1 a1) (hm0 : m0 ≤ 5) (hl0 : a0.length = 2 ^ m0) (hlt0 : ∀ x ∈ a0, x < 2 ^ m0) (hm1 : m1 ≤ 5) (hl1 : a1.length = 2 ^ m1) (hlt1 : ∀ x ∈ a1, x < 2 ^ m1) :
    Cal Try.prog f_impl_homomorphisms #[.agg #[.int .i64 (m0 : Int), v0], .agg #[.int .i64 (m1 : Int), v1]] w fun r w' => Ext w w' ∧ RdLL w.heap.size w' r (homL m0 (homM m0 m1 a0 a1)) := by
  apply c_impl_homomorphisms; unfold S_impl_homomorphisms
  have hX := Ext.refl w
  refine iNew fun ca w1 hca h hA => ?_
  have hlca : w.heap.size ≤ ca := by omega
  have hX := hX.trans h
  refine iNew fun b3 w2 hb3 h hB3 => ?_
  have hX := hX.trans h
  have hA := hA.ext h
  refine iNew fun c w3 hc h hC => ?_
  have hlc : w.heap.size ≤ c := by have := hX.size; omega
  have hcac : ca ≠ c := by have := hA.lt; omega
  have hX := hX.trans h
  have hA := hA.ext h
  have hB3 := hB3.ext h
  ((with_reducible refine iLdA (by assumption) ?_ ?_); rfl; (with_reducible refine iLdA (by assumption) ?_ ?_); rfl)
  intro w4 h
  have hX := hX.trans h
  have hA := hA.ext h
  have hC := hC.ext h
  refine iCall ((ok_impl_ModalAlgebra_frameO (hs1.ext hX) hm1 hl1 hlt1).mono ?_)
  rintro _ w5 ⟨h, u1, rfl, hu1⟩
  (try refine ⟨h, ?_⟩)
  have hX := hX.trans h
  have hA := hA.ext h
  have hC := hC.ext h
  intro w6 h
  have hX := hX.trans h
  have hA := hA.ext h
  have hC := hC.ext h
  have hu1 := hu1.ext h
  refine iCall ((ok_impl_ModalAlgebra_frameO (hs0.ext hX) hm0 hl0 hlt0).mono ?_)
  rintro _ w7 ⟨h, u0, rfl, hu0⟩
  (try refine ⟨h, ?_⟩)
  have hX := hX.trans h
  have hA := hA.ext h
  have hC := hC.ext h
  have hu1 := hu1.ext h
  refine iBuild (cs := #[.int .i64 (m1 : Int), u1, .int .i64 (m0 : Int), u0, .slice none 0 0, .func (.func f_impl_homomorphisms_1) #[] #[.pointer (some ⟨c, 0, none⟩), .pointer (some ⟨ca, 0, none⟩)], .bool false, .bool false]) (by simp [Instr.fill, Value.cells]) ?_
  intro w8 h
  have hX := hX.trans h
  have hA := hA.ext h
  have hC := hC.ext h
  have hu1 := hu1.ext h
  have hu0 := hu0.ext h
  have hX8 := hX
  have hsz8 := hX.size
  have hC8 := hC
  have hA8 := hA
  refine iNew fun b w9 hb h hB => ?_
  have hbc : b ≠ c := by have := hC.lt; omega
  have hbca : b ≠ ca := by have := hA.lt; omega
  have hX := hX.trans h
  have hA := hA.ext h
  have hC := hC.ext h
  intro w10 h10
  have hB := hB.ext h10
  have h810 := h.trans h10
  have hX := hX.trans h10
  have hA := hA.ext h10
  have hC := hC.ext h10
  have hst : RunZ (visHom c ca w.heap.size hlc t_SSi64 29 (by decide) (by decide) v0 m1 m0 (show m1 ≤ 8 by omega) hm0) (algFr m1 a1) (algFr m0 a0) false false _ (fun k => k = c ∨ k = ca) w8 _ _ b w10 [] (.slice none 0 0) _ [] :=
    ⟨h810.ch, hB, Ow.nil _ _ _, ⟨.slice none 0 0, [], rfl, hC, hA, Ow.nil _ _ _, OwL.nil _ _ _, hcac, (fun e => by cases e)⟩, (by
      rintro (h | h | h | ⟨v, h, _⟩)
      · exact hbc h
      · exact hbca h
      · cases h
      · cases h), (fun c hc => by cases hc), (by
      rintro k (h | h | h | ⟨v, h, _⟩)
      · exact .inl (.inl h)
      · exact .inl (.inr h)
      · cases h
      · cases h)⟩
  have hfa : ∀ w', Ch (fun k => k = c ∨ k = ca) w8 w' → SlN w' u1 (algFr m1 a1).a := fun w' k => (hu1.ch k fun d hd hz => by
    rcases hz with rfl | rfl
    · exact hu1.ne_blk hC8 (by decide) hd
    · exact hu1.ne_blk hA8 (by decide) hd).sl
  have hga : ∀ w', Ch (fun k => k = c ∨ k = ca) w8 w' → SlN w' u0 (algFr m0 a0).a := fun w' k => (hu0.ch k fun d hd hz => by
    rcases hz with rfl | rfl
    · exact hu0.ne_blk hC8 (by decide) hd
    · exact hu0.ne_blk hA8 (by decide) hd).sl
  have hcap : ([] : List (List Nat)).length + m0 ^ m1 ≤ 100000000 := by have := pow55 hm0 hm1; simp; omega
  refine iCall ((ok_impl_morphismSearch_runZ (algFr_ok a1 (show m1 ≤ 8 by omega)) (algFr_ok a0 (show m0 ≤ 8 by omega)) (by decide) _ hfa hga (show w8.heap.size ≤ b by omega) m1 [] w10 _ _ [] (by simp [algFr]) (fun y hy => by cases hy) (.inl rfl) hcap hst).mono ?_)
  rintro _ w11 ⟨rfl, vim', S', hst'⟩
  rw [visitAll_true, List.nil_append] at hst'
  obtain ⟨fv, vs, _, hC', _, ho, hol, _⟩ := hst'.j
  have hXe : Ext w w11 := hX8.thenCh hst'.ext (by
    rintro k (rfl | rfl)
    · exact hlc
    · exact hlca)
  have hlen : (homM m0 m1 a0 a1).length ≤ 3125 := homM_len hm0 hm1
  have hol : OwL w.heap.size t_i64 w11 vs (((homM m0 m1 a0 a1).map fun im => nats (dualN m0 im)).map ints) := by rw [List.map_map]; exact hol
  clear hst' hst hfa hga
  (refine iLdB (by assumption) (by first | rfl | simp) ?_)
  obtain ⟨hP, e1, e2⟩ := OwP.of hol
  have hvl := hol.1
  rw [List.length_map, List.length_map] at hvl
  have e2l := congrArg List.length e2
  rw [List.length_map, List.length_map] at e2l
  generalize vs.zip ((homM m0 m1 a0 a1).map fun im => nats (dualN m0 im)) = L at *
  have hevl : evL L = vs := by rw [hP.enc, e1]
  have ho' : Ow w.heap.size t_Si64 w11 fv (evL L) := by rw [hevl]; exact ho
  refine iCall ((ok_impl_sortedLists ho' (fun x hx => by rw [encV_eq (hP.1 x hx).cell]; exact (hP.1 x hx).mono (Nat.zero_le _)) (by omega)).mono ?_)
  rintro r w12 ⟨M, hM, hch, hMs, L', hp, hsub⟩
  have hP12 : OwP w.heap.size t_i64 w12 L := hP.ch hch fun p hp' k hk hk' => (hP.1 p hp').ne_ow ho' (by decide) hk hk'
  have hPM := (hP12.perm hp.symm).sub hsub
  refine ⟨hXe.thenCh hch (fun k hk => (ho'.blk k hk).1), M.map Prod.fst, by rw [← hPM.enc]; exact hM, ?_⟩
  have := hPM.to
  rw [hMs, e2] at this
  exact this
end Go.Proofs.Ytfhdhdgabdpmkaa
