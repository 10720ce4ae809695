/- Contracts: the frame of an algebra in the program; isomorphic algebras. Conditions: none. -/
import Derived.Test.YtgbnmihpjlbfgaaC15
namespace Go.Proofs.Ytgbnmihpjlbfgaa
open Go.Vc
/-- The masks while world w is under way with seen world v. -/
def algRow (a : List Nat) (m v w : Nat) : List Nat := (List.range m).map fun x => algMask a m x (if x < w then v + 1 else v)
theorem algRow_zero (a : List Nat) (m v : Nat) : algRow a m v 0 = (List.range m).map fun x => algMask a m x v := by
  unfold algRow
  exact List.map_congr_left fun x _ => by rw [if_neg (by omega)]
theorem algRow_full (a : List Nat) (m v : Nat) : algRow a m v m = algRow a m (v + 1) 0 := by
  rw [algRow_zero]
  unfold algRow
  exact List.map_congr_left fun x hx => by rw [if_pos (List.mem_range.1 hx)]
theorem algRow_get (a : List Nat) (m v w : Nat) (hw : w < m) : (algRow a m v w)[w]'(by simp [algRow]; exact hw) = algMask a m w v := by
  simp [algRow]
theorem algRow_step (a : List Nat) (m v w : Nat) (hw : w < m) : (algRow a m v w).set w (algMask a m w (v + 1)) = algRow a m v (w + 1) := by
  apply List.ext_getElem
  · simp [algRow]
  · intro i h1 h2
    have hi : i < m := by simpa [algRow] using h2
    rw [List.getElem_set]
    split
    · rename_i h; subst h; simp [algRow]
    · rename_i h
      simp only [algRow, List.getElem_map, List.getElem_range]
      congr 1
      split <;> split <;> omega
theorem algRow_same (a : List Nat) (m v w : Nat) (hw : w < m) (h : algMask a m w (v + 1) = algMask a m w v) : algRow a m v (w + 1) = algRow a m v w := by
  rw [← algRow_step a m v w hw, h]
  apply List.ext_getElem
  · simp
  · intro i h1 h2
    rw [List.getElem_set]
    split
    · rename_i h; subst h; exact (algRow_get a m v w hw).symm
    · rfl
theorem ok_impl_ModalAlgebra_frame {v : Value} {w : World} {a : List Nat} {m : Nat} (hs : SlN w v a) (hm5 : m ≤ 5) (hal : a.length = 2 ^ m) (hlt : ∀ x ∈ a, x < 2 ^ m) : Cal Try.prog f_impl_ModalAlgebra_frame #[.agg #[.int .i64 (m : Int), v]] w fun r w' => Ext w w' ∧ ∃ v', r = .agg #[.int .i64 (m : Int), v'] ∧ SlN w' v' (algFr m a).a := by
  apply c_impl_ModalAlgebra_frame; unfold S_impl_ModalAlgebra_frame
  have hX := Ext.refl w
  have hs0 := hs
  have h32 : 2 ^ m ≤ 32 := Nat.pow_le_pow_right (n := 2) (by omega) hm5
  have hp := Nat.two_pow_pos m
  have hget : ∀ i, a.getD i 0 < 32 := fun i => Nat.lt_of_lt_of_le (getD_lt_all hlt hp i) h32
  refine iNew fun b1 w1 hb1 h hB1 => ?_
  have hX := hX.trans h
  refine iNew fun b2 w2 hb2 h hB2 => ?_
  have hlb2 : w.heap.size ≤ b2 := by have := hX.size; omega
  have hX := hX.trans h
  have hB1 := hB1.ext h
  (repeat first
    | with_reducible refine iFa ?_
    | with_reducible refine iNil ?_
    | with_reducible refine iNilF ?_
    | ((with_reducible show xLd _ _ _); refine iLdB (by assumption) (by first | rfl | simp) ?_)
    | with_reducible refine iLd (by assumption) ?_
    | ((with_reducible refine iLdA (by assumption) ?_ ?_); rfl)
    | with_reducible refine iLenN (by assumption) ?_
    | with_reducible refine iLenI (by assumption) ?_
    | with_reducible refine iLenS (by assumption) ?_
    | with_reducible refine iLenL ?_
    | ((with_reducible refine iIaNN (by assumption) ?_ (fun pa_ hpa_ => ?_)); omega)
    | ((with_reducible refine iIaN (by assumption) ?_ (fun pa_ hpa_ => ?_)); omega)
    | ((with_reducible refine iIaI (by assumption) ?_ ?_ (fun pa_ hpa_ => ?_)); omega; omega)
    | ((with_reducible refine iAdd ?_ ?_); omega)
    | ((with_reducible refine iSub ?_ ?_); omega)
    | with_reducible refine iEq ?_
    | with_reducible refine iNe ?_
    | with_reducible refine iLt ?_
    | with_reducible refine iLe ?_
    | with_reducible refine iNot ?_
    | with_reducible refine iPick ?_
    | with_reducible refine iE20 ?_
    | with_reducible refine iE21 ?_
    | ((with_reducible show xEx _ _ _); refine iEx (by rfl) ?_)
    | with_reducible refine iJn ?_
    | ((with_reducible refine fun (_ : Nat → Value) => ?_); (try simp only [gx, List.getD_cons_zero, List.getD_cons_succ])))
  refine iMk (n := m) (by omega) (by omega) rfl fun c w3 hc h hC => ?_
  have hlc : w.heap.size ≤ c := by have := hX.size; omega
  have hb1c : b1 ≠ c := by have := hB1.lt; omega
  have hb2c : b2 ≠ c := by have := hB2.lt; omega
  have hX := hX.trans h
  have hB1 := hB1.ext h
  have hB2 := hB2.ext h
  (repeat first
    | with_reducible refine iFa ?_
    | with_reducible refine iNil ?_
    | with_reducible refine iNilF ?_
    | ((with_reducible show xLd _ _ _); refine iLdB (by assumption) (by first | rfl | simp) ?_)
    | with_reducible refine iLd (by assumption) ?_
    | ((with_reducible refine iLdA (by assumption) ?_ ?_); rfl)
    | with_reducible refine iLenN (by assumption) ?_
    | with_reducible refine iLenI (by assumption) ?_
    | with_reducible refine iLenS (by assumption) ?_
    | with_reducible refine iLenL ?_
    | ((with_reducible refine iIaNN (by assumption) ?_ (fun pa_ hpa_ => ?_)); omega)
    | ((with_reducible refine iIaN (by assumption) ?_ (fun pa_ hpa_ => ?_)); omega)
    | ((with_reducible refine iIaI (by assumption) ?_ ?_ (fun pa_ hpa_ => ?_)); omega; omega)
    | ((with_reducible refine iAdd ?_ ?_); omega)
    | ((with_reducible refine iSub ?_ ?_); omega)
    | with_reducible refine iEq ?_
    | with_reducible refine iNe ?_
    | with_reducible refine iLt ?_
    | with_reducible refine iLe ?_
    | with_reducible refine iNot ?_
    | with_reducible refine iPick ?_
    | with_reducible refine iE20 ?_
    | with_reducible refine iE21 ?_
    | ((with_reducible show xEx _ _ _); refine iEx (by rfl) ?_)
    | with_reducible refine iJn ?_
    | ((with_reducible refine fun (_ : Nat → Value) => ?_); (try simp only [gx, List.getD_cons_zero, List.getD_cons_succ])))
  have hrow0 : List.replicate m (Value.int .i64 0) = ints (nats (algRow a m 0 0)) := by
    rw [algRow_zero]
    apply List.ext_getElem
    · simp [ints, nats]
    · intro i h1 h2
      simp [ints, nats, algMask, setOf]
  rw [hrow0] at hC
  have hrl : ∀ x y, (algRow a m x y).length = m := fun x y => by simp [algRow]
  refine iLp (fun k : Nat => [.int .i64 (k : Int)]) (fun k w' => k ≤ m ∧ Ext w w' ∧ Blk _ w' b1 _ ∧ Blk _ w' b2 _ ∧ Blk t_i64 w' c (ints (nats (algRow a m k 0)))) (fun k => m - k) 0 rfl ⟨Nat.zero_le _, hX, hB1, hB2, hC⟩ ?_
  rintro k w5 Kn ⟨hk, hX, hB1, hB2, hC⟩ hKn
  (repeat first
    | with_reducible refine iFa ?_
    | with_reducible refine iNil ?_
    | with_reducible refine iNilF ?_
    | ((with_reducible show xLd _ _ _); refine iLdB (by assumption) (by first | rfl | simp) ?_)
    | with_reducible refine iLd (by assumption) ?_
    | ((with_reducible refine iLdA (by assumption) ?_ ?_); rfl)
    | with_reducible refine iLenN (by assumption) ?_
    | with_reducible refine iLenI (by assumption) ?_
    | with_reducible refine iLenS (by assumption) ?_
    | with_reducible refine iLenL ?_
    | ((with_reducible refine iIaNN (by assumption) ?_ (fun pa_ hpa_ => ?_)); omega)
    | ((with_reducible refine iIaN (by assumption) ?_ (fun pa_ hpa_ => ?_)); omega)
    | ((with_reducible refine iIaI (by assumption) ?_ ?_ (fun pa_ hpa_ => ?_)); omega; omega)
    | ((with_reducible refine iAdd ?_ ?_); omega)
    | ((with_reducible refine iSub ?_ ?_); omega)
    | with_reducible refine iEq ?_
    | with_reducible refine iNe ?_
    | with_reducible refine iLt ?_
    | with_reducible refine iLe ?_
    | with_reducible refine iNot ?_
    | with_reducible refine iPick ?_
    | with_reducible refine iE20 ?_
    | with_reducible refine iE21 ?_
    | ((with_reducible show xEx _ _ _); refine iEx (by rfl) ?_)
    | with_reducible refine iJn ?_
    | ((with_reducible refine fun (_ : Nat → Value) => ?_); (try simp only [gx, List.getD_cons_zero, List.getD_cons_succ])))
  refine iCndP (fun h4 => ?_) (fun h4 => ?_)
  · have hk1 : k < m := by omega
    (repeat first
    | with_reducible refine iFa ?_
    | with_reducible refine iNil ?_
    | with_reducible refine iNilF ?_
    | ((with_reducible show xLd _ _ _); refine iLdB (by assumption) (by first | rfl | simp) ?_)
    | with_reducible refine iLd (by assumption) ?_
    | ((with_reducible refine iLdA (by assumption) ?_ ?_); rfl)
    | with_reducible refine iLenN (by assumption) ?_
    | with_reducible refine iLenI (by assumption) ?_
    | with_reducible refine iLenS (by assumption) ?_
    | with_reducible refine iLenL ?_
    | ((with_reducible refine iIaNN (by assumption) ?_ (fun pa_ hpa_ => ?_)); omega)
    | ((with_reducible refine iIaN (by assumption) ?_ (fun pa_ hpa_ => ?_)); omega)
    | ((with_reducible refine iIaI (by assumption) ?_ ?_ (fun pa_ hpa_ => ?_)); omega; omega)
    | ((with_reducible refine iAdd ?_ ?_); omega)
    | ((with_reducible refine iSub ?_ ?_); omega)
    | with_reducible refine iEq ?_
    | with_reducible refine iNe ?_
    | with_reducible refine iLt ?_
    | with_reducible refine iLe ?_
    | with_reducible refine iNot ?_
    | with_reducible refine iPick ?_
    | with_reducible refine iE20 ?_
    | with_reducible refine iE21 ?_
    | ((with_reducible show xEx _ _ _); refine iEx (by rfl) ?_)
    | with_reducible refine iJn ?_
    | ((with_reducible refine fun (_ : Nat → Value) => ?_); (try simp only [gx, List.getD_cons_zero, List.getD_cons_succ])))
    refine iLp (fun j : Nat => [.int .i64 (j : Int)]) (fun j w' => j ≤ m ∧ Ext w w' ∧ Blk _ w' b1 _ ∧ Blk _ w' b2 _ ∧ Blk t_i64 w' c (ints (nats (algRow a m k j)))) (fun j => m - j) 0 rfl ⟨Nat.zero_le _, hX, hB1, hB2, hC⟩ ?_
    rintro j w7 Kn2 ⟨hj, hX, hB1, hB2, hC⟩ hKn2
    have hs := hs0.ext hX
    (repeat first
    | with_reducible refine iFa ?_
    | with_reducible refine iNil ?_
    | with_reducible refine iNilF ?_
    | ((with_reducible show xLd _ _ _); refine iLdB (by assumption) (by first | rfl | simp) ?_)
    | with_reducible refine iLd (by assumption) ?_
    | ((with_reducible refine iLdA (by assumption) ?_ ?_); rfl)
    | with_reducible refine iLenN (by assumption) ?_
    | with_reducible refine iLenI (by assumption) ?_
    | with_reducible refine iLenS (by assumption) ?_
    | with_reducible refine iLenL ?_
    | ((with_reducible refine iIaNN (by assumption) ?_ (fun pa_ hpa_ => ?_)); omega)
    | ((with_reducible refine iIaN (by assumption) ?_ (fun pa_ hpa_ => ?_)); omega)
    | ((with_reducible refine iIaI (by assumption) ?_ ?_ (fun pa_ hpa_ => ?_)); omega; omega)
    | ((with_reducible refine iAdd ?_ ?_); omega)
    | ((with_reducible refine iSub ?_ ?_); omega)
    | with_reducible refine iEq ?_
    | with_reducible refine iNe ?_
    | with_reducible refine iLt ?_
    | with_reducible refine iLe ?_
    | with_reducible refine iNot ?_
    | with_reducible refine iPick ?_
    | with_reducible refine iE20 ?_
    | with_reducible refine iE21 ?_
    | ((with_reducible show xEx _ _ _); refine iEx (by rfl) ?_)
    | with_reducible refine iJn ?_
    | ((with_reducible refine fun (_ : Nat → Value) => ?_); (try simp only [gx, List.getD_cons_zero, List.getD_cons_succ])))
    refine iCndP (fun h5 => ?_) (fun h5 => ?_)
    · have hj1 : j < m := by omega
      have hpk := two_pow_add_le hk1
      have hpk2 := Nat.two_pow_pos k
      (repeat first
    | with_reducible refine iFa ?_
    | with_reducible refine iNil ?_
    | with_reducible refine iNilF ?_
    | ((with_reducible show xLd _ _ _); refine iLdB (by assumption) (by first | rfl | simp) ?_)
    | with_reducible refine iLd (by assumption) ?_
    | ((with_reducible refine iLdA (by assumption) ?_ ?_); rfl)
    | with_reducible refine iLenN (by assumption) ?_
    | with_reducible refine iLenI (by assumption) ?_
    | with_reducible refine iLenS (by assumption) ?_
    | with_reducible refine iLenL ?_
    | ((with_reducible refine iIaNN (by assumption) ?_ (fun pa_ hpa_ => ?_)); omega)
    | ((with_reducible refine iIaN (by assumption) ?_ (fun pa_ hpa_ => ?_)); omega)
    | ((with_reducible refine iIaI (by assumption) ?_ ?_ (fun pa_ hpa_ => ?_)); omega; omega)
    | ((with_reducible refine iAdd ?_ ?_); omega)
    | ((with_reducible refine iSub ?_ ?_); omega)
    | with_reducible refine iEq ?_
    | with_reducible refine iNe ?_
    | with_reducible refine iLt ?_
    | with_reducible refine iLe ?_
    | with_reducible refine iNot ?_
    | with_reducible refine iPick ?_
    | with_reducible refine iE20 ?_
    | with_reducible refine iE21 ?_
    | ((with_reducible show xEx _ _ _); refine iEx (by rfl) ?_)
    | with_reducible refine iJn ?_
    | ((with_reducible refine fun (_ : Nat → Value) => ?_); (try simp only [gx, List.getD_cons_zero, List.getD_cons_succ])))
      refine iRetQ (fun w' _ => ok_impl_ModalAlgebra_full m (by omega) w') ?_
      refine iShlOne (by omega) ?_
      refine iBAndNot (by omega) (by omega) ?_
      rw [sdiff_full hk1]
      (repeat first
    | with_reducible refine iFa ?_
    | with_reducible refine iNil ?_
    | with_reducible refine iNilF ?_
    | ((with_reducible show xLd _ _ _); refine iLdB (by assumption) (by first | rfl | simp) ?_)
    | with_reducible refine iLd (by assumption) ?_
    | ((with_reducible refine iLdA (by assumption) ?_ ?_); rfl)
    | with_reducible refine iLenN (by assumption) ?_
    | with_reducible refine iLenI (by assumption) ?_
    | with_reducible refine iLenS (by assumption) ?_
    | with_reducible refine iLenL ?_
    | ((with_reducible refine iIaNN (by assumption) ?_ (fun pa_ hpa_ => ?_)); omega)
    | ((with_reducible refine iIaN (by assumption) ?_ (fun pa_ hpa_ => ?_)); omega)
    | ((with_reducible refine iIaI (by assumption) ?_ ?_ (fun pa_ hpa_ => ?_)); omega; omega)
    | ((with_reducible refine iAdd ?_ ?_); omega)
    | ((with_reducible refine iSub ?_ ?_); omega)
    | with_reducible refine iEq ?_
    | with_reducible refine iNe ?_
    | with_reducible refine iLt ?_
    | with_reducible refine iLe ?_
    | with_reducible refine iNot ?_
    | with_reducible refine iPick ?_
    | with_reducible refine iE20 ?_
    | with_reducible refine iE21 ?_
    | ((with_reducible show xEx _ _ _); refine iEx (by rfl) ?_)
    | with_reducible refine iJn ?_
    | ((with_reducible refine fun (_ : Nat → Value) => ?_); (try simp only [gx, List.getD_cons_zero, List.getD_cons_succ])))
      have hg := hget (2 ^ m - 1 - 2 ^ k)
      refine iRetQ (fun w' _ => ok_impl_has (a.getD (2 ^ m - 1 - 2 ^ k) 0) j (by omega) (by omega) w') ?_
      (repeat first
    | with_reducible refine iFa ?_
    | with_reducible refine iNil ?_
    | with_reducible refine iNilF ?_
    | ((with_reducible show xLd _ _ _); refine iLdB (by assumption) (by first | rfl | simp) ?_)
    | with_reducible refine iLd (by assumption) ?_
    | ((with_reducible refine iLdA (by assumption) ?_ ?_); rfl)
    | with_reducible refine iLenN (by assumption) ?_
    | with_reducible refine iLenI (by assumption) ?_
    | with_reducible refine iLenS (by assumption) ?_
    | with_reducible refine iLenL ?_
    | ((with_reducible refine iIaNN (by assumption) ?_ (fun pa_ hpa_ => ?_)); omega)
    | ((with_reducible refine iIaN (by assumption) ?_ (fun pa_ hpa_ => ?_)); omega)
    | ((with_reducible refine iIaI (by assumption) ?_ ?_ (fun pa_ hpa_ => ?_)); omega; omega)
    | ((with_reducible refine iAdd ?_ ?_); omega)
    | ((with_reducible refine iSub ?_ ?_); omega)
    | with_reducible refine iEq ?_
    | with_reducible refine iNe ?_
    | with_reducible refine iLt ?_
    | with_reducible refine iLe ?_
    | with_reducible refine iNot ?_
    | with_reducible refine iPick ?_
    | with_reducible refine iE20 ?_
    | with_reducible refine iE21 ?_
    | ((with_reducible show xEx _ _ _); refine iEx (by rfl) ?_)
    | with_reducible refine iJn ?_
    | ((with_reducible refine fun (_ : Nat → Value) => ?_); (try simp only [gx, List.getD_cons_zero, List.getD_cons_succ])))
      intro w8 h
      have hX := hX.trans h
      have hB1 := hB1.ext h
      have hB2 := hB2.ext h
      have hC := hC.ext h
      have hsu := algMask_succ a m j k
      have hm32 : algMask a m j k < 2 ^ 5 := Nat.lt_of_lt_of_le (algMask_lt a m j k) (Nat.pow_le_pow_right (by omega) (by omega))
      cases hbit : (a.getD (2 ^ m - 1 - 2 ^ k) 0).testBit j
      · rw [hbit, if_neg (by simp)] at hsu
        refine iCndT rfl ?_
        refine iIaL hj1 ?_
        refine iLdB hC (v := .int .i64 ((algMask a m j k : Nat) : Int)) ?_ ?_
        · simp [ints, nats, algRow, hj1]
        refine iShlOne (by omega) ?_
        have h2k : 2 ^ k < 2 ^ 5 := Nat.pow_lt_pow_right (by omega) (by omega)
        refine iBOr (by omega) (by omega) ?_
        rw [← hsu]
        refine iIaL hj1 ?_
        intro w9 h
        have hX := hX.trans h
        have hB1 := hB1.ext h
        have hB2 := hB2.ext h
        have hC := hC.ext h
        refine iStB hC (by simp [ints, nats, algRow, hj1]) rfl fun hC' => ?_
        have hu := Upd.setCell w9 c (0 + j) (.int .i64 ((algMask a m j (k + 1) : Nat) : Int))
        have hX := hX.upd hu hlc
        have hB1 := hB1.upd hu hb1c
        have hB2 := hB2.upd hu hb2c
        have e1 : (ints (nats (algRow a m k j))).set (0 + j) (.int .i64 ((algMask a m j (k + 1) : Nat) : Int)) = ints (nats (algRow a m k (j + 1))) := by
          rw [Nat.zero_add, ← algRow_step a m k j hj1]
          simp [ints, nats, List.map_set]
        rw [e1] at hC'
        intro w11 h
        have hC := hC'.ext h
        have hX := hX.trans h
        have hB1 := hB1.ext h
        have hB2 := hB2.ext h
        (repeat first
    | with_reducible refine iFa ?_
    | with_reducible refine iNil ?_
    | with_reducible refine iNilF ?_
    | ((with_reducible show xLd _ _ _); refine iLdB (by assumption) (by first | rfl | simp) ?_)
    | with_reducible refine iLd (by assumption) ?_
    | ((with_reducible refine iLdA (by assumption) ?_ ?_); rfl)
    | with_reducible refine iLenN (by assumption) ?_
    | with_reducible refine iLenI (by assumption) ?_
    | with_reducible refine iLenS (by assumption) ?_
    | with_reducible refine iLenL ?_
    | ((with_reducible refine iIaNN (by assumption) ?_ (fun pa_ hpa_ => ?_)); omega)
    | ((with_reducible refine iIaN (by assumption) ?_ (fun pa_ hpa_ => ?_)); omega)
    | ((with_reducible refine iIaI (by assumption) ?_ ?_ (fun pa_ hpa_ => ?_)); omega; omega)
    | ((with_reducible refine iAdd ?_ ?_); omega)
    | ((with_reducible refine iSub ?_ ?_); omega)
    | with_reducible refine iEq ?_
    | with_reducible refine iNe ?_
    | with_reducible refine iLt ?_
    | with_reducible refine iLe ?_
    | with_reducible refine iNot ?_
    | with_reducible refine iPick ?_
    | with_reducible refine iE20 ?_
    | with_reducible refine iE21 ?_
    | ((with_reducible show xEx _ _ _); refine iEx (by rfl) ?_)
    | with_reducible refine iJn ?_
    | ((with_reducible refine fun (_ : Nat → Value) => ?_); (try simp only [gx, List.getD_cons_zero, List.getD_cons_succ])))
        exact hKn2 (j + 1) _ ⟨by omega, hX, hB1, hB2, hC⟩ (by omega)
      · rw [hbit, if_pos rfl] at hsu
        refine iCndF rfl ?_
        (repeat first
    | with_reducible refine iFa ?_
    | with_reducible refine iNil ?_
    | with_reducible refine iNilF ?_
    | ((with_reducible show xLd _ _ _); refine iLdB (by assumption) (by first | rfl | simp) ?_)
    | with_reducible refine iLd (by assumption) ?_
    | ((with_reducible refine iLdA (by assumption) ?_ ?_); rfl)
    | with_reducible refine iLenN (by assumption) ?_
    | with_reducible refine iLenI (by assumption) ?_
    | with_reducible refine iLenS (by assumption) ?_
    | with_reducible refine iLenL ?_
    | ((with_reducible refine iIaNN (by assumption) ?_ (fun pa_ hpa_ => ?_)); omega)
    | ((with_reducible refine iIaN (by assumption) ?_ (fun pa_ hpa_ => ?_)); omega)
    | ((with_reducible refine iIaI (by assumption) ?_ ?_ (fun pa_ hpa_ => ?_)); omega; omega)
    | ((with_reducible refine iAdd ?_ ?_); omega)
    | ((with_reducible refine iSub ?_ ?_); omega)
    | with_reducible refine iEq ?_
    | with_reducible refine iNe ?_
    | with_reducible refine iLt ?_
    | with_reducible refine iLe ?_
    | with_reducible refine iNot ?_
    | with_reducible refine iPick ?_
    | with_reducible refine iE20 ?_
    | with_reducible refine iE21 ?_
    | ((with_reducible show xEx _ _ _); refine iEx (by rfl) ?_)
    | with_reducible refine iJn ?_
    | ((with_reducible refine fun (_ : Nat → Value) => ?_); (try simp only [gx, List.getD_cons_zero, List.getD_cons_succ])))
        refine hKn2 (j + 1) _ ⟨by omega, hX, hB1, hB2, ?_⟩ (by omega)
        rw [algRow_same a m k j hj1 hsu]; exact hC
    · obtain rfl : j = m := by omega
      (repeat first
    | with_reducible refine iFa ?_
    | with_reducible refine iNil ?_
    | with_reducible refine iNilF ?_
    | ((with_reducible show xLd _ _ _); refine iLdB (by assumption) (by first | rfl | simp) ?_)
    | with_reducible refine iLd (by assumption) ?_
    | ((with_reducible refine iLdA (by assumption) ?_ ?_); rfl)
    | with_reducible refine iLenN (by assumption) ?_
    | with_reducible refine iLenI (by assumption) ?_
    | with_reducible refine iLenS (by assumption) ?_
    | with_reducible refine iLenL ?_
    | ((with_reducible refine iIaNN (by assumption) ?_ (fun pa_ hpa_ => ?_)); omega)
    | ((with_reducible refine iIaN (by assumption) ?_ (fun pa_ hpa_ => ?_)); omega)
    | ((with_reducible refine iIaI (by assumption) ?_ ?_ (fun pa_ hpa_ => ?_)); omega; omega)
    | ((with_reducible refine iAdd ?_ ?_); omega)
    | ((with_reducible refine iSub ?_ ?_); omega)
    | with_reducible refine iEq ?_
    | with_reducible refine iNe ?_
    | with_reducible refine iLt ?_
    | with_reducible refine iLe ?_
    | with_reducible refine iNot ?_
    | with_reducible refine iPick ?_
    | with_reducible refine iE20 ?_
    | with_reducible refine iE21 ?_
    | ((with_reducible show xEx _ _ _); refine iEx (by rfl) ?_)
    | with_reducible refine iJn ?_
    | ((with_reducible refine fun (_ : Nat → Value) => ?_); (try simp only [gx, List.getD_cons_zero, List.getD_cons_succ])))
      rw [algRow_full] at hC
      exact hKn (k + 1) _ ⟨by omega, hX, hB1, hB2, hC⟩ (by omega)
  · obtain rfl : k = m := by omega
    have ho : Ow w.heap.size t_i64 w5 (.slice (some ⟨c, 0, none⟩) k k) (ints (nats (algRow a k k 0))) := Ow.ofBlk hC hlc (by rw [ints_length, nats_length, hrl]) (by omega)
    refine iCall ((ok_impl_frameOf ho).mono ?_)
    rintro _ w12 ⟨h12, v', rfl, ho12⟩
    have hB212 := hB2.ext h12
    have hne : v'.ownBlock ≠ some b2 := ho12.ne_blk hB212 (by decide)
    refine iStAB hB212 rfl rfl (ho12.pair _) fun w13 hu hB13 => ?_
    have ho13 := ho12.upd hu hne
    have hlm : (nats (algRow a k k 0)).length = k := by rw [nats_length, hrl]
    (repeat first
    | with_reducible refine iFa ?_
    | with_reducible refine iNil ?_
    | with_reducible refine iNilF ?_
    | ((with_reducible show xLd _ _ _); refine iLdB (by assumption) (by first | rfl | simp) ?_)
    | with_reducible refine iLd (by assumption) ?_
    | ((with_reducible refine iLdA (by assumption) ?_ ?_); rfl)
    | with_reducible refine iLenN (by assumption) ?_
    | with_reducible refine iLenI (by assumption) ?_
    | with_reducible refine iLenS (by assumption) ?_
    | with_reducible refine iLenL ?_
    | ((with_reducible refine iIaNN (by assumption) ?_ (fun pa_ hpa_ => ?_)); omega)
    | ((with_reducible refine iIaN (by assumption) ?_ (fun pa_ hpa_ => ?_)); omega)
    | ((with_reducible refine iIaI (by assumption) ?_ ?_ (fun pa_ hpa_ => ?_)); omega; omega)
    | ((with_reducible refine iAdd ?_ ?_); omega)
    | ((with_reducible refine iSub ?_ ?_); omega)
    | with_reducible refine iEq ?_
    | with_reducible refine iNe ?_
    | with_reducible refine iLt ?_
    | with_reducible refine iLe ?_
    | with_reducible refine iNot ?_
    | with_reducible refine iPick ?_
    | with_reducible refine iE20 ?_
    | with_reducible refine iE21 ?_
    | ((with_reducible show xEx _ _ _); refine iEx (by rfl) ?_)
    | with_reducible refine iJn ?_
    | ((with_reducible refine fun (_ : Nat → Value) => ?_); (try simp only [gx, List.getD_cons_zero, List.getD_cons_succ])))
    refine ⟨(hX.trans h12).upd hu hlb2, v', ?_, ?_⟩
    · rw [hlm]
    · have := ho13.sl
      rw [algRow_zero] at this
      exact this
def algOut (n0 : Int) (l0 : List Int) (n1 : Int) (l1 : List Int) : Bool × Int :=
  if algOk n0 l0 && algOk n1 l1 then (!(leaves (fitsB (algFr n1.toNat (l1.map Int.toNat)) (algFr n0.toNat (l0.map Int.toNat)) true true) n0.toNat n1.toNat []).isEmpty, 0) else (false, 1)
theorem algOk_of {n : Int} {l : List Int} (h : algOk n l = true) : ∃ (m : Nat) (a : List Nat), n = (m : Int) ∧ l = nats a ∧ m ≤ 5 ∧ a.length = 2 ^ m ∧ (∀ x ∈ a, x < 2 ^ m) ∧ n.toNat = m ∧ l.map Int.toNat = a := by
  unfold algOk at h
  rw [Bool.and_eq_true, Bool.and_eq_true, Bool.and_eq_true, decide_eq_true_eq, decide_eq_true_eq] at h
  obtain ⟨hn, hlen, hall, _⟩ := h
  obtain ⟨m, rfl⟩ := Int.eq_ofNat_of_zero_le hn.1
  rw [Int.toNat_natCast] at hlen hall
  obtain ⟨hl, hlt⟩ := masks_nats hall
  refine ⟨m, l.map Int.toNat, rfl, hl, by omega, by rw [List.length_map]; omega, hlt, Int.toNat_natCast m, rfl⟩
theorem ok_impl_AreIsomorphicAlgebras {w : World} {v0 v1 : Value} {l0 l1 : List Int} (hs0 : SlI w v0 l0) (hs1 : SlI w v1 l1) (n0 n1 : Int) : Ret Try.prog f_impl_AreIsomorphicAlgebras #[.agg #[.int .i64 n0, v0], .agg #[.int .i64 n1, v1]] w (.tuple #[.bool (algOut n0 l0 n1 l1).1, .int .i64 (algOut n0 l0 n1 l1).2]) := by
  apply c_impl_AreIsomorphicAlgebras; unfold S_impl_AreIsomorphicAlgebras
  have hX := Ext.refl w
  refine iNew fun b2 w1 hb2 h hB2 => ?_
  have hX := hX.trans h
  refine iNew fun b3 w2 hb3 h hB3 => ?_
  have hX := hX.trans h
  have hB2 := hB2.ext h
  refine iJnB (!(algOk n0 l0 && algOk n1 l1)) w2 (fun J hJ => ?_) (fun w4 h => ?_)
  · (repeat first
    | with_reducible refine iFa ?_
    | with_reducible refine iNil ?_
    | with_reducible refine iNilF ?_
    | ((with_reducible show xLd _ _ _); refine iLdB (by assumption) (by first | rfl | simp) ?_)
    | with_reducible refine iLd (by assumption) ?_
    | ((with_reducible refine iLdA (by assumption) ?_ ?_); rfl)
    | with_reducible refine iLenN (by assumption) ?_
    | with_reducible refine iLenI (by assumption) ?_
    | with_reducible refine iLenS (by assumption) ?_
    | with_reducible refine iLenL ?_
    | ((with_reducible refine iIaNN (by assumption) ?_ (fun pa_ hpa_ => ?_)); omega)
    | ((with_reducible refine iIaN (by assumption) ?_ (fun pa_ hpa_ => ?_)); omega)
    | ((with_reducible refine iIaI (by assumption) ?_ ?_ (fun pa_ hpa_ => ?_)); omega; omega)
    | ((with_reducible refine iAdd ?_ ?_); omega)
    | ((with_reducible refine iSub ?_ ?_); omega)
    | with_reducible refine iEq ?_
    | with_reducible refine iNe ?_
    | with_reducible refine iLt ?_
    | with_reducible refine iLe ?_
    | with_reducible refine iNot ?_
    | with_reducible refine iPick ?_
    | with_reducible refine iE20 ?_
    | with_reducible refine iE21 ?_
    | ((with_reducible show xEx _ _ _); refine iEx (by rfl) ?_)
    | with_reducible refine iJn ?_
    | ((with_reducible refine fun (_ : Nat → Value) => ?_); (try simp only [gx, List.getD_cons_zero, List.getD_cons_succ])))
    refine iRet (ok_impl_isModalAlgebra (hs0.ext hX) n0) fun w5 h => ?_
    have hB3 := hB3.ext h
    (repeat first
    | with_reducible refine iFa ?_
    | with_reducible refine iNil ?_
    | with_reducible refine iNilF ?_
    | ((with_reducible show xLd _ _ _); refine iLdB (by assumption) (by first | rfl | simp) ?_)
    | with_reducible refine iLd (by assumption) ?_
    | ((with_reducible refine iLdA (by assumption) ?_ ?_); rfl)
    | with_reducible refine iLenN (by assumption) ?_
    | with_reducible refine iLenI (by assumption) ?_
    | with_reducible refine iLenS (by assumption) ?_
    | with_reducible refine iLenL ?_
    | ((with_reducible refine iIaNN (by assumption) ?_ (fun pa_ hpa_ => ?_)); omega)
    | ((with_reducible refine iIaN (by assumption) ?_ (fun pa_ hpa_ => ?_)); omega)
    | ((with_reducible refine iIaI (by assumption) ?_ ?_ (fun pa_ hpa_ => ?_)); omega; omega)
    | ((with_reducible refine iAdd ?_ ?_); omega)
    | ((with_reducible refine iSub ?_ ?_); omega)
    | with_reducible refine iEq ?_
    | with_reducible refine iNe ?_
    | with_reducible refine iLt ?_
    | with_reducible refine iLe ?_
    | with_reducible refine iNot ?_
    | with_reducible refine iPick ?_
    | with_reducible refine iE20 ?_
    | with_reducible refine iE21 ?_
    | ((with_reducible show xEx _ _ _); refine iEx (by rfl) ?_)
    | with_reducible refine iJn ?_
    | ((with_reducible refine fun (_ : Nat → Value) => ?_); (try simp only [gx, List.getD_cons_zero, List.getD_cons_succ])))
    cases h0 : algOk n0 l0
    · refine iCndT rfl ?_
      have := hJ w5 h
      rwa [h0] at this
    · refine iCndF rfl ?_
      (repeat first
    | with_reducible refine iFa ?_
    | with_reducible refine iNil ?_
    | with_reducible refine iNilF ?_
    | ((with_reducible show xLd _ _ _); refine iLdB (by assumption) (by first | rfl | simp) ?_)
    | with_reducible refine iLd (by assumption) ?_
    | ((with_reducible refine iLdA (by assumption) ?_ ?_); rfl)
    | with_reducible refine iLenN (by assumption) ?_
    | with_reducible refine iLenI (by assumption) ?_
    | with_reducible refine iLenS (by assumption) ?_
    | with_reducible refine iLenL ?_
    | ((with_reducible refine iIaNN (by assumption) ?_ (fun pa_ hpa_ => ?_)); omega)
    | ((with_reducible refine iIaN (by assumption) ?_ (fun pa_ hpa_ => ?_)); omega)
    | ((with_reducible refine iIaI (by assumption) ?_ ?_ (fun pa_ hpa_ => ?_)); omega; omega)
    | ((with_reducible refine iAdd ?_ ?_); omega)
    | ((with_reducible refine iSub ?_ ?_); omega)
    | with_reducible refine iEq ?_
    | with_reducible refine iNe ?_
    | with_reducible refine iLt ?_
    | with_reducible refine iLe ?_
    | with_reducible refine iNot ?_
    | with_reducible refine iPick ?_
    | with_reducible refine iE20 ?_
    | with_reducible refine iE21 ?_
    | ((with_reducible show xEx _ _ _); refine iEx (by rfl) ?_)
    | with_reducible refine iJn ?_
    | ((with_reducible refine fun (_ : Nat → Value) => ?_); (try simp only [gx, List.getD_cons_zero, List.getD_cons_succ])))
      refine iRet (ok_impl_isModalAlgebra (hs1.ext (hX.trans h)) n1) fun w6 h6 => ?_
      (repeat first
    | with_reducible refine iFa ?_
    | with_reducible refine iNil ?_
    | with_reducible refine iNilF ?_
    | ((with_reducible show xLd _ _ _); refine iLdB (by assumption) (by first | rfl | simp) ?_)
    | with_reducible refine iLd (by assumption) ?_
    | ((with_reducible refine iLdA (by assumption) ?_ ?_); rfl)
    | with_reducible refine iLenN (by assumption) ?_
    | with_reducible refine iLenI (by assumption) ?_
    | with_reducible refine iLenS (by assumption) ?_
    | with_reducible refine iLenL ?_
    | ((with_reducible refine iIaNN (by assumption) ?_ (fun pa_ hpa_ => ?_)); omega)
    | ((with_reducible refine iIaN (by assumption) ?_ (fun pa_ hpa_ => ?_)); omega)
    | ((with_reducible refine iIaI (by assumption) ?_ ?_ (fun pa_ hpa_ => ?_)); omega; omega)
    | ((with_reducible refine iAdd ?_ ?_); omega)
    | ((with_reducible refine iSub ?_ ?_); omega)
    | with_reducible refine iEq ?_
    | with_reducible refine iNe ?_
    | with_reducible refine iLt ?_
    | with_reducible refine iLe ?_
    | with_reducible refine iNot ?_
    | with_reducible refine iPick ?_
    | with_reducible refine iE20 ?_
    | with_reducible refine iE21 ?_
    | ((with_reducible show xEx _ _ _); refine iEx (by rfl) ?_)
    | with_reducible refine iJn ?_
    | ((with_reducible refine fun (_ : Nat → Value) => ?_); (try simp only [gx, List.getD_cons_zero, List.getD_cons_succ])))
      have := hJ w6 (h.trans h6)
      rwa [h0, Bool.true_and] at this
  have hX := hX.trans h
  have hB2 := hB2.ext h
  have hB3 := hB3.ext h
  (repeat first
    | with_reducible refine iFa ?_
    | with_reducible refine iNil ?_
    | with_reducible refine iNilF ?_
    | ((with_reducible show xLd _ _ _); refine iLdB (by assumption) (by first | rfl | simp) ?_)
    | with_reducible refine iLd (by assumption) ?_
    | ((with_reducible refine iLdA (by assumption) ?_ ?_); rfl)
    | with_reducible refine iLenN (by assumption) ?_
    | with_reducible refine iLenI (by assumption) ?_
    | with_reducible refine iLenS (by assumption) ?_
    | with_reducible refine iLenL ?_
    | ((with_reducible refine iIaNN (by assumption) ?_ (fun pa_ hpa_ => ?_)); omega)
    | ((with_reducible refine iIaN (by assumption) ?_ (fun pa_ hpa_ => ?_)); omega)
    | ((with_reducible refine iIaI (by assumption) ?_ ?_ (fun pa_ hpa_ => ?_)); omega; omega)
    | ((with_reducible refine iAdd ?_ ?_); omega)
    | ((with_reducible refine iSub ?_ ?_); omega)
    | with_reducible refine iEq ?_
    | with_reducible refine iNe ?_
    | with_reducible refine iLt ?_
    | with_reducible refine iLe ?_
    | with_reducible refine iNot ?_
    | with_reducible refine iPick ?_
    | with_reducible refine iE20 ?_
    | with_reducible refine iE21 ?_
    | ((with_reducible show xEx _ _ _); refine iEx (by rfl) ?_)
    | with_reducible refine iJn ?_
    | ((with_reducible refine fun (_ : Nat → Value) => ?_); (try simp only [gx, List.getD_cons_zero, List.getD_cons_succ])))
  unfold algOut
  cases hfr : algOk n0 l0 && algOk n1 l1
  · refine iCndT rfl ?_
    exact ⟨rfl, hX⟩
  · refine iCndF rfl ?_
    rw [Bool.and_eq_true] at hfr
    obtain ⟨m0, a0, rfl, rfl, hm0, hl0, hlt0, e1, e2⟩ := algOk_of hfr.1
    obtain ⟨m1, a1, rfl, rfl, hm1, hl1, hlt1, e3, e4⟩ := algOk_of hfr.2
    rw [e1, e2, e3, e4]
    (repeat first
    | with_reducible refine iFa ?_
    | with_reducible refine iNil ?_
    | with_reducible refine iNilF ?_
    | ((with_reducible show xLd _ _ _); refine iLdB (by assumption) (by first | rfl | simp) ?_)
    | with_reducible refine iLd (by assumption) ?_
    | ((with_reducible refine iLdA (by assumption) ?_ ?_); rfl)
    | with_reducible refine iLenN (by assumption) ?_
    | with_reducible refine iLenI (by assumption) ?_
    | with_reducible refine iLenS (by assumption) ?_
    | with_reducible refine iLenL ?_
    | ((with_reducible refine iIaNN (by assumption) ?_ (fun pa_ hpa_ => ?_)); omega)
    | ((with_reducible refine iIaN (by assumption) ?_ (fun pa_ hpa_ => ?_)); omega)
    | ((with_reducible refine iIaI (by assumption) ?_ ?_ (fun pa_ hpa_ => ?_)); omega; omega)
    | ((with_reducible refine iAdd ?_ ?_); omega)
    | ((with_reducible refine iSub ?_ ?_); omega)
    | with_reducible refine iEq ?_
    | with_reducible refine iNe ?_
    | with_reducible refine iLt ?_
    | with_reducible refine iLe ?_
    | with_reducible refine iNot ?_
    | with_reducible refine iPick ?_
    | with_reducible refine iE20 ?_
    | with_reducible refine iE21 ?_
    | ((with_reducible show xEx _ _ _); refine iEx (by rfl) ?_)
    | with_reducible refine iJn ?_
    | ((with_reducible refine fun (_ : Nat → Value) => ?_); (try simp only [gx, List.getD_cons_zero, List.getD_cons_succ])))
    intro w7 h
    have hX := hX.trans h
    refine iCall ((ok_impl_ModalAlgebra_frame (hs1.ext hX) hm1 hl1 hlt1).mono ?_)
    rintro _ w8 ⟨h, u1, rfl, hu1⟩
    refine ⟨h, ?_⟩
    have hX := hX.trans h
    intro w9 h
    have hX := hX.trans h
    have hu1 := hu1.ext h
    refine iCall ((ok_impl_ModalAlgebra_frame (hs0.ext hX) hm0 hl0 hlt0).mono ?_)
    rintro _ w10 ⟨h, u0, rfl, hu0⟩
    refine ⟨h, ?_⟩
    have hX := hX.trans h
    have hu1 := hu1.ext h
    intro w11 h
    have hX := hX.trans h
    have hu1 := hu1.ext h
    have hu0 := hu0.ext h
    refine iCall ((ok_impl_firstMorphism (algFr_ok a1 (show m1 ≤ 8 by omega)) (algFr_ok a0 (show m0 ≤ 8 by omega)) (onto := true) (one := true) hu1 hu0).mono ?_)
    rintro _ w12 ⟨h, u, rfl, _⟩
    refine ⟨h, ?_⟩
    have hX := hX.trans h
    (repeat first
    | with_reducible refine iFa ?_
    | with_reducible refine iNil ?_
    | with_reducible refine iNilF ?_
    | ((with_reducible show xLd _ _ _); refine iLdB (by assumption) (by first | rfl | simp) ?_)
    | with_reducible refine iLd (by assumption) ?_
    | ((with_reducible refine iLdA (by assumption) ?_ ?_); rfl)
    | with_reducible refine iLenN (by assumption) ?_
    | with_reducible refine iLenI (by assumption) ?_
    | with_reducible refine iLenS (by assumption) ?_
    | with_reducible refine iLenL ?_
    | ((with_reducible refine iIaNN (by assumption) ?_ (fun pa_ hpa_ => ?_)); omega)
    | ((with_reducible refine iIaN (by assumption) ?_ (fun pa_ hpa_ => ?_)); omega)
    | ((with_reducible refine iIaI (by assumption) ?_ ?_ (fun pa_ hpa_ => ?_)); omega; omega)
    | ((with_reducible refine iAdd ?_ ?_); omega)
    | ((with_reducible refine iSub ?_ ?_); omega)
    | with_reducible refine iEq ?_
    | with_reducible refine iNe ?_
    | with_reducible refine iLt ?_
    | with_reducible refine iLe ?_
    | with_reducible refine iNot ?_
    | with_reducible refine iPick ?_
    | with_reducible refine iE20 ?_
    | with_reducible refine iE21 ?_
    | ((with_reducible show xEx _ _ _); refine iEx (by rfl) ?_)
    | with_reducible refine iJn ?_
    | ((with_reducible refine fun (_ : Nat → Value) => ?_); (try simp only [gx, List.getD_cons_zero, List.getD_cons_succ])))
    intro w13 h
    have hX := hX.trans h
    exact ⟨rfl, hX⟩
theorem ok_spec_AreIsomorphicAlgebras {w : World} {v0 v1 : Value} {l0 l1 : List Int} (hs0 : SlI w v0 l0) (hs1 : SlI w v1 l1) (n0 n1 : Int) : Ret Try.prog f_spec_AreIsomorphicAlgebras #[.agg #[.int .i64 n0, v0], .agg #[.int .i64 n1, v1]] w (.tuple #[.bool (algOut n0 l0 n1 l1).1, .int .i64 (algOut n0 l0 n1 l1).2]) := by
  apply c_spec_AreIsomorphicAlgebras; unfold S_spec_AreIsomorphicAlgebras
  have hX := Ext.refl w
  refine iNew fun b2 w1 hb2 h hB2 => ?_
  have hX := hX.trans h
  refine iNew fun b3 w2 hb3 h hB3 => ?_
  have hX := hX.trans h
  have hB2 := hB2.ext h
  refine iJnB (!(algOk n0 l0 && algOk n1 l1)) w2 (fun J hJ => ?_) (fun w4 h => ?_)
  · (repeat first
    | with_reducible refine iFa ?_
    | with_reducible refine iNil ?_
    | with_reducible refine iNilF ?_
    | ((with_reducible show xLd _ _ _); refine iLdB (by assumption) (by first | rfl | simp) ?_)
    | with_reducible refine iLd (by assumption) ?_
    | ((with_reducible refine iLdA (by assumption) ?_ ?_); rfl)
    | with_reducible refine iLenN (by assumption) ?_
    | with_reducible refine iLenI (by assumption) ?_
    | with_reducible refine iLenS (by assumption) ?_
    | with_reducible refine iLenL ?_
    | ((with_reducible refine iIaNN (by assumption) ?_ (fun pa_ hpa_ => ?_)); omega)
    | ((with_reducible refine iIaN (by assumption) ?_ (fun pa_ hpa_ => ?_)); omega)
    | ((with_reducible refine iIaI (by assumption) ?_ ?_ (fun pa_ hpa_ => ?_)); omega; omega)
    | ((with_reducible refine iAdd ?_ ?_); omega)
    | ((with_reducible refine iSub ?_ ?_); omega)
    | with_reducible refine iEq ?_
    | with_reducible refine iNe ?_
    | with_reducible refine iLt ?_
    | with_reducible refine iLe ?_
    | with_reducible refine iNot ?_
    | with_reducible refine iPick ?_
    | with_reducible refine iE20 ?_
    | with_reducible refine iE21 ?_
    | ((with_reducible show xEx _ _ _); refine iEx (by rfl) ?_)
    | with_reducible refine iJn ?_
    | ((with_reducible refine fun (_ : Nat → Value) => ?_); (try simp only [gx, List.getD_cons_zero, List.getD_cons_succ])))
    refine iRet (ok_spec_l15Is (hs0.ext hX) n0) fun w5 h => ?_
    have hB3 := hB3.ext h
    (repeat first
    | with_reducible refine iFa ?_
    | with_reducible refine iNil ?_
    | with_reducible refine iNilF ?_
    | ((with_reducible show xLd _ _ _); refine iLdB (by assumption) (by first | rfl | simp) ?_)
    | with_reducible refine iLd (by assumption) ?_
    | ((with_reducible refine iLdA (by assumption) ?_ ?_); rfl)
    | with_reducible refine iLenN (by assumption) ?_
    | with_reducible refine iLenI (by assumption) ?_
    | with_reducible refine iLenS (by assumption) ?_
    | with_reducible refine iLenL ?_
    | ((with_reducible refine iIaNN (by assumption) ?_ (fun pa_ hpa_ => ?_)); omega)
    | ((with_reducible refine iIaN (by assumption) ?_ (fun pa_ hpa_ => ?_)); omega)
    | ((with_reducible refine iIaI (by assumption) ?_ ?_ (fun pa_ hpa_ => ?_)); omega; omega)
    | ((with_reducible refine iAdd ?_ ?_); omega)
    | ((with_reducible refine iSub ?_ ?_); omega)
    | with_reducible refine iEq ?_
    | with_reducible refine iNe ?_
    | with_reducible refine iLt ?_
    | with_reducible refine iLe ?_
    | with_reducible refine iNot ?_
    | with_reducible refine iPick ?_
    | with_reducible refine iE20 ?_
    | with_reducible refine iE21 ?_
    | ((with_reducible show xEx _ _ _); refine iEx (by rfl) ?_)
    | with_reducible refine iJn ?_
    | ((with_reducible refine fun (_ : Nat → Value) => ?_); (try simp only [gx, List.getD_cons_zero, List.getD_cons_succ])))
    cases h0 : algOk n0 l0
    · refine iCndT rfl ?_
      have := hJ w5 h
      rwa [h0] at this
    · refine iCndF rfl ?_
      (repeat first
    | with_reducible refine iFa ?_
    | with_reducible refine iNil ?_
    | with_reducible refine iNilF ?_
    | ((with_reducible show xLd _ _ _); refine iLdB (by assumption) (by first | rfl | simp) ?_)
    | with_reducible refine iLd (by assumption) ?_
    | ((with_reducible refine iLdA (by assumption) ?_ ?_); rfl)
    | with_reducible refine iLenN (by assumption) ?_
    | with_reducible refine iLenI (by assumption) ?_
    | with_reducible refine iLenS (by assumption) ?_
    | with_reducible refine iLenL ?_
    | ((with_reducible refine iIaNN (by assumption) ?_ (fun pa_ hpa_ => ?_)); omega)
    | ((with_reducible refine iIaN (by assumption) ?_ (fun pa_ hpa_ => ?_)); omega)
    | ((with_reducible refine iIaI (by assumption) ?_ ?_ (fun pa_ hpa_ => ?_)); omega; omega)
    | ((with_reducible refine iAdd ?_ ?_); omega)
    | ((with_reducible refine iSub ?_ ?_); omega)
    | with_reducible refine iEq ?_
    | with_reducible refine iNe ?_
    | with_reducible refine iLt ?_
    | with_reducible refine iLe ?_
    | with_reducible refine iNot ?_
    | with_reducible refine iPick ?_
    | with_reducible refine iE20 ?_
    | with_reducible refine iE21 ?_
    | ((with_reducible show xEx _ _ _); refine iEx (by rfl) ?_)
    | with_reducible refine iJn ?_
    | ((with_reducible refine fun (_ : Nat → Value) => ?_); (try simp only [gx, List.getD_cons_zero, List.getD_cons_succ])))
      refine iRet (ok_spec_l15Is (hs1.ext (hX.trans h)) n1) fun w6 h6 => ?_
      (repeat first
    | with_reducible refine iFa ?_
    | with_reducible refine iNil ?_
    | with_reducible refine iNilF ?_
    | ((with_reducible show xLd _ _ _); refine iLdB (by assumption) (by first | rfl | simp) ?_)
    | with_reducible refine iLd (by assumption) ?_
    | ((with_reducible refine iLdA (by assumption) ?_ ?_); rfl)
    | with_reducible refine iLenN (by assumption) ?_
    | with_reducible refine iLenI (by assumption) ?_
    | with_reducible refine iLenS (by assumption) ?_
    | with_reducible refine iLenL ?_
    | ((with_reducible refine iIaNN (by assumption) ?_ (fun pa_ hpa_ => ?_)); omega)
    | ((with_reducible refine iIaN (by assumption) ?_ (fun pa_ hpa_ => ?_)); omega)
    | ((with_reducible refine iIaI (by assumption) ?_ ?_ (fun pa_ hpa_ => ?_)); omega; omega)
    | ((with_reducible refine iAdd ?_ ?_); omega)
    | ((with_reducible refine iSub ?_ ?_); omega)
    | with_reducible refine iEq ?_
    | with_reducible refine iNe ?_
    | with_reducible refine iLt ?_
    | with_reducible refine iLe ?_
    | with_reducible refine iNot ?_
    | with_reducible refine iPick ?_
    | with_reducible refine iE20 ?_
    | with_reducible refine iE21 ?_
    | ((with_reducible show xEx _ _ _); refine iEx (by rfl) ?_)
    | with_reducible refine iJn ?_
    | ((with_reducible refine fun (_ : Nat → Value) => ?_); (try simp only [gx, List.getD_cons_zero, List.getD_cons_succ])))
      have := hJ w6 (h.trans h6)
      rwa [h0, Bool.true_and] at this
  have hX := hX.trans h
  have hB2 := hB2.ext h
  have hB3 := hB3.ext h
  (repeat first
    | with_reducible refine iFa ?_
    | with_reducible refine iNil ?_
    | with_reducible refine iNilF ?_
    | ((with_reducible show xLd _ _ _); refine iLdB (by assumption) (by first | rfl | simp) ?_)
    | with_reducible refine iLd (by assumption) ?_
    | ((with_reducible refine iLdA (by assumption) ?_ ?_); rfl)
    | with_reducible refine iLenN (by assumption) ?_
    | with_reducible refine iLenI (by assumption) ?_
    | with_reducible refine iLenS (by assumption) ?_
    | with_reducible refine iLenL ?_
    | ((with_reducible refine iIaNN (by assumption) ?_ (fun pa_ hpa_ => ?_)); omega)
    | ((with_reducible refine iIaN (by assumption) ?_ (fun pa_ hpa_ => ?_)); omega)
    | ((with_reducible refine iIaI (by assumption) ?_ ?_ (fun pa_ hpa_ => ?_)); omega; omega)
    | ((with_reducible refine iAdd ?_ ?_); omega)
    | ((with_reducible refine iSub ?_ ?_); omega)
    | with_reducible refine iEq ?_
    | with_reducible refine iNe ?_
    | with_reducible refine iLt ?_
    | with_reducible refine iLe ?_
    | with_reducible refine iNot ?_
    | with_reducible refine iPick ?_
    | with_reducible refine iE20 ?_
    | with_reducible refine iE21 ?_
    | ((with_reducible show xEx _ _ _); refine iEx (by rfl) ?_)
    | with_reducible refine iJn ?_
    | ((with_reducible refine fun (_ : Nat → Value) => ?_); (try simp only [gx, List.getD_cons_zero, List.getD_cons_succ])))
  unfold algOut
  cases hfr : algOk n0 l0 && algOk n1 l1
  · refine iCndT rfl ?_
    exact ⟨rfl, hX⟩
  · refine iCndF rfl ?_
    rw [Bool.and_eq_true] at hfr
    obtain ⟨m0, a0, rfl, rfl, hm0, hl0, hlt0, e1, e2⟩ := algOk_of hfr.1
    obtain ⟨m1, a1, rfl, rfl, hm1, hl1, hlt1, e3, e4⟩ := algOk_of hfr.2
    rw [e1, e2, e3, e4]
    (repeat first
    | with_reducible refine iFa ?_
    | with_reducible refine iNil ?_
    | with_reducible refine iNilF ?_
    | ((with_reducible show xLd _ _ _); refine iLdB (by assumption) (by first | rfl | simp) ?_)
    | with_reducible refine iLd (by assumption) ?_
    | ((with_reducible refine iLdA (by assumption) ?_ ?_); rfl)
    | with_reducible refine iLenN (by assumption) ?_
    | with_reducible refine iLenI (by assumption) ?_
    | with_reducible refine iLenS (by assumption) ?_
    | with_reducible refine iLenL ?_
    | ((with_reducible refine iIaNN (by assumption) ?_ (fun pa_ hpa_ => ?_)); omega)
    | ((with_reducible refine iIaN (by assumption) ?_ (fun pa_ hpa_ => ?_)); omega)
    | ((with_reducible refine iIaI (by assumption) ?_ ?_ (fun pa_ hpa_ => ?_)); omega; omega)
    | ((with_reducible refine iAdd ?_ ?_); omega)
    | ((with_reducible refine iSub ?_ ?_); omega)
    | with_reducible refine iEq ?_
    | with_reducible refine iNe ?_
    | with_reducible refine iLt ?_
    | with_reducible refine iLe ?_
    | with_reducible refine iNot ?_
    | with_reducible refine iPick ?_
    | with_reducible refine iE20 ?_
    | with_reducible refine iE21 ?_
    | ((with_reducible show xEx _ _ _); refine iEx (by rfl) ?_)
    | with_reducible refine iJn ?_
    | ((with_reducible refine fun (_ : Nat → Value) => ?_); (try simp only [gx, List.getD_cons_zero, List.getD_cons_succ])))
    intro w7 h
    have hX := hX.trans h
    refine iCall ((ok_spec_l15Frame (hs1.ext hX) hm1 hl1 hlt1).mono ?_)
    rintro _ w8 ⟨h, u1, rfl, hu1⟩
    refine ⟨h, ?_⟩
    have hX := hX.trans h
    intro w9 h
    have hX := hX.trans h
    have hu1 := hu1.ext h
    refine iCall ((ok_spec_l15Frame (hs0.ext hX) hm0 hl0 hlt0).mono ?_)
    rintro _ w10 ⟨h, u0, rfl, hu0⟩
    refine ⟨h, ?_⟩
    have hX := hX.trans h
    have hu1 := hu1.ext h
    intro w11 h
    have hX := hX.trans h
    have hu1 := hu1.ext h
    have hu0 := hu0.ext h
    refine iCall ((ok_spec_l08Find (algFr_ok a1 (show m1 ≤ 8 by omega)) (algFr_ok a0 (show m0 ≤ 8 by omega)) (onto := true) (one := true) hu1 hu0 (most := 1) (by omega) (by omega)).mono ?_)
    rintro u w12 ⟨h, vs, ho, hol⟩
    refine ⟨h, ?_⟩
    have hX := hX.trans h
    rw [ref_eq (algFr_ok a1 (show m1 ≤ 8 by omega)) (algFr_ok a0 (show m0 ≤ 8 by omega)) (fun h => h)] at hol
    have hvl := hol.1
    rw [List.length_map] at hvl
    have hsl := ho.sl
    (repeat first
    | with_reducible refine iFa ?_
    | with_reducible refine iNil ?_
    | with_reducible refine iNilF ?_
    | ((with_reducible show xLd _ _ _); refine iLdB (by assumption) (by first | rfl | simp) ?_)
    | with_reducible refine iLd (by assumption) ?_
    | ((with_reducible refine iLdA (by assumption) ?_ ?_); rfl)
    | with_reducible refine iLenN (by assumption) ?_
    | with_reducible refine iLenI (by assumption) ?_
    | with_reducible refine iLenS (by assumption) ?_
    | with_reducible refine iLenL ?_
    | ((with_reducible refine iIaNN (by assumption) ?_ (fun pa_ hpa_ => ?_)); omega)
    | ((with_reducible refine iIaN (by assumption) ?_ (fun pa_ hpa_ => ?_)); omega)
    | ((with_reducible refine iIaI (by assumption) ?_ ?_ (fun pa_ hpa_ => ?_)); omega; omega)
    | ((with_reducible refine iAdd ?_ ?_); omega)
    | ((with_reducible refine iSub ?_ ?_); omega)
    | with_reducible refine iEq ?_
    | with_reducible refine iNe ?_
    | with_reducible refine iLt ?_
    | with_reducible refine iLe ?_
    | with_reducible refine iNot ?_
    | with_reducible refine iPick ?_
    | with_reducible refine iE20 ?_
    | with_reducible refine iE21 ?_
    | ((with_reducible show xEx _ _ _); refine iEx (by rfl) ?_)
    | with_reducible refine iJn ?_
    | ((with_reducible refine fun (_ : Nat → Value) => ?_); (try simp only [gx, List.getD_cons_zero, List.getD_cons_succ])))
    intro w13 h
    have hX := hX.trans h
    refine ⟨?_, hX⟩
    have e5 : decide ((0 : Int) < (vs.length : Int)) = !(leaves (fitsB (algFr m1 a1) (algFr m0 a0) true true) m0 m1 []).isEmpty := by
      rw [hvl]
      show decide ((0 : Int) < (((leaves (fitsB (algFr m1 a1) (algFr m0 a0) true true) m0 m1 []).take 1).length : Int)) = _
      cases leaves (fitsB (algFr m1 a1) (algFr m0 a0) true true) m0 m1 [] <;> simp
    rw [e5]; rfl
end Go.Proofs.Ytgbnmihpjlbfgaa
