/- Contracts of the functions on modal algebras. Conditions: none. -/
import Derived.Test.YtoolpnkcmlebkaaGreatC12
import Derived.Test.YtoolpnkcmlebkaaGreatLw3
namespace Go.Vc
/-- What is asked of the operation of an algebra. -/
def pairB (a : List Nat) (x y : Nat) : Bool := decide (a.getD (x &&& y) 0 = a.getD x 0 &&& a.getD y 0)
def algIn (a : List Nat) : Bool := decide (a.getD (a.length - 1) 0 = a.length - 1) && (List.range a.length).all fun x => (List.range x).all fun y => pairB a x y
/-- The worlds that a world sees, up to v. -/
def algMask (a : List Nat) (n w v : Nat) : Nat := setOf ((List.range v).filter fun u => !(a.getD (2 ^ n - 1 - 2 ^ u) 0).testBit w)
theorem algMask_succ (a : List Nat) (n w v : Nat) : algMask a n w (v + 1) = if (a.getD (2 ^ n - 1 - 2 ^ v) 0).testBit w then algMask a n w v else algMask a n w v ||| 2 ^ v := by
  unfold algMask
  rw [List.range_succ, List.filter_append]
  cases h : (a.getD (2 ^ n - 1 - 2 ^ v) 0).testBit w
  · simp only [List.filter_cons, List.filter_nil, h, Bool.not_false, if_true]
    rw [setOf_snoc]; simp
  · simp only [List.filter_cons, List.filter_nil, h, Bool.not_true, if_true]
    simp
theorem algMask_lt (a : List Nat) (n w v : Nat) : algMask a n w v < 2 ^ v := setOf_lt fun _ hy => List.mem_range.1 (List.mem_filter.1 hy).1
def algFr (n : Nat) (a : List Nat) : Fr := ⟨n, (List.range n).map fun w => algMask a n w n⟩
theorem algFr_ok {n : Nat} (a : List Nat) (hn : n ≤ 8) : (algFr n a).ok := ⟨hn, by simp [algFr], fun x hx => by
  obtain ⟨w, _, rfl⟩ := List.mem_map.1 hx
  exact algMask_lt _ _ _ _⟩
theorem and_le_lt {x y m : Nat} (hx : x < m) : x &&& y < m := Nat.lt_of_le_of_lt Nat.and_le_left hx
theorem two_pow_add_le {u n : Nat} (h : u < n) : 2 ^ u ≤ 2 ^ n - 1 := by
  have := Nat.pow_lt_pow_right (a := 2) (by omega) h
  omega
theorem sdiff_full {u n : Nat} (h : u < n) : sdiff (2 ^ n - 1) (2 ^ u) = 2 ^ n - 1 - 2 ^ u := by
  apply Nat.eq_of_testBit_eq
  intro i
  rw [testBit_sdiff, full_testBit, show 2 ^ n - 1 - 2 ^ u = 2 ^ n - (2 ^ u + 1) by omega, Nat.testBit_two_pow_sub_succ (Nat.pow_lt_pow_right (by omega) h)]
end Go.Vc
namespace Go.Proofs.YtoolpnkcmlebkaaGreat
open Go.Vc
def algOk (n : Int) (l : List Int) : Bool := decide (0 ≤ n ∧ n ≤ 5) && (decide ((l.length : Int) = ((2 ^ n.toNat : Nat) : Int)) && (l.all (maskB n.toNat) && algIn (l.map Int.toNat)))
theorem masks_nats {m : Nat} {l : List Int} (h : l.all (maskB m) = true) : l = nats (l.map Int.toNat) ∧ ∀ x ∈ l.map Int.toNat, x < 2 ^ m := by
  rw [List.all_eq_true] at h
  have hx : ∀ x ∈ l, 0 ≤ x ∧ x ≤ ((2 ^ m - 1 : Nat) : Int) := fun x hx => by
    have := h x hx
    unfold maskB at this
    simpa using this
  refine ⟨?_, ?_⟩
  · show l = (l.map Int.toNat).map Int.ofNat
    rw [List.map_map]
    conv => lhs; rw [← List.map_id l]
    refine List.map_congr_left fun x h4 => ?_
    have := hx x h4
    simp only [id, Function.comp, Int.ofNat_eq_natCast]
    omega
  · intro y hy
    obtain ⟨x, h4, rfl⟩ := List.mem_map.1 hy
    have := hx x h4
    have hp := Nat.two_pow_pos m
    omega
theorem getD_lt_all {a : List Nat} {m : Nat} (h : ∀ x ∈ a, x < m) (hm : 0 < m) (i : Nat) : a.getD i 0 < m := by
  by_cases hi : i < a.length
  · exact getD_lt h hi
  · simp [List.getD_eq_getElem?_getD, List.getElem?_eq_none (Nat.le_of_not_lt hi)]; exact hm
theorem ok_impl_frameOf {lo : Nat} {v : Value} {w : World} {l : List Int} (hs : Ow lo t_i64 w v (ints l)) : Cal Tryz.prog f_impl_frameOf #[v] w fun r w' => Ext w w' ∧ ∃ v', r = .agg #[.int .i64 (l.length : Int), v'] ∧ Ow lo t_i64 w' v' (ints l) := by
  apply c_impl_frameOf; unfold S_impl_frameOf
  have hX := Ext.refl w
  refine iNew fun b w1 hb h hB => ?_
  have hlb : w.heap.size ≤ b := by have := hX.size; omega
  have hob : v.ownBlock ≠ some b := hs.lt (by omega)
  have hX := hX.trans h
  have hs := hs.ext h
  refine iRet (ok_impl_size_i64 hs.sl) fun w2 h => ?_
  rw [ints_length]
  have hX := hX.trans h
  have hB := hB.ext h
  have hs := hs.ext h
  obtain ⟨va, vn, vc, rfl⟩ := hs.shape
  refine iBuild (cs := #[.int .i64 (l.length : Int), .slice va vn vc]) (by simp [Instr.fill, Value.cells]) ?_
  refine iStAB hB rfl rfl (hs.pair _) fun w3 hu hB => ?_
  have hX := hX.upd hu hlb
  have ho := hs.upd hu hob
  (repeat first
    | (with_reducible first | refine iFa ?_ | refine iNil ?_ | refine iNilF ?_ | refine iLd (by assumption) ?_ | refine iLenN (by assumption) ?_ | refine iLenI (by assumption) ?_ | refine iLenS (by assumption) ?_ | refine iLenL ?_ | refine iEq ?_ | refine iNe ?_ | refine iLt ?_ | refine iLe ?_ | refine iNot ?_ | refine iPick ?_ | refine iE20 ?_ | refine iE21 ?_ | refine iE30 ?_ | refine iE31 ?_ | refine iE32 ?_ | refine iJn ?_)
    | ((with_reducible show xLd _ _ _); refine iLdB (by assumption) (by first | rfl | simp) ?_) | ((with_reducible refine iLdA (by assumption) ?_ ?_); rfl)
    | ((with_reducible refine iIaNN (by assumption) ?_ (fun pa_ hpa_ => ?_)); omega) | ((with_reducible refine iIaN (by assumption) ?_ (fun pa_ hpa_ => ?_)); omega)
    | ((with_reducible refine iIaI (by assumption) ?_ ?_ (fun pa_ hpa_ => ?_)); omega; omega) | ((with_reducible refine iAdd ?_ ?_); omega) | ((with_reducible refine iSub ?_ ?_); omega)
    | ((with_reducible show xEx _ _ _); refine iEx (by rfl) ?_) | ((with_reducible refine fun (_ : Nat → Value) => ?_); (try simp only [gx])))
  exact ⟨hX, _, rfl, ho⟩
end Go.Proofs.YtoolpnkcmlebkaaGreat
