/- Contracts: the properties that make a frame a poset, in the program. Conditions: none. -/
import Derived.Test.YtoolpnkcmlebkaaGreatC17
import Derived.Test.YtoolpnkcmlebkaaGreatC15
namespace Go.Vc
/-- Who sees y, among the first k. -/
def invC (a : List Nat) (k y : Nat) : Nat := setOf ((List.range k).filter fun x => (a.getD x 0).testBit y)
theorem invC_succ (a : List Nat) (k y : Nat) : invC a (k + 1) y = if (a.getD k 0).testBit y then invC a k y ||| 2 ^ k else invC a k y := by
  unfold invC
  rw [List.range_succ, List.filter_append]
  cases h : (a.getD k 0).testBit y
  · simp only [List.filter_cons, List.filter_nil, h]
    simp
  · simp only [List.filter_cons, List.filter_nil, h, if_true]
    rw [setOf_snoc]
theorem invC_lt (a : List Nat) (k y : Nat) : invC a k y < 2 ^ k := setOf_lt fun _ hz => List.mem_range.1 (List.mem_filter.1 hz).1
theorem invC_bit (a : List Nat) (k y x : Nat) : (invC a k y).testBit x = (decide (x < k) && (a.getD x 0).testBit y) := by
  unfold invC
  rw [setOf_testBit, Bool.eq_iff_iff, List.contains_iff_mem, List.mem_filter, List.mem_range]
  simp
def invL (a : List Nat) (n k : Nat) (ms : List Nat) (j : Nat) : List Nat := (List.range n).map fun y => if (ms.take j).contains y then invC a k y ||| 2 ^ k else invC a k y
def inv (f : Fr) : List Nat := (List.range f.n).map fun y => invC f.a f.n y
theorem invL_zero (a : List Nat) (n k : Nat) (ms : List Nat) : invL a n k ms 0 = (List.range n).map fun y => invC a k y := by simp [invL]
theorem invL_full (a : List Nat) (n k : Nat) (hk : a.getD k 0 < 2 ^ 63) : invL a n k (mem (a.getD k 0)) (mem (a.getD k 0)).length = (List.range n).map fun y => invC a (k + 1) y := by
  unfold invL
  refine List.map_congr_left fun y _ => ?_
  rw [List.take_length, invC_succ]
  have : (mem (a.getD k 0)).contains y = (a.getD k 0).testBit y := by
    rw [Bool.eq_iff_iff, List.contains_iff_mem, mem_mem hk]
  rw [this]
theorem invL_length (a : List Nat) (n k : Nat) (ms : List Nat) (j : Nat) : (invL a n k ms j).length = n := by simp [invL]
theorem invL_step (a : List Nat) (n k : Nat) (ms : List Nat) (j : Nat) (hj : j < ms.length) : (invL a n k ms j).set ms[j] ((invL a n k ms j).getD ms[j] 0 ||| 2 ^ k) = invL a n k ms (j + 1) := by
  apply List.ext_getElem
  · simp [invL]
  · intro i h1 h2
    have hi : i < n := by simpa [invL] using h2
    rw [List.getElem_set]
    have ht : ms.take (j + 1) = ms.take j ++ [ms[j]] := List.take_succ_eq_append_getElem hj
    split
    · rename_i h
      rw [h]
      have e1 : (invL a n k ms j).getD i 0 = if (ms.take j).contains i then invC a k i ||| 2 ^ k else invC a k i := by simp [invL, hi]
      have e2 : (invL a n k ms (j + 1))[i] = invC a k i ||| 2 ^ k := by
        have hc : (ms.take (j + 1)).contains i = true := by rw [List.contains_iff_mem, ht, h]; simp
        simp only [invL, List.getElem_map, List.getElem_range]
        rw [if_pos hc]
      rw [e1, e2]
      split
      · rw [Nat.or_assoc, Nat.or_self]
      · rfl
    · rename_i h
      simp only [invL, List.getElem_map, List.getElem_range]
      have hc : (ms.take (j + 1)).contains i = (ms.take j).contains i := by
        rw [Bool.eq_iff_iff, List.contains_iff_mem, List.contains_iff_mem]
        have hm : i ∈ ms.take (j + 1) ↔ i ∈ ms.take j ++ [ms[j]] := by rw [← ht]
        rw [hm, List.mem_append, List.mem_singleton]
        exact ⟨fun h' => h'.resolve_right fun e => h e.symm, .inl⟩
      rw [hc]
theorem inv_get (f : Fr) (x : Nat) (hx : x < f.n) : (inv f).getD x 0 = invC f.a f.n x := by simp [inv, hx]
/-- Warshall's steps. -/
def wStep (k : Nat) (c : List Nat) (i : Nat) : List Nat := if (c.getD i 0).testBit k then c.set i (c.getD i 0 ||| c.getD k 0) else c
def wRow (c : List Nat) (k j : Nat) : List Nat := (List.range j).foldl (wStep k) c
def wAll (a : List Nat) (k : Nat) : List Nat := (List.range k).foldl (fun c k => wRow c k c.length) a
theorem wStep_length (k : Nat) (c : List Nat) (i : Nat) : (wStep k c i).length = c.length := by
  unfold wStep; split <;> simp
theorem wRow_succ (c : List Nat) (k j : Nat) : wRow c k (j + 1) = wStep k (wRow c k j) j := by
  unfold wRow; rw [List.range_succ, List.foldl_append]; rfl
theorem wRow_length (c : List Nat) (k j : Nat) : (wRow c k j).length = c.length := by
  induction j with
  | zero => rfl
  | succ j ih => rw [wRow_succ, wStep_length, ih]
theorem wAll_succ (a : List Nat) (k : Nat) : wAll a (k + 1) = wRow (wAll a k) k (wAll a k).length := by
  unfold wAll; rw [List.range_succ, List.foldl_append]; rfl
theorem wAll_length (a : List Nat) (k : Nat) : (wAll a k).length = a.length := by
  induction k with
  | zero => rfl
  | succ k ih => rw [wAll_succ, wRow_length, ih]
def subL (c d : List Nat) : Prop := ∀ i j, (c.getD i 0).testBit j = true → (d.getD i 0).testBit j = true
theorem wStep_get (k : Nat) (c : List Nat) (i l : Nat) (hi : i < c.length) : (wStep k c i).getD l 0 = if l = i ∧ (c.getD i 0).testBit k = true then c.getD i 0 ||| c.getD k 0 else c.getD l 0 := by
  unfold wStep
  by_cases hb : (c.getD i 0).testBit k = true
  · rw [if_pos hb]
    by_cases hl : l = i
    · subst hl; rw [if_pos ⟨rfl, hb⟩]; simp [List.getD_eq_getElem?_getD, hi]
    · rw [if_neg (fun h => hl h.1)]; simp [List.getD_eq_getElem?_getD, List.getElem?_set_ne (fun h => hl h.symm)]
  · rw [if_neg hb, if_neg (fun h => hb h.2)]
theorem wStep_sub (k : Nat) (c : List Nat) (i : Nat) (hi : i < c.length) : subL c (wStep k c i) := by
  intro l j h
  rw [wStep_get k c i l hi]
  split
  · rename_i h1
    obtain ⟨rfl, _⟩ := h1
    rw [Nat.testBit_or, h]; rfl
  · exact h
theorem subL.trans {a b c : List Nat} (h : subL a b) (k : subL b c) : subL a c := fun i j hb => k i j (h i j hb)
theorem wRow_sub (c : List Nat) (k : Nat) : ∀ j, j ≤ c.length → subL c (wRow c k j)
  | 0, _ => fun _ _ h => h
  | j + 1, hj => by
    rw [wRow_succ]
    exact (wRow_sub c k j (by omega)).trans (wStep_sub k _ j (by rw [wRow_length]; omega))
theorem wAll_sub (a : List Nat) : ∀ k, subL a (wAll a k)
  | 0 => fun _ _ h => h
  | k + 1 => by
    rw [wAll_succ]
    exact (wAll_sub a k).trans (wRow_sub _ k _ (Nat.le_refl _))
/-- A transitive relation stays as it is. -/
theorem wAll_same {a : List Nat} (h : ∀ x y z, (a.getD x 0).testBit y = true → (a.getD y 0).testBit z = true → (a.getD x 0).testBit z = true) : ∀ k, wAll a k = a
  | 0 => rfl
  | k + 1 => by
    rw [wAll_succ, wAll_same h k]
    have key : ∀ j, j ≤ a.length → wRow a k j = a := by
      intro j
      induction j with
      | zero => intro _; rfl
      | succ j ih =>
        intro hj
        rw [wRow_succ, ih (by omega)]
        unfold wStep
        split
        · rename_i hb
          have hor : a.getD j 0 ||| a.getD k 0 = a.getD j 0 := by
            apply Nat.eq_of_testBit_eq
            intro z
            rw [Nat.testBit_or]
            cases hz : (a.getD j 0).testBit z
            · cases hz2 : (a.getD k 0).testBit z
              · rfl
              · rw [h j k z hb hz2] at hz; cases hz
            · rfl
          rw [hor]
          apply List.ext_getElem
          · simp
          · intro i h1 h2
            rw [List.getElem_set]
            split
            · rename_i e; subst e; simp [List.getD_eq_getElem?_getD, h2]
            · rfl
        · rfl
    exact key _ (Nat.le_refl _)
/-- What the steps leave as it is is transitive. -/
theorem wAll_trans {a : List Nat} {n : Nat} (hn : a.length = n) (he : wAll a n = a) : ∀ x y z, x < n → y < n → (a.getD x 0).testBit y = true → (a.getD y 0).testBit z = true → (a.getD x 0).testBit z = true := by
  intro x y z hx hy h1 h2
  -- behind step (y, x) the row of x has that of y
  have hA := wAll_sub a y
  have hrow := wRow_sub (wAll a y) y x (by rw [wAll_length]; omega)
  have hle : ∀ k d, subL (wAll a k) (wAll a (k + d)) := by
    intro k d
    induction d with
    | zero => exact fun _ _ h => h
    | succ d ih => exact ih.trans (by rw [← Nat.add_assoc, wAll_succ]; exact wRow_sub _ _ _ (Nat.le_refl _))
  have hmono : ∀ c k j d, j + d ≤ c.length → subL (wRow c k j) (wRow c k (j + d)) := by
    intro c k j d
    induction d with
    | zero => exact fun _ _ _ h => h
    | succ d ih =>
      intro hd
      refine (ih (by omega)).trans ?_
      rw [← Nat.add_assoc, wRow_succ]
      exact wStep_sub k _ _ (by rw [wRow_length]; omega)
  have hstep : ((wRow (wAll a y) y (x + 1)).getD x 0).testBit z = true := by
    rw [wRow_succ, wStep_get _ _ _ _ (by rw [wRow_length, wAll_length]; omega), if_pos ⟨rfl, hrow _ _ (hA _ _ h1)⟩, Nat.testBit_or, hrow _ _ (hA _ _ h2), Bool.or_true]
  have h3 : ((wAll a (y + 1)).getD x 0).testBit z = true := by
    rw [wAll_succ, wAll_length]
    have := hmono (wAll a y) y (x + 1) (a.length - (x + 1)) (by rw [wAll_length]; omega) _ _ hstep
    rwa [show x + 1 + (a.length - (x + 1)) = a.length by omega] at this
  have h4 := hle (y + 1) (n - (y + 1)) _ _ h3
  rw [show y + 1 + (n - (y + 1)) = n by omega, he] at h4
  exact h4
end Go.Vc
namespace Go.Proofs.YtoolpnkcmlebkaaGreat
open Go.Vc
theorem getD_of_lt {l : List Nat} {j : Nat} (h : j < l.length) : l.getD j 0 = l[j] := by simp [List.getD_eq_getElem?_getD, h]
theorem invL_getD (a : List Nat) (n k : Nat) (ms : List Nat) (j y : Nat) (hy : y < n) : (invL a n k ms j).getD y 0 = if (ms.take j).contains y then invC a k y ||| 2 ^ k else invC a k y := by simp [invL, hy]
theorem ints_nats_set (l : List Nat) (y x : Nat) : ints (nats (l.set y x)) = (ints (nats l)).set y (.int .i64 (x : Int)) := by simp [ints, nats, List.map_set]
theorem ints_nats_get (l : List Nat) (y : Nat) (h : y < l.length) : (ints (nats l))[y]? = some (.int .i64 ((l.getD y 0 : Nat) : Int)) := by
  simp [ints, nats, List.getD_eq_getElem?_getD, h]
theorem ok_impl_inverse {f : Fr} (hf : f.ok) {v : Value} {w : World} (hs : SlN w v f.a) : Cal Tryz.prog f_impl_inverse #[v] w fun r w' => Ext w w' ∧ Ow w.heap.size t_i64 w' r (ints (nats (inv f))) := by
  have hf8 := hf.1
  have hfl := hf.2.1
  have hs0 := hs
  apply c_impl_inverse; unfold S_impl_inverse
  have hX := Ext.refl w
  (repeat first
    | (with_reducible first | refine iFa ?_ | refine iNil ?_ | refine iNilF ?_ | refine iLd (by assumption) ?_ | refine iLenN (by assumption) ?_ | refine iLenI (by assumption) ?_ | refine iLenS (by assumption) ?_ | refine iLenL ?_ | refine iEq ?_ | refine iNe ?_ | refine iLt ?_ | refine iLe ?_ | refine iNot ?_ | refine iPick ?_ | refine iE20 ?_ | refine iE21 ?_ | refine iE30 ?_ | refine iE31 ?_ | refine iE32 ?_ | refine iJn ?_)
    | ((with_reducible show xLd _ _ _); refine iLdB (by assumption) (by first | rfl | simp) ?_) | ((with_reducible refine iLdA (by assumption) ?_ ?_); rfl)
    | ((with_reducible refine iIaNN (by assumption) ?_ (fun pa_ hpa_ => ?_)); omega) | ((with_reducible refine iIaN (by assumption) ?_ (fun pa_ hpa_ => ?_)); omega)
    | ((with_reducible refine iIaI (by assumption) ?_ ?_ (fun pa_ hpa_ => ?_)); omega; omega) | ((with_reducible refine iAdd ?_ ?_); omega) | ((with_reducible refine iSub ?_ ?_); omega)
    | ((with_reducible show xEx _ _ _); refine iEx (by rfl) ?_) | ((with_reducible refine fun (_ : Nat → Value) => ?_); (try simp only [gx])))
  refine iMk (n := f.a.length) (by omega) (by omega) rfl fun c w1 hc h hC => ?_
  have hlc : w.heap.size ≤ c := by omega
  have hcl : c < w1.heap.size := hC.lt
  have hX := hX.trans h
  have hs := hs.ext h
  (repeat first
    | (with_reducible first | refine iFa ?_ | refine iNil ?_ | refine iNilF ?_ | refine iLd (by assumption) ?_ | refine iLenN (by assumption) ?_ | refine iLenI (by assumption) ?_ | refine iLenS (by assumption) ?_ | refine iLenL ?_ | refine iEq ?_ | refine iNe ?_ | refine iLt ?_ | refine iLe ?_ | refine iNot ?_ | refine iPick ?_ | refine iE20 ?_ | refine iE21 ?_ | refine iE30 ?_ | refine iE31 ?_ | refine iE32 ?_ | refine iJn ?_)
    | ((with_reducible show xLd _ _ _); refine iLdB (by assumption) (by first | rfl | simp) ?_) | ((with_reducible refine iLdA (by assumption) ?_ ?_); rfl)
    | ((with_reducible refine iIaNN (by assumption) ?_ (fun pa_ hpa_ => ?_)); omega) | ((with_reducible refine iIaN (by assumption) ?_ (fun pa_ hpa_ => ?_)); omega)
    | ((with_reducible refine iIaI (by assumption) ?_ ?_ (fun pa_ hpa_ => ?_)); omega; omega) | ((with_reducible refine iAdd ?_ ?_); omega) | ((with_reducible refine iSub ?_ ?_); omega)
    | ((with_reducible show xEx _ _ _); refine iEx (by rfl) ?_) | ((with_reducible refine fun (_ : Nat → Value) => ?_); (try simp only [gx])))
  have hrow0 : List.replicate f.a.length (Value.int .i64 0) = ints (nats ((List.range f.n).map fun y => invC f.a 0 y)) := by
    apply List.ext_getElem
    · simp [ints, nats, hfl]
    · intro i h1 h2
      simp [ints, nats, invC, setOf]
  rw [hrow0] at hC
  refine iLp (fun k : Nat => [.int .i64 (k : Int)]) (fun k w' => k ≤ f.n ∧ Ext w w' ∧ Blk t_i64 w' c (ints (nats ((List.range f.n).map fun y => invC f.a k y)))) (fun k => f.n - k) 0 rfl ⟨Nat.zero_le _, hX, hC⟩ ?_
  rintro k w3 Kn ⟨hk, hX, hC⟩ hKn
  have hs := hs0.ext hX
  (repeat first
    | (with_reducible first | refine iFa ?_ | refine iNil ?_ | refine iNilF ?_ | refine iLd (by assumption) ?_ | refine iLenN (by assumption) ?_ | refine iLenI (by assumption) ?_ | refine iLenS (by assumption) ?_ | refine iLenL ?_ | refine iEq ?_ | refine iNe ?_ | refine iLt ?_ | refine iLe ?_ | refine iNot ?_ | refine iPick ?_ | refine iE20 ?_ | refine iE21 ?_ | refine iE30 ?_ | refine iE31 ?_ | refine iE32 ?_ | refine iJn ?_)
    | ((with_reducible show xLd _ _ _); refine iLdB (by assumption) (by first | rfl | simp) ?_) | ((with_reducible refine iLdA (by assumption) ?_ ?_); rfl)
    | ((with_reducible refine iIaNN (by assumption) ?_ (fun pa_ hpa_ => ?_)); omega) | ((with_reducible refine iIaN (by assumption) ?_ (fun pa_ hpa_ => ?_)); omega)
    | ((with_reducible refine iIaI (by assumption) ?_ ?_ (fun pa_ hpa_ => ?_)); omega; omega) | ((with_reducible refine iAdd ?_ ?_); omega) | ((with_reducible refine iSub ?_ ?_); omega)
    | ((with_reducible show xEx _ _ _); refine iEx (by rfl) ?_) | ((with_reducible refine fun (_ : Nat → Value) => ?_); (try simp only [gx])))
  refine iCndP (fun h4 => ?_) (fun h4 => ?_)
  · have hk1 : k < f.n := by omega
    have hgk := fr_lt63 hf k
    have hgk2 := hf.lt hk1
    (repeat first
    | (with_reducible first | refine iFa ?_ | refine iNil ?_ | refine iNilF ?_ | refine iLd (by assumption) ?_ | refine iLenN (by assumption) ?_ | refine iLenI (by assumption) ?_ | refine iLenS (by assumption) ?_ | refine iLenL ?_ | refine iEq ?_ | refine iNe ?_ | refine iLt ?_ | refine iLe ?_ | refine iNot ?_ | refine iPick ?_ | refine iE20 ?_ | refine iE21 ?_ | refine iE30 ?_ | refine iE31 ?_ | refine iE32 ?_ | refine iJn ?_)
    | ((with_reducible show xLd _ _ _); refine iLdB (by assumption) (by first | rfl | simp) ?_) | ((with_reducible refine iLdA (by assumption) ?_ ?_); rfl)
    | ((with_reducible refine iIaNN (by assumption) ?_ (fun pa_ hpa_ => ?_)); omega) | ((with_reducible refine iIaN (by assumption) ?_ (fun pa_ hpa_ => ?_)); omega)
    | ((with_reducible refine iIaI (by assumption) ?_ ?_ (fun pa_ hpa_ => ?_)); omega; omega) | ((with_reducible refine iAdd ?_ ?_); omega) | ((with_reducible refine iSub ?_ ?_); omega)
    | ((with_reducible show xEx _ _ _); refine iEx (by rfl) ?_) | ((with_reducible refine fun (_ : Nat → Value) => ?_); (try simp only [gx])))
    refine iCall ((ok_impl_membersOf (f.a.getD k 0) (by omega) w3).mono ?_)
    rintro u w4 ⟨h, ho⟩
    have hcl3 := hC.lt
    have hX := hX.trans h
    have hC := hC.ext h
    have hms : SlN w4 u (mem (f.a.getD k 0)) := ho.sl
    have hml := popc_full (m := 8) (a := f.a.getD k 0) (by omega) hgk
    unfold popc at hml
    have hmlt : ∀ y ∈ mem (f.a.getD k 0), y < f.n := fun y hy => by
      have := (mem_mem (by omega)).1 hy
      rcases Nat.lt_or_ge y f.n with h' | h'
      · exact h'
      · rw [Nat.testBit_lt_two_pow (Nat.lt_of_lt_of_le hgk2 (Nat.pow_le_pow_right (by omega) h'))] at this; cases this
    have hcne : u.ownBlock ≠ some c := fun e => by have := (ho.blk c e).1; omega
    (repeat first
    | (with_reducible first | refine iFa ?_ | refine iNil ?_ | refine iNilF ?_ | refine iLd (by assumption) ?_ | refine iLenN (by assumption) ?_ | refine iLenI (by assumption) ?_ | refine iLenS (by assumption) ?_ | refine iLenL ?_ | refine iEq ?_ | refine iNe ?_ | refine iLt ?_ | refine iLe ?_ | refine iNot ?_ | refine iPick ?_ | refine iE20 ?_ | refine iE21 ?_ | refine iE30 ?_ | refine iE31 ?_ | refine iE32 ?_ | refine iJn ?_)
    | ((with_reducible show xLd _ _ _); refine iLdB (by assumption) (by first | rfl | simp) ?_) | ((with_reducible refine iLdA (by assumption) ?_ ?_); rfl)
    | ((with_reducible refine iIaNN (by assumption) ?_ (fun pa_ hpa_ => ?_)); omega) | ((with_reducible refine iIaN (by assumption) ?_ (fun pa_ hpa_ => ?_)); omega)
    | ((with_reducible refine iIaI (by assumption) ?_ ?_ (fun pa_ hpa_ => ?_)); omega; omega) | ((with_reducible refine iAdd ?_ ?_); omega) | ((with_reducible refine iSub ?_ ?_); omega)
    | ((with_reducible show xEx _ _ _); refine iEx (by rfl) ?_) | ((with_reducible refine fun (_ : Nat → Value) => ?_); (try simp only [gx])))
    rw [← invL_zero f.a f.n k (mem (f.a.getD k 0))] at hC
    refine iLp (fun j : Nat => [.int .i64 (j : Int)]) (fun j w' => j ≤ (mem (f.a.getD k 0)).length ∧ Ext w w' ∧ Ow w3.heap.size t_i64 w' u (ints (nats (mem (f.a.getD k 0)))) ∧ Blk t_i64 w' c (ints (nats (invL f.a f.n k (mem (f.a.getD k 0)) j)))) (fun j => (mem (f.a.getD k 0)).length - j) 0 rfl ⟨Nat.zero_le _, hX, ho, hC⟩ ?_
    rintro j w6 Kn2 ⟨hj, hX, ho, hC⟩ hKn2
    have hms : SlN w6 u (mem (f.a.getD k 0)) := ho.sl
    (repeat first
    | (with_reducible first | refine iFa ?_ | refine iNil ?_ | refine iNilF ?_ | refine iLd (by assumption) ?_ | refine iLenN (by assumption) ?_ | refine iLenI (by assumption) ?_ | refine iLenS (by assumption) ?_ | refine iLenL ?_ | refine iEq ?_ | refine iNe ?_ | refine iLt ?_ | refine iLe ?_ | refine iNot ?_ | refine iPick ?_ | refine iE20 ?_ | refine iE21 ?_ | refine iE30 ?_ | refine iE31 ?_ | refine iE32 ?_ | refine iJn ?_)
    | ((with_reducible show xLd _ _ _); refine iLdB (by assumption) (by first | rfl | simp) ?_) | ((with_reducible refine iLdA (by assumption) ?_ ?_); rfl)
    | ((with_reducible refine iIaNN (by assumption) ?_ (fun pa_ hpa_ => ?_)); omega) | ((with_reducible refine iIaN (by assumption) ?_ (fun pa_ hpa_ => ?_)); omega)
    | ((with_reducible refine iIaI (by assumption) ?_ ?_ (fun pa_ hpa_ => ?_)); omega; omega) | ((with_reducible refine iAdd ?_ ?_); omega) | ((with_reducible refine iSub ?_ ?_); omega)
    | ((with_reducible show xEx _ _ _); refine iEx (by rfl) ?_) | ((with_reducible refine fun (_ : Nat → Value) => ?_); (try simp only [gx])))
    refine iCndP (fun h5 => ?_) (fun h5 => ?_)
    · have hj1 : j < (mem (f.a.getD k 0)).length := by omega
      have hy : (mem (f.a.getD k 0))[j] < f.n := hmlt _ (List.getElem_mem hj1)
      have hyy : (mem (f.a.getD k 0)).getD j 0 = (mem (f.a.getD k 0))[j] := getD_of_lt hj1
      have hlen : (invL f.a f.n k (mem (f.a.getD k 0)) j).length = f.n := invL_length _ _ _ _ _
      (repeat first
    | (with_reducible first | refine iFa ?_ | refine iNil ?_ | refine iNilF ?_ | refine iLd (by assumption) ?_ | refine iLenN (by assumption) ?_ | refine iLenI (by assumption) ?_ | refine iLenS (by assumption) ?_ | refine iLenL ?_ | refine iEq ?_ | refine iNe ?_ | refine iLt ?_ | refine iLe ?_ | refine iNot ?_ | refine iPick ?_ | refine iE20 ?_ | refine iE21 ?_ | refine iE30 ?_ | refine iE31 ?_ | refine iE32 ?_ | refine iJn ?_)
    | ((with_reducible show xLd _ _ _); refine iLdB (by assumption) (by first | rfl | simp) ?_) | ((with_reducible refine iLdA (by assumption) ?_ ?_); rfl)
    | ((with_reducible refine iIaNN (by assumption) ?_ (fun pa_ hpa_ => ?_)); omega) | ((with_reducible refine iIaN (by assumption) ?_ (fun pa_ hpa_ => ?_)); omega)
    | ((with_reducible refine iIaI (by assumption) ?_ ?_ (fun pa_ hpa_ => ?_)); omega; omega) | ((with_reducible refine iAdd ?_ ?_); omega) | ((with_reducible refine iSub ?_ ?_); omega)
    | ((with_reducible show xEx _ _ _); refine iEx (by rfl) ?_) | ((with_reducible refine fun (_ : Nat → Value) => ?_); (try simp only [gx])))
      rw [hyy]
      refine iIaL (by omega) ?_
      refine iLdB hC (v := .int .i64 (((invL f.a f.n k (mem (f.a.getD k 0)) j).getD (mem (f.a.getD k 0))[j] 0 : Nat) : Int)) ?_ ?_
      · rw [Nat.zero_add]; exact ints_nats_get _ _ (by omega)
      refine iShlOne (by omega) ?_
      have hcur : (invL f.a f.n k (mem (f.a.getD k 0)) j).getD (mem (f.a.getD k 0))[j] 0 < 2 ^ 9 := by
        have e1 : (invL f.a f.n k (mem (f.a.getD k 0)) j).getD (mem (f.a.getD k 0))[j] 0 = if ((mem (f.a.getD k 0)).take j).contains (mem (f.a.getD k 0))[j] then invC f.a k (mem (f.a.getD k 0))[j] ||| 2 ^ k else invC f.a k (mem (f.a.getD k 0))[j] := invL_getD _ _ _ _ _ _ hy
        rw [e1]
        have i1 : invC f.a k (mem (f.a.getD k 0))[j] < 2 ^ 9 := Nat.lt_of_lt_of_le (invC_lt _ _ _) (Nat.pow_le_pow_right (by omega) (by omega))
        split
        · exact Nat.or_lt_two_pow i1 (Nat.pow_lt_pow_right (by omega) (by omega))
        · exact i1
      have h2k : 2 ^ k < 2 ^ 9 := Nat.pow_lt_pow_right (by omega) (by omega)
      refine iBOr (by omega) (by omega) ?_
      refine iIaL (by omega) ?_
      intro w7 h
      have hX := hX.trans h
      have ho := ho.ext h
      have hC := hC.ext h
      refine iStB hC (by rw [ints_length, nats_length, hlen]; omega) rfl fun hC' => ?_
      have hu := Upd.setCell w7 c (0 + (mem (f.a.getD k 0))[j]) (.int .i64 (((invL f.a f.n k (mem (f.a.getD k 0)) j).getD (mem (f.a.getD k 0))[j] 0 ||| 2 ^ k : Nat) : Int))
      have hX := hX.upd hu hlc
      have ho := ho.upd hu hcne
      have e1 : (ints (nats (invL f.a f.n k (mem (f.a.getD k 0)) j))).set (0 + (mem (f.a.getD k 0))[j]) (.int .i64 (((invL f.a f.n k (mem (f.a.getD k 0)) j).getD (mem (f.a.getD k 0))[j] 0 ||| 2 ^ k : Nat) : Int)) = ints (nats (invL f.a f.n k (mem (f.a.getD k 0)) (j + 1))) := by
        rw [Nat.zero_add, ← invL_step f.a f.n k _ j hj1]
        exact (ints_nats_set _ _ _).symm
      rw [e1] at hC'
      intro w9 h
      have hC := hC'.ext h
      have hX := hX.trans h
      have ho := ho.ext h
      (repeat first
    | (with_reducible first | refine iFa ?_ | refine iNil ?_ | refine iNilF ?_ | refine iLd (by assumption) ?_ | refine iLenN (by assumption) ?_ | refine iLenI (by assumption) ?_ | refine iLenS (by assumption) ?_ | refine iLenL ?_ | refine iEq ?_ | refine iNe ?_ | refine iLt ?_ | refine iLe ?_ | refine iNot ?_ | refine iPick ?_ | refine iE20 ?_ | refine iE21 ?_ | refine iE30 ?_ | refine iE31 ?_ | refine iE32 ?_ | refine iJn ?_)
    | ((with_reducible show xLd _ _ _); refine iLdB (by assumption) (by first | rfl | simp) ?_) | ((with_reducible refine iLdA (by assumption) ?_ ?_); rfl)
    | ((with_reducible refine iIaNN (by assumption) ?_ (fun pa_ hpa_ => ?_)); omega) | ((with_reducible refine iIaN (by assumption) ?_ (fun pa_ hpa_ => ?_)); omega)
    | ((with_reducible refine iIaI (by assumption) ?_ ?_ (fun pa_ hpa_ => ?_)); omega; omega) | ((with_reducible refine iAdd ?_ ?_); omega) | ((with_reducible refine iSub ?_ ?_); omega)
    | ((with_reducible show xEx _ _ _); refine iEx (by rfl) ?_) | ((with_reducible refine fun (_ : Nat → Value) => ?_); (try simp only [gx])))
      exact hKn2 (j + 1) _ ⟨by omega, hX, ho, hC⟩ (by omega)
    · obtain rfl : j = (mem (f.a.getD k 0)).length := by omega
      (repeat first
    | (with_reducible first | refine iFa ?_ | refine iNil ?_ | refine iNilF ?_ | refine iLd (by assumption) ?_ | refine iLenN (by assumption) ?_ | refine iLenI (by assumption) ?_ | refine iLenS (by assumption) ?_ | refine iLenL ?_ | refine iEq ?_ | refine iNe ?_ | refine iLt ?_ | refine iLe ?_ | refine iNot ?_ | refine iPick ?_ | refine iE20 ?_ | refine iE21 ?_ | refine iE30 ?_ | refine iE31 ?_ | refine iE32 ?_ | refine iJn ?_)
    | ((with_reducible show xLd _ _ _); refine iLdB (by assumption) (by first | rfl | simp) ?_) | ((with_reducible refine iLdA (by assumption) ?_ ?_); rfl)
    | ((with_reducible refine iIaNN (by assumption) ?_ (fun pa_ hpa_ => ?_)); omega) | ((with_reducible refine iIaN (by assumption) ?_ (fun pa_ hpa_ => ?_)); omega)
    | ((with_reducible refine iIaI (by assumption) ?_ ?_ (fun pa_ hpa_ => ?_)); omega; omega) | ((with_reducible refine iAdd ?_ ?_); omega) | ((with_reducible refine iSub ?_ ?_); omega)
    | ((with_reducible show xEx _ _ _); refine iEx (by rfl) ?_) | ((with_reducible refine fun (_ : Nat → Value) => ?_); (try simp only [gx])))
      rw [invL_full f.a f.n k (by omega)] at hC
      exact hKn (k + 1) _ ⟨by omega, hX, hC⟩ (by omega)
  · obtain rfl : k = f.n := by omega
    exact ⟨hX, Ow.ofBlk hC hlc (by rw [ints_length, nats_length, hfl]; simp [inv]) (by omega)⟩
theorem ok_slices_Equal_Si64_i64 {v v' : Value} {w : World} {l l' : List Int} (hs : SlI w v l) (hs' : SlI w v' l') : Ret Tryz.prog f_slices_Equal_Si64_i64 #[v, v'] w (.bool (decide (l = l'))) := by
  have hl := hs.len
  have hl' := hs'.len
  apply c_slices_Equal_Si64_i64; unfold S_slices_Equal_Si64_i64
  (repeat first
    | (with_reducible first | refine iFa ?_ | refine iNil ?_ | refine iNilF ?_ | refine iLd (by assumption) ?_ | refine iLenN (by assumption) ?_ | refine iLenI (by assumption) ?_ | refine iLenS (by assumption) ?_ | refine iLenL ?_ | refine iEq ?_ | refine iNe ?_ | refine iLt ?_ | refine iLe ?_ | refine iNot ?_ | refine iPick ?_ | refine iE20 ?_ | refine iE21 ?_ | refine iE30 ?_ | refine iE31 ?_ | refine iE32 ?_ | refine iJn ?_)
    | ((with_reducible show xLd _ _ _); refine iLdB (by assumption) (by first | rfl | simp) ?_) | ((with_reducible refine iLdA (by assumption) ?_ ?_); rfl)
    | ((with_reducible refine iIaNN (by assumption) ?_ (fun pa_ hpa_ => ?_)); omega) | ((with_reducible refine iIaN (by assumption) ?_ (fun pa_ hpa_ => ?_)); omega)
    | ((with_reducible refine iIaI (by assumption) ?_ ?_ (fun pa_ hpa_ => ?_)); omega; omega) | ((with_reducible refine iAdd ?_ ?_); omega) | ((with_reducible refine iSub ?_ ?_); omega)
    | ((with_reducible show xEx _ _ _); refine iEx (by rfl) ?_) | ((with_reducible refine fun (_ : Nat → Value) => ?_); (try simp only [gx])))
  refine iCndP (fun h => ?_) (fun h => ?_)
  · refine ⟨?_, Ext.refl _⟩
    rw [decide_eq_false]
    rintro rfl
    exact h rfl
  · (repeat first
    | (with_reducible first | refine iFa ?_ | refine iNil ?_ | refine iNilF ?_ | refine iLd (by assumption) ?_ | refine iLenN (by assumption) ?_ | refine iLenI (by assumption) ?_ | refine iLenS (by assumption) ?_ | refine iLenL ?_ | refine iEq ?_ | refine iNe ?_ | refine iLt ?_ | refine iLe ?_ | refine iNot ?_ | refine iPick ?_ | refine iE20 ?_ | refine iE21 ?_ | refine iE30 ?_ | refine iE31 ?_ | refine iE32 ?_ | refine iJn ?_)
    | ((with_reducible show xLd _ _ _); refine iLdB (by assumption) (by first | rfl | simp) ?_) | ((with_reducible refine iLdA (by assumption) ?_ ?_); rfl)
    | ((with_reducible refine iIaNN (by assumption) ?_ (fun pa_ hpa_ => ?_)); omega) | ((with_reducible refine iIaN (by assumption) ?_ (fun pa_ hpa_ => ?_)); omega)
    | ((with_reducible refine iIaI (by assumption) ?_ ?_ (fun pa_ hpa_ => ?_)); omega; omega) | ((with_reducible refine iAdd ?_ ?_); omega) | ((with_reducible refine iSub ?_ ?_); omega)
    | ((with_reducible show xEx _ _ _); refine iEx (by rfl) ?_) | ((with_reducible refine fun (_ : Nat → Value) => ?_); (try simp only [gx])))
    have hll : l.length = l'.length := by omega
    refine iLp (fun k : Nat => [.int .i64 (k : Int)]) (fun k w' => k ≤ l.length ∧ Ext w w' ∧ l.take k = l'.take k) (fun k => l.length - k) 0 rfl ⟨Nat.zero_le _, Ext.refl _, by simp⟩ ?_
    rintro k w2 Kn ⟨hk, h2, hk2⟩ hKn
    have hs2 := hs.ext h2
    have hs2' := hs'.ext h2
    (repeat first
    | (with_reducible first | refine iFa ?_ | refine iNil ?_ | refine iNilF ?_ | refine iLd (by assumption) ?_ | refine iLenN (by assumption) ?_ | refine iLenI (by assumption) ?_ | refine iLenS (by assumption) ?_ | refine iLenL ?_ | refine iEq ?_ | refine iNe ?_ | refine iLt ?_ | refine iLe ?_ | refine iNot ?_ | refine iPick ?_ | refine iE20 ?_ | refine iE21 ?_ | refine iE30 ?_ | refine iE31 ?_ | refine iE32 ?_ | refine iJn ?_)
    | ((with_reducible show xLd _ _ _); refine iLdB (by assumption) (by first | rfl | simp) ?_) | ((with_reducible refine iLdA (by assumption) ?_ ?_); rfl)
    | ((with_reducible refine iIaNN (by assumption) ?_ (fun pa_ hpa_ => ?_)); omega) | ((with_reducible refine iIaN (by assumption) ?_ (fun pa_ hpa_ => ?_)); omega)
    | ((with_reducible refine iIaI (by assumption) ?_ ?_ (fun pa_ hpa_ => ?_)); omega; omega) | ((with_reducible refine iAdd ?_ ?_); omega) | ((with_reducible refine iSub ?_ ?_); omega)
    | ((with_reducible show xEx _ _ _); refine iEx (by rfl) ?_) | ((with_reducible refine fun (_ : Nat → Value) => ?_); (try simp only [gx])))
    refine iCndP (fun h3 => ?_) (fun h3 => ?_)
    · have hk1 : k < l.length := by omega
      (repeat first
    | (with_reducible first | refine iFa ?_ | refine iNil ?_ | refine iNilF ?_ | refine iLd (by assumption) ?_ | refine iLenN (by assumption) ?_ | refine iLenI (by assumption) ?_ | refine iLenS (by assumption) ?_ | refine iLenL ?_ | refine iEq ?_ | refine iNe ?_ | refine iLt ?_ | refine iLe ?_ | refine iNot ?_ | refine iPick ?_ | refine iE20 ?_ | refine iE21 ?_ | refine iE30 ?_ | refine iE31 ?_ | refine iE32 ?_ | refine iJn ?_)
    | ((with_reducible show xLd _ _ _); refine iLdB (by assumption) (by first | rfl | simp) ?_) | ((with_reducible refine iLdA (by assumption) ?_ ?_); rfl)
    | ((with_reducible refine iIaNN (by assumption) ?_ (fun pa_ hpa_ => ?_)); omega) | ((with_reducible refine iIaN (by assumption) ?_ (fun pa_ hpa_ => ?_)); omega)
    | ((with_reducible refine iIaI (by assumption) ?_ ?_ (fun pa_ hpa_ => ?_)); omega; omega) | ((with_reducible refine iAdd ?_ ?_); omega) | ((with_reducible refine iSub ?_ ?_); omega)
    | ((with_reducible show xEx _ _ _); refine iEx (by rfl) ?_) | ((with_reducible refine fun (_ : Nat → Value) => ?_); (try simp only [gx])))
      intro w3 h4
      refine iCndP (fun h5 => ?_) (fun h5 => ?_)
      · refine ⟨?_, h2.trans h4⟩
        rw [decide_eq_false]
        rintro rfl
        exact h5 rfl
      · (repeat first
    | (with_reducible first | refine iFa ?_ | refine iNil ?_ | refine iNilF ?_ | refine iLd (by assumption) ?_ | refine iLenN (by assumption) ?_ | refine iLenI (by assumption) ?_ | refine iLenS (by assumption) ?_ | refine iLenL ?_ | refine iEq ?_ | refine iNe ?_ | refine iLt ?_ | refine iLe ?_ | refine iNot ?_ | refine iPick ?_ | refine iE20 ?_ | refine iE21 ?_ | refine iE30 ?_ | refine iE31 ?_ | refine iE32 ?_ | refine iJn ?_)
    | ((with_reducible show xLd _ _ _); refine iLdB (by assumption) (by first | rfl | simp) ?_) | ((with_reducible refine iLdA (by assumption) ?_ ?_); rfl)
    | ((with_reducible refine iIaNN (by assumption) ?_ (fun pa_ hpa_ => ?_)); omega) | ((with_reducible refine iIaN (by assumption) ?_ (fun pa_ hpa_ => ?_)); omega)
    | ((with_reducible refine iIaI (by assumption) ?_ ?_ (fun pa_ hpa_ => ?_)); omega; omega) | ((with_reducible refine iAdd ?_ ?_); omega) | ((with_reducible refine iSub ?_ ?_); omega)
    | ((with_reducible show xEx _ _ _); refine iEx (by rfl) ?_) | ((with_reducible refine fun (_ : Nat → Value) => ?_); (try simp only [gx])))
        refine hKn (k + 1) _ ⟨by omega, h2.trans h4, ?_⟩ (by omega)
        rw [List.take_succ_eq_append_getElem hk1, List.take_succ_eq_append_getElem (show k < l'.length by omega), hk2]
        have e1 : l.getD k 0 = l[k] := by simp [List.getD_eq_getElem?_getD, hk1]
        have e2 : l'.getD k 0 = l'[k]'(by omega) := by simp [List.getD_eq_getElem?_getD, show k < l'.length by omega]
        have h5 : l.getD k 0 = l'.getD k 0 := Decidable.not_not.1 h5
        rw [e1, e2] at h5
        rw [h5]
    · refine ⟨?_, h2⟩
      obtain rfl : k = l.length := by omega
      rw [List.take_length, hll, List.take_length] at hk2
      rw [decide_eq_true hk2]
theorem ok_impl_transitive {a : List Nat} {n : Nat} (hn : n ≤ 8) (hal : a.length = n) (hlt : ∀ x ∈ a, x < 2 ^ n) {v : Value} {w : World} (hs : SlN w v a) : Cal Tryz.prog f_impl_transitive #[v] w fun r w' => Ext w w' ∧ Ow w.heap.size t_i64 w' r (ints (nats (wAll a n))) := by
  apply c_impl_transitive; unfold S_impl_transitive
  refine iCall ((ok_slices_Clone_Si64_i64 (l := nats a) hs (by rw [nats_length]; omega)).mono ?_)
  rintro u w1 ⟨h, ho⟩
  have hX := h
  have hil : ∀ c : List Nat, (ints (nats c)).length = c.length := fun c => by rw [ints_length, nats_length]
  have hsl : SlN w1 u a := ho.sl
  (repeat first
    | (with_reducible first | refine iFa ?_ | refine iNil ?_ | refine iNilF ?_ | refine iLd (by assumption) ?_ | refine iLenN (by assumption) ?_ | refine iLenI (by assumption) ?_ | refine iLenS (by assumption) ?_ | refine iLenL ?_ | refine iEq ?_ | refine iNe ?_ | refine iLt ?_ | refine iLe ?_ | refine iNot ?_ | refine iPick ?_ | refine iE20 ?_ | refine iE21 ?_ | refine iE30 ?_ | refine iE31 ?_ | refine iE32 ?_ | refine iJn ?_)
    | ((with_reducible show xLd _ _ _); refine iLdB (by assumption) (by first | rfl | simp) ?_) | ((with_reducible refine iLdA (by assumption) ?_ ?_); rfl)
    | ((with_reducible refine iIaNN (by assumption) ?_ (fun pa_ hpa_ => ?_)); omega) | ((with_reducible refine iIaN (by assumption) ?_ (fun pa_ hpa_ => ?_)); omega)
    | ((with_reducible refine iIaI (by assumption) ?_ ?_ (fun pa_ hpa_ => ?_)); omega; omega) | ((with_reducible refine iAdd ?_ ?_); omega) | ((with_reducible refine iSub ?_ ?_); omega)
    | ((with_reducible show xEx _ _ _); refine iEx (by rfl) ?_) | ((with_reducible refine fun (_ : Nat → Value) => ?_); (try simp only [gx])))
  have hbnd : ∀ k j, ∀ x ∈ wRow (wAll a k) k j, x < 2 ^ n := by
    have hst : ∀ k (c : List Nat) i, (∀ x ∈ c, x < 2 ^ n) → ∀ x ∈ wStep k c i, x < 2 ^ n := by
      intro k c i hc x hx
      unfold wStep at hx
      split at hx
      · rcases List.mem_or_eq_of_mem_set hx with h1 | h1
        · exact hc x h1
        · rw [h1]; exact Nat.or_lt_two_pow (getD_lt_all hc (Nat.two_pow_pos n) _) (getD_lt_all hc (Nat.two_pow_pos n) _)
      · exact hc x hx
    have hrw : ∀ k (c : List Nat) j, (∀ x ∈ c, x < 2 ^ n) → ∀ x ∈ wRow c k j, x < 2 ^ n := by
      intro k c j hc
      induction j with
      | zero => exact hc
      | succ j ih => rw [wRow_succ]; exact hst k _ _ ih
    have hal : ∀ k, ∀ x ∈ wAll a k, x < 2 ^ n := by
      intro k
      induction k with
      | zero => exact hlt
      | succ k ih => rw [wAll_succ]; exact hrw k _ _ ih
    exact fun k j => hrw k _ j (hal k)
  refine iLp (fun k : Nat => [.int .i64 (k : Int)]) (fun k w' => k ≤ n ∧ Ext w w' ∧ Ow w.heap.size t_i64 w' u (ints (nats (wAll a k)))) (fun k => n - k) 0 rfl ⟨Nat.zero_le _, hX, ho⟩ ?_
  rintro k w3 Kn ⟨hk, hX, ho⟩ hKn
  have hkl : (wAll a k).length = n := by rw [wAll_length, hal]
  have hsl : SlN w3 u (wAll a k) := ho.sl
  (repeat first
    | (with_reducible first | refine iFa ?_ | refine iNil ?_ | refine iNilF ?_ | refine iLd (by assumption) ?_ | refine iLenN (by assumption) ?_ | refine iLenI (by assumption) ?_ | refine iLenS (by assumption) ?_ | refine iLenL ?_ | refine iEq ?_ | refine iNe ?_ | refine iLt ?_ | refine iLe ?_ | refine iNot ?_ | refine iPick ?_ | refine iE20 ?_ | refine iE21 ?_ | refine iE30 ?_ | refine iE31 ?_ | refine iE32 ?_ | refine iJn ?_)
    | ((with_reducible show xLd _ _ _); refine iLdB (by assumption) (by first | rfl | simp) ?_) | ((with_reducible refine iLdA (by assumption) ?_ ?_); rfl)
    | ((with_reducible refine iIaNN (by assumption) ?_ (fun pa_ hpa_ => ?_)); omega) | ((with_reducible refine iIaN (by assumption) ?_ (fun pa_ hpa_ => ?_)); omega)
    | ((with_reducible refine iIaI (by assumption) ?_ ?_ (fun pa_ hpa_ => ?_)); omega; omega) | ((with_reducible refine iAdd ?_ ?_); omega) | ((with_reducible refine iSub ?_ ?_); omega)
    | ((with_reducible show xEx _ _ _); refine iEx (by rfl) ?_) | ((with_reducible refine fun (_ : Nat → Value) => ?_); (try simp only [gx])))
  refine iCndP (fun h4 => ?_) (fun h4 => ?_)
  · have hk1 : k < n := by omega
    (repeat first
    | (with_reducible first | refine iFa ?_ | refine iNil ?_ | refine iNilF ?_ | refine iLd (by assumption) ?_ | refine iLenN (by assumption) ?_ | refine iLenI (by assumption) ?_ | refine iLenS (by assumption) ?_ | refine iLenL ?_ | refine iEq ?_ | refine iNe ?_ | refine iLt ?_ | refine iLe ?_ | refine iNot ?_ | refine iPick ?_ | refine iE20 ?_ | refine iE21 ?_ | refine iE30 ?_ | refine iE31 ?_ | refine iE32 ?_ | refine iJn ?_)
    | ((with_reducible show xLd _ _ _); refine iLdB (by assumption) (by first | rfl | simp) ?_) | ((with_reducible refine iLdA (by assumption) ?_ ?_); rfl)
    | ((with_reducible refine iIaNN (by assumption) ?_ (fun pa_ hpa_ => ?_)); omega) | ((with_reducible refine iIaN (by assumption) ?_ (fun pa_ hpa_ => ?_)); omega)
    | ((with_reducible refine iIaI (by assumption) ?_ ?_ (fun pa_ hpa_ => ?_)); omega; omega) | ((with_reducible refine iAdd ?_ ?_); omega) | ((with_reducible refine iSub ?_ ?_); omega)
    | ((with_reducible show xEx _ _ _); refine iEx (by rfl) ?_) | ((with_reducible refine fun (_ : Nat → Value) => ?_); (try simp only [gx])))
    refine iLp (fun j : Nat => [.int .i64 (j : Int)]) (fun j w' => j ≤ n ∧ Ext w w' ∧ Ow w.heap.size t_i64 w' u (ints (nats (wRow (wAll a k) k j)))) (fun j => n - j) 0 rfl ⟨Nat.zero_le _, hX, ho⟩ ?_
    rintro j w5 Kn2 ⟨hj, hX, ho⟩ hKn2
    have hjl : (wRow (wAll a k) k j).length = n := by rw [wRow_length, hkl]
    have hsl : SlN w5 u (wRow (wAll a k) k j) := ho.sl
    (repeat first
    | (with_reducible first | refine iFa ?_ | refine iNil ?_ | refine iNilF ?_ | refine iLd (by assumption) ?_ | refine iLenN (by assumption) ?_ | refine iLenI (by assumption) ?_ | refine iLenS (by assumption) ?_ | refine iLenL ?_ | refine iEq ?_ | refine iNe ?_ | refine iLt ?_ | refine iLe ?_ | refine iNot ?_ | refine iPick ?_ | refine iE20 ?_ | refine iE21 ?_ | refine iE30 ?_ | refine iE31 ?_ | refine iE32 ?_ | refine iJn ?_)
    | ((with_reducible show xLd _ _ _); refine iLdB (by assumption) (by first | rfl | simp) ?_) | ((with_reducible refine iLdA (by assumption) ?_ ?_); rfl)
    | ((with_reducible refine iIaNN (by assumption) ?_ (fun pa_ hpa_ => ?_)); omega) | ((with_reducible refine iIaN (by assumption) ?_ (fun pa_ hpa_ => ?_)); omega)
    | ((with_reducible refine iIaI (by assumption) ?_ ?_ (fun pa_ hpa_ => ?_)); omega; omega) | ((with_reducible refine iAdd ?_ ?_); omega) | ((with_reducible refine iSub ?_ ?_); omega)
    | ((with_reducible show xEx _ _ _); refine iEx (by rfl) ?_) | ((with_reducible refine fun (_ : Nat → Value) => ?_); (try simp only [gx])))
    refine iCndP (fun h5 => ?_) (fun h5 => ?_)
    · have hj1 : j < n := by omega
      have h28 : 2 ^ n ≤ 2 ^ 8 := Nat.pow_le_pow_right (by omega) hn
      have g1 := getD_lt_all (hbnd k j) (Nat.two_pow_pos n) j
      have g2 := getD_lt_all (hbnd k j) (Nat.two_pow_pos n) k
      (repeat first
    | (with_reducible first | refine iFa ?_ | refine iNil ?_ | refine iNilF ?_ | refine iLd (by assumption) ?_ | refine iLenN (by assumption) ?_ | refine iLenI (by assumption) ?_ | refine iLenS (by assumption) ?_ | refine iLenL ?_ | refine iEq ?_ | refine iNe ?_ | refine iLt ?_ | refine iLe ?_ | refine iNot ?_ | refine iPick ?_ | refine iE20 ?_ | refine iE21 ?_ | refine iE30 ?_ | refine iE31 ?_ | refine iE32 ?_ | refine iJn ?_)
    | ((with_reducible show xLd _ _ _); refine iLdB (by assumption) (by first | rfl | simp) ?_) | ((with_reducible refine iLdA (by assumption) ?_ ?_); rfl)
    | ((with_reducible refine iIaNN (by assumption) ?_ (fun pa_ hpa_ => ?_)); omega) | ((with_reducible refine iIaN (by assumption) ?_ (fun pa_ hpa_ => ?_)); omega)
    | ((with_reducible refine iIaI (by assumption) ?_ ?_ (fun pa_ hpa_ => ?_)); omega; omega) | ((with_reducible refine iAdd ?_ ?_); omega) | ((with_reducible refine iSub ?_ ?_); omega)
    | ((with_reducible show xEx _ _ _); refine iEx (by rfl) ?_) | ((with_reducible refine fun (_ : Nat → Value) => ?_); (try simp only [gx])))
      refine iRet (ok_impl_has _ k (by omega) (by omega) w5) fun w6 h => ?_
      have hX := hX.trans h
      have ho := ho.ext h
      have hsl : SlN w6 u (wRow (wAll a k) k j) := ho.sl
      have hstep := wRow_succ (wAll a k) k j
      refine iCnd (fun h6 => ?_) (fun h6 => ?_)
      · have e1 : wRow (wAll a k) k (j + 1) = (wRow (wAll a k) k j).set j ((wRow (wAll a k) k j).getD j 0 ||| (wRow (wAll a k) k j).getD k 0) := by
          rw [hstep]; unfold wStep; rw [if_pos h6]
        (repeat first
    | (with_reducible first | refine iFa ?_ | refine iNil ?_ | refine iNilF ?_ | refine iLd (by assumption) ?_ | refine iLenN (by assumption) ?_ | refine iLenI (by assumption) ?_ | refine iLenS (by assumption) ?_ | refine iLenL ?_ | refine iEq ?_ | refine iNe ?_ | refine iLt ?_ | refine iLe ?_ | refine iNot ?_ | refine iPick ?_ | refine iE20 ?_ | refine iE21 ?_ | refine iE30 ?_ | refine iE31 ?_ | refine iE32 ?_ | refine iJn ?_)
    | ((with_reducible show xLd _ _ _); refine iLdB (by assumption) (by first | rfl | simp) ?_) | ((with_reducible refine iLdA (by assumption) ?_ ?_); rfl)
    | ((with_reducible refine iIaNN (by assumption) ?_ (fun pa_ hpa_ => ?_)); omega) | ((with_reducible refine iIaN (by assumption) ?_ (fun pa_ hpa_ => ?_)); omega)
    | ((with_reducible refine iIaI (by assumption) ?_ ?_ (fun pa_ hpa_ => ?_)); omega; omega) | ((with_reducible refine iAdd ?_ ?_); omega) | ((with_reducible refine iSub ?_ ?_); omega)
    | ((with_reducible show xEx _ _ _); refine iEx (by rfl) ?_) | ((with_reducible refine fun (_ : Nat → Value) => ?_); (try simp only [gx])))
        refine iBOr (by omega) (by omega) ?_
        refine iIaOwE ho (by rw [hil]; omega) fun b hb hwr => ?_
        intro w7 h
        have hX := hX.trans h
        have ho := ho.ext h
        obtain ⟨hc1, hc2, hc3⟩ := hwr w7 _ rfl ho
        rw [List.getElem?_eq_getElem (by rw [hil]; omega)] at hc1
        refine iSt hc1 hc2 rfl ?_
        have ho := hc3 (.int .i64 (((wRow (wAll a k) k j).getD j 0 ||| (wRow (wAll a k) k j).getD k 0 : Nat) : Int))
        rw [← ints_nats_set, ← e1] at ho
        have hu := Upd.setCell w7 b j (.int .i64 (((wRow (wAll a k) k j).getD j 0 ||| (wRow (wAll a k) k j).getD k 0 : Nat) : Int))
        have hX := hX.upd hu (ho.blk b hb).1
        intro w9 h
        have hX := hX.trans h
        have ho := ho.ext h
        (repeat first
    | (with_reducible first | refine iFa ?_ | refine iNil ?_ | refine iNilF ?_ | refine iLd (by assumption) ?_ | refine iLenN (by assumption) ?_ | refine iLenI (by assumption) ?_ | refine iLenS (by assumption) ?_ | refine iLenL ?_ | refine iEq ?_ | refine iNe ?_ | refine iLt ?_ | refine iLe ?_ | refine iNot ?_ | refine iPick ?_ | refine iE20 ?_ | refine iE21 ?_ | refine iE30 ?_ | refine iE31 ?_ | refine iE32 ?_ | refine iJn ?_)
    | ((with_reducible show xLd _ _ _); refine iLdB (by assumption) (by first | rfl | simp) ?_) | ((with_reducible refine iLdA (by assumption) ?_ ?_); rfl)
    | ((with_reducible refine iIaNN (by assumption) ?_ (fun pa_ hpa_ => ?_)); omega) | ((with_reducible refine iIaN (by assumption) ?_ (fun pa_ hpa_ => ?_)); omega)
    | ((with_reducible refine iIaI (by assumption) ?_ ?_ (fun pa_ hpa_ => ?_)); omega; omega) | ((with_reducible refine iAdd ?_ ?_); omega) | ((with_reducible refine iSub ?_ ?_); omega)
    | ((with_reducible show xEx _ _ _); refine iEx (by rfl) ?_) | ((with_reducible refine fun (_ : Nat → Value) => ?_); (try simp only [gx])))
        exact hKn2 (j + 1) _ ⟨by omega, hX, ho⟩ (by omega)
      · (repeat first
    | (with_reducible first | refine iFa ?_ | refine iNil ?_ | refine iNilF ?_ | refine iLd (by assumption) ?_ | refine iLenN (by assumption) ?_ | refine iLenI (by assumption) ?_ | refine iLenS (by assumption) ?_ | refine iLenL ?_ | refine iEq ?_ | refine iNe ?_ | refine iLt ?_ | refine iLe ?_ | refine iNot ?_ | refine iPick ?_ | refine iE20 ?_ | refine iE21 ?_ | refine iE30 ?_ | refine iE31 ?_ | refine iE32 ?_ | refine iJn ?_)
    | ((with_reducible show xLd _ _ _); refine iLdB (by assumption) (by first | rfl | simp) ?_) | ((with_reducible refine iLdA (by assumption) ?_ ?_); rfl)
    | ((with_reducible refine iIaNN (by assumption) ?_ (fun pa_ hpa_ => ?_)); omega) | ((with_reducible refine iIaN (by assumption) ?_ (fun pa_ hpa_ => ?_)); omega)
    | ((with_reducible refine iIaI (by assumption) ?_ ?_ (fun pa_ hpa_ => ?_)); omega; omega) | ((with_reducible refine iAdd ?_ ?_); omega) | ((with_reducible refine iSub ?_ ?_); omega)
    | ((with_reducible show xEx _ _ _); refine iEx (by rfl) ?_) | ((with_reducible refine fun (_ : Nat → Value) => ?_); (try simp only [gx])))
        refine hKn2 (j + 1) _ ⟨by omega, hX, ?_⟩ (by omega)
        have e1 : wRow (wAll a k) k (j + 1) = wRow (wAll a k) k j := by
          rw [hstep]; unfold wStep; rw [if_neg (by rw [h6]; simp)]
        rw [e1]; exact ho
    · obtain rfl : j = n := by omega
      (repeat first
    | (with_reducible first | refine iFa ?_ | refine iNil ?_ | refine iNilF ?_ | refine iLd (by assumption) ?_ | refine iLenN (by assumption) ?_ | refine iLenI (by assumption) ?_ | refine iLenS (by assumption) ?_ | refine iLenL ?_ | refine iEq ?_ | refine iNe ?_ | refine iLt ?_ | refine iLe ?_ | refine iNot ?_ | refine iPick ?_ | refine iE20 ?_ | refine iE21 ?_ | refine iE30 ?_ | refine iE31 ?_ | refine iE32 ?_ | refine iJn ?_)
    | ((with_reducible show xLd _ _ _); refine iLdB (by assumption) (by first | rfl | simp) ?_) | ((with_reducible refine iLdA (by assumption) ?_ ?_); rfl)
    | ((with_reducible refine iIaNN (by assumption) ?_ (fun pa_ hpa_ => ?_)); omega) | ((with_reducible refine iIaN (by assumption) ?_ (fun pa_ hpa_ => ?_)); omega)
    | ((with_reducible refine iIaI (by assumption) ?_ ?_ (fun pa_ hpa_ => ?_)); omega; omega) | ((with_reducible refine iAdd ?_ ?_); omega) | ((with_reducible refine iSub ?_ ?_); omega)
    | ((with_reducible show xEx _ _ _); refine iEx (by rfl) ?_) | ((with_reducible refine fun (_ : Nat → Value) => ?_); (try simp only [gx])))
      refine hKn (k + 1) _ ⟨by omega, hX, ?_⟩ (by omega)
      rw [wAll_succ, hkl]; exact ho
  · obtain rfl : k = n := by omega
    exact ⟨hX, ho⟩
theorem ok_impl_Frame_everyWorld {n : Nat} {fv u : Value} (p : Nat → Bool) (hn : n ≤ 1000) (w : World) (hf : ∀ w', Ext w w' → ∀ x, x < n → callV Tryz.prog fv [.int .i64 (x : Int)] w' fun r w'' => r = .bool (p x) ∧ Ext w' w'') : Ret Tryz.prog f_impl_Frame_everyWorld #[.agg #[.int .i64 (n : Int), u], fv] w (.bool ((List.range n).all p)) := by
  apply c_impl_Frame_everyWorld; unfold S_impl_Frame_everyWorld
  refine iNew fun b w1 hb h hB => ?_
  (repeat first
    | (with_reducible first | refine iFa ?_ | refine iNil ?_ | refine iNilF ?_ | refine iLd (by assumption) ?_ | refine iLenN (by assumption) ?_ | refine iLenI (by assumption) ?_ | refine iLenS (by assumption) ?_ | refine iLenL ?_ | refine iEq ?_ | refine iNe ?_ | refine iLt ?_ | refine iLe ?_ | refine iNot ?_ | refine iPick ?_ | refine iE20 ?_ | refine iE21 ?_ | refine iE30 ?_ | refine iE31 ?_ | refine iE32 ?_ | refine iJn ?_)
    | ((with_reducible show xLd _ _ _); refine iLdB (by assumption) (by first | rfl | simp) ?_) | ((with_reducible refine iLdA (by assumption) ?_ ?_); rfl)
    | ((with_reducible refine iIaNN (by assumption) ?_ (fun pa_ hpa_ => ?_)); omega) | ((with_reducible refine iIaN (by assumption) ?_ (fun pa_ hpa_ => ?_)); omega)
    | ((with_reducible refine iIaI (by assumption) ?_ ?_ (fun pa_ hpa_ => ?_)); omega; omega) | ((with_reducible refine iAdd ?_ ?_); omega) | ((with_reducible refine iSub ?_ ?_); omega)
    | ((with_reducible show xEx _ _ _); refine iEx (by rfl) ?_) | ((with_reducible refine fun (_ : Nat → Value) => ?_); (try simp only [gx])))
  refine iLp (fun k : Nat => [.int .i64 (k : Int)]) (fun k w' => k ≤ n ∧ Ext w w' ∧ ∀ x, x < k → p x = true) (fun k => n - k) 0 rfl ⟨Nat.zero_le _, h, fun x hx => by omega⟩ ?_
  rintro k w2 Kn ⟨hk, h2, hk2⟩ hKn
  (repeat first
    | (with_reducible first | refine iFa ?_ | refine iNil ?_ | refine iNilF ?_ | refine iLd (by assumption) ?_ | refine iLenN (by assumption) ?_ | refine iLenI (by assumption) ?_ | refine iLenS (by assumption) ?_ | refine iLenL ?_ | refine iEq ?_ | refine iNe ?_ | refine iLt ?_ | refine iLe ?_ | refine iNot ?_ | refine iPick ?_ | refine iE20 ?_ | refine iE21 ?_ | refine iE30 ?_ | refine iE31 ?_ | refine iE32 ?_ | refine iJn ?_)
    | ((with_reducible show xLd _ _ _); refine iLdB (by assumption) (by first | rfl | simp) ?_) | ((with_reducible refine iLdA (by assumption) ?_ ?_); rfl)
    | ((with_reducible refine iIaNN (by assumption) ?_ (fun pa_ hpa_ => ?_)); omega) | ((with_reducible refine iIaN (by assumption) ?_ (fun pa_ hpa_ => ?_)); omega)
    | ((with_reducible refine iIaI (by assumption) ?_ ?_ (fun pa_ hpa_ => ?_)); omega; omega) | ((with_reducible refine iAdd ?_ ?_); omega) | ((with_reducible refine iSub ?_ ?_); omega)
    | ((with_reducible show xEx _ _ _); refine iEx (by rfl) ?_) | ((with_reducible refine fun (_ : Nat → Value) => ?_); (try simp only [gx])))
  refine iCndP (fun h3 => ?_) (fun h3 => ?_)
  · have hk1 : k < n := by omega
    refine (hf w2 h2 k hk1).mono ?_
    rintro _ w4 ⟨rfl, h4⟩
    (repeat first
    | (with_reducible first | refine iFa ?_ | refine iNil ?_ | refine iNilF ?_ | refine iLd (by assumption) ?_ | refine iLenN (by assumption) ?_ | refine iLenI (by assumption) ?_ | refine iLenS (by assumption) ?_ | refine iLenL ?_ | refine iEq ?_ | refine iNe ?_ | refine iLt ?_ | refine iLe ?_ | refine iNot ?_ | refine iPick ?_ | refine iE20 ?_ | refine iE21 ?_ | refine iE30 ?_ | refine iE31 ?_ | refine iE32 ?_ | refine iJn ?_)
    | ((with_reducible show xLd _ _ _); refine iLdB (by assumption) (by first | rfl | simp) ?_) | ((with_reducible refine iLdA (by assumption) ?_ ?_); rfl)
    | ((with_reducible refine iIaNN (by assumption) ?_ (fun pa_ hpa_ => ?_)); omega) | ((with_reducible refine iIaN (by assumption) ?_ (fun pa_ hpa_ => ?_)); omega)
    | ((with_reducible refine iIaI (by assumption) ?_ ?_ (fun pa_ hpa_ => ?_)); omega; omega) | ((with_reducible refine iAdd ?_ ?_); omega) | ((with_reducible refine iSub ?_ ?_); omega)
    | ((with_reducible show xEx _ _ _); refine iEx (by rfl) ?_) | ((with_reducible refine fun (_ : Nat → Value) => ?_); (try simp only [gx])))
    cases hp : p k
    · refine iCndT rfl ?_
      refine ⟨?_, h2.trans h4⟩
      have : (List.range n).all p = false := by
        rw [List.all_eq_false]
        exact ⟨k, List.mem_range.2 hk1, by rw [hp]; simp⟩
      rw [this]
    · refine iCndF rfl ?_
      (repeat first
    | (with_reducible first | refine iFa ?_ | refine iNil ?_ | refine iNilF ?_ | refine iLd (by assumption) ?_ | refine iLenN (by assumption) ?_ | refine iLenI (by assumption) ?_ | refine iLenS (by assumption) ?_ | refine iLenL ?_ | refine iEq ?_ | refine iNe ?_ | refine iLt ?_ | refine iLe ?_ | refine iNot ?_ | refine iPick ?_ | refine iE20 ?_ | refine iE21 ?_ | refine iE30 ?_ | refine iE31 ?_ | refine iE32 ?_ | refine iJn ?_)
    | ((with_reducible show xLd _ _ _); refine iLdB (by assumption) (by first | rfl | simp) ?_) | ((with_reducible refine iLdA (by assumption) ?_ ?_); rfl)
    | ((with_reducible refine iIaNN (by assumption) ?_ (fun pa_ hpa_ => ?_)); omega) | ((with_reducible refine iIaN (by assumption) ?_ (fun pa_ hpa_ => ?_)); omega)
    | ((with_reducible refine iIaI (by assumption) ?_ ?_ (fun pa_ hpa_ => ?_)); omega; omega) | ((with_reducible refine iAdd ?_ ?_); omega) | ((with_reducible refine iSub ?_ ?_); omega)
    | ((with_reducible show xEx _ _ _); refine iEx (by rfl) ?_) | ((with_reducible refine fun (_ : Nat → Value) => ?_); (try simp only [gx])))
      refine hKn (k + 1) _ ⟨by omega, h2.trans h4, fun x hx => ?_⟩ (by omega)
      by_cases hxk : x < k
      · exact hk2 x hxk
      · obtain rfl : x = k := by omega
        exact hp
  · refine ⟨?_, h2⟩
    have : (List.range n).all p = true := by
      rw [List.all_eq_true]
      exact fun x hx => hk2 x (by have := List.mem_range.1 hx; omega)
    rw [this]
end Go.Proofs.YtoolpnkcmlebkaaGreat
