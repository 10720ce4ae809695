/- The proof of FnMorphisms, part 3 of 5. Conditions: none. -/
import Derived.Test.YtikfhibcdhdglaaGreatKR25b
import Derived.Laws.StructEq
/- Contracts: the properties that make a frame a poset, in the program. Conditions: none. -/
namespace Go.Vc
/-- Who sees y, among the first k. -/
def invC (a : List Nat) (k y : Nat) : Nat := setOf ((List.range k).filter fun x => (a.getD x 0).testBit y)
theorem invC_succ (a : List Nat) (k y : Nat) : invC a (k + 1) y = if (a.getD k 0).testBit y then invC a k y ||| 2 ^ k else invC a k y := by
  unfold invC
  rw [List.range_succ, List.filter_append]
  cases h : (a.getD k 0).testBit y
  · simp only [List.filter_cons, List.filter_nil, h]
    simp
  · simp only [List.filter_cons, List.filter_nil, h, if_true]
    rw [setOf_snoc]
theorem invC_lt (a : List Nat) (k y : Nat) : invC a k y < 2 ^ k := setOf_lt fun _ hz => List.mem_range.1 (List.mem_filter.1 hz).1
theorem invC_bit (a : List Nat) (k y x : Nat) : (invC a k y).testBit x = (decide (x < k) && (a.getD x 0).testBit y) := by
  unfold invC
  rw [setOf_testBit, Bool.eq_iff_iff, List.contains_iff_mem, List.mem_filter, List.mem_range]
  simp
def invL (a : List Nat) (n k : Nat) (ms : List Nat) (j : Nat) : List Nat := (List.range n).map fun y => if (ms.take j).contains y then invC a k y ||| 2 ^ k else invC a k y
def inv (f : Fr) : List Nat := (List.range f.n).map fun y => invC f.a f.n y
theorem invL_zero (a : List Nat) (n k : Nat) (ms : List Nat) : invL a n k ms 0 = (List.range n).map fun y => invC a k y := by simp [invL]
theorem invL_full (a : List Nat) (n k : Nat) (hk : a.getD k 0 < 2 ^ 63) : invL a n k (mem (a.getD k 0)) (mem (a.getD k 0)).length = (List.range n).map fun y => invC a (k + 1) y := by
  unfold invL
  refine List.map_congr_left fun y _ => ?_
  rw [List.take_length, invC_succ]
  have : (mem (a.getD k 0)).contains y = (a.getD k 0).testBit y := by
    rw [Bool.eq_iff_iff, List.contains_iff_mem, mem_mem hk]
  rw [this]
theorem invL_length (a : List Nat) (n k : Nat) (ms : List Nat) (j : Nat) : (invL a n k ms j).length = n := by simp [invL]
theorem invL_step (a : List Nat) (n k : Nat) (ms : List Nat) (j : Nat) (hj : j < ms.length) : (invL a n k ms j).set ms[j] ((invL a n k ms j).getD ms[j] 0 ||| 2 ^ k) = invL a n k ms (j + 1) := by
  apply List.ext_getElem
  · simp [invL]
  · intro i h1 h2
    have hi : i < n := by simpa [invL] using h2
    rw [List.getElem_set]
    have ht : ms.take (j + 1) = ms.take j ++ [ms[j]] := List.take_succ_eq_append_getElem hj
    split
    · rename_i h
      rw [h]
      have e1 : (invL a n k ms j).getD i 0 = if (ms.take j).contains i then invC a k i ||| 2 ^ k else invC a k i := by simp [invL, hi]
      have e2 : (invL a n k ms (j + 1))[i] = invC a k i ||| 2 ^ k := by
        have hc : (ms.take (j + 1)).contains i = true := by rw [List.contains_iff_mem, ht, h]; simp
        simp only [invL, List.getElem_map, List.getElem_range]
        rw [if_pos hc]
      rw [e1, e2]
      split
      · rw [Nat.or_assoc, Nat.or_self]
      · rfl
    · rename_i h
      simp only [invL, List.getElem_map, List.getElem_range]
      have hc : (ms.take (j + 1)).contains i = (ms.take j).contains i := by
        rw [Bool.eq_iff_iff, List.contains_iff_mem, List.contains_iff_mem]
        have hm : i ∈ ms.take (j + 1) ↔ i ∈ ms.take j ++ [ms[j]] := by rw [← ht]
        rw [hm, List.mem_append, List.mem_singleton]
        exact ⟨fun h' => h'.resolve_right fun e => h e.symm, .inl⟩
      rw [hc]
theorem inv_get (f : Fr) (x : Nat) (hx : x < f.n) : (inv f).getD x 0 = invC f.a f.n x := by simp [inv, hx]
/-- Warshall's steps. -/
def wStep (k : Nat) (c : List Nat) (i : Nat) : List Nat := if (c.getD i 0).testBit k then c.set i (c.getD i 0 ||| c.getD k 0) else c
def wRow (c : List Nat) (k j : Nat) : List Nat := (List.range j).foldl (wStep k) c
def wAll (a : List Nat) (k : Nat) : List Nat := (List.range k).foldl (fun c k => wRow c k c.length) a
theorem wStep_length (k : Nat) (c : List Nat) (i : Nat) : (wStep k c i).length = c.length := by
  unfold wStep; split <;> simp
theorem wRow_succ (c : List Nat) (k j : Nat) : wRow c k (j + 1) = wStep k (wRow c k j) j := by
  unfold wRow; rw [List.range_succ, List.foldl_append]; rfl
theorem wRow_length (c : List Nat) (k j : Nat) : (wRow c k j).length = c.length := by
  induction j with
  | zero => rfl
  | succ j ih => rw [wRow_succ, wStep_length, ih]
theorem wAll_succ (a : List Nat) (k : Nat) : wAll a (k + 1) = wRow (wAll a k) k (wAll a k).length := by
  unfold wAll; rw [List.range_succ, List.foldl_append]; rfl
theorem wAll_length (a : List Nat) (k : Nat) : (wAll a k).length = a.length := by
  induction k with
  | zero => rfl
  | succ k ih => rw [wAll_succ, wRow_length, ih]
def subL (c d : List Nat) : Prop := ∀ i j, (c.getD i 0).testBit j = true → (d.getD i 0).testBit j = true
theorem wStep_get (k : Nat) (c : List Nat) (i l : Nat) (hi : i < c.length) : (wStep k c i).getD l 0 = if l = i ∧ (c.getD i 0).testBit k = true then c.getD i 0 ||| c.getD k 0 else c.getD l 0 := by
  unfold wStep
  by_cases hb : (c.getD i 0).testBit k = true
  · rw [if_pos hb]
    by_cases hl : l = i
    · subst hl; rw [if_pos ⟨rfl, hb⟩]; simp [List.getD_eq_getElem?_getD, hi]
    · rw [if_neg (fun h => hl h.1)]; simp [List.getD_eq_getElem?_getD, List.getElem?_set_ne (fun h => hl h.symm)]
  · rw [if_neg hb, if_neg (fun h => hb h.2)]
theorem wStep_sub (k : Nat) (c : List Nat) (i : Nat) (hi : i < c.length) : subL c (wStep k c i) := by
  intro l j h
  rw [wStep_get k c i l hi]
  split
  · rename_i h1
    obtain ⟨rfl, _⟩ := h1
    rw [Nat.testBit_or, h]; rfl
  · exact h
theorem subL.trans {a b c : List Nat} (h : subL a b) (k : subL b c) : subL a c := fun i j hb => k i j (h i j hb)
theorem wRow_sub (c : List Nat) (k : Nat) : ∀ j, j ≤ c.length → subL c (wRow c k j)
  | 0, _ => fun _ _ h => h
  | j + 1, hj => by
    rw [wRow_succ]
    exact (wRow_sub c k j (by omega)).trans (wStep_sub k _ j (by rw [wRow_length]; omega))
theorem wAll_sub (a : List Nat) : ∀ k, subL a (wAll a k)
  | 0 => fun _ _ h => h
  | k + 1 => by
    rw [wAll_succ]
    exact (wAll_sub a k).trans (wRow_sub _ k _ (Nat.le_refl _))
/-- A transitive relation stays as it is. -/
theorem wAll_same {a : List Nat} (h : ∀ x y z, (a.getD x 0).testBit y = true → (a.getD y 0).testBit z = true → (a.getD x 0).testBit z = true) : ∀ k, wAll a k = a
  | 0 => rfl
  | k + 1 => by
    rw [wAll_succ, wAll_same h k]
    have key : ∀ j, j ≤ a.length → wRow a k j = a := by
      intro j
      induction j with
      | zero => intro _; rfl
      | succ j ih =>
        intro hj
        rw [wRow_succ, ih (by omega)]
        unfold wStep
        split
        · rename_i hb
          have hor : a.getD j 0 ||| a.getD k 0 = a.getD j 0 := by
            apply Nat.eq_of_testBit_eq
            intro z
            rw [Nat.testBit_or]
            cases hz : (a.getD j 0).testBit z
            · cases hz2 : (a.getD k 0).testBit z
              · rfl
              · rw [h j k z hb hz2] at hz; cases hz
            · rfl
          rw [hor]
          apply List.ext_getElem
          · simp
          · intro i h1 h2
            rw [List.getElem_set]
            split
            · rename_i e; subst e; simp [List.getD_eq_getElem?_getD, h2]
            · rfl
        · rfl
    exact key _ (Nat.le_refl _)
/-- What the steps leave as it is is transitive. -/
theorem wAll_trans {a : List Nat} {n : Nat} (hn : a.length = n) (he : wAll a n = a) : ∀ x y z, x < n → y < n → (a.getD x 0).testBit y = true → (a.getD y 0).testBit z = true → (a.getD x 0).testBit z = true := by
  intro x y z hx hy h1 h2
  -- behind step (y, x) the row of x has that of y
  have hA := wAll_sub a y
  have hrow := wRow_sub (wAll a y) y x (by rw [wAll_length]; omega)
  have hle : ∀ k d, subL (wAll a k) (wAll a (k + d)) := by
    intro k d
    induction d with
    | zero => exact fun _ _ h => h
    | succ d ih => exact ih.trans (by rw [← Nat.add_assoc, wAll_succ]; exact wRow_sub _ _ _ (Nat.le_refl _))
  have hmono : ∀ c k j d, j + d ≤ c.length → subL (wRow c k j) (wRow c k (j + d)) := by
    intro c k j d
    induction d with
    | zero => exact fun _ _ _ h => h
    | succ d ih =>
      intro hd
      refine (ih (by omega)).trans ?_
      rw [← Nat.add_assoc, wRow_succ]
      exact wStep_sub k _ _ (by rw [wRow_length]; omega)
  have hstep : ((wRow (wAll a y) y (x + 1)).getD x 0).testBit z = true := by
    rw [wRow_succ, wStep_get _ _ _ _ (by rw [wRow_length, wAll_length]; omega), if_pos ⟨rfl, hrow _ _ (hA _ _ h1)⟩, Nat.testBit_or, hrow _ _ (hA _ _ h2), Bool.or_true]
  have h3 : ((wAll a (y + 1)).getD x 0).testBit z = true := by
    rw [wAll_succ, wAll_length]
    have := hmono (wAll a y) y (x + 1) (a.length - (x + 1)) (by rw [wAll_length]; omega) _ _ hstep
    rwa [show x + 1 + (a.length - (x + 1)) = a.length by omega] at this
  have h4 := hle (y + 1) (n - (y + 1)) _ _ h3
  rw [show y + 1 + (n - (y + 1)) = n by omega, he] at h4
  exact h4
end Go.Vc
namespace Go.Proofs.YtikfhibcdhdglaaGreat
open Go.Vc
theorem getD_of_lt {l : List Nat} {j : Nat} (h : j < l.length) : l.getD j 0 = l[j] := by simp [List.getD_eq_getElem?_getD, h]
theorem invL_getD (a : List Nat) (n k : Nat) (ms : List Nat) (j y : Nat) (hy : y < n) : (invL a n k ms j).getD y 0 = if (ms.take j).contains y then invC a k y ||| 2 ^ k else invC a k y := by simp [invL, hy]
theorem ints_nats_set (l : List Nat) (y x : Nat) : ints (nats (l.set y x)) = (ints (nats l)).set y (.int .i64 (x : Int)) := by simp [ints, nats, List.map_set]
theorem ints_nats_get (l : List Nat) (y : Nat) (h : y < l.length) : (ints (nats l))[y]? = some (.int .i64 ((l.getD y 0 : Nat) : Int)) := by
  simp [ints, nats, List.getD_eq_getElem?_getD, h]
theorem ok_impl_inverse {f : Fr} (hf : f.ok) {v : Value} {w : World} (hs : SlN w v f.a) : Cal Tryz.prog f_impl_inverse #[v] w fun r w' => Ext w w' ∧ Ow w.heap.size t_i64 w' r (ints (nats (inv f))) := by
  have hf8 := hf.1
  have hfl := hf.2.1
  have hs0 := hs
  apply c_impl_inverse; unfold S_impl_inverse
  have hX := Ext.refl w
  ((with_reducible refine iLenN (by assumption) ?_))
  refine iMk (n := f.a.length) (by omega) (by omega) rfl fun c w1 hc h hC => ?_
  have hlc : w.heap.size ≤ c := by omega
  have hcl : c < w1.heap.size := hC.lt
  have hX := hX.trans h
  have hs := hs.ext h
  ((with_reducible refine iLenN (by assumption) ?_))
  have hrow0 : List.replicate f.a.length (Value.int .i64 0) = ints (nats ((List.range f.n).map fun y => invC f.a 0 y)) := by
    apply List.ext_getElem
    · simp [ints, nats, hfl]
    · intro i h1 h2
      simp [ints, nats, invC, setOf]
  rw [hrow0] at hC
  refine iLp (fun k : Nat => [.int .i64 (k : Int)]) (fun k w' => k ≤ f.n ∧ Ext w w' ∧ Blk t_i64 w' c (ints (nats ((List.range f.n).map fun y => invC f.a k y)))) (fun k => f.n - k) 0 rfl ⟨Nat.zero_le _, hX, hC⟩ ?_
  rintro k w3 Kn ⟨hk, hX, hC⟩ hKn
  have hs := hs0.ext hX
  (intro _; (try simp only [gx]); (with_reducible refine iLt ?_))
  refine iCndP (fun h4 => ?_) (fun h4 => ?_)
  · have hk1 : k < f.n := by omega
    have hgk := fr_lt63 hf k
    have hgk2 := hf.lt hk1
    ((with_reducible refine iIaNN (by assumption) ?_ (fun pa_ hpa_ => ?_)); omega; (with_reducible refine iLd (by assumption) ?_))
    refine iCall ((ok_impl_membersOf (f.a.getD k 0) (by omega) w3).mono ?_)
    rintro u w4 ⟨h, ho⟩
    have hcl3 := hC.lt
    have hX := hX.trans h
    have hC := hC.ext h
    have hms : SlN w4 u (mem (f.a.getD k 0)) := ho.sl
    have hml := popc_full (m := 8) (a := f.a.getD k 0) (by omega) hgk
    unfold popc at hml
    have hmlt : ∀ y ∈ mem (f.a.getD k 0), y < f.n := fun y hy => by
      have := (mem_mem (by omega)).1 hy
      rcases Nat.lt_or_ge y f.n with h' | h'
      · exact h'
      · rw [Nat.testBit_lt_two_pow (Nat.lt_of_lt_of_le hgk2 (Nat.pow_le_pow_right (by omega) h'))] at this; cases this
    have hcne : u.ownBlock ≠ some c := fun e => by have := (ho.blk c e).1; omega
    ((with_reducible refine iLenN (by assumption) ?_))
    rw [← invL_zero f.a f.n k (mem (f.a.getD k 0))] at hC
    refine iLp (fun j : Nat => [.int .i64 (j : Int)]) (fun j w' => j ≤ (mem (f.a.getD k 0)).length ∧ Ext w w' ∧ Ow w3.heap.size t_i64 w' u (ints (nats (mem (f.a.getD k 0)))) ∧ Blk t_i64 w' c (ints (nats (invL f.a f.n k (mem (f.a.getD k 0)) j)))) (fun j => (mem (f.a.getD k 0)).length - j) 0 rfl ⟨Nat.zero_le _, hX, ho, hC⟩ ?_
    rintro j w6 Kn2 ⟨hj, hX, ho, hC⟩ hKn2
    have hms : SlN w6 u (mem (f.a.getD k 0)) := ho.sl
    (intro _; (try simp only [gx]); (with_reducible refine iLt ?_))
    refine iCndP (fun h5 => ?_) (fun h5 => ?_)
    · have hj1 : j < (mem (f.a.getD k 0)).length := by omega
      have hy : (mem (f.a.getD k 0))[j] < f.n := hmlt _ (List.getElem_mem hj1)
      have hyy : (mem (f.a.getD k 0)).getD j 0 = (mem (f.a.getD k 0))[j] := getD_of_lt hj1
      have hlen : (invL f.a f.n k (mem (f.a.getD k 0)) j).length = f.n := invL_length _ _ _ _ _
      ((with_reducible refine iIaNN (by assumption) ?_ (fun pa_ hpa_ => ?_)); omega; (with_reducible refine iLd (by assumption) ?_))
      rw [hyy]
      refine iIaL (by omega) ?_
      refine iLdB hC (v := .int .i64 (((invL f.a f.n k (mem (f.a.getD k 0)) j).getD (mem (f.a.getD k 0))[j] 0 : Nat) : Int)) ?_ ?_
      · rw [Nat.zero_add]; exact ints_nats_get _ _ (by omega)
      refine iShlOne (by omega) ?_
      have hcur : (invL f.a f.n k (mem (f.a.getD k 0)) j).getD (mem (f.a.getD k 0))[j] 0 < 2 ^ 9 := by
        have e1 : (invL f.a f.n k (mem (f.a.getD k 0)) j).getD (mem (f.a.getD k 0))[j] 0 = if ((mem (f.a.getD k 0)).take j).contains (mem (f.a.getD k 0))[j] then invC f.a k (mem (f.a.getD k 0))[j] ||| 2 ^ k else invC f.a k (mem (f.a.getD k 0))[j] := invL_getD _ _ _ _ _ _ hy
        rw [e1]
        have i1 : invC f.a k (mem (f.a.getD k 0))[j] < 2 ^ 9 := Nat.lt_of_lt_of_le (invC_lt _ _ _) (Nat.pow_le_pow_right (by omega) (by omega))
        split
        · exact Nat.or_lt_two_pow i1 (Nat.pow_lt_pow_right (by omega) (by omega))
        · exact i1
      have h2k : 2 ^ k < 2 ^ 9 := Nat.pow_lt_pow_right (by omega) (by omega)
      refine iBOr (by omega) (by omega) ?_
      refine iIaL (by omega) ?_
      intro w7 h
      have hX := hX.trans h
      have ho := ho.ext h
      have hC := hC.ext h
      refine iStB hC (by rw [ints_length, nats_length, hlen]; omega) rfl fun hC' => ?_
      have hu := Upd.setCell w7 c (0 + (mem (f.a.getD k 0))[j]) (.int .i64 (((invL f.a f.n k (mem (f.a.getD k 0)) j).getD (mem (f.a.getD k 0))[j] 0 ||| 2 ^ k : Nat) : Int))
      have hX := hX.upd hu hlc
      have ho := ho.upd hu hcne
      have e1 : (ints (nats (invL f.a f.n k (mem (f.a.getD k 0)) j))).set (0 + (mem (f.a.getD k 0))[j]) (.int .i64 (((invL f.a f.n k (mem (f.a.getD k 0)) j).getD (mem (f.a.getD k 0))[j] 0 ||| 2 ^ k : Nat) : Int)) = ints (nats (invL f.a f.n k (mem (f.a.getD k 0)) (j + 1))) := by
        rw [Nat.zero_add, ← invL_step f.a f.n k _ j hj1]
        exact (ints_nats_set _ _ _).symm
      rw [e1] at hC'
      intro w9 h
      have hC := hC'.ext h
      have hX := hX.trans h
      have ho := ho.ext h
      (refine iAdd (by omega) ?_)
      exact hKn2 (j + 1) _ ⟨by omega, hX, ho, hC⟩ (by omega)
    · obtain rfl : j = (mem (f.a.getD k 0)).length := by omega
      (refine iAdd (by omega) ?_)
      rw [invL_full f.a f.n k (by omega)] at hC
      exact hKn (k + 1) _ ⟨by omega, hX, hC⟩ (by omega)
  · obtain rfl : k = f.n := by omega
    exact ⟨hX, Ow.ofBlk hC hlc (by rw [ints_length, nats_length, hfl]; simp [inv]) (by omega)⟩
theorem ok_slices_Equal_Si64_i64 {v v' : Value} {w : World} {l l' : List Int} (hs : SlI w v l) (hs' : SlI w v' l') : Ret Tryz.prog f_slices_Equal_Si64_i64 #[v, v'] w (.bool (decide (l = l'))) := by
  have hl := hs.len
  have hl' := hs'.len
  apply c_slices_Equal_Si64_i64; unfold S_slices_Equal_Si64_i64
  ((with_reducible refine iLenI (by assumption) ?_; refine iLenI (by assumption) ?_; refine iNe ?_))
  refine iCndP (fun h => ?_) (fun h => ?_)
  · refine ⟨?_, Ext.refl _⟩
    rw [decide_eq_false]
    rintro rfl
    exact h rfl
  · ((with_reducible refine iLenI (by assumption) ?_))
    have hll : l.length = l'.length := by omega
    refine iLp (fun k : Nat => [.int .i64 (k : Int)]) (fun k w' => k ≤ l.length ∧ Ext w w' ∧ l.take k = l'.take k) (fun k => l.length - k) 0 rfl ⟨Nat.zero_le _, Ext.refl _, by simp⟩ ?_
    rintro k w2 Kn ⟨hk, h2, hk2⟩ hKn
    have hs2 := hs.ext h2
    have hs2' := hs'.ext h2
    (intro _; (try simp only [gx]); (with_reducible refine iLt ?_))
    refine iCndP (fun h3 => ?_) (fun h3 => ?_)
    · have hk1 : k < l.length := by omega
      ((with_reducible refine iIaN (by assumption) ?_ (fun pa_ hpa_ => ?_)); omega; (with_reducible refine iLd (by assumption) ?_); (with_reducible refine iIaN (by assumption) ?_ (fun pa_ hpa_ => ?_)); omega; (with_reducible refine iLd (by assumption) ?_; refine iNe ?_))
      intro w3 h4
      refine iCndP (fun h5 => ?_) (fun h5 => ?_)
      · refine ⟨?_, h2.trans h4⟩
        rw [decide_eq_false]
        rintro rfl
        exact h5 rfl
      · (refine iAdd (by omega) ?_)
        refine hKn (k + 1) _ ⟨by omega, h2.trans h4, ?_⟩ (by omega)
        rw [List.take_succ_eq_append_getElem hk1, List.take_succ_eq_append_getElem (show k < l'.length by omega), hk2]
        have e1 : l.getD k 0 = l[k] := by simp [List.getD_eq_getElem?_getD, hk1]
        have e2 : l'.getD k 0 = l'[k]'(by omega) := by simp [List.getD_eq_getElem?_getD, show k < l'.length by omega]
        have h5 : l.getD k 0 = l'.getD k 0 := Decidable.not_not.1 h5
        rw [e1, e2] at h5
        rw [h5]
    · refine ⟨?_, h2⟩
      obtain rfl : k = l.length := by omega
      rw [List.take_length, hll, List.take_length] at hk2
      rw [decide_eq_true hk2]
theorem ok_impl_transitive {a : List Nat} {n : Nat} (hn : n ≤ 8) (hal : a.length = n) (hlt : ∀ x ∈ a, x < 2 ^ n) {v : Value} {w : World} (hs : SlN w v a) : Cal Tryz.prog f_impl_transitive #[v] w fun r w' => Ext w w' ∧ Ow w.heap.size t_i64 w' r (ints (nats (wAll a n))) := by
  apply c_impl_transitive; unfold S_impl_transitive
  refine iCall ((ok_slices_Clone_Si64_i64 (l := nats a) hs (by rw [nats_length]; omega)).mono ?_)
  rintro u w1 ⟨h, ho⟩
  have hX := h
  have hil : ∀ c : List Nat, (ints (nats c)).length = c.length := fun c => by rw [ints_length, nats_length]
  have hsl : SlN w1 u a := ho.sl
  ((with_reducible refine iLenN (by assumption) ?_))
  have hbnd : ∀ k j, ∀ x ∈ wRow (wAll a k) k j, x < 2 ^ n := by
    have hst : ∀ k (c : List Nat) i, (∀ x ∈ c, x < 2 ^ n) → ∀ x ∈ wStep k c i, x < 2 ^ n := by
      intro k c i hc x hx
      unfold wStep at hx
      split at hx
      · rcases List.mem_or_eq_of_mem_set hx with h1 | h1
        · exact hc x h1
        · rw [h1]; exact Nat.or_lt_two_pow (getD_lt_all hc (Nat.two_pow_pos n) _) (getD_lt_all hc (Nat.two_pow_pos n) _)
      · exact hc x hx
    have hrw : ∀ k (c : List Nat) j, (∀ x ∈ c, x < 2 ^ n) → ∀ x ∈ wRow c k j, x < 2 ^ n := by
      intro k c j hc
      induction j with
      | zero => exact hc
      | succ j ih => rw [wRow_succ]; exact hst k _ _ ih
    have hal : ∀ k, ∀ x ∈ wAll a k, x < 2 ^ n := by
      intro k
      induction k with
      | zero => exact hlt
      | succ k ih => rw [wAll_succ]; exact hrw k _ _ ih
    exact fun k j => hrw k _ j (hal k)
  refine iLp (fun k : Nat => [.int .i64 (k : Int)]) (fun k w' => k ≤ n ∧ Ext w w' ∧ Ow w.heap.size t_i64 w' u (ints (nats (wAll a k)))) (fun k => n - k) 0 rfl ⟨Nat.zero_le _, hX, ho⟩ ?_
  rintro k w3 Kn ⟨hk, hX, ho⟩ hKn
  have hkl : (wAll a k).length = n := by rw [wAll_length, hal]
  have hsl : SlN w3 u (wAll a k) := ho.sl
  (intro _; (try simp only [gx]); (with_reducible refine iLt ?_))
  refine iCndP (fun h4 => ?_) (fun h4 => ?_)
  · have hk1 : k < n := by omega
    ((with_reducible refine iLenN (by assumption) ?_))
    refine iLp (fun j : Nat => [.int .i64 (j : Int)]) (fun j w' => j ≤ n ∧ Ext w w' ∧ Ow w.heap.size t_i64 w' u (ints (nats (wRow (wAll a k) k j)))) (fun j => n - j) 0 rfl ⟨Nat.zero_le _, hX, ho⟩ ?_
    rintro j w5 Kn2 ⟨hj, hX, ho⟩ hKn2
    have hjl : (wRow (wAll a k) k j).length = n := by rw [wRow_length, hkl]
    have hsl : SlN w5 u (wRow (wAll a k) k j) := ho.sl
    (intro _; (try simp only [gx]); (with_reducible refine iLt ?_))
    refine iCndP (fun h5 => ?_) (fun h5 => ?_)
    · have hj1 : j < n := by omega
      have h28 : 2 ^ n ≤ 2 ^ 8 := Nat.pow_le_pow_right (by omega) hn
      have g1 := getD_lt_all (hbnd k j) (Nat.two_pow_pos n) j
      have g2 := getD_lt_all (hbnd k j) (Nat.two_pow_pos n) k
      ((with_reducible refine iIaNN (by assumption) ?_ (fun pa_ hpa_ => ?_)); omega; (with_reducible refine iLd (by assumption) ?_))
      refine iRet (ok_impl_has _ k (by omega) (by omega) w5) fun w6 h => ?_
      have hX := hX.trans h
      have ho := ho.ext h
      have hsl : SlN w6 u (wRow (wAll a k) k j) := ho.sl
      have hstep := wRow_succ (wAll a k) k j
      refine iCnd (fun h6 => ?_) (fun h6 => ?_)
      · have e1 : wRow (wAll a k) k (j + 1) = (wRow (wAll a k) k j).set j ((wRow (wAll a k) k j).getD j 0 ||| (wRow (wAll a k) k j).getD k 0) := by
          rw [hstep]; unfold wStep; rw [if_pos h6]
        ((with_reducible refine iIaNN (by assumption) ?_ (fun pa_ hpa_ => ?_)); omega; (with_reducible refine iLd (by assumption) ?_); (with_reducible refine iIaNN (by assumption) ?_ (fun pa_ hpa_ => ?_)); omega; (with_reducible refine iLd (by assumption) ?_))
        refine iBOr (by omega) (by omega) ?_
        refine iIaOwE ho (by rw [hil]; omega) fun b hb hwr => ?_
        intro w7 h
        have hX := hX.trans h
        have ho := ho.ext h
        obtain ⟨hc1, hc2, hc3⟩ := hwr w7 _ rfl ho
        rw [List.getElem?_eq_getElem (by rw [hil]; omega)] at hc1
        refine iSt hc1 hc2 rfl ?_
        have ho := hc3 (.int .i64 (((wRow (wAll a k) k j).getD j 0 ||| (wRow (wAll a k) k j).getD k 0 : Nat) : Int))
        rw [← ints_nats_set, ← e1] at ho
        have hu := Upd.setCell w7 b j (.int .i64 (((wRow (wAll a k) k j).getD j 0 ||| (wRow (wAll a k) k j).getD k 0 : Nat) : Int))
        have hX := hX.upd hu (ho.blk b hb).1
        intro w9 h
        have hX := hX.trans h
        have ho := ho.ext h
        (refine iAdd (by omega) ?_)
        exact hKn2 (j + 1) _ ⟨by omega, hX, ho⟩ (by omega)
      · (refine iAdd (by omega) ?_)
        refine hKn2 (j + 1) _ ⟨by omega, hX, ?_⟩ (by omega)
        have e1 : wRow (wAll a k) k (j + 1) = wRow (wAll a k) k j := by
          rw [hstep]; unfold wStep; rw [if_neg (by rw [h6]; simp)]
        rw [e1]; exact ho
    · obtain rfl : j = n := by omega
      (refine iAdd (by omega) ?_)
      refine hKn (k + 1) _ ⟨by omega, hX, ?_⟩ (by omega)
      rw [wAll_succ, hkl]; exact ho
  · obtain rfl : k = n := by omega
    exact ⟨hX, ho⟩
theorem ok_impl_Frame_everyWorld {n : Nat} {fv u : Value} (p : Nat → Bool) (hn : n ≤ 1000) (w : World) (hf : ∀ w', Ext w w' → ∀ x, x < n → callV Tryz.prog fv [.int .i64 (x : Int)] w' fun r w'' => r = .bool (p x) ∧ Ext w' w'') : Ret Tryz.prog f_impl_Frame_everyWorld #[.agg #[.int .i64 (n : Int), u], fv] w (.bool ((List.range n).all p)) := by
  apply c_impl_Frame_everyWorld; unfold S_impl_Frame_everyWorld
  refine iNew fun b w1 hb h hB => ?_
  ((with_reducible refine iFa ?_); refine iLdB (by assumption) (by first | rfl | simp) ?_)
  refine iLp (fun k : Nat => [.int .i64 (k : Int)]) (fun k w' => k ≤ n ∧ Ext w w' ∧ ∀ x, x < k → p x = true) (fun k => n - k) 0 rfl ⟨Nat.zero_le _, h, fun x hx => by omega⟩ ?_
  rintro k w2 Kn ⟨hk, h2, hk2⟩ hKn
  (intro _; (try simp only [gx]); (with_reducible refine iLt ?_))
  refine iCndP (fun h3 => ?_) (fun h3 => ?_)
  · have hk1 : k < n := by omega
    refine (hf w2 h2 k hk1).mono ?_
    rintro _ w4 ⟨rfl, h4⟩
    ((with_reducible refine iNot ?_))
    cases hp : p k
    · refine iCndT rfl ?_
      refine ⟨?_, h2.trans h4⟩
      have : (List.range n).all p = false := by
        rw [List.all_eq_false]
        exact ⟨k, List.mem_range.2 hk1, by rw [hp]; simp⟩
      rw [this]
    · refine iCndF rfl ?_
      (refine iAdd (by omega) ?_)
      refine hKn (k + 1) _ ⟨by omega, h2.trans h4, fun x hx => ?_⟩ (by omega)
      by_cases hxk : x < k
      · exact hk2 x hxk
      · obtain rfl : x = k := by omega
        exact hp
  · refine ⟨?_, h2⟩
    have : (List.range n).all p = true := by
      rw [List.all_eq_true]
      exact fun x hx => hk2 x (by have := List.mem_range.1 hx; omega)
    rw [this]
end Go.Proofs.YtikfhibcdhdglaaGreat

/- Contracts: posets. Conditions: none. -/
namespace Go.Vc
theorem fr_bit_lt {f : Fr} (hf : f.ok) {x y : Nat} (h : (f.a.getD x 0).testBit y = true) : x < f.n ∧ y < f.n := by
  have hx : x < f.n := by
    rcases Nat.lt_or_ge x f.n with h' | h'
    · exact h'
    · rw [List.getD_eq_getElem?_getD, List.getElem?_eq_none (by rw [hf.2.1]; exact h')] at h
      simp at h
  refine ⟨hx, ?_⟩
  rcases Nat.lt_or_ge y f.n with h' | h'
  · exact h'
  · rw [Nat.testBit_lt_two_pow (Nat.lt_of_lt_of_le (hf.lt hx) (Nat.pow_le_pow_right (by omega) h'))] at h; cases h
theorem flagB_iff {t : Int} {f : Fr} : flagB t f = true ↔ ∀ x, x < f.n → flag1 t f x = true ∧ ∀ y, y < f.n → flag2 t f x y = true := by
  unfold flagB
  simp only [List.all_eq_true, List.mem_range, Bool.and_eq_true]
theorem flagB_refl {f : Fr} : flagB 0 f = (List.range f.n).all fun x => (f.a.getD x 0).testBit x := by
  rw [Bool.eq_iff_iff, flagB_iff]
  simp only [List.all_eq_true, List.mem_range]
  constructor
  · intro h x hx
    have := (h x hx).1
    unfold flag1 at this
    simpa using this
  · intro h x hx
    refine ⟨?_, fun y hy => ?_⟩
    · unfold flag1; rw [h x hx]; simp
    · unfold flag2; simp
theorem flagB_trans {f : Fr} (hf : f.ok) : flagB 2 f = true ↔ ∀ x y z, (f.a.getD x 0).testBit y = true → (f.a.getD y 0).testBit z = true → (f.a.getD x 0).testBit z = true := by
  rw [flagB_iff]
  constructor
  · intro h x y z h1 h2
    obtain ⟨hx, hy⟩ := fr_bit_lt hf h1
    have := (h x hx).1
    unfold flag1 at this
    simp only [decide_true, Bool.not_true, Bool.false_or, Bool.and_eq_true, decide_eq_true_eq] at this
    exact sdiff_eq_zero.1 this.2 z ((rowsK_bit _ _ _ _).2 ⟨y, hy, h1, h2⟩)
  · intro h x hx
    refine ⟨?_, fun y hy => ?_⟩
    · unfold flag1
      simp only [decide_true, Bool.not_true, Bool.false_or, Bool.and_eq_true, decide_eq_true_eq]
      refine ⟨by simp, sdiff_eq_zero.2 fun z hz => ?_⟩
      obtain ⟨y, _, h1, h2⟩ := (rowsK_bit _ _ _ _).1 hz
      exact h x y z h1 h2
    · unfold flag2; simp
theorem flagB_wAll {f : Fr} (hf : f.ok) : flagB 2 f = decide (wAll f.a f.n = f.a) := by
  rw [Bool.eq_iff_iff, flagB_trans hf, decide_eq_true_eq]
  constructor
  · exact fun h => wAll_same h f.n
  · intro h x y z h1 h2
    obtain ⟨hx, hy⟩ := fr_bit_lt hf h1
    exact wAll_trans hf.2.1 h x y z hx hy h1 h2
theorem flagB_anti {f : Fr} : flagB 8 f = (List.range f.n).all fun x => decide (sdiff (f.a.getD x 0 &&& invC f.a f.n x) (2 ^ x) = 0) := by
  rw [Bool.eq_iff_iff, flagB_iff]
  simp only [List.all_eq_true, List.mem_range, decide_eq_true_eq]
  constructor
  · intro h x hx
    rw [sdiff_eq_zero]
    intro y hy
    rw [Nat.testBit_and, invC_bit, Bool.and_eq_true, Bool.and_eq_true, decide_eq_true_eq] at hy
    have := (h x hx).2 y hy.2.1
    unfold flag2 at this
    rw [hy.1, hy.2.2] at this
    simp at this
    subst this
    rw [Nat.testBit_two_pow]; simp
  · intro h x hx
    refine ⟨by unfold flag1; simp, fun y hy => ?_⟩
    unfold flag2
    cases h1 : (f.a.getD x 0).testBit y
    · rfl
    · cases h2 : (f.a.getD y 0).testBit x
      · simp
      · have := sdiff_eq_zero.1 (h x hx) y (by rw [Nat.testBit_and, invC_bit, h1, h2]; simp [hy])
        rw [Nat.testBit_two_pow, decide_eq_true_eq] at this
        simp [this]
/-- A poset. -/
def poB (f : Fr) : Bool := flagB 0 f && (flagB 2 f && flagB 8 f)
end Go.Vc
namespace Go.Proofs.YtikfhibcdhdglaaGreat
open Go.Vc
theorem ok_impl_Frame_sees {f : Fr} (hf : f.ok) {v : Value} {w : World} (hs : SlN w v f.a) (x y : Nat) (hx : x < f.n) (hy : y ≤ 60) : Ret Tryz.prog f_impl_Frame_sees #[.agg #[.int .i64 (f.n : Int), v], .int .i64 (x : Int), .int .i64 (y : Int)] w (.bool ((f.a.getD x 0).testBit y)) := by
  have hfl := hf.2.1
  have hg := fr_lt63 hf x
  apply c_impl_Frame_sees; unfold S_impl_Frame_sees
  refine iNew fun b w1 hb h hB => ?_
  have hs := hs.ext h
  ((with_reducible refine iFa ?_); refine iLdB (by assumption) (by first | rfl | simp) ?_; (with_reducible refine iIaNN (by assumption) ?_ (fun pa_ hpa_ => ?_)); omega; (with_reducible refine iLd (by assumption) ?_))
  refine iRet (ok_impl_has _ y (by omega) (by omega) w1) fun w2 h2 => ?_
  exact ⟨rfl, h.trans h2⟩
theorem ok_impl_Frame_hasFlag {f : Fr} (hf : f.ok) {v : Value} {w : World} (hs : SlN w v f.a) (t : Int) (ht : t = 0 ∨ t = 2 ∨ t = 8) : Ret Tryz.prog f_impl_Frame_hasFlag #[.agg #[.int .i64 (f.n : Int), v], .int .i64 t] w (.bool (flagB t f)) := by
  have hf8 := hf.1
  have hfl := hf.2.1
  apply c_impl_Frame_hasFlag; unfold S_impl_Frame_hasFlag
  have hX := Ext.refl w
  have hs0 := hs
  refine iNew fun b2 w1 hb2 h hB => ?_
  have hlb2 : w.heap.size ≤ b2 := by have := hX.size; omega
  have hX := hX.trans h
  have hs := hs.ext h
  ((with_reducible refine iFa ?_); refine iLdB (by assumption) (by first | rfl | simp) ?_)
  refine iCall ((ok_impl_inverse hf hs).mono ?_)
  rintro u w2 ⟨h, ho⟩
  have hX := hX.trans h
  have hs := hs.ext h
  have hB := hB.ext h
  have hB : Blk _ w2 b2 [.int .i64 (f.n : Int), v] := hB
  refine iNew fun b5 w3 hb5 h hC => ?_
  have hlb5 : w.heap.size ≤ b5 := by have := hX.size; omega
  have hne : b2 ≠ b5 := by have := hB.lt; omega
  have hou : u.ownBlock ≠ some b5 := ho.lt (by omega)
  have hX := hX.trans h
  have hB := hB.ext h
  have ho := ho.ext h
  refine iStB hC (by simp [Value.cells]) ho.cell fun hC' => ?_
  have hu := Upd.setCell w3 b5 0 u
  have hX := hX.upd hu hlb5
  have hB := hB.upd hu hne
  have ho := ho.upd hu hou
  have hC : Blk _ (w3.setCell ⟨b5, 0, none⟩ u) b5 [u] := hC'
  ((with_reducible refine iEq ?_))
  have hcall : ∀ w', Ext (w3.setCell ⟨b5, 0, none⟩ u) w' → SlN w' v f.a ∧ Blk _ w' b2 [.int .i64 (f.n : Int), v] ∧ Blk _ w' b5 [u] ∧ SlN w' u (inv f) := fun w' h' => ⟨hs0.ext (hX.trans h'), hB.ext h', hC.ext h', (ho.ext h').sl⟩
  refine iCndP (fun h => ?_) (fun h0 => ?_)
  · subst h
    ((with_reducible refine iLdA (by assumption) ?_ ?_); rfl)
    refine iRet (ok_impl_Frame_everyWorld (n := f.n) (u := v) (fun x => (f.a.getD x 0).testBit x) (by omega) _ ?_) fun w5 h => ?_
    · intro w' h' x hx
      refine iClo rfl ?_
      obtain ⟨hs', hB', _, _⟩ := hcall w' h'
      refine c_impl_Frame_hasFlag_1 ?_
      show S_impl_Frame_hasFlag_1 (.int .i64 (x : Int)) (.pointer (some ⟨b2, 0, none⟩)) w' _
      unfold S_impl_Frame_hasFlag_1
      ((with_reducible refine iLdA (by assumption) ?_ ?_); rfl)
      refine iRet (ok_impl_Frame_sees hf hs' x x hx (by omega)) fun w4 h4 => ?_
      exact ⟨rfl, h4⟩
    · rw [flagB_refl]
      exact ⟨rfl, hX.trans h⟩
  · ((with_reducible refine iEq ?_))
    refine iCndP (fun h => absurd h (by omega)) (fun _ => ?_)
    ((with_reducible refine iEq ?_))
    refine iCndP (fun h2 => ?_) (fun h2 => ?_)
    · subst h2
      ((with_reducible refine iFa ?_); refine iLdB (by assumption) (by first | rfl | simp) ?_; (with_reducible refine iFa ?_); refine iLdB (by assumption) (by first | rfl | simp) ?_)
      intro w7 h
      have hX := hX.trans h
      refine iCall ((ok_impl_transitive hf.1 hf.2.1 hf.2.2 (hs0.ext hX)).mono ?_)
      rintro r w8 ⟨h, ho8⟩
      (try refine ⟨h, ?_⟩)
      have hX := hX.trans h
      refine iRetQ (fun w' h' => ok_slices_Equal_Si64_i64 (l := nats (wAll f.a f.n)) (l' := nats f.a) (ho8.ext h').sl (hs0.ext (hX.trans h'))) ?_
      intro w9 h
      refine ⟨?_, hX.trans h⟩
      rw [flagB_wAll hf]
      have hinj : (nats (wAll f.a f.n) = nats f.a) ↔ wAll f.a f.n = f.a := by
        constructor
        · intro h
          have h2 : ∀ c : List Nat, (nats c).map Int.toNat = c := fun c => by rw [nats, List.map_map]; exact List.map_id c
          have := congrArg (List.map Int.toNat) h
          rwa [h2, h2] at this
        · rintro h; rw [h]
      exact congrArg Value.bool (decide_eq_decide.2 hinj)
    · ((with_reducible refine iEq ?_))
      refine iCndP (fun h => absurd h (by omega)) (fun _ => ?_)
      ((with_reducible refine iEq ?_))
      refine iCndP (fun h => absurd h (by omega)) (fun _ => ?_)
      ((with_reducible refine iEq ?_))
      refine iCndP (fun h => absurd h (by omega)) (fun _ => ?_)
      ((with_reducible refine iEq ?_))
      refine iCndP (fun h => absurd h (by omega)) (fun _ => ?_)
      ((with_reducible refine iEq ?_))
      refine iCndP (fun h => absurd h (by omega)) (fun _ => ?_)
      ((with_reducible refine iEq ?_))
      refine iCndP (fun h8 => ?_) (fun h => absurd ht (by omega))
      subst h8
      ((with_reducible refine iLdA (by assumption) ?_ ?_); rfl)
      refine iRet (ok_impl_Frame_everyWorld (n := f.n) (u := v) (fun x => decide (sdiff (f.a.getD x 0 &&& invC f.a f.n x) (2 ^ x) = 0)) (by omega) _ ?_) fun w5 h => ?_
      · intro w' h' x hx
        refine iClo rfl ?_
        obtain ⟨hs', hB', hC', hi'⟩ := hcall w' h'
        have hil : (inv f).length = f.n := by simp [inv]
        refine c_impl_Frame_hasFlag_7 ?_
        show S_impl_Frame_hasFlag_7 (.int .i64 (x : Int)) (.pointer (some ⟨b2, 0, none⟩)) (.pointer (some ⟨b5, 0, none⟩)) w' _
        unfold S_impl_Frame_hasFlag_7
        have hg := fr_lt63 hf x
        have hi8 : invC f.a f.n x < 2 ^ 8 := Nat.lt_of_lt_of_le (invC_lt _ _ _) (Nat.pow_le_pow_right (by omega) hf8)
        have hand : f.a.getD x 0 &&& invC f.a f.n x < 2 ^ 8 := Nat.and_lt_two_pow _ hi8
        have h2x : 2 ^ x < 2 ^ 8 := Nat.pow_lt_pow_right (by omega) (by omega)
        ((with_reducible refine iFa ?_); refine iLdB (by assumption) (by first | rfl | simp) ?_; (with_reducible refine iIaNN (by assumption) ?_ (fun pa_ hpa_ => ?_)); omega; (with_reducible refine iLd (by assumption) ?_); refine iLdB (by assumption) (by first | rfl | simp) ?_; (with_reducible refine iIaNN (by assumption) ?_ (fun pa_ hpa_ => ?_)); omega; (with_reducible refine iLd (by assumption) ?_))
        rw [inv_get f x hx]
        refine iBAnd (by omega) (by omega) ?_
        refine iShlOne (by omega) ?_
        refine iRetQ (fun w'' _ => ok_impl_within _ _ (by omega) (by omega) w'') ?_
        intro w1' h1'
        exact ⟨rfl, h1'⟩
      · rw [flagB_anti]
        exact ⟨rfl, hX.trans h⟩
theorem ok_impl_frameOf' {v : Value} {w : World} {l : List Int} (hs : SlI w v l) : Ret Tryz.prog f_impl_frameOf #[v] w (.agg #[.int .i64 (l.length : Int), v]) := by
  apply c_impl_frameOf; unfold S_impl_frameOf
  have hX := Ext.refl w
  refine iNew fun b w1 hb h hB => ?_
  have hlb : w.heap.size ≤ b := by have := hX.size; omega
  have hX := hX.trans h
  have hs := hs.ext h
  refine iRet (ok_impl_size_i64 hs) fun w2 h => ?_
  rw [ints_length]
  have hX := hX.trans h
  have hB := hB.ext h
  obtain ⟨va, vc, rfl, _⟩ := id hs
  refine iBuild (cs := #[.int .i64 (l.length : Int), .slice va (ints l).length vc]) (by simp [Instr.fill, Value.cells]) ?_
  refine iStAB hB rfl rfl (by
    intro x hx
    simp at hx
    rcases hx with rfl | rfl <;> rfl) fun w3 hu hB => ?_
  have hX := hX.upd hu hlb
  ((with_reducible refine iLdA (by assumption) ?_ ?_); rfl)
  exact ⟨rfl, hX⟩
theorem ok_impl_Poset_frame {v : Value} {w : World} {l : List Int} (hs : SlI w v l) (n : Int) : Ret Tryz.prog f_impl_Poset_frame #[.agg #[.int .i64 n, v]] w (.agg #[.int .i64 (l.length : Int), v]) := by
  apply c_impl_Poset_frame; unfold S_impl_Poset_frame
  have hX := Ext.refl w
  refine iNew fun b1 w1 hb1 h hB1 => ?_
  have hX := hX.trans h
  have hs := hs.ext h
  refine iNew fun b2 w2 hb2 h hB2 => ?_
  have hlb2 : w.heap.size ≤ b2 := by have := hX.size; omega
  have hX := hX.trans h
  have hs := hs.ext h
  have hB1 := hB1.ext h
  ((with_reducible refine iFa ?_); refine iLdB (by assumption) (by first | rfl | simp) ?_)
  refine iRet (ok_impl_frameOf' hs) fun w3 h => ?_
  have hX := hX.trans h
  have hB2 := hB2.ext h
  obtain ⟨va, vc, rfl, _⟩ := id hs
  refine iStAB hB2 rfl rfl (by
    intro x hx
    simp at hx
    rcases hx with rfl | rfl <;> rfl) fun w4 hu hB2 => ?_
  have hX := hX.upd hu hlb2
  ((with_reducible refine iLdA (by assumption) ?_ ?_); rfl)
  exact ⟨rfl, hX⟩
/-- A poset, as it comes in. -/
def posetOk (n : Int) (l : List Int) : Bool := frameOk n l && poB (frOf n l)
theorem ok_impl_isPoset {v : Value} {w : World} {l : List Int} (hs : SlI w v l) (n : Int) : Ret Tryz.prog f_impl_isPoset #[.agg #[.int .i64 n, v]] w (.bool (posetOk n l)) := by
  apply c_impl_isPoset; unfold S_impl_isPoset
  have hX := Ext.refl w
  refine iNew fun b w1 hb h hB => ?_
  have hX := hX.trans h
  have hs := hs.ext h
  refine iJnB (!frameOk n l) w1 (fun J hJ => ?_) (fun w3 h => ?_)
  · ((with_reducible refine iFa ?_); refine iLdB (by assumption) (by first | rfl | simp) ?_)
    refine iRetQ (fun w' _ => ok_impl_inRange _ _ _ w') ?_
    ((with_reducible refine iNot ?_))
    refine iCnd (fun h3 => ?_) (fun h3 => ?_)
    · intro w4 h4
      have := hJ w4 h4
      unfold frameOk at this
      rw [Bool.not_eq_true'] at h3
      rwa [h3, Bool.false_and, Bool.false_and] at this
    · rw [Bool.not_eq_false'] at h3
      have h3' := of_decide_eq_true h3
      ((with_reducible refine iFa ?_); refine iLdB (by assumption) (by first | rfl | simp) ?_)
      refine iRetQ (fun w' h' => ok_impl_size_i64 (hs.ext h')) ?_
      rw [ints_length]
      ((with_reducible refine iFa ?_); refine iLdB (by assumption) (by first | rfl | simp) ?_; (with_reducible refine iNe ?_))
      refine iCndP (fun h4 => ?_) (fun h4 => ?_)
      · intro w4 h5
        have := hJ w4 h5
        unfold frameOk at this
        rwa [decide_eq_false h4, Bool.and_false, Bool.false_and] at this
      · have h4 : (l.length : Int) = n := Decidable.not_not.1 h4
        ((with_reducible refine iFa ?_); refine iLdB (by assumption) (by first | rfl | simp) ?_)
        refine iRetQ (fun w' h' => ok_impl_isRelation (hs.ext h')) ?_
        ((with_reducible refine iNot ?_))
        intro w4 h5
        have := hJ w4 h5
        unfold frameOk at this
        rw [h3, decide_eq_true h4, Bool.true_and, Bool.true_and] at this
        have e : n.toNat = l.length := by omega
        rw [e] at this
        simp only [show l.length ≤ 30 by omega, decide_true, Bool.true_and]
        exact this
  have hX := hX.trans h
  have hs := hs.ext h
  have hB := hB.ext h
  (intro _; (try simp only [gx]))
  unfold posetOk
  cases hfr : frameOk n l
  · refine iCndT rfl ?_
    exact ⟨rfl, hX⟩
  · refine iCndF rfl ?_
    obtain ⟨hf, hn, hl⟩ := frameOk_fr hfr
    generalize frOf n l = f at *
    subst hn; subst hl
    have hs0 := hs
    have hX0 := hX
    have hX := Ext.refl w3
    ((with_reducible refine iLdA (by assumption) ?_ ?_); rfl)
    refine iRet (ok_impl_Poset_frame hs _) fun w7 h => ?_
    have hlen : (nats f.a).length = f.n := by rw [nats_length, hf.2.1]
    rw [hlen]
    have hX := hX.trans h
    refine iNew fun b3 w8 hb3 h hC => ?_
    have hlb3 : w3.heap.size ≤ b3 := by have := hX.size; omega
    have hX := hX.trans h
    obtain ⟨va, vc, rfl, _⟩ := id hs
    refine iStAB hC rfl rfl (by
      intro x hx
      simp at hx
      rcases hx with rfl | rfl <;> rfl) fun w9 hu hC => ?_
    have hX := hX.upd hu hlb3
    refine iJnB (poB f) w9 (fun J hJ => ?_) (fun w11 h => ?_)
    · ((with_reducible refine iLdA (by assumption) ?_ ?_); rfl)
      refine iRet (ok_impl_Frame_hasFlag hf (hs0.ext hX) 0 (.inl rfl)) fun w12 h => ?_
      have hX := hX.trans h
      have hC := hC.ext h
      have hh := h
      cases h1 : flagB 0 f
      · refine iCndF rfl ?_
        have := hJ w12 hh
        unfold poB at this
        rwa [h1] at this
      · refine iCndT rfl ?_
        ((with_reducible refine iLdA (by assumption) ?_ ?_); rfl)
        refine iRet (ok_impl_Frame_hasFlag hf (hs0.ext hX) 2 (.inr (.inl rfl))) fun w13 h => ?_
        have hX := hX.trans h
        have hC := hC.ext h
        have hh := hh.trans h
        cases h2 : flagB 2 f
        · refine iCndF rfl ?_
          have := hJ w13 hh
          unfold poB at this
          rwa [h1, h2] at this
        · refine iCndT rfl ?_
          ((with_reducible refine iLdA (by assumption) ?_ ?_); rfl)
          refine iRet (ok_impl_Frame_hasFlag hf (hs0.ext hX) 8 (.inr (.inr rfl))) fun w14 h => ?_
          have := hJ w14 (hh.trans h)
          unfold poB at this
          rwa [h1, h2, Bool.true_and, Bool.true_and] at this
    · (intro _; (try simp only [gx]))
      exact ⟨rfl, hX0.trans (hX.trans h)⟩
theorem ok_spec_l16Is {v : Value} {w : World} {l : List Int} (hs : SlI w v l) (n : Int) : Ret Tryz.prog f_spec_l16Is #[.agg #[.int .i64 n, v]] w (.bool (posetOk n l)) := by
  apply c_spec_l16Is; unfold S_spec_l16Is
  have hX := Ext.refl w
  refine iNew fun b w1 hb h hB => ?_
  have hX := hX.trans h
  have hs := hs.ext h
  refine iJnB (!frameOk n l) w1 (fun J hJ => ?_) (fun w3 h => ?_)
  · ((with_reducible refine iFa ?_); refine iLdB (by assumption) (by first | rfl | simp) ?_)
    refine iRet (ok_spec_l01In _ _ _ w1) fun w4 h4 => ?_
    have hB := hB.ext h4
    have hs := hs.ext h4
    ((with_reducible refine iNot ?_))
    refine iCnd (fun h3 => ?_) (fun h3 => ?_)
    · have := hJ w4 h4
      unfold frameOk at this
      rw [Bool.not_eq_true'] at h3
      rwa [h3, Bool.false_and, Bool.false_and] at this
    · rw [Bool.not_eq_false'] at h3
      have h3' := of_decide_eq_true h3
      ((with_reducible refine iFa ?_); refine iLdB (by assumption) (by first | rfl | simp) ?_; (with_reducible refine iLenI (by assumption) ?_; refine iFa ?_); refine iLdB (by assumption) (by first | rfl | simp) ?_; (with_reducible refine iNe ?_))
      refine iCndP (fun h5 => ?_) (fun h5 => ?_)
      · have := hJ w4 h4
        unfold frameOk at this
        rwa [decide_eq_false h5, Bool.and_false, Bool.false_and] at this
      · have h5 : (l.length : Int) = n := Decidable.not_not.1 h5
        ((with_reducible refine iFa ?_); refine iLdB (by assumption) (by first | rfl | simp) ?_; (with_reducible refine iFa ?_); refine iLdB (by assumption) (by first | rfl | simp) ?_)
        obtain ⟨m, rfl⟩ := Int.eq_ofNat_of_zero_le h3'.1
        refine iRet (ok_spec_l01Masks hs m (by omega)) fun w5 h6 => ?_
        ((with_reducible refine iNot ?_))
        have := hJ w5 (h4.trans h6)
        unfold frameOk at this
        rwa [h3, decide_eq_true h5, Int.toNat_natCast, Bool.true_and, Bool.true_and] at this
  have hX := hX.trans h
  have hs := hs.ext h
  have hB := hB.ext h
  (intro _; (try simp only [gx]))
  unfold posetOk
  cases hfr : frameOk n l
  · refine iCndT rfl ?_
    exact ⟨rfl, hX⟩
  · refine iCndF rfl ?_
    obtain ⟨hf, hn, hl⟩ := frameOk_fr hfr
    generalize frOf n l = f at *
    subst hn; subst hl
    have hs0 := hs
    have hX0 := hX
    have hX := Ext.refl w3
    obtain ⟨va, vc, rfl, _⟩ := id hs
    ((with_reducible refine iFa ?_); refine iLdB (by assumption) (by first | rfl | simp) ?_; (with_reducible refine iFa ?_); refine iLdB (by assumption) (by first | rfl | simp) ?_)
    refine iBuild (cs := #[.int .i64 (f.n : Int), .slice va (ints (nats f.a)).length vc]) (by simp [Instr.fill, Value.cells]) ?_
    refine iNew fun b3 w8 hb3 h hC => ?_
    have hlb3 : w3.heap.size ≤ b3 := by have := hX.size; omega
    have hX := hX.trans h
    refine iStAB hC rfl rfl (by
      intro x hx
      simp at hx
      rcases hx with rfl | rfl <;> rfl) fun w9 hu hC => ?_
    have hX := hX.upd hu hlb3
    refine iJnB (poB f) w9 (fun J hJ => ?_) (fun w11 h => ?_)
    · ((with_reducible refine iLdA (by assumption) ?_ ?_); rfl)
      refine iRet (ok_spec_l05Flag hf (hs0.ext hX) 0 (.inl rfl)) fun w12 h => ?_
      have hX := hX.trans h
      have hC := hC.ext h
      have hh := h
      cases h1 : flagB 0 f
      · refine iCndF rfl ?_
        have := hJ w12 hh
        unfold poB at this
        rwa [h1] at this
      · refine iCndT rfl ?_
        ((with_reducible refine iLdA (by assumption) ?_ ?_); rfl)
        refine iRet (ok_spec_l05Flag hf (hs0.ext hX) 2 (.inr (.inl rfl))) fun w13 h => ?_
        have hX := hX.trans h
        have hC := hC.ext h
        have hh := hh.trans h
        cases h2 : flagB 2 f
        · refine iCndF rfl ?_
          have := hJ w13 hh
          unfold poB at this
          rwa [h1, h2] at this
        · refine iCndT rfl ?_
          ((with_reducible refine iLdA (by assumption) ?_ ?_); rfl)
          refine iRet (ok_spec_l05Flag hf (hs0.ext hX) 8 (.inr (.inr rfl))) fun w14 h => ?_
          have := hJ w14 (hh.trans h)
          unfold poB at this
          rwa [h1, h2, Bool.true_and, Bool.true_and] at this
    · (intro _; (try simp only [gx]))
      exact ⟨rfl, hX0.trans (hX.trans h)⟩
end Go.Proofs.YtikfhibcdhdglaaGreat

/- Plain facts on the reference's search for p-morphisms, which goes by depth and leaves elements open. No program in sight. Conditions: none. -/
namespace Go.Vc
/-- The images of a set, as far as they are known. -/
def imgP (im : List Int) (mask : Nat) : Nat := setOf (((mem mask).filter fun x => decide (0 ≤ im.getD x (-1))).map fun x => (im.getD x (-1)).toNat)
theorem imgP_bit {im : List Int} {mask j : Nat} (hm : mask < 2 ^ 63) : (imgP im mask).testBit j = true ↔ ∃ x, mask.testBit x = true ∧ im.getD x (-1) = (j : Int) := by
  unfold imgP
  rw [setOf_testBit, List.contains_iff_mem, List.mem_map]
  constructor
  · rintro ⟨x, hx, rfl⟩
    obtain ⟨h1, h2⟩ := List.mem_filter.1 hx
    refine ⟨x, (mem_mem hm).1 h1, ?_⟩
    have := of_decide_eq_true h2
    omega
  · rintro ⟨x, h1, h2⟩
    refine ⟨x, List.mem_filter.2 ⟨(mem_mem hm).2 h1, decide_eq_true (by omega)⟩, by rw [h2]; simp⟩
/-- Known images stay possible. -/
def openB (f g : Fr) (fix : List Int) (onto : Bool) (im : List Int) : Bool :=
  ((List.range f.n).all fun x => decide (0 ≤ im.getD x (-1)) || (List.range g.n).any fun y => decide (sdiff (imgP im (f.a.getD x 0)) (g.a.getD y 0) = 0) && (decide (fix.getD x 0 < 0) || decide (fix.getD x 0 = (y : Int)))) &&
  (!onto || decide (g.n ≤ popc (imgP im (2 ^ f.n - 1)) + ((List.range f.n).filter fun x => decide (im.getD x (-1) < 0)).length))
/-- The images once the first elements of an order have theirs. -/
def partL (n : Nat) (ord ys : List Nat) : List Int := (List.range n).map fun x => if ord.idxOf x < ys.length then ((ys.getD (ord.idxOf x) 0 : Nat) : Int) else -1
theorem part_get {n : Nat} {ord ys : List Nat} {x : Nat} (hx : x < n) : (partL n ord ys).getD x (-1) = if ord.idxOf x < ys.length then ((ys.getD (ord.idxOf x) 0 : Nat) : Int) else -1 := by
  simp [partL, hx]
def stepB (f g : Fr) (fix : List Int) (ord ys : List Nat) : Bool :=
  (decide (fix.getD (ord.getD (ys.length - 1) 0) 0 < 0) || decide (fix.getD (ord.getD (ys.length - 1) 0) 0 = ((ys.getD (ys.length - 1) 0 : Nat) : Int))) &&
  decide (imgP (partL f.n ord ys) (f.a.getD (ord.getD (ys.length - 1) 0) 0) = g.a.getD (ys.getD (ys.length - 1) 0) 0)
def okP (f g : Fr) (fix : List Int) (onto : Bool) (ord ys : List Nat) : Bool := stepB f g fix ord ys && openB f g fix onto (partL f.n ord ys)
/-- What the search finds, by the order. -/
def srch (f g : Fr) (fix : List Int) (onto : Bool) (ord : List Nat) (d : Nat) (ys : List Nat) : List (List Nat) :=
  if openB f g fix onto (partL f.n ord ys) then dfs (okP f g fix onto ord) g.n d ys else []
theorem srch_succ (f g : Fr) (fix : List Int) (onto : Bool) (ord : List Nat) (d : Nat) (ys : List Nat) (h : openB f g fix onto (partL f.n ord ys) = true) :
    srch f g fix onto ord (d + 1) ys = (List.range g.n).flatMap fun y => if stepB f g fix ord (ys ++ [y]) then srch f g fix onto ord d (ys ++ [y]) else [] := by
  unfold srch
  rw [if_pos h, dfs_succ]
  congr 1
  funext y
  unfold okP
  cases stepB f g fix ord (ys ++ [y]) <;> simp
/-- An order in which all that is above comes first. -/
structure OrdOk (f : Fr) (ord : List Nat) : Prop where
  len : ord.length = f.n
  lt : ∀ x ∈ ord, x < f.n
  all : ∀ x, x < f.n → x ∈ ord
  nodup : ord.Nodup
  top : ∀ x y, (f.a.getD x 0).testBit y = true → y ≠ x → ord.idxOf y < ord.idxOf x
theorem OrdOk.idx {f : Fr} {ord : List Nat} (h : OrdOk f ord) {x : Nat} (hx : x < f.n) : ord.idxOf x < f.n := by
  rw [← h.len]; exact List.idxOf_lt_length_of_mem (h.all x hx)
theorem OrdOk.at_idx {f : Fr} {ord : List Nat} (h : OrdOk f ord) {x : Nat} (hx : x < f.n) : ord.getD (ord.idxOf x) 0 = x := by
  have h1 : ord.idxOf x < ord.length := by rw [h.len]; exact h.idx hx
  simp [List.getD_eq_getElem?_getD, h1]
theorem OrdOk.idx_at {f : Fr} {ord : List Nat} (h : OrdOk f ord) {k : Nat} (hk : k < f.n) : ord.idxOf (ord.getD k 0) = k := by
  have h1 : k < ord.length := by rw [h.len]; exact hk
  have e : ord.getD k 0 = ord[k] := by simp [List.getD_eq_getElem?_getD, h1]
  rw [e]
  exact h.nodup.idxOf_getElem k h1
/-- What is asked of a map. -/
def fullP (f g : Fr) (fix : List Int) (onto : Bool) (F : List Nat) : Prop :=
  F.length = f.n ∧ (∀ y ∈ F, y < g.n) ∧ fullB f g onto false F ∧ ∀ x, x < f.n → fix.getD x 0 < 0 ∨ fix.getD x 0 = ((F.getD x 0 : Nat) : Int)
/-- The map by the order. -/
def byOrd (ord F : List Nat) : List Nat := ord.map fun x => F.getD x 0
/-- .. and back. -/
def unOrd (n : Nat) (ord ys : List Nat) : List Nat := (List.range n).map fun x => ys.getD (ord.idxOf x) 0
section
variable {f g : Fr} {fix : List Int} {onto : Bool} {ord : List Nat}
theorem unOrd_byOrd (ho : OrdOk f ord) {F : List Nat} (hF : F.length = f.n) : unOrd f.n ord (byOrd ord F) = F := by
  apply List.ext_getElem
  · simp [unOrd, hF]
  · intro x h1 h2
    have hx : x < f.n := by simpa [unOrd] using h1
    have h3 : ord.idxOf x < ord.length := by rw [ho.len]; exact ho.idx hx
    simp only [unOrd, byOrd, List.getElem_map, List.getElem_range]
    simp [List.getD_eq_getElem?_getD, h3, h2]
theorem byOrd_unOrd (ho : OrdOk f ord) {ys : List Nat} (hy : ys.length = f.n) : byOrd ord (unOrd f.n ord ys) = ys := by
  apply List.ext_getElem
  · simp [byOrd, ho.len, hy]
  · intro k h1 h2
    have hk : k < f.n := by omega
    have h3 : k < ord.length := by rw [ho.len]; exact hk
    have hx : ord[k] < f.n := ho.lt _ (List.getElem_mem h3)
    have e := ho.idx_at hk
    have e2 : ord.getD k 0 = ord[k] := by simp [List.getD_eq_getElem?_getD, h3]
    rw [e2] at e
    simp only [byOrd, unOrd, List.getElem_map]
    simp [List.getD_eq_getElem?_getD, hx, e, h2]
theorem byOrd_get (ho : OrdOk f ord) {F : List Nat} {x : Nat} (hx : x < f.n) : (byOrd ord F).getD (ord.idxOf x) 0 = F.getD x 0 := by
  have h3 : ord.idxOf x < ord.length := by rw [ho.len]; exact ho.idx hx
  simp [byOrd, List.getD_eq_getElem?_getD, h3]
theorem byOrd_at (ho : OrdOk f ord) {F : List Nat} {k : Nat} (hk : k < f.n) : (byOrd ord F).getD k 0 = F.getD (ord.getD k 0) 0 := by
  have h3 : k < ord.length := by rw [ho.len]; exact hk
  simp [byOrd, List.getD_eq_getElem?_getD, h3]
/-- The known part of a map. -/
theorem part_take (ho : OrdOk f ord) {F : List Nat} {k x : Nat} (hk : k ≤ f.n) (hx : x < f.n) : (partL f.n ord ((byOrd ord F).take k)).getD x (-1) = if ord.idxOf x < k then ((F.getD x 0 : Nat) : Int) else -1 := by
  have hl : ((byOrd ord F).take k).length = k := by rw [List.length_take, byOrd, List.length_map, ho.len]; omega
  rw [part_get hx, hl]
  split
  · rename_i h
    rw [getD_take h, byOrd_get ho hx]
  · rfl
theorem imgP_part (hf : f.ok) (ho : OrdOk f ord) {F : List Nat} (hF : F.length = f.n) {k : Nat} (hk : k ≤ f.n) {mask : Nat} (hm : mask < 2 ^ f.n) (j : Nat) :
    (imgP (partL f.n ord ((byOrd ord F).take k)) mask).testBit j = true ↔ ∃ x, x < f.n ∧ mask.testBit x = true ∧ ord.idxOf x < k ∧ F.getD x 0 = j := by
  have hm63 : mask < 2 ^ 63 := Nat.lt_of_lt_of_le hm (Nat.pow_le_pow_right (by omega) (by have := hf.1; omega))
  rw [imgP_bit hm63]
  have hlt : ∀ x, mask.testBit x = true → x < f.n := fun x hx => by
    rcases Nat.lt_or_ge x f.n with h | h
    · exact h
    · rw [Nat.testBit_lt_two_pow (Nat.lt_of_lt_of_le hm (Nat.pow_le_pow_right (by omega) h))] at hx; cases hx
  constructor
  · rintro ⟨x, h1, h2⟩
    have hx := hlt x h1
    rw [part_take ho hk hx] at h2
    split at h2
    · rename_i h3
      exact ⟨x, hx, h1, h3, by omega⟩
    · omega
  · rintro ⟨x, hx, h1, h3, h4⟩
    exact ⟨x, h1, by rw [part_take ho hk hx, if_pos h3, h4]⟩
/-- Whatever is above an element that has its image has its image too. -/
theorem imgP_above (hf : f.ok) (ho : OrdOk f ord) {F : List Nat} (hF : F.length = f.n) {k x : Nat} (hk : k ≤ f.n) (hx : x < f.n) (hxk : ord.idxOf x < k) : imgP (partL f.n ord ((byOrd ord F).take k)) (f.a.getD x 0) = img F (f.a.getD x 0) := by
  apply Nat.eq_of_testBit_eq
  intro j
  rw [Bool.eq_iff_iff, imgP_part hf ho hF hk (hf.lt hx), img_testBit]
  constructor
  · rintro ⟨y, h1, h2, _, h4⟩
    exact ⟨y, by omega, h2, h4⟩
  · rintro ⟨y, h1, h2, h4⟩
    refine ⟨y, by omega, h2, ?_, h4⟩
    by_cases hyx : y = x
    · rw [hyx]; exact hxk
    · exact Nat.lt_trans (ho.top x y h2 hyx) hxk
theorem left_part (ho : OrdOk f ord) {F : List Nat} {k : Nat} (hk : k ≤ f.n) : ((List.range f.n).filter fun x => decide ((partL f.n ord ((byOrd ord F).take k)).getD x (-1) < 0)) = (List.range f.n).filter fun x => decide (k ≤ ord.idxOf x) := by
  refine List.filter_congr fun x hx => ?_
  have hx := List.mem_range.1 hx
  rw [part_take ho hk hx, decide_eq_decide]
  split <;> omega
/-- A map's known part stays possible. -/
theorem full_open (hf : f.ok) (hg : g.ok) (ho : OrdOk f ord) {F : List Nat} (h : fullP f g fix onto F) {k : Nat} (hk : k ≤ f.n) : openB f g fix onto (partL f.n ord ((byOrd ord F).take k)) = true := by
  obtain ⟨hF, hlt, ⟨h1, h2, _⟩, h4⟩ := h
  unfold openB
  rw [Bool.and_eq_true, List.all_eq_true]
  refine ⟨fun x hx => ?_, ?_⟩
  · have hx := List.mem_range.1 hx
    rw [Bool.or_eq_true]
    right
    rw [List.any_eq_true]
    have hy := getD_lt hlt (show x < F.length by omega)
    refine ⟨F.getD x 0, List.mem_range.2 hy, ?_⟩
    rw [Bool.and_eq_true, Bool.or_eq_true, decide_eq_true_eq, decide_eq_true_eq, decide_eq_true_eq]
    refine ⟨?_, h4 x hx⟩
    rw [sdiff_eq_zero, ← h1 x hx]
    intro j hj
    obtain ⟨z, hz, hb, _, e⟩ := (imgP_part hf ho hF hk (hf.lt hx) j).1 hj
    exact (img_testBit _ _ _).2 ⟨z, by omega, hb, e⟩
  · cases onto
    · rfl
    · rw [Bool.not_true, Bool.false_or, decide_eq_true_eq, left_part ho hk, ← h2 rfl]
      -- all images: known ones and those of what is left
      have hsub : ∀ j, (setOf F).testBit j = true → (imgP (partL f.n ord ((byOrd ord F).take k)) (2 ^ f.n - 1) ||| setOf (((List.range f.n).filter fun x => decide (k ≤ ord.idxOf x)).map fun x => F.getD x 0)).testBit j = true := by
        intro j hj
        rw [setOf_testBit, List.contains_iff_mem] at hj
        obtain ⟨x, hx, rfl⟩ := List.getElem_of_mem hj
        have hx' : x < f.n := by omega
        have e : F.getD x 0 = F[x] := by simp [List.getD_eq_getElem?_getD, hx]
        rw [Nat.testBit_or, Bool.or_eq_true]
        by_cases hk2 : ord.idxOf x < k
        · left
          rw [imgP_part hf ho hF hk (by have := Nat.two_pow_pos f.n; omega)]
          exact ⟨x, hx', by rw [full_testBit]; simpa using hx', hk2, e⟩
        · right
          rw [setOf_testBit, List.contains_iff_mem, List.mem_map]
          exact ⟨x, List.mem_filter.2 ⟨List.mem_range.2 hx', decide_eq_true (by omega)⟩, e⟩
      refine Nat.le_trans (popc_mono hsub) ?_
      have key : ∀ (r : List Nat) (a : Nat), (∀ y ∈ r, y < 63) → popc (a ||| setOf r) ≤ popc a + r.length := by
        intro r
        have h0 : ∀ (r : List Nat) (a : Nat), (∀ y ∈ r, y < 63) → popc (r.foldl (fun a y => a ||| 2 ^ y) a) ≤ popc a + r.length := by
          intro r
          induction r with
          | nil => intro a _; simp
          | cons x r ih =>
            intro a h
            rw [List.foldl_cons]
            have h1 := ih (a ||| 2 ^ x) (fun y hy => h y (by simp [hy]))
            have h2 := popc_or_one a x (h x (by simp))
            rw [List.length_cons]
            split at h2 <;> omega
        intro a hr
        have e : a ||| setOf r = r.foldl (fun a y => a ||| 2 ^ y) a := by
          apply Nat.eq_of_testBit_eq
          intro j
          rw [Nat.testBit_or, setOf_testBit, foldl_or_testBit]
        rw [e]; exact h0 r a hr
      have := key (((List.range f.n).filter fun x => decide (k ≤ ord.idxOf x)).map fun x => F.getD x 0) (imgP (partL f.n ord ((byOrd ord F).take k)) (2 ^ f.n - 1)) (fun y hy => by
        obtain ⟨x, hx, rfl⟩ := List.mem_map.1 hy
        have hx := List.mem_range.1 (List.mem_filter.1 hx).1
        have := getD_lt hlt (show x < F.length by omega)
        have := hg.1
        omega)
      rwa [List.length_map] at this
theorem full_step (hf : f.ok) (ho : OrdOk f ord) {F : List Nat} (h : fullP f g fix onto F) {k : Nat} (hk : k < f.n) : stepB f g fix ord ((byOrd ord F).take (k + 1)) = true := by
  obtain ⟨hF, hlt, ⟨h1, _, _⟩, h4⟩ := h
  have hl : ((byOrd ord F).take (k + 1)).length = k + 1 := by rw [List.length_take, byOrd, List.length_map, ho.len]; omega
  have hx : ord.getD k 0 < f.n := by
    have h3 : k < ord.length := by rw [ho.len]; exact hk
    have e : ord.getD k 0 = ord[k] := by simp [List.getD_eq_getElem?_getD, h3]
    rw [e]; exact ho.lt _ (List.getElem_mem h3)
  unfold stepB
  rw [hl, Nat.add_sub_cancel, getD_take (by omega), byOrd_at ho hk, Bool.and_eq_true, Bool.or_eq_true, decide_eq_true_eq, decide_eq_true_eq, decide_eq_true_eq]
  refine ⟨h4 _ hx, ?_⟩
  rw [imgP_above hf ho hF (by omega) hx (by rw [ho.idx_at hk]; omega), h1 _ hx]
/-- The search finds just the maps. -/
theorem mem_srch (hf : f.ok) (hg : g.ok) (ho : OrdOk f ord) (ys : List Nat) : ys ∈ srch f g fix onto ord f.n [] ↔ ys.length = f.n ∧ fullP f g fix onto (unOrd f.n ord ys) := by
  unfold srch
  constructor
  · intro h
    split at h
    · rename_i hop
      rw [dfs_eq, List.mem_filter] at h
      obtain ⟨hex, hall⟩ := h
      obtain ⟨hl, _, hlt⟩ := exts_spec _ _ _ _ hex
      simp only [List.length_nil, Nat.zero_add, List.drop_zero] at hl hlt
      simp only [List.all_eq_true, List.mem_range, List.length_nil, Nat.zero_add] at hall
      refine ⟨hl, ?_⟩
      have hF : (unOrd f.n ord ys).length = f.n := by simp [unOrd]
      have hys : ys = byOrd ord (unOrd f.n ord ys) := (byOrd_unOrd ho hl).symm
      have hFlt : ∀ y ∈ unOrd f.n ord ys, y < g.n := by
        intro y hy
        obtain ⟨x, hx, rfl⟩ := List.mem_map.1 hy
        exact getD_lt hlt (by rw [hl]; exact ho.idx (List.mem_range.1 hx))
      have hstep : ∀ x, x < f.n → stepB f g fix ord (ys.take (ord.idxOf x + 1)) = true := fun x hx => by
        have := hall (ord.idxOf x) (ho.idx hx)
        unfold okP at this
        rw [Bool.and_eq_true] at this
        exact this.1
      have hget : ∀ x, x < f.n → (unOrd f.n ord ys).getD x 0 = ys.getD (ord.idxOf x) 0 := fun x hx => by simp [unOrd, hx]
      have hone : ∀ x, x < f.n → (fix.getD x 0 < 0 ∨ fix.getD x 0 = (((unOrd f.n ord ys).getD x 0 : Nat) : Int)) ∧ img (unOrd f.n ord ys) (f.a.getD x 0) = g.a.getD ((unOrd f.n ord ys).getD x 0) 0 := fun x hx => by
        have h1 := hstep x hx
        have hlt2 := ho.idx hx
        have hl2 : (ys.take (ord.idxOf x + 1)).length = ord.idxOf x + 1 := by rw [List.length_take]; omega
        unfold stepB at h1
        rw [hl2, Nat.add_sub_cancel, getD_take (by omega), ho.at_idx hx, Bool.and_eq_true, Bool.or_eq_true, decide_eq_true_eq, decide_eq_true_eq, decide_eq_true_eq] at h1
        rw [hget x hx]
        refine ⟨h1.1, ?_⟩
        rw [← h1.2, ← imgP_above hf ho hF (k := ord.idxOf x + 1) (by omega) hx (by omega), ← hys]
      refine ⟨hF, hFlt, ⟨fun x hx => (hone x hx).2, fun honto => ?_, fun h => by cases h⟩, fun x hx => (hone x hx).1⟩
      have hlast : openB f g fix onto (partL f.n ord (ys.take f.n)) = true := by
        by_cases hn : f.n = 0
        · rw [hn, List.take_zero]; rw [hn] at hop; exact hop
        · have := hall (f.n - 1) (by omega)
          rw [show f.n - 1 + 1 = f.n by omega] at this
          unfold okP at this
          rw [Bool.and_eq_true] at this
          exact this.2
      unfold openB at hlast
      rw [Bool.and_eq_true, honto, Bool.not_true, Bool.false_or, decide_eq_true_eq] at hlast
      have hleft := left_part (F := unOrd f.n ord ys) ho (Nat.le_refl f.n)
      rw [← hys] at hleft
      rw [hleft] at hlast
      have hnone : ((List.range f.n).filter fun x => decide (f.n ≤ ord.idxOf x)) = [] := by
        rw [List.filter_eq_nil_iff]
        intro x hx
        have := ho.idx (List.mem_range.1 hx)
        simp; omega
      rw [hnone, List.length_nil, Nat.add_zero] at hlast
      have hsame : imgP (partL f.n ord (ys.take f.n)) (2 ^ f.n - 1) = setOf (unOrd f.n ord ys) := by
        apply Nat.eq_of_testBit_eq
        intro j
        have hb := imgP_part hf ho hF (Nat.le_refl f.n) (mask := 2 ^ f.n - 1) (by have := Nat.two_pow_pos f.n; omega) j
        rw [← hys] at hb
        rw [Bool.eq_iff_iff, hb, setOf_testBit, List.contains_iff_mem]
        constructor
        · rintro ⟨x, hx, _, _, rfl⟩
          exact getD_mem (by omega)
        · intro hj
          obtain ⟨x, hx, e⟩ := List.getElem_of_mem hj
          have hx' : x < f.n := by omega
          exact ⟨x, hx', by rw [full_testBit]; simpa using hx', ho.idx hx', by rw [← e]; simp [List.getD_eq_getElem?_getD, hx]⟩
      rw [hsame] at hlast
      have := popc_full (m := g.n) (by have := hg.1; omega) (setOf_lt hFlt)
      omega
    · cases h
  · rintro ⟨hl, h⟩
    have hys : ys = byOrd ord (unOrd f.n ord ys) := (byOrd_unOrd ho hl).symm
    have hop0 := full_open hf hg ho h (Nat.zero_le f.n)
    rw [List.take_zero] at hop0
    rw [if_pos hop0, dfs_eq, List.mem_filter]
    refine ⟨?_, ?_⟩
    · have key : ∀ (d : Nat) (im l : List Nat), l.length = d → (∀ y ∈ l, y < g.n) → im ++ l ∈ exts g.n d im := by
        intro d
        induction d with
        | zero => intro im l h0 _; simp [exts, List.length_eq_zero_iff.1 h0]
        | succ d ih =>
          intro im l h0 hlt
          obtain ⟨y, r, rfl⟩ : ∃ y r, l = y :: r := by
            cases l with
            | nil => simp at h0
            | cons y r => exact ⟨y, r, rfl⟩
          simp only [exts, List.mem_flatMap, List.mem_range]
          refine ⟨y, hlt y (by simp), ?_⟩
          have := ih (im ++ [y]) r (by simpa using h0) (fun z hz => hlt z (by simp [hz]))
          simpa using this
      have := key f.n [] ys hl (fun y hy => by
        obtain ⟨k, hk, rfl⟩ := List.getElem_of_mem hy
        have hk' : k < f.n := by omega
        have h3 : k < ord.length := by rw [ho.len]; exact hk'
        have hx : ord[k] < f.n := ho.lt _ (List.getElem_mem h3)
        have e1 := byOrd_at (F := unOrd f.n ord ys) ho hk'
        rw [← hys] at e1
        have e2 : ys.getD k 0 = ys[k] := by simp [List.getD_eq_getElem?_getD, hk]
        have e3 : ord.getD k 0 = ord[k] := by simp [List.getD_eq_getElem?_getD, h3]
        rw [← e2, e1, e3]
        exact getD_lt h.2.1 (by rw [h.1]; exact hx))
      simpa using this
    · simp only [List.all_eq_true, List.mem_range, List.length_nil, Nat.zero_add]
      intro j hj
      unfold okP
      rw [Bool.and_eq_true]
      have h1 := full_step hf ho h hj
      have h2 := full_open hf hg ho h (k := j + 1) (by omega)
      rw [← hys] at h1 h2
      exact ⟨h1, h2⟩
end
end Go.Vc

/- Plain facts on posets: depths, and the order by depth. No program in sight. Conditions: none. -/
namespace Go.Vc
structure Po (f : Fr) : Prop where
  ok : f.ok
  refl : ∀ x, x < f.n → (f.a.getD x 0).testBit x = true
  trans : ∀ x y z, (f.a.getD x 0).testBit y = true → (f.a.getD y 0).testBit z = true → (f.a.getD x 0).testBit z = true
  anti : ∀ x y, (f.a.getD x 0).testBit y = true → (f.a.getD y 0).testBit x = true → x = y
theorem po_of {f : Fr} (hf : f.ok) (h : poB f = true) : Po f := by
  unfold poB at h
  rw [Bool.and_eq_true, Bool.and_eq_true] at h
  obtain ⟨h0, h2, h8⟩ := h
  refine ⟨hf, fun x hx => ?_, (flagB_trans hf).1 h2, fun x y h1 h2 => ?_⟩
  · rw [flagB_refl, List.all_eq_true] at h0
    exact h0 x (List.mem_range.2 hx)
  · obtain ⟨hx, hy⟩ := fr_bit_lt hf h1
    have := (flagB_iff.1 h8 x hx).2 y hy
    unfold flag2 at this
    rw [h1, h2] at this
    simpa using this
/-- What can be reached is what is above. -/
theorem rows_one {f : Fr} (_hf : f.ok) {x : Nat} (hx : x < f.n) : rowsK f.a (2 ^ x) f.n = f.a.getD x 0 := by
  apply Nat.eq_of_testBit_eq
  intro j
  rw [Bool.eq_iff_iff, rowsK_bit]
  constructor
  · rintro ⟨i, _, h2, h3⟩
    rw [Nat.testBit_two_pow, decide_eq_true_eq] at h2
    rw [h2]; exact h3
  · exact fun h => ⟨x, hx, by rw [Nat.testBit_two_pow]; simp, h⟩
theorem rows_sub {f : Fr} (hp : Po f) {m : Nat} (hm : m < 2 ^ f.n) (j : Nat) (h : m.testBit j = true) : (rowsK f.a m f.n).testBit j = true := by
  have hj : j < f.n := by
    rcases Nat.lt_or_ge j f.n with h' | h'
    · exact h'
    · rw [Nat.testBit_lt_two_pow (Nat.lt_of_lt_of_le hm (Nat.pow_le_pow_right (by omega) h'))] at h; cases h
  exact (rowsK_bit _ _ _ _).2 ⟨j, hj, h, hp.refl j hj⟩
theorem rows_rows {f : Fr} (hp : Po f) (m : Nat) : sdiff (rowsK f.a (rowsK f.a m f.n) f.n) (rowsK f.a m f.n) = 0 := by
  rw [sdiff_eq_zero]
  intro j hj
  obtain ⟨i, hi, h1, h2⟩ := (rowsK_bit _ _ _ _).1 hj
  obtain ⟨k, hk, h3, h4⟩ := (rowsK_bit _ _ _ _).1 h1
  exact (rowsK_bit _ _ _ _).2 ⟨k, hk, h3, hp.trans k i j h4 h2⟩
/-- The greatest of some numbers. -/
def bestF (h : Nat → Nat) (p : Nat → Bool) (k : Nat) : Nat := (List.range k).foldl (fun b v => if p v then max b (h v) else b) 0
theorem bestF_succ (h : Nat → Nat) (p : Nat → Bool) (k : Nat) : bestF h p (k + 1) = if p k then max (bestF h p k) (h k) else bestF h p k := by
  unfold bestF; rw [List.range_succ, List.foldl_append]; rfl
theorem bestF_le {h : Nat → Nat} {p : Nat → Bool} {B : Nat} : ∀ k, (∀ v, v < k → p v = true → h v ≤ B) → bestF h p k ≤ B
  | 0, _ => Nat.zero_le _
  | k + 1, hB => by
    rw [bestF_succ]
    have ih := bestF_le k fun v hv hp => hB v (by omega) hp
    split
    · rename_i hp
      exact Nat.max_le.2 ⟨ih, hB k (by omega) hp⟩
    · exact ih
theorem le_bestF {h : Nat → Nat} {p : Nat → Bool} : ∀ {k v : Nat}, v < k → p v = true → h v ≤ bestF h p k
  | k + 1, v, hv, hp => by
    rw [bestF_succ]
    by_cases hvk : v = k
    · subst hvk; rw [if_pos hp]; exact Nat.le_max_right _ _
    · have := le_bestF (h := h) (show v < k by omega) hp
      split
      · exact Nat.le_trans this (Nat.le_max_left _ _)
      · exact this
theorem bestF_congr {h h' : Nat → Nat} {p : Nat → Bool} : ∀ k, (∀ v, v < k → p v = true → h v = h' v) → bestF h p k = bestF h' p k
  | 0, _ => rfl
  | k + 1, hh => by
    rw [bestF_succ, bestF_succ, bestF_congr k fun v hv hp => hh v (by omega) hp]
    split
    · rename_i hp; rw [hh k (by omega) hp]
    · rfl
def aboveB (f : Fr) (x v : Nat) : Bool := !decide (v = x) && (f.a.getD x 0).testBit v
def depF (f : Fr) : Nat → Nat → Nat
  | 0, _ => 0
  | k + 1, x => bestF (depF f k) (aboveB f x) f.n + 1
theorem popc_above {f : Fr} (hp : Po f) {x v : Nat} (h : aboveB f x v = true) : popc (f.a.getD v 0) < popc (f.a.getD x 0) := by
  unfold aboveB at h
  rw [Bool.and_eq_true, Bool.not_eq_true', decide_eq_false_iff_not] at h
  obtain ⟨hne, hb⟩ := h
  obtain ⟨hx, hv⟩ := fr_bit_lt hp.ok hb
  have hn : (f.a.getD v 0).testBit x = false := by
    rw [Bool.eq_false_iff]
    exact fun h => hne (hp.anti v x h hb)
  have h1 := popc_or_one (f.a.getD v 0) x (by have := hp.ok.1; omega)
  rw [hn] at h1
  simp only [Bool.false_eq_true, if_false] at h1
  have h2 := popc_mono (a := f.a.getD v 0 ||| 2 ^ x) (b := f.a.getD x 0) (fun i hi => by
    rw [Nat.testBit_or, Bool.or_eq_true] at hi
    rcases hi with hi | hi
    · exact hp.trans x v i hb hi
    · rw [Nat.testBit_two_pow, decide_eq_true_eq] at hi
      rw [← hi]; exact hp.refl x hx)
  omega
theorem popc_pos {f : Fr} (hp : Po f) {x : Nat} (hx : x < f.n) : 0 < popc (f.a.getD x 0) := by
  have h1 := popc_or_one 0 x (by have := hp.ok.1; omega)
  rw [popc_zero] at h1
  simp only [Nat.zero_testBit, Bool.false_eq_true, if_false] at h1
  have h2 := popc_mono (a := 0 ||| 2 ^ x) (b := f.a.getD x 0) (fun i hi => by
    rw [Nat.zero_or, Nat.testBit_two_pow, decide_eq_true_eq] at hi
    rw [← hi]; exact hp.refl x hx)
  omega
theorem depF_same {f : Fr} (hp : Po f) : ∀ (k k' x : Nat), x < f.n → popc (f.a.getD x 0) ≤ k → popc (f.a.getD x 0) ≤ k' → depF f k x = depF f k' x
  | 0, _, x, hx, h, _ => by have := popc_pos hp hx; omega
  | k + 1, 0, x, hx, _, h => by have := popc_pos hp hx; omega
  | k + 1, k' + 1, x, hx, h, h' => by
    simp only [depF]
    congr 1
    refine bestF_congr f.n fun v hv hb => ?_
    have := popc_above hp hb
    exact depF_same hp k k' v hv (by omega) (by omega)
/-- The depth. -/
def dep (f : Fr) (x : Nat) : Nat := depF f 9 x
theorem popc_le8 {f : Fr} (hf : f.ok) (x : Nat) : popc (f.a.getD x 0) ≤ f.n := by
  by_cases hx : x < f.n
  · exact popc_full (by have := hf.1; omega) (hf.lt hx)
  · have e : f.a.getD x 0 = 0 := by simp [List.getD_eq_getElem?_getD, List.getElem?_eq_none (show f.a.length ≤ x by rw [hf.2.1]; omega)]
    rw [e, popc_zero]; omega
theorem dep_eq {f : Fr} (hp : Po f) {k x : Nat} (hx : x < f.n) (hk : popc (f.a.getD x 0) ≤ k) : depF f k x = dep f x :=
  depF_same hp k 9 x hx hk (by have := popc_le8 hp.ok x; have := hp.ok.1; omega)
theorem dep_above {f : Fr} (hp : Po f) {x v : Nat} (_hx : x < f.n) (h : aboveB f x v = true) : dep f v < dep f x := by
  have hv : v < f.n := by
    unfold aboveB at h
    rw [Bool.and_eq_true] at h
    exact (fr_bit_lt hp.ok h.2).2
  have h1 : dep f x = bestF (depF f 8) (aboveB f x) f.n + 1 := rfl
  have h2 := le_bestF (h := depF f 8) hv h
  have h3 := popc_above hp h
  have h4 := popc_le8 hp.ok x
  have h5 := hp.ok.1
  rw [dep_eq hp hv (by omega)] at h2
  omega
theorem depF_le {f : Fr} (hp : Po f) : ∀ (k x : Nat), x < f.n → depF f k x ≤ popc (f.a.getD x 0)
  | 0, _, _ => Nat.zero_le _
  | k + 1, x, hx => by
    simp only [depF]
    have h1 := popc_pos hp hx
    have := bestF_le (h := depF f k) (p := aboveB f x) (B := popc (f.a.getD x 0) - 1) f.n fun v hv hb => by
      have h2 := popc_above hp hb
      have h3 := depF_le hp k v hv
      omega
    omega
theorem dep_pos (f : Fr) (x : Nat) : 1 ≤ dep f x := by
  show 1 ≤ bestF (depF f 8) (aboveB f x) f.n + 1
  omega
/-- The order by depth. -/
def ordK (f : Fr) (d : Nat) : List Nat := (List.range d).flatMap fun d => (List.range f.n).filter fun x => decide (dep f x = d + 1)
def ordOf (f : Fr) : List Nat := ordK f f.n
theorem popc_range {n : Nat} (hn : n ≤ 62) : popc (2 ^ n - 1) = n := by
  have e : 2 ^ n - 1 = setOf (List.range n) := by
    apply Nat.eq_of_testBit_eq
    intro i
    rw [full_testBit, setOf_testBit, Bool.eq_iff_iff, decide_eq_true_eq, List.contains_iff_mem, List.mem_range]
  rw [e, (popc_setOf_nodup n (List.range n) (by simp) (fun y hy => by have := List.mem_range.1 hy; omega)).2 List.nodup_range]
  simp
theorem ordOf_ok {f : Fr} (hp : Po f) : OrdOk f (ordOf f) := by
  have hmem : ∀ x, x ∈ ordOf f ↔ x < f.n := fun x => by
    unfold ordOf ordK
    rw [List.mem_flatMap]
    constructor
    · rintro ⟨d, _, h⟩
      exact List.mem_range.1 (List.mem_filter.1 h).1
    · intro hx
      have h1 := dep_pos f x
      have h2 := depF_le hp 9 x hx
      have h3 := popc_le8 hp.ok x
      refine ⟨dep f x - 1, List.mem_range.2 ?_, List.mem_filter.2 ⟨List.mem_range.2 hx, decide_eq_true (by omega)⟩⟩
      have : dep f x ≤ f.n := Nat.le_trans h2 h3
      omega
  have hnd : (ordOf f).Nodup := by
    unfold ordOf ordK List.Nodup
    rw [List.pairwise_flatMap]
    refine ⟨fun d _ => List.Nodup.sublist List.filter_sublist List.nodup_range, ?_⟩
    refine List.Pairwise.imp ?_ (List.pairwise_lt_range (n := f.n))
    intro d d' hlt x hx y hy
    have h1 := of_decide_eq_true (List.mem_filter.1 hx).2
    have h2 := of_decide_eq_true (List.mem_filter.1 hy).2
    rintro rfl
    omega
  have hso : (ordOf f).Pairwise fun x y => dep f x ≤ dep f y := by
    unfold ordOf ordK
    rw [List.pairwise_flatMap]
    refine ⟨fun d _ => ?_, ?_⟩
    · rw [List.pairwise_iff_getElem]
      intro i j hi hj _
      have h1 := of_decide_eq_true (List.mem_filter.1 (List.getElem_mem hi)).2
      have h2 := of_decide_eq_true (List.mem_filter.1 (List.getElem_mem hj)).2
      omega
    · refine List.Pairwise.imp ?_ (List.pairwise_lt_range (n := f.n))
      intro d d' hlt x hx y hy
      have h1 := of_decide_eq_true (List.mem_filter.1 hx).2
      have h2 := of_decide_eq_true (List.mem_filter.1 hy).2
      omega
  have hlen : (ordOf f).length = f.n := by
    have hf8 := hp.ok.1
    rw [← (popc_setOf_nodup _ (ordOf f) rfl (fun y hy => by have := (hmem y).1 hy; omega)).2 hnd]
    have e : setOf (ordOf f) = 2 ^ f.n - 1 := by
      apply Nat.eq_of_testBit_eq
      intro i
      rw [full_testBit, setOf_testBit, Bool.eq_iff_iff, decide_eq_true_eq, List.contains_iff_mem, hmem]
    rw [e, popc_range (by omega)]
  refine ⟨hlen, fun x hx => (hmem x).1 hx, fun x hx => (hmem x).2 hx, hnd, fun x y hb hne => ?_⟩
  obtain ⟨hx, hy⟩ := fr_bit_lt hp.ok hb
  have hd : dep f y < dep f x := dep_above hp hx (by unfold aboveB; rw [hb, decide_eq_false hne]; rfl)
  have ix : (ordOf f).idxOf x < (ordOf f).length := List.idxOf_lt_length_of_mem ((hmem x).2 hx)
  have iy : (ordOf f).idxOf y < (ordOf f).length := List.idxOf_lt_length_of_mem ((hmem y).2 hy)
  rcases Nat.lt_or_ge ((ordOf f).idxOf y) ((ordOf f).idxOf x) with h | h
  · exact h
  · exfalso
    rcases Nat.lt_or_eq_of_le h with h | h
    · have := List.pairwise_iff_getElem.1 hso _ _ ix iy h
      rw [List.getElem_idxOf, List.getElem_idxOf] at this
      omega
    · have e1 : (ordOf f)[(ordOf f).idxOf x] = x := List.getElem_idxOf ix
      have e2 : (ordOf f)[(ordOf f).idxOf y] = y := List.getElem_idxOf iy
      have : x = y := by rw [← e1, ← e2]; simp only [h]
      exact hne this.symm
end Go.Vc

/- Plain facts: both searches for p-morphisms find the same maps; the order on lists. No program in sight. Conditions: none. -/
namespace Go.Vc
/-- The order on lists. -/
def lessB : List Int → List Int → Bool
  | [], [] => false
  | [], _ :: _ => true
  | _ :: _, [] => false
  | x :: a, y :: b => if x = y then lessB a b else decide (x < y)
theorem lessB_irr : ∀ a, lessB a a = false
  | [] => rfl
  | x :: a => by simp [lessB, lessB_irr a]
theorem lessB_append : ∀ (p a b : List Int), lessB (p ++ a) (p ++ b) = lessB a b
  | [], _, _ => rfl
  | x :: p, a, b => by simp [lessB, lessB_append p a b]
theorem nats_append (a b : List Nat) : nats (a ++ b) = nats a ++ nats b := by simp [nats]
theorem exts_sorted (m : Nat) : ∀ (d : Nat) (im : List Nat), (exts m d im).Pairwise fun a b => lessB (nats a) (nats b) = true
  | 0, im => by simp [exts]
  | d + 1, im => by
    simp only [exts]
    rw [List.pairwise_flatMap]
    refine ⟨fun y _ => exts_sorted m d _, ?_⟩
    refine List.Pairwise.imp ?_ (List.pairwise_lt_range (n := m))
    intro y y' hlt a ha b hb
    have h1 := (exts_spec m d _ a ha).2.1
    have h2 := (exts_spec m d _ b hb).2.1
    have e1 := List.take_append_drop (im ++ [y]).length a
    have e2 := List.take_append_drop (im ++ [y']).length b
    rw [h1] at e1
    rw [h2] at e2
    rw [← e1, ← e2, List.append_assoc, List.append_assoc, nats_append, nats_append im, lessB_append]
    simp only [List.singleton_append, nats, List.map_cons, lessB]
    rw [if_neg (by show ¬ ((y : Nat) : Int) = ((y' : Nat) : Int); omega), decide_eq_true_eq]
    show ((y : Nat) : Int) < ((y' : Nat) : Int)
    omega
theorem dfs_sorted (ok : List Nat → Bool) (m d : Nat) (im : List Nat) : (dfs ok m d im).Pairwise fun a b => lessB (nats a) (nats b) = true := by
  rw [dfs_eq]; exact (exts_sorted m d im).filter _
theorem leaves_sorted (ok : List Nat → Bool) (m d : Nat) (im : List Nat) : (leaves ok m d im).Pairwise fun a b => lessB (nats a) (nats b) = true := by
  unfold leaves
  split
  · exact dfs_sorted ok m d im
  · exact List.Pairwise.nil
theorem nodup_of_sorted {L : List (List Nat)} (h : L.Pairwise fun a b => lessB (nats a) (nats b) = true) : L.Nodup :=
  h.imp fun {a b} hab e => by subst e; rw [lessB_irr] at hab; cases hab
theorem exts_all (m : Nat) : ∀ (d : Nat) (im l : List Nat), l.length = d → (∀ y ∈ l, y < m) → im ++ l ∈ exts m d im
  | 0, im, l, h0, _ => by simp [exts, List.length_eq_zero_iff.1 h0]
  | d + 1, im, l, h0, hlt => by
    obtain ⟨y, r, rfl⟩ : ∃ y r, l = y :: r := by
      cases l with
      | nil => simp at h0
      | cons y r => exact ⟨y, r, rfl⟩
    simp only [exts, List.mem_flatMap, List.mem_range]
    refine ⟨y, hlt y (by simp), ?_⟩
    have := exts_all m d (im ++ [y]) r (by simpa using h0) (fun z hz => hlt z (by simp [hz]))
    simpa using this
/-- The program's search finds just the maps. -/
theorem mem_leaves {f g : Fr} (hf : f.ok) (hg : g.ok) {onto one : Bool} {F : List Nat} : F ∈ leaves (fitsB f g onto one) g.n f.n [] ↔ F.length = f.n ∧ (∀ y ∈ F, y < g.n) ∧ fullB f g onto one F := by
  unfold leaves
  constructor
  · intro h
    split at h
    · rename_i hnil
      rw [dfs_eq, List.mem_filter] at h
      obtain ⟨hex, hall⟩ := h
      obtain ⟨h1, _, h3⟩ := exts_spec _ _ _ _ hex
      simp only [List.length_nil, Nat.zero_add, List.drop_zero] at h1 h3
      simp only [List.all_eq_true, List.mem_range, List.length_nil, Nat.zero_add] at hall
      refine ⟨h1, h3, fits_full hf hg h1 h3 ?_⟩
      by_cases hn : f.n = 0
      · have : F = [] := List.length_eq_zero_iff.1 (by omega)
        rw [this]; exact hnil
      · have := hall (f.n - 1) (by omega)
        rwa [show f.n - 1 + 1 = f.n by omega, List.take_of_length_le (by omega)] at this
    · cases h
  · rintro ⟨h1, h3, h⟩
    have h0 := full_fits hf hg h1 h3 h 0 (by omega)
    rw [List.take_zero] at h0
    rw [if_pos h0, dfs_eq, List.mem_filter]
    refine ⟨by simpa using exts_all g.n f.n [] F h1 h3, ?_⟩
    simp only [List.all_eq_true, List.mem_range, List.length_nil, Nat.zero_add]
    intro j hj
    exact full_fits hf hg h1 h3 h (j + 1) (by omega)
/-- What the reference's search finds, as maps. -/
def foundU (f g : Fr) (fix : List Int) (onto : Bool) : List (List Nat) := (srch f g fix onto (ordOf f) f.n []).map (unOrd f.n (ordOf f))
section
variable {f g : Fr} {fix : List Int} {onto : Bool}
theorem mem_foundU (hp : Po f) (hg : g.ok) {F : List Nat} : F ∈ foundU f g fix onto ↔ fullP f g fix onto F := by
  have ho := ordOf_ok hp
  unfold foundU
  rw [List.mem_map]
  constructor
  · rintro ⟨ys, h, rfl⟩
    exact ((mem_srch hp.ok hg ho ys).1 h).2
  · intro h
    refine ⟨byOrd (ordOf f) F, (mem_srch hp.ok hg ho _).2 ⟨?_, ?_⟩, unOrd_byOrd ho h.1⟩
    · rw [byOrd, List.length_map, ho.len]
    · rw [unOrd_byOrd ho h.1]; exact h
theorem nodup_foundU (hp : Po f) (hg : g.ok) : (foundU f g fix onto).Nodup := by
  have ho := ordOf_ok hp
  unfold foundU List.Nodup
  rw [List.pairwise_map]
  have h : (srch f g fix onto (ordOf f) f.n []).Nodup := by
    unfold srch
    split
    · exact nodup_of_sorted (dfs_sorted _ _ _ _)
    · exact List.nodup_nil
  refine List.Pairwise.imp_of_mem (fun {a b} ha hb hne he => hne ?_) h
  have h1 := ((mem_srch hp.ok hg ho a).1 ha).1
  have h2 := ((mem_srch hp.ok hg ho b).1 hb).1
  rw [← byOrd_unOrd ho h1, ← byOrd_unOrd ho h2, he]
theorem part_full {n : Nat} {ord ys : List Nat} (hl : ys.length = n) (ho : ∀ x, x < n → ord.idxOf x < n) : partL n ord ys = nats (unOrd n ord ys) := by
  unfold partL unOrd nats
  rw [List.map_map]
  refine List.map_congr_left fun x hx => ?_
  have := ho x (List.mem_range.1 hx)
  rw [if_pos (by omega)]; rfl
theorem srch_part (hp : Po f) (hg : g.ok) : (srch f g fix onto (ordOf f) f.n []).map (partL f.n (ordOf f)) = (foundU f g fix onto).map nats := by
  have ho := ordOf_ok hp
  unfold foundU
  rw [List.map_map]
  refine List.map_congr_left fun ys hys => ?_
  exact part_full ((mem_srch hp.ok hg ho ys).1 hys).1 (fun x hx => ho.idx hx)
/-- Without fixed images both searches find the same. -/
theorem found_perm (hp : Po f) (hg : g.ok) (hfix : ∀ x, x < f.n → fix.getD x 0 < 0) : (foundU f g fix onto).Perm (leaves (fitsB f g onto false) g.n f.n []) := by
  rw [List.perm_ext_iff_of_nodup (nodup_foundU hp hg) (nodup_of_sorted (leaves_sorted _ _ _ _))]
  intro F
  rw [mem_foundU hp hg, mem_leaves hp.ok hg]
  exact ⟨fun h => ⟨h.1, h.2.1, h.2.2.1⟩, fun h => ⟨h.1, h.2.1, h.2.2, fun x hx => .inl (hfix x hx)⟩⟩
/-- The greedy choice finds the first. -/
def fixK (n : Nat) (F : List Nat) (k : Nat) : List Int := (List.range n).map fun i => if i < k then ((F.getD i 0 : Nat) : Int) else -1
theorem fixK_len (n : Nat) (F : List Nat) (k : Nat) : (fixK n F k).length = n := by simp [fixK]
theorem fixK_zero (n : Nat) (F : List Nat) : fixK n F 0 = List.replicate n (-1) := by
  apply List.ext_getElem
  · simp [fixK]
  · intro i h1 h2; simp [fixK]
theorem fixK_end {n : Nat} {F : List Nat} (hF : F.length = n) : fixK n F n = nats F := by
  apply List.ext_getElem
  · simp [fixK, nats, hF]
  · intro i h1 h2
    have hi : i < n := by simpa [fixK] using h1
    have hi' : i < F.length := by omega
    simp [fixK, nats, hi, List.getD_eq_getElem?_getD, hi']
theorem fixK_set {n : Nat} {F : List Nat} {k : Nat} (_hk : k < n) : (fixK n F k).set k ((F.getD k 0 : Nat) : Int) = fixK n F (k + 1) := by
  apply List.ext_getElem
  · simp [fixK]
  · intro i h1 h2
    have hi : i < n := by simpa [fixK] using h2
    rw [List.getElem_set]
    by_cases h : k = i
    · subst h; simp [fixK]
    · rw [if_neg h]
      simp only [fixK, List.getElem_map, List.getElem_range]
      by_cases h3 : i < k
      · rw [if_pos h3, if_pos (by omega)]
      · rw [if_neg h3, if_neg (by omega)]
theorem lessB_first : ∀ {F G : List Nat} {k : Nat}, k < F.length → k < G.length → (∀ i, i < k → F.getD i 0 = G.getD i 0) → G.getD k 0 < F.getD k 0 → lessB (nats F) (nats G) = false
  | [], _, _, h, _, _, _ => by simp at h
  | _ :: _, [], _, _, h, _, _ => by simp at h
  | x :: F, y :: G, 0, _, _, _, h => by
    simp only [List.getD_cons_zero] at h
    simp only [nats, List.map_cons, lessB]
    rw [if_neg (by show ¬ ((x : Nat) : Int) = ((y : Nat) : Int); omega), decide_eq_false_iff_not]
    show ¬ ((x : Nat) : Int) < ((y : Nat) : Int)
    omega
  | x :: F, y :: G, k + 1, h1, h2, h3, h4 => by
    have e : x = y := by have := h3 0 (by omega); simpa using this
    subst e
    simp only [nats, List.map_cons, lessB, if_true]
    refine lessB_first (k := k) (by simpa using h1) (by simpa using h2) (fun i hi => ?_) (by simpa using h4)
    have := h3 (i + 1) (by omega)
    simpa using this
theorem greedy_none (hp : Po f) (hg : g.ok) {F : List Nat} {Fs : List (List Nat)} (hL : leaves (fitsB f g onto false) g.n f.n [] = F :: Fs) {k y : Nat} (hk : k < f.n) (hy : y < F.getD k 0) : foundU f g ((fixK f.n F k).set k (y : Int)) onto = [] := by
  rw [List.eq_nil_iff_forall_not_mem]
  intro G hG
  rw [mem_foundU hp hg] at hG
  obtain ⟨h1, h2, h3, h4⟩ := hG
  have hGl : G ∈ F :: Fs := by rw [← hL, mem_leaves hp.ok hg]; exact ⟨h1, h2, h3⟩
  have hF : F.length = f.n := ((mem_leaves (onto := onto) (one := false) hp.ok hg).1 (by rw [hL]; exact List.mem_cons_self)).1
  have hGk : G.getD k 0 = y := by
    have := h4 k hk
    rw [List.getD_eq_getElem?_getD, List.getElem?_set_self (by rw [fixK_len]; exact hk), Option.getD_some] at this
    omega
  have hGi : ∀ i, i < k → F.getD i 0 = G.getD i 0 := fun i hi => by
    have := h4 i (by omega)
    rw [List.getD_eq_getElem?_getD, List.getElem?_set_ne (by omega)] at this
    have e : ((fixK f.n F k)[i]?).getD 0 = ((F.getD i 0 : Nat) : Int) := by simp [fixK, show i < f.n by omega, hi]
    rw [e] at this
    omega
  have hless := lessB_first (F := F) (G := G) (k := k) (by omega) (by omega) hGi (by omega)
  have hs := leaves_sorted (fitsB f g onto false) g.n f.n []
  rw [hL, List.pairwise_cons] at hs
  rcases List.mem_cons.1 hGl with rfl | h
  · omega
  · rw [hs.1 G h] at hless; cases hless
theorem greedy_some (hp : Po f) (hg : g.ok) {F : List Nat} {Fs : List (List Nat)} (hL : leaves (fitsB f g onto false) g.n f.n [] = F :: Fs) {k : Nat} : foundU f g (fixK f.n F k) onto ≠ [] := by
  have hm : F ∈ leaves (fitsB f g onto false) g.n f.n [] := by rw [hL]; exact List.mem_cons_self
  obtain ⟨h1, h2, h3⟩ := (mem_leaves hp.ok hg).1 hm
  have : F ∈ foundU f g (fixK f.n F k) onto := by
    rw [mem_foundU hp hg]
    refine ⟨h1, h2, h3, fun x hx => ?_⟩
    have e : (fixK f.n F k).getD x 0 = if x < k then ((F.getD x 0 : Nat) : Int) else -1 := by simp [fixK, hx]
    rw [e]
    split
    · exact .inr rfl
    · exact .inl (by omega)
  intro h
  rw [h] at this; cases this
end
end Go.Vc

/- Plain facts on lists in order without doubles: insertion, equal neighbours dropped, one list for each set; posets in order. No program in sight. Conditions: none. -/
namespace Go.Vc
section
variable {α : Type} {lt : α → α → Bool}
variable {β : Type} {key : β → α}
end
end Go.Vc

/- Plain facts: the properties of frames, and that isomorphic frames have the same. No program in sight. Conditions: none. -/
namespace Go.Vc
end Go.Vc

/- Plain facts: parts of posets, upsets, what tells one poset from another. No program in sight. Conditions: none. -/
namespace Go.Vc
/-- A set as a set of places in a list. -/
def sqz (ms : List Nat) (m : Nat) : Nat := setOf ((List.range ms.length).filter fun k => m.testBit (ms.getD k 0))
def sqzK (ms : List Nat) (m k : Nat) : Nat := setOf ((List.range k).filter fun k => m.testBit (ms.getD k 0))
theorem sqzK_succ (ms : List Nat) (m k : Nat) : sqzK ms m (k + 1) = if m.testBit (ms.getD k 0) then sqzK ms m k ||| 2 ^ k else sqzK ms m k := by
  unfold sqzK
  rw [List.range_succ, List.filter_append]
  cases h : m.testBit (ms.getD k 0)
  · simp only [List.filter_cons, List.filter_nil, h, Bool.false_eq_true, if_false, List.append_nil]
  · simp only [List.filter_cons, List.filter_nil, h, if_true]
    rw [setOf_snoc]
theorem sqzK_lt (ms : List Nat) (m k : Nat) : sqzK ms m k < 2 ^ k := setOf_lt fun _ hy => List.mem_range.1 (List.mem_filter.1 hy).1
theorem sqz_bit (ms : List Nat) (m j : Nat) : (sqz ms m).testBit j = (decide (j < ms.length) && m.testBit (ms.getD j 0)) := by
  unfold sqz
  rw [setOf_testBit, Bool.eq_iff_iff, List.contains_iff_mem, List.mem_filter, List.mem_range]
  simp
def partFr (f : Fr) (mask : Nat) : Fr := ⟨(mem mask).length, (mem mask).map fun x => sqz (mem mask) (f.a.getD x 0)⟩
section
variable {f : Fr} {mask : Nat}
theorem mask63 (hf : f.ok) (hm : mask < 2 ^ f.n) : mask < 2 ^ 63 := Nat.lt_of_lt_of_le hm (Nat.pow_le_pow_right (by omega) (by have := hf.1; omega))
theorem mem_lt (hf : f.ok) (hm : mask < 2 ^ f.n) {x : Nat} (hx : x ∈ mem mask) : x < f.n := by
  have hb := (mem_mem (mask63 hf hm)).1 hx
  rcases Nat.lt_or_ge x f.n with h | h
  · exact h
  · rw [Nat.testBit_lt_two_pow (Nat.lt_of_lt_of_le hm (Nat.pow_le_pow_right (by omega) h))] at hb; cases hb
theorem mem_len (hf : f.ok) (hm : mask < 2 ^ f.n) : (mem mask).length ≤ f.n := popc_full (by have := hf.1; omega) hm
theorem mem_nodup (m : Nat) : (mem m).Nodup := by
  unfold mem memK
  exact List.Nodup.sublist List.filter_sublist List.nodup_range
theorem part_ok (hf : f.ok) (hm : mask < 2 ^ f.n) : (partFr f mask).ok := by
  refine ⟨Nat.le_trans (mem_len hf hm) hf.1, by simp [partFr], fun x hx => ?_⟩
  obtain ⟨y, _, rfl⟩ := List.mem_map.1 hx
  exact sqzK_lt _ _ _
theorem part_bit (i j : Nat) : (((partFr f mask).a.getD i 0).testBit j = true) ↔ i < (mem mask).length ∧ j < (mem mask).length ∧ (f.a.getD ((mem mask).getD i 0) 0).testBit ((mem mask).getD j 0) = true := by
  unfold partFr
  by_cases hi : i < (mem mask).length
  · have e : ((mem mask).map fun x => sqz (mem mask) (f.a.getD x 0)).getD i 0 = sqz (mem mask) (f.a.getD ((mem mask).getD i 0) 0) := by simp [List.getD_eq_getElem?_getD, hi]
    rw [e, sqz_bit, Bool.and_eq_true, decide_eq_true_eq]
    exact ⟨fun h => ⟨hi, h⟩, fun h => h.2⟩
  · have e : ((mem mask).map fun x => sqz (mem mask) (f.a.getD x 0)).getD i 0 = 0 := by simp [List.getD_eq_getElem?_getD, hi]
    rw [e, Nat.zero_testBit]
    exact ⟨fun h => absurd h (by simp), fun h => absurd h.1 hi⟩
end
/-- All upsets. -/
def upK (f : Fr) (k : Nat) : List Nat := (List.range k).filter fun m => decide (rowsK f.a m f.n = m)
def upsets (f : Fr) : List Nat := upK f (2 ^ f.n)
theorem upK_succ (f : Fr) (k : Nat) : upK f (k + 1) = if rowsK f.a k f.n = k then upK f k ++ [k] else upK f k := by
  unfold upK
  rw [List.range_succ, List.filter_append]
  by_cases h : rowsK f.a k f.n = k
  · rw [if_pos h]; simp [h]
  · rw [if_neg h]; simp [h]
theorem upsets_lt {f : Fr} {m : Nat} (h : m ∈ upsets f) : m < 2 ^ f.n := List.mem_range.1 (List.mem_filter.1 h).1
theorem upK_len (f : Fr) (k : Nat) : (upK f k).length ≤ k := by
  have := List.length_filter_le (fun m => decide (rowsK f.a m f.n = m)) (List.range k)
  rwa [List.length_range] at this
theorem upsets_len {f : Fr} (hf : f.ok) : (upsets f).length ≤ 256 := by
  refine Nat.le_trans (upK_len f _) ?_
  exact (Nat.pow_le_pow_right (by omega) hf.1 : 2 ^ f.n ≤ 2 ^ 8)
/-- The first upset of whose part g is an image, and the first map. -/
def oneOut (f g : Fr) (m : Nat) : Option (Nat × List Nat) :=
  match leaves (fitsB (partFr f m) g true false) g.n (partFr f m).n [] with
  | [] => none
  | F :: _ => some (m, F)
def partOut (f g : Fr) : Option (Nat × List Nat) := (upsets f).findSome? (oneOut f g)
theorem partOut_some {f g : Fr} {m : Nat} {F : List Nat} (h : partOut f g = some (m, F)) : m ∈ upsets f ∧ ∃ Fs, leaves (fitsB (partFr f m) g true false) g.n (partFr f m).n [] = F :: Fs := by
  unfold partOut at h
  obtain ⟨m', hm, h⟩ := List.exists_of_findSome?_eq_some h
  unfold oneOut at h
  split at h
  · cases h
  · rename_i F' Fs e
    simp only [Option.some.injEq, Prod.mk.injEq] at h
    obtain ⟨rfl, rfl⟩ := h
    exact ⟨hm, Fs, e⟩
end Go.Vc

/- Contracts on lists of lists of int64; all maps between two frames. Conditions: none. -/
namespace Go.Vc
section
variable {w : World}
theorem iIaV {v : Value} {xs : List Value} {j : Nat} {k : IntKind} {K : Value → Prop} (hs : Sl w v xs) (h1 : j < xs.length) (h : ∀ p, w.cell? p = some xs[j] → K (.pointer (some p))) : xIa 1 v (.int k (j : Int)) K :=
  iIa hs (by omega) (by omega) fun p hp => h p (by rw [hp, Int.toNat_natCast, List.getElem?_eq_getElem h1])
end
theorem OwL.at {lo : Nat} {e : TypeId} {w : World} {vs : List Value} {ls : List (List Value)} (h : OwL lo e w vs ls) {i : Nat} (hi : i < vs.length) (hi' : i < ls.length) : Ow lo e w vs[i] ls[i] :=
  h.2.1 i _ _ (List.getElem?_eq_getElem hi) (List.getElem?_eq_getElem hi')
end Go.Vc
namespace Go.Proofs.YtikfhibcdhdglaaGreat
open Go.Vc
/-- A slice of slices of int64 of the call's own. -/
def RdLL (lo : Nat) (w : World) (v : Value) (x : List (List Int)) : Prop := ∃ vs, Ow lo t_Si64 w v vs ∧ OwL lo t_i64 w vs (x.map ints)
theorem RdLL.ext {lo : Nat} {w w' : World} {v : Value} {x : List (List Int)} (h : RdLL lo w v x) (he : Ext w w') : RdLL lo w' v x := let ⟨vs, h1, h2⟩ := h; ⟨vs, h1.ext he, h2.ext he⟩
theorem RdLL.mono {lo lo' : Nat} {w : World} {v : Value} {x : List (List Int)} (h : RdLL lo w v x) (hl : lo' ≤ lo) : RdLL lo' w v x := let ⟨vs, h1, h2⟩ := h; ⟨vs, h1.mono hl, h2.mono hl⟩
end Go.Proofs.YtikfhibcdhdglaaGreat

/- Contracts: all maps between two frames. Conditions: none. -/
namespace Go.Proofs.YtikfhibcdhdglaaGreat
open Go.Vc
theorem ok_impl_AllMorphisms_1 {lo : Nat} {v fv : Value} {w : World} {c : Nat} {e1 : TypeId} (he1 : t_Si64 ≠ e1) (he2 : t_i64 ≠ e1) {vs : List Value} {L : List (List Value)} {l : List Int} (hs : SlI w v l) (hl : l.length ≤ 1099511627776) (hc : Blk e1 w c [fv]) (hf : Ow lo t_Si64 w fv vs) (hL : OwL lo t_i64 w vs L) (hn : vs.length ≤ 200) (hlo : lo ≤ w.heap.size) :
    Cal Tryz.prog f_impl_AllMorphisms_1 #[v, .pointer (some ⟨c, 0, none⟩)] w fun r w' => r = .bool (decide (vs.length + 1 ≤ 200)) ∧ ∃ fv' v', Blk e1 w' c [fv'] ∧ Ow lo t_Si64 w' fv' (vs ++ [v']) ∧ OwL lo t_i64 w' (vs ++ [v']) (L ++ [ints l]) ∧ Ch (fun k => k = c ∨ fv.ownBlock = some k) w w' ∧
      (fv'.ownBlock = fv.ownBlock ∨ ∃ k, fv'.ownBlock = some k ∧ w.heap.size ≤ k) ∧ ∀ k, v'.ownBlock = some k → w.heap.size ≤ k := by
  apply c_impl_AllMorphisms_1; unfold S_impl_AllMorphisms_1
  have hX := Ext.refl w
  (refine iLdB (by assumption) (by first | rfl | simp) ?_)
  intro w1 h
  have hX := hX.trans h
  have hs := hs.ext h
  have hc := hc.ext h
  have hf := hf.ext h
  have hL := hL.ext h
  have hlo1 := hX.size
  refine iCall ((ok_slices_Clone_Si64_i64 hs hl).mono ?_)
  rintro v' w2 ⟨h, ho⟩
  (try refine ⟨h, ?_⟩)
  have hnew : ∀ u ∈ vs, ∀ k, u.ownBlock = some k → v'.ownBlock ≠ some k := fun u hu k hk e => by have := (hL.lt hu hk).2; have := (ho.blk k e).1; omega
  have hX := hX.trans h
  have hc := hc.ext h
  have hf := hf.ext h
  have hL := hL.ext h
  intro w3 h
  have hX := hX.trans h
  have hc := hc.ext h
  have hf := hf.ext h
  have hL := hL.ext h
  have ho := ho.ext h
  refine iBs1 rfl ho.cell fun bb w4 hbb h hB => ?_
  (try refine ⟨h, ?_⟩)
  have hX := hX.trans h
  have hc := hc.ext h
  have hf := hf.ext h
  have hL := hL.ext h
  have ho := ho.ext h
  intro w5 h
  have hX := hX.trans h
  have hc := hc.ext h
  have hf := hf.ext h
  have hL := hL.ext h
  have ho := ho.ext h
  have hB := hB.ext h
  have hlo5 := hX.size
  refine iAppA u_SSi64 i_SSi64 rfl hf (Sl.ofBlk hB rfl (by omega)) (fun u hu => by simp at hu; subst hu; exact ho.cell) (by simp; omega) (by simp; omega) (by omega) fun fv' w6 hf' hg hat => ?_
  have hfc : fv.ownBlock ≠ some c := hf.ne_blk hc he1
  have hc6 := hc.grown hg hfc
  have hch6 : Ch (fun k => k = c ∨ fv.ownBlock = some k) w w6 := (hX.ch (S := fun k => k = c ∨ fv.ownBlock = some k)).trans (grown_ch (S := fun k => fv.ownBlock = some k) hg fun k hk => hk) fun k hk => .inl (.inr hk)
  have hg6 := grown_ch (S := fun k => fv.ownBlock = some k) hg fun k hk => hk
  have hL6 := hL.ch hg6 fun u hu k hk he => by
    obtain ⟨x, hx⟩ := hL.ow hu
    exact hx.ne_ow hf (by decide) hk he
  have ho6 := ho.ch hg6 fun k hk he => ho.ne_ow hf (by decide) hk he
  intro w7 h7
  have hc7 := hc6.ext h7
  have hf7 := hf'.ext h7
  have hL7 := hL6.ext h7
  have ho7 := ho6.ext h7
  refine iStB hc7 (by simp) hf'.cell fun hc8 => ?_
  have hu := Upd.setCell w7 c 0 fv'
  have hf8 := hf7.upd hu (hf7.ne_blk hc7 he1)
  have hL8 := hL7.ch (hu.ch (S := fun k => k = c) rfl) fun u hu k hk he => by
    obtain ⟨x, hx⟩ := hL7.ow hu
    exact hx.ne_blk hc7 he2 (by rw [hk, he])
  have ho8 := ho7.upd hu (ho7.ne_blk hc7 he2)
  intro w9 h9
  have hc9 := hc8.ext h9
  have hf9 := hf8.ext h9
  have hs9 := hf9.sl
  (refine iLdB (by assumption) (by first | rfl | simp) ?_; (with_reducible refine iLenS (by assumption) ?_; refine iLe ?_))
  refine ⟨?_, fv', v', hc9, hf9, (hL8.ext h9).snoc ((ho8.ext h9).mono (by omega)) hnew, ?_, hat.imp id (fun ⟨k, e, hk⟩ => ⟨k, e, by omega⟩), fun k hk => ?_⟩
  · have hvl : (vs ++ [v']).length = vs.length + 1 := by simp
    exact congrArg Value.bool (decide_eq_decide.2 (by rw [hvl]; omega))
  · exact ((hch6.trans (h7.ch (S := fun _ => False)) (fun _ h => h.elim)).trans (hu.ch (S := fun k => k = c) rfl) (fun k hk => .inl (.inl hk))).trans (h9.ch (S := fun _ => False)) (fun _ h => h.elim)
  · have := (ho.blk k hk).1; omega
def visAll (c lo : Nat) (hlo : lo ≤ c) (e1 : TypeId) (he1 : t_Si64 ≠ e1) (he2 : t_i64 ≠ e1) (n m : Nat) (hn : n ≤ 8) : Visitor Tryz.prog t_i64 (.func (.func f_impl_AllMorphisms_1) #[] #[.pointer (some ⟨c, 0, none⟩)]) n m (fun l => decide (l.length ≤ 200)) where
  J S l w := ∃ fv vs, S = (fun k => k = c ∨ fv.ownBlock = some k ∨ ∃ v ∈ vs, v.ownBlock = some k) ∧ Blk e1 w c [fv] ∧ Ow lo t_Si64 w fv vs ∧ OwL lo t_i64 w vs (l.map fun x => ints (nats x))
  below := by
    rintro S l w ⟨fv, vs, rfl, h1, h2, h3⟩ k (rfl | hk | ⟨v, hv, hk⟩)
    · exact h1.lt
    · exact (h2.blk k hk).2
    · exact (h3.lt hv hk).2
  keep := by
    rintro S l w w' ⟨fv, vs, rfl, h1, h2, h3⟩ _ hk
    exact ⟨fv, vs, rfl, h1.same (hk c (.inl rfl)), h2.same fun k hb => hk k (.inr (.inl hb)), h3.same fun v hv k hb => hk k (.inr (.inr ⟨v, hv, hb⟩))⟩
  visit := by
    rintro S l w u lo' im ⟨fv, vs, rfl, h1, h2, h3⟩ hl _ ho hlen _ _
    have hvl : vs.length = l.length := by simpa using h3.1
    have hl200 : l.length ≤ 200 := by
      rcases hl with h | h
      · subst h; exact Nat.zero_le _
      · exact of_decide_eq_true h
    refine iClo rfl ((ok_impl_AllMorphisms_1 (l := nats im) he1 he2 ho.sl (by rw [nats_length]; omega) h1 h2 h3 (by omega) (by have := h1.lt; omega)).mono ?_)
    rintro r w' ⟨rfl, fv', v', g1, g2, g3, g4, g5, g6⟩
    refine ⟨by rw [hvl]; simp, _, ⟨fv', vs ++ [v'], rfl, g1, g2, by simpa using g3⟩, g4.mono (fun k hk => ?_), fun k hk => ?_⟩
    · rcases hk with rfl | hk
      · exact .inl rfl
      · exact .inr (.inl hk)
    · rcases hk with rfl | hk | ⟨v, hv, hk⟩
      · exact .inl (.inl rfl)
      · rcases g5 with h | ⟨k', h, hk'⟩
        · exact .inl (.inr (.inl (by rw [← h]; exact hk)))
        · rw [h] at hk; cases hk; exact .inr hk'
      · rcases List.mem_append.1 hv with hv | hv
        · exact .inl (.inr (.inr ⟨v, hv, hk⟩))
        · simp at hv; subst hv
          exact .inr (g6 k hk)
/-- All maps between two frames, and the code. -/
def allOut (n0 : Int) (l0 : List Int) (n1 : Int) (l1 : List Int) : List (List Int) × Int :=
  if frameOk n0 l0 && frameOk n1 l1 then
    if 200 < ((leaves (fitsB (frOf n0 l0) (frOf n1 l1) false false) (frOf n1 l1).n (frOf n0 l0).n []).take 201).length then ([], 3)
    else (((leaves (fitsB (frOf n0 l0) (frOf n1 l1) false false) (frOf n1 l1).n (frOf n0 l0).n []).take 201).map nats, 0)
  else ([], 1)
theorem RdLL.nil (lo : Nat) (w : World) : RdLL lo w (.slice none 0 0) [] := ⟨[], Ow.nil _ _ _, OwL.nil _ _ _⟩
theorem ok_impl_AllMorphisms {w : World} {v0 v1 : Value} {l0 l1 : List Int} (hs0 : SlI w v0 l0) (hs1 : SlI w v1 l1) (n0 n1 : Int) : Cal Tryz.prog f_impl_AllMorphisms #[.agg #[.int .i64 n0, v0], .agg #[.int .i64 n1, v1]] w fun r w' => Ext w w' ∧ ∃ v, r = .tuple #[v, .int .i64 (allOut n0 l0 n1 l1).2] ∧ RdLL w.heap.size w' v (allOut n0 l0 n1 l1).1 := by
  apply c_impl_AllMorphisms; unfold S_impl_AllMorphisms
  have hX := Ext.refl w
  refine iNew fun b2 w1 hb2 h hB2 => ?_
  have hX := hX.trans h
  refine iNew fun b3 w2 hb3 h hB3 => ?_
  have hX := hX.trans h
  have hB2 := hB2.ext h
  refine iJnB (!(frameOk n0 l0 && frameOk n1 l1)) w2 (fun J hJ => ?_) (fun w4 h => ?_)
  · ((with_reducible refine iLdA (by assumption) ?_ ?_); rfl)
    refine iRet (ok_impl_isFrame (hs0.ext hX) n0) fun w5 h => ?_
    have hB3 := hB3.ext h
    ((with_reducible refine iNot ?_))
    cases h0 : frameOk n0 l0
    · refine iCndT rfl ?_
      have := hJ w5 h
      rwa [h0] at this
    · refine iCndF rfl ?_
      ((with_reducible refine iLdA (by assumption) ?_ ?_); rfl)
      refine iRet (ok_impl_isFrame (hs1.ext (hX.trans h)) n1) fun w6 h6 => ?_
      ((with_reducible refine iNot ?_))
      have := hJ w6 (h.trans h6)
      rwa [h0, Bool.true_and] at this
  have hX := hX.trans h
  have hB2 := hB2.ext h
  have hB3 := hB3.ext h
  (intro _; (try simp only [gx]))
  unfold allOut
  cases hfr : frameOk n0 l0 && frameOk n1 l1
  · refine iCndT rfl ?_
    exact ⟨hX, _, rfl, RdLL.nil _ _⟩
  · refine iCndF rfl ?_
    rw [Bool.and_eq_true] at hfr
    obtain ⟨hf, hn0, hl0⟩ := frameOk_fr hfr.1
    obtain ⟨hg, hn1, hl1⟩ := frameOk_fr hfr.2
    generalize frOf n0 l0 = f at *
    generalize frOf n1 l1 = g at *
    subst hn0; subst hl0; subst hn1; subst hl1
    refine iNew fun c w7 hc h hC => ?_
    have hlc : w.heap.size ≤ c := by have := hX.size; omega
    have hX := hX.trans h
    have hB2 := hB2.ext h
    have hB3 := hB3.ext h
    ((with_reducible refine iLdA (by assumption) ?_ ?_); rfl; (with_reducible refine iLdA (by assumption) ?_ ?_); rfl)
    refine iBuild (cs := #[.int .i64 (f.n : Int), v0, .int .i64 (g.n : Int), v1, .slice none 0 0, .func (.func f_impl_AllMorphisms_1) #[] #[.pointer (some ⟨c, 0, none⟩)], .bool false, .bool false]) (by simp [Instr.fill, Value.cells]) ?_
    refine iNew fun b w8 hb h hB => ?_
    have hlb : w.heap.size ≤ b := by have := hX.size; omega
    have hbc : b ≠ c := by have := hC.lt; omega
    have hX := hX.trans h
    have hC := hC.ext h
    have hSlo : ∀ k, (k = c ∨ (Value.slice none 0 0).ownBlock = some k ∨ ∃ v ∈ ([] : List Value), v.ownBlock = some k) → w.heap.size ≤ k := by
      intro k hk
      rcases hk with h | h | ⟨v, h, _⟩
      · omega
      · cases h
      · cases h
    have hSb : ¬ (b = c ∨ (Value.slice none 0 0).ownBlock = some b ∨ ∃ v ∈ ([] : List Value), v.ownBlock = some b) := by
      intro hk
      rcases hk with h | h | ⟨v, h, _⟩
      · exact hbc h
      · cases h
      · cases h
    have hst : RunSt (visAll c w.heap.size hlc t_SSi64 (by decide) (by decide) f.n g.n hf.1) f g false false _ w _ _ b w8 [] (.slice none 0 0) _ [] :=
      ⟨hX, hB, Ow.nil _ _ _, ⟨.slice none 0 0, [], rfl, hC, Ow.nil _ _ _, OwL.nil _ _ _⟩, hSb, (fun c hc => by cases hc), hSlo⟩
    refine iCall ((ok_impl_morphismSearch_run hf hg (by decide) _ hs0 hs1 hlb f.n [] w8 _ _ [] (by simp) (fun y hy => by cases hy) (.inl rfl) (by have := pow88 hg.1 hf.1; simpa using this) hst).mono ?_)
    rintro _ w9 ⟨rfl, vim', S', hst'⟩
    rw [visitAll_most 200 _ _ (by simp), List.nil_append] at hst'
    obtain ⟨fv, vs, _, hC', ho, hol⟩ := hst'.j
    have hvl : vs.length = ((leaves (fitsB f g false false) g.n f.n []).take 201).length := by simpa using hol.1
    have hsl := ho.sl
    (refine iLdB (by assumption) (by first | rfl | simp) ?_; (with_reducible refine iLenS (by assumption) ?_; refine iLt ?_))
    generalize (leaves (fitsB f g false false) g.n f.n []).take 201 = L at *
    refine iCndP (fun h => ?_) (fun h => ?_)
    · rw [if_pos rfl, if_pos (show 200 < L.length by omega)]
      exact ⟨hst'.ext, _, rfl, RdLL.nil _ _⟩
    · rw [if_pos rfl, if_neg (show ¬ 200 < L.length by omega)]
      (refine iLdB (by assumption) (by first | rfl | simp) ?_)
      exact ⟨hst'.ext, fv, rfl, vs, ho, by rw [List.map_map]; exact hol⟩
end Go.Proofs.YtikfhibcdhdglaaGreat

/- Contracts: two posets. Conditions: none. -/
namespace Go.Vc
/-- Two structs of two cells, laid side by side. -/
theorem iBs22 {w : World} {e : TypeId} {a b c d : Value} {K : Value → World → Prop} (h : ∀ bb w', bb = w.heap.size ∧ w'.heap.size = bb + 1 → Ext w w' → Blk e w' bb [a, b, c, d] → K (.slice (some ⟨bb, 0, none⟩) 2 2) w') :
    xBs e (Value.cells (.agg #[.int .i64 0, .slice none 0 0])) 2 2 [(0, .agg #[a, b]), (1, .agg #[c, d])] w K := by
  refine ⟨#[a, b, c, d], ?_, h _ _ ⟨rfl, by simp⟩ (Ext.alloc w _) (Blk.new w #[a, b, c, d] e)⟩
  simp [Instr.fill, Value.cells, show Array.range 4 = #[0, 1, 2, 3] from rfl]
theorem iIaL2 {b n c : Nat} {j : Nat} {k : IntKind} {K : Value → Prop} (hj : j < n) (h : K (.pointer (some ⟨b, 2 * j, none⟩))) : xIa 2 (.slice (some ⟨b, 0, none⟩) n c) (.int k (j : Int)) K := by
  refine ⟨_, _, _, _, _, rfl, rfl, by omega, by omega, ?_⟩
  have : (⟨b, 0, none⟩ : Addr).add ((j : Int).toNat * 2) = ⟨b, 2 * j, none⟩ := by
    simp only [Addr.add, Int.toNat_natCast]; split
    · rename_i e; simp; omega
    · simp; omega
  rw [this]; exact h
end Go.Vc
namespace Go.Proofs.YtikfhibcdhdglaaGreat
open Go.Vc
theorem ok_impl_arePosets_1 {v : Value} {w : World} {l : List Int} (hs : SlI w v l) (n : Int) : Ret Tryz.prog f_impl_arePosets_1 #[.agg #[.int .i64 n, v]] w (.bool (!posetOk n l)) := by
  apply c_impl_arePosets_1; unfold S_impl_arePosets_1
  refine iNew fun b w1 hb h hB => ?_
  ((with_reducible refine iLdA (by assumption) ?_ ?_); rfl)
  refine iRet (ok_impl_isPoset (hs.ext h) n) fun w2 h2 => ?_
  ((with_reducible refine iNot ?_))
  exact ⟨rfl, h.trans h2⟩
def codeP (n0 : Int) (l0 : List Int) (n1 : Int) (l1 : List Int) : Int := if posetOk n0 l0 && posetOk n1 l1 then 0 else 1
theorem ok_impl_arePosets {b : Nat} {e : TypeId} {w : World} {v0 v1 : Value} {l0 l1 : List Int} (hs0 : SlI w v0 l0) (hs1 : SlI w v1 l1) (n0 n1 : Int) (hB : Blk e w b [.int .i64 n0, v0, .int .i64 n1, v1]) :
    Ret Tryz.prog f_impl_arePosets #[.slice (some ⟨b, 0, none⟩) 2 2] w (.int .i64 (codeP n0 l0 n1 l1)) := by
  have hidx : Ret Tryz.prog f_slices_IndexFunc_Simpl_Poset_impl_Poset #[.slice (some ⟨b, 0, none⟩) 2 2, .func (.func f_impl_arePosets_1) #[] #[]] w (.int .i64 (if posetOk n0 l0 then (if posetOk n1 l1 then -1 else 1) else 0)) := by
    apply c_slices_IndexFunc_Simpl_Poset_impl_Poset; unfold S_slices_IndexFunc_Simpl_Poset_impl_Poset
    ((with_reducible refine iLenL ?_))
    refine iLp (fun k : Nat => [.int .i64 (k : Int)]) (fun k w' => k ≤ 2 ∧ Ext w w' ∧ (0 < k → posetOk n0 l0 = true) ∧ (1 < k → posetOk n1 l1 = true)) (fun k => 2 - k) 0 rfl ⟨by omega, Ext.refl _, fun h => by omega, fun h => by omega⟩ ?_
    rintro k w2 Kn ⟨hk, h2, hp0, hp1⟩ hKn
    have hB := hB.ext h2
    (intro _; (try simp only [gx]); (with_reducible refine iLt ?_))
    refine iCndP (fun h3 => ?_) (fun h3 => ?_)
    · have hk2 : k = 0 ∨ k = 1 := by omega
      rcases hk2 with rfl | rfl
      · refine iIaL2 (j := 0) (by omega) ?_
        refine iLdP hB (by simp) ?_
        refine iRet (ok_impl_arePosets_1 (hs0.ext h2) n0) fun w3 h4 => ?_
        refine iCnd (fun h5 => ?_) (fun h5 => ?_)
        · refine ⟨?_, h2.trans h4⟩
          rw [Bool.not_eq_true'] at h5
          rw [h5]; rfl
        · rw [Bool.not_eq_false'] at h5
          (refine iAdd (by omega) ?_)
          exact hKn 1 _ ⟨by omega, h2.trans h4, fun _ => h5, fun h => by omega⟩ (by omega)
      · refine iIaL2 (j := 1) (by omega) ?_
        refine iLdP hB (by simp) ?_
        refine iRet (ok_impl_arePosets_1 (hs1.ext h2) n1) fun w3 h4 => ?_
        refine iCnd (fun h5 => ?_) (fun h5 => ?_)
        · refine ⟨?_, h2.trans h4⟩
          rw [Bool.not_eq_true'] at h5
          rw [h5, hp0 (by omega)]; rfl
        · rw [Bool.not_eq_false'] at h5
          (refine iAdd (by omega) ?_)
          exact hKn 2 _ ⟨by omega, h2.trans h4, fun _ => hp0 (by omega), fun _ => h5⟩ (by omega)
    · obtain rfl : k = 2 := by omega
      refine ⟨?_, h2⟩
      rw [hp0 (by omega), hp1 (by omega)]; rfl
  have hcon : Ret Tryz.prog f_slices_ContainsFunc_Simpl_Poset_impl_Poset #[.slice (some ⟨b, 0, none⟩) 2 2, .func (.func f_impl_arePosets_1) #[] #[]] w (.bool (!(posetOk n0 l0 && posetOk n1 l1))) := by
    apply c_slices_ContainsFunc_Simpl_Poset_impl_Poset; unfold S_slices_ContainsFunc_Simpl_Poset_impl_Poset
    refine iRet hidx fun w1 h1 => ?_
    ((with_reducible refine iLe ?_))
    refine ⟨?_, h1⟩
    cases posetOk n0 l0 <;> cases posetOk n1 l1 <;> rfl
  apply c_impl_arePosets; unfold S_impl_arePosets
  refine iRet hcon fun w1 h1 => ?_
  unfold codeP
  cases hp : posetOk n0 l0 && posetOk n1 l1
  · exact iCndT rfl ⟨rfl, h1⟩
  · exact iCndF rfl ⟨rfl, h1⟩
theorem ok_spec_l21Two {w : World} {v0 v1 : Value} {l0 l1 : List Int} (hs0 : SlI w v0 l0) (hs1 : SlI w v1 l1) (n0 n1 : Int) : Ret Tryz.prog f_spec_l21Two #[.agg #[.int .i64 n0, v0], .agg #[.int .i64 n1, v1]] w (.int .i64 (codeP n0 l0 n1 l1)) := by
  apply c_spec_l21Two; unfold S_spec_l21Two
  have hX := Ext.refl w
  refine iNew fun b2 w1 hb2 h hB2 => ?_
  have hX := hX.trans h
  refine iNew fun b3 w2 hb3 h hB3 => ?_
  have hX := hX.trans h
  have hB2 := hB2.ext h
  refine iJnB (!(posetOk n0 l0 && posetOk n1 l1)) w2 (fun J hJ => ?_) (fun w4 h => ?_)
  · ((with_reducible refine iLdA (by assumption) ?_ ?_); rfl)
    refine iRet (ok_spec_l16Is (hs0.ext hX) n0) fun w5 h => ?_
    have hB3 := hB3.ext h
    ((with_reducible refine iNot ?_))
    cases h0 : posetOk n0 l0
    · refine iCndT rfl ?_
      have := hJ w5 h
      rwa [h0] at this
    · refine iCndF rfl ?_
      ((with_reducible refine iLdA (by assumption) ?_ ?_); rfl)
      refine iRet (ok_spec_l16Is (hs1.ext (hX.trans h)) n1) fun w6 h6 => ?_
      ((with_reducible refine iNot ?_))
      have := hJ w6 (h.trans h6)
      rwa [h0, Bool.true_and] at this
  have hX := hX.trans h
  (intro _; (try simp only [gx]))
  unfold codeP
  cases hp : posetOk n0 l0 && posetOk n1 l1
  · exact iCndT rfl ⟨rfl, hX⟩
  · exact iCndF rfl ⟨rfl, hX⟩
/-- What the program's functions on two posets hand back. -/
def imageOut (n0 : Int) (l0 : List Int) (n1 : Int) (l1 : List Int) : List Int × Int := if posetOk n0 l0 && posetOk n1 l1 then firstOut true false n0 l0 n1 l1 else ([], 1)
theorem posetOk_frame {n : Int} {l : List Int} (h : posetOk n l = true) : frameOk n l = true ∧ (l.length : Int) = n := by
  unfold posetOk at h
  rw [Bool.and_eq_true] at h
  refine ⟨h.1, ?_⟩
  have h1 := h.1
  unfold frameOk at h1
  rw [Bool.and_eq_true, Bool.and_eq_true, decide_eq_true_eq, decide_eq_true_eq] at h1
  exact h1.1.2
theorem ok_impl_FindImage {w : World} {v0 v1 : Value} {l0 l1 : List Int} (hs0 : SlI w v0 l0) (hs1 : SlI w v1 l1) (n0 n1 : Int) : Cal Tryz.prog f_impl_FindImage #[.agg #[.int .i64 n0, v0], .agg #[.int .i64 n1, v1]] w fun r w' => Ext w w' ∧ ∃ v, r = .tuple #[v, .int .i64 (imageOut n0 l0 n1 l1).2] ∧ Ow w.heap.size t_i64 w' v (ints (imageOut n0 l0 n1 l1).1) := by
  apply c_impl_FindImage; unfold S_impl_FindImage
  have hX := Ext.refl w
  refine iNew fun b2 w1 hb2 h hB2 => ?_
  have hX := hX.trans h
  refine iNew fun b3 w2 hb3 h hB3 => ?_
  have hX := hX.trans h
  have hB2 := hB2.ext h
  ((with_reducible refine iLdA (by assumption) ?_ ?_); rfl; (with_reducible refine iLdA (by assumption) ?_ ?_); rfl)
  refine iBs22 fun bb w3 hbb h hBB => ?_
  have hX := hX.trans h
  have hB2 := hB2.ext h
  have hB3 := hB3.ext h
  refine iRet (ok_impl_arePosets (hs0.ext hX) (hs1.ext hX) n0 n1 hBB) fun w4 h => ?_
  have hX := hX.trans h
  have hB2 := hB2.ext h
  have hB3 := hB3.ext h
  unfold codeP imageOut
  cases hp : posetOk n0 l0 && posetOk n1 l1
  · ((with_reducible refine iNe ?_))
    refine iCndT rfl ?_
    exact ⟨hX, _, rfl, Ow.nil _ _ _⟩
  · ((with_reducible refine iNe ?_))
    refine iCndF rfl ?_
    rw [Bool.and_eq_true] at hp
    have hp0 := posetOk_frame hp.1
    have hp1 := posetOk_frame hp.2
    ((with_reducible refine iLdA (by assumption) ?_ ?_); rfl; (with_reducible refine iLdA (by assumption) ?_ ?_); rfl)
    intro w5 h
    have hX := hX.trans h
    refine iRet (ok_impl_Poset_frame (hs0.ext hX) n0) fun w6 h => ?_
    (try refine ⟨h, ?_⟩)
    have hX := hX.trans h
    intro w7 h
    have hX := hX.trans h
    refine iRet (ok_impl_Poset_frame (hs1.ext hX) n1) fun w8 h => ?_
    (try refine ⟨h, ?_⟩)
    have hX := hX.trans h
    intro w9 h
    have hlo := (hX.trans h).size
    have hX := hX.trans h
    rw [hp0.2, hp1.2]
    refine iCall ((ok_impl_FindOnto (hs0.ext hX) (hs1.ext hX) n0 n1).mono ?_)
    rintro _ w10 ⟨h, r, rfl, ho⟩
    (try refine ⟨h, ?_⟩)
    have hX := hX.trans h
    ((with_reducible refine iE20 ?_; refine iE21 ?_))
    intro w11 h
    have hX := hX.trans h
    have ho := ho.ext h
    exact ⟨hX, r, rfl, ho.mono hlo⟩
def allPOut (n0 : Int) (l0 : List Int) (n1 : Int) (l1 : List Int) : List (List Int) × Int := if posetOk n0 l0 && posetOk n1 l1 then allOut n0 l0 n1 l1 else ([], 1)
theorem ok_impl_AllPosetMorphisms {w : World} {v0 v1 : Value} {l0 l1 : List Int} (hs0 : SlI w v0 l0) (hs1 : SlI w v1 l1) (n0 n1 : Int) : Cal Tryz.prog f_impl_AllPosetMorphisms #[.agg #[.int .i64 n0, v0], .agg #[.int .i64 n1, v1]] w fun r w' => Ext w w' ∧ ∃ v, r = .tuple #[v, .int .i64 (allPOut n0 l0 n1 l1).2] ∧ RdLL w.heap.size w' v (allPOut n0 l0 n1 l1).1 := by
  apply c_impl_AllPosetMorphisms; unfold S_impl_AllPosetMorphisms
  have hX := Ext.refl w
  refine iNew fun b2 w1 hb2 h hB2 => ?_
  have hX := hX.trans h
  refine iNew fun b3 w2 hb3 h hB3 => ?_
  have hX := hX.trans h
  have hB2 := hB2.ext h
  ((with_reducible refine iLdA (by assumption) ?_ ?_); rfl; (with_reducible refine iLdA (by assumption) ?_ ?_); rfl)
  refine iBs22 fun bb w3 hbb h hBB => ?_
  have hX := hX.trans h
  have hB2 := hB2.ext h
  have hB3 := hB3.ext h
  refine iRet (ok_impl_arePosets (hs0.ext hX) (hs1.ext hX) n0 n1 hBB) fun w4 h => ?_
  have hX := hX.trans h
  have hB2 := hB2.ext h
  have hB3 := hB3.ext h
  unfold codeP allPOut
  cases hp : posetOk n0 l0 && posetOk n1 l1
  · ((with_reducible refine iNe ?_))
    refine iCndT rfl ?_
    exact ⟨hX, _, rfl, RdLL.nil _ _⟩
  · ((with_reducible refine iNe ?_))
    refine iCndF rfl ?_
    rw [Bool.and_eq_true] at hp
    have hp0 := posetOk_frame hp.1
    have hp1 := posetOk_frame hp.2
    ((with_reducible refine iLdA (by assumption) ?_ ?_); rfl; (with_reducible refine iLdA (by assumption) ?_ ?_); rfl)
    intro w5 h
    have hX := hX.trans h
    refine iRet (ok_impl_Poset_frame (hs0.ext hX) n0) fun w6 h => ?_
    (try refine ⟨h, ?_⟩)
    have hX := hX.trans h
    intro w7 h
    have hX := hX.trans h
    refine iRet (ok_impl_Poset_frame (hs1.ext hX) n1) fun w8 h => ?_
    (try refine ⟨h, ?_⟩)
    have hX := hX.trans h
    intro w9 h
    have hlo := (hX.trans h).size
    have hX := hX.trans h
    rw [hp0.2, hp1.2]
    refine iCall ((ok_impl_AllMorphisms (hs0.ext hX) (hs1.ext hX) n0 n1).mono ?_)
    rintro _ w10 ⟨h, r, rfl, ho⟩
    (try refine ⟨h, ?_⟩)
    have hX := hX.trans h
    ((with_reducible refine iE20 ?_; refine iE21 ?_))
    intro w11 h
    have hX := hX.trans h
    have ho := ho.ext h
    exact ⟨hX, r, rfl, ho.mono hlo⟩
end Go.Proofs.YtikfhibcdhdglaaGreat

/- Contracts: the reference's search for p-morphisms. Conditions: none. -/
namespace Go.Proofs.YtikfhibcdhdglaaGreat
open Go.Vc
theorem ok_spec_l01List (m : Nat) (hm : m < 2 ^ 63) (w : World) : Cal Tryz.prog f_spec_l01List #[.int .i64 (m : Int)] w fun v w' => Ext w w' ∧ Ow w.heap.size t_i64 w' v (ints (nats (mem m))) := by
  apply c_spec_l01List; unfold S_spec_l01List
  refine iBs0 fun v0 w1 _ h1 ho1 => ?_
  refine ⟨fun j xs w' => ∃ (k : Nat) (v : Value), xs = [.int .i64 ((m >>> k : Nat) : Int), v, .int .i64 (k : Int)] ∧ j = 64 - k ∧ k ≤ 63 ∧ Ext w w' ∧ Ow w.heap.size t_i64 w' v (ints (nats (memK m k))), ⟨64, 0, _, rfl, rfl, by omega, h1, ho1⟩, ?_⟩
  rintro j xs w3 ⟨k, v, rfl, rfl, hk, h2, ho⟩
  (intro _; (try simp only [gx]); (with_reducible refine iLt ?_))
  refine iCndP (fun h3 => ?_) (fun h3 => ?_)
  · have hk1 := shr_pos (m := m) (k := k) (Int.natCast_pos.1 h3) hm
    have hl := memK_length_le m k
    have hil : (ints (nats (memK m k))).length = (memK m k).length := by rw [ints_length, nats_length]
    have hsh : m >>> k ≤ m := Nat.shiftRight_le _ _
    refine iRem (by omega) ?_
    have e1 : ((m >>> k : Nat) : Int) % 2 = ((m.testBit k).toNat : Nat) := by rw [← testBit_shr]; omega
    rw [e1]
    have e2 : ((m >>> k : Nat) : Int) / 2 = ((m >>> (k + 1) : Nat) : Int) := by rw [shr_succ]; omega
    have hmk := memK_succ m k
    ((with_reducible refine iEq ?_))
    cases hb : m.testBit k
    · rw [hb] at hmk
      have hmk' : memK m (k + 1) = memK m k := by simpa using hmk
      refine iJn ?_
      refine iCndP (fun h => absurd h (by simp)) (fun _ => ?_)
      (intro _; (try simp only [gx]); refine iAdd (by omega) ?_)
      refine iQuo (by omega) ?_
      rw [e2]
      refine ⟨64 - (k + 1), by omega, k + 1, v, rfl, rfl, by omega, h2, ?_⟩
      rw [hmk']; exact ho
    · rw [hb] at hmk
      have hmk' : memK m (k + 1) = memK m k ++ [k] := by simpa using hmk
      refine iJn ?_
      refine iCndP (fun _ => ?_) (fun h => absurd (show (((true : Bool).toNat : Nat) : Int) = 1 by rfl) h)
      refine iApp1 u_Si64 i_Si64 rfl ho rfl (by omega) (by omega) h2.size fun v' w4 ho' hg => ?_
      rw [ints_snoc, ← hmk'] at ho'
      (intro _; (try simp only [gx]); refine iAdd (by omega) ?_)
      refine iQuo (by omega) ?_
      rw [e2]
      exact ⟨64 - (k + 1), by omega, k + 1, v', rfl, rfl, by omega, h2.grown hg (fun b hb => (ho.blk b hb).1), ho'⟩
  · rw [memK_stop hm (Nat.eq_zero_of_not_pos fun h => h3 (Int.natCast_pos.2 h))] at ho
    exact ⟨h2, ho⟩
theorem ok_spec_l21Images {v : Value} {w : World} {im : List Int} (hs : SlI w v im) (hl : im.length ≤ 8) (hlt : ∀ y ∈ im, y < 62) (m : Nat) (hm : m < 2 ^ im.length) : Ret Tryz.prog f_spec_l21Images #[.int .i64 (m : Int), v] w (.int .i64 ((imgP im m : Nat) : Int)) := by
  have hm8 : m < 2 ^ 8 := Nat.lt_of_lt_of_le hm (Nat.pow_le_pow_right (by omega) hl)
  apply c_spec_l21Images; unfold S_spec_l21Images
  refine iCall ((ok_spec_l01List m (by omega) w).mono ?_)
  rintro u w1 ⟨h1, ho⟩
  have hml := popc_full (m := 8) (a := m) (by omega) hm8
  unfold popc at hml
  refine iLp (fun k : Nat => [.int .i64 ((setOf ((((mem m).take k).filter fun x => decide (0 ≤ im.getD x (-1))).map fun x => (im.getD x (-1)).toNat) : Nat) : Int), .int .i64 (k : Int)]) (fun k w' => k ≤ (mem m).length ∧ Ext w w' ∧ Ow w.heap.size t_i64 w' u (ints (nats (mem m)))) (fun k => (mem m).length - k) 0 rfl ⟨Nat.zero_le _, h1, ho⟩ ?_
  rintro k w3 Kn ⟨hk, h3, ho⟩ hKn
  have hs3 := hs.ext h3
  have hsm : SlN w3 u (mem m) := ho.sl
  (intro _; (try simp only [gx]); (with_reducible refine iLenN (by assumption) ?_; refine iLt ?_))
  refine iCndP (fun h4 => ?_) (fun h4 => ?_)
  · have hk1 : k < (mem m).length := by omega
    have hx : (mem m)[k] < im.length := by
      have hb := (mem_mem (by omega)).1 (List.getElem_mem hk1)
      rcases Nat.lt_or_ge (mem m)[k] im.length with h | h
      · exact h
      · rw [Nat.testBit_lt_two_pow (Nat.lt_of_lt_of_le hm (Nat.pow_le_pow_right (by omega) h))] at hb; cases hb
    have hg : (mem m).getD k 0 = (mem m)[k] := getD_of_lt hk1
    have ht : (mem m).take (k + 1) = (mem m).take k ++ [(mem m)[k]] := List.take_succ_eq_append_getElem hk1
    have hy : im.getD (mem m)[k] 0 = im[(mem m)[k]] := by simp [List.getD_eq_getElem?_getD, hx]
    have hy1 : im.getD (mem m)[k] (-1) = im[(mem m)[k]] := by simp [List.getD_eq_getElem?_getD, hx]
    have hy2 := hlt _ (List.getElem_mem hx)
    ((with_reducible refine iIaNN (by assumption) ?_ (fun pa_ hpa_ => ?_)); omega; (with_reducible refine iLd (by assumption) ?_); (with_reducible refine iIaN (by assumption) ?_ (fun pa_ hpa_ => ?_)); omega; (with_reducible refine iLd (by assumption) ?_; refine iLe ?_))
    rw [hg]
    rw [hy]
    refine iCndP (fun h5 => ?_) (fun h5 => ?_)
    · ((with_reducible refine iIaNN (by assumption) ?_ (fun pa_ hpa_ => ?_)); omega; (with_reducible refine iLd (by assumption) ?_); (with_reducible refine iIaN (by assumption) ?_ (fun pa_ hpa_ => ?_)); omega; (with_reducible refine iLd (by assumption) ?_))
      rw [hg]
      rw [hy]
      obtain ⟨z, hz⟩ := Int.eq_ofNat_of_zero_le h5
      rw [hz]
      have hz62 : z < 62 := by omega
      refine iRet (ok_spec_l01One z (by omega) w3) fun w4 h6 => ?_
      have hset : setOf ((((mem m).take k).filter fun x => decide (0 ≤ im.getD x (-1))).map fun x => (im.getD x (-1)).toNat) < 2 ^ 62 := setOf_lt fun y hy => by
        obtain ⟨x, hx, rfl⟩ := List.mem_map.1 hy
        have hx := of_decide_eq_true (List.mem_filter.1 hx).2
        by_cases hxl : x < im.length
        · have e : im.getD x (-1) = im[x] := by simp [List.getD_eq_getElem?_getD, hxl]
          rw [e] at hx ⊢
          have := hlt _ (List.getElem_mem hxl)
          omega
        · have e : im.getD x (-1) = -1 := by simp [List.getD_eq_getElem?_getD, List.getElem?_eq_none (Nat.le_of_not_lt hxl)]
          rw [e] at hx; omega
      have h2z : 2 ^ z < 2 ^ 62 := Nat.pow_lt_pow_right (by omega) hz62
      refine iBOr (by omega) (by omega) ?_
      (refine iAdd (by omega) ?_)
      have e3 : setOf ((((mem m).take k).filter fun x => decide (0 ≤ im.getD x (-1))).map fun x => (im.getD x (-1)).toNat) ||| 2 ^ z = setOf ((((mem m).take (k + 1)).filter fun x => decide (0 ≤ im.getD x (-1))).map fun x => (im.getD x (-1)).toNat) := by
        rw [← setOf_snoc, ht, List.filter_append, List.map_append]
        have hdec : decide (0 ≤ im.getD (mem m)[k] (-1)) = true := by rw [hy1, hz]; exact decide_eq_true (by omega)
        have hto : (im.getD (mem m)[k] (-1)).toNat = z := by rw [hy1, hz]; exact Int.toNat_natCast z
        simp only [List.filter_cons, List.filter_nil, hdec, if_true, List.map_cons, List.map_nil, hto]
      rw [e3]
      exact hKn (k + 1) _ ⟨by omega, h3.trans h6, ho.ext h6⟩ (by omega)
    · (refine iAdd (by omega) ?_)
      have e3 : (((mem m).take (k + 1)).filter fun x => decide (0 ≤ im.getD x (-1))) = ((mem m).take k).filter fun x => decide (0 ≤ im.getD x (-1)) := by
        rw [ht, List.filter_append]
        simp only [List.filter_cons, List.filter_nil, hy1]
        simp [h5]
      rw [← e3]
      exact hKn (k + 1) _ ⟨by omega, h3, ho⟩ (by omega)
  · obtain rfl : k = (mem m).length := by omega
    rw [List.take_length]
    exact ⟨rfl, h3⟩
theorem ok_spec_l21Open {f g : Fr} (hf : f.ok) (hg : g.ok) {onto : Bool} {im fix : List Int} (hil : im.length = f.n) (hlt : ∀ y ∈ im, -1 ≤ y ∧ y < g.n) (hfl : fix.length = f.n) {e : TypeId} {b : Nat} {w : World} {fa ga vord vfix vim most found : Value}
    (hB : Blk e w b [.int .i64 (f.n : Int), fa, .int .i64 (g.n : Int), ga, vord, vfix, .bool onto, most, found]) (hfa : SlN w fa f.a) (hga : SlN w ga g.a) (hfix : SlI w vfix fix) (him : SlI w vim im) :
    Ret Tryz.prog f_spec_l21Open #[.pointer (some ⟨b, 0, none⟩), vim] w (.bool (openB f g fix onto im)) := by
  have hf8 := hf.1
  have hg8 := hg.1
  have hfal := hf.2.1
  have hgal := hg.2.1
  have hlt62 : ∀ y ∈ im, y < 62 := fun y hy => by have := (hlt y hy).2; omega
  apply c_spec_l21Open; unfold S_spec_l21Open
  let test : Nat → Nat → Bool := fun x y => decide (sdiff (imgP im (f.a.getD x 0)) (g.a.getD y 0) = 0) && (decide (fix.getD x 0 < 0) || decide (fix.getD x 0 = (y : Int)))
  have himg : ∀ x, x < f.n → imgP im (f.a.getD x 0) < 2 ^ 8 := fun x hx => by
    unfold imgP
    refine Nat.lt_of_lt_of_le (setOf_lt (n := g.n) fun y hy => ?_) (Nat.pow_le_pow_right (by omega) hg8)
    obtain ⟨z, hz, rfl⟩ := List.mem_map.1 hy
    have hz := of_decide_eq_true (List.mem_filter.1 hz).2
    by_cases hzl : z < im.length
    · have e1 : im.getD z (-1) = im[z] := by simp [List.getD_eq_getElem?_getD, hzl]
      rw [e1] at hz ⊢
      have := (hlt _ (List.getElem_mem hzl)).2
      omega
    · have e1 : im.getD z (-1) = -1 := by simp [List.getD_eq_getElem?_getD, List.getElem?_eq_none (Nat.le_of_not_lt hzl)]
      rw [e1] at hz; omega
  refine iLp (fun k : Nat => [.int .i64 ((((List.range k).filter fun x => decide (im.getD x (-1) < 0)).length : Nat) : Int), .int .i64 (k : Int)]) (fun k w' => k ≤ f.n ∧ Ext w w' ∧ ∀ x, x < k → (decide (0 ≤ im.getD x (-1)) || (List.range g.n).any (test x)) = true) (fun k => f.n - k) 0 rfl ⟨Nat.zero_le _, Ext.refl _, fun x hx => by omega⟩ ?_
  rintro k w2 Kn ⟨hk, h2, hdone⟩ hKn
  have hB2 := hB.ext h2
  have hfa2 := hfa.ext h2
  have hga2 := hga.ext h2
  have hfix2 := hfix.ext h2
  have him2 := him.ext h2
  have hleft : ((List.range k).filter fun x => decide (im.getD x (-1) < 0)).length ≤ k := by
    have := List.length_filter_le (fun x => decide (im.getD x (-1) < 0)) (List.range k)
    simpa using this
  (intro _; (try simp only [gx]); (with_reducible refine iLenI (by assumption) ?_; refine iLt ?_))
  refine iCndP (fun h3 => ?_) (fun h3 => ?_)
  · have hk1 : k < f.n := by omega
    have hki : k < im.length := by omega
    have hy0 : im.getD k 0 = im[k] := by simp [List.getD_eq_getElem?_getD, hki]
    have hy1 : im.getD k (-1) = im[k] := by simp [List.getD_eq_getElem?_getD, hki]
    have hsucc : (List.range (k + 1)).filter (fun x => decide (im.getD x (-1) < 0)) = (List.range k).filter (fun x => decide (im.getD x (-1) < 0)) ++ if im.getD k (-1) < 0 then [k] else [] := by
      rw [List.range_succ, List.filter_append]
      simp only [List.filter_cons, List.filter_nil, decide_eq_true_eq]
    ((with_reducible refine iIaN (by assumption) ?_ (fun pa_ hpa_ => ?_)); omega; (with_reducible refine iLd (by assumption) ?_; refine iLe ?_))
    rw [hy0]
    refine iCndP (fun h4 => ?_) (fun h4 => ?_)
    · (refine iAdd (by omega) ?_)
      have e1 : (List.range (k + 1)).filter (fun x => decide (im.getD x (-1) < 0)) = (List.range k).filter (fun x => decide (im.getD x (-1) < 0)) := by
        rw [hsucc, if_neg (by rw [hy1]; omega), List.append_nil]
      rw [← e1]
      refine hKn (k + 1) _ ⟨by omega, h2, fun x hx => ?_⟩ (by omega)
      by_cases hxk : x < k
      · exact hdone x hxk
      · obtain rfl : x = k := by omega
        rw [hy1, decide_eq_true h4]; rfl
    · have e1 : (List.range (k + 1)).filter (fun x => decide (im.getD x (-1) < 0)) = (List.range k).filter (fun x => decide (im.getD x (-1) < 0)) ++ [k] := by
        rw [hsucc, if_pos (by rw [hy1]; omega)]
      have e2 : (((List.range k).filter fun x => decide (im.getD x (-1) < 0)).length : Int) + 1 = ((((List.range (k + 1)).filter fun x => decide (im.getD x (-1) < 0)).length : Nat) : Int) := by rw [e1]; simp
      have hgk := fr_lt63 hf k
      have hgk2 : f.a.getD k 0 < 2 ^ im.length := by rw [hil]; exact hf.lt hk1
      (refine iAdd (by omega) ?_; (with_reducible refine iNil ?_; refine iFa ?_; refine iFa ?_); refine iLdB (by assumption) (by first | rfl | simp) ?_; (with_reducible refine iIaNN (by assumption) ?_ (fun pa_ hpa_ => ?_)); omega; (with_reducible refine iLd (by assumption) ?_))
      refine iRet (ok_spec_l21Images him2 (by omega) hlt62 _ hgk2) fun w3 h5 => ?_
      have hi8 := himg k hk1
      refine iLp (fun j : Nat => [.bool ((List.range j).any (test k)), .int .i64 (j : Int)]) (fun j w' => j ≤ g.n ∧ Ext w w' ∧ ∀ y, y + 1 < j → test k y = false) (fun j => g.n - j) 0 rfl ⟨Nat.zero_le _, h2.trans h5, fun y hy => by omega⟩ ?_
      rintro j w5 Kn2 ⟨hj, h6, hnone⟩ hKn2
      have hB5 := hB.ext h6
      have hga5 := hga.ext h6
      have hfix5 := hfix.ext h6
      (intro _; (try simp only [gx]))
      refine iJnB (!(List.range j).any (test k) && decide (j < g.n)) w5 (fun J6 hJ6 => ?_) (fun w7 h7 => ?_)
      · ((with_reducible refine iNot ?_))
        refine iCnd (fun h8 => ?_) (fun h8 => ?_)
        · ((with_reducible refine iNil ?_; refine iFa ?_; refine iFa ?_); refine iLdB (by assumption) (by first | rfl | simp) ?_; (with_reducible refine iLenN (by assumption) ?_; refine iLt ?_))
          have := hJ6 w5 (Ext.refl _)
          rw [h8, Bool.true_and] at this
          have e3 : decide ((j : Int) < (g.a.length : Int)) = decide (j < g.n) := decide_eq_decide.2 (by omega)
          rw [e3]; exact this
        · have := hJ6 w5 (Ext.refl _)
          rwa [h8, Bool.false_and] at this
      · have hB7 := hB5.ext h7
        have hga7 := hga5.ext h7
        have hfix7 := hfix5.ext h7
        (intro _; (try simp only [gx]))
        cases hc : (!(List.range j).any (test k) && decide (j < g.n))
        · refine iCndF rfl ?_
          ((with_reducible refine iNot ?_))
          cases hany : (List.range j).any (test k)
          · refine iCndT rfl ?_
            have hjg : j = g.n := by
              rw [hany] at hc
              simp at hc
              omega
            refine ⟨?_, h6.trans h7⟩
            have hall : ((List.range f.n).all fun x => decide (0 ≤ im.getD x (-1)) || (List.range g.n).any (test x)) = false := by
              rw [List.all_eq_false]
              refine ⟨k, List.mem_range.2 hk1, ?_⟩
              rw [hy1, decide_eq_false h4, ← hjg, hany]; simp
            have : openB f g fix onto im = false := by
              unfold openB
              rw [show ((List.range f.n).all fun x => decide (0 ≤ im.getD x (-1)) || (List.range g.n).any fun y => decide (sdiff (imgP im (f.a.getD x 0)) (g.a.getD y 0) = 0) && (decide (fix.getD x 0 < 0) || decide (fix.getD x 0 = (y : Int)))) = false from hall, Bool.false_and]
            rw [this]
          · refine iCndF rfl ?_
            (refine iAdd (by omega) ?_)
            rw [e2]
            refine hKn (k + 1) _ ⟨by omega, h6.trans h7, fun x hx => ?_⟩ (by omega)
            by_cases hxk : x < k
            · exact hdone x hxk
            · obtain rfl : x = k := by omega
              rw [Bool.or_eq_true]
              right
              rw [List.any_eq_true] at hany ⊢
              obtain ⟨y, hy, ht⟩ := hany
              exact ⟨y, List.mem_range.2 (by have := List.mem_range.1 hy; omega), ht⟩
        · refine iCndT rfl ?_
          rw [Bool.and_eq_true, Bool.not_eq_true', decide_eq_true_eq] at hc
          obtain ⟨hno, hj1⟩ := hc
          have hgj := fr_lt63 hg j
          have hnext : (List.range (j + 1)).any (test k) = test k j := by
            rw [List.range_succ, List.any_append, hno]; simp
          refine iJnB (test k j) w7 (fun J8 hJ8 => ?_) (fun w9 h9 => ?_)
          · ((with_reducible refine iNil ?_; refine iFa ?_; refine iFa ?_); refine iLdB (by assumption) (by first | rfl | simp) ?_; (with_reducible refine iIaNN (by assumption) ?_ (fun pa_ hpa_ => ?_)); omega; (with_reducible refine iLd (by assumption) ?_))
            refine iBAndNot (by omega) (by omega) ?_
            ((with_reducible refine iEq ?_))
            refine iCndP (fun h8 => ?_) (fun h8 => ?_)
            · have e3 : decide (sdiff (imgP im (f.a.getD k 0)) (g.a.getD j 0) = 0) = true := decide_eq_true (by omega)
              ((with_reducible refine iNil ?_; refine iFa ?_); refine iLdB (by assumption) (by first | rfl | simp) ?_; (with_reducible refine iIaN (by assumption) ?_ (fun pa_ hpa_ => ?_)); omega; (with_reducible refine iLd (by assumption) ?_; refine iLt ?_))
              refine iCndP (fun h10 => ?_) (fun h10 => ?_)
              · have := hJ8 w7 (Ext.refl _)
                have e4 : test k j = true := by show (_ && (_ || _)) = true; rw [e3, decide_eq_true h10]; rfl
                rwa [e4] at this
              · ((with_reducible refine iNil ?_; refine iFa ?_); refine iLdB (by assumption) (by first | rfl | simp) ?_; (with_reducible refine iIaN (by assumption) ?_ (fun pa_ hpa_ => ?_)); omega; (with_reducible refine iLd (by assumption) ?_; refine iEq ?_))
                have := hJ8 w7 (Ext.refl _)
                have e4 : test k j = decide (fix.getD k 0 = (j : Int)) := by show (_ && (_ || _)) = _; rw [e3, decide_eq_false h10]; simp
                rwa [e4] at this
            · have := hJ8 w7 (Ext.refl _)
              have e4 : test k j = false := by show (_ && (_ || _)) = false; rw [decide_eq_false (show ¬ sdiff (imgP im (f.a.getD k 0)) (g.a.getD j 0) = 0 by omega)]; rfl
              rwa [e4] at this
          · (intro _; (try simp only [gx]); refine iAdd (by omega) ?_)
            rw [← hnext]
            refine hKn2 (j + 1) _ ⟨by omega, h6.trans (h7.trans h9), fun y hy => ?_⟩ (by omega)
            by_cases hyj : y < j
            · rw [List.any_eq_false] at hno
              have := hno y (List.mem_range.2 hyj)
              simpa using this
            · omega
  · obtain rfl : k = f.n := by omega
    have hall : ((List.range f.n).all fun x => decide (0 ≤ im.getD x (-1)) || (List.range g.n).any (test x)) = true := by
      rw [List.all_eq_true]
      exact fun x hx => hdone x (List.mem_range.1 hx)
    have hopen : openB f g fix onto im = (!onto || decide (g.n ≤ popc (imgP im (2 ^ f.n - 1)) + ((List.range f.n).filter fun x => decide (im.getD x (-1) < 0)).length)) := by
      unfold openB
      rw [show ((List.range f.n).all fun x => decide (0 ≤ im.getD x (-1)) || (List.range g.n).any fun y => decide (sdiff (imgP im (f.a.getD x 0)) (g.a.getD y 0) = 0) && (decide (fix.getD x 0 < 0) || decide (fix.getD x 0 = (y : Int)))) = true from hall, Bool.true_and]
    refine iJnB (openB f g fix onto im) w2 (fun J10 hJ10 => ?_) (fun w11 h11 => ?_)
    · ((with_reducible refine iNil ?_; refine iFa ?_); refine iLdB (by assumption) (by first | rfl | simp) ?_; (with_reducible refine iNot ?_))
      cases onto
      · refine iCndT rfl ?_
        intro w12 h12
        have := hJ10 w12 h12
        rwa [hopen] at this
      · refine iCndF rfl ?_
        ((with_reducible refine iNil ?_; refine iFa ?_; refine iFa ?_); refine iLdB (by assumption) (by first | rfl | simp) ?_; (with_reducible refine iNil ?_; refine iFa ?_; refine iFa ?_); refine iLdB (by assumption) (by first | rfl | simp) ?_)
        have hfull : 2 ^ f.n - 1 < 2 ^ im.length := by rw [hil]; have := Nat.two_pow_pos f.n; omega
        have hff : imgP im (2 ^ f.n - 1) < 2 ^ 62 := by
          unfold imgP
          refine setOf_lt fun y hy => ?_
          obtain ⟨z, hz, rfl⟩ := List.mem_map.1 hy
          have hz := of_decide_eq_true (List.mem_filter.1 hz).2
          by_cases hzl : z < im.length
          · have e1 : im.getD z (-1) = im[z] := by simp [List.getD_eq_getElem?_getD, hzl]
            rw [e1] at hz ⊢
            have := hlt62 _ (List.getElem_mem hzl)
            omega
          · have e1 : im.getD z (-1) = -1 := by simp [List.getD_eq_getElem?_getD, List.getElem?_eq_none (Nat.le_of_not_lt hzl)]
            rw [e1] at hz; omega
        have hpc := popc_full (m := 62) (by omega) hff
        refine iRetQ (fun w' _ => ok_spec_l01Full f.n (by omega) w') ?_
        refine iRetQ (fun w' h' => ok_spec_l21Images (him2.ext h') (by omega) hlt62 _ hfull) ?_
        refine iRetQ (fun w' _ => ok_spec_l01Bits _ (by omega) w') ?_
        (refine iSub (by omega) ?_; (with_reducible refine iLe ?_))
        intro w13 h13
        have := hJ10 w13 h13
        rw [hopen, Bool.not_true, Bool.false_or] at this
        have e3 : decide ((g.n : Int) - ((popc (imgP im (2 ^ f.n - 1)) : Nat) : Int) ≤ ((((List.range f.n).filter fun x => decide (im.getD x (-1) < 0)).length : Nat) : Int)) = decide (g.n ≤ popc (imgP im (2 ^ f.n - 1)) + ((List.range f.n).filter fun x => decide (im.getD x (-1) < 0)).length) := decide_eq_decide.2 (by omega)
        rw [e3]; exact this
    · (intro _; (try simp only [gx]))
      exact ⟨by trivial, h2.trans h11⟩
end Go.Proofs.YtikfhibcdhdglaaGreat

/- Contracts: the reference's search for p-morphisms, the recursion. Conditions: none. -/
namespace Go.Vc
/-- The state of the search. -/
structure SrSt (f g : Fr) (onto : Bool) (e ti ts : TypeId) (w0 : World) (fa ga vord vfix : Value) (ord : List Nat) (b most : Nat) (w : World) (found : Value) (vs : List Value) (ls : List (List Int)) : Prop where
  ext : Ext w0 w
  blk : Blk e w b [.int .i64 (f.n : Int), fa, .int .i64 (g.n : Int), ga, vord, vfix, .bool onto, .int .i64 (most : Int), found]
  ord : Ow w0.heap.size ti w vord (ints (nats ord))
  ow : Ow w0.heap.size ts w found vs
  owl : OwL w0.heap.size ti w vs (ls.map ints)
theorem SrSt.later {f g : Fr} {onto : Bool} {e ti ts : TypeId} {w0 : World} {fa ga vord vfix : Value} {od : List Nat} {b most : Nat} {w w' : World} {found : Value} {vs : List Value} {ls : List (List Int)}
    (h : SrSt f g onto e ti ts w0 fa ga vord vfix od b most w found vs ls) (he : Ext w w') : SrSt f g onto e ti ts w0 fa ga vord vfix od b most w' found vs ls :=
  ⟨h.ext.trans he, h.blk.ext he, h.ord.ext he, h.ow.ext he, h.owl.ext he⟩
theorem SrSt.len {f g : Fr} {onto : Bool} {e ti ts : TypeId} {w0 : World} {fa ga vord vfix : Value} {od : List Nat} {b most : Nat} {w : World} {found : Value} {vs : List Value} {ls : List (List Int)}
    (h : SrSt f g onto e ti ts w0 fa ga vord vfix od b most w found vs ls) : vs.length = ls.length := by simpa using h.owl.1
theorem take_take_append {α : Type} (A B : List α) (n : Nat) : (A.take n ++ B).take n = (A ++ B).take n := by
  rw [List.take_append, List.take_append, List.take_take, Nat.min_self, List.length_take]
  by_cases h : A.length ≤ n
  · rw [Nat.min_eq_right h]
  · rw [Nat.min_eq_left (by omega), Nat.sub_self, show n - A.length = 0 by omega]
theorem part_length (n : Nat) (ord ys : List Nat) : (partL n ord ys).length = n := by simp [partL]
theorem part_lt {n m : Nat} {ord ys : List Nat} (h : ∀ y ∈ ys, y < m) : ∀ y ∈ partL n ord ys, -1 ≤ y ∧ y < m := by
  intro y hy
  obtain ⟨x, _, rfl⟩ := List.mem_map.1 hy
  split
  · rename_i h1
    have := getD_lt h h1
    omega
  · omega
theorem part_snoc {f : Fr} {ord ys : List Nat} (ho : OrdOk f ord) (hk : ys.length < f.n) (y : Nat) : partL f.n ord (ys ++ [y]) = (partL f.n ord ys).set (ord.getD ys.length 0) (y : Int) := by
  apply List.ext_getElem
  · simp [partL]
  · intro x h1 h2
    have hx : x < f.n := by simpa [partL] using h1
    have e1 := part_get (ord := ord) (ys := ys ++ [y]) hx
    have e2 := part_get (ord := ord) (ys := ys) hx
    have g1 : (partL f.n ord (ys ++ [y])).getD x (-1) = (partL f.n ord (ys ++ [y]))[x] := by simp [List.getD_eq_getElem?_getD, h1]
    have g2 : (partL f.n ord ys).getD x (-1) = (partL f.n ord ys)[x]'(by simpa [partL] using hx) := by simp [List.getD_eq_getElem?_getD, show x < (partL f.n ord ys).length by simpa [partL] using hx]
    rw [List.getElem_set, ← g1, e1]
    by_cases hxe : ord.getD ys.length 0 = x
    · have hi : ord.idxOf x = ys.length := by rw [← hxe, ho.idx_at hk]
      rw [if_pos hxe, hi, if_pos (by simp)]
      simp [List.getD_eq_getElem?_getD]
    · have hne : ord.idxOf x ≠ ys.length := fun h => hxe (by rw [← h, ho.at_idx hx])
      rw [if_neg hxe, ← g2, e2, List.length_append, List.length_singleton]
      by_cases h4 : ord.idxOf x < ys.length
      · rw [if_pos h4, if_pos (by omega)]
        simp [List.getD_eq_getElem?_getD, List.getElem?_append_left h4]
      · rw [if_neg h4, if_neg (by omega)]
end Go.Vc
namespace Go.Proofs.YtikfhibcdhdglaaGreat
open Go.Vc
theorem ok_spec_l21Search {f g : Fr} (hf : f.ok) (hg : g.ok) {onto : Bool} {e : TypeId} (he1 : t_i64 ≠ e) (he2 : t_Si64 ≠ e) {ord : List Nat} (hord : OrdOk f ord) {fix : List Int} (hfl : fix.length = f.n) {w0 : World} {fa ga vord vfix : Value} (hfa : SlN w0 fa f.a) (hga : SlN w0 ga g.a) (hfix : SlI w0 vfix fix) {b : Nat} (hb : w0.heap.size ≤ b) {most : Nat} (hmost : most ≤ 1000000) :
    ∀ (d : Nat) (ys : List Nat) (w : World) (vim found : Value) (vs : List Value) (ls : List (List Int)), ys.length + d = f.n → (∀ y ∈ ys, y < g.n) → ls.length ≤ most →
      SrSt f g onto e t_i64 t_Si64 w0 fa ga vord vfix ord b most w found vs ls → Ow w0.heap.size t_i64 w vim (ints (partL f.n ord ys)) →
      Cal Tryz.prog f_spec_l21Search #[.pointer (some ⟨b, 0, none⟩), vim, .int .i64 (ys.length : Int)] w fun v w' => v = .tuple #[] ∧ ∃ found' vs' ls', SrSt f g onto e t_i64 t_Si64 w0 fa ga vord vfix ord b most w' found' vs' ls' ∧
        ls' = (ls ++ (srch f g fix onto ord d ys).map (partL f.n ord)).take most ∧ Ch (fun k => k = b ∨ found.ownBlock = some k) w w' ∧ ∀ c, found'.ownBlock = some c → found.ownBlock = some c ∨ w.heap.size ≤ c := by
  have hf8 := hf.1
  have hg8 := hg.1
  intro d
  induction d with
  | zero =>
    intro ys w vim found vs ls hlen hm hls hst hvim
    have hpl := part_length f.n ord ys
    have hplt := part_lt (n := f.n) (ord := ord) hm
    have hvl := hst.len
    apply c_spec_l21Search; unfold S_spec_l21Search
    refine iJnB (!openB f g fix onto (partL f.n ord ys) || decide (most ≤ ls.length)) w (fun J hJ => ?_) (fun w2 h2 => ?_)
    · refine iRetQ (fun w' h' => ok_spec_l21Open hf hg hpl hplt hfl (hst.later h').blk (hfa.ext (hst.later h').ext) (hga.ext (hst.later h').ext) (hfix.ext (hst.later h').ext) (hvim.ext h').sl) ?_
      ((with_reducible refine iNot ?_))
      cases hop : openB f g fix onto (partL f.n ord ys)
      · refine iCndT rfl ?_
        intro w3 h3
        have := hJ w3 h3
        rwa [hop] at this
      · refine iCndF rfl ?_
        have hB := hst.blk
        have hfs := hst.ow.sl
        ((with_reducible refine iNil ?_; refine iFa ?_); refine iLdB (by assumption) (by first | rfl | simp) ?_; (with_reducible refine iLenS (by assumption) ?_; refine iNil ?_; refine iFa ?_); refine iLdB (by assumption) (by first | rfl | simp) ?_; (with_reducible refine iLe ?_))
        intro w4 h4
        have := hJ w4 h4
        rw [hop, Bool.not_true, Bool.false_or] at this
        have e3 : decide ((most : Int) ≤ (vs.length : Int)) = decide (most ≤ ls.length) := decide_eq_decide.2 (by omega)
        rw [e3]; exact this
    have hst2 := hst.later h2
    have hvim2 := hvim.ext h2
    have hch2 : Ch (fun k => k = b ∨ found.ownBlock = some k) w w2 := h2.ch
    (intro _; (try simp only [gx]))
    cases hT : (!openB f g fix onto (partL f.n ord ys) || decide (most ≤ ls.length))
    case true =>
      refine iCndT rfl ⟨by trivial, found, vs, ls, hst2, ?_, hch2, fun c hc => .inl hc⟩
      rw [Bool.or_eq_true, Bool.not_eq_true', decide_eq_true_eq] at hT
      rcases hT with hT | hT
      · unfold srch
        rw [hT, if_neg (by simp), List.map_nil, List.append_nil, List.take_of_length_le hls]
      · rw [List.take_append_of_le_length hT, List.take_of_length_le hls]
    rw [Bool.or_eq_false_iff, Bool.not_eq_false', decide_eq_false_iff_not] at hT
    obtain ⟨hop, hmo⟩ := hT
    refine iCndF rfl ?_
    have hB2 := hst2.blk
    have hos : SlN w2 vord ord := hst2.ord.sl
    have hol := hord.len
    ((with_reducible refine iNil ?_; refine iFa ?_); refine iLdB (by assumption) (by first | rfl | simp) ?_; (with_reducible refine iLenN (by assumption) ?_; refine iEq ?_))
    refine iCndP (fun h3 => ?_) (fun h3 => absurd (show (ys.length : Int) = ord.length by omega) h3)
    ((with_reducible refine iNil ?_; refine iFa ?_); refine iLdB (by assumption) (by first | rfl | simp) ?_)
    intro w5 h
    have hst5 := hst2.later h
    have hch5 := hch2.trans (h.ch (S := fun _ => False)) (fun _ h => h.elim)
    refine iCall ((ok_spec_l01Own (hvim2.ext h).sl (by rw [hpl]; omega)).mono ?_)
    rintro u w6 ⟨h, ho⟩
    (try refine ⟨h, ?_⟩)
    have hnew : ∀ x ∈ vs, ∀ c, x.ownBlock = some c → u.ownBlock ≠ some c := fun x hx c hc e => by have := (hst5.owl.lt hx hc).2; have := (ho.blk c e).1; omega
    have hsz5 := hst5.ext.size
    have hst6 := hst5.later h
    have hch6 := hch5.trans (h.ch (S := fun _ => False)) (fun _ h => h.elim)
    intro w7 h
    have hst7 := hst6.later h
    have hch7 := hch6.trans (h.ch (S := fun _ => False)) (fun _ h => h.elim)
    have ho := ho.ext h
    refine iBs1 rfl ho.cell fun bb w8 hbb h hBb => ?_
    (try refine ⟨h, ?_⟩)
    have hst8 := hst7.later h
    have hch8 := hch7.trans (h.ch (S := fun _ => False)) (fun _ h => h.elim)
    have ho := ho.ext h
    intro w9 h
    have hst9 := hst8.later h
    have hch9 := hch8.trans (h.ch (S := fun _ => False)) (fun _ h => h.elim)
    have ho := ho.ext h
    have hBb := hBb.ext h
    refine iAppA u_SSi64 i_SSi64 rfl hst9.ow (Sl.ofBlk hBb rfl (by omega)) (fun x hx => by simp at hx; subst hx; exact ho.cell) (by simp; omega) (by simp; omega) hst9.ext.size fun found' w10 hf' hg' hat => ?_
    have hfb : found.ownBlock ≠ some b := hst9.ow.ne_blk hst9.blk (fun h => he2 h)
    have hB10 := hst9.blk.grown hg' hfb
    have hgc := grown_ch (S := fun k => found.ownBlock = some k) hg' (fun k hk => hk)
    have hord10 := hst9.ord.ch hgc (fun c hc he => hst9.ord.ne_ow hst9.ow (by decide) hc he)
    have hol10 := hst9.owl.ch hgc (fun x hx c hc he => by
      obtain ⟨l, hl⟩ := hst9.owl.ow hx
      exact hl.ne_ow hst9.ow (by decide) hc he)
    have ho10 := ho.ch hgc (fun c hc he => ho.ne_ow hst9.ow (by decide) hc he)
    have hch10 := hch9.trans hgc (fun k hk => .inl (.inr hk))
    ((with_reducible refine iNil ?_; refine iFa ?_))
    intro w11 h
    have hB11 := hB10.ext h
    have hord11 := hord10.ext h
    have hol11 := hol10.ext h
    have ho11 := ho10.ext h
    have hf11 := hf'.ext h
    have hch11 := hch10.trans (h.ch (S := fun _ => False)) (fun _ h => h.elim)
    refine iStB hB11 (by simp) hf'.cell fun hB12 => ?_
    have hu := Upd.setCell w11 b 8 found'
    have hch12 := hch11.trans (hu.ch (S := fun k => k = b) rfl) (fun k hk => .inl (.inl hk))
    have hord12 := hord11.upd hu (hord11.ne_blk hB11 (fun h => he1 h))
    have hf12 := hf11.upd hu (hf11.ne_blk hB11 (fun h => he2 h))
    have ho12 := ho11.upd hu (ho11.ne_blk hB11 (fun h => he1 h))
    have hol12 := hol11.ch (hu.ch (S := fun k => k = b) rfl) (fun x hx c hc he => by
      obtain ⟨l, hl⟩ := hol11.ow hx
      exact hl.ne_blk hB11 (fun h => he1 h) (by rw [hc, he]))
    intro w13 h
    have hS : ∀ c, (c = b ∨ found.ownBlock = some c) → w0.heap.size ≤ c := fun c hc => by
      rcases hc with rfl | hc
      · exact hb
      · exact (hst.ow.blk c hc).1
    have hL : srch f g fix onto ord 0 ys = [ys] := by
      unfold srch
      rw [if_pos hop]; rfl
    refine ⟨by trivial, found', vs ++ [u], ls ++ [partL f.n ord ys], ⟨(hst.ext.thenCh hch12 hS).trans h, hB12.ext h, hord12.ext h, hf12.ext h, ?_⟩, ?_, hch12.trans (h.ch (S := fun _ => False)) (fun _ h => h.elim), fun c hc => ?_⟩
    · rw [List.map_append]
      exact (hol12.ext h).snoc ((ho12.ext h).mono hsz5) hnew
    · rw [hL, List.take_of_length_le]
      · rfl
      · simp; omega
    · rcases hat with h1 | ⟨c', h1, h2⟩
      · exact .inl (by rw [← h1]; exact hc)
      · rw [h1] at hc; cases hc
        have := hch9.size
        exact .inr (by omega)
  | succ d ih =>
    intro ys w vim found vs ls hlen hm hls hst hvim
    have hpl := part_length f.n ord ys
    have hplt := part_lt (n := f.n) (ord := ord) hm
    have hvl := hst.len
    apply c_spec_l21Search; unfold S_spec_l21Search
    refine iJnB (!openB f g fix onto (partL f.n ord ys) || decide (most ≤ ls.length)) w (fun J hJ => ?_) (fun w2 h2 => ?_)
    · refine iRetQ (fun w' h' => ok_spec_l21Open hf hg hpl hplt hfl (hst.later h').blk (hfa.ext (hst.later h').ext) (hga.ext (hst.later h').ext) (hfix.ext (hst.later h').ext) (hvim.ext h').sl) ?_
      ((with_reducible refine iNot ?_))
      cases hop : openB f g fix onto (partL f.n ord ys)
      · refine iCndT rfl ?_
        intro w3 h3
        have := hJ w3 h3
        rwa [hop] at this
      · refine iCndF rfl ?_
        have hB := hst.blk
        have hfs := hst.ow.sl
        ((with_reducible refine iNil ?_; refine iFa ?_); refine iLdB (by assumption) (by first | rfl | simp) ?_; (with_reducible refine iLenS (by assumption) ?_; refine iNil ?_; refine iFa ?_); refine iLdB (by assumption) (by first | rfl | simp) ?_; (with_reducible refine iLe ?_))
        intro w4 h4
        have := hJ w4 h4
        rw [hop, Bool.not_true, Bool.false_or] at this
        have e3 : decide ((most : Int) ≤ (vs.length : Int)) = decide (most ≤ ls.length) := decide_eq_decide.2 (by omega)
        rw [e3]; exact this
    have hst2 := hst.later h2
    have hvim2 := hvim.ext h2
    have hch2 : Ch (fun k => k = b ∨ found.ownBlock = some k) w w2 := h2.ch
    (intro _; (try simp only [gx]))
    cases hT : (!openB f g fix onto (partL f.n ord ys) || decide (most ≤ ls.length))
    case true =>
      refine iCndT rfl ⟨by trivial, found, vs, ls, hst2, ?_, hch2, fun c hc => .inl hc⟩
      rw [Bool.or_eq_true, Bool.not_eq_true', decide_eq_true_eq] at hT
      rcases hT with hT | hT
      · unfold srch
        rw [hT, if_neg (by simp), List.map_nil, List.append_nil, List.take_of_length_le hls]
      · rw [List.take_append_of_le_length hT, List.take_of_length_le hls]
    rw [Bool.or_eq_false_iff, Bool.not_eq_false', decide_eq_false_iff_not] at hT
    obtain ⟨hop, hmo⟩ := hT
    refine iCndF rfl ?_
    have hB2 := hst2.blk
    have hos : SlN w2 vord ord := hst2.ord.sl
    have hol := hord.len
    ((with_reducible refine iNil ?_; refine iFa ?_); refine iLdB (by assumption) (by first | rfl | simp) ?_; (with_reducible refine iLenN (by assumption) ?_; refine iEq ?_))
    refine iCndP (fun h3 => absurd h3 (by omega)) (fun h3 => ?_)
    have hk : ys.length < f.n := by omega
    have hx : ord.getD ys.length 0 < f.n := by
      have h4 : ys.length < ord.length := by omega
      have e4 : ord.getD ys.length 0 = ord[ys.length] := by simp [List.getD_eq_getElem?_getD, h4]
      rw [e4]; exact hord.lt _ (List.getElem_mem h4)
    have hgx := fr_lt63 hf (ord.getD ys.length 0)
    have hnS : ∀ c, vim.ownBlock = some c → ¬ (c = b ∨ found.ownBlock = some c) := fun c hc => by
      rintro (rfl | h1)
      · exact hvim.ne_blk hst.blk (fun h => he1 h) hc
      · exact hvim.ne_ow hst.ow (by decide) hc h1
    ((with_reducible refine iNil ?_; refine iFa ?_); refine iLdB (by assumption) (by first | rfl | simp) ?_; (with_reducible refine iIaNN (by assumption) ?_ (fun pa_ hpa_ => ?_)); omega; (with_reducible refine iLd (by assumption) ?_))
    refine iLp (fun k : Nat => [.int .i64 (k : Int)]) (fun k w' => k ≤ g.n ∧ ∃ found' vs' ls', SrSt f g onto e t_i64 t_Si64 w0 fa ga vord vfix ord b most w' found' vs' ls' ∧
        ls' = (ls ++ ((List.range k).flatMap fun y => if stepB f g fix ord (ys ++ [y]) then srch f g fix onto ord d (ys ++ [y]) else []).map (partL f.n ord)).take most ∧ Ch (fun k => k = b ∨ found.ownBlock = some k) w w' ∧ ∀ c, found'.ownBlock = some c → found.ownBlock = some c ∨ w.heap.size ≤ c)
      (fun k => g.n - k) 0 rfl ⟨Nat.zero_le _, found, vs, ls, hst2, by rw [List.range_zero, List.flatMap_nil, List.map_nil, List.append_nil, List.take_of_length_le hls], hch2, fun c hc => .inl hc⟩ ?_
    rintro k w15 Kn ⟨hkg, found', vs', ls', hst', hls', hch, hfb⟩ hKn
    have hB15 := hst'.blk
    have hfix15 := hfix.ext hst'.ext
    (intro _; (try simp only [gx]); (with_reducible refine iNil ?_; refine iFa ?_; refine iFa ?_); refine iLdB (by assumption) (by first | rfl | simp) ?_; (with_reducible refine iLt ?_))
    refine iCndP (fun h4 => ?_) (fun h4 => ?_)
    · have hk1 : k < g.n := by omega
      have hgk := fr_lt63 hg k
      have hnext : ∀ w', (∃ found' vs' ls', SrSt f g onto e t_i64 t_Si64 w0 fa ga vord vfix ord b most w' found' vs' ls' ∧
          ls' = (ls ++ ((List.range (k + 1)).flatMap fun y => if stepB f g fix ord (ys ++ [y]) then srch f g fix onto ord d (ys ++ [y]) else []).map (partL f.n ord)).take most ∧ Ch (fun k => k = b ∨ found.ownBlock = some k) w w' ∧ ∀ c, found'.ownBlock = some c → found.ownBlock = some c ∨ w.heap.size ≤ c) → Kn [.int .i64 ((k + 1 : Nat) : Int)] w' := fun w' h => hKn (k + 1) _ ⟨by omega, h⟩ (by omega)
      have hflat : ((List.range (k + 1)).flatMap fun y => if stepB f g fix ord (ys ++ [y]) then srch f g fix onto ord d (ys ++ [y]) else []) = ((List.range k).flatMap fun y => if stepB f g fix ord (ys ++ [y]) then srch f g fix onto ord d (ys ++ [y]) else []) ++ if stepB f g fix ord (ys ++ [k]) then srch f g fix onto ord d (ys ++ [k]) else [] := by
        rw [List.range_succ, List.flatMap_append]; simp
      have hlast : (ys ++ [k]).length - 1 = ys.length := by simp
      have hgl : (ys ++ [k]).getD ys.length 0 = k := by simp [List.getD_eq_getElem?_getD]
      have hstepB : stepB f g fix ord (ys ++ [k]) = ((decide (fix.getD (ord.getD ys.length 0) 0 < 0) || decide (fix.getD (ord.getD ys.length 0) 0 = (k : Int))) && decide (imgP (partL f.n ord (ys ++ [k])) (f.a.getD (ord.getD ys.length 0) 0) = g.a.getD k 0)) := by
        unfold stepB
        rw [hlast, hgl]
      refine iJnB (decide (0 ≤ fix.getD (ord.getD ys.length 0) 0) && !decide (fix.getD (ord.getD ys.length 0) 0 = (k : Int))) w15 (fun J hJ => ?_) (fun w17 h17 => ?_)
      · ((with_reducible refine iNil ?_; refine iFa ?_); refine iLdB (by assumption) (by first | rfl | simp) ?_; (with_reducible refine iIaN (by assumption) ?_ (fun pa_ hpa_ => ?_)); omega; (with_reducible refine iLd (by assumption) ?_; refine iLe ?_))
        refine iCndP (fun h5 => ?_) (fun h5 => ?_)
        · ((with_reducible refine iNil ?_; refine iFa ?_); refine iLdB (by assumption) (by first | rfl | simp) ?_; (with_reducible refine iIaN (by assumption) ?_ (fun pa_ hpa_ => ?_)); omega; (with_reducible refine iLd (by assumption) ?_; refine iNe ?_))
          have := hJ w15 (Ext.refl _)
          rw [decide_eq_true h5, Bool.true_and] at this
          have e5 : decide (¬ fix.getD (ord.getD ys.length 0) 0 = (k : Int)) = !decide (fix.getD (ord.getD ys.length 0) 0 = (k : Int)) := by simp
          rw [e5]; exact this
        · have := hJ w15 (Ext.refl _)
          rwa [decide_eq_false h5, Bool.false_and] at this
      · have hst17 := hst'.later h17
        have hch17 := hch.trans (h17.ch (S := fun _ => False)) (fun _ h => h.elim)
        have hvim17 := hvim.ch hch17 hnS
        (intro _; (try simp only [gx]))
        cases hT2 : (decide (0 ≤ fix.getD (ord.getD ys.length 0) 0) && !decide (fix.getD (ord.getD ys.length 0) 0 = (k : Int)))
        · refine iCndF rfl ?_
          have hfixok : (decide (fix.getD (ord.getD ys.length 0) 0 < 0) || decide (fix.getD (ord.getD ys.length 0) 0 = (k : Int))) = true := by
            rw [Bool.and_eq_false_iff] at hT2
            rw [Bool.or_eq_true, decide_eq_true_eq, decide_eq_true_eq]
            rcases hT2 with h | h
            · have := of_decide_eq_false h; exact .inl (by omega)
            · rw [Bool.not_eq_false', decide_eq_true_eq] at h; exact .inr h
          rw [hfixok, Bool.true_and] at hstepB
          refine iCall ((ok_spec_l01Own hvim17.sl (by rw [hpl]; omega)).mono ?_)
          rintro u w18 ⟨h18, hou⟩
          have hil : (ints (partL f.n ord ys)).length = f.n := by rw [ints_length, hpl]
          refine iIaOwE hou (by omega) fun bu hbu hwr => ?_
          obtain ⟨hc1, hc2, hc3⟩ := hwr w18 _ rfl hou
          rw [List.getElem?_eq_getElem (by omega)] at hc1
          refine iSt hc1 hc2 rfl ?_
          have hou2 := hc3 (.int .i64 (k : Int))
          have hset : (ints (partL f.n ord ys)).set (ord.getD ys.length 0) (.int .i64 (k : Int)) = ints (partL f.n ord (ys ++ [k])) := by
            rw [part_snoc hord hk]; simp [ints, List.map_set]
          rw [hset] at hou2
          have hX19 : Ext w17 (w18.setCell ⟨bu, ord.getD ys.length 0, none⟩ (.int .i64 (k : Int))) := h18.upd (Upd.setCell _ _ _ _) (hou.blk bu hbu).1
          have hst19 := hst17.later hX19
          have hch19 := hch17.trans (hX19.ch (S := fun _ => False)) (fun _ h => h.elim)
          have hm' : ∀ y ∈ ys ++ [k], y < g.n := fun y hy => by
            simp at hy
            rcases hy with hy | rfl
            · exact hm y hy
            · exact hk1
          have hpl' := part_length f.n ord (ys ++ [k])
          have hplt' := part_lt (n := f.n) (ord := ord) hm'
          have hB19 := hst19.blk
          have hfa19 := hfa.ext hst19.ext
          have hga19 := hga.ext hst19.ext
          have hlen' : (ys ++ [k]).length = ys.length + 1 := by simp
          have hfal := hf.2.1
          have hgal := hg.2.1
          ((with_reducible refine iNil ?_; refine iFa ?_; refine iFa ?_); refine iLdB (by assumption) (by first | rfl | simp) ?_; (with_reducible refine iIaNN (by assumption) ?_ (fun pa_ hpa_ => ?_)); omega; (with_reducible refine iLd (by assumption) ?_))
          refine iRetQ (fun w' h' => ok_spec_l21Images (hou2.ext h').sl (by rw [hpl']; omega) (fun y hy => by have := (hplt' y hy).2; omega) _ (by rw [hpl']; exact hf.lt hx)) ?_
          ((with_reducible refine iNil ?_; refine iFa ?_; refine iFa ?_); refine iLdB (by assumption) (by first | rfl | simp) ?_; (with_reducible refine iIaNN (by assumption) ?_ (fun pa_ hpa_ => ?_)); omega; (with_reducible refine iLd (by assumption) ?_; refine iEq ?_))
          intro w20 h20
          have hst20 := hst19.later h20
          have hch20 := hch19.trans (h20.ch (S := fun _ => False)) (fun _ h => h.elim)
          have hou20 := hou2.ext h20
          refine iCndP (fun h9 => ?_) (fun h9 => ?_)
          · have hst : stepB f g fix ord (ys ++ [k]) = true := by rw [hstepB]; exact decide_eq_true (by omega)
            rw [hst, if_pos rfl] at hflat
            (refine iAdd (by omega) ?_)
            have hc2 : (ys.length : Int) + 1 = ((ys ++ [k]).length : Int) := by rw [hlen']; omega
            rw [hc2]
            refine iCall ((ih (ys ++ [k]) w20 u found' vs' ls' (by omega) hm' (by rw [hls', List.length_take]; omega) hst20 (hou20.mono hst17.ext.size)).mono ?_)
            rintro _ w21 ⟨rfl, found2, vs2, ls2, hst21, hls21, hch21, hfb21⟩
            (refine iAdd (by omega) ?_)
            refine hnext w21 ⟨found2, vs2, ls2, hst21, ?_, hch20.trans hch21 (fun c hc => ?_), fun c hc => ?_⟩
            · rw [hls21, hls', hflat, List.map_append, ← List.append_assoc]
              exact take_take_append _ _ _
            · rcases hc with rfl | hc
              · exact .inl (.inl rfl)
              · exact (hfb c hc).imp .inr id
            · rcases hfb21 c hc with h1 | h1
              · exact hfb c h1
              · have := hch20.size
                exact .inr (by omega)
          · have hsf : stepB f g fix ord (ys ++ [k]) = false := by rw [hstepB]; exact decide_eq_false (by omega)
            (refine iAdd (by omega) ?_)
            refine hnext w20 ⟨found', vs', ls', hst20, ?_, hch20, hfb⟩
            rw [hflat, hsf, if_neg (by simp), List.append_nil]; exact hls'
        · refine iCndT rfl ?_
          (refine iAdd (by omega) ?_)
          have hsf : stepB f g fix ord (ys ++ [k]) = false := by
            rw [Bool.and_eq_true, decide_eq_true_eq, Bool.not_eq_true', decide_eq_false_iff_not] at hT2
            rw [hstepB, decide_eq_false (show ¬ fix.getD (ord.getD ys.length 0) 0 < 0 by omega), decide_eq_false hT2.2]; rfl
          refine hnext w17 ⟨found', vs', ls', hst17, ?_, hch17, hfb⟩
          rw [hflat, hsf, if_neg (by simp), List.append_nil]; exact hls'
    · obtain rfl : k = g.n := by omega
      refine ⟨by trivial, found', vs', ls', hst', ?_, hch, hfb⟩
      rw [hls', srch_succ _ _ _ _ _ _ _ hop]
end Go.Proofs.YtikfhibcdhdglaaGreat

/- Contracts: depths in posets, and the reference's search for p-morphisms from its start. Conditions: none. -/
namespace Go.Vc
theorem iMaxN {a b : Nat} {k : IntKind} {K : Value → Prop} (h : K (.int k ((max a b : Nat) : Int))) : xMax (.int k (a : Int)) (.int k (b : Int)) K := by
  refine ⟨_, _, _, _, rfl, rfl, ?_⟩
  have e : (if (b : Int) > (a : Int) then (b : Int) else (a : Int)) = ((max a b : Nat) : Int) := by split <;> omega
  rw [e]; exact h
/-- What a search finds, as the reference lays it. -/
def findP (f g : Fr) (fix : List Int) (onto : Bool) (most : Nat) : List (List Int) := ((srch f g fix onto (ordOf f) f.n []).map (partL f.n (ordOf f))).take most
theorem part_nil (n : Nat) (ord : List Nat) : partL n ord [] = List.replicate n (-1) := by
  apply List.ext_getElem
  · simp [partL]
  · intro i h1 h2
    simp [partL]
theorem depF_succ (f : Fr) (k x : Nat) : depF f (k + 1) x = bestF (depF f k) (aboveB f x) f.n + 1 := rfl
theorem dep_unf {f : Fr} (hp : Po f) (x : Nat) : dep f x = bestF (dep f) (aboveB f x) f.n + 1 := by
  have h : bestF (depF f 8) (aboveB f x) f.n = bestF (dep f) (aboveB f x) f.n := by
    refine bestF_congr f.n fun u hu hb => ?_
    have h7 := popc_above hp hb
    have h8 := popc_le8 hp.ok x
    have h9 := hp.ok.1
    exact dep_eq hp hu (by omega)
  rw [← h]
  exact depF_succ f 8 x
theorem dep_le {f : Fr} (hp : Po f) {x : Nat} (hx : x < f.n) : dep f x ≤ f.n := Nat.le_trans (depF_le hp 9 x hx) (popc_le8 hp.ok x)
theorem getD_range {n k : Nat} (h : k < n) : (List.range n).getD k 0 = k := by simp [List.getD_eq_getElem?_getD, h]
end Go.Vc
namespace Go.Proofs.YtikfhibcdhdglaaGreat
open Go.Vc
theorem ok_spec_l05Reach_po {f : Fr} (hp : Po f) {v : Value} {w : World} (hs : SlN w v f.a) (m : Nat) (hm : m < 2 ^ f.n) : Ret Tryz.prog f_spec_l05Reach #[.agg #[.int .i64 (f.n : Int), v], .int .i64 (m : Int)] w (.int .i64 ((rowsK f.a m f.n : Nat) : Int)) := by
  apply c_spec_l05Reach; unfold S_spec_l05Reach
  have hf8 := hp.ok.1
  have hfl := hp.ok.2.1
  have h63 : ∀ z, z < 2 ^ f.n → z < 2 ^ 63 := fun z hz => Nat.lt_of_lt_of_le hz (Nat.pow_le_pow_right (by omega) (by omega))
  refine iNew fun b w1 hb1 h1 hB => ?_
  refine iLp (fun s : Nat => [.int .i64 (s : Int)]) (fun s w' => (s = m ∨ s = rowsK f.a m f.n) ∧ Ext w1 w') (fun s => if s = rowsK f.a m f.n then 0 else 1) m rfl ⟨.inl rfl, Ext.refl _⟩ ?_
  rintro s w3 Kn ⟨hsm, h3⟩ hKn
  have hB3 := hB.ext h3
  have hs3 : SlN w3 v f.a := (hs.ext h1).ext h3
  have hslt : s < 2 ^ f.n := by
    rcases hsm with rfl | rfl
    · exact hm
    · exact rowsK_lt hp.ok.2.2 m f.n
  have hrlt := rowsK_lt hp.ok.2.2 s f.n
  have hri := ok_spec_l01Image hs3 (show f.n ≤ 62 by omega) hp.ok.2.2 (by omega) s (h63 _ hslt)
  rw [hfl] at hri
  (intro _; (try simp only [gx]); (with_reducible refine iFa ?_); refine iLdB (by assumption) (by first | rfl | simp) ?_)
  refine iRet hri fun w4 h4 => ?_
  refine iBAndNot (h63 _ hrlt) (h63 _ hslt) ?_
  ((with_reducible refine iNe ?_))
  refine iCndP (fun h5 => ?_) (fun h5 => ?_)
  · have hB4 := hB3.ext h4
    have hs4 := hs3.ext h4
    have hri4 := ok_spec_l01Image hs4 (show f.n ≤ 62 by omega) hp.ok.2.2 (by omega) s (h63 _ hslt)
    rw [hfl] at hri4
    ((with_reducible refine iFa ?_); refine iLdB (by assumption) (by first | rfl | simp) ?_)
    refine iRet hri4 fun w5 h6 => ?_
    refine iBOr (h63 _ hslt) (h63 _ hrlt) ?_
    have hsm' : s = m := by
      rcases hsm with h | h
      · exact h
      · exfalso
        apply h5
        rw [h, rows_rows hp]; rfl
    have hor : s ||| rowsK f.a s f.n = rowsK f.a m f.n := by
      rw [hsm']
      apply Nat.eq_of_testBit_eq
      intro j
      rw [Nat.testBit_or, Bool.eq_iff_iff, Bool.or_eq_true]
      exact ⟨fun h => h.elim (rows_sub hp hm j) id, .inr⟩
    rw [hor]
    refine hKn _ _ ⟨.inr rfl, h3.trans (h4.trans h6)⟩ ?_
    rw [if_pos rfl, if_neg]
    · omega
    · rintro h
      apply h5
      rw [h, rows_rows hp]; rfl
  · refine ⟨?_, h1.trans (h3.trans h4)⟩
    have hz : sdiff (rowsK f.a s f.n) s = 0 := by omega
    have : s = rowsK f.a m f.n := by
      rcases hsm with rfl | h
      · apply Nat.eq_of_testBit_eq
        intro j
        rw [Bool.eq_iff_iff]
        exact ⟨rows_sub hp hm j, fun h => (sdiff_eq_zero.1 hz) j h⟩
      · exact h
    rw [← this]
theorem ok_reach_one {f : Fr} (hp : Po f) {v : Value} {w : World} (hs : SlN w v f.a) {x : Nat} (hx : x < f.n) : Ret Tryz.prog f_spec_l05Reach #[.agg #[.int .i64 (f.n : Int), v], .int .i64 ((2 ^ x : Nat) : Int)] w (.int .i64 ((f.a.getD x 0 : Nat) : Int)) := by
  have := ok_spec_l05Reach_po hp hs (2 ^ x) (Nat.pow_lt_pow_right (by omega) hx)
  rwa [rows_one hp.ok hx] at this
theorem ok_spec_l05Clusters_po {f : Fr} (hp : Po f) {v : Value} {w : World} (hs : SlN w v f.a) : Cal Tryz.prog f_spec_l05Clusters #[.agg #[.int .i64 (f.n : Int), v]] w fun u w' => Ext w w' ∧ Ow w.heap.size t_i64 w' u (ints (nats (List.range f.n))) := by
  apply c_spec_l05Clusters; unfold S_spec_l05Clusters
  have hf8 := hp.ok.1
  have hfl := hp.ok.2.1
  refine iNew fun b w1 hb1 h1 hB => ?_
  refine iBs0 fun v8 w2 _ h2 ho => ?_
  obtain ⟨e, hne, hB⟩ : ∃ e, t_i64 ≠ e ∧ Blk e w2 b [.int .i64 (f.n : Int), v] := ⟨_, by decide, hB.ext h2⟩
  have hX2 := h1.trans h2
  have hsz1 := h1.size
  have ho := ho.mono hsz1
  refine iLp (fun s : Value × Nat => [s.1, .int .i64 (s.2 : Int), .int .i64 (s.2 : Int)]) (fun s w' => s.2 ≤ f.n ∧ Ext w w' ∧ Blk e w' b [.int .i64 (f.n : Int), v] ∧ Ow w.heap.size t_i64 w' s.1 (ints (nats (List.range s.2)))) (fun s => f.n - s.2) (v8, 0) rfl ⟨Nat.zero_le _, hX2, hB, ho⟩ ?_
  rintro ⟨u, k⟩ w4 Kn ⟨hk, hX4, hB4, ho4⟩ hKn
  have hk : k ≤ f.n := hk
  have ho4 : Ow w.heap.size t_i64 w4 u (ints (nats (List.range k))) := ho4
  have hs4 := hs.ext hX4
  (intro _; (try simp only [gx]); (with_reducible refine iFa ?_); refine iLdB (by assumption) (by first | rfl | simp) ?_; (with_reducible refine iLt ?_))
  refine iCndP (fun h5 => ?_) (fun h5 => ?_)
  · have hk1 : k < f.n := by omega
    have hgk := fr_lt63 hp.ok k
    refine iLp (fun j : Nat => [.int .i64 (-1), .int .i64 (j : Int)]) (fun j w' => j ≤ k ∧ Ext w4 w') (fun j => k - j) 0 rfl ⟨Nat.zero_le _, Ext.refl _⟩ ?_
    rintro j w6 Kn6 ⟨hj, h6⟩ hKn6
    have hB6 := hB4.ext h6
    have hs6 := hs4.ext h6
    have ho6 := ho4.ext h6
    (intro _; (try simp only [gx]); (with_reducible refine iLt ?_))
    refine iCndP (fun h7 => ?_) (fun h7 => ?_)
    · have hgj := fr_lt63 hp.ok j
      have hj1 : j < f.n := by omega
      refine iJnB false w6 (fun J hJ => ?_) (fun w8 h8 => ?_)
      · ((with_reducible refine iLt ?_))
        refine iCndP (fun _ => ?_) (fun h => absurd (show (-1 : Int) < 0 by omega) h)
        ((with_reducible refine iLdA (by assumption) ?_ ?_); rfl)
        refine iRetQ (fun w' h' => ok_spec_l01One k (by omega) w') ?_
        refine iRetQ (fun w' h' => ok_reach_one hp (hs6.ext h') hk1) ?_
        refine iRetQ (fun w' h' => ok_spec_l01Bit _ j (by omega) (by omega) w') ?_
        refine iCnd (fun hb1 => ?_) (fun hb1 => ?_)
        · ((with_reducible refine iLdA (by assumption) ?_ ?_); rfl)
          refine iRetQ (fun w' h' => ok_spec_l01One j (by omega) w') ?_
          refine iRetQ (fun w' h' => ok_reach_one hp (hs6.ext h') hj1) ?_
          refine iRetQ (fun w' h' => ok_spec_l01Bit _ k (by omega) (by omega) w') ?_
          intro w9 h9
          have hb2 : (f.a.getD j 0).testBit k = false := by
            rw [Bool.eq_false_iff]
            intro hb2
            have := hp.anti k j hb1 hb2
            omega
          rw [hb2]
          exact hJ w9 h9
        · exact fun w9 h9 => hJ w9 h9
      · (intro _; (try simp only [gx]))
        refine iCndF rfl ?_
        (refine iAdd (by omega) ?_)
        exact hKn6 (j + 1) _ ⟨by omega, h6.trans h8⟩ (by omega)
    · ((with_reducible refine iLt ?_))
      refine iJn ?_
      refine iCndP (fun _ => ?_) (fun h => absurd (show (-1 : Int) < 0 by omega) h)
      (refine iAdd (by omega) ?_; intro _; (try simp only [gx]))
      have hil : (ints (nats (List.range k))).length = k := by rw [ints_length, nats_length, List.length_range]
      refine iApp1 u_Si64 i_Si64 rfl ho6 rfl (by omega) (by omega) (hX4.trans h6).size fun v' w7 ho' hg => ?_
      rw [ints_snoc, ← List.range_succ] at ho'
      (refine iAdd (by omega) ?_)
      refine hKn (v', k + 1) _ ⟨by show k + 1 ≤ f.n; omega, (hX4.trans h6).grown hg (fun c hc => (ho6.blk c hc).1), hB6.grown hg (ho6.ne_blk hB6 hne), ho'⟩ (by show f.n - (k + 1) < f.n - k; omega)
  · have : k = f.n := by omega
    subst this
    exact ⟨hX4, ho4⟩
theorem ok_spec_l05Depth_po {f : Fr} (hp : Po f) : ∀ (d x : Nat), x < f.n → popc (f.a.getD x 0) ≤ d → ∀ (v vc : Value) (w : World), SlN w v f.a → SlN w vc (List.range f.n) →
    Ret Tryz.prog f_spec_l05Depth #[.agg #[.int .i64 (f.n : Int), v], vc, .int .i64 (x : Int)] w (.int .i64 ((dep f x : Nat) : Int)) := by
  have hf8 := hp.ok.1
  have hfl := hp.ok.2.1
  intro d
  induction d with
  | zero => intro x hx h; have := popc_pos hp hx; omega
  | succ d ih =>
    intro x hx hd v vc w hs hc
    apply c_spec_l05Depth; unfold S_spec_l05Depth
    have hgx := fr_lt63 hp.ok x
    have hrl : (List.range f.n).length = f.n := List.length_range
    refine iNew fun b w1 hb1 h1 hB => ?_
    have hs1 := hs.ext h1
    have hc1 := hc.ext h1
    ((with_reducible refine iLdA (by assumption) ?_ ?_); rfl)
    refine iRetQ (fun w' h' => ok_spec_l01One x (by omega) w') ?_
    refine iRetQ (fun w' h' => ok_reach_one hp (hs1.ext h') hx) ?_
    intro w2 h2
    have hB2 := hB.ext h2
    have hs2 := hs1.ext h2
    have hc2 := hc1.ext h2
    refine iLp (fun k : Nat => [.int .i64 ((bestF (dep f) (aboveB f x) k : Nat) : Int), .int .i64 (k : Int)]) (fun k w' => k ≤ f.n ∧ Ext w2 w') (fun k => f.n - k) 0 rfl ⟨Nat.zero_le _, Ext.refl _⟩ ?_
    rintro k w4 Kn ⟨hk, h4⟩ hKn
    have hB4 := hB2.ext h4
    have hs4 := hs2.ext h4
    have hc4 := hc2.ext h4
    (intro _; (try simp only [gx]); (with_reducible refine iFa ?_); refine iLdB (by assumption) (by first | rfl | simp) ?_; (with_reducible refine iLt ?_))
    refine iCndP (fun h5 => ?_) (fun h5 => ?_)
    · have hk1 : k < f.n := by omega
      have hbs := bestF_succ (dep f) (aboveB f x) k
      refine iJnB (aboveB f x k) w4 (fun J hJ => ?_) (fun w6 h6 => ?_)
      · ((with_reducible refine iIaNN (by assumption) ?_ (fun pa_ hpa_ => ?_)); omega; (with_reducible refine iLd (by assumption) ?_); (with_reducible refine iIaNN (by assumption) ?_ (fun pa_ hpa_ => ?_)); omega; (with_reducible refine iLd (by assumption) ?_; refine iNe ?_))
        rw [getD_range hk1, getD_range hx]
        refine iCndP (fun h7 => ?_) (fun h7 => ?_)
        · have e : aboveB f x k = (f.a.getD x 0).testBit k := by
            unfold aboveB
            rw [decide_eq_false (show ¬ k = x by omega)]; rfl
          refine iRetQ (fun w' h' => ok_spec_l01Bit _ k (by omega) (by omega) w') ?_
          intro w7 h7
          rw [← e]
          exact hJ w7 h7
        · have e : aboveB f x k = false := by
            unfold aboveB
            rw [decide_eq_true (show k = x by omega)]; rfl
          intro w7 h7
          rw [← e]
          exact hJ w7 h7
      · have hB6 := hB4.ext h6
        have hs6 := hs4.ext h6
        have hc6 := hc4.ext h6
        (intro _; (try simp only [gx]))
        refine iCnd (fun h7 => ?_) (fun h7 => ?_)
        · rw [h7, if_pos rfl] at hbs
          have hpk := popc_above hp h7
          ((with_reducible refine iLdA (by assumption) ?_ ?_); rfl)
          refine iRet (ih k hk1 (by omega) v vc w6 hs6 hc6) fun w9 h9 => ?_
          refine iMaxN ?_
          rw [← hbs]
          (refine iAdd (by omega) ?_)
          exact hKn (k + 1) _ ⟨by omega, h4.trans (h6.trans h9)⟩ (by omega)
        · rw [h7, if_neg (by simp)] at hbs
          (refine iAdd (by omega) ?_)
          rw [← hbs]
          exact hKn (k + 1) _ ⟨by omega, h4.trans h6⟩ (by omega)
    · obtain rfl : k = f.n := by omega
      have e := dep_unf hp x
      have hle3 := dep_le hp hx
      (refine iAdd (by omega) ?_)
      refine ⟨?_, h1.trans (h2.trans h4)⟩
      rw [e, Int.natCast_add]; rfl
theorem ok_spec_l05Depths_po {f : Fr} (hp : Po f) {v : Value} {w : World} (hs : SlN w v f.a) : Cal Tryz.prog f_spec_l05Depths #[.agg #[.int .i64 (f.n : Int), v]] w fun u w' => Ext w w' ∧ Ow w.heap.size t_i64 w' u (ints (nats ((List.range f.n).map (dep f)))) := by
  apply c_spec_l05Depths; unfold S_spec_l05Depths
  have hf8 := hp.ok.1
  have hfl := hp.ok.2.1
  refine iNew fun b w1 hb1 h1 hB => ?_
  have hs1 := hs.ext h1
  ((with_reducible refine iLdA (by assumption) ?_ ?_); rfl)
  refine iCall ((ok_spec_l05Clusters_po hp hs1).mono ?_)
  rintro vc w2 ⟨h2, hoc⟩
  refine iBs0 fun v8 w3 _ h3 ho => ?_
  have hX3 := h1.trans (h2.trans h3)
  have hsz := (h1.trans h2).size
  obtain ⟨e, hne, hB⟩ : ∃ e, t_i64 ≠ e ∧ Blk e w3 b [.int .i64 (f.n : Int), v] := ⟨_, by decide, (hB.ext h2).ext h3⟩
  have hoc3 := hoc.ext h3
  refine iLp (fun s : Value × Nat => [s.1, .int .i64 (s.2 : Int)]) (fun s w' => s.2 ≤ f.n ∧ Ext w2 w' ∧ Blk e w' b [.int .i64 (f.n : Int), v] ∧ Ow w2.heap.size t_i64 w' s.1 (ints (nats ((List.range s.2).map (dep f))))) (fun s => f.n - s.2) (v8, 0) rfl ⟨Nat.zero_le _, h3, hB, ho⟩ ?_
  rintro ⟨u, k⟩ w5 Kn ⟨hk, h5, hB5, ho5⟩ hKn
  have hk : k ≤ f.n := hk
  have ho5 : Ow w2.heap.size t_i64 w5 u (ints (nats ((List.range k).map (dep f)))) := ho5
  have hs5 := (hs1.ext h2).ext h5
  have hc5 : SlN w5 vc (List.range f.n) := (hoc.ext h5).sl
  (intro _; (try simp only [gx]); (with_reducible refine iFa ?_); refine iLdB (by assumption) (by first | rfl | simp) ?_; (with_reducible refine iLt ?_))
  refine iCndP (fun h6 => ?_) (fun h6 => ?_)
  · have hk1 : k < f.n := by omega
    ((with_reducible refine iLdA (by assumption) ?_ ?_); rfl)
    refine iRet (ok_spec_l05Depth_po hp 9 k hk1 (by have := popc_le8 hp.ok k; omega) v vc w5 hs5 hc5) fun w6 h7 => ?_
    have ho6 := ho5.ext h7
    have hB6 := hB5.ext h7
    have hil : (ints (nats ((List.range k).map (dep f)))).length = k := by rw [ints_length, nats_length, List.length_map, List.length_range]
    refine iApp1 u_Si64 i_Si64 rfl ho6 rfl (by omega) (by omega) (h5.trans h7).size fun v' w7 ho' hg => ?_
    rw [ints_snoc] at ho'
    (refine iAdd (by omega) ?_)
    refine hKn (v', k + 1) _ ⟨by show k + 1 ≤ f.n; omega, (h5.trans h7).grown hg (fun c hc => (ho6.blk c hc).1), hB6.grown hg (ho6.ne_blk hB6 hne), ?_⟩ (by show f.n - (k + 1) < f.n - k; omega)
    show Ow w2.heap.size t_i64 w7 v' (ints (nats ((List.range (k + 1)).map (dep f))))
    rw [List.range_succ, List.map_append]
    exact ho'
  · have : k = f.n := by omega
    subst this
    exact ⟨(h1.trans h2).trans h5, ho5.mono hsz⟩
theorem ok_spec_l16Depths {f : Fr} (hp : Po f) {v : Value} {w : World} (hs : SlN w v f.a) : Cal Tryz.prog f_spec_l16Depths #[.agg #[.int .i64 (f.n : Int), v]] w fun u w' => Ext w w' ∧ Ow w.heap.size t_i64 w' u (ints (nats ((List.range f.n).map (dep f)))) := by
  apply c_spec_l16Depths; unfold S_spec_l16Depths
  refine iNew fun b w1 hb1 h1 hB => ?_
  have hs1 := hs.ext h1
  ((with_reducible refine iFa ?_); refine iLdB (by assumption) (by first | rfl | simp) ?_; (with_reducible refine iFa ?_); refine iLdB (by assumption) (by first | rfl | simp) ?_)
  obtain ⟨va, vc, rfl, hsh⟩ := id hs
  refine iBuild (cs := #[.int .i64 (f.n : Int), .slice va (ints (nats f.a)).length vc]) (by simp [Instr.fill, Value.cells]) ?_
  refine iCall ((ok_spec_l05Depths_po hp hs1).mono ?_)
  rintro u w2 ⟨h2, ho⟩
  exact ⟨h1.trans h2, ho.mono h1.size⟩
theorem ok_spec_l21Free (n : Nat) (hn : n ≤ 8) (w : World) : Cal Tryz.prog f_spec_l21Free #[.int .i64 (n : Int)] w fun u w' => Ext w w' ∧ Ow w.heap.size t_i64 w' u (ints (List.replicate n (-1))) := by
  apply c_spec_l21Free; unfold S_spec_l21Free
  refine iBs0 fun v8 w1 _ h1 ho => ?_
  refine iLp (fun s : Value × Nat => [s.1, .int .i64 (s.2 : Int)]) (fun s w' => s.2 ≤ n ∧ Ext w w' ∧ Ow w.heap.size t_i64 w' s.1 (ints (List.replicate s.2 (-1)))) (fun s => n - s.2) (v8, 0) rfl ⟨Nat.zero_le _, h1, ho⟩ ?_
  rintro ⟨u, k⟩ w3 Kn ⟨hk, h3, ho3⟩ hKn
  have hk : k ≤ n := hk
  have ho3 : Ow w.heap.size t_i64 w3 u (ints (List.replicate k (-1))) := ho3
  (intro _; (try simp only [gx]); (with_reducible refine iLt ?_))
  refine iCndP (fun h4 => ?_) (fun h4 => ?_)
  · have hil : (ints (List.replicate k (-1))).length = k := by rw [ints_length, List.length_replicate]
    refine iApp1 u_Si64 i_Si64 rfl ho3 rfl (by omega) (by omega) h3.size fun v' w5 ho' hg => ?_
    (refine iAdd (by omega) ?_)
    refine hKn (v', k + 1) _ ⟨by show k + 1 ≤ n; omega, h3.grown hg (fun c hc => (ho3.blk c hc).1), ?_⟩ (by show n - (k + 1) < n - k; omega)
    show Ow w.heap.size t_i64 w5 v' (ints (List.replicate (k + 1) (-1)))
    rw [List.replicate_succ']
    unfold ints at ho' ⊢
    rw [List.map_append]
    exact ho'
  · have : k = n := by omega
    subst this
    exact ⟨h3, ho3⟩
end Go.Proofs.YtikfhibcdhdglaaGreat

/- Contracts: the reference's search for p-morphisms from its start (l21Find). Conditions: none. -/
namespace Go.Vc
/-- The order, as far as it is made. -/
def ordPart (f : Fr) (d k : Nat) : List Nat := ordK f d ++ (List.range k).filter fun x => decide (dep f x = d + 1)
theorem ordPart_succ (f : Fr) (d k : Nat) : ordPart f d (k + 1) = if dep f k = d + 1 then ordPart f d k ++ [k] else ordPart f d k := by
  unfold ordPart
  rw [List.range_succ, List.filter_append]
  by_cases h : dep f k = d + 1
  · rw [if_pos h, List.append_assoc]; simp [h]
  · rw [if_neg h]; simp [h]
theorem ordPart_end (f : Fr) (d : Nat) : ordPart f d f.n = ordK f (d + 1) := by
  unfold ordPart ordK
  rw [List.range_succ, List.flatMap_append]; simp
theorem ordPart_len (f : Fr) (d k : Nat) : (ordPart f d k).length ≤ d * f.n + k := by
  unfold ordPart
  rw [List.length_append]
  have h1 : (ordK f d).length ≤ d * f.n := by
    unfold ordK
    induction d with
    | zero => simp
    | succ d ih =>
      rw [List.range_succ, List.flatMap_append, List.length_append, Nat.succ_mul]
      have : ((List.range f.n).filter fun x => decide (dep f x = d + 1)).length ≤ f.n := by
        have := List.length_filter_le (fun x => decide (dep f x = d + 1)) (List.range f.n)
        rwa [List.length_range] at this
      simp only [List.flatMap_cons, List.flatMap_nil, List.append_nil]
      omega
  have h2 := List.length_filter_le (fun x => decide (dep f x = d + 1)) (List.range k)
  rw [List.length_range] at h2
  omega
end Go.Vc
namespace Go.Proofs.YtikfhibcdhdglaaGreat
open Go.Vc
theorem ok_spec_l21Find {f g : Fr} (hp : Po f) (hg : g.ok) {onto : Bool} {fix : List Int} (hfl : fix.length = f.n) {w : World} {fa ga vfix : Value} (hfa : SlN w fa f.a) (hga : SlN w ga g.a) (hfix : SlI w vfix fix) {most : Nat} (hmost : most ≤ 1000000) :
    Cal Tryz.prog f_spec_l21Find #[.agg #[.int .i64 (f.n : Int), fa], .agg #[.int .i64 (g.n : Int), ga], vfix, .bool onto, .int .i64 (most : Int)] w fun v w' => Ext w w' ∧ ∃ vs,
      Ow w.heap.size t_Si64 w' v vs ∧ OwL w.heap.size t_i64 w' vs ((findP f g fix onto most).map ints) := by
  apply c_spec_l21Find; unfold S_spec_l21Find
  have hf8 := hp.ok.1
  have hfal := hp.ok.2.1
  refine iNew fun b1 w1 hb1 h1 hB1 => ?_
  refine iNew fun b2 w2 hb2 h2 hB2 => ?_
  have hB1 := hB1.ext h2
  ((with_reducible refine iLdA (by assumption) ?_ ?_); rfl; (with_reducible refine iLdA (by assumption) ?_ ?_); rfl)
  refine iBs0 fun v22 w3 _ h3 ho22 => ?_
  obtain ⟨va, vn, vc, rfl⟩ := ho22.shape
  obtain ⟨xa, xc, rfl, hsx⟩ := id hfix
  refine iBuild (cs := #[.int .i64 (f.n : Int), fa, .int .i64 (g.n : Int), ga, .slice none 0 0, .slice xa (ints fix).length xc, .bool onto, .int .i64 (most : Int), .slice va vn vc]) (by simp [Instr.fill, Value.cells]) ?_
  refine iNew fun b w4 hb4 h4 hB => ?_
  have hX2 : Ext w w2 := h1.trans h2
  have hX4 : Ext w w4 := hX2.trans (h3.trans h4)
  have hB1 := (hB1.ext h3).ext h4
  have hs4 := hfa.ext hX4
  ((with_reducible refine iLdA (by assumption) ?_ ?_); rfl)
  refine iCall ((ok_spec_l16Depths hp hs4).mono ?_)
  rintro vd w5 ⟨h5, hod⟩
  refine iBs0 fun v27 w6 _ h6 ho27 => ?_
  have hX6 : Ext w w6 := hX4.trans (h5.trans h6)
  have hod6 := hod.ext h6
  have hB1 := (hB1.ext h5).ext h6
  obtain ⟨e1, he1, hB1⟩ : ∃ e, t_i64 ≠ e ∧ Blk e w6 b1 [.int .i64 (f.n : Int), fa] := ⟨_, by decide, hB1⟩
  obtain ⟨e, he, he', hB⟩ : ∃ e, t_i64 ≠ e ∧ t_Si64 ≠ e ∧ Blk e w6 b [.int .i64 (f.n : Int), fa, .int .i64 (g.n : Int), ga, .slice none 0 0, .slice xa (ints fix).length xc, .bool onto, .int .i64 (most : Int), .slice va vn vc] := ⟨_, by decide, by decide, (hB.ext h5).ext h6⟩
  have hb1b : b1 ≠ b := by
    have := (h3.trans h4).size
    have := h3.size; have := h2.size
    omega
  have hbw : w.heap.size ≤ b := by have := (hX2.trans h3).size; omega
  have hb6 := hB.lt
  have hbb6 := hB1.lt
  have hsz6 := hX6.size
  refine iLp (fun d : Nat => [.int .i64 ((d + 1 : Nat) : Int)]) (fun d w' => d ≤ f.n ∧ Ch (fun k => k = b) w6 w' ∧ ∃ vo, Blk e w' b [.int .i64 (f.n : Int), fa, .int .i64 (g.n : Int), ga, vo, .slice xa (ints fix).length xc, .bool onto, .int .i64 (most : Int), .slice va vn vc] ∧ Ow w6.heap.size t_i64 w' vo (ints (nats (ordK f d)))) (fun d => f.n - d) 0 rfl ⟨Nat.zero_le _, (Ext.refl w6).ch, _, hB, Ow.nil _ _ _⟩ ?_
  rintro d w8 Kn ⟨hd, hch, vo, hB8, hoo⟩ hKn
  have hB18 := hB1.ch hch (fun h => hb1b h)
  (intro _; (try simp only [gx]); (with_reducible refine iFa ?_); refine iLdB (by assumption) (by first | rfl | simp) ?_; (with_reducible refine iLe ?_))
  refine iCndP (fun h7 => ?_) (fun h7 => ?_)
  · have hd1 : d < f.n := by omega
    refine iLp (fun k : Nat => [.int .i64 (k : Int)]) (fun k w' => k ≤ f.n ∧ Ch (fun k => k = b) w6 w' ∧ ∃ vo, Blk e w' b [.int .i64 (f.n : Int), fa, .int .i64 (g.n : Int), ga, vo, .slice xa (ints fix).length xc, .bool onto, .int .i64 (most : Int), .slice va vn vc] ∧ Ow w6.heap.size t_i64 w' vo (ints (nats (ordPart f d k)))) (fun k => f.n - k) 0 rfl ⟨Nat.zero_le _, hch, vo, hB8, by rw [show ordPart f d 0 = ordK f d by simp [ordPart]]; exact hoo⟩ ?_
    rintro k w10 Kn10 ⟨hk, hch10, vo', hB10, hoo10⟩ hKn10
    have hB110 := hB1.ch hch10 (fun h => hb1b h)
    have hod10 : SlN w10 vd ((List.range f.n).map (dep f)) := (hod6.ch hch10 (fun c hc h => hod6.ne_blk hB he (by rw [hc, h]))).sl
    have hdl : ((List.range f.n).map (dep f)).length = f.n := by rw [List.length_map, List.length_range]
    (intro _; (try simp only [gx]); (with_reducible refine iFa ?_); refine iLdB (by assumption) (by first | rfl | simp) ?_; (with_reducible refine iLt ?_))
    refine iCndP (fun h8 => ?_) (fun h8 => ?_)
    · have hk1 : k < f.n := by omega
      have hsucc := ordPart_succ f d k
      have hgd : ((List.range f.n).map (dep f)).getD k 0 = dep f k := by simp [List.getD_eq_getElem?_getD, hk1]
      ((with_reducible refine iIaNN (by assumption) ?_ (fun pa_ hpa_ => ?_)); omega; (with_reducible refine iLd (by assumption) ?_; refine iEq ?_))
      rw [hgd]
      refine iCndP (fun h9 => ?_) (fun h9 => ?_)
      · rw [if_pos (show dep f k = d + 1 by omega)] at hsucc
        ((with_reducible refine iNil ?_; refine iFa ?_); refine iLdB (by assumption) (by first | rfl | simp) ?_)
        have hil : (ints (nats (ordPart f d k))).length ≤ d * f.n + k := by rw [ints_length, nats_length]; exact ordPart_len f d k
        have hdn : d * f.n ≤ 8 * 8 := Nat.mul_le_mul (by omega) (by omega)
        refine iApp1A u_Si64 i_Si64 rfl hoo10 rfl (by omega) (by omega) hch10.size fun v' w12 ho' hg' hat => ?_
        rw [ints_snoc, ← hsucc] at ho'
        have hch12 := hch10.trans (grown_ch (S := fun c => vo'.ownBlock = some c) hg' (fun k hk => hk)) (fun c hc => .inr (hoo10.blk c hc).1)
        have hB12 := hB10.grown hg' (hoo10.ne_blk hB10 he)
        ((with_reducible refine iNil ?_; refine iFa ?_))
        refine iStB hB12 (by simp) ho'.cell fun hB13 => ?_
        have hu := Upd.setCell w12 b 4 v'
        have hch13 := hch12.trans (hu.ch (S := fun k => k = b) rfl) (fun k hk => .inl hk)
        have ho13 := ho'.upd hu (ho'.ne_blk hB12 he)
        (refine iAdd (by omega) ?_)
        exact hKn10 (k + 1) _ ⟨by omega, hch13, v', hB13, ho13⟩ (by omega)
      · rw [if_neg (show ¬ dep f k = d + 1 by omega)] at hsucc
        (refine iAdd (by omega) ?_)
        exact hKn10 (k + 1) _ ⟨by omega, hch10, vo', hB10, by rw [hsucc]; exact hoo10⟩ (by omega)
    · obtain rfl : k = f.n := by omega
      (refine iAdd (by omega) ?_)
      refine hKn (d + 1) _ ⟨by omega, hch10, vo', hB10, by rw [← ordPart_end]; exact hoo10⟩ (by omega)
  · obtain rfl : d = f.n := by omega
    have ho27b := fun c hc => (ho27.blk c hc)
    have ho278 := ho27.ch hch (fun c hc h => ho27.ne_blk hB he (by rw [hc, h]))
    have h5s := h5.size
    refine iLp (fun s : Value × Nat => [s.1, .int .i64 (s.2 : Int)]) (fun s w' => s.2 ≤ f.n ∧ Ch (fun k => v27.ownBlock = some k) w8 w' ∧ Ow w5.heap.size t_i64 w' s.1 (ints (List.replicate s.2 (-1))) ∧ ∀ c, s.1.ownBlock = some c → v27.ownBlock = some c ∨ w8.heap.size ≤ c) (fun s => f.n - s.2) (v27, 0) rfl ⟨Nat.zero_le _, (Ext.refl w8).ch, ho278, fun c hc => .inl hc⟩ ?_
    rintro ⟨u, k⟩ w15 Kn15 ⟨hk, hch15, ho15, hat15⟩ hKn15
    have hk : k ≤ f.n := hk
    have ho15 : Ow w5.heap.size t_i64 w15 u (ints (List.replicate k (-1))) := ho15
    have hch8s := hch.size
    have hch15s := hch15.size
    have h6s := h6.size
    have hB115 := hB18.ch hch15 (fun h => ho278.ne_blk hB18 he1 h)
    (intro _; (try simp only [gx]); (with_reducible refine iFa ?_); refine iLdB (by assumption) (by first | rfl | simp) ?_; (with_reducible refine iLt ?_))
    refine iCndP (fun h8 => ?_) (fun h8 => ?_)
    · have hil : (ints (List.replicate k (-1))).length = k := by rw [ints_length, List.length_replicate]
      refine iApp1A u_Si64 i_Si64 rfl ho15 rfl (by omega) (by omega) (by omega) fun v' w17 ho' hg' hat => ?_
      (refine iAdd (by omega) ?_)
      refine hKn15 (v', k + 1) _ ⟨by show k + 1 ≤ f.n; omega, hch15.trans (grown_ch (S := fun c => u.ownBlock = some c) hg' (fun k hk => hk)) (fun c hc => hat15 c hc), ?_, fun c hc => ?_⟩ (by show f.n - (k + 1) < f.n - k; omega)
      · show Ow w5.heap.size t_i64 w17 v' (ints (List.replicate (k + 1) (-1)))
        rw [List.replicate_succ']
        unfold ints at ho' ⊢
        rw [List.map_append]
        exact ho'
      · have hc : v'.ownBlock = some c := hc
        rcases hat with h | ⟨c', h, h'⟩
        · exact hat15 c (by rw [← h]; exact hc)
        · rw [h] at hc; cases hc
          exact .inr (by omega)
    · obtain rfl : k = f.n := by omega
      have hB15 := hB8.ch hch15 (fun h => ho278.ne_blk hB8 he h)
      have hoo15 := hoo.ch hch15 (fun c hc h => by have := (hoo.blk c hc).1; have := (ho27b c h).2; omega)
      have hX8 : Ext w w8 := hX6.thenCh hch (fun c hc => by rw [hc]; exact hbw)
      have hX5 : Ext w w5 := hX4.trans h5
      have hX5s := hX5.size
      have hX15 : Ext w w15 := hX8.thenCh hch15 (fun c hc => by have := (ho27b c hc).1; omega)
      have hov15 := (((ho22.mono hX2.size).ext h4).ext h5).ext h6
      have hov8 := hov15.ch hch (fun c hc h => hov15.ne_blk hB he' (by rw [hc, h]))
      have hov := hov8.ch hch15 (fun c hc h => hov8.ne_ow ho278 (by decide) hc h)
      have hst : SrSt f g onto e t_i64 t_Si64 w fa ga vo (.slice xa (ints fix).length xc) (ordOf f) b most w15 (.slice va vn vc) [] [] := ⟨hX15, hB15, hoo15.mono hX6.size, hov, OwL.nil _ _ _⟩
      have hpn := part_nil f.n (ordOf f)
      refine iCall ((ok_spec_l21Search hp.ok hg he he' (ordOf_ok hp) hfl hfa hga hfix hbw hmost f.n [] w15 u (.slice va vn vc) [] [] (by simp) (fun y hy => by cases hy) (by simp) hst (by rw [hpn]; exact ho15.mono hX5s)).mono ?_)
      rintro _ w16 ⟨rfl, found', vs', ls', hst', hls', _, _⟩
      have hB16 := hst'.blk
      ((with_reducible refine iNil ?_; refine iFa ?_); refine iLdB (by assumption) (by first | rfl | simp) ?_)
      refine ⟨hst'.ext, vs', hst'.ow, ?_⟩
      have := hst'.owl
      rw [hls', List.nil_append] at this
      exact this
end Go.Proofs.YtikfhibcdhdglaaGreat

/- Contracts: upsets and parts of posets, in the program and the reference. Conditions: none. -/
namespace Go.Vc
def orK (a : List Nat) (ms : List Nat) (k : Nat) : Nat := ((ms.take k).map fun i => a.getD i 0).foldl (· ||| ·) 0
theorem orK_succ (a ms : List Nat) (k : Nat) (h : k < ms.length) : orK a ms (k + 1) = orK a ms k ||| a.getD ms[k] 0 := by
  unfold orK
  rw [List.take_succ_eq_append_getElem h, List.map_append, List.foldl_append]; rfl
theorem orK_lt {a : List Nat} {n : Nat} (h : ∀ x ∈ a, x < 2 ^ n) (ms : List Nat) : ∀ k, k ≤ ms.length → orK a ms k < 2 ^ n
  | 0, _ => by simp [orK]; exact Nat.two_pow_pos n
  | k + 1, hk => by
    rw [orK_succ a ms k (by omega)]
    refine Nat.or_lt_two_pow (orK_lt h ms k (by omega)) ?_
    by_cases hi : ms[k] < a.length
    · simp only [List.getD_eq_getElem?_getD, List.getElem?_eq_getElem hi, Option.getD_some]; exact h _ (List.getElem_mem _)
    · simp [List.getD_eq_getElem?_getD, List.getElem?_eq_none (Nat.le_of_not_lt hi)]; exact Nat.two_pow_pos n
theorem memK_mem {m n : Nat} (hn : n ≤ 62) (hm : m < 2 ^ n) : memK m n = mem m :=
  memK_stop (Nat.lt_of_lt_of_le hm (Nat.pow_le_pow_right (by omega) (by omega))) (by rw [Nat.shiftRight_eq_div_pow]; exact Nat.div_eq_of_lt hm)
theorem orK_rows {a : List Nat} {m n : Nat} (hn : n ≤ 62) (hm : m < 2 ^ n) : orK a (mem m) (mem m).length = rowsK a m n := by
  unfold orK rowsK
  rw [List.take_length, memK_mem hn hm]
theorem mask_lt_list {m n : Nat} (hn : n ≤ 62) (hm : m < 2 ^ n) : ∀ x ∈ mem m, x < n := by
  rw [← memK_mem hn hm]
  exact fun _ hx => memK_lt hx
end Go.Vc
namespace Go.Proofs.YtikfhibcdhdglaaGreat
open Go.Vc
theorem ok_impl_image {v : Value} {w : World} {a : List Nat} (hs : SlN w v a) (hal : a.length ≤ 8) (hlt : ∀ x ∈ a, x < 2 ^ a.length) (m : Nat) (hm : m < 2 ^ a.length) : Ret Tryz.prog f_impl_image #[v, .int .i64 (m : Int)] w (.int .i64 ((rowsK a m a.length : Nat) : Int)) := by
  apply c_impl_image; unfold S_impl_image
  have h8 : ∀ z, z < 2 ^ a.length → z < 2 ^ 8 := fun z hz => Nat.lt_of_lt_of_le hz (Nat.pow_le_pow_right (by omega) hal)
  have hm8 := h8 m hm
  refine iCall ((ok_impl_membersOf m (by omega) w).mono ?_)
  rintro u w1 ⟨h1, hou⟩
  have hml63 : (mem m).length ≤ 63 := memK_length_le _ _
  have hmlt := mask_lt_list (by omega) hm
  have hus : SlN w1 u (mem m) := hou.sl
  ((with_reducible refine iLenN (by assumption) ?_))
  refine iLp (fun k : Nat => [.int .i64 ((orK a (mem m) k : Nat) : Int), .int .i64 (k : Int)]) (fun k w' => k ≤ (mem m).length ∧ Ext w1 w') (fun k => (mem m).length - k) 0 rfl ⟨Nat.zero_le _, Ext.refl _⟩ ?_
  rintro k w3 Kn ⟨hk, h3⟩ hKn
  have hus3 := hus.ext h3
  have hs3 := (hs.ext h1).ext h3
  (intro _; (try simp only [gx]); (with_reducible refine iLt ?_))
  refine iCndP (fun h4 => ?_) (fun h4 => ?_)
  · have hk1 : k < (mem m).length := by omega
    have hg : (mem m).getD k 0 = (mem m)[k] := getD_of_lt hk1
    have hx := hmlt _ (List.getElem_mem hk1)
    ((with_reducible refine iIaNN (by assumption) ?_ (fun pa_ hpa_ => ?_)); omega; (with_reducible refine iLd (by assumption) ?_); (with_reducible refine iIaNN (by assumption) ?_ (fun pa_ hpa_ => ?_)); omega; (with_reducible refine iLd (by assumption) ?_))
    rw [hg]
    have ho := h8 _ (orK_lt hlt (mem m) k (by omega))
    have ho' := h8 _ (orK_lt hlt (mem m) (k + 1) (by omega))
    have hsu := orK_succ a (mem m) k hk1
    have hgl : a.getD (mem m)[k] 0 < 2 ^ 8 := by
      rw [getD_of_lt hx]; exact h8 _ (hlt _ (List.getElem_mem hx))
    refine iBOr (by omega) (by omega) ?_
    rw [← hsu]
    (refine iAdd (by omega) ?_)
    exact hKn (k + 1) _ ⟨by omega, h3⟩ (by omega)
  · obtain rfl : k = (mem m).length := by omega
    rw [orK_rows (by omega) hm]
    exact ⟨rfl, h1.trans h3⟩
theorem ok_impl_Poset_all (n : Nat) (hn : n ≤ 8) (v : Value) (w : World) : Ret Tryz.prog f_impl_Poset_all #[.agg #[.int .i64 (n : Int), v]] w (.int .i64 ((2 ^ n - 1 : Nat) : Int)) := by
  apply c_impl_Poset_all; unfold S_impl_Poset_all
  have h2n : 2 ^ n ≤ 2 ^ 8 := Nat.pow_le_pow_right (by omega) hn
  have hpos := Nat.two_pow_pos n
  refine iNew fun b w1 hb1 h hB => ?_
  ((with_reducible refine iFa ?_); refine iLdB (by assumption) (by first | rfl | simp) ?_)
  refine iShlOne (by omega) ?_
  (refine iSub (by omega) ?_)
  exact ⟨by congr 1; omega, h⟩
theorem ok_impl_Poset_isUpset {f : Fr} (hf : f.ok) {v : Value} {w : World} (hs : SlN w v f.a) (m : Nat) (hm : m < 2 ^ f.n) : Ret Tryz.prog f_impl_Poset_isUpset #[.agg #[.int .i64 (f.n : Int), v], .int .i64 (m : Int)] w (.bool (decide (rowsK f.a m f.n = m))) := by
  apply c_impl_Poset_isUpset; unfold S_impl_Poset_isUpset
  have hf8 := hf.1
  have hfl := hf.2.1
  have h2n : 2 ^ f.n ≤ 2 ^ 8 := Nat.pow_le_pow_right (by omega) hf8
  refine iNew fun b w1 hb1 h hB => ?_
  refine iJnB (decide (rowsK f.a m f.n = m)) w1 (fun J hJ => ?_) (fun w3 h3 => ?_)
  · ((with_reducible refine iFa ?_); refine iLdB (by assumption) (by first | rfl | simp) ?_)
    refine iRet (ok_impl_isMask f.n m (by omega) w1) fun w4 h4 => ?_
    have hB4 := hB.ext h4
    have hs4 := (hs.ext h).ext h4
    have hmb : (decide (f.n ≤ 30) && maskB f.n (m : Int)) = true := by
      unfold maskB
      rw [Bool.and_eq_true, decide_eq_true_eq, decide_eq_true_eq]; omega
    rw [hmb]
    refine iCndT rfl ?_
    have hri := ok_impl_image hs4 (by omega) (by rw [hfl]; exact hf.2.2) m (by rw [hfl]; exact hm)
    rw [hfl] at hri
    ((with_reducible refine iFa ?_); refine iLdB (by assumption) (by first | rfl | simp) ?_)
    refine iRet hri fun w5 h5 => ?_
    ((with_reducible refine iEq ?_))
    have := hJ w5 (h4.trans h5)
    have e : decide (((rowsK f.a m f.n : Nat) : Int) = (m : Int)) = decide (rowsK f.a m f.n = m) := decide_eq_decide.2 (by omega)
    rw [e]; exact this
  · (intro _; (try simp only [gx]))
    exact ⟨by trivial, h.trans h3⟩
theorem ok_impl_Poset_upsets {f : Fr} (hf : f.ok) {v : Value} {w : World} (hs : SlN w v f.a) : Cal Tryz.prog f_impl_Poset_upsets #[.agg #[.int .i64 (f.n : Int), v]] w fun u w' => Ext w w' ∧ Ow w.heap.size t_i64 w' u (ints (nats (upsets f))) := by
  apply c_impl_Poset_upsets; unfold S_impl_Poset_upsets
  have hf8 := hf.1
  have hfl := hf.2.1
  have h2n : 2 ^ f.n ≤ 2 ^ 8 := Nat.pow_le_pow_right (by omega) hf8
  have hpos := Nat.two_pow_pos f.n
  refine iNew fun b w1 hb h1 hB => ?_
  ((with_reducible refine iLdA (by assumption) ?_ ?_); rfl)
  refine iRet (ok_impl_Poset_all f.n hf8 v w1) fun w2 h2 => ?_
  have hX := h1.trans h2
  obtain ⟨e, hne, hB⟩ : ∃ e, t_i64 ≠ e ∧ Blk e w2 b [.int .i64 (f.n : Int), v] := ⟨_, by decide, hB.ext h2⟩
  (refine iAdd (by omega) ?_)
  have e2 : ((2 ^ f.n - 1 : Nat) : Int) + 1 = ((2 ^ f.n : Nat) : Int) := by omega
  rw [e2]
  refine iLp (fun s : Value × Nat => [s.1, .int .i64 (s.2 : Int)]) (fun s w' => s.2 ≤ 2 ^ f.n ∧ Ext w w' ∧ Blk e w' b [.int .i64 (f.n : Int), v] ∧ Ow w.heap.size t_i64 w' s.1 (ints (nats (upK f s.2)))) (fun s => 2 ^ f.n - s.2) (.slice none 0 0, 0) rfl ⟨Nat.zero_le _, hX, hB, Ow.nil _ _ _⟩ ?_
  rintro ⟨u, k⟩ w4 Kn ⟨hk, hX4, hB4, ho4⟩ hKn
  have hk : k ≤ 2 ^ f.n := hk
  have ho4 : Ow w.heap.size t_i64 w4 u (ints (nats (upK f k))) := ho4
  have hs4 := hs.ext hX4
  (intro _; (try simp only [gx]); (with_reducible refine iLt ?_))
  refine iCndP (fun h6 => ?_) (fun h6 => ?_)
  · have hk1 : k < 2 ^ f.n := by omega
    have hsu := upK_succ f k
    ((with_reducible refine iLdA (by assumption) ?_ ?_); rfl)
    refine iRet (ok_impl_Poset_isUpset hf hs4 k hk1) fun w6 h7 => ?_
    have hX6 := hX4.trans h7
    have hB6 := hB4.ext h7
    have ho6 := ho4.ext h7
    refine iCndP (fun h8 => ?_) (fun h8 => ?_)
    · rw [if_pos h8] at hsu
      have hil : (ints (nats (upK f k))).length ≤ k := by rw [ints_length, nats_length]; exact upK_len f k
      refine iApp1 u_Si64 i_Si64 rfl ho6 rfl (by omega) (by omega) hX6.size fun v' w8 ho' hg => ?_
      rw [ints_snoc, ← hsu] at ho'
      (refine iAdd (by omega) ?_)
      exact hKn (v', k + 1) _ ⟨by show k + 1 ≤ 2 ^ f.n; omega, hX6.grown hg (fun c hc => (ho6.blk c hc).1), hB6.grown hg (ho6.ne_blk hB6 hne), ho'⟩ (by show 2 ^ f.n - (k + 1) < 2 ^ f.n - k; omega)
    · rw [if_neg h8] at hsu
      (refine iAdd (by omega) ?_)
      exact hKn (u, k + 1) _ ⟨by show k + 1 ≤ 2 ^ f.n; omega, hX6, hB6, by show Ow w.heap.size t_i64 w6 u (ints (nats (upK f (k + 1)))); rw [hsu]; exact ho6⟩ (by show 2 ^ f.n - (k + 1) < 2 ^ f.n - k; omega)
  · have hk2 : k = 2 ^ f.n := by omega
    subst hk2
    exact ⟨hX4, ho4⟩
theorem ok_spec_l05Squeeze {v : Value} {w : World} {ms : List Nat} (hs : SlN w v ms) (hml : ms.length ≤ 62) (hmx : ∀ x ∈ ms, x ≤ 62) (m : Nat) (hm : m < 2 ^ 63) : Ret Tryz.prog f_spec_l05Squeeze #[v, .int .i64 (m : Int)] w (.int .i64 ((sqz ms m : Nat) : Int)) := by
  apply c_spec_l05Squeeze; unfold S_spec_l05Squeeze
  refine iLp (fun k : Nat => [.int .i64 ((sqzK ms m k : Nat) : Int), .int .i64 (k : Int)]) (fun k w' => k ≤ ms.length ∧ Ext w w') (fun k => ms.length - k) 0 rfl ⟨Nat.zero_le _, Ext.refl _⟩ ?_
  rintro k w2 Kn ⟨hk, h2⟩ hKn
  have hs2 := hs.ext h2
  (intro _; (try simp only [gx]); (with_reducible refine iLenN (by assumption) ?_; refine iLt ?_))
  refine iCndP (fun h3 => ?_) (fun h3 => ?_)
  · have hk1 : k < ms.length := by omega
    have hsu := sqzK_succ ms m k
    have hx : ms.getD k 0 ≤ 62 := by rw [getD_of_lt hk1]; exact hmx _ (List.getElem_mem hk1)
    have hlt := Nat.lt_of_lt_of_le (sqzK_lt ms m k) (Nat.pow_le_pow_right (by omega) (show k ≤ 62 by omega) : 2 ^ k ≤ 2 ^ 62)
    have h2k : 2 ^ k < 2 ^ 62 := Nat.pow_lt_pow_right (by omega) (by omega)
    ((with_reducible refine iIaNN (by assumption) ?_ (fun pa_ hpa_ => ?_)); omega; (with_reducible refine iLd (by assumption) ?_))
    refine iRet (ok_spec_l01Bit m _ hm (by omega) w2) fun w3 h4 => ?_
    refine iCnd (fun h5 => ?_) (fun h5 => ?_)
    · rw [h5, if_pos rfl] at hsu
      refine iRet (ok_spec_l01One k (by omega) w3) fun w4 h6 => ?_
      refine iBOr (by omega) (by omega) ?_
      rw [← hsu]
      (refine iAdd (by omega) ?_)
      exact hKn (k + 1) _ ⟨by omega, h2.trans (h4.trans h6)⟩ (by omega)
    · rw [h5, if_neg (by simp)] at hsu
      (refine iAdd (by omega) ?_)
      rw [← hsu]
      exact hKn (k + 1) _ ⟨by omega, h2.trans h4⟩ (by omega)
  · obtain rfl : k = ms.length := by omega
    exact ⟨rfl, h2⟩
theorem ok_impl_squeeze (m on : Nat) (hm : m < 2 ^ 63) (hon : on < 2 ^ 62) (w : World) : Ret Tryz.prog f_impl_squeeze #[.int .i64 (m : Int), .int .i64 (on : Int)] w (.int .i64 ((sqz (mem on) m : Nat) : Int)) := by
  apply c_impl_squeeze; unfold S_impl_squeeze
  refine iCall ((ok_impl_membersOf on (by omega) w).mono ?_)
  rintro u w1 ⟨h1, hou⟩
  have hml : (mem on).length ≤ 62 := popc_full (by omega) hon
  have hmx := mask_lt_list (by omega) hon
  have hus : SlN w1 u (mem on) := hou.sl
  generalize mem on = ms at *
  ((with_reducible refine iLenN (by assumption) ?_))
  refine iLp (fun k : Nat => [.int .i64 ((sqzK ms m k : Nat) : Int), .int .i64 (k : Int)]) (fun k w' => k ≤ ms.length ∧ Ext w1 w') (fun k => ms.length - k) 0 rfl ⟨Nat.zero_le _, Ext.refl _⟩ ?_
  rintro k w2 Kn ⟨hk, h2⟩ hKn
  have hs2 := hus.ext h2
  (intro _; (try simp only [gx]); (with_reducible refine iLt ?_))
  refine iCndP (fun h3 => ?_) (fun h3 => ?_)
  · have hk1 : k < ms.length := by omega
    have hsu := sqzK_succ ms m k
    have hx : ms.getD k 0 < 62 := by rw [getD_of_lt hk1]; exact hmx _ (List.getElem_mem hk1)
    have hlt := Nat.lt_of_lt_of_le (sqzK_lt ms m k) (Nat.pow_le_pow_right (by omega) (show k ≤ 62 by omega) : 2 ^ k ≤ 2 ^ 62)
    have h2k : 2 ^ k < 2 ^ 62 := Nat.pow_lt_pow_right (by omega) (by omega)
    ((with_reducible refine iIaNN (by assumption) ?_ (fun pa_ hpa_ => ?_)); omega; (with_reducible refine iLd (by assumption) ?_))
    refine iRet (ok_impl_has m _ hm (by omega) w2) fun w3 h4 => ?_
    refine iCnd (fun h5 => ?_) (fun h5 => ?_)
    · rw [h5, if_pos rfl] at hsu
      refine iShlOne (by omega) ?_
      refine iBOr (by omega) (by omega) ?_
      rw [← hsu]
      (refine iAdd (by omega) ?_)
      exact hKn (k + 1) _ ⟨by omega, h2.trans h4⟩ (by omega)
    · rw [h5, if_neg (by simp)] at hsu
      (refine iAdd (by omega) ?_)
      rw [← hsu]
      exact hKn (k + 1) _ ⟨by omega, h2.trans h4⟩ (by omega)
  · obtain rfl : k = ms.length := by omega
    exact ⟨rfl, h1.trans h2⟩
end Go.Proofs.YtikfhibcdhdglaaGreat

/- Contracts: drawn frames. Conditions: none. -/
namespace Go.Vc
/-- A relation on n elements. -/
def RelOk (n : Nat) (a : List Nat) : Prop := a.length = n ∧ ∀ x ∈ a, x < 2 ^ n
theorem RelOk.get {n : Nat} {a : List Nat} (h : RelOk n a) (_hn : n ≤ 62) (i : Nat) : a.getD i 0 < 2 ^ n := by
  by_cases hi : i < a.length
  · simp only [List.getD_eq_getElem?_getD, List.getElem?_eq_getElem hi, Option.getD_some]; exact h.2 _ (List.getElem_mem _)
  · simp [List.getD_eq_getElem?_getD, List.getElem?_eq_none (Nat.le_of_not_lt hi)]; exact Nat.two_pow_pos n
theorem RelOk.set {n : Nat} {a : List Nat} (h : RelOk n a) (i x : Nat) (hx : x < 2 ^ n) : RelOk n (a.set i x) :=
  ⟨by rw [List.length_set]; exact h.1, fun y hy => (List.mem_or_eq_of_mem_set hy).elim (h.2 y) fun e => by rw [e]; exact hx⟩
end Go.Vc
namespace Go.Proofs.YtikfhibcdhdglaaGreat
open Go.Vc
theorem ok_spec_l01Reflexive {v : Value} {w : World} {n : Nat} {a : List Nat} (hn : n ≤ 30) (ha : RelOk n a) (hs : SlN w v a) : Cal Tryz.prog f_spec_l01Reflexive #[v] w fun u w' => Ext w w' ∧ ∃ a', RelOk n a' ∧ Ow w.heap.size t_i64 w' u (ints (nats a')) := by
  apply c_spec_l01Reflexive; unfold S_spec_l01Reflexive
  have h62 : 2 ^ n ≤ 2 ^ 62 := Nat.pow_le_pow_right (by omega) (by omega)
  have hal := ha.1
  refine iBs0 fun v0 w1 _ h1 ho => ?_
  refine iLp (fun s : Value × Nat => [s.1, .int .i64 (s.2 : Int)]) (fun s w' => s.2 ≤ n ∧ Ext w w' ∧ ∃ l, l.length = s.2 ∧ (∀ x ∈ l, x < 2 ^ n) ∧ Ow w.heap.size t_i64 w' s.1 (ints (nats l))) (fun s => n - s.2) (v0, 0) rfl ⟨Nat.zero_le _, h1, [], rfl, fun x hx => by (cases hx), ho⟩ ?_
  rintro ⟨u, k⟩ w3 Kn ⟨hk, h3, l, hl, hlt, ho3⟩ hKn
  have hk : k ≤ n := hk
  have hl : l.length = k := hl
  have ho3 : Ow w.heap.size t_i64 w3 u (ints (nats l)) := ho3
  have hs3 := hs.ext h3
  (intro _; (try simp only [gx]); (with_reducible refine iLenN (by assumption) ?_; refine iLt ?_))
  refine iCndP (fun h4 => ?_) (fun h4 => ?_)
  · have hk1 : k < n := by omega
    have hg := ha.get (by omega) k
    have h2k : 2 ^ k < 2 ^ n := Nat.pow_lt_pow_right (by omega) hk1
    ((with_reducible refine iIaNN (by assumption) ?_ (fun pa_ hpa_ => ?_)); omega; (with_reducible refine iLd (by assumption) ?_))
    refine iRetQ (fun w' _ => ok_spec_l01One k (by omega) w') ?_
    refine iBOr (by omega) (by omega) ?_
    intro w4 h5
    refine iBs1 rfl rfl fun bb w5 hbb h6 hBb => ?_
    (try refine ⟨h6, ?_⟩)
    intro w6 h7
    have hX6 := h3.trans (h5.trans (h6.trans h7))
    have ho6 := ho3.ext (h5.trans (h6.trans h7))
    have hil : (ints (nats l)).length = k := by rw [ints_length, nats_length, hl]
    refine iApp u_Si64 i_Si64 rfl ho6 (Sl.ofBlk (hBb.ext h7) rfl (by omega)) (fun x hx => by simp at hx; subst hx; rfl) (by simp only [List.length_singleton]; omega) (by simp only [List.length_singleton]; omega) hX6.size fun v' w7 ho' hg' => ?_
    rw [ints_snoc] at ho'
    intro w8 h9
    (refine iAdd (by omega) ?_)
    refine hKn (v', k + 1) _ ⟨by show k + 1 ≤ n; omega, (hX6.grown hg' (fun c hc => (ho6.blk c hc).1)).trans h9, _, by rw [List.length_append, hl]; rfl, fun x hx => ?_, ho'.ext h9⟩ (by show n - (k + 1) < n - k; omega)
    rcases List.mem_append.1 hx with hx | hx
    · exact hlt x hx
    · simp at hx; subst hx; exact Nat.or_lt_two_pow hg h2k
  · have e : k = n := by omega
    exact ⟨h3, l, ⟨by omega, hlt⟩, ho3⟩
theorem ok_spec_l01Closure {v : Value} {w : World} {n : Nat} {a : List Nat} (hn : n ≤ 30) (ha : RelOk n a) (hs : SlN w v a) : Cal Tryz.prog f_spec_l01Closure #[v] w fun u w' => Ext w w' ∧ ∃ a', RelOk n a' ∧ Ow w.heap.size t_i64 w' u (ints (nats a')) := by
  apply c_spec_l01Closure; unfold S_spec_l01Closure
  have h62 : 2 ^ n ≤ 2 ^ 62 := Nat.pow_le_pow_right (by omega) (by omega)
  refine iCall ((ok_spec_l01Own hs (by rw [nats_length, ha.1]; omega)).mono ?_)
  rintro u w1 ⟨h1, ho⟩
  refine iLp (fun k : Nat => [.int .i64 (k : Int)]) (fun k w' => k ≤ n ∧ Ext w w' ∧ ∃ l, RelOk n l ∧ Ow w.heap.size t_i64 w' u (ints (nats l))) (fun k => n - k) 0 rfl ⟨Nat.zero_le _, h1, a, ha, ho⟩ ?_
  rintro k w3 Kn ⟨hk, h3, l, hl, ho3⟩ hKn
  have hs3 : SlN w3 u l := ho3.sl
  have hll := hl.1
  (intro _; (try simp only [gx]); (with_reducible refine iLenN (by assumption) ?_; refine iLt ?_))
  refine iCndP (fun h4 => ?_) (fun h4 => ⟨h3, l, hl, ho3⟩)
  have hk1 : k < n := by omega
  refine iLp (fun i : Nat => [.int .i64 (i : Int)]) (fun i w' => i ≤ n ∧ Ext w w' ∧ ∃ l, RelOk n l ∧ Ow w.heap.size t_i64 w' u (ints (nats l))) (fun i => n - i) 0 rfl ⟨Nat.zero_le _, h3, l, hl, ho3⟩ ?_
  rintro i w5 Kn5 ⟨hi, h5, l5, hl5, ho5⟩ hKn5
  have hs5 : SlN w5 u l5 := ho5.sl
  have hll5 := hl5.1
  (intro _; (try simp only [gx]); (with_reducible refine iLenN (by assumption) ?_; refine iLt ?_))
  refine iCndP (fun h6 => ?_) (fun h6 => ?_)
  · have hi1 : i < n := by omega
    have hgi := hl5.get (by omega) i
    have hgk := hl5.get (by omega) k
    ((with_reducible refine iIaNN (by assumption) ?_ (fun pa_ hpa_ => ?_)); omega; (with_reducible refine iLd (by assumption) ?_))
    refine iRet (ok_spec_l01Bit _ k (by omega) (by omega) w5) fun w6 h7 => ?_
    have ho6 := ho5.ext h7
    have hs6 : SlN w6 u l5 := ho6.sl
    refine iCnd (fun hb => ?_) (fun hb => ?_)
    · ((with_reducible refine iIaNN (by assumption) ?_ (fun pa_ hpa_ => ?_)); omega; (with_reducible refine iLd (by assumption) ?_); (with_reducible refine iIaNN (by assumption) ?_ (fun pa_ hpa_ => ?_)); omega; (with_reducible refine iLd (by assumption) ?_))
      refine iBOr (by omega) (by omega) ?_
      have hil : (ints (nats l5)).length = n := by rw [ints_length, nats_length, hll5]
      refine iIaOwE ho6 (by omega) fun bu hbu hwr => ?_
      intro w7 h8
      have ho7 := ho6.ext h8
      obtain ⟨hc1, hc2, hc3⟩ := hwr w7 _ rfl ho7
      rw [List.getElem?_eq_getElem (by omega)] at hc1
      refine iSt hc1 hc2 rfl ?_
      have ho8 := hc3 (.int .i64 ((l5.getD i 0 ||| l5.getD k 0 : Nat) : Int))
      rw [← ints_nats_set] at ho8
      have hu := Upd.setCell w7 bu i (.int .i64 ((l5.getD i 0 ||| l5.getD k 0 : Nat) : Int))
      intro w9 h9
      (refine iAdd (by omega) ?_)
      exact hKn5 (i + 1) _ ⟨by omega, ((h5.trans (h7.trans h8)).upd hu (ho6.blk bu hbu).1).trans h9, _, hl5.set i _ (Nat.or_lt_two_pow hgi hgk), ho8.ext h9⟩ (by omega)
    · (refine iAdd (by omega) ?_)
      exact hKn5 (i + 1) _ ⟨by omega, h5.trans h7, l5, hl5, ho6⟩ (by omega)
  · (refine iAdd (by omega) ?_)
    exact hKn (k + 1) _ ⟨by omega, h5, l5, hl5, ho5⟩ (by omega)
end Go.Proofs.YtikfhibcdhdglaaGreat

/- Contracts: drawn frames, two of them (l05Draw, l05Renumber, DrawFindFrameIsomorphism). Conditions: none. -/
namespace Go.Vc
/-- A relation with its elements numbered anew. -/
def rnb (a o : List Nat) : List Nat := o.map fun x => sqz o (a.getD x 0)
end Go.Vc
namespace Go.Proofs.YtikfhibcdhdglaaGreat
open Go.Vc
theorem ok_spec_l05Renumber {v u : Value} {w : World} {a o : List Nat} (ha : SlN w v a) (hu : SlN w u o) (hol : o.length ≤ 60) (hlt : ∀ x ∈ o, x < a.length ∧ x ≤ 62) (ha63 : ∀ x ∈ a, x < 2 ^ 62) : Cal Tryz.prog f_spec_l05Renumber #[v, u] w fun r w' => Ext w w' ∧ Ow w.heap.size t_i64 w' r (ints (nats (rnb a o))) := by
  apply c_spec_l05Renumber; unfold S_spec_l05Renumber
  refine iBs0 fun v0 w1 _ h1 ho => ?_
  refine iLp (fun s : Value × Nat => [s.1, .int .i64 (s.2 : Int)]) (fun s w' => s.2 ≤ o.length ∧ Ext w w' ∧ Ow w.heap.size t_i64 w' s.1 (ints (nats ((o.take s.2).map fun x => sqz o (a.getD x 0))))) (fun s => o.length - s.2) (v0, 0) rfl ⟨Nat.zero_le _, h1, ho⟩ ?_
  rintro ⟨z, k⟩ w3 Kn ⟨hk, h3, ho3⟩ hKn
  have hk : k ≤ o.length := hk
  have ho3 : Ow w.heap.size t_i64 w3 z (ints (nats ((o.take k).map fun x => sqz o (a.getD x 0)))) := ho3
  have ha3 := ha.ext h3
  have hu3 := hu.ext h3
  (intro _; (try simp only [gx]); (with_reducible refine iLenN (by assumption) ?_; refine iLt ?_))
  refine iCndP (fun h4 => ?_) (fun h4 => ?_)
  · have hk1 : k < o.length := by omega
    have hg : o.getD k 0 = o[k] := getD_of_lt hk1
    have hx := hlt _ (List.getElem_mem hk1)
    ((with_reducible refine iIaNN (by assumption) ?_ (fun pa_ hpa_ => ?_)); omega; (with_reducible refine iLd (by assumption) ?_); (with_reducible refine iIaNN (by assumption) ?_ (fun pa_ hpa_ => ?_)); omega; (with_reducible refine iLd (by assumption) ?_))
    rw [hg]
    have hga : a.getD o[k] 0 < 2 ^ 62 := by rw [getD_of_lt hx.1]; exact ha63 _ (List.getElem_mem hx.1)
    refine iRet (ok_spec_l05Squeeze hu3 (by omega) (fun x hx => (hlt x hx).2) _ (by omega)) fun w4 h5 => ?_
    have ho4 := ho3.ext h5
    have hil : (ints (nats ((o.take k).map fun x => sqz o (a.getD x 0)))).length = k := by rw [ints_length, nats_length, List.length_map, List.length_take]; omega
    refine iApp1 u_Si64 i_Si64 rfl ho4 rfl (by omega) (by omega) (h3.trans h5).size fun v' w5 ho' hg' => ?_
    have e1 : (o.take (k + 1)).map (fun x => sqz o (a.getD x 0)) = (o.take k).map (fun x => sqz o (a.getD x 0)) ++ [sqz o (a.getD o[k] 0)] := by
      rw [List.take_succ_eq_append_getElem hk1, List.map_append]; rfl
    rw [ints_snoc, ← e1] at ho'
    (refine iAdd (by omega) ?_)
    exact hKn (v', k + 1) _ ⟨by show k + 1 ≤ o.length; omega, (h3.trans h5).grown hg' (fun c hc => (ho4.blk c hc).1), ho'⟩ (by show o.length - (k + 1) < o.length - k; omega)
  · have e : k = o.length := by omega
    subst e
    rw [List.take_length] at ho3
    exact ⟨h3, ho3⟩
end Go.Proofs.YtikfhibcdhdglaaGreat

/- Plain facts: least forms of relations. No program in sight. Conditions: none. -/
namespace Go.Vc
section
variable {a : List Nat}
end
section
variable {f g : Fr}
end
end Go.Vc

/- Contracts: lists of posets, and their codes. Conditions: none. -/
namespace Go.Vc
section
variable {w : World}
end
end Go.Vc
namespace Go.Proofs.YtikfhibcdhdglaaGreat
open Go.Vc
end Go.Proofs.YtikfhibcdhdglaaGreat

/- Contracts: the first p-morphism onto a poset in the reference (l21Onto, FindImage). Conditions: none. -/
namespace Go.Vc
theorem findP_eq {f g : Fr} (hp : Po f) (hg : g.ok) (fix : List Int) (onto : Bool) (most : Nat) : findP f g fix onto most = ((foundU f g fix onto).map nats).take most := by
  unfold findP
  rw [srch_part hp hg]
theorem replicate_neg (n : Nat) : ∀ x, x < n → (List.replicate n (-1 : Int)).getD x 0 < 0 := fun x hx => by simp [List.getD_eq_getElem?_getD, hx]
end Go.Vc
namespace Go.Proofs.YtikfhibcdhdglaaGreat
open Go.Vc
theorem ok_spec_l21Onto {f g : Fr} (hp : Po f) (hg : g.ok) {w : World} {fa ga : Value} (hfa : SlN w fa f.a) (hga : SlN w ga g.a) :
    Cal Tryz.prog f_spec_l21Onto #[.agg #[.int .i64 (f.n : Int), fa], .agg #[.int .i64 (g.n : Int), ga]] w fun r w' => Ext w w' ∧ ∃ v, r = .tuple #[v, .bool (!(leaves (fitsB f g true false) g.n f.n []).isEmpty)] ∧
      Ow w.heap.size t_i64 w' v (ints (nats ((leaves (fitsB f g true false) g.n f.n []).headD []))) := by
  apply c_spec_l21Onto; unfold S_spec_l21Onto
  have hf8 := hp.ok.1
  have hg8 := hg.1
  refine iNew fun b1 w1 hb1 h1 hB1 => ?_
  refine iNew fun b2 w2 hb2 h2 hB2 => ?_
  have hB1 := hB1.ext h2
  have hX2 := h1.trans h2
  ((with_reducible refine iFa ?_); refine iLdB (by assumption) (by first | rfl | simp) ?_)
  refine iCall ((ok_spec_l21Free f.n hf8 w2).mono ?_)
  rintro vf w3 ⟨h3, ho⟩
  have hX3 := hX2.trans h3
  obtain ⟨e1, he1, hB1⟩ : ∃ e, t_i64 ≠ e ∧ Blk e w3 b1 [.int .i64 (f.n : Int), fa] := ⟨_, by decide, hB1.ext h3⟩
  obtain ⟨e2, he2, hB2⟩ : ∃ e, t_i64 ≠ e ∧ Blk e w3 b2 [.int .i64 (g.n : Int), ga] := ⟨_, by decide, hB2.ext h3⟩
  have hrl : (List.replicate f.n (-1 : Int)).length = f.n := List.length_replicate
  ((with_reducible refine iLdA (by assumption) ?_ ?_); rfl; (with_reducible refine iLdA (by assumption) ?_ ?_); rfl)
  refine iCall ((ok_spec_l21Find (onto := true) (most := 1) hp hg hrl (hfa.ext hX3) (hga.ext hX3) ho.sl (by omega)).mono ?_)
  rintro v15 w4 ⟨h4, vs, hov, hol⟩
  have hov := hov.sl
  have hX4 := hX3.trans h4
  have hB1 := hB1.ext h4
  have hB2 := hB2.ext h4
  have ho4 := (ho.ext h4).mono hX2.size
  have hvl : vs.length = min 1 (leaves (fitsB f g true false) g.n f.n []).length := by
    have h := hol.1
    rw [List.length_map, findP_eq hp hg, List.length_take, List.length_map, (found_perm hp hg (replicate_neg f.n)).length_eq] at h
    exact h
  ((with_reducible refine iLenS (by assumption) ?_; refine iEq ?_))
  cases hL : leaves (fitsB f g true false) g.n f.n [] with
  | nil =>
    rw [hL] at hvl
    refine iCndP (fun _ => ⟨hX4, _, rfl, Ow.nil _ _ _⟩) (fun h => absurd (show (vs.length : Int) = 0 by rw [hvl]; rfl) h)
  | cons F Fs =>
    rw [hL] at hvl
    have hv1 : vs.length = 1 := by rw [hvl]; simp
    obtain ⟨hFl, hFlt, _⟩ := (mem_leaves (onto := true) (one := false) (F := F) hp.ok hg).1 (by rw [hL]; exact List.mem_cons_self)
    refine iCndP (fun h => absurd h (by omega)) (fun _ => ?_)
    refine iLp (fun k : Nat => [.int .i64 (k : Int)]) (fun k w' => k ≤ f.n ∧ Ext w w' ∧ Blk e1 w' b1 [.int .i64 (f.n : Int), fa] ∧ Blk e2 w' b2 [.int .i64 (g.n : Int), ga] ∧ Ow w.heap.size t_i64 w' vf (ints (fixK f.n F k))) (fun k => f.n - k) 0 rfl ⟨Nat.zero_le _, hX4, hB1, hB2, by rw [fixK_zero]; exact ho4⟩ ?_
    rintro k w6 Kn ⟨hk, hX6, hB16, hB26, ho6⟩ hKn
    (intro _; (try simp only [gx]); (with_reducible refine iFa ?_); refine iLdB (by assumption) (by first | rfl | simp) ?_; (with_reducible refine iLt ?_))
    refine iCndP (fun h7 => ?_) (fun h7 => ?_)
    · have hk1 : k < f.n := by omega
      have hFk : F.getD k 0 < g.n := getD_lt hFlt (by omega)
      refine iLp (fun y : Nat => [.int .i64 (y : Int)]) (fun y w' => y ≤ F.getD k 0 ∧ Ext w w' ∧ Blk e1 w' b1 [.int .i64 (f.n : Int), fa] ∧ Blk e2 w' b2 [.int .i64 (g.n : Int), ga] ∧ ∃ l : List Int, l.length = f.n ∧ (∀ z : Int, l.set k z = (fixK f.n F k).set k z) ∧ Ow w.heap.size t_i64 w' vf (ints l)) (fun y => F.getD k 0 - y) 0 rfl ⟨Nat.zero_le _, hX6, hB16, hB26, _, fixK_len _ _ _, fun _ => rfl, ho6⟩ ?_
      rintro y w8 Kn8 ⟨hy, hX8, hB18, hB28, l, hll, hls, ho8⟩ hKn8
      (intro _; (try simp only [gx]); (with_reducible refine iFa ?_); refine iLdB (by assumption) (by first | rfl | simp) ?_; (with_reducible refine iLt ?_))
      refine iCndP (fun h9 => ?_) (fun h9 => absurd (show (y : Int) < g.n by omega) h9)
      have hil : (ints l).length = f.n := by rw [ints_length, hll]
      refine iIaOwE ho8 (by omega) fun bu hbu hwr => ?_
      obtain ⟨hc1, hc2, hc3⟩ := hwr w8 _ rfl ho8
      rw [List.getElem?_eq_getElem (by omega)] at hc1
      refine iSt hc1 hc2 rfl ?_
      have ho9 := hc3 (.int .i64 (y : Int))
      have hset : (ints l).set k (.int .i64 (y : Int)) = ints ((fixK f.n F k).set k (y : Int)) := by rw [← hls]; simp [ints, List.map_set]
      rw [hset] at ho9
      have hu := Upd.setCell w8 bu k (.int .i64 (y : Int))
      have hX9 : Ext w (w8.setCell ⟨bu, k, none⟩ (.int .i64 (y : Int))) := hX8.upd hu (ho8.blk bu hbu).1
      have hB19 := hB18.upd hu (fun e => ho8.ne_blk hB18 he1 (by rw [hbu, e]))
      have hB29 := hB28.upd hu (fun e => ho8.ne_blk hB28 he2 (by rw [hbu, e]))
      have hfl9 : ((fixK f.n F k).set k (y : Int)).length = f.n := by rw [List.length_set, fixK_len]
      ((with_reducible refine iLdA (by assumption) ?_ ?_); rfl; (with_reducible refine iLdA (by assumption) ?_ ?_); rfl)
      refine iCall ((ok_spec_l21Find (onto := true) (most := 1) hp hg hfl9 (hfa.ext hX9) (hga.ext hX9) ho9.sl (by omega)).mono ?_)
      rintro v37 w10 ⟨h10, vs', hov', hol'⟩
      have hov' := hov'.sl
      have hX10 := hX9.trans h10
      have hB1A := hB19.ext h10
      have hB2A := hB29.ext h10
      have hoA := ho9.ext h10
      have hvl' : vs'.length = min 1 (foundU f g ((fixK f.n F k).set k (y : Int)) true).length := by
        have h := hol'.1
        rw [List.length_map, findP_eq hp hg, List.length_take, List.length_map] at h
        exact h
      ((with_reducible refine iLenS (by assumption) ?_; refine iLt ?_))
      rcases Nat.lt_or_ge y (F.getD k 0) with hlt | hge
      · rw [greedy_none hp hg hL hk1 hlt] at hvl'
        refine iCndP (fun h => absurd h (by rw [hvl']; simp)) (fun _ => ?_)
        (refine iAdd (by omega) ?_)
        exact hKn8 (y + 1) _ ⟨by omega, hX10, hB1A, hB2A, _, hfl9, fun z => by rw [List.set_set], hoA⟩ (by omega)
      · obtain rfl : y = F.getD k 0 := by omega
        rw [fixK_set hk1] at hvl' hoA
        have hpos := List.length_pos_iff.2 (greedy_some (k := k + 1) hp hg hL)
        refine iCndP (fun _ => ?_) (fun h => absurd (show (0 : Int) < (vs'.length : Nat) by omega) h)
        (refine iAdd (by omega) ?_)
        exact hKn (k + 1) _ ⟨by omega, hX10, hB1A, hB2A, hoA⟩ (by omega)
    · obtain rfl : k = f.n := by omega
      rw [fixK_end hFl] at ho6
      exact ⟨hX6, vf, rfl, ho6⟩
theorem ok_spec_FindImage {w : World} {v0 v1 : Value} {l0 l1 : List Int} (hs0 : SlI w v0 l0) (hs1 : SlI w v1 l1) (n0 n1 : Int) : Cal Tryz.prog f_spec_FindImage #[.agg #[.int .i64 n0, v0], .agg #[.int .i64 n1, v1]] w fun r w' => Ext w w' ∧ ∃ v, r = .tuple #[v, .int .i64 (imageOut n0 l0 n1 l1).2] ∧ Ow w.heap.size t_i64 w' v (ints (imageOut n0 l0 n1 l1).1) := by
  apply c_spec_FindImage; unfold S_spec_FindImage
  have hX := Ext.refl w
  refine iNew fun b2 w1 hb2 h hB2 => ?_
  have hX := hX.trans h
  refine iNew fun b3 w2 hb3 h hB3 => ?_
  have hX := hX.trans h
  have hB2 := hB2.ext h
  ((with_reducible refine iLdA (by assumption) ?_ ?_); rfl; (with_reducible refine iLdA (by assumption) ?_ ?_); rfl)
  refine iRet (ok_spec_l21Two (hs0.ext hX) (hs1.ext hX) n0 n1) fun w4 h => ?_
  have hX := hX.trans h
  have hB2 := hB2.ext h
  have hB3 := hB3.ext h
  unfold codeP imageOut
  cases hp : posetOk n0 l0 && posetOk n1 l1
  · ((with_reducible refine iNe ?_))
    exact iCndT rfl ⟨hX, _, rfl, Ow.nil _ _ _⟩
  · ((with_reducible refine iNe ?_))
    refine iCndF rfl ?_
    rw [Bool.and_eq_true] at hp
    have hp0 := posetOk_frame hp.1
    have hp1 := posetOk_frame hp.2
    have hpo := hp.1
    unfold posetOk at hpo
    rw [Bool.and_eq_true] at hpo
    obtain ⟨hf, hn0, hl0⟩ := frameOk_fr hp0.1
    obtain ⟨hg, hn1, hl1⟩ := frameOk_fr hp1.1
    have hP := po_of hf hpo.2
    unfold firstOut
    rw [hp0.1, hp1.1]
    generalize frOf n0 l0 = f at *
    generalize frOf n1 l1 = g at *
    subst hn0; subst hl0; subst hn1; subst hl1
    have hlo := hX.size
    ((with_reducible refine iLdA (by assumption) ?_ ?_); rfl; (with_reducible refine iLdA (by assumption) ?_ ?_); rfl)
    refine iCall ((ok_spec_l21Onto hP hg (hs0.ext hX) (hs1.ext hX)).mono ?_)
    rintro _ w5 ⟨h, v, rfl, ho⟩
    have hX := hX.trans h
    ((with_reducible refine iE20 ?_; refine iE21 ?_; refine iNot ?_))
    cases hL : leaves (fitsB f g true false) g.n f.n [] with
    | nil => exact iCndT rfl ⟨hX, _, rfl, Ow.nil _ _ _⟩
    | cons F Fs =>
      rw [hL] at ho
      exact iCndF rfl ⟨hX, v, rfl, ho.mono hlo⟩
end Go.Proofs.YtikfhibcdhdglaaGreat

/- Contracts: the part of a poset, cones, FindPart's search, and what tells one poset from another. Conditions: none. -/
namespace Go.Vc
theorem findSome_at {α β : Type} {l : List α} {p : α → Option β} {k : Nat} {x : β} (hk : k < l.length) (h : (l.take k).findSome? p = none) (h2 : p l[k] = some x) : l.findSome? p = some x := by
  have e : l = l.take k ++ l[k] :: l.drop (k + 1) := by rw [← List.drop_eq_getElem_cons hk, List.take_append_drop]
  rw [e, List.findSome?_append, h, List.findSome?_cons, h2]; rfl
theorem findSome_next {α β : Type} {l : List α} {p : α → Option β} {k : Nat} (hk : k < l.length) (h : (l.take k).findSome? p = none) (h2 : p l[k] = none) : (l.take (k + 1)).findSome? p = none := by
  rw [List.take_succ_eq_append_getElem hk, List.findSome?_append, h]
  simp [h2]
def sqL (f : Fr) (ms : List Nat) (k : Nat) : List Nat := (ms.take k).map fun x => sqz ms (f.a.getD x 0)
theorem sqL_succ (f : Fr) (ms : List Nat) (k : Nat) (h : k < ms.length) : sqL f ms (k + 1) = sqL f ms k ++ [sqz ms (f.a.getD ms[k] 0)] := by
  unfold sqL
  rw [List.take_succ_eq_append_getElem h, List.map_append]; rfl
theorem sqL_end (f : Fr) (m : Nat) : sqL f (mem m) (mem m).length = (partFr f m).a := by
  unfold sqL partFr
  rw [List.take_length]
theorem sqL_len (f : Fr) (ms : List Nat) (k : Nat) : (sqL f ms k).length ≤ k := by
  unfold sqL
  rw [List.length_map, List.length_take]; omega
def pmO (o : Option (Nat × List Nat)) : Nat := (o.map Prod.fst).getD 0
def pfO (o : Option (Nat × List Nat)) : List Nat := (o.map Prod.snd).getD []
end Go.Vc
namespace Go.Proofs.YtikfhibcdhdglaaGreat
open Go.Vc
theorem ok_spec_l16Make {v : Value} {w : World} {l : List Nat} (hs : SlN w v l) (hl : l.length ≤ 1099511627776) : Cal Tryz.prog f_spec_l16Make #[v] w fun r w' => Ext w w' ∧ ∃ v', r = .agg #[.int .i64 (l.length : Int), v'] ∧ Ow w.heap.size t_i64 w' v' (ints (nats l)) := by
  apply c_spec_l16Make; unfold S_spec_l16Make
  refine iNew fun b w1 hb h1 hB => ?_
  have hs1 := hs.ext h1
  ((with_reducible refine iLenN (by assumption) ?_))
  refine iCall ((ok_spec_l01Own hs1 (by rw [nats_length]; exact hl)).mono ?_)
  rintro u w2 ⟨h2, ho⟩
  have hB2 := hB.ext h2
  have hX2 := h1.trans h2
  have hsz := h1.size
  have hne : u.ownBlock ≠ some b := fun e => by have := (ho.blk b e).1; have := hB.lt; omega
  obtain ⟨va, vn, vc, rfl⟩ := ho.shape
  refine iBuild (cs := #[.int .i64 (l.length : Int), .slice va vn vc]) (by simp [Instr.fill, Value.cells]) ?_
  refine iStAB hB2 rfl rfl (ho.pair _) fun w3 hu hB3 => ?_
  refine iLdA hB3 rfl ?_
  exact ⟨hX2.upd hu (by omega), _, rfl, (ho.mono hsz).upd hu hne⟩
theorem ok_impl_partOn {f : Fr} (hf : f.ok) {v : Value} {w : World} (hs : SlN w v f.a) (m : Nat) (hm : m < 2 ^ f.n) : Cal Tryz.prog f_impl_partOn #[v, .int .i64 (m : Int)] w fun r w' => Ext w w' ∧ Ow w.heap.size t_i64 w' r (ints (nats (partFr f m).a)) := by
  apply c_impl_partOn; unfold S_impl_partOn
  have hf8 := hf.1
  have hfl := hf.2.1
  have hm8 : m < 2 ^ 8 := Nat.lt_of_lt_of_le hm (Nat.pow_le_pow_right (by omega) hf8)
  refine iCall ((ok_impl_membersOf m (by omega) w).mono ?_)
  rintro u w1 ⟨h1, hou⟩
  have hml : (mem m).length ≤ 8 := Nat.le_trans (mem_len hf hm) hf8
  have hmx : ∀ x ∈ mem m, x < f.n := fun x hx => mem_lt hf hm hx
  have hus : SlN w1 u (mem m) := hou.sl
  ((with_reducible refine iLenN (by assumption) ?_))
  refine iLp (fun s : Value × Nat => [s.1, .int .i64 (s.2 : Int)]) (fun s w' => s.2 ≤ (mem m).length ∧ Ext w1 w' ∧ Ow w1.heap.size t_i64 w' s.1 (ints (nats (sqL f (mem m) s.2)))) (fun s => (mem m).length - s.2) (.slice none 0 0, 0) rfl ⟨Nat.zero_le _, Ext.refl _, Ow.nil _ _ _⟩ ?_
  rintro ⟨vo, k⟩ w6 Kn ⟨hk, h6, ho6⟩ hKn
  have hk : k ≤ (mem m).length := hk
  have ho6 : Ow w1.heap.size t_i64 w6 vo (ints (nats (sqL f (mem m) k))) := ho6
  have hs6 := hs.ext (h1.trans h6)
  have hus6 := hus.ext h6
  (intro _; (try simp only [gx]); (with_reducible refine iLt ?_))
  refine iCndP (fun h7 => ?_) (fun h7 => ?_)
  · have hk1 : k < (mem m).length := by omega
    have hg : (mem m).getD k 0 = (mem m)[k] := getD_of_lt hk1
    have hx := hmx _ (List.getElem_mem hk1)
    have hgx := fr_lt63 hf (mem m)[k]
    have hsu := sqL_succ f (mem m) k hk1
    ((with_reducible refine iIaNN (by assumption) ?_ (fun pa_ hpa_ => ?_)); omega; (with_reducible refine iLd (by assumption) ?_); (with_reducible refine iIaNN (by assumption) ?_ (fun pa_ hpa_ => ?_)); omega; (with_reducible refine iLd (by assumption) ?_))
    rw [hg]
    refine iRet (ok_impl_squeeze _ m (by omega) (by omega) w6) fun w7 h8 => ?_
    have ho7 := ho6.ext h8
    have hil : (ints (nats (sqL f (mem m) k))).length ≤ k := by rw [ints_length, nats_length]; exact sqL_len _ _ _
    refine iApp1 u_Si64 i_Si64 rfl ho7 rfl (by omega) (by omega) (h6.trans h8).size fun v' wB ho' hg' => ?_
    rw [ints_snoc, ← hsu] at ho'
    (refine iAdd (by omega) ?_)
    exact hKn (v', k + 1) _ ⟨by show k + 1 ≤ (mem m).length; omega, (h6.trans h8).grown hg' (fun c hc => (ho7.blk c hc).1), ho'⟩ (by show (mem m).length - (k + 1) < (mem m).length - k; omega)
  · have hk2 : k = (mem m).length := by omega
    subst hk2
    rw [sqL_end] at ho6
    exact ⟨h1.trans h6, ho6.mono h1.size⟩
theorem ok_impl_posetOf {lo : Nat} {v : Value} {w : World} {l : List Nat} (hs : Ow lo t_i64 w v (ints (nats l))) : Cal Tryz.prog f_impl_posetOf #[v] w fun r w' => Ext w w' ∧ r = .agg #[.int .i64 (l.length : Int), v] := by
  apply c_impl_posetOf; unfold S_impl_posetOf
  refine iNew fun b w1 hb h1 hB => ?_
  have ho1 := hs.ext h1
  refine iRet (ok_impl_size_i64 ho1.sl) fun w2 h2 => ?_
  have hB2 := hB.ext h2
  have ho2 := ho1.ext h2
  obtain ⟨va, vn, vc, rfl⟩ := ho2.shape
  rw [ints_length, nats_length]
  refine iBuild (cs := #[.int .i64 (l.length : Int), .slice va vn vc]) (by simp [Instr.fill, Value.cells]) ?_
  refine iStAB hB2 rfl rfl (ho2.pair _) fun w3 hu hB3 => ?_
  refine iLdA hB3 rfl ?_
  exact ⟨(h1.trans h2).upd hu (by omega), rfl⟩
theorem ok_impl_Poset_on {f : Fr} (hf : f.ok) {v : Value} {w : World} (hs : SlN w v f.a) (m : Nat) (hm : m < 2 ^ f.n) : Cal Tryz.prog f_impl_Poset_on #[.agg #[.int .i64 (f.n : Int), v], .int .i64 (m : Int)] w fun r w' => Ext w w' ∧ ∃ v', r = .agg #[.int .i64 ((partFr f m).n : Int), v'] ∧ Ow w.heap.size t_i64 w' v' (ints (nats (partFr f m).a)) := by
  apply c_impl_Poset_on; unfold S_impl_Poset_on
  refine iNew fun b w1 hb1 h1 hB1 => ?_
  refine iNew fun b4 w2 hb4 h2 hB4 => ?_
  have hX2 := h1.trans h2
  have hsz1 := h1.size
  have hB1 := hB1.ext h2
  have hs2 := hs.ext hX2
  ((with_reducible refine iFa ?_); refine iLdB (by assumption) (by first | rfl | simp) ?_)
  refine iCall ((ok_impl_partOn hf hs2 m hm).mono ?_)
  rintro u w3 ⟨h3, ho⟩
  refine iCall ((ok_impl_posetOf ho).mono ?_)
  rintro _ w4 ⟨h4, rfl⟩
  have ho4 := ho.ext h4
  have hB5 := (hB4.ext h3).ext h4
  have hpl : (partFr f m).a.length = (partFr f m).n := by simp [partFr]
  rw [hpl]
  have h3s := hX2.size
  have hne : u.ownBlock ≠ some b4 := fun e => by have := (ho4.blk b4 e).1; have := hB4.lt; omega
  refine iStAB hB5 rfl rfl (ho4.pair _) fun w6 hu hB6 => ?_
  refine iLdA hB6 rfl ?_
  exact ⟨(hX2.trans (h3.trans h4)).upd hu (by omega), _, rfl, (ho4.mono h3s).upd hu hne⟩
theorem ok_impl_findPart {f g : Fr} (hp : Po f) (hg : g.ok) {w : World} {fa ga : Value} (hfa : SlN w fa f.a) (hga : SlN w ga g.a) : Cal Tryz.prog f_impl_findPart #[.agg #[.int .i64 (f.n : Int), fa], .agg #[.int .i64 (g.n : Int), ga]] w fun r w' => Ext w w' ∧ ∃ v,
    r = .tuple #[.int .i64 ((pmO (partOut f g) : Nat) : Int), v, .bool (partOut f g).isSome] ∧ Ow w.heap.size t_i64 w' v (ints (nats (pfO (partOut f g)))) := by
  apply c_impl_findPart; unfold S_impl_findPart
  have hf8 := hp.ok.1
  refine iNew fun b1 w1 hb1 h1 hB1 => ?_
  refine iNew fun b2 w2 hb2 h2 hB2 => ?_
  have hX2 := h1.trans h2
  have hB1 := hB1.ext h2
  ((with_reducible refine iLdA (by assumption) ?_ ?_); rfl)
  refine iCall ((ok_impl_Poset_upsets hp.ok (hfa.ext hX2)).mono ?_)
  rintro u w3 ⟨h3, hou⟩
  have hX3 := hX2.trans h3
  have hB1 := hB1.ext h3
  have hB2 := hB2.ext h3
  have hul := upsets_len hp.ok
  have hus : SlN w3 u (upsets f) := hou.sl
  ((with_reducible refine iLenN (by assumption) ?_))
  refine iLp (fun k : Nat => [.int .i64 (k : Int)]) (fun k w' => k ≤ (upsets f).length ∧ Ext w3 w' ∧ ((upsets f).take k).findSome? (oneOut f g) = none) (fun k => (upsets f).length - k) 0 rfl ⟨Nat.zero_le _, Ext.refl _, rfl⟩ ?_
  rintro k w5 Kn ⟨hk, h5, hno⟩ hKn
  have hus5 := hus.ext h5
  (intro _; (try simp only [gx]); (with_reducible refine iLt ?_))
  refine iCndP (fun h6 => ?_) (fun h6 => ?_)
  · have hk1 : k < (upsets f).length := by omega
    have hgt : (upsets f).getD k 0 = (upsets f)[k] := getD_of_lt hk1
    have hm : (upsets f)[k] < 2 ^ f.n := upsets_lt (List.getElem_mem hk1)
    have hB15 := hB1.ext h5
    have hB25 := hB2.ext h5
    ((with_reducible refine iIaNN (by assumption) ?_ (fun pa_ hpa_ => ?_)); omega; (with_reducible refine iLd (by assumption) ?_); (with_reducible refine iLdA (by assumption) ?_ ?_); rfl; (with_reducible refine iLdA (by assumption) ?_ ?_); rfl)
    rw [hgt]
    intro w6 h7
    have h56 := h5.trans h7
    refine iCall ((ok_impl_Poset_on hp.ok (hfa.ext (hX3.trans h56)) _ hm).mono ?_)
    rintro _ w7 ⟨h8, v', rfl, ho'⟩
    (try refine ⟨h8, ?_⟩)
    intro w8 h9
    have ho8 := ho'.ext h9
    have h58 := h56.trans (h8.trans h9)
    have hpl : (nats (partFr f (upsets f)[k]).a).length = (partFr f (upsets f)[k]).n := by rw [nats_length]; simp [partFr]
    have hgl : (nats g.a).length = g.n := by rw [nats_length]; exact hg.2.1
    refine iRet (ok_impl_Poset_frame (l := nats (partFr f (upsets f)[k]).a) ho8.sl _) fun w9 hA => ?_
    (try refine ⟨hA, ?_⟩)
    rw [hpl]
    intro w10 hC
    have h5A := h58.trans (hA.trans hC)
    refine iRet (ok_impl_Poset_frame (l := nats g.a) (hga.ext (hX3.trans h5A)) _) fun w11 hD => ?_
    (try refine ⟨hD, ?_⟩)
    rw [hgl]
    intro w12 hE
    have h5C := h5A.trans (hD.trans hE)
    have hlo := (hX3.trans h5C).size
    refine iCall ((ok_impl_firstMorphism (onto := true) (one := false) (part_ok hp.ok hm) hg ((((ho8.ext hA).ext hC).ext hD).ext hE).sl (hga.ext (hX3.trans h5C))).mono ?_)
    rintro _ w13 ⟨hF, vi, rfl, hoi⟩
    (try refine ⟨hF, ?_⟩)
    ((with_reducible refine iE20 ?_; refine iE21 ?_))
    intro w14 hG
    have h514 := h5C.trans (hF.trans hG)
    cases hL : leaves (fitsB (partFr f (upsets f)[k]) g true false) g.n (partFr f (upsets f)[k]).n [] with
    | nil =>
      have hone : oneOut f g (upsets f)[k] = none := by unfold oneOut; rw [hL]
      refine iCndF rfl ?_
      (refine iAdd (by omega) ?_)
      exact hKn (k + 1) _ ⟨by omega, h514, findSome_next hk1 hno hone⟩ (by omega)
    | cons F Fs =>
      have hone : oneOut f g (upsets f)[k] = some ((upsets f)[k], F) := by unfold oneOut; rw [hL]
      have hpo : partOut f g = some ((upsets f)[k], F) := findSome_at hk1 hno hone
      rw [hL] at hoi
      refine iCndT rfl ?_
      rw [hpo]
      exact ⟨hX3.trans h514, vi, rfl, (hoi.ext hG).mono hlo⟩
  · have hk2 : k = (upsets f).length := by omega
    rw [List.take_of_length_le (by omega)] at hno
    have hpo : partOut f g = none := hno
    rw [hpo]
    exact ⟨hX3.trans h5, _, rfl, Ow.nil _ _ _⟩
end Go.Proofs.YtikfhibcdhdglaaGreat

/- Contracts: FindPart, TellingElements, IsUnder, AreAlike in the program and the reference. Conditions: none. -/
namespace Go.Proofs.YtikfhibcdhdglaaGreat
open Go.Vc
theorem posetOk_po {n : Int} {l : List Int} (h : posetOk n l = true) : Po (frOf n l) ∧ n = ((frOf n l).n : Int) ∧ l = nats (frOf n l).a := by
  have h0 := posetOk_frame h
  unfold posetOk at h
  rw [Bool.and_eq_true] at h
  obtain ⟨hf, hn, hl⟩ := frameOk_fr h0.1
  exact ⟨po_of hf h.2, hn, hl⟩
def partRes (n0 : Int) (l0 : List Int) (n1 : Int) (l1 : List Int) : Int × List Int × Int :=
  if posetOk n0 l0 && posetOk n1 l1 then (((pmO (partOut (frOf n0 l0) (frOf n1 l1)) : Nat) : Int), nats (pfO (partOut (frOf n0 l0) (frOf n1 l1))), if (partOut (frOf n0 l0) (frOf n1 l1)).isSome then 0 else 4) else (0, [], 1)
theorem ok_impl_FindPart {w : World} {v0 v1 : Value} {l0 l1 : List Int} (hs0 : SlI w v0 l0) (hs1 : SlI w v1 l1) (n0 n1 : Int) : Cal Tryz.prog f_impl_FindPart #[.agg #[.int .i64 n0, v0], .agg #[.int .i64 n1, v1]] w fun r w' => Ext w w' ∧ ∃ v, r = .tuple #[.int .i64 (partRes n0 l0 n1 l1).1, v, .int .i64 (partRes n0 l0 n1 l1).2.2] ∧ Ow w.heap.size t_i64 w' v (ints (partRes n0 l0 n1 l1).2.1) := by
  apply c_impl_FindPart; unfold S_impl_FindPart
  have hX := Ext.refl w
  refine iNew fun b2 w1 hb2 h hB2 => ?_
  have hX := hX.trans h
  refine iNew fun b3 w2 hb3 h hB3 => ?_
  have hX := hX.trans h
  have hB2 := hB2.ext h
  ((with_reducible refine iLdA (by assumption) ?_ ?_); rfl; (with_reducible refine iLdA (by assumption) ?_ ?_); rfl)
  refine iBs22 fun bb w3 hbb h hBB => ?_
  have hX := hX.trans h
  have hB2 := hB2.ext h
  have hB3 := hB3.ext h
  refine iRet (ok_impl_arePosets (hs0.ext hX) (hs1.ext hX) n0 n1 hBB) fun w4 h => ?_
  have hX := hX.trans h
  have hB2 := hB2.ext h
  have hB3 := hB3.ext h
  unfold codeP partRes
  cases hp : posetOk n0 l0 && posetOk n1 l1
  · ((with_reducible refine iNe ?_))
    exact iCndT rfl ⟨hX, _, rfl, Ow.nil _ _ _⟩
  · ((with_reducible refine iNe ?_))
    refine iCndF rfl ?_
    rw [Bool.and_eq_true] at hp
    obtain ⟨hP, hn0, hl0⟩ := posetOk_po hp.1
    obtain ⟨hQ, hn1, hl1⟩ := posetOk_po hp.2
    generalize frOf n0 l0 = f at *
    generalize frOf n1 l1 = g at *
    subst hn0; subst hl0; subst hn1; subst hl1
    have hlo := hX.size
    ((with_reducible refine iLdA (by assumption) ?_ ?_); rfl; (with_reducible refine iLdA (by assumption) ?_ ?_); rfl)
    refine iCall ((ok_impl_findPart hP hQ.ok (hs0.ext hX) (hs1.ext hX)).mono ?_)
    rintro _ w5 ⟨h, v, rfl, ho⟩
    have hX := hX.trans h
    ((with_reducible refine iE30 ?_; refine iE31 ?_; refine iE32 ?_; refine iNot ?_))
    cases hL : partOut f g with
    | none => exact iCndT (by simp) ⟨hX, _, rfl, Ow.nil _ _ _⟩
    | some o =>
      rw [hL] at ho
      exact iCndF (by simp) ⟨hX, v, rfl, ho.mono hlo⟩
end Go.Proofs.YtikfhibcdhdglaaGreat

/- Contracts: the laws' helpers on lists of posets. Conditions: none. -/
namespace Go.Vc
section
variable {P : Program} {w : World}
end
end Go.Vc
namespace Go.Proofs.YtikfhibcdhdglaaGreat
open Go.Vc
end Go.Proofs.YtikfhibcdhdglaaGreat

/- Contracts: UnderRelation and GreatestLogics in the program and the reference. Conditions: none. -/
namespace Go.Vc
end Go.Vc
namespace Go.Proofs.YtikfhibcdhdglaaGreat
open Go.Vc
end Go.Proofs.YtikfhibcdhdglaaGreat

/- Contracts: sums of posets, SumAlike. Conditions: none. -/
namespace Go.Vc
theorem iShlN {a k : Nat} {yk : IntKind} {K : Value → Prop} (hk : k ≤ 40) (ha : a < 2 ^ 20) (h : K (.int .i64 ((a <<< k : Nat) : Int))) : xSh iShl .i64 (.int .i64 (a : Int)) (.int yk (k : Int)) K := by
  refine ⟨_, _, _, rfl, rfl, by omega, ?_⟩
  have e : iShl .i64 (a : Int) (k : Int) = ((a <<< k : Nat) : Int) := by
    have h1 : min k 64 = k := by omega
    simp only [iShl, IntKind.bits, Int.toNat_natCast, h1]
    have h2 : a <<< k < 2 ^ 60 := by
      rw [Nat.shiftLeft_eq]
      exact Nat.lt_of_lt_of_le (Nat.mul_lt_mul_of_pos_right ha (Nat.two_pow_pos k)) (by rw [← Nat.pow_add]; exact Nat.pow_le_pow_right (by omega) (by omega))
    rw [show (a : Int) * ((2 : Int) ^ k) = ((a <<< k : Nat) : Int) by rw [Nat.shiftLeft_eq]; simp]
    generalize a <<< k = m at *
    exact IntWalk.i64_in _ (by omega)
  rw [e]; exact h
section
variable {f g : Fr}
end
end Go.Vc
namespace Go.Proofs.YtikfhibcdhdglaaGreat
open Go.Vc
end Go.Proofs.YtikfhibcdhdglaaGreat

/- Plain facts on the parts and the core of a poset. No program in sight. Conditions: none. -/
namespace Go.Proofs.YtikfhibcdhdglaaGreat
open Go.Vc
end Go.Proofs.YtikfhibcdhdglaaGreat

/- Plain facts: to be under another poset, said of maps between elements; it is a preorder; a list has greatest logics. No program in sight. Conditions: none. -/
namespace Go.Vc
theorem popc_surj {s n : Nat} (hn : n ≤ 8) (hs : s < 2 ^ n) : popc s = n ↔ ∀ z, z < n → s.testBit z = true := by
  constructor
  · intro h z hz
    cases hb : s.testBit z
    · have h1 := popc_or_one s z (by omega)
      rw [hb] at h1
      have h2 : s ||| 2 ^ z < 2 ^ n := Nat.or_lt_two_pow hs (Nat.pow_lt_pow_right (by omega) hz)
      have h3 := popc_full (by omega) h2
      simp at h1; omega
    · rfl
  · intro h
    have : s = 2 ^ n - 1 := by
      apply Nat.eq_of_testBit_eq
      intro i
      rw [full_testBit]
      by_cases hi : i < n
      · rw [h i hi, decide_eq_true hi]
      · rw [decide_eq_false hi]
        exact Nat.testBit_lt_two_pow (Nat.lt_of_lt_of_le hs (Nat.pow_le_pow_right (by omega) (by omega)))
    rw [this]
    exact popc_range (by omega)
/-- x sees y. -/
def Fr.r (f : Fr) (x y : Nat) : Prop := (f.a.getD x 0).testBit y = true
/-- The part of g above x is an image of a part of f. -/
def BelM (f g : Fr) (x : Nat) : Prop :=
  ∃ (V : Nat → Prop) (h : Nat → Nat), (∀ v, V v → v < f.n) ∧ (∀ v u, V v → f.r v u → V u) ∧ (∀ v, V v → ∀ y, g.r (h v) y ↔ ∃ u, f.r v u ∧ h u = y) ∧ ∀ y, (∃ v, V v ∧ h v = y) ↔ g.r x y
theorem idx_at {l : List Nat} (hn : l.Nodup) {k : Nat} (hk : k < l.length) : l.idxOf (l.getD k 0) = k := by
  have e : l.getD k 0 = l[k] := by simp [List.getD_eq_getElem?_getD, hk]
  rw [e]; exact hn.idxOf_getElem k hk
theorem at_idx {l : List Nat} {x : Nat} (hx : x ∈ l) : l.idxOf x < l.length ∧ l.getD (l.idxOf x) 0 = x := by
  have h1 := List.idxOf_lt_length_of_mem hx
  exact ⟨h1, by simp [List.getD_eq_getElem?_getD, h1]⟩
theorem upsets_iff {f : Fr} (hp : Po f) {m : Nat} : m ∈ upsets f ↔ m < 2 ^ f.n ∧ ∀ v u, m.testBit v = true → f.r v u → m.testBit u = true := by
  unfold upsets upK
  rw [List.mem_filter, List.mem_range, decide_eq_true_eq]
  refine and_congr_right fun hm => ?_
  constructor
  · intro h v u hv hu
    rw [← h, rowsK_bit]
    exact ⟨v, (fr_bit_lt hp.ok hu).1, hv, hu⟩
  · intro h
    apply Nat.eq_of_testBit_eq
    intro j
    rw [Bool.eq_iff_iff, rowsK_bit]
    constructor
    · rintro ⟨i, _, hi, hj⟩; exact h i j hi hj
    · intro hj
      have hjn : j < f.n := by
        rcases Nat.lt_or_ge j f.n with h' | h'
        · exact h'
        · rw [Nat.testBit_lt_two_pow (Nat.lt_of_lt_of_le hm (Nat.pow_le_pow_right (by omega) h'))] at hj; cases hj
      exact ⟨j, hjn, hj, hp.refl j hjn⟩
theorem partOut_iff {f q : Fr} (hf : Po f) (hq : q.ok) : (partOut f q).isSome = true ↔ ∃ m, m ∈ upsets f ∧ ∃ F : List Nat, F.length = (mem m).length ∧ (∀ y ∈ F, y < q.n) ∧ (∀ i, i < (mem m).length → img F ((partFr f m).a.getD i 0) = q.a.getD (F.getD i 0) 0) ∧ ∀ z, z < q.n → ∃ i, i < F.length ∧ F.getD i 0 = z := by
  have key : ∀ m, m ∈ upsets f → ∀ F : List Nat, F ∈ leaves (fitsB (partFr f m) q true false) q.n (partFr f m).n [] ↔ F.length = (mem m).length ∧ (∀ y ∈ F, y < q.n) ∧ (∀ i, i < (mem m).length → img F ((partFr f m).a.getD i 0) = q.a.getD (F.getD i 0) 0) ∧ ∀ z, z < q.n → ∃ i, i < F.length ∧ F.getD i 0 = z := by
    intro m hm F
    rw [mem_leaves (part_ok hf.ok (upsets_lt hm)) hq]
    refine and_congr_right fun _ => and_congr_right fun hb => and_congr_right fun _ => ?_
    constructor
    · rintro ⟨h, _⟩ z hz
      have h2 := (popc_surj hq.1 (setOf_lt hb)).1 (h rfl) z hz
      rw [setOf_testBit, List.contains_iff_mem] at h2
      exact ⟨F.idxOf z, (at_idx h2).1, (at_idx h2).2⟩
    · intro h
      refine ⟨fun _ => (popc_surj hq.1 (setOf_lt hb)).2 fun z hz => ?_, fun e => by cases e⟩
      obtain ⟨i, hi, e⟩ := h z hz
      rw [setOf_testBit, List.contains_iff_mem, ← e]
      exact getD_mem hi
  constructor
  · intro h
    obtain ⟨⟨m, F⟩, hmF⟩ := Option.isSome_iff_exists.1 h
    obtain ⟨hm, Fs, hL⟩ := partOut_some hmF
    exact ⟨m, hm, F, (key m hm F).1 (by rw [hL]; simp)⟩
  · rintro ⟨m, hm, F, hF⟩
    have hF := (key m hm F).2 hF
    unfold partOut
    rw [List.findSome?_isSome_iff]
    refine ⟨m, hm, ?_⟩
    unfold oneOut
    split
    · rename_i e
      have hF : F ∈ leaves (fitsB (partFr f m) q true false) q.n (partFr f m).n [] := hF
      rw [e] at hF; cases hF
    · rfl
end Go.Vc

/- Plain facts: a poset is an image of a part of another one; cores. No program in sight. Conditions: none. -/
namespace Go.Proofs.YtikfhibcdhdglaaGreat
open Go.Vc
/-- q is an image of a part of f. -/
def Bel (f q : Fr) : Prop :=
  ∃ (V : Nat → Prop) (h : Nat → Nat), (∀ v, V v → v < f.n) ∧ (∀ v u, V v → f.r v u → V u) ∧ (∀ v, V v → ∀ y, q.r (h v) y ↔ ∃ u, f.r v u ∧ h u = y) ∧ ∀ y, (∃ v, V v ∧ h v = y) ↔ y < q.n
theorem bel_iff {f q : Fr} (hf : Po f) (hq : q.ok) : (partOut f q).isSome = true ↔ Bel f q := by
  rw [partOut_iff hf hq]
  constructor
  · rintro ⟨m, hm, F, hl, hF, himg, hon⟩
    obtain ⟨hm2, hup⟩ := (upsets_iff hf).1 hm
    have hm63 := mask63 hf.ok hm2
    have hmm : ∀ v, v ∈ mem m ↔ m.testBit v = true := fun v => mem_mem hm63
    have hpb : ∀ i j, (((partFr f m).a.getD i 0).testBit j = true) ↔ i < (mem m).length ∧ j < (mem m).length ∧ f.r ((mem m).getD i 0) ((mem m).getD j 0) := fun i j => part_bit i j
    have hmn := mem_nodup m
    generalize mem m = M at *
    have hid : ∀ v, m.testBit v = true → M.idxOf v < M.length ∧ M.getD (M.idxOf v) 0 = v := fun v hv => at_idx ((hmm v).2 hv)
    refine ⟨fun v => m.testBit v = true, fun v => F.getD (M.idxOf v) 0, fun v hv => ?_, hup, fun v hv y => ?_, fun y => ?_⟩
    · rcases Nat.lt_or_ge v f.n with h' | h'
      · exact h'
      · have hv : m.testBit v = true := hv
        rw [Nat.testBit_lt_two_pow (Nat.lt_of_lt_of_le hm2 (Nat.pow_le_pow_right (by omega) h'))] at hv; cases hv
    · have hv : m.testBit v = true := hv
      have hi := hid v hv
      have e := himg _ hi.1
      show (q.a.getD (F.getD (M.idxOf v) 0) 0).testBit y = true ↔ _
      rw [← e, img_testBit]
      constructor
      · rintro ⟨k, hk, hk1, hk2⟩
        obtain ⟨_, hk3, hk4⟩ := (hpb _ _).1 hk1
        rw [hi.2] at hk4
        refine ⟨M.getD k 0, hk4, ?_⟩
        show F.getD (M.idxOf (M.getD k 0)) 0 = y
        rw [idx_at hmn hk3, hk2]
      · rintro ⟨u, hu, rfl⟩
        have hk := hid u (hup v u hv hu)
        exact ⟨M.idxOf u, by omega, (hpb _ _).2 ⟨hi.1, hk.1, by rw [hi.2, hk.2]; exact hu⟩, rfl⟩
    · constructor
      · rintro ⟨v, hv, rfl⟩
        exact getD_lt hF (by have := (hid v hv).1; omega)
      · intro hy
        obtain ⟨k, hk, hk1⟩ := hon y hy
        have hkM : k < M.length := by omega
        refine ⟨M.getD k 0, (hmm _).1 (getD_mem hkM), ?_⟩
        show F.getD (M.idxOf (M.getD k 0)) 0 = y
        rw [idx_at hmn hkM, hk1]
  · rintro ⟨V, h, hV1, hV2, hV3, hV4⟩
    classical
    have hmb : ∀ v, (setOf ((List.range f.n).filter fun v => decide (V v))).testBit v = true ↔ V v := fun v => by
      rw [setOf_testBit, List.contains_iff_mem, List.mem_filter, List.mem_range, decide_eq_true_eq]
      exact ⟨fun h => h.2, fun h => ⟨hV1 v h, h⟩⟩
    have hm2 : setOf ((List.range f.n).filter fun v => decide (V v)) < 2 ^ f.n := setOf_lt fun y hy => List.mem_range.1 (List.mem_filter.1 hy).1
    generalize setOf ((List.range f.n).filter fun v => decide (V v)) = m at *
    have hm63 := mask63 hf.ok hm2
    have hmm : ∀ v, v ∈ mem m ↔ V v := fun v => by rw [mem_mem hm63, hmb]
    have hpb : ∀ i j, (((partFr f m).a.getD i 0).testBit j = true) ↔ i < (mem m).length ∧ j < (mem m).length ∧ f.r ((mem m).getD i 0) ((mem m).getD j 0) := fun i j => part_bit i j
    have hmn := mem_nodup m
    have hup : m ∈ upsets f := (upsets_iff hf).2 ⟨hm2, fun v u hv hu => (hmb u).2 (hV2 v u ((hmb v).1 hv) hu)⟩
    have hF : ∀ k, k < (mem m).length → ((mem m).map h).getD k 0 = h ((mem m).getD k 0) := fun k hk => by simp [List.getD_eq_getElem?_getD, hk]
    have hVi : ∀ k, k < (mem m).length → V ((mem m).getD k 0) := fun k hk => (hmm _).1 (getD_mem hk)
    refine ⟨m, hup, (mem m).map h, by simp, ?_, ?_, ?_⟩
    · intro y hy
      obtain ⟨v, hv, rfl⟩ := List.mem_map.1 hy
      exact (hV4 _).1 ⟨v, (hmm v).1 hv, rfl⟩
    · intro i hi
      apply Nat.eq_of_testBit_eq
      intro j
      rw [Bool.eq_iff_iff, img_testBit, hF i hi]
      constructor
      · rintro ⟨k, hk, hk1, hk2⟩
        obtain ⟨_, hk3, hk4⟩ := (hpb _ _).1 hk1
        rw [hF k hk3] at hk2
        subst hk2
        exact (hV3 _ (hVi i hi) _).2 ⟨_, hk4, rfl⟩
      · intro hb
        obtain ⟨u, hu, e⟩ := (hV3 _ (hVi i hi) _).1 hb
        have hVu := hV2 _ _ (hVi i hi) hu
        have hk := at_idx ((hmm u).2 hVu)
        refine ⟨(mem m).idxOf u, by rw [List.length_map]; exact hk.1, (hpb _ _).2 ⟨hi, hk.1, by rw [hk.2]; exact hu⟩, ?_⟩
        rw [hF _ hk.1, hk.2, e]
    · intro z hz
      obtain ⟨v, hv, e⟩ := (hV4 z).2 hz
      have hk := at_idx ((hmm v).2 hv)
      refine ⟨(mem m).idxOf v, by rw [List.length_map]; exact hk.1, ?_⟩
      rw [hF _ hk.1, hk.2, e]
theorem Bel.cone {f q : Fr} (hq : Po q) (hb : Bel f q) (z : Nat) : BelM f q z := by
  obtain ⟨V, h, hV1, hV2, hV3, hV4⟩ := hb
  refine ⟨fun v => V v ∧ q.r z (h v), h, fun v hv => hV1 v hv.1, fun v u hv hu => ⟨hV2 v u hv.1 hu, hq.trans _ _ _ hv.2 ((hV3 v hv.1 _).2 ⟨u, hu, rfl⟩)⟩, fun v hv y => hV3 v hv.1 y, fun y => ?_⟩
  constructor
  · rintro ⟨v, hv, rfl⟩; exact hv.2
  · intro hy
    obtain ⟨v, hv, rfl⟩ := (hV4 y).2 (fr_bit_lt hq.ok hy).2
    exact ⟨v, ⟨hv, hy⟩, rfl⟩
end Go.Proofs.YtikfhibcdhdglaaGreat

/- Plain maths of formulas and of the grammar of their texts. Conditions: none; no program in sight. -/
namespace Go.Vc
/-- A formula. -/
inductive Fm : Type
  | var (v : Nat) : Fm
  | fls : Fm
  | and (a b : Fm) : Fm
  | or (a b : Fm) : Fm
  | imp (a b : Fm) : Fm
  | box (a : Fm) : Fm
  | dia (a : Fm) : Fm
abbrev nd (k s : Nat) : List Value := [.int .i64 (k : Int), .int .i64 (s : Int)]
def Fm.cells : Fm → List Value
  | .var v => nd 0 v
  | .fls => nd 1 0
  | .and a b => nd 2 0 ++ a.cells ++ b.cells
  | .or a b => nd 3 0 ++ a.cells ++ b.cells
  | .imp a b => nd 4 0 ++ a.cells ++ b.cells
  | .box a => nd 5 0 ++ a.cells
  | .dia a => nd 6 0 ++ a.cells
def Fm.size : Fm → Nat
  | .var _ => 1
  | .fls => 1
  | .and a b => 1 + a.size + b.size
  | .or a b => 1 + a.size + b.size
  | .imp a b => 1 + a.size + b.size
  | .box a => 1 + a.size
  | .dia a => 1 + a.size
theorem Fm.size_pos (a : Fm) : 1 ≤ a.size := by cases a <;> simp only [Fm.size] <;> omega
theorem Fm.cells_cell : ∀ (a : Fm), ∀ u ∈ a.cells, isCell u = true
  | .var _ => by simp [Fm.cells, nd, isCell]
  | .fls => by simp [Fm.cells, nd, isCell]
  | .and a b => by have h1 := a.cells_cell; have h2 := b.cells_cell; intro u hu; simp only [Fm.cells, nd, List.mem_append, List.mem_cons, List.not_mem_nil, or_false] at hu; rcases hu with ((rfl | rfl) | h) | h <;> first | rfl | exact h1 _ h | exact h2 _ h
  | .or a b => by have h1 := a.cells_cell; have h2 := b.cells_cell; intro u hu; simp only [Fm.cells, nd, List.mem_append, List.mem_cons, List.not_mem_nil, or_false] at hu; rcases hu with ((rfl | rfl) | h) | h <;> first | rfl | exact h1 _ h | exact h2 _ h
  | .imp a b => by have h1 := a.cells_cell; have h2 := b.cells_cell; intro u hu; simp only [Fm.cells, nd, List.mem_append, List.mem_cons, List.not_mem_nil, or_false] at hu; rcases hu with ((rfl | rfl) | h) | h <;> first | rfl | exact h1 _ h | exact h2 _ h
  | .box a => by have h1 := a.cells_cell; intro u hu; simp only [Fm.cells, nd, List.mem_append, List.mem_cons, List.not_mem_nil, or_false] at hu; rcases hu with (rfl | rfl) | h <;> first | rfl | exact h1 _ h
  | .dia a => by have h1 := a.cells_cell; intro u hu; simp only [Fm.cells, nd, List.mem_append, List.mem_cons, List.not_mem_nil, or_false] at hu; rcases hu with (rfl | rfl) | h <;> first | rfl | exact h1 _ h

/-! ### The reader -/
/-- Variables have numbers below 6. -/
def Fm.good : Fm → Prop
  | .var v => v < 6
  | .fls => True
  | .and a b => a.good ∧ b.good
  | .or a b => a.good ∧ b.good
  | .imp a b => a.good ∧ b.good
  | .box a => a.good
  | .dia a => a.good
end Go.Vc

/- Plain facts on Jankov's formulas: the least elements of a set, disjunctions of variables, premises and conclusion. No program in sight. Conditions: none. -/
namespace Go.Vc
/-- Where a implies b. -/
def impM (f : Fr) (a b : Nat) : Nat := setOf ((List.range f.n).filter fun i => decide (sdiff (f.a.getD i 0) (sdiff (2 ^ f.n - 1) a ||| b) = 0))
end Go.Vc

/- Contracts: slices.Concat and slices.Grow; formulas as lists of nodes. Conditions: none. -/
namespace Go.Vc
section
variable {P : Program} {w : World}
end
end Go.Vc
namespace Go.Proofs.YtikfhibcdhdglaaGreat
open Go.Vc
end Go.Proofs.YtikfhibcdhdglaaGreat

/- Plain maths: the text of a formula, read again, is the formula. No program in sight. Conditions: none. -/
namespace Go.Vc
/-! ### The text read again -/
end Go.Vc

/- Contracts: formulas as lists of nodes, and the reader of texts, in the program and the reference. Conditions: none. -/
namespace Go.Vc
theorem iBuild2 {x y a b : Value} {K : Value → Prop} (ha : isCell a = true) (hb : isCell b = true) (h : K (.agg #[a, b])) : xBuild #[x, y] #[(0, 1), (1, 1)] [(0, a), (1, b)] K :=
  iBuild (cs := #[a, b]) (by simp [Instr.fill, isCell_cells ha, isCell_cells hb]) h
theorem iBuild1 {x y a : Value} {K : Value → Prop} (ha : isCell a = true) (h : K (.agg #[a, y])) : xBuild #[x, y] #[(0, 1), (1, 1)] [(0, a)] K :=
  iBuild (cs := #[a, y]) (by simp [Instr.fill, isCell_cells ha]) h
end Go.Vc
namespace Go.Proofs.YtikfhibcdhdglaaGreat
open Go.Vc
/-- A formula in a row of the call's own. -/
abbrev FmW (lo : Nat) (w : World) (v : Value) (a : Fm) : Prop := OwK 2 lo t_impl_Node w v a.size a.cells
/-- A formula to be read. -/
abbrev FmS (w : World) (v : Value) (a : Fm) : Prop := SlK 2 w v a.size a.cells
theorem node_one {w w' : World} {b : Nat} {x y : Value} (hb : b = w.heap.size ∧ w'.heap.size = b + 1) (hB : Blk t_impl_Node w' b [x, y]) : OwK 2 w.heap.size t_impl_Node w' (.slice (some ⟨b, 0, none⟩) 1 1) 1 [x, y] := OwK.ofBlk hB (by omega) rfl (by omega)
theorem ok_spec_l02False (w : World) : Cal Tryz.prog f_spec_l02False #[] w fun v w' => Ext w w' ∧ FmW w.heap.size w' v .fls := by
  apply c_spec_l02False; unfold S_spec_l02False
  refine iBuild1 rfl ?_
  refine iBsA fun b w1 hb h1 hB => ⟨h1, node_one hb hB⟩
theorem ok_spec_l02Var (v : Nat) (w : World) : Cal Tryz.prog f_spec_l02Var #[.int .i64 (v : Int)] w fun r w' => Ext w w' ∧ FmW w.heap.size w' r (.var v) := by
  apply c_spec_l02Var; unfold S_spec_l02Var
  refine iBuild2 rfl rfl ?_
  refine iBsA fun b w1 hb h1 hB => ⟨h1, node_one hb hB⟩
theorem ok_spec_l02Pair {a b c : Fm} {k : Nat} (hc : c.cells = nd k 0 ++ a.cells ++ b.cells) (hs : c.size = 1 + a.size + b.size) {va vb : Value} {w : World} (ha : FmS w va a) (hb : FmS w vb b) (hsz : c.size ≤ 1099511627776) :
    Cal Tryz.prog f_spec_l02Pair #[.int .i64 (k : Int), va, vb] w fun r w' => Ext w w' ∧ FmW w.heap.size w' r c := by
  apply c_spec_l02Pair; unfold S_spec_l02Pair
  refine iBuild1 rfl ?_
  refine iBsA fun q w1 hq h1 hB => ?_
  refine iAppK u_Simpl_Node i_Simpl_Node rfl (by omega) (node_one hq hB) (ha.ext h1) a.cells_cell (by omega) (by omega) h1.size fun v2 w2 ho2 hg2 _ => ?_
  have hX2 := h1.grown hg2 (fun c hc => ((node_one hq hB).blk c hc).1)
  refine iAppK u_Simpl_Node i_Simpl_Node rfl (by omega) ho2 (hb.ext hX2) b.cells_cell (by omega) (by omega) hX2.size fun v3 w3 ho3 hg3 _ => ?_
  refine ⟨hX2.grown hg3 (fun c hc => (ho2.blk c hc).1), ?_⟩
  unfold FmW
  rw [hs, hc]
  exact ho3
theorem ok_spec_l02Pre {a c : Fm} {k : Nat} (hc : c.cells = nd k 0 ++ a.cells) (hs : c.size = 1 + a.size) {va : Value} {w : World} (ha : FmS w va a) (hsz : c.size ≤ 1099511627776) :
    Cal Tryz.prog f_spec_l02Pre #[.int .i64 (k : Int), va] w fun r w' => Ext w w' ∧ FmW w.heap.size w' r c := by
  apply c_spec_l02Pre; unfold S_spec_l02Pre
  refine iBuild1 rfl ?_
  refine iBsA fun q w1 hq h1 hB => ?_
  refine iAppK u_Simpl_Node i_Simpl_Node rfl (by omega) (node_one hq hB) (ha.ext h1) a.cells_cell (by omega) (by omega) h1.size fun v2 w2 ho2 hg2 _ => ?_
  refine ⟨h1.grown hg2 (fun c hc => ((node_one hq hB).blk c hc).1), ?_⟩
  unfold FmW
  rw [hs, hc]
  exact ho2
theorem ok_spec_l02Not {a : Fm} {va : Value} {w : World} (ha : FmS w va a) (hsz : a.size ≤ 1099511627) : Cal Tryz.prog f_spec_l02Not #[va] w fun r w' => Ext w w' ∧ FmW w.heap.size w' r (.imp a .fls) := by
  apply c_spec_l02Not; unfold S_spec_l02Not
  refine iCall ((ok_spec_l02False w).mono ?_)
  rintro u w1 ⟨h1, ho⟩
  refine iCall ((ok_spec_l02Pair (c := .imp a .fls) (k := 4) rfl rfl (ha.ext h1) ho.sl (by show 1 + a.size + 1 ≤ _; omega)).mono ?_)
  rintro r w2 ⟨h2, hr⟩
  exact ⟨h1.trans h2, hr.mono h1.size⟩
end Go.Proofs.YtikfhibcdhdglaaGreat

/- Contracts: slices.IndexFunc, DeleteFunc and Index on []int64; masks for Jankov's formulas. Conditions: none. -/
namespace Go.Vc
section
universe u
variable {α : Type u} {enc : α → Value}
end
section
variable {P : Program} {w : World} {lo : Nat} {e : TypeId}
end
end Go.Vc
namespace Go.Proofs.YtikfhibcdhdglaaGreat
open Go.Vc
end Go.Proofs.YtikfhibcdhdglaaGreat

/- Contracts: where all that is seen lies in a set; roots; the least elements of a set. Conditions: none. -/
namespace Go.Vc
/-- Where all that is seen lies in m. -/
def boxK (a : List Nat) (m k : Nat) : Nat := setOf ((List.range k).filter fun i => decide (sdiff (a.getD i 0) m = 0))
theorem boxK_succ (a : List Nat) (m k : Nat) : boxK a m (k + 1) = if sdiff (a.getD k 0) m = 0 then boxK a m k ||| 2 ^ k else boxK a m k := by
  unfold boxK
  rw [List.range_succ, List.filter_append]
  by_cases h : sdiff (a.getD k 0) m = 0
  · rw [if_pos h, ← setOf_snoc, List.filter_cons, if_pos (decide_eq_true h), List.filter_nil]
  · rw [if_neg h, List.filter_cons, if_neg (by rw [decide_eq_true_eq]; exact h), List.filter_nil, List.append_nil]
theorem boxK_lt (a : List Nat) (m k : Nat) : boxK a m k < 2 ^ k := setOf_lt fun _ hy => List.mem_range.1 (List.mem_filter.1 hy).1
end Go.Vc
namespace Go.Proofs.YtikfhibcdhdglaaGreat
open Go.Vc
theorem ok_impl_box {v : Value} {w : World} {a : List Nat} (hs : SlN w v a) (hl : a.length ≤ 8) (ha : ∀ x ∈ a, x < 2 ^ 8) (m : Nat) (hm : m < 2 ^ 63) : Ret Tryz.prog f_impl_box #[v, .int .i64 (m : Int)] w (.int .i64 ((boxK a m a.length : Nat) : Int)) := by
  apply c_impl_box; unfold S_impl_box
  ((with_reducible refine iLenN (by assumption) ?_))
  refine iLp (fun k : Nat => [.int .i64 ((boxK a m k : Nat) : Int), .int .i64 (k : Int)]) (fun k w' => k ≤ a.length ∧ Ext w w') (fun k => a.length - k) 0 rfl ⟨Nat.zero_le _, Ext.refl w⟩ ?_
  rintro k w2 Kn ⟨hk, h2⟩ hKn
  have hs2 := hs.ext h2
  (intro _; (try simp only [gx]); (with_reducible refine iLt ?_))
  refine iCndP (fun h3 => ?_) (fun h3 => ?_)
  · have hk1 : k < a.length := by omega
    have hak : a.getD k 0 < 2 ^ 8 := getD_lt ha hk1
    have hb8 : boxK a m k < 2 ^ 8 := Nat.lt_of_lt_of_le (boxK_lt a m k) (Nat.pow_le_pow_right (by omega) (by omega))
    have hbs := boxK_succ a m k
    ((with_reducible refine iIaNN (by assumption) ?_ (fun pa_ hpa_ => ?_)); omega; (with_reducible refine iLd (by assumption) ?_))
    refine iRet (ok_impl_within _ m (by omega) hm w2) fun w3 h4 => ?_
    refine iCndP (fun h5 => ?_) (fun h5 => ?_)
    · rw [if_pos h5] at hbs
      have h2k : 2 ^ k < 2 ^ 63 := Nat.pow_lt_pow_right (by omega) (by omega)
      refine iShlOne (by omega) ?_
      refine iBOr (by omega) h2k ?_
      rw [← hbs]
      (refine iAdd (by omega) ?_)
      exact hKn (k + 1) _ ⟨by omega, h2.trans h4⟩ (by omega)
    · rw [if_neg h5] at hbs
      rw [← hbs]
      (refine iAdd (by omega) ?_)
      exact hKn (k + 1) _ ⟨by omega, h2.trans h4⟩ (by omega)
  · obtain rfl : k = a.length := by omega
    exact ⟨rfl, h2⟩
theorem ok_impl_imply {f : Fr} (hf : f.ok) {v : Value} {w : World} (hs : SlN w v f.a) (a b : Nat) (ha : a < 2 ^ f.n) (hb : b < 2 ^ f.n) : Ret Tryz.prog f_impl_Poset_imply #[.agg #[.int .i64 (f.n : Int), v], .int .i64 (a : Int), .int .i64 (b : Int)] w (.int .i64 ((impM f a b : Nat) : Int)) := by
  apply c_impl_Poset_imply; unfold S_impl_Poset_imply
  have hf8 := hf.1
  have h28 : 2 ^ f.n ≤ 2 ^ 8 := Nat.pow_le_pow_right (by omega) hf8
  refine iNew fun q w1 hq x1 hB => ?_
  have hs1 := hs.ext x1
  ((with_reducible refine iFa ?_); refine iLdB (by assumption) (by first | rfl | simp) ?_; (with_reducible refine iLdA (by assumption) ?_ ?_); rfl)
  refine iRetQ (fun w' _ => ok_impl_Poset_all f.n hf8 v w') ?_
  refine iBAndNot (by omega) (by omega) ?_
  have h1 : sdiff (2 ^ f.n - 1) a < 2 ^ f.n := sdiff_lt (by have := Nat.two_pow_pos f.n; omega)
  refine iBOr (by omega) (by omega) ?_
  have h2 : sdiff (2 ^ f.n - 1) a ||| b < 2 ^ f.n := Nat.or_lt_two_pow h1 hb
  refine iRetQ (fun w' h' => ok_impl_box (hs1.ext h') (by rw [hf.2.1]; exact hf8) (fun x hx => Nat.lt_of_lt_of_le (hf.2.2 x hx) h28) _ (by omega)) ?_
  intro w2 x2
  rw [hf.2.1]
  exact ⟨rfl, x1.trans x2⟩
end Go.Proofs.YtikfhibcdhdglaaGreat

/- Plain facts: forcing on posets; p-morphisms keep it; Jankov's theorem. No program in sight. Conditions: none. -/
namespace Go.Proofs.YtikfhibcdhdglaaGreat
open Go.Vc
/-- Where a formula is forced, for sets V of the variables. -/
def frc (f : Fr) (V : Nat → Nat) : Fm → Nat
  | .var v => V v
  | .fls => 0
  | .and a b => frc f V a &&& frc f V b
  | .or a b => frc f V a ||| frc f V b
  | .imp a b => impM f (frc f V a) (frc f V b)
  | .box _ => 0
  | .dia _ => 0
def ValOk (f : Fr) (V : Nat → Nat) : Prop := ∀ v, V v ∈ upsets f
theorem bit_lt_n {m n x : Nat} (hm : m < 2 ^ n) (h : m.testBit x = true) : x < n := by
  rcases Nat.lt_or_ge x n with h' | h'
  · exact h'
  · rw [Nat.testBit_lt_two_pow (Nat.lt_of_lt_of_le hm (Nat.pow_le_pow_right (by omega) h'))] at h; cases h
theorem impM_bit {f : Fr} (hf : f.ok) {a b x : Nat} : (impM f a b).testBit x = true ↔ x < f.n ∧ ∀ y, f.r x y → a.testBit y = true → b.testBit y = true := by
  unfold impM
  rw [setOf_testBit, List.contains_iff_mem, List.mem_filter, List.mem_range, decide_eq_true_eq, sdiff_eq_zero]
  refine and_congr_right fun hx => ?_
  constructor
  · intro h y hy ha
    have := h y hy
    rw [Nat.testBit_or, testBit_sdiff, ha] at this
    simpa using this
  · intro h y hy
    rw [Nat.testBit_or, testBit_sdiff, full_testBit, decide_eq_true (fr_bit_lt hf hy).2]
    cases ha : a.testBit y
    · simp
    · rw [h y hy ha]; simp
theorem zero_up {f : Fr} (hp : Po f) : 0 ∈ upsets f := (upsets_iff hp).2 ⟨Nat.two_pow_pos _, fun v u h => by rw [Nat.zero_testBit] at h; cases h⟩
theorem and_up {f : Fr} (hp : Po f) {a b : Nat} (ha : a ∈ upsets f) (hb : b ∈ upsets f) : a &&& b ∈ upsets f := by
  obtain ⟨a1, a2⟩ := (upsets_iff hp).1 ha
  obtain ⟨b1, b2⟩ := (upsets_iff hp).1 hb
  refine (upsets_iff hp).2 ⟨Nat.and_lt_two_pow _ b1, fun v u h hr => ?_⟩
  rw [Nat.testBit_and, Bool.and_eq_true] at h ⊢
  exact ⟨a2 v u h.1 hr, b2 v u h.2 hr⟩
theorem or_up {f : Fr} (hp : Po f) {a b : Nat} (ha : a ∈ upsets f) (hb : b ∈ upsets f) : a ||| b ∈ upsets f := by
  obtain ⟨a1, a2⟩ := (upsets_iff hp).1 ha
  obtain ⟨b1, b2⟩ := (upsets_iff hp).1 hb
  refine (upsets_iff hp).2 ⟨Nat.or_lt_two_pow a1 b1, fun v u h hr => ?_⟩
  rw [Nat.testBit_or, Bool.or_eq_true] at h ⊢
  exact h.imp (fun h => a2 v u h hr) fun h => b2 v u h hr
theorem imp_up {f : Fr} (hp : Po f) {a b : Nat} : impM f a b ∈ upsets f := by
  refine (upsets_iff hp).2 ⟨setOf_lt fun y hy => List.mem_range.1 (List.mem_filter.1 hy).1, fun v u h hr => ?_⟩
  rw [impM_bit hp.ok] at h ⊢
  exact ⟨(fr_bit_lt hp.ok hr).2, fun y hy => h.2 y (hp.trans _ _ _ hr hy)⟩
theorem frc_up {f : Fr} (hp : Po f) {V : Nat → Nat} (hV : ValOk f V) : ∀ a, frc f V a ∈ upsets f
  | .var v => hV v
  | .fls => zero_up hp
  | .and a b => and_up hp (frc_up hp hV a) (frc_up hp hV b)
  | .or a b => or_up hp (frc_up hp hV a) (frc_up hp hV b)
  | .imp _ _ => imp_up hp
  | .box _ => zero_up hp
  | .dia _ => zero_up hp
theorem frc_lt {f : Fr} (hp : Po f) {V : Nat → Nat} (hV : ValOk f V) (a : Fm) : frc f V a < 2 ^ f.n := upsets_lt (frc_up hp hV a)
def Fm.has (v : Nat) : Fm → Prop
  | .var x => x = v
  | .fls => False
  | .and a b => Fm.has v a ∨ Fm.has v b
  | .or a b => Fm.has v a ∨ Fm.has v b
  | .imp a b => Fm.has v a ∨ Fm.has v b
  | .box a => Fm.has v a
  | .dia a => Fm.has v a
theorem frc_congr {f : Fr} {V V' : Nat → Nat} : ∀ a : Fm, (∀ v, Fm.has v a → V v = V' v) → frc f V a = frc f V' a
  | .var v, h => h v rfl
  | .fls, _ => rfl
  | .and a b, h => by simp only [frc]; rw [frc_congr a fun v hv => h v (.inl hv), frc_congr b fun v hv => h v (.inr hv)]
  | .or a b, h => by simp only [frc]; rw [frc_congr a fun v hv => h v (.inl hv), frc_congr b fun v hv => h v (.inr hv)]
  | .imp a b, h => by simp only [frc]; rw [frc_congr a fun v hv => h v (.inl hv), frc_congr b fun v hv => h v (.inr hv)]
  | .box _, _ => rfl
  | .dia _, _ => rfl
/-- A p-morphism from an upset keeps what is forced. -/
theorem frc_map {f g : Fr} (hf : f.ok) (hg : g.ok) {U : Nat → Prop} {h : Nat → Nat} (hlt : ∀ v, U v → v < f.n ∧ h v < g.n) (hU : ∀ v u, U v → f.r v u → U u) (hm : ∀ v, U v → ∀ y, g.r (h v) y ↔ ∃ u, f.r v u ∧ h u = y)
    {V V' : Nat → Nat} (hV : ∀ x v, U v → (V x).testBit v = (V' x).testBit (h v)) : ∀ (a : Fm) (v : Nat), U v → (frc f V a).testBit v = (frc g V' a).testBit (h v)
  | .var x, v, hv => hV x v hv
  | .fls, v, _ => by simp [frc]
  | .and a b, v, hv => by
    have h1 := frc_map hf hg hlt hU hm hV a v hv
    have h2 := frc_map hf hg hlt hU hm hV b v hv
    simp only [frc, Nat.testBit_and, h1, h2]
  | .or a b, v, hv => by
    have h1 := frc_map hf hg hlt hU hm hV a v hv
    have h2 := frc_map hf hg hlt hU hm hV b v hv
    simp only [frc, Nat.testBit_or, h1, h2]
  | .imp a b, v, hv => by
    have h1 := frc_map hf hg hlt hU hm hV a
    have h2 := frc_map hf hg hlt hU hm hV b
    simp only [frc]
    rw [Bool.eq_iff_iff, impM_bit hf, impM_bit hg]
    constructor
    · rintro ⟨_, h3⟩
      refine ⟨(hlt v hv).2, fun y hy ha => ?_⟩
      obtain ⟨u, hu, rfl⟩ := (hm v hv y).1 hy
      have hUu := hU v u hv hu
      rw [← h2 u hUu]
      exact h3 u hu (by rw [h1 u hUu]; exact ha)
    · rintro ⟨_, h3⟩
      refine ⟨(hlt v hv).1, fun u hu ha => ?_⟩
      have hUu := hU v u hv hu
      rw [h2 u hUu]
      exact h3 (h u) ((hm v hv _).2 ⟨u, hu, rfl⟩) (by rw [← h1 u hUu]; exact ha)
  | .box _, v, _ => by simp [frc]
  | .dia _, v, _ => by simp [frc]
/-- A formula is valid on a poset. -/
def VldP (f : Fr) (a : Fm) : Prop := ∀ V, ValOk f V → frc f V a = 2 ^ f.n - 1
theorem full_iff_all {n m : Nat} (hm : m < 2 ^ n) : m = 2 ^ n - 1 ↔ ∀ x, x < n → m.testBit x = true := by
  constructor
  · rintro rfl x hx; rw [full_testBit, decide_eq_true hx]
  · intro h
    apply Nat.eq_of_testBit_eq
    intro i
    rw [full_testBit]
    by_cases hi : i < n
    · rw [h i hi, decide_eq_true hi]
    · rw [decide_eq_false hi]
      cases hb : m.testBit i
      · rfl
      · exact absurd (bit_lt_n hm hb) hi
/-- The sets that a map draws back. -/
theorem pull_val {f g : Fr} (hp : Po f) (hg : Po g) {U : Nat → Prop} {h : Nat → Nat} (hlt : ∀ v, U v → v < f.n) (hU : ∀ v u, U v → f.r v u → U u) (hm : ∀ v, U v → ∀ y, g.r (h v) y ↔ ∃ u, f.r v u ∧ h u = y)
    {V' : Nat → Nat} (hV' : ValOk g V') : ∃ V, ValOk f V ∧ ∀ x v, (V x).testBit v = true ↔ U v ∧ (V' x).testBit (h v) = true := by
  classical
  have hb : ∀ x v, (setOf ((List.range f.n).filter fun v => decide (U v) && (V' x).testBit (h v))).testBit v = true ↔ U v ∧ (V' x).testBit (h v) = true := fun x v => by
    rw [setOf_testBit, List.contains_iff_mem, List.mem_filter, List.mem_range, Bool.and_eq_true, decide_eq_true_eq]
    exact ⟨fun h => h.2, fun h => ⟨hlt v h.1, h⟩⟩
  refine ⟨fun x => setOf ((List.range f.n).filter fun v => decide (U v) && (V' x).testBit (h v)), fun x => (upsets_iff hp).2 ⟨setOf_lt fun y hy => List.mem_range.1 (List.mem_filter.1 hy).1, fun v u hv hr => ?_⟩, hb⟩
  rw [hb] at hv ⊢
  exact ⟨hU v u hv.1 hr, ((upsets_iff hg).1 (hV' x)).2 _ _ hv.2 ((hm v hv.1 _).2 ⟨u, hr, rfl⟩)⟩
/-- What is valid on a poset is valid on one that is under it. -/
theorem vld_under {f g : Fr} (hp : Po f) (hg : Po g) (hb : ∀ x, x < g.n → BelM f g x) {a : Fm} (h : VldP f a) : VldP g a := by
  intro V' hV'
  rw [full_iff_all (frc_lt hg hV' a)]
  intro x hx
  obtain ⟨U, k, h1, h2, h3, h4⟩ := hb x hx
  obtain ⟨V, hV, hVb⟩ := pull_val hp hg h1 h2 h3 hV'
  obtain ⟨z, hz, rfl⟩ := (h4 x).2 (hg.refl x hx)
  have hlt : ∀ v, U v → v < f.n ∧ k v < g.n := fun v hv => ⟨h1 v hv, (fr_bit_lt hg.ok ((h3 v hv (k v)).2 ⟨v, hp.refl v (h1 v hv), rfl⟩)).2⟩
  rw [← frc_map hp.ok hg.ok hlt h2 h3 (V := V) (V' := V') (fun x v hv => by rw [Bool.eq_iff_iff, hVb]; exact ⟨fun h => h.2, fun h => ⟨hv, h⟩⟩) a z hz, h V hV, full_testBit, decide_eq_true (h1 z hz)]
theorem vld_bel {f g : Fr} (hp : Po f) (hg : Po g) (hb : Bel f g) {a : Fm} (h : VldP f a) : VldP g a := vld_under hp hg (fun x _ => hb.cone hg x) h

/-! ### The least elements of a set -/

/-! ### Premises -/

/-! ### The poset's own sets -/
end Go.Proofs.YtikfhibcdhdglaaGreat

/- Contracts: the parts of a formula, in the program and in the reference. Conditions: none. -/
namespace Go.Vc
/-! ### Formulas by their kinds and parts -/
def Fm.kind : Fm → Nat
  | .var _ => 0
  | .fls => 1
  | .and _ _ => 2
  | .or _ _ => 3
  | .imp _ _ => 4
  | .box _ => 5
  | .dia _ => 6
def Fm.sym : Fm → Nat
  | .var v => v
  | _ => 0
def Fm.kids : Fm → List Fm
  | .and a b => [a, b]
  | .or a b => [a, b]
  | .imp a b => [a, b]
  | .box a => [a]
  | .dia a => [a]
  | _ => []
def arity (k : Nat) : Nat := if k = 2 ∨ k = 3 ∨ k = 4 then 2 else if k = 5 ∨ k = 6 then 1 else 0
def cellsL (fs : List Fm) : List Value := fs.flatMap Fm.cells
def sizeL (fs : List Fm) : Nat := (fs.map Fm.size).sum
theorem Fm.cells_kids (f : Fm) : f.cells = nd f.kind f.sym ++ cellsL f.kids := by cases f <;> simp [Fm.cells, Fm.kind, Fm.sym, Fm.kids, cellsL]
theorem Fm.size_kids (f : Fm) : f.size = 1 + sizeL f.kids := by cases f <;> simp [Fm.size, Fm.kids, sizeL] <;> omega
theorem Fm.arity_kids (f : Fm) : arity f.kind = f.kids.length := by cases f <;> rfl
theorem cellsL_app (a b : List Fm) : cellsL (a ++ b) = cellsL a ++ cellsL b := by simp [cellsL]
theorem sizeL_app (a b : List Fm) : sizeL (a ++ b) = sizeL a + sizeL b := by simp [sizeL]
theorem sizeL_len : ∀ gs : List Fm, gs.length ≤ sizeL gs
  | [] => Nat.zero_le _
  | a :: bs => by have := a.size_pos; have := sizeL_len bs; simp only [sizeL, List.map_cons, List.sum_cons, List.length_cons] at this ⊢; omega
/-- The list of nodes says the formula. -/
theorem nodes_inj : ∀ {fs gs : List Fm} {r r' : List Value}, fs.length = gs.length → cellsL fs ++ r = cellsL gs ++ r' → fs = gs ∧ r = r' := by
  suffices H : ∀ (n : Nat) {fs gs : List Fm} {r r' : List Value}, sizeL fs ≤ n → fs.length = gs.length → cellsL fs ++ r = cellsL gs ++ r' → fs = gs ∧ r = r' from fun {fs} => H (sizeL fs) (Nat.le_refl _)
  intro n
  induction n with
  | zero =>
    intro fs gs r r' hn hl he
    cases fs with
    | nil => cases gs with
      | nil => exact ⟨rfl, he⟩
      | cons _ _ => cases hl
    | cons f fs => simp only [sizeL, List.map_cons, List.sum_cons] at hn; have := f.size_pos; omega
  | succ n ih =>
    intro fs gs r r' hn hl he
    cases fs with
    | nil => cases gs with
      | nil => exact ⟨rfl, he⟩
      | cons _ _ => cases hl
    | cons f fs => cases gs with
      | nil => cases hl
      | cons g gs =>
        simp only [List.length_cons, Nat.add_right_cancel_iff] at hl
        have hsz : sizeL (f.kids ++ fs) ≤ n := by
          rw [sizeL_app]
          simp only [sizeL, List.map_cons, List.sum_cons] at hn ⊢
          have := f.size_kids
          simp only [sizeL] at this
          omega
        have he' : nd f.kind f.sym ++ (cellsL (f.kids ++ fs) ++ r) = nd g.kind g.sym ++ (cellsL (g.kids ++ gs) ++ r') := by
          have e : ∀ (f : Fm) (fs : List Fm) (r : List Value), cellsL (f :: fs) ++ r = nd f.kind f.sym ++ (cellsL (f.kids ++ fs) ++ r) := fun f fs r => by
            rw [cellsL_app]
            simp only [cellsL, List.flatMap_cons]
            rw [f.cells_kids]
            simp [cellsL]
          rw [← e, ← e]; exact he
        simp only [nd, List.cons_append, List.nil_append, List.cons.injEq, Value.int.injEq, true_and] at he'
        obtain ⟨hk, hs, hr⟩ := he'
        have hk : f.kind = g.kind := by omega
        have hs : f.sym = g.sym := by omega
        have hkl : f.kids.length = g.kids.length := by rw [← f.arity_kids, ← g.arity_kids, hk]
        obtain ⟨h1, h2⟩ := ih hsz (by rw [List.length_append, List.length_append, hkl, hl]) hr
        obtain ⟨h3, h4⟩ := List.append_inj h1 hkl
        refine ⟨?_, h2⟩
        have : f = g := by
          cases f <;> cases g <;> simp [Fm.kind] at hk <;> simp [Fm.kids, Fm.sym] at h3 hs <;> simp_all
        rw [this, h4]
theorem cells_inj {f g : Fm} (h : f.cells = g.cells) : f = g := by
  have := (nodes_inj (fs := [f]) (gs := [g]) (r := []) (r' := []) rfl (by simpa [cellsL] using h)).1
  simpa using this
/-! ### Steps -/
section
variable {P : Program} {w : World}
/-- The number at place f of element j. -/
theorem iFld {sz f : Nat} {v x : Value} {n : Nat} {xs : List Value} {z : Int} {j : Nat} {k : IntKind} {K : Value → Prop} (hs : SlK sz w v n xs) (hz : z = (j : Int)) (h1 : j < n) (hf : f < sz) (hx : xs[j * sz + f]? = some x) (h : K x) : xIa sz v (.int k z) fun p => xFa f p fun q => xLd w q K := by
  subst hz
  refine iIaK hs h1 fun b o hc => ?_
  refine ⟨_, rfl, ?_⟩
  rw [addr_add]
  exact iLd ((hc f hf).trans hx) h
end
end Go.Vc
namespace Go.Proofs.YtikfhibcdhdglaaGreat
open Go.Vc
theorem ok_impl_partsOf (k : Nat) (w : World) : Ret Tryz.prog f_impl_partsOf #[.int .i64 (k : Int)] w (.int .i64 (arity k : Int)) := by
  apply c_impl_partsOf; unfold S_impl_partsOf
  refine iEq ?_
  refine iJnB (decide (k = 2 ∨ k = 3 ∨ k = 4)) w (fun J hJ => ?_) (fun w2 h2 => ?_)
  · refine iCndP (fun h => ?_) (fun h => ?_)
    · rw [decide_eq_true (.inl (by omega))] at hJ
      exact hJ _ (Ext.refl _)
    · refine iEq ?_
      refine iJnB (decide (k = 2 ∨ k = 3 ∨ k = 4)) w (fun J' hJ' => ?_) (fun w4 h4 => ?_)
      · refine iCndP (fun h' => ?_) (fun h' => ?_)
        · rw [decide_eq_true (.inr (.inl (by omega)))] at hJ'
          exact hJ' _ (Ext.refl _)
        · refine iEq ?_
          rw [show decide (k = 2 ∨ k = 3 ∨ k = 4) = decide ((k : Int) = 4) from decide_eq_decide.2 (by omega)] at hJ'
          exact hJ' _ (Ext.refl _)
      · intro _
        exact hJ _ h4
  · intro _
    simp only [gx]
    refine iCndP (fun h => ?_) (fun h => ?_)
    · rw [show (arity k : Int) = 2 by unfold arity; rw [if_pos h]; rfl]
      exact ⟨by first | trivial | rfl, h2⟩
    · refine iEq ?_
      refine iJnB (decide (k = 5 ∨ k = 6)) w2 (fun J hJ => ?_) (fun w6 h6 => ?_)
      · refine iCndP (fun h' => ?_) (fun h' => ?_)
        · rw [decide_eq_true (.inl (by omega))] at hJ
          exact hJ _ (Ext.refl _)
        · refine iEq ?_
          rw [show decide (k = 5 ∨ k = 6) = decide ((k : Int) = 6) from decide_eq_decide.2 (by omega)] at hJ
          exact hJ _ (Ext.refl _)
      · intro _
        simp only [gx]
        refine iCndP (fun h' => ?_) (fun h' => ?_)
        · rw [show (arity k : Int) = 1 by unfold arity; rw [if_neg h, if_pos h']; rfl]
          exact ⟨by first | trivial | rfl, h2.trans h6⟩
        · rw [show (arity k : Int) = 0 by unfold arity; rw [if_neg h, if_neg h']; rfl]
          exact ⟨by first | trivial | rfl, h2.trans h6⟩
theorem kind_at {fs : List Fm} {f : Fm} {r xs : List Value} {i : Nat} (h : xs.drop (i * 2) = cellsL (f :: fs) ++ r) : xs[i * 2 + 0]? = some (.int .i64 (f.kind : Int)) ∧ xs[i * 2 + 1]? = some (.int .i64 (f.sym : Int)) ∧ xs.drop ((i + 1) * 2) = cellsL (f.kids ++ fs) ++ r := by
  have e : cellsL (f :: fs) ++ r = nd f.kind f.sym ++ (cellsL (f.kids ++ fs) ++ r) := by
    rw [cellsL_app]
    simp only [cellsL, List.flatMap_cons]
    rw [f.cells_kids]
    simp [cellsL]
  rw [e] at h
  refine ⟨?_, ?_, ?_⟩
  · have := congrArg (fun l => l[0]?) h
    simpa [List.getElem?_drop] using this
  · have := congrArg (fun l => l[1]?) h
    simpa [List.getElem?_drop] using this
  · have := congrArg (List.drop 2) h
    rw [List.drop_drop] at this
    rw [show (i + 1) * 2 = i * 2 + 2 by omega, this]
    rfl
end Go.Proofs.YtikfhibcdhdglaaGreat

/- Rows of nodes of any kind and sign: which of them are formulas. No program in sight. Conditions: none. -/
namespace Go.Vc
abbrev RN := Int × Int
def rcell (q : RN) : List Value := [.int .i64 q.1, .int .i64 q.2]
def cellsN (N : List RN) : List Value := N.flatMap rcell
def rawF : Fm → List RN
  | .var v => [(0, (v : Int))]
  | .fls => [(1, 0)]
  | .and a b => (2, 0) :: (rawF a ++ rawF b)
  | .or a b => (3, 0) :: (rawF a ++ rawF b)
  | .imp a b => (4, 0) :: (rawF a ++ rawF b)
  | .box a => (5, 0) :: rawF a
  | .dia a => (6, 0) :: rawF a
theorem cellsN_cons (q : RN) (N : List RN) : cellsN (q :: N) = rcell q ++ cellsN N := by simp [cellsN]
theorem cellsN_app (M N : List RN) : cellsN (M ++ N) = cellsN M ++ cellsN N := by simp [cellsN]
theorem cellsN_raw : ∀ f : Fm, cellsN (rawF f) = f.cells
  | .var v => rfl
  | .fls => rfl
  | .and a b => by rw [rawF, cellsN_cons, cellsN_app, cellsN_raw a, cellsN_raw b]; simp [Fm.cells, rcell]
  | .or a b => by rw [rawF, cellsN_cons, cellsN_app, cellsN_raw a, cellsN_raw b]; simp [Fm.cells, rcell]
  | .imp a b => by rw [rawF, cellsN_cons, cellsN_app, cellsN_raw a, cellsN_raw b]; simp [Fm.cells, rcell]
  | .box a => by rw [rawF, cellsN_cons, cellsN_raw a]; simp [Fm.cells, rcell]
  | .dia a => by rw [rawF, cellsN_cons, cellsN_raw a]; simp [Fm.cells, rcell]
theorem rawF_len : ∀ f : Fm, (rawF f).length = f.size
  | .var _ => rfl
  | .fls => rfl
  | .and a b => by simp only [rawF, Fm.size, List.length_cons, List.length_append, rawF_len a, rawF_len b]; omega
  | .or a b => by simp only [rawF, Fm.size, List.length_cons, List.length_append, rawF_len a, rawF_len b]; omega
  | .imp a b => by simp only [rawF, Fm.size, List.length_cons, List.length_append, rawF_len a, rawF_len b]; omega
  | .box a => by simp only [rawF, Fm.size, List.length_cons, rawF_len a]; omega
  | .dia a => by simp only [rawF, Fm.size, List.length_cons, rawF_len a]; omega
theorem cellsN_len (N : List RN) : (cellsN N).length = N.length * 2 := by
  induction N with
  | nil => rfl
  | cons q N ih => rw [cellsN_cons, List.length_append, ih, List.length_cons]; show 2 + _ = _; omega
theorem cellsN_at : ∀ {N : List RN} {i : Nat} (h : i < N.length), (cellsN N)[i * 2 + 0]? = some (.int .i64 N[i].1) ∧ (cellsN N)[i * 2 + 1]? = some (.int .i64 N[i].2)
  | [], _, h => by simp at h
  | q :: N, 0, _ => ⟨rfl, rfl⟩
  | q :: N, i + 1, h => by
    have := cellsN_at (N := N) (i := i) (by simpa using h)
    have e : ∀ f, (cellsN (q :: N))[(i + 1) * 2 + f]? = (cellsN N)[i * 2 + f]? := fun f => by
      rw [cellsN_cons, List.getElem?_append_right (by simp [rcell]; omega)]
      congr 1
      simp [rcell]; omega
    rw [e, e]
    simpa using this
/-- A node that may stand in a formula. -/
def okN (q : RN) : Bool := decide (0 ≤ q.1 ∧ q.1 ≤ 6) && (decide (0 ≤ q.2 ∧ q.2 ≤ 5) && (decide (q.1 = 0) || decide (q.2 = 0)))
theorem okN_iff {q : RN} : okN q = true ↔ (0 ≤ q.1 ∧ q.1 ≤ 6) ∧ (0 ≤ q.2 ∧ q.2 ≤ 5) ∧ (q.1 = 0 ∨ q.2 = 0) := by
  unfold okN
  rw [Bool.and_eq_true, Bool.and_eq_true, Bool.or_eq_true, decide_eq_true_eq, decide_eq_true_eq, decide_eq_true_eq, decide_eq_true_eq]
def arZ (k : Int) : Nat := if k = 2 ∨ k = 3 ∨ k = 4 then 2 else if k = 5 ∨ k = 6 then 1 else 0
theorem arZ_nat (k : Nat) : arZ (k : Int) = arity k := by
  unfold arZ arity
  have h1 : ((k : Int) = 2 ∨ (k : Int) = 3 ∨ (k : Int) = 4) ↔ (k = 2 ∨ k = 3 ∨ k = 4) := by omega
  have h2 : ((k : Int) = 5 ∨ (k : Int) = 6) ↔ (k = 5 ∨ k = 6) := by omega
  by_cases c1 : k = 2 ∨ k = 3 ∨ k = 4
  · rw [if_pos (h1.2 c1), if_pos c1]
  · rw [if_neg (fun h => c1 (h1.1 h)), if_neg c1]
    by_cases c2 : k = 5 ∨ k = 6
    · rw [if_pos (h2.2 c2), if_pos c2]
    · rw [if_neg (fun h => c2 (h2.1 h)), if_neg c2]
/-- What is left behind so many formulas. -/
def goN : List RN → Nat → Option (List RN)
  | N, 0 => some N
  | [], _ + 1 => none
  | q :: N, o + 1 => goN N (o + arZ q.1)
theorem goN_zero (N : List RN) : goN N 0 = some N := by cases N <;> rfl
theorem goN_cons (q : RN) (N : List RN) (o : Nat) : goN (q :: N) (o + 1) = goN N (o + arZ q.1) := rfl
theorem goN_raw : ∀ (f : Fm) (R : List RN) (o : Nat), goN (rawF f ++ R) (o + 1) = goN R o
  | .var v, R, o => rfl
  | .fls, R, o => rfl
  | .and a b, R, o => by
    show goN (rawF a ++ rawF b ++ R) (o + 1 + 1) = _
    rw [List.append_assoc, goN_raw a, goN_raw b]
  | .or a b, R, o => by
    show goN (rawF a ++ rawF b ++ R) (o + 1 + 1) = _
    rw [List.append_assoc, goN_raw a, goN_raw b]
  | .imp a b, R, o => by
    show goN (rawF a ++ rawF b ++ R) (o + 1 + 1) = _
    rw [List.append_assoc, goN_raw a, goN_raw b]
  | .box a, R, o => by
    show goN (rawF a ++ R) (o + 1) = _
    rw [goN_raw a]
  | .dia a, R, o => by
    show goN (rawF a ++ R) (o + 1) = _
    rw [goN_raw a]
theorem goN_parse : ∀ (N : List RN) (o : Nat) (R : List RN), (∀ q ∈ N, okN q = true) → goN N o = some R → ∃ fs : List Fm, fs.length = o ∧ (∀ f ∈ fs, f.good) ∧ N = fs.flatMap rawF ++ R
  | N, 0, R, _, h => by
    rw [goN_zero] at h
    refine ⟨[], rfl, fun f hf => ?_, ?_⟩
    · cases hf
    · exact Option.some.inj h
  | [], o + 1, R, _, h => by cases h
  | q :: N, o + 1, R, hok, h => by
    rw [goN_cons] at h
    obtain ⟨fs, hl, hg, hN⟩ := goN_parse N (o + arZ q.1) R (fun x hx => hok x (List.mem_cons_of_mem _ hx)) h
    obtain ⟨k, s⟩ := q
    have hq := okN_iff.1 (hok _ List.mem_cons_self)
    obtain ⟨⟨k0, k6⟩, ⟨s0, s5⟩, hks⟩ := hq
    have k0 : 0 ≤ k := k0
    have k6 : k ≤ 6 := k6
    have s0 : 0 ≤ s := s0
    have s5 : s ≤ 5 := s5
    have hks : k = 0 ∨ s = 0 := hks
    have hl : fs.length = o + arZ k := hl
    have two : ∀ {c : Fm → Fm → Fm} {kk : Int}, k = kk → arZ k = 2 → s = 0 → (∀ a b, rawF (c a b) = (kk, 0) :: (rawF a ++ rawF b)) → (∀ a b, a.good → b.good → (c a b).good) → ∃ fs : List Fm, fs.length = o + 1 ∧ (∀ f ∈ fs, f.good) ∧ (k, s) :: N = fs.flatMap rawF ++ R := by
      intro c kk hk h2 hs hc hcg
      rw [h2] at hl
      match fs, hl, hg, hN with
      | a :: b :: fs, hl, hg, hN =>
        refine ⟨c a b :: fs, by simpa using hl, fun f hf => ?_, ?_⟩
        · rcases List.mem_cons.1 hf with rfl | hf
          · exact hcg _ _ (hg a (by simp)) (hg b (by simp))
          · exact hg f (by simp [hf])
        · rw [hN, hk, hs]; simp [hc]
    have one : ∀ {c : Fm → Fm} {kk : Int}, k = kk → arZ k = 1 → s = 0 → (∀ a, rawF (c a) = (kk, 0) :: rawF a) → (∀ a, a.good → (c a).good) → ∃ fs : List Fm, fs.length = o + 1 ∧ (∀ f ∈ fs, f.good) ∧ (k, s) :: N = fs.flatMap rawF ++ R := by
      intro c kk hk h2 hs hc hcg
      rw [h2] at hl
      match fs, hl, hg, hN with
      | a :: fs, hl, hg, hN =>
        refine ⟨c a :: fs, by simpa using hl, fun f hf => ?_, ?_⟩
        · rcases List.mem_cons.1 hf with rfl | hf
          · exact hcg _ (hg a (by simp))
          · exact hg f (by simp [hf])
        · rw [hN, hk, hs]; simp [hc]
    have nul : ∀ {c : Fm}, arZ k = 0 → rawF c = [(k, s)] → c.good → ∃ fs : List Fm, fs.length = o + 1 ∧ (∀ f ∈ fs, f.good) ∧ (k, s) :: N = fs.flatMap rawF ++ R := by
      intro c h2 hc hcg
      rw [h2] at hl
      refine ⟨c :: fs, by rw [List.length_cons]; omega, fun f hf => ?_, ?_⟩
      · rcases List.mem_cons.1 hf with rfl | hf
        · exact hcg
        · exact hg f hf
      · rw [hN, List.flatMap_cons, hc]; simp
    have hcase : k = 0 ∨ k = 1 ∨ k = 2 ∨ k = 3 ∨ k = 4 ∨ k = 5 ∨ k = 6 := by omega
    rcases hcase with h | h | h | h | h | h | h
    · refine nul (c := .var s.toNat) (by rw [h]; rfl) ?_ (show s.toNat < 6 by omega)
      rw [h]
      show [(0, ((s.toNat : Nat) : Int))] = _
      rw [Int.toNat_of_nonneg s0]
    · have hs : s = 0 := by omega
      exact nul (c := .fls) (by rw [h]; rfl) (by rw [h, hs]; rfl) trivial
    · exact two (c := .and) h (by rw [h]; rfl) (by omega) (fun _ _ => rfl) fun _ _ h1 h2 => ⟨h1, h2⟩
    · exact two (c := .or) h (by rw [h]; rfl) (by omega) (fun _ _ => rfl) fun _ _ h1 h2 => ⟨h1, h2⟩
    · exact two (c := .imp) h (by rw [h]; rfl) (by omega) (fun _ _ => rfl) fun _ _ h1 h2 => ⟨h1, h2⟩
    · exact one (c := .box) h (by rw [h]; rfl) (by omega) (fun _ => rfl) fun _ h1 => h1
    · exact one (c := .dia) h (by rw [h]; rfl) (by omega) (fun _ => rfl) fun _ h1 => h1
theorem rawF_ok : ∀ {f : Fm}, f.good → ∀ q ∈ rawF f, okN q = true
  | .var v, h, q, hq => by
    simp only [rawF, List.mem_singleton] at hq
    subst hq
    have h : v < 6 := h
    exact okN_iff.2 ⟨by simp, by simp; omega, .inl rfl⟩
  | .fls, _, q, hq => by simp only [rawF, List.mem_singleton] at hq; subst hq; rfl
  | .and a b, h, q, hq => by
    simp only [rawF, List.mem_cons, List.mem_append] at hq
    rcases hq with rfl | hq | hq
    · rfl
    · exact rawF_ok h.1 q hq
    · exact rawF_ok h.2 q hq
  | .or a b, h, q, hq => by
    simp only [rawF, List.mem_cons, List.mem_append] at hq
    rcases hq with rfl | hq | hq
    · rfl
    · exact rawF_ok h.1 q hq
    · exact rawF_ok h.2 q hq
  | .imp a b, h, q, hq => by
    simp only [rawF, List.mem_cons, List.mem_append] at hq
    rcases hq with rfl | hq | hq
    · rfl
    · exact rawF_ok h.1 q hq
    · exact rawF_ok h.2 q hq
  | .box a, h, q, hq => by
    simp only [rawF, List.mem_cons] at hq
    rcases hq with rfl | hq
    · rfl
    · exact rawF_ok (f := a) h q hq
  | .dia a, h, q, hq => by
    simp only [rawF, List.mem_cons] at hq
    rcases hq with rfl | hq
    · rfl
    · exact rawF_ok (f := a) h q hq
/-- A formula of any length; a formula. -/
def treeN (N : List RN) : Bool := N.all okN && decide (goN N 1 = some [])
def isN (N : List RN) : Bool := decide (N.length ≤ 40) && treeN N
theorem treeN_iff {N : List RN} : treeN N = true ↔ ∃ f : Fm, f.good ∧ N = rawF f := by
  unfold treeN
  rw [Bool.and_eq_true, decide_eq_true_eq, List.all_eq_true]
  constructor
  · rintro ⟨h1, h2⟩
    obtain ⟨fs, hl, hg, hN⟩ := goN_parse N 1 [] h1 h2
    match fs, hl, hg, hN with
    | [f], _, hg, hN => exact ⟨f, hg f (by simp), by simpa using hN⟩
  · rintro ⟨f, hg, rfl⟩
    refine ⟨rawF_ok hg, ?_⟩
    have := goN_raw f [] 0
    rw [List.append_nil] at this
    rw [this]; rfl
theorem isN_iff {N : List RN} : isN N = true ↔ ∃ f : Fm, f.good ∧ f.size ≤ 40 ∧ N = rawF f := by
  unfold isN
  rw [Bool.and_eq_true, decide_eq_true_eq, treeN_iff]
  constructor
  · rintro ⟨h, f, hg, rfl⟩
    exact ⟨f, hg, by rwa [rawF_len] at h, rfl⟩
  · rintro ⟨f, hg, h, rfl⟩
    exact ⟨by rwa [rawF_len], f, hg, rfl⟩
end Go.Vc
