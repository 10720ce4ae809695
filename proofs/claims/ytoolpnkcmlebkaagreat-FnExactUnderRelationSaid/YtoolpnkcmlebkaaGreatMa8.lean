/- Plain facts on the search for morphisms: both ways to prune find the same maps in the same order. No program in sight. Conditions: none. -/
import Derived.Test.YtoolpnkcmlebkaaGreatMa1
namespace Go.Vc

/-! ### Counting -/
theorem popc_mono {a b : Nat} (h : ∀ i, a.testBit i = true → b.testBit i = true) : popc a ≤ popc b := by
  unfold popc mem memK
  rw [← List.countP_eq_length_filter, ← List.countP_eq_length_filter]
  exact List.countP_mono_left fun i _ hi => h i hi
theorem popc_zero : popc 0 = 0 := by
  unfold popc mem memK
  rw [List.filter_eq_nil_iff.2 (fun i _ => by simp)]; rfl
theorem popc_eq_zero {a : Nat} (ha : a < 2 ^ 63) (h : popc a = 0) : a = 0 := by
  apply Nat.eq_of_testBit_eq
  intro i
  rw [Nat.zero_testBit]
  have hn : mem a = [] := List.length_eq_zero_iff.1 h
  cases hi : a.testBit i with
  | false => rfl
  | true => have := (mem_mem ha).2 hi; rw [hn] at this; cases this
theorem popc_or_one (a y : Nat) (hy : y < 63) : popc (a ||| 2 ^ y) = popc a + if a.testBit y then 0 else 1 := by
  unfold popc mem
  have key : ∀ k, (memK (a ||| 2 ^ y) k).length = (memK a k).length + if y < k ∧ a.testBit y = false then 1 else 0 := by
    intro k
    induction k with
    | zero => simp [memK]
    | succ k ih =>
      rw [memK_succ, memK_succ, List.length_append, List.length_append, ih]
      rw [Nat.testBit_or, Nat.testBit_two_pow]
      by_cases hk : y = k
      · subst hk
        cases hb : a.testBit y
        · simp
        · simp
      · have h1 : (y < k + 1) = (y < k) := by rw [eq_iff_iff]; omega
        simp only [hk, decide_false, Bool.or_false, h1]
        split <;> split <;> simp <;> omega
  rw [key 63]
  cases a.testBit y <;> simp [hy]
theorem popc_setOf_le (l : List Nat) (hl : ∀ y ∈ l, y < 63) : popc (setOf l) ≤ l.length := by
  have key : ∀ (l : List Nat) (a : Nat), (∀ y ∈ l, y < 63) → popc (l.foldl (fun a y => a ||| 2 ^ y) a) ≤ popc a + l.length := by
    intro l
    induction l with
    | nil => intro a _; simp
    | cons x r ih =>
      intro a h
      rw [List.foldl_cons]
      have h1 := ih (a ||| 2 ^ x) (fun y hy => h y (by simp [hy]))
      have h2 := popc_or_one a x (h x (by simp))
      rw [List.length_cons]
      split at h2 <;> omega
  have := key l 0 hl
  rw [popc_zero] at this
  unfold setOf
  omega
theorem popc_setOf_snoc (l : List Nat) (y : Nat) (hy : y < 63) : popc (setOf (l ++ [y])) = popc (setOf l) + if y ∈ l then 0 else 1 := by
  rw [setOf_snoc, popc_or_one _ _ hy, setOf_testBit]
  simp
theorem popc_setOf_nodup : ∀ (k : Nat) (l : List Nat), l.length = k → (∀ y ∈ l, y < 63) → (popc (setOf l) = l.length ↔ l.Nodup)
  | 0, l, hk, _ => by
    have : l = [] := List.length_eq_zero_iff.1 hk
    subst this
    simp [setOf, popc_zero]
  | k + 1, l, hk, hl => by
    obtain ⟨r, y, rfl⟩ : ∃ r y, l = r ++ [y] := by
      have hne : l ≠ [] := by intro e; simp [e] at hk
      exact ⟨l.dropLast, l.getLast hne, (List.dropLast_concat_getLast hne).symm⟩
    have hr : r.length = k := by simpa using hk
    have ih := popc_setOf_nodup k r hr (fun z hz => hl z (by simp [hz]))
    have hle := popc_setOf_le r (fun z hz => hl z (by simp [hz]))
    rw [popc_setOf_snoc _ _ (hl y (by simp)), List.nodup_append]
    simp only [List.length_append, List.length_singleton]
    by_cases hy : y ∈ r
    · simp only [hy, if_true]
      constructor
      · intro h; omega
      · rintro ⟨_, _, h⟩; exact absurd rfl (h y hy y (by simp))
    · simp only [hy, if_false]
      constructor
      · intro h
        refine ⟨ih.1 (by omega), by simp, ?_⟩
        intro a ha b hb
        simp at hb
        subst hb
        rintro rfl
        exact hy ha
      · rintro ⟨h, _, _⟩
        have := ih.2 h
        omega
theorem popc_full {m a : Nat} (hm : m ≤ 62) (ha : a < 2 ^ m) : popc a ≤ m := by
  have : popc a = (memK a m).length := by
    unfold popc mem
    have := memK_high (m := a) (a := m) (fun j hj => Nat.testBit_lt_two_pow (Nat.lt_of_lt_of_le ha (Nat.pow_le_pow_right (by omega) hj))) (63 - m)
    rw [show m + (63 - m) = 63 by omega] at this
    rw [this]
  rw [this]; exact memK_length_le a m
theorem img_testBit (im : List Nat) (a j : Nat) : (img im a).testBit j = true ↔ ∃ x, x < im.length ∧ a.testBit x = true ∧ im.getD x 0 = j := by
  unfold img imgK
  rw [setOf_testBit, List.contains_iff_mem, List.mem_map]
  simp only [memK, List.mem_filter, List.mem_range]
  constructor
  · rintro ⟨x, ⟨h1, h2⟩, h3⟩; exact ⟨x, h1, h2, h3⟩
  · rintro ⟨x, h1, h2, h3⟩; exact ⟨x, ⟨h1, h2⟩, h3⟩
theorem img_lt {im : List Nat} {m : Nat} (h : ∀ y ∈ im, y < m) (a : Nat) : img im a < 2 ^ m := imgK_lt h (Nat.le_refl _)
theorem getD_take {l : List Nat} {k x : Nat} (h : x < k) : (l.take k).getD x 0 = l.getD x 0 := by
  simp [List.getD_eq_getElem?_getD, h]
theorem getD_lt {l : List Nat} {m x : Nat} (h : ∀ y ∈ l, y < m) (hx : x < l.length) : l.getD x 0 < m := by
  simp only [List.getD_eq_getElem?_getD, List.getElem?_eq_getElem hx, Option.getD_some]
  exact h _ (List.getElem_mem _)
theorem getD_mem {l : List Nat} {x : Nat} (hx : x < l.length) : l.getD x 0 ∈ l := by
  simp only [List.getD_eq_getElem?_getD, List.getElem?_eq_getElem hx, Option.getD_some]
  exact List.getElem_mem _
theorem full_testBit (n i : Nat) : (2 ^ n - 1).testBit i = decide (i < n) := Nat.testBit_two_pow_sub_one n i

/-! ### The frames and what is asked of a map -/
structure Fr where
  n : Nat
  a : List Nat
def Fr.ok (f : Fr) : Prop := f.n ≤ 8 ∧ f.a.length = f.n ∧ ∀ x ∈ f.a, x < 2 ^ f.n
theorem Fr.ok.lt {f : Fr} (h : f.ok) {x : Nat} (hx : x < f.n) : f.a.getD x 0 < 2 ^ f.n := by
  simp only [List.getD_eq_getElem?_getD, List.getElem?_eq_getElem (show x < f.a.length by rw [h.2.1]; exact hx), Option.getD_some]
  exact h.2.2 _ (List.getElem_mem _)
def fullB (f g : Fr) (onto one : Bool) (im : List Nat) : Prop :=
  (∀ x, x < f.n → img im (f.a.getD x 0) = g.a.getD (im.getD x 0) 0) ∧ (onto = true → popc (setOf im) = g.n) ∧ (one = true → im.Nodup)
/-- The reference's way to prune. -/
def mayX (f g : Fr) (one : Bool) (im : List Nat) (x : Nat) : Bool :=
  decide (sdiff (img im (f.a.getD x 0)) (g.a.getD (im.getD x 0) 0) = 0) &&
  (!decide (popc (sdiff (f.a.getD x 0) (2 ^ im.length - 1)) < popc (sdiff (g.a.getD (im.getD x 0) 0) (img im (f.a.getD x 0)))) &&
  !(one && decide (x + 1 < im.length) && decide (im.getD x 0 = im.getD (im.length - 1) 0)))
def mayB (f g : Fr) (onto one : Bool) (im : List Nat) : Bool :=
  (List.range im.length).all (mayX f g one im) && !(onto && decide (f.n + popc (img im (2 ^ im.length - 1)) < g.n + im.length))
/-- The program's way to prune. -/
def fitX (f g : Fr) (im : List Nat) (x : Nat) : Bool :=
  if sdiff (f.a.getD x 0) (2 ^ im.length - 1) = 0 then decide (img im (f.a.getD x 0) = g.a.getD (im.getD x 0) 0)
  else decide (sdiff (img im (f.a.getD x 0)) (g.a.getD (im.getD x 0) 0) = 0)
def fitsB (f g : Fr) (onto one : Bool) (im : List Nat) : Bool :=
  (List.range im.length).all (fitX f g im) && ((!onto || decide (g.n + im.length ≤ f.n + popc (setOf im))) && (!one || decide (popc (setOf im) = im.length)))

theorem sdiff_eq_zero {a b : Nat} : sdiff a b = 0 ↔ ∀ i, a.testBit i = true → b.testBit i = true := by
  constructor
  · intro h i hi
    have := testBit_sdiff a b i
    rw [h, hi] at this
    simpa using this.symm
  · intro h
    apply Nat.eq_of_testBit_eq
    intro i
    rw [testBit_sdiff]
    cases ha : a.testBit i
    · simp
    · simp [h i ha]
theorem eq_of_sdiff {a b : Nat} (h1 : sdiff a b = 0) (h2 : sdiff b a = 0) : a = b := by
  apply Nat.eq_of_testBit_eq
  intro i
  have := sdiff_eq_zero.1 h1 i
  have := sdiff_eq_zero.1 h2 i
  cases ha : a.testBit i <;> cases hb : b.testBit i <;> simp_all

section
variable {f g : Fr} {onto one : Bool} {im : List Nat}

theorem img_full (im : List Nat) : img im (2 ^ im.length - 1) = setOf im := by
  apply Nat.eq_of_testBit_eq
  intro j
  rw [Bool.eq_iff_iff, img_testBit, setOf_testBit, List.contains_iff_mem]
  constructor
  · rintro ⟨x, h1, _, rfl⟩; exact getD_mem h1
  · intro h
    obtain ⟨x, hx, rfl⟩ := List.getElem_of_mem h
    exact ⟨x, hx, by rw [full_testBit]; simpa using hx, by simp [hx]⟩
theorem img_take_sub (k a j : Nat) (h : (img (im.take k) a).testBit j = true) : (img im a).testBit j = true := by
  obtain ⟨x, h1, h2, h3⟩ := (img_testBit _ _ _).1 h
  rw [List.length_take] at h1
  exact (img_testBit _ _ _).2 ⟨x, by omega, h2, by rw [← h3, getD_take (by omega)]⟩
theorem full_may (hf : f.ok) (hg : g.ok) (hl : im.length = f.n) (hm : ∀ y ∈ im, y < g.n) (h : fullB f g onto one im) (k : Nat) (hk : k ≤ f.n) : mayB f g onto one (im.take k) = true := by
  obtain ⟨h1, h2, h3⟩ := h
  have hkl : (im.take k).length = k := by rw [List.length_take]; omega
  have hg8 := hg.1
  simp only [mayB, Bool.and_eq_true, List.all_eq_true, List.mem_range, hkl]
  refine ⟨fun x hx => ?_, ?_⟩
  · have hx' : x < f.n := by omega
    have e := h1 x hx'
    simp only [mayX, Bool.and_eq_true, decide_eq_true_eq, hkl, getD_take hx]
    refine ⟨?_, ?_, ?_⟩
    · rw [sdiff_eq_zero, ← e]
      exact fun i hi => img_take_sub k _ i hi
    · rw [Bool.not_eq_true', decide_eq_false_iff_not, Nat.not_lt, ← e]
      -- what is not seen yet is an image of something that is open
      have hlt : ∀ y ∈ mem (sdiff (f.a.getD x 0) (2 ^ k - 1)), y < im.length := by
        intro y hy
        have hb := (mem_mem (Nat.lt_of_lt_of_le (sdiff_lt (hf.lt hx')) (Nat.pow_le_pow_right (by omega) (by have := hf.1; omega)))).1 hy
        rw [testBit_sdiff] at hb
        rcases Nat.lt_or_ge y im.length with h | h
        · exact h
        · rw [Nat.testBit_lt_two_pow (Nat.lt_of_lt_of_le (hf.lt hx') (Nat.pow_le_pow_right (by omega) (by omega)))] at hb
          simp at hb
      refine Nat.le_trans (popc_mono (b := setOf ((mem (sdiff (f.a.getD x 0) (2 ^ k - 1))).map fun y => im.getD y 0)) ?_) (Nat.le_trans (popc_setOf_le _ ?_) (by simp [popc]))
      · intro i hi
        rw [testBit_sdiff, Bool.and_eq_true, Bool.not_eq_true'] at hi
        obtain ⟨y, g1, g2, g3⟩ := (img_testBit _ _ _).1 hi.1
        rw [setOf_testBit, List.contains_iff_mem, List.mem_map]
        refine ⟨y, ?_, g3⟩
        rw [mem_mem (Nat.lt_of_lt_of_le (sdiff_lt (hf.lt hx')) (Nat.pow_le_pow_right (by omega) (by have := hf.1; omega))), testBit_sdiff, g2, full_testBit]
        by_cases hy : y < k
        · exfalso
          have : (img (im.take k) (f.a.getD x 0)).testBit i = true := (img_testBit _ _ _).2 ⟨y, by omega, g2, by rw [getD_take hy]; exact g3⟩
          rw [this] at hi; cases hi.2
        · simp [hy]
      · intro y hy
        obtain ⟨z, hz, rfl⟩ := List.mem_map.1 hy
        have := getD_lt hm (hlt z hz)
        omega
    · rw [Bool.not_eq_true', Bool.and_eq_false_iff, Bool.and_eq_false_iff]
      cases ho : one
      · exact .inl (.inl rfl)
      · by_cases hx1 : x + 1 < k
        · right
          rw [decide_eq_false_iff_not, getD_take (by omega)]
          intro he
          have hn := h3 ho
          have hxl : x < im.length := by omega
          have hkl' : k - 1 < im.length := by omega
          simp only [List.getD_eq_getElem?_getD, List.getElem?_eq_getElem hxl, List.getElem?_eq_getElem hkl', Option.getD_some] at he
          exact List.pairwise_iff_getElem.1 hn x (k - 1) hxl hkl' (by omega) he
        · exact .inl (.inr (by simpa using hx1))
  · rw [Bool.not_eq_true', Bool.and_eq_false_iff]
    cases ho : onto
    · exact .inl rfl
    · right
      rw [decide_eq_false_iff_not, Nat.not_lt]
      have hfull := h2 ho
      have e : img (im.take k) (2 ^ k - 1) = setOf (im.take k) := by
        have := img_full (im.take k)
        rwa [hkl] at this
      rw [e]
      -- all members are images of the first k or of the rest
      have key : ∀ (r l : List Nat), (∀ y ∈ r, y < 63) → popc (setOf (l ++ r)) ≤ popc (setOf l) + r.length := by
        intro r
        induction r with
        | nil => intro l _; simp
        | cons y r ih =>
          intro l hr
          have h1 := ih (l ++ [y]) (fun z hz => hr z (by simp [hz]))
          rw [List.append_assoc, List.singleton_append] at h1
          have h2 := popc_setOf_snoc l y (hr y (by simp))
          rw [List.length_cons]
          split at h2 <;> omega
      have := key (im.drop k) (im.take k) (fun y hy => by have := hm y (List.mem_of_mem_drop hy); omega)
      rw [List.take_append_drop, hfull, List.length_drop] at this
      omega
theorem may_full (hf : f.ok) (hg : g.ok) (hl : im.length = f.n) (hm : ∀ y ∈ im, y < g.n) (hall : ∀ k, 0 < k → k ≤ f.n → mayB f g onto one (im.take k) = true) (h0 : f.n = 0 → onto = true → g.n = 0) : fullB f g onto one im := by
  have hg8 := hg.1
  have hf8 := hf.1
  by_cases hn : f.n = 0
  · have : im = [] := List.length_eq_zero_iff.1 (by omega)
    subst this
    refine ⟨fun x hx => by omega, fun ho => ?_, fun _ => List.nodup_nil⟩
    rw [h0 hn ho]
    show popc 0 = 0
    exact popc_zero
  have hlast := hall f.n (by omega) (Nat.le_refl _)
  rw [List.take_of_length_le (by omega)] at hlast
  simp only [mayB, Bool.and_eq_true, List.all_eq_true, List.mem_range, hl] at hlast
  refine ⟨fun x hx => ?_, fun ho => ?_, fun ho => ?_⟩
  · have h1 := hlast.1 x hx
    simp only [mayX, Bool.and_eq_true, decide_eq_true_eq, hl] at h1
    obtain ⟨h1, h2, _⟩ := h1
    rw [Bool.not_eq_true', decide_eq_false_iff_not, Nat.not_lt] at h2
    refine eq_of_sdiff h1 ?_
    have h3 : sdiff (f.a.getD x 0) (2 ^ f.n - 1) = 0 := by
      rw [sdiff_eq_zero]
      intro i hi
      rw [full_testBit]
      rcases Nat.lt_or_ge i f.n with h | h
      · simpa using h
      · rw [Nat.testBit_lt_two_pow (Nat.lt_of_lt_of_le (hf.lt hx) (Nat.pow_le_pow_right (by omega) h))] at hi; cases hi
    rw [h3, popc_zero] at h2
    refine popc_eq_zero ?_ (by omega)
    have h4 : im.getD x 0 < g.n := getD_lt hm (by omega)
    exact Nat.lt_of_lt_of_le (sdiff_lt (hg.lt h4)) (Nat.pow_le_pow_right (by omega) (by omega))
  · have h2 := hlast.2
    rw [ho, Bool.true_and, Bool.not_eq_true', decide_eq_false_iff_not, Nat.not_lt] at h2
    have e := img_full im
    rw [hl] at e
    rw [e] at h2
    have := popc_full (m := g.n) (by omega) (setOf_lt hm)
    omega
  · rw [List.Nodup, List.pairwise_iff_getElem]
    intro i j hi hj hij he
    have h1 := hall (j + 1) (by omega) (by omega)
    have hkl : (im.take (j + 1)).length = j + 1 := by rw [List.length_take]; omega
    simp only [mayB, Bool.and_eq_true, List.all_eq_true, List.mem_range, hkl] at h1
    have h2 := h1.1 i (by omega)
    simp only [mayX, Bool.and_eq_true, hkl] at h2
    have h3 := h2.2.2
    rw [Bool.not_eq_true', ho, Bool.true_and, Bool.and_eq_false_iff, decide_eq_false_iff_not, decide_eq_false_iff_not] at h3
    rcases h3 with h3 | h3
    · omega
    · apply h3
      rw [getD_take (by omega), getD_take (by omega)]
      simp only [Nat.add_sub_cancel, List.getD_eq_getElem?_getD, List.getElem?_eq_getElem hi, List.getElem?_eq_getElem hj, Option.getD_some]
      exact he
theorem full_fits (hf : f.ok) (hg : g.ok) (hl : im.length = f.n) (hm : ∀ y ∈ im, y < g.n) (h : fullB f g onto one im) (k : Nat) (hk : k ≤ f.n) : fitsB f g onto one (im.take k) = true := by
  have hmay := full_may hf hg hl hm h k hk
  obtain ⟨h1, h2, h3⟩ := h
  have hkl : (im.take k).length = k := by rw [List.length_take]; omega
  simp only [mayB, Bool.and_eq_true, List.all_eq_true, List.mem_range, hkl] at hmay
  simp only [fitsB, Bool.and_eq_true, List.all_eq_true, List.mem_range, hkl]
  refine ⟨fun x hx => ?_, ?_, ?_⟩
  · have hx' : x < f.n := by omega
    have e := h1 x hx'
    unfold fitX
    rw [hkl, getD_take hx]
    split
    · rename_i h0
      rw [decide_eq_true_eq, ← e]
      apply Nat.eq_of_testBit_eq
      intro j
      rw [Bool.eq_iff_iff]
      refine ⟨img_take_sub k _ j, fun hj => ?_⟩
      obtain ⟨y, g1, g2, g3⟩ := (img_testBit _ _ _).1 hj
      have hy := sdiff_eq_zero.1 h0 y g2
      rw [full_testBit, decide_eq_true_eq] at hy
      exact (img_testBit _ _ _).2 ⟨y, by omega, g2, by rw [getD_take hy]; exact g3⟩
    · rw [decide_eq_true_eq, sdiff_eq_zero, ← e]
      exact fun i hi => img_take_sub k _ i hi
  · cases ho : onto
    · rfl
    · have := hmay.2
      rw [ho, Bool.true_and, Bool.not_eq_true', decide_eq_false_iff_not, Nat.not_lt] at this
      have e : img (im.take k) (2 ^ k - 1) = setOf (im.take k) := by
        have := img_full (im.take k)
        rwa [hkl] at this
      rw [e] at this
      simpa using this
  · cases ho : one
    · rfl
    · have hn : (im.take k).Nodup := (h3 ho).sublist (List.take_sublist _ _)
      have := (popc_setOf_nodup k (im.take k) hkl (fun y hy => by have := hm y (List.mem_of_mem_take hy); have := hg.1; omega)).2 hn
      rw [hkl] at this
      simpa using this
theorem fits_full (hf : f.ok) (hg : g.ok) (hl : im.length = f.n) (hm : ∀ y ∈ im, y < g.n) (h : fitsB f g onto one im = true) : fullB f g onto one im := by
  simp only [fitsB, Bool.and_eq_true, List.all_eq_true, List.mem_range, hl] at h
  obtain ⟨h1, h2, h3⟩ := h
  refine ⟨fun x hx => ?_, fun ho => ?_, fun ho => ?_⟩
  · have e := h1 x hx
    unfold fitX at e
    have h0 : sdiff (f.a.getD x 0) (2 ^ im.length - 1) = 0 := by
      rw [sdiff_eq_zero, hl]
      intro i hi
      rw [full_testBit]
      rcases Nat.lt_or_ge i f.n with h | h
      · simpa using h
      · rw [Nat.testBit_lt_two_pow (Nat.lt_of_lt_of_le (hf.lt hx) (Nat.pow_le_pow_right (by omega) h))] at hi; cases hi
    rw [if_pos h0] at e
    simpa using e
  · rw [ho] at h2
    simp at h2
    have := popc_full (m := g.n) (by have := hg.1; omega) (setOf_lt hm)
    omega
  · rw [ho] at h3
    simp at h3
    exact (popc_setOf_nodup _ im rfl (fun y hy => by have := hm y hy; have := hg.1; omega)).1 (by omega)
end

/-! ### The search -/
/-- All lists that go on from 'im' by d numbers below m, in ascending order. -/
def exts (m : Nat) : Nat → List Nat → List (List Nat)
  | 0, im => [im]
  | d + 1, im => (List.range m).flatMap fun y => exts m d (im ++ [y])
/-- The same with pruning: each new prefix must be ok. -/
def dfs (ok : List Nat → Bool) (m : Nat) : Nat → List Nat → List (List Nat)
  | 0, im => [im]
  | d + 1, im => (List.range m).flatMap fun y => if ok (im ++ [y]) then dfs ok m d (im ++ [y]) else []
theorem exts_spec (m : Nat) : ∀ (d : Nat) (im l : List Nat), l ∈ exts m d im → l.length = im.length + d ∧ l.take im.length = im ∧ ∀ y ∈ l.drop im.length, y < m
  | 0, im, l, h => by simp [exts] at h; subst h; simp
  | d + 1, im, l, h => by
    simp only [exts, List.mem_flatMap, List.mem_range] at h
    obtain ⟨y, hy, h⟩ := h
    obtain ⟨h1, h2, h3⟩ := exts_spec m d _ l h
    rw [List.length_append, List.length_singleton] at h1 h2 h3
    refine ⟨by omega, ?_, ?_⟩
    · have := congrArg (List.take im.length) h2
      rw [List.take_take, Nat.min_eq_left (by omega), List.take_left] at this
      exact this
    · intro z hz
      have hlt : im.length < l.length := by omega
      rw [List.drop_eq_getElem_cons hlt] at hz
      rcases List.mem_cons.1 hz with rfl | hz
      · have := congrArg (fun t => t[im.length]?) h2
        simp [hlt] at this
        omega
      · exact h3 z hz
theorem dfs_eq (ok : List Nat → Bool) (m : Nat) : ∀ (d : Nat) (im : List Nat), dfs ok m d im = (exts m d im).filter fun l => (List.range d).all fun j => ok (l.take (im.length + j + 1))
  | 0, im => by simp [dfs, exts]
  | d + 1, im => by
    simp only [dfs, exts, List.filter_flatMap]
    congr 1
    funext y
    have hmem : ∀ l ∈ exts m d (im ++ [y]), l.take (im.length + 1) = im ++ [y] := fun l hl => by
      have := (exts_spec m d _ l hl).2.1
      simpa using this
    have hp : ∀ l ∈ exts m d (im ++ [y]), ((List.range (d + 1)).all fun j => ok (l.take (im.length + j + 1))) = (ok (im ++ [y]) && (List.range d).all fun j => ok (l.take ((im ++ [y]).length + j + 1))) := by
      intro l hl
      rw [List.range_succ_eq_map, List.all_cons, List.all_map]
      congr 1
      · rw [Nat.add_zero, hmem l hl]
      · congr 1
        funext j
        simp only [Function.comp, List.length_append, List.length_singleton]
        congr 2; omega
    rw [List.filter_congr hp]
    cases ho : ok (im ++ [y])
    · simp
    · simp [dfs_eq ok m d (im ++ [y])]
/-- Both ways to prune find the same. -/
theorem dfs_same {f g : Fr} (hf : f.ok) (hg : g.ok) (onto one : Bool) (h0 : onto = true → g.n ≤ f.n) :
    dfs (mayB f g onto one) g.n f.n [] = if fitsB f g onto one [] then dfs (fitsB f g onto one) g.n f.n [] else [] := by
  have key : ∀ l ∈ exts g.n f.n [], ((List.range f.n).all fun j => mayB f g onto one (l.take (([] : List Nat).length + j + 1))) = (fitsB f g onto one [] && (List.range f.n).all fun j => fitsB f g onto one (l.take (([] : List Nat).length + j + 1))) := by
    intro l hl
    obtain ⟨h1, _, h3⟩ := exts_spec _ _ _ _ hl
    simp only [List.length_nil, Nat.zero_add, List.drop_zero] at h1 h3
    rw [Bool.eq_iff_iff, Bool.and_eq_true]
    simp only [List.all_eq_true, List.mem_range, List.length_nil, Nat.zero_add]
    constructor
    · intro h
      have hfull := may_full (onto := onto) (one := one) hf hg h1 h3 (fun k hk0 hk => by have := h (k - 1) (by omega); rwa [show k - 1 + 1 = k by omega] at this) (fun hn ho => by have := h0 ho; omega)
      refine ⟨by have := full_fits hf hg h1 h3 hfull 0 (by omega); simpa using this, fun j hj => full_fits hf hg h1 h3 hfull (j + 1) (by omega)⟩
    · rintro ⟨hnil, h⟩ j hj
      have hfit : fitsB f g onto one l = true := by
        by_cases hn : f.n = 0
        · omega
        · have := h (f.n - 1) (by omega)
          rwa [show f.n - 1 + 1 = f.n by omega, List.take_of_length_le (by omega)] at this
      exact full_may hf hg h1 h3 (fits_full hf hg h1 h3 hfit) (j + 1) (by omega)
  rw [dfs_eq, List.filter_congr key]
  cases fitsB f g onto one []
  · simp
  · simp [dfs_eq]
/-- If there are too few worlds nothing is found. -/
theorem dfs_none {f g : Fr} (hf : f.ok) (hg : g.ok) (onto one : Bool) (h0 : onto = true ∧ f.n < g.n ∨ onto = true ∧ one = true ∧ f.n ≠ g.n) :
    (if fitsB f g onto one [] then dfs (fitsB f g onto one) g.n f.n [] else []) = [] := by
  split
  · rename_i hnil
    rw [dfs_eq, List.filter_eq_nil_iff]
    intro l hl h
    obtain ⟨h1, _, h3⟩ := exts_spec _ _ _ _ hl
    simp only [List.length_nil, Nat.zero_add, List.drop_zero] at h1 h3
    simp only [List.all_eq_true, List.mem_range, List.length_nil, Nat.zero_add] at h
    have hfit : fitsB f g onto one l = true := by
      by_cases hn : f.n = 0
      · have : l = [] := List.length_eq_zero_iff.1 (by omega)
        rw [this]; exact hnil
      · have := h (f.n - 1) (by omega)
        rwa [show f.n - 1 + 1 = f.n by omega, List.take_of_length_le (by omega)] at this
    obtain ⟨_, g2, g3⟩ := fits_full hf hg h1 h3 hfit
    have hle := popc_setOf_le l (fun y hy => by have := h3 y hy; have := hg.1; omega)
    rcases h0 with ⟨ho, hlt⟩ | ⟨ho, hi, hne⟩
    · have := g2 ho; omega
    · have e1 := g2 ho
      have e2 := (popc_setOf_nodup _ l rfl (fun y hy => by have := h3 y hy; have := hg.1; omega)).2 (g3 hi)
      omega
  · rfl
end Go.Vc
