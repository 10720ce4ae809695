/- Plain facts: the properties of frames, and that isomorphic frames have the same. No program in sight. Conditions: none. -/
import Derived.Test.YtgbnmihpjlbfgaaC19
namespace Go.Vc
theorem wRow_get (c : List Nat) (k x : Nat) : ∀ j, j ≤ c.length → (wRow c k j).getD x 0 = if x < j ∧ (c.getD x 0).testBit k = true then c.getD x 0 ||| c.getD k 0 else c.getD x 0
  | 0, _ => by rw [if_neg (by omega)]; rfl
  | j + 1, hj => by
    have ih := fun x => wRow_get c k x j (by omega)
    rw [wRow_succ, wStep_get k _ j x (by rw [wRow_length]; omega)]
    have hj1 : (wRow c k j).getD j 0 = c.getD j 0 := by
      have := wRow_get c k j j (by omega)
      rwa [if_neg (by omega)] at this
    have hk1 : (wRow c k j).getD k 0 = c.getD k 0 := by
      have := wRow_get c k k j (by omega)
      rw [this]; split
      · exact Nat.or_self _
      · rfl
    rw [hj1, hk1, wRow_get c k x j (by omega)]
    by_cases hx : x = j
    · subst hx
      by_cases hb : (c.getD x 0).testBit k = true
      · rw [if_pos ⟨rfl, hb⟩, if_pos ⟨by omega, hb⟩]
      · rw [if_neg (fun h => hb h.2), if_neg (by omega), if_neg (fun h => hb h.2)]
    · rw [if_neg (fun h => hx h.1)]
      by_cases hb : x < j ∧ (c.getD x 0).testBit k = true
      · rw [if_pos hb, if_pos ⟨by omega, hb.2⟩]
      · rw [if_neg hb, if_neg (fun h => hb ⟨by omega, h.2⟩)]
inductive Pth (R : Nat → Nat → Prop) : Nat → Nat → Prop
  | one {x y : Nat} (h : R x y) : Pth R x y
  | more {x y z : Nat} (h : R x y) (t : Pth R y z) : Pth R x z
theorem Pth.trans {R : Nat → Nat → Prop} {x y z : Nat} (h : Pth R x y) (k : Pth R y z) : Pth R x z := by
  induction h with
  | one h => exact .more h k
  | more h _ ih => exact .more h (ih k)
theorem wAll_bit {a : List Nat} (ha : ∀ x y, (a.getD x 0).testBit y = true → x < a.length ∧ y < a.length) (x y : Nat) : ((wAll a a.length).getD x 0).testBit y = true ↔ Pth (fun x y => (a.getD x 0).testBit y = true) x y := by
  have hget : ∀ k x y, ((wAll a (k + 1)).getD x 0).testBit y = true ↔ ((wAll a k).getD x 0).testBit y = true ∨ (x < a.length ∧ ((wAll a k).getD x 0).testBit k = true ∧ ((wAll a k).getD k 0).testBit y = true) := by
    intro k x y
    rw [wAll_succ, wRow_get _ _ _ _ (Nat.le_refl _), wAll_length]
    split
    · rename_i h
      rw [Nat.testBit_or, Bool.or_eq_true]
      constructor
      · exact fun h' => h'.imp id fun h' => ⟨h.1, h.2, h'⟩
      · exact fun h' => h'.imp id fun h' => h'.2.2
    · rename_i h
      exact ⟨.inl, fun h' => h'.elim id fun h' => absurd ⟨h'.1, h'.2.1⟩ h⟩
  constructor
  · have : ∀ k x y, ((wAll a k).getD x 0).testBit y = true → Pth (fun x y => (a.getD x 0).testBit y = true) x y := by
      intro k
      induction k with
      | zero => exact fun x y h => .one h
      | succ k ih =>
        intro x y h
        rcases (hget k x y).1 h with h | ⟨_, h1, h2⟩
        · exact ih x y h
        · exact (ih x k h1).trans (ih k y h2)
    exact this _ x y
  · have hlt : ∀ k x y, ((wAll a k).getD x 0).testBit y = true → x < a.length := by
      intro k x y h
      rcases Nat.lt_or_ge x a.length with h' | h'
      · exact h'
      · rw [List.getD_eq_getElem?_getD, List.getElem?_eq_none (by rw [wAll_length]; exact h')] at h
        simp at h
    have key : ∀ k x i y, i < k → ((wAll a k).getD x 0).testBit i = true → ((wAll a k).getD i 0).testBit y = true → ((wAll a k).getD x 0).testBit y = true := by
      intro k
      induction k with
      | zero => intro x i y h; omega
      | succ k ih =>
        intro x i y hi h1 h2
        have hx := hlt _ _ _ h1
        have hxi := hlt _ _ _ h2
        rw [hget] at h1 h2 ⊢
        rcases Nat.lt_or_ge i k with hik | hik
        · rcases h1 with h1 | ⟨_, h1, h1'⟩ <;> rcases h2 with h2 | ⟨_, h2, h2'⟩
          · exact .inl (ih x i y hik h1 h2)
          · exact .inr ⟨hx, ih x i k hik h1 h2, h2'⟩
          · exact .inr ⟨hx, h1, ih k i y hik h1' h2⟩
          · exact .inr ⟨hx, h1, h2'⟩
        · obtain rfl : i = k := by omega
          have h1' : ((wAll a i).getD x 0).testBit i = true := h1.elim id fun h => h.2.1
          have h2' : ((wAll a i).getD i 0).testBit y = true := h2.elim id fun h => h.2.2
          exact .inr ⟨hx, h1', h2'⟩
    intro h
    induction h with
    | one h => exact wAll_sub a _ _ _ h
    | @more x y z h t ih => exact key _ x y z (ha x y h).2 (wAll_sub a _ _ _ h) ih
theorem wAll_lt63 {f : Fr} (hf : f.ok) (x : Nat) : (wAll f.a f.n).getD x 0 < 2 ^ 63 := by
  have h8 : (wAll f.a f.n).getD x 0 < 2 ^ 8 := by
    refine Nat.lt_pow_two_of_testBit _ fun i hi => ?_
    rw [Bool.eq_false_iff]
    intro h
    have := wAll_bit (a := f.a) (fun x y h => by have := fr_bit_lt hf h; have := hf.2.1; omega) x i
    rw [hf.2.1] at this
    have hp := this.1 h
    have hlt : ∀ x y, Pth (fun x y => (f.a.getD x 0).testBit y = true) x y → y < f.n := fun x y hp => by
      induction hp with
      | one h => exact (fr_bit_lt hf h).2
      | more _ _ ih => exact ih
    have := hlt _ _ hp
    have := hf.1
    omega
  omega
/-- What 'everyPair' answers. -/
def prB (f : Fr) (p : Nat → Nat → Nat → Bool) : Bool := (List.range f.n).all fun x => (mem (f.a.getD x 0)).all fun y => (mem (f.a.getD x 0)).all fun z => p x y z
/-- The properties, by their numbers. -/
def flagI (t : Nat) (f : Fr) : Bool :=
  match t with
  | 0 => (List.range f.n).all fun x => (f.a.getD x 0).testBit x
  | 1 => (List.range f.n).all fun x => decide (f.a.getD x 0 ≠ 0)
  | 2 => decide (wAll f.a f.n = f.a)
  | 3 => decide (inv f = f.a)
  | 4 => prB f fun _ y z => (f.a.getD y 0).testBit z
  | 5 => prB f fun _ y z => decide (f.a.getD y 0 &&& f.a.getD z 0 ≠ 0)
  | 6 => prB f fun _ y z => (f.a.getD y 0).testBit z || (f.a.getD z 0).testBit y
  | 7 => (List.range f.n).all fun x => !((wAll f.a f.n).getD x 0).testBit x
  | 8 => (List.range f.n).all fun x => decide (sdiff (f.a.getD x 0 &&& invC f.a f.n x) (2 ^ x) = 0)
  | 9 => prB f fun x y _ => decide (f.a.getD x 0 &&& invC f.a f.n y ≠ 0)
  | _ => (List.range f.n).all fun x => decide (popc (f.a.getD x 0) ≤ 1)
def Fr.R (f : Fr) (x y : Nat) : Prop := (f.a.getD x 0).testBit y = true
def flagP (n : Nat) (R : Nat → Nat → Prop) (t : Nat) : Prop :=
  match t with
  | 0 => ∀ x, x < n → R x x
  | 1 => ∀ x, x < n → ∃ y, y < n ∧ R x y
  | 2 => ∀ x y z, x < n → y < n → z < n → R x y → R y z → R x z
  | 3 => ∀ x y, x < n → y < n → R x y → R y x
  | 4 => ∀ x y z, x < n → y < n → z < n → R x y → R x z → R y z
  | 5 => ∀ x y z, x < n → y < n → z < n → R x y → R x z → ∃ u, u < n ∧ R y u ∧ R z u
  | 6 => ∀ x y z, x < n → y < n → z < n → R x y → R x z → R y z ∨ R z y
  | 7 => ∀ x, x < n → ¬ Pth R x x
  | 8 => ∀ x y, x < n → y < n → R x y → R y x → x = y
  | 9 => ∀ x y, x < n → y < n → R x y → ∃ u, u < n ∧ R x u ∧ R u y
  | _ => ∀ x y z, x < n → y < n → z < n → R x y → R x z → y = z
theorem ne_zero_iff {a : Nat} : a ≠ 0 ↔ ∃ i, a.testBit i = true := by
  constructor
  · intro h
    exact Classical.byContradiction fun hn => h (Nat.eq_of_testBit_eq fun i => by
      rw [Nat.zero_testBit, Bool.eq_false_iff]
      exact fun hi => hn ⟨i, hi⟩)
  · rintro ⟨i, h⟩ rfl
    rw [Nat.zero_testBit] at h; cases h
theorem popc_le_one {a : Nat} (ha : a < 2 ^ 63) : popc a ≤ 1 ↔ ∀ y z, a.testBit y = true → a.testBit z = true → y = z := by
  unfold popc
  constructor
  · intro h y z hy hz
    have hy' := (mem_mem ha).2 hy
    have hz' := (mem_mem ha).2 hz
    obtain ⟨i, hi, rfl⟩ := List.getElem_of_mem hy'
    obtain ⟨j, hj, rfl⟩ := List.getElem_of_mem hz'
    have : i = j := by omega
    subst this; rfl
  · intro h
    apply Nat.le_of_not_lt
    intro hl
    have hn : (mem a).Nodup := by
      unfold mem memK
      exact List.Nodup.sublist List.filter_sublist List.nodup_range
    have h0 : (mem a)[0] = (mem a)[1] := h _ _ ((mem_mem ha).1 (List.getElem_mem _)) ((mem_mem ha).1 (List.getElem_mem _))
    have := (List.nodup_iff_pairwise_ne.1 hn)
    rw [List.pairwise_iff_getElem] at this
    exact this 0 1 (by omega) hl (by omega) h0
theorem prB_iff {f : Fr} (hf : f.ok) {p : Nat → Nat → Nat → Bool} : prB f p = true ↔ ∀ x y z, x < f.n → y < f.n → z < f.n → f.R x y → f.R x z → p x y z = true := by
  unfold prB Fr.R
  simp only [List.all_eq_true, List.mem_range]
  constructor
  · intro h x y z hx _ _ hy hz
    have := fr_lt63 hf x
    exact h x hx y ((mem_mem (by omega)).2 hy) z ((mem_mem (by omega)).2 hz)
  · intro h x hx y hy z hz
    have := fr_lt63 hf x
    have hy := (mem_mem (by omega)).1 hy
    have hz := (mem_mem (by omega)).1 hz
    exact h x y z hx (fr_bit_lt hf hy).2 (fr_bit_lt hf hz).2 hy hz
theorem list_eq_iff {a b : List Nat} {n : Nat} (ha : a.length = n) (hb : b.length = n) : a = b ↔ ∀ x, x < n → ∀ y, (a.getD x 0).testBit y = (b.getD x 0).testBit y := by
  constructor
  · rintro rfl; intros; rfl
  · intro h
    apply List.ext_getElem
    · omega
    · intro i h1 h2
      apply Nat.eq_of_testBit_eq
      intro y
      have := h i (by omega) y
      simpa [List.getD_eq_getElem?_getD, h1, h2] using this
theorem flagI_iff {f : Fr} (hf : f.ok) (t : Nat) : flagI t f = true ↔ flagP f.n f.R t := by
  have hlt : ∀ {x y}, f.R x y → x < f.n ∧ y < f.n := fun h => fr_bit_lt hf h
  have hfl := hf.2.1
  have hw : ∀ x y, ((wAll f.a f.n).getD x 0).testBit y = true ↔ Pth f.R x y := fun x y => by
    have := wAll_bit (a := f.a) (fun x y h => by have := hlt h; omega) x y
    rw [hfl] at this; exact this
  have hinv : ∀ x y, (invC f.a f.n y).testBit x = true ↔ f.R x y := fun x y => by
    rw [invC_bit, Bool.and_eq_true, decide_eq_true_eq]
    exact ⟨fun h => h.2, fun h => ⟨(hlt h).1, h⟩⟩
  match t with
  | 0 => simp [flagI, flagP, Fr.R]
  | 1 =>
    simp only [flagI, flagP, List.all_eq_true, List.mem_range, decide_eq_true_eq]
    exact forall_congr' fun x => imp_congr_right fun hx => by
      rw [ne_zero_iff]
      exact ⟨fun ⟨y, h⟩ => ⟨y, (hlt h).2, h⟩, fun ⟨y, _, h⟩ => ⟨y, h⟩⟩
  | 2 =>
    simp only [flagI, flagP, decide_eq_true_eq]
    constructor
    · intro h x y z _ _ _ h1 h2
      have := (hw x z).2 (.more h1 (.one h2))
      rw [h] at this; exact this
    · intro h
      exact wAll_same (fun x y z h1 h2 => h x y z (hlt h1).1 (hlt h1).2 (hlt h2).2 h1 h2) _
  | 3 =>
    simp only [flagI, flagP, decide_eq_true_eq]
    have hil : (inv f).length = f.n := by simp [inv]
    rw [list_eq_iff hil hfl]
    constructor
    · intro h x y hx hy h1
      have := h y hy x
      rw [inv_get f y hy, Bool.eq_iff_iff, hinv] at this
      exact this.1 h1
    · intro h x hx y
      rw [inv_get f x hx, Bool.eq_iff_iff, hinv]
      exact ⟨fun h1 => h y x (hlt h1).1 (hlt h1).2 h1, fun h1 => h x y (hlt h1).1 (hlt h1).2 h1⟩
  | 4 => simp only [flagI, flagP]; exact prB_iff hf
  | 5 =>
    simp only [flagI, flagP]
    rw [prB_iff hf]
    refine forall_congr' fun x => forall_congr' fun y => forall_congr' fun z => imp_congr_right fun _ => imp_congr_right fun _ => imp_congr_right fun _ => imp_congr_right fun _ => imp_congr_right fun _ => ?_
    rw [decide_eq_true_eq, ne_zero_iff]
    constructor
    · rintro ⟨u, h⟩
      rw [Nat.testBit_and, Bool.and_eq_true] at h
      exact ⟨u, (hlt h.1).2, h⟩
    · rintro ⟨u, _, h1, h2⟩
      refine ⟨u, ?_⟩
      rw [Nat.testBit_and, Bool.and_eq_true]; exact ⟨h1, h2⟩
  | 6 =>
    simp only [flagI, flagP]
    rw [prB_iff hf]
    refine forall_congr' fun x => forall_congr' fun y => forall_congr' fun z => imp_congr_right fun _ => imp_congr_right fun _ => imp_congr_right fun _ => imp_congr_right fun _ => imp_congr_right fun _ => ?_
    rw [Bool.or_eq_true]; rfl
  | 7 =>
    simp only [flagI, flagP, List.all_eq_true, List.mem_range, Bool.not_eq_true']
    exact forall_congr' fun x => imp_congr_right fun hx => by rw [← hw, Bool.not_eq_true]
  | 8 =>
    simp only [flagI, flagP, List.all_eq_true, List.mem_range, decide_eq_true_eq]
    constructor
    · intro h x y hx _ h1 h2
      have := sdiff_eq_zero.1 (h x hx) y (by rw [Nat.testBit_and, Bool.and_eq_true]; exact ⟨h1, (hinv y x).2 h2⟩)
      rw [Nat.testBit_two_pow, decide_eq_true_eq] at this
      exact this
    · intro h x hx
      rw [sdiff_eq_zero]
      intro y hy
      rw [Nat.testBit_and, Bool.and_eq_true, hinv] at hy
      rw [Nat.testBit_two_pow, decide_eq_true_eq]
      exact h x y hx (hlt hy.1).2 hy.1 hy.2
  | 9 =>
    simp only [flagI, flagP]
    rw [prB_iff hf]
    constructor
    · intro h x y hx hy h1
      have := h x y y hx hy hy h1 h1
      rw [decide_eq_true_eq, ne_zero_iff] at this
      obtain ⟨u, h2⟩ := this
      rw [Nat.testBit_and, Bool.and_eq_true, hinv] at h2
      exact ⟨u, (hlt h2.1).2, h2⟩
    · intro h x y z hx hy _ h1 _
      obtain ⟨u, _, h2, h3⟩ := h x y hx hy h1
      rw [decide_eq_true_eq, ne_zero_iff]
      refine ⟨u, ?_⟩
      rw [Nat.testBit_and, Bool.and_eq_true, hinv]; exact ⟨h2, h3⟩
  | t + 10 =>
    simp only [flagI, flagP, List.all_eq_true, List.mem_range, decide_eq_true_eq]
    constructor
    · intro h x y z hx _ _ h1 h2
      have := fr_lt63 hf x
      exact (popc_le_one (by omega)).1 (h x hx) y z h1 h2
    · intro h x hx
      have := fr_lt63 hf x
      rw [popc_le_one (by omega)]
      exact fun y z h1 h2 => h x y z hx (hlt h1).2 (hlt h2).2 h1 h2
/-- A bijection between the worlds that keeps the arrows. -/
structure Iso (n : Nat) (R S : Nat → Nat → Prop) (F G : Nat → Nat) : Prop where
  lt : ∀ x, x < n → F x < n
  lt' : ∀ x, x < n → G x < n
  gf : ∀ x, x < n → G (F x) = x
  fg : ∀ x, x < n → F (G x) = x
  rel : ∀ x y, x < n → y < n → (S x y ↔ R (G x) (G y))
theorem Iso.symm {n : Nat} {R S : Nat → Nat → Prop} {F G : Nat → Nat} (h : Iso n R S F G) : Iso n S R G F :=
  ⟨h.lt', h.lt, h.fg, h.gf, fun x y hx hy => by rw [h.rel _ _ (h.lt x hx) (h.lt y hy), h.gf x hx, h.gf y hy]⟩
theorem Iso.flag {n : Nat} {R S : Nat → Nat → Prop} {F G : Nat → Nat} (i : Iso n R S F G) (hS : ∀ x y, S x y → x < n ∧ y < n) (t : Nat) (h : flagP n R t) : flagP n S t := by
  have hex : ∀ {p : Nat → Prop}, (∃ u, u < n ∧ p (G (F u))) → ∃ u, u < n ∧ p (G u) := fun ⟨u, hu, hp⟩ => ⟨F u, i.lt u hu, hp⟩
  have g := i.lt'
  match t with
  | 0 => exact fun x hx => (i.rel x x hx hx).2 (h _ (g x hx))
  | 1 =>
    intro x hx
    obtain ⟨y, hy, hr⟩ := h _ (g x hx)
    exact ⟨F y, i.lt y hy, (i.rel x _ hx (i.lt y hy)).2 (by rw [i.gf y hy]; exact hr)⟩
  | 2 => exact fun x y z hx hy hz h1 h2 => (i.rel x z hx hz).2 (h _ _ _ (g x hx) (g y hy) (g z hz) ((i.rel x y hx hy).1 h1) ((i.rel y z hy hz).1 h2))
  | 3 => exact fun x y hx hy h1 => (i.rel y x hy hx).2 (h _ _ (g x hx) (g y hy) ((i.rel x y hx hy).1 h1))
  | 4 => exact fun x y z hx hy hz h1 h2 => (i.rel y z hy hz).2 (h _ _ _ (g x hx) (g y hy) (g z hz) ((i.rel x y hx hy).1 h1) ((i.rel x z hx hz).1 h2))
  | 5 =>
    intro x y z hx hy hz h1 h2
    obtain ⟨u, hu, h3, h4⟩ := h _ _ _ (g x hx) (g y hy) (g z hz) ((i.rel x y hx hy).1 h1) ((i.rel x z hx hz).1 h2)
    exact ⟨F u, i.lt u hu, (i.rel y _ hy (i.lt u hu)).2 (by rw [i.gf u hu]; exact h3), (i.rel z _ hz (i.lt u hu)).2 (by rw [i.gf u hu]; exact h4)⟩
  | 6 => exact fun x y z hx hy hz h1 h2 => (h _ _ _ (g x hx) (g y hy) (g z hz) ((i.rel x y hx hy).1 h1) ((i.rel x z hx hz).1 h2)).imp (i.rel y z hy hz).2 (i.rel z y hz hy).2
  | 7 =>
    have hp : ∀ x y, Pth S x y → Pth R (G x) (G y) := by
      intro x y hxy
      induction hxy with
      | @one x y h1 => exact .one ((i.rel x y (hS x y h1).1 (hS x y h1).2).1 h1)
      | @more x y z h1 _ ih => exact .more ((i.rel x y (hS x y h1).1 (hS x y h1).2).1 h1) ih
    exact fun x hx h1 => h _ (g x hx) (hp x x h1)
  | 8 =>
    intro x y hx hy h1 h2
    have := h _ _ (g x hx) (g y hy) ((i.rel x y hx hy).1 h1) ((i.rel y x hy hx).1 h2)
    rw [← i.fg x hx, ← i.fg y hy, this]
  | 9 =>
    intro x y hx hy h1
    obtain ⟨u, hu, h3, h4⟩ := h _ _ (g x hx) (g y hy) ((i.rel x y hx hy).1 h1)
    exact ⟨F u, i.lt u hu, (i.rel x _ hx (i.lt u hu)).2 (by rw [i.gf u hu]; exact h3), (i.rel _ y (i.lt u hu) hy).2 (by rw [i.gf u hu]; exact h4)⟩
  | t + 10 =>
    intro x y z hx hy hz h1 h2
    have := h _ _ _ (g x hx) (g y hy) (g z hz) ((i.rel x y hx hy).1 h1) ((i.rel x z hx hz).1 h2)
    rw [← i.fg y hy, ← i.fg z hz, this]
/-- A map that the search finds is such a bijection. -/
theorem iso_of_full {f g : Fr} (hf : f.ok) (hg : g.ok) (hn : f.n = g.n) {F : List Nat} (hl : F.length = f.n) (hm : ∀ y ∈ F, y < g.n) (h : fullB f g true true F) : ∃ G : Nat → Nat, Iso f.n f.R g.R (fun x => F.getD x 0) G := by
  obtain ⟨h1, h2, h3⟩ := h
  have hnd := h3 rfl
  have honto : ∀ y, y < f.n → y ∈ F := by
    intro y hy
    have hle := (popc_setOf_nodup _ F rfl (fun y hy => by have := hm y hy; have := hg.1; omega)).2 hnd
    rw [← List.contains_iff_mem, ← setOf_testBit]
    have hsub : ∀ i, (setOf F).testBit i = true → (2 ^ f.n - 1).testBit i = true := fun i hi => by
      rw [setOf_testBit, List.contains_iff_mem] at hi
      rw [full_testBit, decide_eq_true_eq]
      have := hm i hi; omega
    apply Classical.byContradiction
    intro hne
    rw [Bool.not_eq_true] at hne
    have hf8 := hf.1
    have h5 := popc_or_one (setOf F) y (by omega)
    rw [hne] at h5
    simp only [Bool.false_eq_true, if_false] at h5
    have h6 : setOf F ||| 2 ^ y < 2 ^ f.n := Nat.or_lt_two_pow (setOf_lt fun z hz => by have := hm z hz; omega) (Nat.pow_lt_pow_right (by omega) hy)
    have := popc_full (m := f.n) (by omega) h6
    omega
  have hinj : ∀ x x', x < f.n → x' < f.n → F.getD x 0 = F.getD x' 0 → x = x' := by
    intro x x' hx hx' he
    rw [List.getD_eq_getElem?_getD, List.getD_eq_getElem?_getD, List.getElem?_eq_getElem (by omega), List.getElem?_eq_getElem (by omega), Option.getD_some, Option.getD_some] at he
    exact (List.getElem_inj hnd).1 he
  have hfg : ∀ y, y < f.n → F.getD (F.idxOf y) 0 = y := fun y hy => by
    have : F.idxOf y < F.length := List.idxOf_lt_length_of_mem (honto y hy)
    simp [List.getD_eq_getElem?_getD, this]
  have hlt' : ∀ y, y < f.n → F.idxOf y < f.n := fun y hy => by rw [← hl]; exact List.idxOf_lt_length_of_mem (honto y hy)
  have hlt : ∀ x, x < f.n → F.getD x 0 < f.n := fun x hx => by rw [hn]; exact getD_lt hm (by omega)
  refine ⟨fun y => F.idxOf y, hlt, hlt', fun x hx => hinj _ _ (hlt' _ (hlt x hx)) hx (hfg _ (hlt x hx)), hfg, fun x y hx hy => ?_⟩
  unfold Fr.R
  have e := h1 (F.idxOf x) (hlt' x hx)
  rw [hfg x hx] at e
  rw [← e, img_testBit]
  constructor
  · rintro ⟨z, hz, h4, h5⟩
    have : z = F.idxOf y := hinj z _ (by omega) (hlt' y hy) (by rw [hfg y hy]; exact h5)
    rw [← this]; exact h4
  · intro h4
    exact ⟨F.idxOf y, by rw [hl]; exact hlt' y hy, h4, hfg y hy⟩
theorem flags_same {f g : Fr} (hf : f.ok) (hg : g.ok) (hn : f.n = g.n) {F : List Nat} (hl : F.length = f.n) (hm : ∀ y ∈ F, y < g.n) (h : fullB f g true true F) (t : Nat) : flagI t f = flagI t g := by
  obtain ⟨G, i⟩ := iso_of_full hf hg hn hl hm h
  rw [Bool.eq_iff_iff, flagI_iff hf, flagI_iff hg, ← hn]
  exact ⟨i.flag (fun x y h => by have := fr_bit_lt hg h; omega) t, i.symm.flag (fun x y h => fr_bit_lt hf h) t⟩
end Go.Vc
