/- The proof of FnExactReferencesOf, part 3 of 4. Conditions: none. -/
import Derived.Test.YtkjfpiimimfnhaaKR21b
import Derived.Laws.BytesString
/- Plain facts on sorting in place: swaps in a part of a list, insertion, heaps, partitions. No program in sight. Conditions: none. -/
namespace Go.Vc
universe u
section
variable {α : Type u} [Inhabited α]
/-- The k-th element. -/
def gt (L : List α) (k : Nat) : α := L.getD k default
theorem gt_eq {L : List α} {k : Nat} (h : k < L.length) : gt L k = L[k] := by unfold gt; simp [List.getD_eq_getElem?_getD, h]
theorem gt_set {L : List α} {i : Nat} (x : α) (hi : i < L.length) (k : Nat) : gt (L.set i x) k = if k = i then x else gt L k := by
  unfold gt
  simp only [List.getD_eq_getElem?_getD, List.getElem?_set]
  by_cases h : i = k
  · subst h; simp [hi]
  · simp [h, Ne.symm h]
def sw (L : List α) (i j : Nat) : List α := (L.set i (gt L j)).set j (gt L i)
theorem sw_len (L : List α) (i j : Nat) : (sw L i j).length = L.length := by simp [sw]
theorem gt_sw {L : List α} {i j : Nat} (hi : i < L.length) (hj : j < L.length) (k : Nat) : gt (sw L i j) k = if k = j then gt L i else if k = i then gt L j else gt L k := by
  unfold sw
  rw [gt_set _ (by simpa using hj), gt_set _ hi]
theorem sw_perm {L : List α} {i j : Nat} (hi : i < L.length) (hj : j < L.length) : List.Perm (sw L i j) L := by
  unfold sw
  rw [gt_eq hi, gt_eq hj]
  exact List.set_set_perm hi hj
/-- Swaps of places from a to below b. -/
inductive SwR (a b : Nat) (L : List α) : List α → Prop
  | refl : SwR a b L L
  | step {L' : List α} {i j : Nat} : SwR a b L L' → a ≤ i → i < b → a ≤ j → j < b → b ≤ L.length → SwR a b L (sw L' i j)
theorem SwR.len {a b : Nat} {L L' : List α} (h : SwR a b L L') : L'.length = L.length := by
  induction h with
  | refl => rfl
  | step _ _ _ _ _ _ ih => rw [sw_len, ih]
theorem SwR.perm {a b : Nat} {L L' : List α} (h : SwR a b L L') : List.Perm L' L := by
  induction h with
  | refl => exact List.Perm.refl _
  | step hs _ _ _ _ _ ih => exact (sw_perm (by rw [hs.len]; omega) (by rw [hs.len]; omega)).trans ih
theorem SwR.trans {a b : Nat} {L L' L'' : List α} (h : SwR a b L L') (k : SwR a b L' L'') : SwR a b L L'' := by
  induction k with
  | refl => exact h
  | step _ h1 h2 h3 h4 h5 ih => exact .step ih h1 h2 h3 h4 (by rw [← h.len]; exact h5)
theorem SwR.mono {a b a' b' : Nat} {L L' : List α} (h : SwR a b L L') (ha : a' ≤ a) (hb : b ≤ b') (hl : b' ≤ L.length) : SwR a' b' L L' := by
  induction h with
  | refl => exact .refl
  | step _ h1 h2 h3 h4 _ ih => exact .step ih (by omega) (by omega) (by omega) (by omega) hl
theorem SwR.out {a b : Nat} {L L' : List α} (h : SwR a b L L') {k : Nat} (hk : k < a ∨ b ≤ k) : gt L' k = gt L k := by
  induction h with
  | refl => rfl
  | step hs h1 h2 h3 h4 h5 ih => rw [gt_sw (by rw [hs.len]; omega) (by rw [hs.len]; omega), if_neg (by omega), if_neg (by omega), ih]
theorem SwR.all {a b : Nat} {L L' : List α} (h : SwR a b L L') {p : α → Prop} (hp : ∀ k, a ≤ k → k < b → p (gt L k)) : ∀ k, a ≤ k → k < b → p (gt L' k) := by
  induction h with
  | refl => exact hp
  | step hs h1 h2 h3 h4 h5 ih =>
    intro k hk hk'
    rw [gt_sw (by rw [hs.len]; omega) (by rw [hs.len]; omega)]
    split
    · exact ih _ h1 h2
    · split
      · exact ih _ h3 h4
      · exact ih _ hk hk'
theorem SwR.one {a b i j : Nat} {L : List α} (h1 : a ≤ i) (h2 : i < b) (h3 : a ≤ j) (h4 : j < b) (h5 : b ≤ L.length) : SwR a b L (sw L i j) := .step .refl h1 h2 h3 h4 h5
/-- A total order that need not tell all apart, by 'less'. -/
structure Ordr (lt : α → α → Bool) : Prop where
  asym : ∀ {a b}, lt a b = true → lt b a = false
  tr : ∀ {a b c}, lt b a = false → lt c b = false → lt c a = false
variable {lt : α → α → Bool}
 omit [Inhabited α] in
theorem Ordr.rfl (O : Ordr lt) (a : α) : lt a a = false := by
   cases h : lt a a
   · exact Eq.refl _
   · have := O.asym h; rw [h] at this; exact this
 omit [Inhabited α] in
theorem Ordr.lt_le (O : Ordr lt) {a b c : α} (h : lt a b = true) (k : lt c b = false) : lt a c = true := by
   cases h' : lt a c
   · have := O.tr (a := b) (b := c) (c := a) k h'; rw [h] at this; cases this
   · exact Eq.refl _
 omit [Inhabited α] in
/-- In order from a to below b. -/
def Srt (lt : α → α → Bool) (a b : Nat) (L : List α) : Prop := ∀ p q, a ≤ p → p < q → q < b → lt (gt L q) (gt L p) = false
theorem Srt.mono {a b a' b' : Nat} {L : List α} (h : Srt lt a b L) (ha : a ≤ a') (hb : b' ≤ b) : Srt lt a' b' L := fun p q h1 h2 h3 => h p q (by omega) h2 (by omega)
theorem Srt.short {a b : Nat} {L : List α} (h : b ≤ a + 1) : Srt lt a b L := fun p q h1 h2 h3 => by omega
theorem Srt.out {a b c d : Nat} {L L' : List α} (h : Srt lt a b L) (hs : SwR c d L L') (hd : d ≤ a ∨ b ≤ c) : Srt lt a b L' := fun p q h1 h2 h3 => by
  rw [hs.out (by omega), hs.out (by omega)]; exact h p q h1 h2 h3
/-! ### Insertion -/
/-- In order but for the pairs whose upper place is j. -/
def Ins (lt : α → α → Bool) (a i j : Nat) (L : List α) : Prop := ∀ p q, a ≤ p → p < q → q ≤ i → q ≠ j → lt (gt L q) (gt L p) = false
theorem Ins.init {a i : Nat} {L : List α} (h : Srt lt a i L) : Ins lt a i i L := fun p q h1 h2 h3 h4 => h p q h1 h2 (by omega)
theorem Ins.done (O : Ordr lt) {a i j : Nat} {L : List α} (h : Ins lt a i j L) (hj : j ≤ a ∨ (a < j ∧ lt (gt L j) (gt L (j - 1)) = false)) (hji : j ≤ i) : Srt lt a (i + 1) L := fun p q h1 h2 h3 => by
  by_cases hq : q = j
  · subst hq
    rcases hj with hj | ⟨h4, h5⟩
    · omega
    · by_cases hp : p = q - 1
      · subst hp; exact h5
      · exact O.tr (h p (q - 1) h1 (by omega) (by omega) (by omega)) h5
  · exact h p q h1 h2 (by omega) hq
theorem Ins.swap (O : Ordr lt) {a i j : Nat} {L : List α} (h : Ins lt a i j L) (haj : a < j) (hji : j ≤ i) (hi : i < L.length) (hlt : lt (gt L j) (gt L (j - 1)) = true) : Ins lt a i (j - 1) (sw L j (j - 1)) := fun p q h1 h2 h3 h4 => by
  rw [gt_sw (by omega) (by omega), gt_sw (by omega) (by omega)]
  rw [if_neg h4]
  by_cases hq : q = j
  · subst hq
    rw [if_pos rfl]
    by_cases hp : p = q - 1
    · rw [if_pos hp]; exact O.asym hlt
    · rw [if_neg hp, if_neg (by omega)]; exact h p (q - 1) h1 (by omega) (by omega) (by omega)
  · rw [if_neg hq]
    by_cases hp : p = j - 1
    · rw [if_pos hp]; exact h j q (by omega) (by omega) h3 hq
    · rw [if_neg hp]
      by_cases hp2 : p = j
      · rw [if_pos hp2]; exact h (j - 1) q (by omega) (by omega) h3 hq
      · rw [if_neg hp2]; exact h p q h1 h2 h3 hq
/-! ### Heaps -/
/-- From the place 'first' on, 'hi' many: no child of a place from lo on, other than r, is more than it. -/
def Heap (lt : α → α → Bool) (first lo hi : Nat) (L : List α) : Prop := ∀ p c, lo ≤ p → (c = 2 * p + 1 ∨ c = 2 * p + 2) → c < hi → lt (gt L (first + p)) (gt L (first + c)) = false
/-- The same but for the root r, whose children are no more than its parent. -/
def Sift (lt : α → α → Bool) (first lo hi r : Nat) (L : List α) : Prop :=
  (∀ p c, lo ≤ p → p ≠ r → (c = 2 * p + 1 ∨ c = 2 * p + 2) → c < hi → lt (gt L (first + p)) (gt L (first + c)) = false) ∧
  (∀ p c, lo ≤ p → (r = 2 * p + 1 ∨ r = 2 * p + 2) → (c = 2 * r + 1 ∨ c = 2 * r + 2) → c < hi → lt (gt L (first + p)) (gt L (first + c)) = false)
theorem Sift.init {first lo hi : Nat} {L : List α} (h : Heap lt first (lo + 1) hi L) : Sift lt first lo hi lo L :=
  ⟨fun p c h1 h2 h3 h4 => h p c (by omega) h3 h4, fun p c h1 h2 h3 h4 => by omega⟩
theorem Sift.done {first lo hi r : Nat} {L : List α} (h : Sift lt first lo hi r L) (hr : ∀ c, (c = 2 * r + 1 ∨ c = 2 * r + 2) → c < hi → lt (gt L (first + r)) (gt L (first + c)) = false) : Heap lt first lo hi L := fun p c h1 h2 h3 => by
  by_cases hp : p = r
  · subst hp; exact hr c h2 h3
  · exact h.1 p c h1 hp h2 h3
theorem Sift.swap (O : Ordr lt) {first lo hi r c : Nat} {L : List α} (h : Sift lt first lo hi r L) (hlo : lo ≤ r) (hc : c = 2 * r + 1 ∨ c = 2 * r + 2) (hch : c < hi) (hl : first + hi ≤ L.length)
    (hlt : lt (gt L (first + r)) (gt L (first + c)) = true) (hmax : ∀ d, (d = 2 * r + 1 ∨ d = 2 * r + 2) → d < hi → lt (gt L (first + c)) (gt L (first + d)) = false) :
    Sift lt first lo hi c (sw L (first + r) (first + c)) := by
  have e : ∀ k, k < hi → gt (sw L (first + r) (first + c)) (first + k) = if k = c then gt L (first + r) else if k = r then gt L (first + c) else gt L (first + k) := fun k hk => by
    rw [gt_sw (by omega) (by omega)]
    simp only [Nat.add_left_cancel_iff]
  constructor
  · intro p d h1 h2 h3 h4
    rw [e p (by omega), e d h4, if_neg h2]
    by_cases hp : p = r
    · subst hp
      rw [if_pos rfl]
      by_cases hd : d = c
      · rw [if_pos hd]; exact O.asym hlt
      · rw [if_neg hd, if_neg (by omega)]; exact hmax d h3 h4
    · rw [if_neg hp]
      have hdc : d ≠ c := by omega
      rw [if_neg hdc]
      by_cases hd : d = r
      · rw [if_pos hd]; subst hd; exact h.2 p c h1 h3 hc hch
      · rw [if_neg hd]; exact h.1 p d h1 hp h3 h4
  · intro p d h1 h2 h3 h4
    have hp : p = r := by omega
    subst hp
    rw [e p (by omega), e d h4, if_neg (by omega), if_pos rfl, if_neg (by omega), if_neg (by omega)]
    exact h.1 c d (by omega) (by omega) h3 h4
theorem Heap.top (O : Ordr lt) {first hi : Nat} {L : List α} (h : Heap lt first 0 hi L) : ∀ k, k < hi → lt (gt L first) (gt L (first + k)) = false := by
  intro k
  induction k using Nat.strongRecOn with
  | ind k ih =>
    intro hk
    by_cases h0 : k = 0
    · subst h0; exact O.rfl _
    · exact O.tr (h ((k - 1) / 2) k (Nat.zero_le _) (by omega) hk) (ih ((k - 1) / 2) (by omega) (by omega))
/-! ### Windows -/
/-- All pairs but those inside the window are in order. -/
def Crs (lt : α → α → Bool) (a0 b0 a b : Nat) (L : List α) : Prop := ∀ p q, a0 ≤ p → p < q → q < b0 → ¬ (a ≤ p ∧ q < b) → lt (gt L q) (gt L p) = false
/-- Nothing in the window is less than what lies before it. -/
def Blw (lt : α → α → Bool) (a b : Nat) (L : List α) : Prop := ∀ k, a ≤ k → k < b → 1 ≤ a → lt (gt L k) (gt L (a - 1)) = false
theorem Crs.all {a b : Nat} {L : List α} : Crs lt a b a b L := fun _ _ h1 _ h3 h4 => (h4 ⟨h1, h3⟩).elim
theorem Crs.keep {a0 b0 a b : Nat} {L L' : List α} (h : Crs lt a0 b0 a b L) (hs : SwR a b L L') (ha : a0 ≤ a) (hb : b ≤ b0) : Crs lt a0 b0 a b L' := fun p q h1 h2 h3 h4 => by
  by_cases hp : a ≤ p ∧ p < b
  · rw [hs.out (k := q) (by omega)]
    exact hs.all (p := fun x => lt (gt L q) x = false) (fun k hk hk' => h k q (by omega) (by omega) h3 (by omega)) p hp.1 hp.2
  · rw [hs.out (k := p) (by omega)]
    by_cases hq : a ≤ q ∧ q < b
    · exact hs.all (p := fun x => lt x (gt L p) = false) (fun k hk hk' => h p k h1 (by omega) (by omega) (by omega)) q hq.1 hq.2
    · rw [hs.out (k := q) (by omega)]; exact h p q h1 h2 h3 h4
theorem Crs.done {a0 b0 a b : Nat} {L L' : List α} (h : Crs lt a0 b0 a b L) (hs : SwR a b L L') (ha : a0 ≤ a) (hb : b ≤ b0) (k : Srt lt a b L') : Srt lt a0 b0 L' := fun p q h1 h2 h3 => by
  by_cases hw : a ≤ p ∧ q < b
  · exact k p q hw.1 h2 hw.2
  · exact h.keep hs ha hb p q h1 h2 h3 hw
theorem Blw.keep {a b a' b' : Nat} {L L' : List α} (h : Blw lt a b L) (hs : SwR a' b' L L') (ha : a ≤ a') (hb : b' ≤ b) : Blw lt a b L' := fun k h1 h2 h3 => by
  rw [hs.out (k := a - 1) (by omega)]
  by_cases hk : a' ≤ k ∧ k < b'
  · exact hs.all (p := fun x => lt x (gt L (a - 1)) = false) (fun k hk hk' => h k (by omega) (by omega) h3) k hk.1 hk.2
  · rw [hs.out (k := k) (by omega)]; exact h k h1 h2 h3
theorem Blw.low {a b m : Nat} {L : List α} (h : Blw lt a b L) (hm : m ≤ b) : Blw lt a m L := fun k h1 h2 h3 => h k h1 (by omega) h3
/-- At m, what lies below is less, and what lies above is not. -/
def Parted (lt : α → α → Bool) (a b m : Nat) (L : List α) : Prop := (∀ k, a ≤ k → k < m → lt (gt L k) (gt L m) = true) ∧ ∀ k, m < k → k < b → lt (gt L k) (gt L m) = false
theorem Parted.lowS {a b m : Nat} {L L' : List α} (h : Parted lt a b m L) (hs : SwR a m L L') : Parted lt a b m L' :=
  ⟨fun k h1 h2 => by rw [hs.out (k := m) (by omega)]; exact hs.all (p := fun x => lt x (gt L m) = true) h.1 k h1 h2,
   fun k h1 h2 => by rw [hs.out (k := m) (by omega), hs.out (k := k) (by omega)]; exact h.2 k h1 h2⟩
theorem Parted.highS {a b m : Nat} {L L' : List α} (h : Parted lt a b m L) (hs : SwR (m + 1) b L L') : Parted lt a b m L' :=
  ⟨fun k h1 h2 => by rw [hs.out (k := m) (by omega), hs.out (k := k) (by omega)]; exact h.1 k h1 h2,
   fun k h1 h2 => by rw [hs.out (k := m) (by omega)]; exact hs.all (p := fun x => lt x (gt L m) = false) (fun k h1 h2 => h.2 k (by omega) h2) k (by omega) h2⟩
theorem Parted.blw {a b m : Nat} {L : List α} (h : Parted lt a b m L) : Blw lt (m + 1) b L := fun k h1 h2 _ => h.2 k (by omega) h2
theorem Parted.up (O : Ordr lt) {a0 b0 a b m : Nat} {L : List α} (h : Parted lt a b m L) (hc : Crs lt a0 b0 a b L) (hs : Srt lt a m L) : Crs lt a0 b0 (m + 1) b L := fun p q h1 h2 h3 h4 => by
  by_cases hw : a ≤ p ∧ q < b
  · rcases Nat.lt_trichotomy q m with hq | hq | hq
    · exact hs p q hw.1 h2 hq
    · subst hq; exact O.asym (h.1 p hw.1 h2)
    · rcases Nat.lt_trichotomy p m with hp | hp | hp
      · exact O.tr (O.asym (h.1 p hw.1 hp)) (h.2 q hq hw.2)
      · subst hp; exact h.2 q hq hw.2
      · omega
  · exact hc p q h1 h2 h3 hw
theorem Parted.down (O : Ordr lt) {a0 b0 a b m : Nat} {L : List α} (h : Parted lt a b m L) (hc : Crs lt a0 b0 a b L) (hs : Srt lt (m + 1) b L) : Crs lt a0 b0 a m L := fun p q h1 h2 h3 h4 => by
  by_cases hw : a ≤ p ∧ q < b
  · rcases Nat.lt_trichotomy p m with hp | hp | hp
    · rcases Nat.lt_trichotomy q m with hq | hq | hq
      · omega
      · subst hq; exact O.asym (h.1 p hw.1 h2)
      · exact O.tr (O.asym (h.1 p hw.1 hp)) (h.2 q hq hw.2)
    · subst hp; exact h.2 q h2 hw.2
    · exact hs p q hp h2 hw.2
  · exact hc p q h1 h2 h3 hw
/-- Below m all are at most x, and from m on more; x is the least. -/
theorem equal_up (O : Ordr lt) {a0 b0 a b m : Nat} {L : List α} {x : α} (hc : Crs lt a0 b0 a b L) (hx : ∀ k, a ≤ k → k < b → lt (gt L k) x = false) (h1 : ∀ k, a ≤ k → k < m → lt x (gt L k) = false) (_ : m ≤ b) : Crs lt a0 b0 m b L := fun p q g1 g2 g3 g4 => by
  by_cases hw : a ≤ p ∧ q < b
  · exact O.tr (h1 p hw.1 (by omega)) (hx q (by omega) hw.2)
  · exact hc p q g1 g2 g3 hw
theorem equal_blw (O : Ordr lt) {a b m : Nat} {L : List α} {x : α} (hx : ∀ k, a ≤ k → k < b → lt (gt L k) x = false) (h1 : ∀ k, a ≤ k → k < m → lt x (gt L k) = false) (ham : a < m) : Blw lt m b L := fun k g1 g2 _ =>
  O.tr (h1 (m - 1) (by omega) (by omega)) (hx k (by omega) g2)
/-- A list in order. -/
theorem Srt.pairwise {L : List α} (h : Srt lt 0 L.length L) : L.Pairwise fun x y => lt y x = false := by
  rw [List.pairwise_iff_getElem]
  intro i j hi hj hij
  rw [← gt_eq hi, ← gt_eq hj]
  exact h i j (Nat.zero_le _) hij hj
theorem ordrS : Ordr ltS := ⟨ltS_asymm, fun {a b c} h k => by
  cases h' : ltS c a
  · rfl
  · rcases ltS_total b c with e | e | e
    · have := ltS_trans e h'; rw [h] at this; cases this
    · subst e; rw [h] at h'; cases h'
    · rw [k] at e; cases e⟩
end
end Go.Vc

/- Contracts: sorting strings in place (the parts of pdqsort). Conditions: none. -/
namespace Go.Vc
section
universe u
variable {α : Type u} {enc : α → Value} {P : Program}
/-- The call's own slice v holds L', and nothing else has turned. -/
structure Turn (lo : Nat) (e : TypeId) (enc : α → Value) (v : Value) (w w' : World) (L' : List α) : Prop where
  ow : Ow lo e w' v (L'.map enc)
  ch : Ch (fun c => v.ownBlock = some c) w w'
theorem Turn.refl {lo : Nat} {e : TypeId} {v : Value} {w : World} {L : List α} (h : Ow lo e w v (L.map enc)) : Turn lo e enc v w w L := ⟨h, (Ext.refl w).ch⟩
theorem Turn.ext {lo : Nat} {e : TypeId} {v : Value} {w w' w'' : World} {L : List α} (h : Turn lo e enc v w w' L) (k : Ext w' w'') : Turn lo e enc v w w'' L :=
  ⟨h.ow.ext k, h.ch.trans (k.ch (S := fun _ => False)) fun _ e => e.elim⟩
theorem Turn.trans {lo : Nat} {e : TypeId} {v : Value} {w w' w'' : World} {L L' : List α} (h : Turn lo e enc v w w' L) (k : Turn lo e enc v w' w'' L') : Turn lo e enc v w w'' L' :=
  ⟨k.ow, h.ch.trans k.ch fun _ e => .inl e⟩
theorem iRdO [Inhabited α] {lo : Nat} {e : TypeId} {w : World} {v : Value} {L : List α} {z : Int} {j : Nat} {k : IntKind} {K : Value → Prop} (hs : Ow lo e w v (L.map enc)) (hz : z = (j : Int)) (hj : j < L.length) (h : K (enc (gt L j))) : xIa 1 v (.int k z) fun p => xLd w p K := by
  subst hz
  refine iIaOw hs (by omega) (by rw [List.length_map]; omega) fun b o _ _ _ hc _ _ => iLd (hc.trans ?_) h
  rw [Int.toNat_natCast, gt_eq hj]
  simp [hj]
theorem iWr2 {lo : Nat} {e : TypeId} {w : World} {v : Value} {L : List α} {z z' : Int} {i j : Nat} {k k' : IntKind} {x y : α} {K : World → Prop} (hE : ∀ x, isCell (enc x) = true) (hs : Ow lo e w v (L.map enc)) (hz : z = (i : Int)) (hz' : z' = (j : Int)) (hi : i < L.length) (hj : j < L.length)
    (h : ∀ w', Turn lo e enc v w w' ((L.set i x).set j y) → K w') :
    xIa 1 v (.int k z) fun p => ∀ w1, Ext w w1 → xSt w1 p (enc x) fun w2 => xIa 1 v (.int k' z') fun q => ∀ w3, Ext w2 w3 → xSt w3 q (enc y) fun w4 => ∀ w5, Ext w4 w5 → K w5 := by
  subst hz
  subst hz'
  refine iIaOwE hs (by rw [List.length_map]; exact hi) fun b hb H => ?_
  intro w1 h1
  obtain ⟨hc, hf, hset⟩ := H w1 _ rfl (hs.ext h1)
  refine iSt (hc.trans (List.getElem?_eq_getElem (by rw [List.length_map]; exact hi))) hf (hE x) ?_
  have hs2 := hset (enc x)
  have hc2 : Ch (fun c => v.ownBlock = some c) w (w1.setCell ⟨b, i, none⟩ (enc x)) := (h1.ch (S := fun c => v.ownBlock = some c)).trans ((Upd.setCell w1 b i _).ch (S := fun c => v.ownBlock = some c) hb) fun _ e => .inl e
  refine iIaOwE hs2 (by rw [List.length_set, List.length_map]; exact hj) fun b' hb' H' => ?_
  intro w3 h3
  obtain ⟨hc3, hf3, hset3⟩ := H' w3 _ rfl (hs2.ext h3)
  refine iSt (hc3.trans (List.getElem?_eq_getElem (by rw [List.length_set, List.length_map]; exact hj))) hf3 (hE y) ?_
  intro w5 h5
  refine h w5 (Turn.ext ⟨?_, ?_⟩ h5)
  · have := hset3 (enc y)
    rwa [← List.map_set, ← List.map_set] at this
  · exact (hc2.trans (h3.ch (S := fun c => v.ownBlock = some c)) fun _ e => .inl e).trans ((Upd.setCell w3 b' j _).ch (S := fun c => v.ownBlock = some c) hb') fun _ e => .inl e
end
end Go.Vc
namespace Go.Proofs.Ytkjfpiimimfnhaa
open Go.Vc
theorem ok_cmp_isNaN_string (a : Str) (w : World) : Ret Try.prog f_cmp_isNaN_string #[sv a] w (.bool false) := by
  apply c_cmp_isNaN_string; unfold S_cmp_isNaN_string
  refine iNeT ?_
  rw [show decide (¬ a = a) = false by simp]
  exact ⟨by first | trivial | rfl, Ext.refl _⟩
theorem ok_cmp_Less_string (a b : Str) (w : World) : Ret Try.prog f_cmp_Less_string #[sv a, sv b] w (.bool (ltS a b)) := by
  apply c_cmp_Less_string; unfold S_cmp_Less_string
  refine iJnB (ltS a b) w (fun J hJ => ?_) (fun w4 h4 => ?_)
  · refine iRet (ok_cmp_isNaN_string a w) fun w3 h3 => ?_
    refine iCndF rfl ?_
    refine iLtT ?_
    exact hJ w3 h3
  · intro _
    simp only [gx]
    exact ⟨by first | trivial | rfl, h4⟩
theorem ok_slices_insertionSortOrdered_string {lo : Nat} {w : World} {v : Value} {L : List Str} {a b : Nat} (hs : Ow lo t_string w v (strs L)) (hab : a ≤ b) (hb : b ≤ L.length) (hL : L.length ≤ 1152921504606846976) :
    Cal Try.prog f_slices_insertionSortOrdered_string #[v, .int .i64 (a : Int), .int .i64 (b : Int)] w fun _ w' => ∃ L', Turn lo t_string sv v w w' L' ∧ SwR a b L L' ∧ Srt ltS a b L' := by
  apply c_slices_insertionSortOrdered_string; unfold S_slices_insertionSortOrdered_string
  (refine iAdd (by omega) ?_)
  refine iLp (fun i : Nat => [.int .i64 (i : Int)]) (fun i w' => a + 1 ≤ i ∧ i ≤ b + 1 ∧ ∃ L', Turn lo t_string sv v w w' L' ∧ SwR a b L L' ∧ Srt ltS a i L') (fun i => b + 1 - i) (a + 1) (by simp) ⟨Nat.le_refl _, by omega, L, Turn.refl hs, .refl, Srt.short (Nat.le_refl _)⟩ ?_
  rintro i w2 Kn ⟨hi, hib, L1, ht1, hw1, hs1⟩ hKn
  intro _
  simp only [gx]
  refine iLt ?_
  refine iCndP (fun h => ?_) (fun h => ?_)
  · have hl1 := hw1.len
    refine iLp (fun j : Nat => [.int .i64 (j : Int)]) (fun j w' => a ≤ j ∧ j ≤ i ∧ ∃ L', Turn lo t_string sv v w w' L' ∧ SwR a b L L' ∧ Ins ltS a i j L') (fun j => j) i rfl ⟨by omega, Nat.le_refl _, L1, ht1, hw1, Ins.init hs1⟩ ?_
    rintro j w4 Kn2 ⟨haj, hji, L2, ht2, hw2, hin⟩ hKn2
    have hl2 := hw2.len
    intro _
    simp only [gx]
    refine iJnB (decide (a < j) && ltS (gt L2 j) (gt L2 (j - 1))) w4 (fun J hJ => ?_) (fun w6 h6 => ?_)
    · refine iLt ?_
      refine iCndP (fun h5 => ?_) (fun h5 => ?_)
      · rw [decide_eq_true (show a < j by omega), Bool.true_and] at hJ
        refine iRdO (j := j) ht2.ow rfl (by omega) ?_
        (refine iSub (by omega) ?_)
        refine iRdO (j := j - 1) ht2.ow (by omega) (by omega) ?_
        exact iRetQ (fun w' _ => ok_cmp_Less_string _ _ w') hJ
      · rw [decide_eq_false (show ¬ a < j by omega), Bool.false_and] at hJ
        exact hJ
    · intro _
      simp only [gx]
      have ht6 := ht2.ext h6
      cases hc : decide (a < j) && ltS (gt L2 j) (gt L2 (j - 1))
      · refine iCndF rfl ?_
        (refine iAdd (by omega) ?_)
        refine hKn (i + 1) _ ⟨by omega, by omega, L2, ht6, hw2, hin.done ordrS ?_ hji⟩ (by omega)
        rw [Bool.and_eq_false_iff, decide_eq_false_iff_not] at hc
        rcases hc with hc | hc
        · exact .inl (by omega)
        · rcases Nat.lt_or_ge a j with h' | h'
          · exact .inr ⟨h', hc⟩
          · exact .inl h'
      · rw [Bool.and_eq_true, decide_eq_true_eq] at hc
        refine iCndT rfl ?_
        (refine iSub (by omega) ?_; refine iSub (by omega) ?_)
        refine iRdO (j := j - 1) ht6.ow (by omega) (by omega) ?_
        refine iRdO (j := j) ht6.ow rfl (by omega) ?_
        refine iWr2 (i := j) (j := j - 1) (fun _ => rfl) ht6.ow rfl (by omega) (by omega) (by omega) fun w13 h13 => ?_
        (refine iSub (by omega) ?_)
        rw [show (j : Int) - 1 = ((j - 1 : Nat) : Int) by omega]
        exact hKn2 (j - 1) _ ⟨by omega, by omega, sw L2 j (j - 1), ht6.trans h13, .step hw2 (by omega) (by omega) (by omega) (by omega) hb, hin.swap ordrS hc.1 hji (by omega) hc.2⟩ (by omega)
  · exact ⟨L1, ht1, hw1, hs1.mono (Nat.le_refl _) (by omega)⟩
theorem ok_slices_reverseRangeOrdered_string {lo : Nat} {w : World} {v : Value} {L : List Str} {a b : Nat} (hs : Ow lo t_string w v (strs L)) (hab : a ≤ b) (hb : b ≤ L.length) (hL : L.length ≤ 1152921504606846976) :
    Cal Try.prog f_slices_reverseRangeOrdered_string #[v, .int .i64 (a : Int), .int .i64 (b : Int)] w fun _ w' => ∃ L', Turn lo t_string sv v w w' L' ∧ SwR a b L L' := by
  apply c_slices_reverseRangeOrdered_string; unfold S_slices_reverseRangeOrdered_string
  (refine iSub (by omega) ?_)
  refine iLp (fun s : Nat × Int => [.int .i64 (s.1 : Int), .int .i64 s.2]) (fun s w' => a ≤ s.1 ∧ s.1 ≤ b ∧ -1 ≤ s.2 ∧ s.2 < b ∧ (b : Int) - s.2 ≤ s.1 - a + 1 ∧ ∃ L', Turn lo t_string sv v w w' L' ∧ SwR a b L L') (fun s => b - s.1) (a, (b : Int) - 1) rfl ⟨Nat.le_refl _, hab, by show -1 ≤ (b : Int) - 1; omega, by show (b : Int) - 1 < b; omega, by show (b : Int) - ((b : Int) - 1) ≤ a - a + 1; omega, L, Turn.refl hs, .refl⟩ ?_
  rintro ⟨i, j⟩ w2 Kn ⟨hi, hib, hj, hjb, hij, L1, ht1, hw1⟩ hKn
  have hi : a ≤ i := hi
  have hib : i ≤ b := hib
  have hj : -1 ≤ j := hj
  have hjb : j < b := hjb
  have hij : (b : Int) - j ≤ i - a + 1 := hij
  have hl1 := hw1.len
  intro _
  simp only [gx]
  refine iLt ?_
  refine iCndP (fun h => ?_) (fun h => ?_)
  · refine iRdO (j := j.toNat) ht1.ow (by omega) (by omega) ?_
    refine iRdO (j := i) ht1.ow rfl (by omega) ?_
    refine iWr2 (i := i) (j := j.toNat) (fun _ => rfl) ht1.ow rfl (by omega) (by omega) (by omega) fun w7 h7 => ?_
    (refine iAdd (by omega) ?_; refine iSub (by omega) ?_)
    exact hKn (i + 1, j - 1) _ ⟨by show a ≤ i + 1; omega, by show i + 1 ≤ b; omega, by show -1 ≤ j - 1; omega, by show j - 1 < b; omega, by show (b : Int) - (j - 1) ≤ ((i + 1 : Nat) : Int) - a + 1; omega, sw L1 i j.toNat, ht1.trans h7, .step hw1 hi (by omega) (by omega) (by omega) hb⟩ (by show b - (i + 1) < b - i; omega)
  · exact ⟨L1, ht1, hw1⟩
theorem ok_slices_siftDownOrdered_string {lo0 : Nat} {w : World} {v : Value} {L : List Str} {lo hi first : Nat} (hs : Ow lo0 t_string w v (strs L)) (hlo : lo ≤ hi) (hb : first + hi ≤ L.length) (hL : L.length ≤ 1152921504606846976) (hh : Heap ltS first (lo + 1) hi L) :
    Cal Try.prog f_slices_siftDownOrdered_string #[v, .int .i64 (lo : Int), .int .i64 (hi : Int), .int .i64 (first : Int)] w fun _ w' => ∃ L', Turn lo0 t_string sv v w w' L' ∧ SwR (first + lo) (first + hi) L L' ∧ Heap ltS first lo hi L' := by
  apply c_slices_siftDownOrdered_string; unfold S_slices_siftDownOrdered_string
  refine iLp (fun r : Nat => [.int .i64 (r : Int)]) (fun r w' => lo ≤ r ∧ r ≤ hi ∧ ∃ L', Turn lo0 t_string sv v w w' L' ∧ SwR (first + lo) (first + hi) L L' ∧ Sift ltS first lo hi r L') (fun r => hi - r) lo rfl ⟨Nat.le_refl _, hlo, L, Turn.refl hs, .refl, Sift.init hh⟩ ?_
  rintro r w2 Kn ⟨hr, hrh, L1, ht1, hw1, hsf⟩ hKn
  have hl1 := hw1.len
  intro _
  simp only [gx]
  refine iMul (by omega) ?_
  (refine iAdd (by omega) ?_; (with_reducible refine iLe ?_))
  refine iCndP (fun h => ?_) (fun h => ?_)
  · exact ⟨L1, ht1, hw1, hsf.done fun c hc hch => by omega⟩
  · have hlr : r < hi := by omega
    refine iJnB (decide (2 * r + 2 < hi) && ltS (gt L1 (first + (2 * r + 1))) (gt L1 (first + (2 * r + 2)))) w2 (fun J hJ => ?_) (fun w4 h4 => ?_)
    · (refine iAdd (by omega) ?_; (with_reducible refine iLt ?_))
      refine iCndP (fun h5 => ?_) (fun h5 => ?_)
      · rw [decide_eq_true (show 2 * r + 2 < hi by omega), Bool.true_and] at hJ
        (refine iAdd (by omega) ?_)
        refine iRdO (j := first + (2 * r + 1)) ht1.ow (by omega) (by omega) ?_
        (refine iAdd (by omega) ?_; refine iAdd (by omega) ?_)
        refine iRdO (j := first + (2 * r + 2)) ht1.ow (by omega) (by omega) ?_
        exact iRetQ (fun w' _ => ok_cmp_Less_string _ _ w') hJ
      · rw [decide_eq_false (show ¬ 2 * r + 2 < hi by omega), Bool.false_and] at hJ
        exact hJ
    · intro _
      simp only [gx]
      have ht4 := ht1.ext h4
      refine iJnX (fun xs w8 => Ext w4 w8 ∧ ∃ c : Nat, xs = [.int .i64 (c : Int)] ∧ (c = 2 * r + 1 ∨ c = 2 * r + 2) ∧ c < hi ∧ ∀ d, (d = 2 * r + 1 ∨ d = 2 * r + 2) → d < hi → ltS (gt L1 (first + c)) (gt L1 (first + d)) = false) (fun J hJ => ?_) ?_
      · cases hc : decide (2 * r + 2 < hi) && ltS (gt L1 (first + (2 * r + 1))) (gt L1 (first + (2 * r + 2)))
        · refine iCndF rfl ?_
          refine hJ _ _ ⟨Ext.refl _, 2 * r + 1, rfl, .inl rfl, by omega, fun d hd hdh => ?_⟩
          rcases hd with hd | hd
          · subst hd; exact ordrS.rfl _
          · subst hd; rw [decide_eq_true hdh, Bool.true_and] at hc; exact hc
        · rw [Bool.and_eq_true, decide_eq_true_eq] at hc
          refine iCndT rfl ?_
          (refine iAdd (by omega) ?_)
          refine hJ _ _ ⟨Ext.refl _, 2 * r + 2, rfl, .inr rfl, hc.1, fun d hd hdh => ?_⟩
          rcases hd with hd | hd
          · subst hd; exact ordrS.asym hc.2
          · subst hd; exact ordrS.rfl _
      · rintro xs w8 ⟨h8, c, rfl, hc, hch, hmax⟩
        intro _
        simp only [gx]
        have ht8 := ht4.ext h8
        (refine iAdd (by omega) ?_)
        refine iRdO (j := first + r) ht8.ow (by omega) (by omega) ?_
        (refine iAdd (by omega) ?_)
        refine iRdO (j := first + c) ht8.ow (by omega) (by omega) ?_
        refine iRetQ (fun w' _ => ok_cmp_Less_string _ _ w') ?_
        refine iNot ?_
        intro w9 h9
        have ht9 := ht8.ext h9
        refine iCnd (fun h5 => ?_) (fun h5 => ?_)
        · refine ⟨L1, ht9, hw1, hsf.done fun d hd hdh => ?_⟩
          have h5 : ltS (gt L1 (first + r)) (gt L1 (first + c)) = false := by simpa using h5
          exact ordrS.tr (hmax d hd hdh) h5
        · have h5 : ltS (gt L1 (first + r)) (gt L1 (first + c)) = true := by simpa using h5
          (refine iAdd (by omega) ?_; refine iAdd (by omega) ?_; refine iAdd (by omega) ?_)
          refine iRdO (j := first + c) ht9.ow (by omega) (by omega) ?_
          (refine iAdd (by omega) ?_)
          refine iRdO (j := first + r) ht9.ow (by omega) (by omega) ?_
          refine iWr2 (i := first + r) (j := first + c) (fun _ => rfl) ht9.ow (by omega) (by omega) (by omega) (by omega) fun w14 h14 => ?_
          exact hKn c _ ⟨by omega, by omega, sw L1 (first + r) (first + c), ht9.trans h14, .step hw1 (by omega) (by omega) (by omega) (by omega) (by omega), hsf.swap ordrS hr hc hch (by omega) h5 hmax⟩ (by omega)
theorem ok_slices_heapSortOrdered_string {lo : Nat} {w : World} {v : Value} {L : List Str} {a b : Nat} (hs : Ow lo t_string w v (strs L)) (hab : a < b) (hb : b ≤ L.length) (hL : L.length ≤ 1152921504606846976) :
    Cal Try.prog f_slices_heapSortOrdered_string #[v, .int .i64 (a : Int), .int .i64 (b : Int)] w fun _ w' => ∃ L', Turn lo t_string sv v w w' L' ∧ SwR a b L L' ∧ Srt ltS a b L' := by
  apply c_slices_heapSortOrdered_string; unfold S_slices_heapSortOrdered_string
  obtain ⟨n, rfl⟩ : ∃ n, b = a + n := ⟨b - a, by omega⟩
  (refine iSub (by omega) ?_; refine iSub (by omega) ?_)
  refine iQuo (by omega) ?_
  refine iLp (fun s : Nat => [.int .i64 ((s : Int) - 1)]) (fun s w' => s ≤ n ∧ ∃ L', Turn lo t_string sv v w w' L' ∧ SwR a (a + n) L L' ∧ Heap ltS a s n L') (fun s => s) ((n - 1) / 2 + 1) (by congr 2; omega) ⟨by omega, L, Turn.refl hs, .refl, fun p c h1 h2 h3 => by omega⟩ ?_
  rintro s w2 Kn ⟨hsn, L1, ht1, hw1, hh⟩ hKn
  have hl1 := hw1.len
  intro _
  simp only [gx]
  refine iLe ?_
  refine iCndP (fun h => ?_) (fun h => ?_)
  · rw [show (s : Int) - 1 = ((s - 1 : Nat) : Int) by omega, show ((a + n : Nat) : Int) - a = (n : Int) by omega]
    refine iCall ?_
    refine (ok_slices_siftDownOrdered_string (lo := s - 1) (hi := n) (first := a) ht1.ow (by omega) (by omega) (by omega) (by rw [show s - 1 + 1 = s by omega]; exact hh)).mono fun _ w3 h3 => ?_
    obtain ⟨L2, ht2, hw2, hh2⟩ := h3
    (refine iSub (by omega) ?_)
    exact hKn (s - 1) _ ⟨by omega, L2, ht1.trans ht2, hw1.trans (hw2.mono (by omega) (Nat.le_refl _) (by omega)), hh2⟩ (by omega)
  · (refine iSub (by omega) ?_)
    have hs0 : s = 0 := by omega
    subst hs0
    refine iLp (fun s : Nat => [.int .i64 ((s : Int) - 1)]) (fun s w' => s ≤ n ∧ ∃ L', Turn lo t_string sv v w w' L' ∧ SwR a (a + n) L L' ∧ Heap ltS a 0 s L' ∧ (∀ p q, a ≤ p → p < q → a + s ≤ q → q < a + n → ltS (gt L' q) (gt L' p) = false)) (fun s => s) n (by congr 2; omega) ⟨Nat.le_refl _, L1, ht1, hw1, hh, fun p q h1 h2 h3 h4 => by omega⟩ ?_
    rintro s w5 Kn5 ⟨hsn, L2, ht2, hw2, hh2, hpr⟩ hKn5
    have hl2 := hw2.len
    intro _
    simp only [gx]
    refine iLe ?_
    refine iCndP (fun h5 => ?_) (fun h5 => ?_)
    · (refine iAdd (by omega) ?_; refine iAdd (by omega) ?_)
      refine iRdO (j := a + (s - 1)) ht2.ow (by omega) (by omega) ?_
      refine iRdO (j := a) ht2.ow rfl (by omega) ?_
      refine iWr2 (i := a) (j := a + (s - 1)) (fun _ => rfl) ht2.ow rfl (by omega) (by omega) (by omega) fun w10 h10 => ?_
      rw [show (s : Int) - 1 = ((s - 1 : Nat) : Int) by omega]
      have e : ∀ k, gt (sw L2 a (a + (s - 1))) k = if k = a + (s - 1) then gt L2 a else if k = a then gt L2 (a + (s - 1)) else gt L2 k := gt_sw (by omega) (by omega)
      have hw3 : SwR a (a + n) L2 (sw L2 a (a + (s - 1))) := .one (by omega) (by omega) (by omega) (by omega) (by omega)
      have htop := Heap.top ordrS hh2
      refine iCall ?_
      refine (ok_slices_siftDownOrdered_string (L := sw L2 a (a + (s - 1))) (lo := 0) (hi := s - 1) (first := a) h10.ow (by omega) (by rw [hw3.len]; omega) (by rw [hw3.len]; omega) (fun p c h1 h2 h3 => by
        rw [e, e, if_neg (by omega), if_neg (by omega), if_neg (by omega), if_neg (by omega)]
        exact hh2 p c (by omega) h2 (by omega))).mono fun _ w11 h11 => ?_
      obtain ⟨L4, ht4, hw4, hh4⟩ := h11
      (refine iSub (by omega) ?_)
      refine hKn5 (s - 1) _ ⟨by omega, L4, (ht2.trans h10).trans ht4, (hw2.trans hw3).trans (hw4.mono (by omega) (by omega) (by rw [hw3.len]; omega)), hh4, fun p q h1 h2 h3 h4 => ?_⟩ (by omega)
      rw [hw4.out (k := q) (by omega)]
      have main : ∀ p, a ≤ p → p < q → ltS (gt (sw L2 a (a + (s - 1))) q) (gt (sw L2 a (a + (s - 1))) p) = false := fun p h1 h2 => by
        rw [e, e]
        by_cases hq : q = a + (s - 1)
        · rw [if_pos hq, if_neg (by omega)]
          split
          · exact htop _ (by omega)
          · obtain ⟨k, rfl⟩ : ∃ k, p = a + k := ⟨p - a, by omega⟩
            exact htop _ (by omega)
        · rw [if_neg hq, if_neg (by omega)]
          split
          · exact hpr a q (by omega) (by omega) (by omega) h4
          · split
            · exact hpr _ q (by omega) (by omega) (by omega) h4
            · exact hpr p q h1 h2 (by omega) h4
      rcases Nat.lt_or_ge p (a + (s - 1)) with hp | hp
      · exact hw4.all (p := fun x => ltS (gt (sw L2 a (a + (s - 1))) q) x = false) (fun k hk hk' => main k (by omega) (by omega)) p (by omega) hp
      · rw [hw4.out (k := p) (by omega)]; exact main p h1 h2
    · exact ⟨L2, ht2, hw2, fun p q h1 h2 h3 => hpr p q h1 h2 (by omega) h3⟩
end Go.Proofs.Ytkjfpiimimfnhaa

/- Contracts: the helpers of pdqsort that draw places: lengths of numbers, xorshift, pivots. Conditions: none. -/
namespace Go.Vc
def len8 : Str := [0, 1, 2, 2, 3, 3, 3, 3, 4, 4, 4, 4, 4, 4, 4, 4, 5, 5, 5, 5, 5, 5, 5, 5, 5, 5, 5, 5, 5, 5, 5, 5, 6, 6, 6, 6, 6, 6, 6, 6, 6, 6, 6, 6, 6, 6, 6, 6, 6, 6, 6, 6, 6, 6, 6, 6, 6, 6, 6, 6, 6, 6, 6, 6,
  7, 7, 7, 7, 7, 7, 7, 7, 7, 7, 7, 7, 7, 7, 7, 7, 7, 7, 7, 7, 7, 7, 7, 7, 7, 7, 7, 7, 7, 7, 7, 7, 7, 7, 7, 7, 7, 7, 7, 7, 7, 7, 7, 7, 7, 7, 7, 7, 7, 7, 7, 7, 7, 7, 7, 7, 7, 7, 7, 7, 7, 7, 7, 7,
  8, 8, 8, 8, 8, 8, 8, 8, 8, 8, 8, 8, 8, 8, 8, 8, 8, 8, 8, 8, 8, 8, 8, 8, 8, 8, 8, 8, 8, 8, 8, 8, 8, 8, 8, 8, 8, 8, 8, 8, 8, 8, 8, 8, 8, 8, 8, 8, 8, 8, 8, 8, 8, 8, 8, 8, 8, 8, 8, 8, 8, 8, 8, 8,
  8, 8, 8, 8, 8, 8, 8, 8, 8, 8, 8, 8, 8, 8, 8, 8, 8, 8, 8, 8, 8, 8, 8, 8, 8, 8, 8, 8, 8, 8, 8, 8, 8, 8, 8, 8, 8, 8, 8, 8, 8, 8, 8, 8, 8, 8, 8, 8, 8, 8, 8, 8, 8, 8, 8, 8, 8, 8, 8, 8, 8, 8, 8, 8]
theorem len8_ok : ∀ x : Fin 256, x.val < 2 ^ (len8.getD x.val 0).toNat ∧ (1 ≤ x.val → 2 ^ (len8.getD x.val 0).toNat ≤ 2 * x.val) ∧ (len8.getD x.val 0).toNat ≤ 8 := by decide +kernel
theorem iAndU {a : Int} {m : Nat} {K : Value → Prop} (hm : m < 2 ^ 64) (h : ∀ x : Nat, x ≤ m → K (.int .u64 (x : Int))) : xBits iAnd .u64 (.int .u64 a) (.int .u64 (m : Int)) K := by
  refine ⟨_, _, rfl, rfl, ?_⟩
  have e : iAnd .u64 a (m : Int) = (((BitVec.ofInt 64 a &&& BitVec.ofInt 64 (m : Int)).toNat : Nat) : Int) := by
    rw [show iAnd .u64 a (m : Int) = IntKind.u64.wrap ((BitVec.ofInt 64 a &&& BitVec.ofInt 64 (m : Int)).toNat : Nat) from rfl]
    exact IntWalk.u64_in _ (by have := (BitVec.ofInt 64 a &&& BitVec.ofInt 64 (m : Int)).isLt; omega)
  rw [e]
  refine h _ ?_
  rw [BitVec.toNat_and, ofInt_nat, BitVec.toNat_ofNat, Nat.mod_eq_of_lt (a := m) (by omega)]
  exact Nat.and_le_right
theorem iStC {e : TypeId} {w : World} {b : Nat} {old v : Value} {K : World → Prop} (hb : Blk e w b [old]) (hv : isCell v = true) (h : ∀ w', Blk e w' b [v] → Ch (fun c => c = b) w w' → K w') : xSt w (.pointer (some ⟨b, 0, none⟩)) v K :=
  iStB hb (by simp) hv fun h2 => h _ h2 ((Upd.setCell w b 0 v).ch rfl)
theorem iShrU {a j : Nat} {K : Value → Prop} (hj : j ≤ 64) (h : K (.int .u64 ((a / 2 ^ j : Nat) : Int))) : xSh iShr .u64 (.int .u64 (a : Int)) (.int .u64 (j : Int)) K := by
  refine ⟨_, _, _, rfl, rfl, by omega, ?_⟩
  rw [show iShr .u64 (a : Int) (j : Int) = ((a / 2 ^ j : Nat) : Int) by
    unfold iShr
    rw [Int.toNat_natCast, show IntKind.u64.bits = 64 from rfl, Nat.min_eq_left hj, Int.fdiv_eq_ediv_of_nonneg _ (Int.le_of_lt (Int.pow_pos (by omega)))]
    push_cast
    rfl]
  exact h
end Go.Vc
namespace Go.Proofs.Ytkjfpiimimfnhaa
open Go.Vc
set_option maxRecDepth 20000 in
theorem ok_math_bits_Len64 {n : Nat} (hn : n < 2 ^ 63) (w : World) : Cal Try.prog f_math_bits_Len64 #[.int .u64 (n : Int)] w fun r w' => Ext w w' ∧ ∃ k : Nat, r = .int .i64 (k : Int) ∧ n < 2 ^ k ∧ (1 ≤ n → 2 ^ k ≤ 2 * n) ∧ k ≤ 64 := by
  apply c_math_bits_Len64; unfold S_math_bits_Len64
  -- at each join: what is left of n, and by how many bits it was shifted
  have stage : ∀ {x m s : Nat}, x = n / 2 ^ m → x / 2 ^ s = n / 2 ^ (m + s) := fun {x m s} h => by rw [h, Nat.div_div_eq_div_mul, ← Nat.pow_add]
  ((with_reducible refine iLe ?_))
  refine iJnX (fun xs w' => Ext w w' ∧ ∃ x m : Nat, xs = [.int .u64 (x : Int), .int .i64 (m : Int)] ∧ x = n / 2 ^ m ∧ x < 2 ^ 32 ∧ (1 ≤ m → 1 ≤ x) ∧ m ≤ 32) (fun J hJ => ?_) ?_
  · refine iCndP (fun h => ?_) (fun h => ?_)
    · refine iShrU (j := 32) (by omega) ?_
      exact hJ _ _ ⟨Ext.refl _, _, 32, rfl, rfl, by omega, by omega, by omega⟩
    · exact hJ _ _ ⟨Ext.refl _, n, 0, rfl, by simp, by omega, by omega, by omega⟩
  rintro xs w2 ⟨h2, x, m, rfl, hx, hx32, hm1, hm⟩
  intro _
  simp only [gx]
  ((with_reducible refine iLe ?_))
  refine iJnX (fun xs w' => Ext w w' ∧ ∃ x m : Nat, xs = [.int .u64 (x : Int), .int .i64 (m : Int)] ∧ x = n / 2 ^ m ∧ x < 2 ^ 16 ∧ (1 ≤ m → 1 ≤ x) ∧ m ≤ 48) (fun J hJ => ?_) ?_
  · refine iCndP (fun h => ?_) (fun h => ?_)
    · refine iShrU (j := 16) (by omega) ?_
      (refine iAdd (by omega) ?_)
      exact hJ _ _ ⟨h2, _, m + 16, rfl, stage hx, by omega, by omega, by omega⟩
    · exact hJ _ _ ⟨h2, x, m, rfl, hx, by omega, hm1, by omega⟩
  rintro xs w4 ⟨h4, x, m, rfl, hx, hx16, hm1, hm⟩
  intro _
  simp only [gx]
  ((with_reducible refine iLe ?_))
  refine iJnX (fun xs w' => Ext w w' ∧ ∃ x m : Nat, xs = [.int .u64 (x : Int), .int .i64 (m : Int)] ∧ x = n / 2 ^ m ∧ x < 2 ^ 8 ∧ (1 ≤ m → 1 ≤ x) ∧ m ≤ 56) (fun J hJ => ?_) ?_
  · refine iCndP (fun h => ?_) (fun h => ?_)
    · refine iShrU (j := 8) (by omega) ?_
      (refine iAdd (by omega) ?_)
      exact hJ _ _ ⟨h4, _, m + 8, rfl, stage hx, by omega, by omega, by omega⟩
    · exact hJ _ _ ⟨h4, x, m, rfl, hx, by omega, hm1, by omega⟩
  rintro xs w6 ⟨h6, x, m, rfl, hx, hx8, hm1, hm⟩
  intro _
  simp only [gx]
  obtain ⟨t1, t2, t3⟩ : x < 2 ^ (len8.getD x 0).toNat ∧ (1 ≤ x → 2 ^ (len8.getD x 0).toNat ≤ 2 * x) ∧ (len8.getD x 0).toNat ≤ 8 := len8_ok ⟨x, hx8⟩
  refine ⟨_, _, rfl, ?_⟩
  rw [IntWalk.u8_in _ (by omega)]
  refine iIs (l := len8) (j := x) (by show x < 256; omega) ?_
  refine iConv64 (by omega) ?_
  refine iAdd (by omega) ?_
  refine ⟨h6, m + (len8.getD x 0).toNat, by first | rfl | (push_cast; rfl), ?_, fun h1 => ?_, by omega⟩
  · have := Nat.lt_div_mul_add (a := n) (b := 2 ^ m) (Nat.two_pow_pos m)
    rw [← hx] at this
    have h3 : (x + 1) * 2 ^ m ≤ 2 ^ (len8.getD x 0).toNat * 2 ^ m := Nat.mul_le_mul_right _ t1
    rw [Nat.pow_add, Nat.mul_comm (2 ^ m)]
    rw [Nat.add_mul] at h3
    omega
  · rcases Nat.eq_zero_or_pos x with h0 | h0
    · have hm0 : m = 0 := by omega
      subst hm0
      simp at hx
      omega
    · have h3 := Nat.mul_le_mul_left (2 ^ m) (t2 h0)
      have h4 : 2 ^ m * x ≤ n := by rw [hx]; exact Nat.mul_div_le n (2 ^ m)
      rw [Nat.pow_add]
      rw [Nat.mul_left_comm] at h3
      omega
theorem ok_math_bits_Len {n : Nat} (hn : n < 2 ^ 63) (w : World) : Cal Try.prog f_math_bits_Len #[.int .u64 (n : Int)] w fun r w' => Ext w w' ∧ ∃ k : Nat, r = .int .i64 (k : Int) ∧ n < 2 ^ k ∧ (1 ≤ n → 2 ^ k ≤ 2 * n) ∧ k ≤ 64 := by
  apply c_math_bits_Len; unfold S_math_bits_Len
  exact iCall (ok_math_bits_Len64 hn w)
theorem ok_slices_nextPowerOfTwo {n : Nat} (h1 : 1 ≤ n) (hn : n ≤ 1152921504606846976) (w : World) : Cal Try.prog f_slices_nextPowerOfTwo #[.int .i64 (n : Int)] w fun r w' => Ext w w' ∧ ∃ m : Nat, r = .int .u64 (m : Int) ∧ 1 ≤ m ∧ m ≤ 2 * n := by
  apply c_slices_nextPowerOfTwo; unfold S_slices_nextPowerOfTwo
  refine iConvU (by omega) ?_
  refine iCall ?_
  refine (ok_math_bits_Len (by omega) w).mono fun r w1 h => ?_
  obtain ⟨h1', k, rfl, hk1, hk2, hk3⟩ := h
  have hk := hk2 h1
  refine ⟨_, _, _, rfl, rfl, by omega, ?_⟩
  have e : iShl .u64 1 (k : Int) = ((2 ^ k : Nat) : Int) := by
    rw [show iShl .u64 1 (k : Int) = IntKind.u64.wrap (1 * 2 ^ min (k : Int).toNat 64) from rfl, Int.toNat_natCast, Nat.min_eq_left hk3, Int.one_mul, show ((2 : Int) ^ k) = ((2 ^ k : Nat) : Int) by push_cast; rfl]
    exact IntWalk.u64_in _ (by omega)
  rw [e]
  exact ⟨h1', 2 ^ k, rfl, Nat.two_pow_pos k, hk⟩
theorem ok_slices_xorshift_Next {e : TypeId} {w : World} {b : Nat} {x : Int} (hb : Blk e w b [.int .u64 x]) : Cal Try.prog f_slices_xorshift_Next #[.pointer (some ⟨b, 0, none⟩)] w fun r w' => ∃ y : Int, r = .int .u64 y ∧ Blk e w' b [.int .u64 y] ∧ Ch (fun c => c = b) w w' := by
  apply c_slices_xorshift_Next; unfold S_slices_xorshift_Next
  ((with_reducible refine iNil ?_); refine iLdB (by assumption) (by first | rfl | simp) ?_; (with_reducible refine iNil ?_); refine iLdB (by assumption) (by first | rfl | simp) ?_)
  refine ⟨_, _, _, rfl, rfl, by omega, ?_⟩
  refine ⟨_, _, rfl, rfl, ?_⟩
  ((with_reducible refine iNil ?_))
  intro w1 h1
  refine iStC (hb.ext h1) rfl fun w2 hb2 h2 => ?_
  intro w3 h3
  have hb3 := hb2.ext h3
  have c3 := ch_ext ((h1.ch.trans h2 fun _ e => .inl e)) h3
  clear hb2 h2
  ((with_reducible refine iNil ?_); refine iLdB (by assumption) (by first | rfl | simp) ?_; (with_reducible refine iNil ?_); refine iLdB (by assumption) (by first | rfl | simp) ?_)
  refine ⟨_, _, _, rfl, rfl, by omega, ?_⟩
  refine ⟨_, _, rfl, rfl, ?_⟩
  ((with_reducible refine iNil ?_))
  intro w4 h4
  refine iStC (hb3.ext h4) rfl fun w5 hb5 h5 => ?_
  intro w6 h6
  have hb6 := hb5.ext h6
  have c6 := ch_ext (ch_self (ch_ext c3 h4) h5) h6
  clear hb5 hb3 hb c3
  ((with_reducible refine iNil ?_); refine iLdB (by assumption) (by first | rfl | simp) ?_; (with_reducible refine iNil ?_); refine iLdB (by assumption) (by first | rfl | simp) ?_)
  refine ⟨_, _, _, rfl, rfl, by omega, ?_⟩
  refine ⟨_, _, rfl, rfl, ?_⟩
  ((with_reducible refine iNil ?_))
  intro w7 h7
  refine iStC (hb6.ext h7) rfl fun w8 hb8 h8 => ?_
  intro w9 h9
  have hb9 := hb8.ext h9
  have c9 := ch_ext (ch_self (ch_ext c6 h7) h8) h9
  clear hb8 hb6 c6
  ((with_reducible refine iNil ?_); refine iLdB (by assumption) (by first | rfl | simp) ?_)
  exact ⟨_, rfl, hb9, c9⟩
theorem ok_slices_breakPatternsOrdered_string {lo : Nat} {w : World} {v : Value} {L : List Str} {a b : Nat} (hs : Ow lo t_string w v (strs L)) (hab : a ≤ b) (hb : b ≤ L.length) (hL : L.length ≤ 1152921504606846976) :
    Cal Try.prog f_slices_breakPatternsOrdered_string #[v, .int .i64 (a : Int), .int .i64 (b : Int)] w fun _ w' => ∃ L', Turn lo t_string sv v w w' L' ∧ SwR a b L L' := by
  apply c_slices_breakPatternsOrdered_string; unfold S_slices_breakPatternsOrdered_string
  obtain ⟨n, rfl⟩ : ∃ n, b = a + n := ⟨b - a, by omega⟩
  refine iSub (by omega) ?_
  rw [show ((a + n : Nat) : Int) - a = (n : Int) by omega]
  refine iLe ?_
  refine iCndP (fun h => ?_) (fun h => ?_)
  · refine iConvU (by omega) ?_
    refine iNew fun c w1 hc1 h1 hb1 => ?_
    refine iStB hb1 (by simp [Value.cells]) rfl fun hb2 => ?_
    have x2 : Ext w (w1.setCell ⟨c, 0, none⟩ (.int .u64 (n : Int))) := ext_set h1 (by show w.heap.size ≤ c; omega) _
    refine iCall ?_
    refine (ok_slices_nextPowerOfTwo (by omega) (by omega) _).mono fun r w3 h3 => ?_
    obtain ⟨h3, m, rfl, hm1, hm2⟩ := h3
    have hb3 := hb2.ext h3
    have hs3 := (hs.ext x2).ext h3
    have hne : v.ownBlock ≠ some c := hs.lt (by omega)
    refine iQuo (by omega) ?_
    refine iMul (by omega) ?_
    refine iAdd (by omega) ?_
    refine iSub (by omega) ?_
    refine iLp (fun i : Nat => [.int .i64 (i : Int)]) (fun i w' => a + n / 4 * 2 - 1 ≤ i ∧ (∃ x, Blk 100 w' c [.int .u64 x]) ∧ ∃ L', Turn lo t_string sv v w w' L' ∧ SwR a (a + n) L L') (fun i => a + n - i) (a + n / 4 * 2 - 1) (by congr 2; omega)
      ⟨Nat.le_refl _, ⟨_, hb3⟩, L, ⟨hs3, ((x2.trans h3).ch)⟩, .refl⟩ ?_
    rintro i w5 Kn ⟨hi, ⟨x, hb5⟩, L1, ht1, hw1⟩ hKn
    have hl1 := hw1.len
    intro _
    simp only [gx]
    refine iQuo (by omega) ?_
    refine iMul (by omega) ?_
    refine iAdd (by omega) ?_
    refine iAdd (by omega) ?_
    refine iLe ?_
    refine iCndP (fun h5 => ?_) (fun h5 => ?_)
    · refine iCall ?_
      refine (ok_slices_xorshift_Next hb5).mono fun r w6 h6 => ?_
      obtain ⟨y, rfl, hb6, hc6⟩ := h6
      have hs6 := ht1.ow.ch hc6 fun c' hc' e => hne (e ▸ hc')
      refine ⟨_, _, rfl, rfl, ?_⟩
      rw [show IntKind.u64.wrap ((m : Int) - 1) = ((m - 1 : Nat) : Int) by rw [IntWalk.u64_in _ (by omega)]; omega]
      refine iAndU (by omega) fun x hx => ?_
      refine iConv64 (by omega) ?_
      refine iLe ?_
      refine iJnX (fun xs w8 => Ext w6 w8 ∧ ∃ z : Nat, xs = [.int .i64 (z : Int)] ∧ z < n) (fun J hJ => ?_) ?_
      · refine iCndP (fun h7 => ?_) (fun h7 => ?_)
        · refine iSub (by omega) ?_
          rw [show (x : Int) - n = ((x - n : Nat) : Int) by omega]
          exact hJ _ _ ⟨Ext.refl _, x - n, rfl, by omega⟩
        · exact hJ _ _ ⟨Ext.refl _, x, rfl, by omega⟩
      rintro xs w8 ⟨h8, z, rfl, hz⟩
      intro _
      simp only [gx]
      have hs8 := hs6.ext h8
      have hb8 := hb6.ext h8
      have hc8 := ch_ext hc6 h8
      refine iAdd (by omega) ?_
      refine iAdd (by omega) ?_
      refine iRdO (j := a + z) hs8 (by omega) (by omega) ?_
      refine iRdO (j := i) hs8 rfl (by omega) ?_
      refine iWr2 (i := i) (j := a + z) (fun _ => rfl) hs8 rfl (by omega) (by omega) (by omega) fun w13 h13 => ?_
      refine iAdd (by omega) ?_
      refine hKn (i + 1) _ ⟨by omega, ⟨_, hb8.ch h13.ch fun e => hne e⟩, sw L1 i (a + z), ⟨h13.ow, ?_⟩, .step hw1 (by omega) (by omega) (by omega) (by omega) hb⟩ (by omega)
      refine (ht1.ch.trans hc8 fun c' e => .inr ?_).trans h13.ch fun _ e => .inl e
      omega
    · exact ⟨L1, ht1, hw1⟩
  · exact ⟨L, Turn.refl hs, .refl⟩
end Go.Proofs.Ytkjfpiimimfnhaa

/- Contracts: pivots, partitions and the trial of insertion of pdqsort. Conditions: none. -/
namespace Go.Proofs.Ytkjfpiimimfnhaa
open Go.Vc
theorem ok_slices_order2Ordered_string {lo : Nat} {e : TypeId} {w : World} {v : Value} {L : List Str} {i j c n : Nat} (hs : Ow lo t_string w v (strs L)) (hi : i < L.length) (hj : j < L.length) (hb : Blk e w c [.int .i64 (n : Int)]) (hn : n ≤ 1000) :
    Cal Try.prog f_slices_order2Ordered_string #[v, .int .i64 (i : Int), .int .i64 (j : Int), .pointer (some ⟨c, 0, none⟩)] w fun r w' => ∃ i' j' m : Nat, r = .tuple #[.int .i64 (i' : Int), .int .i64 (j' : Int)] ∧ ((i' = i ∧ j' = j) ∨ (i' = j ∧ j' = i)) ∧ m ≤ n + 1 ∧ Blk e w' c [.int .i64 (m : Int)] ∧ Ch (fun d => d = c) w w' := by
  apply c_slices_order2Ordered_string; unfold S_slices_order2Ordered_string
  refine iRdO (j := j) hs rfl hj ?_
  refine iRdO (j := i) hs rfl hi ?_
  refine iRetQ (fun w' _ => ok_cmp_Less_string _ _ w') ?_
  intro w1 h1
  have hb1 := hb.ext h1
  refine iCnd (fun h => ?_) (fun h => ?_)
  · ((with_reducible refine iNil ?_); refine iLdB (by assumption) (by first | rfl | simp) ?_; refine iAdd (by omega) ?_; (with_reducible refine iNil ?_))
    refine iStC hb1 rfl fun w2 hb2 hc2 => ?_
    exact ⟨j, i, n + 1, rfl, .inr ⟨rfl, rfl⟩, Nat.le_refl _, hb2, (h1.ch.trans hc2 fun _ e => .inl e)⟩
  · exact ⟨i, j, n, rfl, .inl ⟨rfl, rfl⟩, by omega, hb1, h1.ch⟩
theorem ok_slices_medianOrdered_string {lo : Nat} {e : TypeId} {w : World} {v : Value} {L : List Str} {i j k c n : Nat} (hs : Ow lo t_string w v (strs L)) (hne : v.ownBlock ≠ some c) (hi : i < L.length) (hj : j < L.length) (hk : k < L.length) (hb : Blk e w c [.int .i64 (n : Int)]) (hn : n ≤ 900) :
    Cal Try.prog f_slices_medianOrdered_string #[v, .int .i64 (i : Int), .int .i64 (j : Int), .int .i64 (k : Int), .pointer (some ⟨c, 0, none⟩)] w fun r w' => ∃ t m : Nat, r = .int .i64 (t : Int) ∧ (t = i ∨ t = j ∨ t = k) ∧ m ≤ n + 3 ∧ Blk e w' c [.int .i64 (m : Int)] ∧ Ch (fun d => d = c) w w' := by
  apply c_slices_medianOrdered_string; unfold S_slices_medianOrdered_string
  refine iCall ?_
  refine (ok_slices_order2Ordered_string hs hi hj hb (by omega)).mono fun r w1 h1 => ?_
  obtain ⟨i1, j1, n1, rfl, h1, hn1, hb1, hc1⟩ := h1
  have hs1 := hs.ch hc1 fun d hd e => hne (e ▸ hd)
  ((with_reducible refine iE20 ?_; refine iE21 ?_))
  refine iCall ?_
  refine (ok_slices_order2Ordered_string (i := j1) hs1 (by rcases h1 with h | h <;> omega) hk hb1 (by omega)).mono fun r w2 h2 => ?_
  obtain ⟨j2, k2, n2, rfl, h2, hn2, hb2, hc2⟩ := h2
  have hs2 := hs1.ch hc2 fun d hd e => hne (e ▸ hd)
  ((with_reducible refine iE20 ?_; refine iE21 ?_))
  refine iCall ?_
  refine (ok_slices_order2Ordered_string (i := i1) (j := j2) hs2 (by rcases h1 with h | h <;> omega) (by rcases h1 with h | h <;> rcases h2 with h' | h' <;> omega) hb2 (by omega)).mono fun r w3 h3 => ?_
  obtain ⟨i3, j3, n3, rfl, h3, hn3, hb3, hc3⟩ := h3
  ((with_reducible refine iE20 ?_; refine iE21 ?_))
  exact ⟨j3, n3, rfl, by rcases h1 with h | h <;> rcases h2 with h' | h' <;> rcases h3 with h'' | h'' <;> omega, by omega, hb3, ch_self (ch_self hc1 hc2) hc3⟩
theorem ok_slices_medianAdjacentOrdered_string {lo : Nat} {e : TypeId} {w : World} {v : Value} {L : List Str} {i c n : Nat} (hs : Ow lo t_string w v (strs L)) (hne : v.ownBlock ≠ some c) (h1 : 1 ≤ i) (hi : i + 1 < L.length) (hL : L.length ≤ 1152921504606846976) (hb : Blk e w c [.int .i64 (n : Int)]) (hn : n ≤ 900) :
    Cal Try.prog f_slices_medianAdjacentOrdered_string #[v, .int .i64 (i : Int), .pointer (some ⟨c, 0, none⟩)] w fun r w' => ∃ t m : Nat, r = .int .i64 (t : Int) ∧ (t = i - 1 ∨ t = i ∨ t = i + 1) ∧ m ≤ n + 3 ∧ Blk e w' c [.int .i64 (m : Int)] ∧ Ch (fun d => d = c) w w' := by
  apply c_slices_medianAdjacentOrdered_string; unfold S_slices_medianAdjacentOrdered_string
  (refine iSub (by omega) ?_; refine iAdd (by omega) ?_)
  rw [show (i : Int) - 1 = ((i - 1 : Nat) : Int) by omega]
  refine iCall ?_
  exact ok_slices_medianOrdered_string (i := i - 1) (j := i) (k := i + 1) hs hne (by omega) (by omega) hi hb hn
theorem ok_slices_choosePivotOrdered_string {lo : Nat} {w : World} {v : Value} {L : List Str} {a b : Nat} (hs : Ow lo t_string w v (strs L)) (hab : a + 8 ≤ b) (hb : b ≤ L.length) (hL : L.length ≤ 1152921504606846976) :
    Cal Try.prog f_slices_choosePivotOrdered_string #[v, .int .i64 (a : Int), .int .i64 (b : Int)] w fun r w' => Ext w w' ∧ ∃ t : Nat, ∃ x : Int, r = .tuple #[.int .i64 (t : Int), .int .i64 x] ∧ a ≤ t ∧ t < b := by
  apply c_slices_choosePivotOrdered_string; unfold S_slices_choosePivotOrdered_string
  obtain ⟨n, rfl⟩ : ∃ n, b = a + n := ⟨b - a, by omega⟩
  refine iSub (by omega) ?_
  rw [show ((a + n : Nat) : Int) - a = (n : Int) by omega]
  refine iNew fun c w1 hc1 h1 hb1 => ?_
  have hne : v.ownBlock ≠ some c := hs.lt (by omega)
  have hs1 := hs.ext h1
  have new : ∀ {w' : World}, Ch (fun d => d = c) w1 w' → Ext w w' := fun {w'} h => h1.thenCh h fun d e => by omega
  refine iQuo (by omega) ?_
  refine iMul (by omega) ?_
  refine iAdd (by omega) ?_
  refine iQuo (by omega) ?_
  refine iMul (by omega) ?_
  refine iAdd (by omega) ?_
  refine iQuo (by omega) ?_
  refine iMul (by omega) ?_
  refine iAdd (by omega) ?_
  refine iLe ?_
  rw [show (a : Int) + (n : Int) / 4 * 1 = ((a + n / 4 * 1 : Nat) : Int) by omega, show (a : Int) + (n : Int) / 4 * 2 = ((a + n / 4 * 2 : Nat) : Int) by omega, show (a : Int) + (n : Int) / 4 * 3 = ((a + n / 4 * 3 : Nat) : Int) by omega]
  refine iJnX (fun xs w' => ∃ t m : Nat, xs = [.int .i64 (t : Int)] ∧ a ≤ t ∧ t < a + n ∧ Blk 3 w' c [.int .i64 (m : Int)] ∧ Ch (fun d => d = c) w1 w') (fun J hJ => ?_) ?_
  · refine iCndP (fun h => ?_) (fun h => ?_)
    · refine iLe ?_
      refine iJnX (fun xs w' => ∃ i j k m : Nat, xs = [.int .i64 (i : Int), .int .i64 (j : Int), .int .i64 (k : Int)] ∧ a ≤ i ∧ i < a + n ∧ a ≤ j ∧ j < a + n ∧ a ≤ k ∧ k < a + n ∧ m ≤ 9 ∧ Blk 3 w' c [.int .i64 (m : Int)] ∧ Ch (fun d => d = c) w1 w') (fun J' hJ' => ?_) ?_
      · refine iCndP (fun h5 => ?_) (fun h5 => ?_)
        · refine iCall ?_
          refine (ok_slices_medianAdjacentOrdered_string (n := 0) hs1 hne (by omega) (by omega) hL hb1 (by omega)).mono fun r w2 h2 => ?_
          obtain ⟨i, m1, rfl, hi, hm1, hb2, hc2⟩ := h2
          have hs2 := hs1.ch hc2 fun d hd e => hne (e ▸ hd)
          refine iCall ?_
          refine (ok_slices_medianAdjacentOrdered_string hs2 hne (by omega) (by omega) hL hb2 (by omega)).mono fun r w3 h3 => ?_
          obtain ⟨j, m2, rfl, hj, hm2, hb3, hc3⟩ := h3
          have hs3 := hs2.ch hc3 fun d hd e => hne (e ▸ hd)
          refine iCall ?_
          refine (ok_slices_medianAdjacentOrdered_string hs3 hne (by omega) (by omega) hL hb3 (by omega)).mono fun r w4 h4 => ?_
          obtain ⟨k, m3, rfl, hk, hm3, hb4, hc4⟩ := h4
          exact hJ' _ _ ⟨i, j, k, m3, rfl, by omega, by omega, by omega, by omega, by omega, by omega, by omega, hb4, ch_self (ch_self hc2 hc3) hc4⟩
        · exact hJ' _ _ ⟨_, _, _, 0, rfl, by omega, by omega, by omega, by omega, by omega, by omega, by omega, hb1, (Ext.refl _).ch⟩
      rintro xs w5 ⟨i, j, k, m, rfl, h11, h12, h21, h22, h31, h32, hm, hb5, hc5⟩
      intro _
      simp only [gx]
      have hs5 := hs1.ch hc5 fun d hd e => hne (e ▸ hd)
      refine iCall ?_
      refine (ok_slices_medianOrdered_string hs5 hne (i := i) (j := j) (k := k) (by omega) (by omega) (by omega) hb5 (by omega)).mono fun r w6 h6 => ?_
      obtain ⟨t, m', rfl, ht, hm', hb6, hc6⟩ := h6
      exact hJ _ _ ⟨t, m', rfl, by omega, by omega, hb6, ch_self hc5 hc6⟩
    · omega
  rintro xs w3 ⟨t, m, rfl, ht1, ht2, hb3, hc3⟩
  intro _
  simp only [gx]
  (refine iLdB (by assumption) (by first | rfl | simp) ?_; (with_reducible refine iEq ?_))
  refine iCndP (fun h => ?_) (fun h => ?_)
  · exact ⟨new hc3, t, 1, rfl, ht1, ht2⟩
  · ((with_reducible refine iEq ?_))
    refine iCndP (fun h => ?_) (fun h => ?_)
    · exact ⟨new hc3, t, 2, rfl, ht1, ht2⟩
    · exact ⟨new hc3, t, 0, rfl, ht1, ht2⟩
theorem ok_slices_partitionEqualOrdered_string {lo : Nat} {w : World} {v : Value} {L : List Str} {a b t : Nat} (hs : Ow lo t_string w v (strs L)) (hat : a ≤ t) (htb : t < b) (hb : b ≤ L.length) (hL : L.length ≤ 1152921504606846976) :
    Cal Try.prog f_slices_partitionEqualOrdered_string #[v, .int .i64 (a : Int), .int .i64 (b : Int), .int .i64 (t : Int)] w fun r w' => ∃ L' : List Str, ∃ m : Nat, r = .int .i64 (m : Int) ∧ Turn lo t_string sv v w w' L' ∧ SwR a b L L' ∧ a < m ∧ m ≤ b ∧ (∀ k, a ≤ k → k < m → ltS (gt L t) (gt L' k) = false) := by
  apply c_slices_partitionEqualOrdered_string; unfold S_slices_partitionEqualOrdered_string
  refine iRdO (j := t) hs rfl (by omega) ?_
  refine iRdO (j := a) hs rfl (by omega) ?_
  refine iWr2 (i := a) (j := t) (fun _ => rfl) hs rfl rfl (by omega) (by omega) fun w5 h5 => ?_
  have e0 : gt (sw L a t) a = gt L t := by rw [gt_sw (by omega) (by omega)]; split <;> simp_all
  (refine iAdd (by omega) ?_; refine iSub (by omega) ?_)
  refine iLp (fun s : Nat × Int => [.int .i64 (s.1 : Int), .int .i64 s.2]) (fun s w' => a + 1 ≤ s.1 ∧ s.1 ≤ b ∧ (s.1 : Int) - 1 ≤ s.2 + 1 ∧ s.2 < b ∧ ∃ L', Turn lo t_string sv v w w' L' ∧ SwR a b L L' ∧ gt L' a = gt L t ∧ ∀ k, a ≤ k → k < s.1 → ltS (gt L t) (gt L' k) = false) (fun s => b - s.1) (a + 1, (b : Int) - 1) rfl
    ⟨Nat.le_refl _, by show a + 1 ≤ b; omega, by show ((a + 1 : Nat) : Int) - 1 ≤ (b : Int) - 1 + 1; omega, by show (b : Int) - 1 < b; omega, sw L a t, h5, .one (Nat.le_refl _) (by omega) hat htb hb, e0, fun k h1 h2 => by have h2 : k < a + 1 := h2; rw [show k = a by omega, e0]; exact ordrS.rfl _⟩ ?_
  rintro ⟨i0, j0⟩ w7 Kn ⟨hi0, hib0, hij0, hjb0, L1, ht1, hw1, he1, hq1⟩ hKn
  have hi0 : a + 1 ≤ i0 := hi0
  have hib0 : i0 ≤ b := hib0
  have hij0 : (i0 : Int) - 1 ≤ j0 + 1 := hij0
  have hjb0 : j0 < b := hjb0
  have hq1 : ∀ k, a ≤ k → k < i0 → ltS (gt L t) (gt L1 k) = false := hq1
  have hl1 := hw1.len
  intro _
  simp only [gx]
  refine iLp (fun i : Nat => [.int .i64 (i : Int)]) (fun i w' => i0 ≤ i ∧ i ≤ b ∧ (i : Int) - 1 ≤ j0 + 1 ∧ Ext w7 w' ∧ ∀ k, a ≤ k → k < i → ltS (gt L t) (gt L1 k) = false) (fun i => b - i) i0 rfl ⟨Nat.le_refl _, hib0, hij0, Ext.refl _, hq1⟩ ?_
  rintro i w9 Kn9 ⟨hi, hib, hij, h9, hq⟩ hKn9
  intro _
  simp only [gx]
  have ht9 := ht1.ext h9
  refine iJnB (decide ((i : Int) ≤ j0) && !ltS (gt L1 a) (gt L1 i)) w9 (fun J hJ => ?_) (fun w11 h11 => ?_)
  · refine iLe ?_
    refine iCndP (fun h => ?_) (fun h => ?_)
    · rw [decide_eq_true h, Bool.true_and] at hJ
      refine iRdO (j := a) ht9.ow rfl (by omega) ?_
      refine iRdO (j := i) ht9.ow rfl (by omega) ?_
      exact iRetQ (fun w' _ => ok_cmp_Less_string _ _ w') (iNot hJ)
    · rw [decide_eq_false h, Bool.false_and] at hJ
      exact hJ
  intro _
  simp only [gx]
  have h9' := h9.trans h11
  cases hc : decide ((i : Int) ≤ j0) && !ltS (gt L1 a) (gt L1 i)
  rotate_left
  · rw [Bool.and_eq_true, decide_eq_true_eq, Bool.not_eq_true'] at hc
    refine iCndT rfl ?_
    (refine iAdd (by omega) ?_)
    refine hKn9 (i + 1) _ ⟨by omega, by omega, by omega, h9', fun k h1 h2 => ?_⟩ (by omega)
    by_cases hk : k = i
    · rw [hk, ← he1]; exact hc.2
    · exact hq k h1 (by omega)
  refine iCndF rfl ?_
  refine iLp (fun j : Int => [.int .i64 j]) (fun j w' => j ≤ j0 ∧ (i : Int) - 1 ≤ j + 1 ∧ Ext w7 w' ∧ (j < j0 → (i : Int) - 1 ≤ j)) (fun j => (j + 2).toNat) j0 rfl ⟨Int.le_refl _, hij, h9', fun h => by omega⟩ ?_
  rintro j w15 Kn15 ⟨hjj, hij2, h15, hij3⟩ hKn15
  intro _
  simp only [gx]
  have ht15 := ht1.ext h15
  refine iJnB (decide ((i : Int) ≤ j) && ltS (gt L1 a) (gt L1 j.toNat)) w15 (fun J hJ => ?_) (fun w17 h17 => ?_)
  · refine iLe ?_
    refine iCndP (fun h => ?_) (fun h => ?_)
    · rw [decide_eq_true h, Bool.true_and] at hJ
      refine iRdO (j := a) ht15.ow rfl (by omega) ?_
      refine iRdO (j := j.toNat) ht15.ow (by omega) (by omega) ?_
      exact iRetQ (fun w' _ => ok_cmp_Less_string _ _ w') hJ
    · rw [decide_eq_false h, Bool.false_and] at hJ
      exact hJ
  intro _
  simp only [gx]
  have ht17 := ht15.ext h17
  cases hc2 : decide ((i : Int) ≤ j) && ltS (gt L1 a) (gt L1 j.toNat)
  rotate_left
  · rw [Bool.and_eq_true, decide_eq_true_eq] at hc2
    refine iCndT rfl ?_
    refine iSub (by omega) ?_
    exact hKn15 (j - 1) _ ⟨by omega, by omega, h15.trans h17, fun _ => by omega⟩ (by omega)
  refine iCndF rfl ?_
  refine iLt ?_
  refine iCndP (fun h => ?_) (fun h => ?_)
  · exact ⟨L1, i, rfl, ht17, hw1, by omega, hib, hq⟩
  · have hlt : ltS (gt L1 a) (gt L1 j.toNat) = false := by
      rw [decide_eq_true (show (i : Int) ≤ j by omega), Bool.true_and] at hc2; exact hc2
    refine iRdO (j := j.toNat) ht17.ow (by omega) (by omega) ?_
    refine iRdO (j := i) ht17.ow rfl (by omega) ?_
    refine iWr2 (i := i) (j := j.toNat) (fun _ => rfl) ht17.ow rfl (by omega) (by omega) (by omega) fun w24 h24 => ?_
    refine iAdd (by omega) ?_
    refine iSub (by omega) ?_
    have eS : ∀ k, gt (sw L1 i j.toNat) k = if k = j.toNat then gt L1 i else if k = i then gt L1 j.toNat else gt L1 k := gt_sw (by omega) (by omega)
    refine hKn (i + 1, j - 1) _ ⟨by show a + 1 ≤ i + 1; omega, by show i + 1 ≤ b; omega, by show ((i + 1 : Nat) : Int) - 1 ≤ j - 1 + 1; omega, by show j - 1 < b; omega, sw L1 i j.toNat, ht17.trans h24, .step hw1 (by omega) (by omega) (by omega) (by omega) hb, by rw [eS, if_neg (by omega), if_neg (by omega)]; exact he1, fun k h1 h2 => ?_⟩ (by show b - (i + 1) < b - i0; omega)
    have h2 : k < i + 1 := h2
    rw [eS]
    by_cases hk : k = i
    · subst hk
      split
      · rename_i hkj; rw [← hkj, he1] at hlt; exact hlt
      · rw [if_pos rfl, ← he1]; exact hlt
    · rw [if_neg (by omega), if_neg hk]; exact hq k h1 (by omega)
end Go.Proofs.Ytkjfpiimimfnhaa

/- Contracts: partition, the trial of insertion and pdqsort itself, on strings. Conditions: none. -/
namespace Go.Vc
theorem part_end {L : List Str} {a b j : Nat} {pv : Str} (haj : a ≤ j) (hjb : j < b) (hb : b ≤ L.length) (he : gt L a = pv) (h1 : ∀ k, a + 1 ≤ k → k ≤ j → ltS (gt L k) pv = true) (h2 : ∀ k, j < k → k < b → ltS (gt L k) pv = false) : Parted ltS a b j (sw L j a) := by
  have e : ∀ k, gt (sw L j a) k = if k = a then gt L j else if k = j then gt L a else gt L k := gt_sw (by omega) (by omega)
  have ej : gt (sw L j a) j = pv := by
    rw [e]
    split
    · rename_i h; rw [h]; exact he
    · rw [if_pos rfl]; exact he
  refine ⟨fun k hk hk' => ?_, fun k hk hk' => ?_⟩
  · rw [ej, e]
    by_cases hka : k = a
    · rw [if_pos hka]; exact h1 j (by omega) (Nat.le_refl _)
    · rw [if_neg hka, if_neg (by omega)]; exact h1 k (by omega) (by omega)
  · rw [ej, e, if_neg (by omega), if_neg (by omega)]; exact h2 k hk hk'
end Go.Vc
namespace Go.Proofs.Ytkjfpiimimfnhaa
open Go.Vc
theorem ok_slices_partitionOrdered_string {lo : Nat} {w : World} {v : Value} {L : List Str} {a b t : Nat} (hs : Ow lo t_string w v (strs L)) (hat : a ≤ t) (htb : t < b) (hb : b ≤ L.length) (hL : L.length ≤ 1152921504606846976) :
    Cal Try.prog f_slices_partitionOrdered_string #[v, .int .i64 (a : Int), .int .i64 (b : Int), .int .i64 (t : Int)] w fun r w' => ∃ L' : List Str, ∃ m : Nat, ∃ y : Bool, r = .tuple #[.int .i64 (m : Int), .bool y] ∧ Turn lo t_string sv v w w' L' ∧ SwR a b L L' ∧ a ≤ m ∧ m < b ∧ Parted ltS a b m L' := by
  apply c_slices_partitionOrdered_string; unfold S_slices_partitionOrdered_string
  refine iRdO (j := t) hs rfl (by omega) ?_
  refine iRdO (j := a) hs rfl (by omega) ?_
  refine iWr2 (i := a) (j := t) (fun _ => rfl) hs rfl rfl (by omega) (by omega) fun w7 h5 => ?_
  have h5 : Turn lo t_string sv v w w7 (sw L a t) := h5
  have e0 : gt (sw L a t) a = gt L t := by rw [gt_sw (by omega) (by omega)]; split <;> simp_all
  have hw0 : SwR a b L (sw L a t) := .one (Nat.le_refl _) (by omega) hat htb hb
  have hl0 := hw0.len
  generalize sw L a t = L0 at h5 e0 hw0 hl0
  (refine iAdd (by omega) ?_; refine iSub (by omega) ?_)
  obtain ⟨i0, hi0⟩ : ∃ i0, i0 = a + 1 := ⟨_, rfl⟩
  obtain ⟨j0, hj0⟩ : ∃ j0 : Int, j0 = (b : Int) - 1 := ⟨_, rfl⟩
  rw [show (a : Int) + 1 = (i0 : Int) by omega, ← hj0]
  refine iLp (fun i : Nat => [.int .i64 (i : Int)]) (fun i w' => i0 ≤ i ∧ (i : Int) ≤ j0 + 1 ∧ Ext w7 w' ∧ ∀ k, a + 1 ≤ k → k < i → ltS (gt L0 k) (gt L t) = true) (fun i => b - i) i0 rfl ⟨Nat.le_refl _, by omega, Ext.refl _, fun k h1 h2 => by omega⟩ ?_
  rintro i w9 Kn9 ⟨hi, hij, h9, hq⟩ hKn9
  intro _
  simp only [gx]
  have ht9 := h5.ext h9
  refine iJnB (decide ((i : Int) ≤ j0) && ltS (gt L0 i) (gt L0 a)) w9 (fun J hJ => ?_) (fun w11 h11 => ?_)
  · refine iLe ?_
    refine iCndP (fun h => ?_) (fun h => ?_)
    · rw [decide_eq_true h, Bool.true_and] at hJ
      refine iRdO (j := i) ht9.ow rfl (by omega) ?_
      refine iRdO (j := a) ht9.ow rfl (by omega) ?_
      exact iRetQ (fun w' _ => ok_cmp_Less_string _ _ w') hJ
    · rw [decide_eq_false h, Bool.false_and] at hJ
      exact hJ
  intro _
  simp only [gx]
  have h9' := h9.trans h11
  cases hc : decide ((i : Int) ≤ j0) && ltS (gt L0 i) (gt L0 a)
  rotate_left
  · rw [Bool.and_eq_true, decide_eq_true_eq] at hc
    refine iCndT rfl ?_
    (refine iAdd (by omega) ?_)
    refine hKn9 (i + 1) _ ⟨by omega, by omega, h9', fun k h1 h2 => ?_⟩ (by omega)
    by_cases hk : k = i
    · rw [hk, ← e0]; exact hc.2
    · exact hq k h1 (by omega)
  refine iCndF rfl ?_
  refine iLp (fun j : Int => [.int .i64 j]) (fun j w' => j ≤ j0 ∧ (i : Int) ≤ j + 1 ∧ Ext w7 w' ∧ ∀ k : Nat, j < k → k < b → ltS (gt L0 k) (gt L t) = false) (fun j => (j + 2).toNat) j0 rfl ⟨Int.le_refl _, hij, h9', fun k h1 h2 => by omega⟩ ?_
  rintro j w15 Kn15 ⟨hjj, hij2, h15, hq2⟩ hKn15
  intro _
  simp only [gx]
  have ht15 := h5.ext h15
  refine iJnB (decide ((i : Int) ≤ j) && !ltS (gt L0 j.toNat) (gt L0 a)) w15 (fun J hJ => ?_) (fun w17 h17 => ?_)
  · refine iLe ?_
    refine iCndP (fun h => ?_) (fun h => ?_)
    · rw [decide_eq_true h, Bool.true_and] at hJ
      refine iRdO (j := j.toNat) ht15.ow (by omega) (by omega) ?_
      refine iRdO (j := a) ht15.ow rfl (by omega) ?_
      exact iRetQ (fun w' _ => ok_cmp_Less_string _ _ w') (iNot hJ)
    · rw [decide_eq_false h, Bool.false_and] at hJ
      exact hJ
  intro _
  simp only [gx]
  have ht17 := ht15.ext h17
  cases hc2 : decide ((i : Int) ≤ j) && !ltS (gt L0 j.toNat) (gt L0 a)
  rotate_left
  · rw [Bool.and_eq_true, decide_eq_true_eq, Bool.not_eq_true'] at hc2
    refine iCndT rfl ?_
    refine iSub (by omega) ?_
    refine hKn15 (j - 1) _ ⟨by omega, by omega, h15.trans h17, fun k h1 h2 => ?_⟩ (by omega)
    by_cases hk : (k : Int) = j
    · rw [show k = j.toNat by omega, ← e0]; exact hc2.2
    · exact hq2 k (by omega) h2
  refine iCndF rfl ?_
  refine iLt ?_
  refine iCndP (fun h => ?_) (fun h => ?_)
  · refine iRdO (j := a) ht17.ow rfl (by omega) ?_
    refine iRdO (j := j.toNat) ht17.ow (by omega) (by omega) ?_
    refine iWr2 (i := j.toNat) (j := a) (fun _ => rfl) ht17.ow (by omega) rfl (by omega) (by omega) fun w22 h22 => ?_
    exact ⟨sw L0 j.toNat a, j.toNat, true, by rw [Int.toNat_of_nonneg (by omega)], ht17.trans h22, .step hw0 (by omega) (by omega) (Nat.le_refl _) (by omega) hb, by omega, by omega, part_end (by omega) (by omega) (by omega) e0 (fun k h1 h2 => hq k h1 (by omega)) (fun k h1 h2 => hq2 k (by omega) h2)⟩
  have hlt1 : ltS (gt L0 i) (gt L t) = false := by
    rw [decide_eq_true (show (i : Int) ≤ j0 by omega), Bool.true_and, e0] at hc; exact hc
  have hlt2 : ltS (gt L0 j.toNat) (gt L t) = true := by
    rw [decide_eq_true (show (i : Int) ≤ j by omega), Bool.true_and, Bool.not_eq_false', e0] at hc2; exact hc2
  have hne : i ≠ j.toNat := fun e => by rw [e, hlt2] at hlt1; cases hlt1
  refine iRdO (j := j.toNat) ht17.ow (by omega) (by omega) ?_
  refine iRdO (j := i) ht17.ow rfl (by omega) ?_
  refine iWr2 (i := i) (j := j.toNat) (fun _ => rfl) ht17.ow rfl (by omega) (by omega) (by omega) fun w24 h24 => ?_
  refine iAdd (by omega) ?_
  refine iSub (by omega) ?_
  have eS : ∀ k, gt (sw L0 i j.toNat) k = if k = j.toNat then gt L0 i else if k = i then gt L0 j.toNat else gt L0 k := gt_sw (by omega) (by omega)
  have nx1 : ∀ k, a + 1 ≤ k → k < i + 1 → ltS (gt (sw L0 i j.toNat) k) (gt L t) = true := fun k h1 h2 => by
    rw [eS, if_neg (by omega)]
    by_cases hk : k = i
    · rw [if_pos hk]; exact hlt2
    · rw [if_neg hk]; exact hq k h1 (by omega)
  have nx2 : ∀ k : Nat, j - 1 < k → k < b → ltS (gt (sw L0 i j.toNat) k) (gt L t) = false := fun k h1 h2 => by
    rw [eS]
    by_cases hk : k = j.toNat
    · rw [if_pos hk]; exact hlt1
    · rw [if_neg hk, if_neg (by omega)]; exact hq2 k (by omega) h2
  have nxe : gt (sw L0 i j.toNat) a = gt L t := by rw [eS, if_neg (by omega), if_neg (by omega)]; exact e0
  refine iLp (fun s : Nat × Int => [.int .i64 (s.1 : Int), .int .i64 s.2]) (fun s w' => a + 1 ≤ s.1 ∧ (s.1 : Int) ≤ s.2 + 1 ∧ s.2 < b ∧ ∃ L', Turn lo t_string sv v w w' L' ∧ SwR a b L L' ∧ gt L' a = gt L t ∧ (∀ k, a + 1 ≤ k → k < s.1 → ltS (gt L' k) (gt L t) = true) ∧ ∀ k : Nat, s.2 < k → k < b → ltS (gt L' k) (gt L t) = false) (fun s => b - s.1) (i + 1, j - 1) rfl
    ⟨by show a + 1 ≤ i + 1; omega, by show ((i + 1 : Nat) : Int) ≤ j - 1 + 1; omega, by show j - 1 < b; omega, sw L0 i j.toNat, ht17.trans h24, .step hw0 (by omega) (by omega) (by omega) (by omega) hb, nxe, nx1, nx2⟩ ?_
  clear hKn9 hKn15 nxe nx1 nx2 eS hq hq2
  rintro ⟨i1, j1⟩ w29 Kn ⟨hi1, hij1, hjb1, L1, ht1, hw1, he1, hq1, hq21⟩ hKn
  have hi1 : a + 1 ≤ i1 := hi1
  have hij1 : (i1 : Int) ≤ j1 + 1 := hij1
  have hjb1 : j1 < b := hjb1
  have hl1 := hw1.len
  intro _
  simp only [gx]
  refine iLp (fun i : Nat => [.int .i64 (i : Int)]) (fun i w' => i1 ≤ i ∧ (i : Int) ≤ j1 + 1 ∧ Ext w29 w' ∧ ∀ k, a + 1 ≤ k → k < i → ltS (gt L1 k) (gt L t) = true) (fun i => b - i) i1 rfl ⟨Nat.le_refl _, by omega, Ext.refl _, hq1⟩ ?_
  rintro i w9 Kn9 ⟨hi, hij, h9, hq⟩ hKn9
  intro _
  simp only [gx]
  have ht9 := ht1.ext h9
  refine iJnB (decide ((i : Int) ≤ j1) && ltS (gt L1 i) (gt L1 a)) w9 (fun J hJ => ?_) (fun w11 h11 => ?_)
  · refine iLe ?_
    refine iCndP (fun h => ?_) (fun h => ?_)
    · rw [decide_eq_true h, Bool.true_and] at hJ
      refine iRdO (j := i) ht9.ow rfl (by omega) ?_
      refine iRdO (j := a) ht9.ow rfl (by omega) ?_
      exact iRetQ (fun w' _ => ok_cmp_Less_string _ _ w') hJ
    · rw [decide_eq_false h, Bool.false_and] at hJ
      exact hJ
  intro _
  simp only [gx]
  have h9' := h9.trans h11
  cases hc : decide ((i : Int) ≤ j1) && ltS (gt L1 i) (gt L1 a)
  rotate_left
  · rw [Bool.and_eq_true, decide_eq_true_eq] at hc
    refine iCndT rfl ?_
    (refine iAdd (by omega) ?_)
    refine hKn9 (i + 1) _ ⟨by omega, by omega, h9', fun k h1 h2 => ?_⟩ (by omega)
    by_cases hk : k = i
    · rw [hk, ← he1]; exact hc.2
    · exact hq k h1 (by omega)
  refine iCndF rfl ?_
  refine iLp (fun j : Int => [.int .i64 j]) (fun j w' => j ≤ j1 ∧ (i : Int) ≤ j + 1 ∧ Ext w29 w' ∧ ∀ k : Nat, j < k → k < b → ltS (gt L1 k) (gt L t) = false) (fun j => (j + 2).toNat) j1 rfl ⟨Int.le_refl _, hij, h9', hq21⟩ ?_
  rintro j w15 Kn15 ⟨hjj, hij2, h15, hq2⟩ hKn15
  intro _
  simp only [gx]
  have ht15 := ht1.ext h15
  refine iJnB (decide ((i : Int) ≤ j) && !ltS (gt L1 j.toNat) (gt L1 a)) w15 (fun J hJ => ?_) (fun w17 h17 => ?_)
  · refine iLe ?_
    refine iCndP (fun h => ?_) (fun h => ?_)
    · rw [decide_eq_true h, Bool.true_and] at hJ
      refine iRdO (j := j.toNat) ht15.ow (by omega) (by omega) ?_
      refine iRdO (j := a) ht15.ow rfl (by omega) ?_
      exact iRetQ (fun w' _ => ok_cmp_Less_string _ _ w') (iNot hJ)
    · rw [decide_eq_false h, Bool.false_and] at hJ
      exact hJ
  intro _
  simp only [gx]
  have ht17 := ht15.ext h17
  cases hc2 : decide ((i : Int) ≤ j) && !ltS (gt L1 j.toNat) (gt L1 a)
  rotate_left
  · rw [Bool.and_eq_true, decide_eq_true_eq, Bool.not_eq_true'] at hc2
    refine iCndT rfl ?_
    refine iSub (by omega) ?_
    refine hKn15 (j - 1) _ ⟨by omega, by omega, h15.trans h17, fun k h1 h2 => ?_⟩ (by omega)
    by_cases hk : (k : Int) = j
    · rw [show k = j.toNat by omega, ← he1]; exact hc2.2
    · exact hq2 k (by omega) h2
  refine iCndF rfl ?_
  refine iLt ?_
  refine iCndP (fun h => ?_) (fun h => ?_)
  · refine iRdO (j := a) ht17.ow rfl (by omega) ?_
    refine iRdO (j := j.toNat) ht17.ow (by omega) (by omega) ?_
    refine iWr2 (i := j.toNat) (j := a) (fun _ => rfl) ht17.ow (by omega) rfl (by omega) (by omega) fun w22 h22 => ?_
    exact ⟨sw L1 j.toNat a, j.toNat, false, by rw [Int.toNat_of_nonneg (by omega)], ht17.trans h22, .step hw1 (by omega) (by omega) (Nat.le_refl _) (by omega) hb, by omega, by omega, part_end (by omega) (by omega) (by omega) he1 (fun k h1 h2 => hq k h1 (by omega)) (fun k h1 h2 => hq2 k (by omega) h2)⟩
  have hlt1 : ltS (gt L1 i) (gt L t) = false := by
    rw [decide_eq_true (show (i : Int) ≤ j1 by omega), Bool.true_and, he1] at hc; exact hc
  have hlt2 : ltS (gt L1 j.toNat) (gt L t) = true := by
    rw [decide_eq_true (show (i : Int) ≤ j by omega), Bool.true_and, Bool.not_eq_false', he1] at hc2; exact hc2
  have hne : i ≠ j.toNat := fun e => by rw [e, hlt2] at hlt1; cases hlt1
  refine iRdO (j := j.toNat) ht17.ow (by omega) (by omega) ?_
  refine iRdO (j := i) ht17.ow rfl (by omega) ?_
  refine iWr2 (i := i) (j := j.toNat) (fun _ => rfl) ht17.ow rfl (by omega) (by omega) (by omega) fun w24 h24 => ?_
  refine iAdd (by omega) ?_
  refine iSub (by omega) ?_
  have eS : ∀ k, gt (sw L1 i j.toNat) k = if k = j.toNat then gt L1 i else if k = i then gt L1 j.toNat else gt L1 k := gt_sw (by omega) (by omega)
  have nx1 : ∀ k, a + 1 ≤ k → k < i + 1 → ltS (gt (sw L1 i j.toNat) k) (gt L t) = true := fun k h1 h2 => by
    rw [eS, if_neg (by omega)]
    by_cases hk : k = i
    · rw [if_pos hk]; exact hlt2
    · rw [if_neg hk]; exact hq k h1 (by omega)
  have nx2 : ∀ k : Nat, j - 1 < k → k < b → ltS (gt (sw L1 i j.toNat) k) (gt L t) = false := fun k h1 h2 => by
    rw [eS]
    by_cases hk : k = j.toNat
    · rw [if_pos hk]; exact hlt1
    · rw [if_neg hk, if_neg (by omega)]; exact hq2 k (by omega) h2
  have nxe : gt (sw L1 i j.toNat) a = gt L t := by rw [eS, if_neg (by omega), if_neg (by omega)]; exact he1
  exact hKn (i + 1, j - 1) _ ⟨by show a + 1 ≤ i + 1; omega, by show ((i + 1 : Nat) : Int) ≤ j - 1 + 1; omega, by show j - 1 < b; omega, sw L1 i j.toNat, ht17.trans h24, .step hw1 (by omega) (by omega) (by omega) (by omega) hb, nxe, nx1, nx2⟩ (by show b - (i + 1) < b - i1; omega)
theorem ok_slices_partialInsertionSortOrdered_string {lo : Nat} {w : World} {v : Value} {L : List Str} {a b : Nat} (hs : Ow lo t_string w v (strs L)) (hab : a < b) (hb : b ≤ L.length) (hL : L.length ≤ 1152921504606846976) (hbl : Blw ltS a b L) :
    Cal Try.prog f_slices_partialInsertionSortOrdered_string #[v, .int .i64 (a : Int), .int .i64 (b : Int)] w fun r w' => ∃ y : Bool, ∃ L' : List Str, r = .bool y ∧ Turn lo t_string sv v w w' L' ∧ SwR a b L L' ∧ (y = true → Srt ltS a b L') := by
  apply c_slices_partialInsertionSortOrdered_string; unfold S_slices_partialInsertionSortOrdered_string
  (refine iAdd (by omega) ?_)
  refine iLp (fun s : Nat × Nat => [.int .i64 (s.1 : Int), .int .i64 (s.2 : Int)]) (fun s w' => a + 1 ≤ s.1 ∧ s.1 ≤ b ∧ s.2 ≤ 5 ∧ ∃ L', Turn lo t_string sv v w w' L' ∧ SwR a b L L' ∧ Srt ltS a s.1 L') (fun s => 5 - s.2) (a + 1, 0) rfl ⟨Nat.le_refl _, by show a + 1 ≤ b; omega, Nat.zero_le _, L, Turn.refl hs, .refl, Srt.short (Nat.le_refl _)⟩ ?_
  rintro ⟨i0, r⟩ w2 Kn ⟨hi0, hib0, hr, L1, ht1, hw1, hs1⟩ hKn
  have hi0 : a + 1 ≤ i0 := hi0
  have hib0 : i0 ≤ b := hib0
  have hr : r ≤ 5 := hr
  have hs1 : Srt ltS a i0 L1 := hs1
  have hl1 := hw1.len
  intro _
  simp only [gx]
  refine iLt ?_
  refine iCndP (fun h5 => ?_) (fun h5 => ?_)
  rotate_left
  · exact ⟨false, L1, rfl, ht1, hw1, fun h => by cases h⟩
  refine iLp (fun i : Nat => [.int .i64 (i : Int)]) (fun i w' => i0 ≤ i ∧ i ≤ b ∧ Ext w2 w' ∧ Srt ltS a i L1) (fun i => b - i) i0 rfl ⟨Nat.le_refl _, hib0, Ext.refl _, hs1⟩ ?_
  rintro i w4 Kn4 ⟨hi, hib, h4, hsi⟩ hKn4
  intro _
  simp only [gx]
  have ht4 := ht1.ext h4
  refine iJnB (decide (i < b) && !ltS (gt L1 i) (gt L1 (i - 1))) w4 (fun J hJ => ?_) (fun w6 h6 => ?_)
  · refine iLt ?_
    refine iCndP (fun h => ?_) (fun h => ?_)
    · rw [decide_eq_true (show i < b by omega), Bool.true_and] at hJ
      refine iRdO (j := i) ht4.ow rfl (by omega) ?_
      refine iSub (by omega) ?_
      refine iRdO (j := i - 1) ht4.ow (by omega) (by omega) ?_
      exact iRetQ (fun w' _ => ok_cmp_Less_string _ _ w') (iNot hJ)
    · rw [decide_eq_false (show ¬ i < b by omega), Bool.false_and] at hJ
      exact hJ
  intro _
  simp only [gx]
  have ht6 := ht4.ext h6
  cases hc : decide (i < b) && !ltS (gt L1 i) (gt L1 (i - 1))
  rotate_left
  · rw [Bool.and_eq_true, decide_eq_true_eq, Bool.not_eq_true'] at hc
    refine iCndT rfl ?_
    refine iAdd (by omega) ?_
    refine hKn4 (i + 1) _ ⟨by omega, by omega, h4.trans h6, fun p q g1 g2 g3 => ?_⟩ (by omega)
    by_cases hq : q = i
    · subst hq
      by_cases hp : p = q - 1
      · rw [hp]; exact hc.2
      · exact ordrS.tr (hsi p (q - 1) g1 (by omega) (by omega)) hc.2
    · exact hsi p q g1 g2 (by omega)
  refine iCndF rfl ?_
  refine iEq ?_
  refine iCndP (fun h => ?_) (fun h => ?_)
  · have : i = b := by omega
    subst this
    exact ⟨true, L1, rfl, ht6, hw1, fun _ => hsi⟩
  have hlt : ltS (gt L1 i) (gt L1 (i - 1)) = true := by
    rw [decide_eq_true (show i < b by omega), Bool.true_and, Bool.not_eq_false'] at hc; exact hc
  refine iSub (by omega) ?_
  refine iLt ?_
  refine iCndP (fun h7 => ?_) (fun h7 => ?_)
  · exact ⟨false, L1, rfl, ht6, hw1, fun h => by cases h⟩
  refine iSub (by omega) ?_
  refine iSub (by omega) ?_
  refine iRdO (j := i - 1) ht6.ow (by omega) (by omega) ?_
  refine iRdO (j := i) ht6.ow rfl (by omega) ?_
  refine iWr2 (i := i) (j := i - 1) (fun _ => rfl) ht6.ow rfl (by omega) (by omega) (by omega) fun w13 h13 => ?_
  have h13 : Turn lo t_string sv v w6 w13 (sw L1 i (i - 1)) := h13
  have hw2 : SwR a b L1 (sw L1 i (i - 1)) := .one (by omega) (by omega) (by omega) (by omega) (by omega)
  have hs2 : Srt ltS a (i - 1) (sw L1 i (i - 1)) := (hsi.mono (Nat.le_refl _) (by omega)).out (SwR.one (a := i - 1) (b := b) (by omega) (by omega) (by omega) (by omega) (by omega)) (.inr (Nat.le_refl _))
  have ht13 := ht6.trans h13
  have hw13 := hw1.trans hw2
  generalize sw L1 i (i - 1) = L2 at h13 hw2 hs2 ht13 hw13
  have hl2 := hw13.len
  have hbl2 : Blw ltS a b L2 := hbl.keep hw13 (Nat.le_refl _) (Nat.le_refl _)
  refine iSub (by omega) ?_
  refine iLe ?_
  refine iJnX (fun _ w' => ∃ L', Turn lo t_string sv v w w' L' ∧ SwR a b L L' ∧ Srt ltS a i L') (fun J hJ => ?_) ?_
  · refine iCndP (fun h8 => ?_) (fun h8 => ?_)
    · refine iSub (by omega) ?_
      refine iLp (fun j : Nat => [.int .i64 (j : Int)]) (fun j w' => a ≤ j ∧ j ≤ i - 1 ∧ ∃ L', Turn lo t_string sv v w w' L' ∧ SwR a b L L' ∧ Blw ltS a b L' ∧ Ins ltS a (i - 1) j L') (fun j => j) (i - 1) (by congr 2; omega) ⟨by omega, Nat.le_refl _, L2, ht13, hw13, hbl2, Ins.init hs2⟩ ?_
      rintro j w17 Kn17 ⟨haj, hji, L3, ht3, hw3, hbl3, hin⟩ hKn17
      have hl3 := hw3.len
      intro _
      simp only [gx]
      refine iLe ?_
      refine iCndP (fun h9 => ?_) (fun h9 => ?_)
      · refine iRdO (j := j) ht3.ow rfl (by omega) ?_
        refine iSub (by omega) ?_
        refine iRdO (j := j - 1) ht3.ow (by omega) (by omega) ?_
        refine iRetQ (fun w' _ => ok_cmp_Less_string _ _ w') ?_
        refine iNot ?_
        intro w18 h18
        have ht18 := ht3.ext h18
        refine iCnd (fun h10 => ?_) (fun h10 => ?_)
        · have h10 : ltS (gt L3 j) (gt L3 (j - 1)) = false := by simpa using h10
          refine hJ _ _ ⟨L3, ht18, hw3, ?_⟩
          have := hin.done ordrS (by rcases Nat.lt_or_ge a j with h' | h'; exact .inr ⟨h', h10⟩; exact .inl h') hji
          rwa [show i - 1 + 1 = i by omega] at this
        · have h10 : ltS (gt L3 j) (gt L3 (j - 1)) = true := by simpa using h10
          have haj' : a < j := by
            rcases Nat.lt_or_ge a j with h' | h'
            · exact h'
            · have e : j = a := by omega
              subst e
              have := hbl3 j (Nat.le_refl _) (by omega) (by omega)
              rw [h10] at this; cases this
          refine iSub (by omega) ?_
          refine iSub (by omega) ?_
          refine iRdO (j := j - 1) ht18.ow (by omega) (by omega) ?_
          refine iRdO (j := j) ht18.ow rfl (by omega) ?_
          refine iWr2 (i := j) (j := j - 1) (fun _ => rfl) ht18.ow rfl (by omega) (by omega) (by omega) fun w23 h23 => ?_
          refine iSub (by omega) ?_
          rw [show (j : Int) - 1 = ((j - 1 : Nat) : Int) by omega]
          have hw4 : SwR a b L3 (sw L3 j (j - 1)) := .one (by omega) (by omega) (by omega) (by omega) (by omega)
          exact hKn17 (j - 1) _ ⟨by omega, by omega, sw L3 j (j - 1), ht18.trans h23, hw3.trans hw4, hbl3.keep hw4 (Nat.le_refl _) (Nat.le_refl _), hin.swap ordrS haj' hji (by omega) h10⟩ (by omega)
      · refine hJ _ _ ⟨L3, ht3, hw3, ?_⟩
        have := hin.done ordrS (.inl (by omega)) hji
        rwa [show i - 1 + 1 = i by omega] at this
    · exact hJ _ _ ⟨L2, ht13, hw13, Srt.short (by omega)⟩
  rintro xs w15 ⟨L3, ht3, hw3, hs3⟩
  have hl3 := hw3.len
  intro _
  refine iSub (by omega) ?_
  refine iLe ?_
  refine iCndP (fun h8 => ?_) (fun h8 => ?_)
  · refine iAdd (by omega) ?_
    refine iLp (fun j : Nat => [.int .i64 (j : Int)]) (fun j w' => i + 1 ≤ j ∧ j ≤ b ∧ ∃ L', Turn lo t_string sv v w w' L' ∧ SwR a b L L' ∧ Srt ltS a i L') (fun j => b - j) (i + 1) rfl ⟨Nat.le_refl _, by omega, L3, ht3, hw3, hs3⟩ ?_
    rintro j w25 Kn25 ⟨hij, hjb, L4, ht4, hw4, hs4⟩ hKn25
    have hl4 := hw4.len
    intro _
    simp only [gx]
    refine iLt ?_
    refine iCndP (fun h9 => ?_) (fun h9 => ?_)
    · refine iRdO (j := j) ht4.ow rfl (by omega) ?_
      refine iSub (by omega) ?_
      refine iRdO (j := j - 1) ht4.ow (by omega) (by omega) ?_
      refine iRetQ (fun w' _ => ok_cmp_Less_string _ _ w') ?_
      refine iNot ?_
      intro w26 h26
      have ht26 := ht4.ext h26
      refine iCnd (fun h10 => ?_) (fun h10 => ?_)
      · refine iAdd (by omega) ?_
        exact hKn (i, r + 1) _ ⟨by show a + 1 ≤ i; omega, hib, by show r + 1 ≤ 5; omega, L4, ht26, hw4, hs4⟩ (by show 5 - (r + 1) < 5 - r; omega)
      · refine iSub (by omega) ?_
        refine iSub (by omega) ?_
        refine iRdO (j := j - 1) ht26.ow (by omega) (by omega) ?_
        refine iRdO (j := j) ht26.ow rfl (by omega) ?_
        refine iWr2 (i := j) (j := j - 1) (fun _ => rfl) ht26.ow rfl (by omega) (by omega) (by omega) fun w31 h31 => ?_
        refine iAdd (by omega) ?_
        exact hKn25 (j + 1) _ ⟨by omega, by omega, sw L4 j (j - 1), ht26.trans h31, .step hw4 (by omega) (by omega) (by omega) (by omega) hb, hs4.out (SwR.one (a := i) (b := b) (by omega) (by omega) (by omega) (by omega) (by omega)) (.inr (Nat.le_refl _))⟩ (by omega)
    · refine iAdd (by omega) ?_
      exact hKn (i, r + 1) _ ⟨by show a + 1 ≤ i; omega, hib, by show r + 1 ≤ 5; omega, L4, ht4, hw4, hs4⟩ (by show 5 - (r + 1) < 5 - r; omega)
  · refine iAdd (by omega) ?_
    exact hKn (i, r + 1) _ ⟨by show a + 1 ≤ i; omega, hib, by show r + 1 ≤ 5; omega, L3, ht3, hw3, hs3⟩ (by show 5 - (r + 1) < 5 - r; omega)
theorem ok_slices_pdqsortOrdered_string {lo : Nat} {v : Value} : ∀ (n : Nat) {w : World} {L : List Str} {a b : Nat} {lim : Int}, b - a ≤ n → Ow lo t_string w v (strs L) → a ≤ b → b ≤ L.length → L.length ≤ 1152921504606846976 → Blw ltS a b L → 0 ≤ lim ∧ lim ≤ 64 →
    Cal Try.prog f_slices_pdqsortOrdered_string #[v, .int .i64 (a : Int), .int .i64 (b : Int), .int .i64 lim] w fun _ w' => ∃ L', Turn lo t_string sv v w w' L' ∧ SwR a b L L' ∧ Srt ltS a b L' := by
  intro n
  induction n using Nat.strongRecOn with
  | ind n ih =>
  intro w L a0 b0 lim0 hn hs hab hb hL hbl hlim
  apply c_slices_pdqsortOrdered_string; unfold S_slices_pdqsortOrdered_string
  refine iLp (fun s : Nat × Nat × Int × Bool × Bool => [.int .i64 (s.1 : Int), .int .i64 (s.2.1 : Int), .int .i64 s.2.2.1, .bool s.2.2.2.1, .bool s.2.2.2.2]) (fun s w' => a0 ≤ s.1 ∧ s.1 ≤ s.2.1 ∧ s.2.1 ≤ b0 ∧ (0 ≤ s.2.2.1 ∧ s.2.2.1 ≤ 64) ∧ ∃ L', Turn lo t_string sv v w w' L' ∧ SwR a0 b0 L L' ∧ Blw ltS s.1 s.2.1 L' ∧ Crs ltS a0 b0 s.1 s.2.1 L') (fun s => s.2.1 - s.1) (a0, b0, lim0, true, true) rfl
    ⟨Nat.le_refl _, hab, Nat.le_refl _, hlim, L, Turn.refl hs, .refl, hbl, Crs.all⟩ ?_
  rintro ⟨a, b, lim, bal, par⟩ w2 Kn ⟨ha, hab, hbb, hlim, L1, ht1, hw1, hbl1, hcr1⟩ hKn
  have ha : a0 ≤ a := ha
  have hab : a ≤ b := hab
  have hbb : b ≤ b0 := hbb
  have hlim : 0 ≤ lim ∧ lim ≤ 64 := hlim
  have hbl1 : Blw ltS a b L1 := hbl1
  have hcr1 : Crs ltS a0 b0 a b L1 := hcr1
  have hl1 := hw1.len
  intro _
  simp only [gx]
  -- a sorted window closes the work
  have fin : ∀ {L' L'' : List Str} {w' : World} {a b : Nat}, Turn lo t_string sv v w w' L'' → SwR a0 b0 L L' → SwR a b L' L'' → a0 ≤ a → b ≤ b0 → Crs ltS a0 b0 a b L' → Srt ltS a b L'' → ∃ L', Turn lo t_string sv v w w' L' ∧ SwR a0 b0 L L' ∧ Srt ltS a0 b0 L' :=
    fun {L' L'' w' a b} h1 h2 h3 h4 h5 h6 h7 => ⟨L'', h1, h2.trans (h3.mono h4 h5 (by rw [h2.len]; exact hb)), h6.done h3 h4 h5 h7⟩
  refine iSub (by omega) ?_
  refine iLe ?_
  refine iCndP (fun h => ?_) (fun h => ?_)
  · refine iCall ?_
    refine (ok_slices_insertionSortOrdered_string ht1.ow hab (by omega) (by omega)).mono fun _ w3 h3 => ?_
    obtain ⟨L2, ht2, hw2, hs2⟩ := h3
    exact fin (ht1.trans ht2) hw1 hw2 ha hbb hcr1 hs2
  refine iEq ?_
  refine iCndP (fun h0 => ?_) (fun h0 => ?_)
  · refine iCall ?_
    refine (ok_slices_heapSortOrdered_string ht1.ow (by omega) (by omega) (by omega)).mono fun _ w3 h3 => ?_
    obtain ⟨L2, ht2, hw2, hs2⟩ := h3
    exact fin (ht1.trans ht2) hw1 hw2 ha hbb hcr1 hs2
  refine iNot ?_
  refine iJnX (fun xs w' => ∃ l2 : Int, ∃ L', xs = [.int .i64 l2] ∧ (0 ≤ l2 ∧ l2 ≤ 64) ∧ Turn lo t_string sv v w w' L' ∧ SwR a b L1 L') (fun J hJ => ?_) ?_
  · refine iCnd (fun _ => ?_) (fun _ => ?_)
    · refine iCall ?_
      refine (ok_slices_breakPatternsOrdered_string ht1.ow hab (by omega) (by omega)).mono fun _ w3 h3 => ?_
      obtain ⟨L2, ht2, hw2⟩ := h3
      refine iSub (by omega) ?_
      exact hJ _ _ ⟨lim - 1, L2, rfl, by omega, ht1.trans ht2, hw2⟩
    · exact hJ _ _ ⟨lim, L1, rfl, hlim, ht1, .refl⟩
  rintro xs w6 ⟨lim, L2, rfl, hlim, ht2, hw2⟩
  have hl2 := hw2.len
  intro _
  simp only [gx]
  refine iCall ?_
  refine (ok_slices_choosePivotOrdered_string ht2.ow (by omega) (by omega) (by omega)).mono fun r w8 h8 => ?_
  obtain ⟨h8, t, x, rfl, hat, htb⟩ := h8
  have ht8 := ht2.ext h8
  refine iE20 ?_
  refine iE21 ?_
  refine iEq ?_
  refine iJnX (fun xs w' => ∃ t : Nat, ∃ x : Int, ∃ L', xs = [.int .i64 (t : Int), .int .i64 x] ∧ a ≤ t ∧ t < b ∧ Turn lo t_string sv v w w' L' ∧ SwR a b L1 L') (fun J hJ => ?_) ?_
  · refine iCndP (fun _ => ?_) (fun _ => ?_)
    · refine iCall ?_
      refine (ok_slices_reverseRangeOrdered_string ht8.ow hab (by omega) (by omega)).mono fun _ w3 h3 => ?_
      obtain ⟨L3, ht3, hw3⟩ := h3
      refine iSub (by omega) ?_
      refine iSub (by omega) ?_
      refine iSub (by omega) ?_
      exact hJ _ _ ⟨b - 1 - (t - a), 1, L3, by congr 2; omega, by omega, by omega, ht8.trans ht3, hw2.trans hw3⟩
    · exact hJ _ _ ⟨t, x, L2, rfl, hat, htb, ht8, hw2⟩
  clear hat htb
  rintro xs w10 ⟨t, x, L3, rfl, hat, htb, ht3, hw3⟩
  intro _
  simp only [gx]
  refine iJnX (fun xs w' => ∃ y : Bool, xs = [.bool y] ∧ Ext w10 w') (fun J hJ => ?_) ?_
  · refine iCnd (fun _ => ?_) (fun _ => ?_)
    · refine iCnd (fun _ => ?_) (fun _ => ?_)
      · refine iEq ?_
        exact hJ _ _ ⟨_, rfl, Ext.refl _⟩
      · exact hJ _ _ ⟨false, rfl, Ext.refl _⟩
    · exact hJ _ _ ⟨false, rfl, Ext.refl _⟩
  rintro xs w13 ⟨y, rfl, h13⟩
  intro _
  simp only [gx]
  have ht13 := ht3.ext h13
  have hl3 := hw3.len
  refine iJnX (fun _ w' => ∃ L', Turn lo t_string sv v w w' L' ∧ SwR a b L1 L') (fun J hJ => ?_) ?_
  · refine iCnd (fun _ => ?_) (fun _ => ?_)
    · refine iCall ?_
      refine (ok_slices_partialInsertionSortOrdered_string ht13.ow (by omega) (by omega) (by omega) (hbl1.keep hw3 (Nat.le_refl _) (Nat.le_refl _))).mono fun r w3 h3 => ?_
      obtain ⟨y', L4, rfl, ht4, hw4, hs4⟩ := h3
      refine iCnd (fun hy => ?_) (fun hy => ?_)
      · exact fin (ht13.trans ht4) hw1 (hw3.trans hw4) ha hbb hcr1 (hs4 hy)
      · exact hJ _ _ ⟨L4, ht13.trans ht4, hw3.trans hw4⟩
    · exact hJ _ _ ⟨L3, ht13, hw3⟩
  clear ht3 hw3 ht13 ht8 ht2 hw2 hl2 hl3
  rintro xs w15 ⟨L3, ht3, hw3⟩
  have hl3 := hw3.len
  have hw3' : SwR a0 b0 L L3 := hw1.trans (hw3.mono ha hbb (by omega))
  have hbl3 : Blw ltS a b L3 := hbl1.keep hw3 (Nat.le_refl _) (Nat.le_refl _)
  have hcr3 : Crs ltS a0 b0 a b L3 := hcr1.keep hw3 ha hbb
  intro _
  refine iJnB (decide (0 < a) && !ltS (gt L3 (a - 1)) (gt L3 t)) w15 (fun J hJ => ?_) (fun w18 h18 => ?_)
  · refine iLt ?_
    refine iCndP (fun h5 => ?_) (fun h5 => ?_)
    · rw [decide_eq_true (show 0 < a by omega), Bool.true_and] at hJ
      refine iSub (by omega) ?_
      refine iRdO (j := a - 1) ht3.ow (by omega) (by omega) ?_
      refine iRdO (j := t) ht3.ow rfl (by omega) ?_
      exact iRetQ (fun w' _ => ok_cmp_Less_string _ _ w') (iNot hJ)
    · rw [decide_eq_false (show ¬ 0 < a by omega), Bool.false_and] at hJ
      exact hJ
  intro _
  simp only [gx]
  have ht18 := ht3.ext h18
  cases hc : decide (0 < a) && !ltS (gt L3 (a - 1)) (gt L3 t)
  rotate_left
  · rw [Bool.and_eq_true, decide_eq_true_eq, Bool.not_eq_true'] at hc
    refine iCndT rfl ?_
    refine iCall ?_
    refine (ok_slices_partitionEqualOrdered_string ht18.ow hat htb (by omega) (by omega)).mono fun r w21 h21 => ?_
    obtain ⟨L4, m, rfl, ht4, hw4, ham, hmb, hle⟩ := h21
    have hge : ∀ k, a ≤ k → k < b → ltS (gt L4 k) (gt L3 t) = false := hw4.all (p := fun z => ltS z (gt L3 t) = false) fun k hk hk' => ordrS.tr hc.2 (hbl3 k hk hk' (by omega))
    refine hKn (m, b, lim, bal, par) _ ⟨by show a0 ≤ m; omega, hmb, hbb, hlim, L4, ht18.trans ht4, hw3'.trans (hw4.mono ha hbb (by rw [hw3'.len]; omega)), equal_blw ordrS hge hle ham, equal_up ordrS (hcr3.keep hw4 ha hbb) hge hle hmb⟩ (by show b - m < b - a; omega)
  refine iCndF rfl ?_
  refine iCall ?_
  refine (ok_slices_partitionOrdered_string ht18.ow hat htb (by omega) (by omega)).mono fun r w22 h22 => ?_
  obtain ⟨L4, m, y', rfl, ht4, hw4, ham, hmb, hpt⟩ := h22
  have hl4 := hw4.len
  have ht22 := ht18.trans ht4
  have hw4' : SwR a0 b0 L L4 := hw3'.trans (hw4.mono ha hbb (by rw [hw3'.len]; omega))
  have hbl4 : Blw ltS a b L4 := hbl3.keep hw4 (Nat.le_refl _) (Nat.le_refl _)
  have hcr4 : Crs ltS a0 b0 a b L4 := hcr3.keep hw4 ha hbb
  refine iE20 ?_
  refine iE21 ?_
  refine iSub (by omega) ?_
  refine iSub (by omega) ?_
  refine iQuo (by omega) ?_
  refine iLt ?_
  refine iCndP (fun h5 => ?_) (fun h5 => ?_)
  · refine iLe ?_
    refine iCall ?_
    refine (ih (m - a) (by omega) (Nat.le_refl _) ht22.ow ham (by omega) (by omega) (hbl4.low (by omega)) hlim).mono fun _ w23 h23 => ?_
    obtain ⟨L5, ht5, hw5, hs5⟩ := h23
    have hw5' : SwR a b L4 L5 := hw5.mono (Nat.le_refl _) (by omega) (by omega)
    have hpt5 := hpt.lowS hw5
    refine iAdd (by omega) ?_
    exact hKn (m + 1, b, lim, _, y') _ ⟨by show a0 ≤ m + 1; omega, by show m + 1 ≤ b; omega, hbb, hlim, L5, ht22.trans ht5, hw4'.trans (hw5'.mono ha hbb (by rw [hw4'.len]; omega)), hpt5.blw, hpt5.up ordrS (hcr4.keep hw5' ha hbb) hs5⟩ (by show b - (m + 1) < b - a; omega)
  · refine iLe ?_
    refine iAdd (by omega) ?_
    refine iCall ?_
    refine (ih (b - (m + 1)) (by omega) (a := m + 1) (Nat.le_refl _) ht22.ow (by omega) (by omega) (by omega) hpt.blw hlim).mono fun _ w23 h23 => ?_
    obtain ⟨L5, ht5, hw5, hs5⟩ := h23
    have hw5' : SwR a b L4 L5 := hw5.mono (by omega) (Nat.le_refl _) (by omega)
    have hpt5 := hpt.highS hw5
    exact hKn (a, m, lim, _, y') _ ⟨ha, ham, by show m ≤ b0; omega, hlim, L5, ht22.trans ht5, hw4'.trans (hw5'.mono ha hbb (by rw [hw4'.len]; omega)), (hbl4.keep hw5' (Nat.le_refl _) (Nat.le_refl _)).low (Nat.le_of_lt hmb), hpt5.down ordrS (hcr4.keep hw5' ha hbb) hs5⟩ (by show m - a < b - a; omega)
theorem ok_slices_Sort_Sstring_string {lo : Nat} {w : World} {v : Value} {L : List Str} (hs : Ow lo t_string w v (strs L)) (hL : L.length ≤ 1152921504606846976) :
    Cal Try.prog f_slices_Sort_Sstring_string #[v] w fun _ w' => ∃ L' : List Str, Ow lo t_string w' v (strs L') ∧ Ch (fun c => v.ownBlock = some c) w w' ∧ List.Perm L' L ∧ L'.Pairwise fun x y => ltS y x = false := by
  apply c_slices_Sort_Sstring_string; unfold S_slices_Sort_Sstring_string
  refine iLenStr hs.sl ?_
  refine iConvU (by omega) ?_
  refine iCall ?_
  refine (ok_math_bits_Len (by omega) w).mono fun r w1 h1 => ?_
  obtain ⟨h1, k, rfl, -, -, hk⟩ := h1
  refine iCall ?_
  refine (ok_slices_pdqsortOrdered_string (a := 0) (b := L.length) (lim := (k : Int)) L.length (by omega) (hs.ext h1) (Nat.zero_le _) (Nat.le_refl _) hL (fun k _ _ h => by omega) (by omega)).mono fun _ w2 h2 => ?_
  obtain ⟨L', ht, hw, hst⟩ := h2
  rw [← hw.len] at hst
  exact ⟨L', ht.ow, (h1.ch (S := fun c => v.ownBlock = some c)).trans ht.ch fun _ e => .inl e, hw.perm, hst.pairwise⟩
end Go.Proofs.Ytkjfpiimimfnhaa

/- Plain facts on sets of texts in order: insertion, equal neighbours dropped, one list for each set. No program in sight. Conditions: none. -/
namespace Go.Vc
abbrev Inc (L : List Str) : Prop := L.Pairwise fun x y => ltS x y = true
theorem inc_cons {x : Str} {l : List Str} : Inc (x :: l) ↔ (∀ y ∈ l, ltS x y = true) ∧ Inc l := List.pairwise_cons
/-- Two lists in order with the same members are the same. -/
theorem inc_ext : ∀ {A B : List Str}, Inc A → Inc B → (∀ x, x ∈ A ↔ x ∈ B) → A = B
  | [], [], _, _, _ => rfl
  | [], y :: B, _, _, h => by have := (h y).2 List.mem_cons_self; cases this
  | x :: A, [], _, _, h => by have := (h x).1 List.mem_cons_self; cases this
  | x :: A, y :: B, hA, hB, h => by
    rw [inc_cons] at hA hB
    have e : x = y := by
      rcases List.mem_cons.1 ((h x).1 List.mem_cons_self) with e | e
      · exact e
      · rcases List.mem_cons.1 ((h y).2 List.mem_cons_self) with e' | e'
        · exact e'.symm
        · have h1 := hB.1 x e
          have h2 := hA.1 y e'
          rw [ltS_asymm h1] at h2; cases h2
    subst e
    rw [inc_ext hA.2 hB.2 fun z => ?_]
    have hz := h z
    simp only [List.mem_cons] at hz
    constructor
    · intro hm
      rcases hz.1 (.inr hm) with e | e
      · subst e; have := hA.1 z hm; rw [ltS_irrefl] at this; cases this
      · exact e
    · intro hm
      rcases hz.2 (.inr hm) with e | e
      · subst e; have := hB.1 z hm; rw [ltS_irrefl] at this; cases this
      · exact e
/-- A text laid into a list in order. -/
def insT (t : Str) : List Str → List Str
  | [] => [t]
  | x :: l => if ltS x t then x :: insT t l else if x = t then x :: l else t :: x :: l
theorem mem_insT {t x : Str} : ∀ {l : List Str}, x ∈ insT t l ↔ x = t ∨ x ∈ l
  | [] => by simp [insT]
  | y :: l => by
    unfold insT
    split
    · rw [List.mem_cons, mem_insT, List.mem_cons]
      constructor
      · rintro (h | h | h)
        · exact .inr (.inl h)
        · exact .inl h
        · exact .inr (.inr h)
      · rintro (h | h | h)
        · exact .inr (.inl h)
        · exact .inl h
        · exact .inr (.inr h)
    · split
      · rename_i h; subst h; simp
      · simp
theorem inc_insT {t : Str} : ∀ {l : List Str}, Inc l → Inc (insT t l)
  | [], _ => by simp [insT]
  | y :: l, h => by
    unfold insT
    rw [inc_cons] at h
    split
    · rename_i hy
      refine List.pairwise_cons.2 ⟨fun z hz => ?_, inc_insT h.2⟩
      rcases mem_insT.1 hz with e | e
      · subst e; exact hy
      · exact h.1 z e
    · rename_i hy
      split
      · exact List.pairwise_cons.2 h
      · rename_i hne
        have hty : ltS t y = true := by
          rcases ltS_total t y with e | e | e
          · exact e
          · exact absurd e.symm hne
          · exact absurd e hy
        refine List.pairwise_cons.2 ⟨fun z hz => ?_, List.pairwise_cons.2 h⟩
        rcases List.mem_cons.1 hz with e | e
        · subst e; exact hty
        · exact ltS_trans hty (h.1 z e)
theorem insT_split {t : Str} : ∀ {l : List Str} {k : Nat}, k ≤ l.length → (∀ i, i < k → ltS (gt l i) t = true) → insT t l = l.take k ++ insT t (l.drop k)
  | _, 0, _, _ => rfl
  | [], k + 1, hk, _ => by simp at hk
  | x :: l, k + 1, hk, h => by
    have h0 : ltS x t = true := h 0 (by omega)
    have := insT_split (t := t) (l := l) (k := k) (by simpa using hk) fun i hi => h (i + 1) (by omega)
    rw [insT, if_pos h0, this]
    rfl
/-- The set of a list's texts, in order. -/
def setT (l : List Str) : List Str := l.foldl (fun a x => insT x a) []
theorem setT_snoc (l : List Str) (x : Str) : setT (l ++ [x]) = insT x (setT l) := by simp [setT]
theorem inc_setT (l : List Str) : Inc (setT l) := by
  unfold setT
  suffices h : ∀ (l a : List Str), Inc a → Inc (l.foldl (fun a x => insT x a) a) from h l [] List.Pairwise.nil
  intro l
  induction l with
  | nil => intro a h; exact h
  | cons x l ih => intro a h; exact ih _ (inc_insT h)
theorem mem_setT {x : Str} {l : List Str} : x ∈ setT l ↔ x ∈ l := by
  unfold setT
  suffices h : ∀ (l a : List Str), x ∈ l.foldl (fun a x => insT x a) a ↔ x ∈ l ∨ x ∈ a by simpa using h l []
  intro l
  induction l with
  | nil => intro a; simp
  | cons y l ih =>
    intro a
    rw [List.foldl_cons, ih, mem_insT, List.mem_cons]
    constructor
    · rintro (h | h | h)
      · exact .inl (.inr h)
      · exact .inl (.inl h)
      · exact .inr h
    · rintro ((h | h) | h)
      · exact .inr (.inl h)
      · exact .inl h
      · exact .inr (.inr h)
theorem insT_len (t : Str) : ∀ l : List Str, (insT t l).length ≤ l.length + 1
  | [] => by simp [insT]
  | x :: l => by
    have := insT_len t l
    unfold insT
    split <;> (try split) <;> simp [List.length_cons] <;> omega
theorem setT_len (l : List Str) : (setT l).length ≤ l.length := by
  suffices h : ∀ (l a : List Str), (l.foldl (fun a x => insT x a) a).length ≤ a.length + l.length by simpa [setT] using h l []
  intro l
  induction l with
  | nil => intro a; simp
  | cons y l ih =>
    intro a
    have := ih (insT y a)
    have := insT_len y a
    rw [List.foldl_cons, List.length_cons]; omega
/-- Equal neighbours dropped. -/
def ddT : List Str → List Str
  | [] => []
  | [x] => [x]
  | x :: y :: l => if y = x then ddT (y :: l) else x :: ddT (y :: l)
theorem mem_ddT {z : Str} : ∀ {l : List Str}, z ∈ ddT l ↔ z ∈ l
  | [] => Iff.rfl
  | [_] => Iff.rfl
  | x :: y :: l => by
    rw [ddT]
    split
    · rename_i h; subst h; rw [mem_ddT]; simp
    · rw [List.mem_cons, mem_ddT, List.mem_cons (l := y :: l)]
theorem inc_ddT : ∀ {l : List Str}, l.Pairwise (fun x y => ltS y x = false) → Inc (ddT l)
  | [], _ => List.Pairwise.nil
  | [_], _ => by simp [ddT]
  | x :: y :: l, h => by
    rw [List.pairwise_cons] at h
    rw [ddT]
    split
    · exact inc_ddT h.2
    · rename_i hne
      refine List.pairwise_cons.2 ⟨fun z hz => ?_, inc_ddT h.2⟩
      have hxy : ltS x y = true := by
        rcases ltS_total x y with e | e | e
        · exact e
        · exact absurd e.symm hne
        · have := h.1 y List.mem_cons_self; rw [e] at this; cases this
      rcases List.mem_cons.1 (mem_ddT.1 hz) with e | e
      · subst e; exact hxy
      · exact ordrS.lt_le hxy ((List.pairwise_cons.1 h.2).1 z e)
theorem ddT_of_perm {l m : List Str} (h : l.Pairwise fun x y => ltS y x = false) (hp : List.Perm l m) : ddT l = setT m :=
  inc_ext (inc_ddT h) (inc_setT m) fun x => by rw [mem_ddT, mem_setT]; exact hp.mem_iff
theorem ddT_snoc : ∀ (l : List Str) (x y : Str), ddT (l ++ [x] ++ [y]) = if y = x then ddT (l ++ [x]) else ddT (l ++ [x]) ++ [y]
  | [], x, y => by simp only [List.nil_append, List.singleton_append, ddT]; split <;> simp_all
  | [a], x, y => by
    simp only [List.cons_append, ddT, List.nil_append]
    by_cases h2 : y = x
    · subst h2
      by_cases h1 : y = a
      · subst h1; simp
      · simp [h1]
    · by_cases h1 : x = a
      · subst h1; simp [h2]
      · simp [h1, h2]
  | a :: b :: l, x, y => by
    have := ddT_snoc (b :: l) x y
    simp only [List.cons_append] at this ⊢
    rw [ddT, ddT, this]
    by_cases h1 : b = a <;> by_cases h2 : y = x <;> simp [h1, h2]
theorem ddT_take {l : List Str} {i : Nat} (h0 : 1 ≤ i) (hi : i < l.length) : ddT (l.take (i + 1)) = if gt l i = gt l (i - 1) then ddT (l.take i) else ddT (l.take i) ++ [gt l i] := by
  obtain ⟨k, rfl⟩ : ∃ k, i = k + 1 := ⟨i - 1, by omega⟩
  have e1 : l.take (k + 1) = l.take k ++ [gt l k] := by rw [List.take_succ_eq_append_getElem (by omega), gt_eq (by omega)]
  have e2 : l.take (k + 1 + 1) = l.take k ++ [gt l k] ++ [gt l (k + 1)] := by rw [List.take_succ_eq_append_getElem hi, e1, gt_eq hi]
  rw [e2, ddT_snoc, e1]
  rfl
theorem ddT_idk {l : List Str} : ∀ k, k ≤ l.length → (∀ i, 1 ≤ i → i < k → ¬ gt l i = gt l (i - 1)) → ddT (l.take k) = l.take k := by
  intro k
  induction k with
  | zero => intro _ _; rfl
  | succ k ih =>
    intro hk h
    rcases Nat.eq_zero_or_pos k with h0 | h0
    · subst h0
      cases l with
      | nil => rfl
      | cons x l => rfl
    · rw [ddT_take h0 (by omega), if_neg (h k h0 (by omega)), ih (by omega) fun i h1 h2 => h i h1 (by omega), List.take_succ_eq_append_getElem (by omega), gt_eq (by omega)]
theorem ddT_id {l : List Str} (h : ∀ i, 1 ≤ i → i < l.length → ¬ gt l i = gt l (i - 1)) : ddT l = l := by
  have := ddT_idk (l := l) l.length (Nat.le_refl _) h
  rwa [List.take_length] at this
/-! ### Marks -/
def digs : Nat → Nat → Str → Str
  | 0, _, acc => acc
  | m + 1, n, acc => if n = 0 then acc else digs m (n / 10) (UInt8.ofNat (48 + n % 10) :: acc)
def markT (k : Int) : Str := if k ≤ 0 then [109, 48] else 109 :: digs 20 k.toNat []
def marksT (k : Nat) : Nat → List Str
  | 0 => []
  | n + 1 => markT k :: marksT (k + 1) n
theorem marksT_len : ∀ (n k : Nat), (marksT k n).length = n
  | 0, _ => rfl
  | n + 1, k => by rw [marksT, List.length_cons, marksT_len]
theorem gt_marksT : ∀ {n k i : Nat}, i < n → gt (marksT k n) i = markT ((k + i : Nat) : Int)
  | 0, _, _, h => by omega
  | n + 1, k, 0, _ => rfl
  | n + 1, k, i + 1, h => by
    have := gt_marksT (n := n) (k := k + 1) (i := i) (by omega)
    rw [show k + (i + 1) = k + 1 + i by omega, ← this]
    rfl
end Go.Vc

/- Contracts: sets of texts in order (slices.Compact, put; l02Insert, l27Set). Conditions: none. -/
namespace Go.Vc
section
variable {P : Program} {w : World} {lo : Nat} {e : TypeId}
theorem Ow.open {v : Value} {xs : List Value} (hs : Ow lo e w v xs) (hne : xs ≠ []) : ∃ g cap, v = .slice (some ⟨g, 0, none⟩) xs.length cap ∧ xs.length ≤ cap ∧ cap ≤ 9223372036854775807 := by
  obtain ⟨_, ⟨_, h0⟩ | ⟨g, cap, cur, hv, _, _, h1, h2, _⟩⟩ := hs
  · exact absurd (List.length_eq_zero_iff.1 h0) hne
  · exact ⟨g, cap, hv, h1, h2⟩
theorem Ow.at {g n cap : Nat} {xs : List Value} (hs : Ow lo e w (.slice (some ⟨g, 0, none⟩) n cap) xs) (hn : xs.length = n) {j : Nat} (hj : j < n) : w.cell? ⟨g, j, none⟩ = xs[j]? := by
  have h : w.ownsRow lo e 1 (.slice (some ⟨g, 0, none⟩) n cap) n xs := by unfold Ow at hs; rw [hn] at hs; exact hs
  exact h.cellAt j (by omega)
theorem Ow.same {w' : World} {v : Value} {xs : List Value} (h : Ow lo e w v xs) (hk : ∀ c, v.ownBlock = some c → w'.heap[c]? = w.heap[c]?) : Ow lo e w' v xs := by
  obtain ⟨h0, h | ⟨g, cap, cur, hv, hg, hh, h1⟩⟩ := h
  · exact ⟨h0, .inl h⟩
  · exact ⟨h0, .inr ⟨g, cap, cur, hv, hg, by rw [hk g (by rw [hv]; rfl)]; exact hh, h1⟩⟩
theorem iSlTail {g n cap k : Nat} {ki : IntKind} {K : Value → Prop} (hk : k < n) (hc : n ≤ cap) (h : K (.slice (some ⟨g, k, none⟩) (n - k) (cap - k))) : xSl 1 (.slice (some ⟨g, 0, none⟩) n cap) (some (.int ki (k : Int))) none K := by
  refine ⟨_, _, _, k, n, rfl, rfl, ⟨ki, rfl⟩, by omega, hc, ?_⟩
  rw [if_neg (by omega), Option.map_some, addr_add, Nat.zero_add, Nat.mul_one]
  exact h
theorem iSlHead {g n cap k : Nat} {ki : IntKind} {K : Value → Prop} (hk : k ≤ n) (hc : n ≤ cap) (h : K (.slice (some ⟨g, 0, none⟩) k cap)) : xSl 1 (.slice (some ⟨g, 0, none⟩) n cap) none (some (.int ki (k : Int))) K := by
  refine ⟨_, _, _, 0, k, rfl, ⟨ki, rfl⟩, rfl, Nat.zero_le _, by omega, ?_⟩
  have e : (if cap = 0 then some (⟨g, 0, none⟩ : Addr) else (some (⟨g, 0, none⟩ : Addr)).map (·.add (0 * 1))) = some ⟨g, 0, none⟩ := by
    split
    · rfl
    · simp [Addr.add]
  rw [e, Nat.sub_zero, Nat.sub_zero]
  exact h
theorem iClr {t ty : TypeId} {z : Value} {bytes g n cap k : Nat} {xs : List Value} {K : Value → World → Prop} (ht : P.underlying t = some (.slice e)) (hi : (P.info? e).map (fun i => (i.zero, i.size, i.bytes)) = some (some z, 1, bytes)) (hz : isCell z = true)
    (hs : Ow lo e w (.slice (some ⟨g, 0, none⟩) n cap) xs) (hn : xs.length = n) (hk : k < n) (h : ∀ w', Ow lo e w' (.slice (some ⟨g, 0, none⟩) k cap) (xs.take k) → Ch (fun c => c = g) w w' → K (.tuple #[]) w') :
    xOp P (Builtin.clear_ #[t] ty #[.slice (some ⟨g, k, none⟩) (n - k) (cap - k)]) w K := by
  obtain ⟨i, hi, h3⟩ := Option.map_eq_some_iff.1 hi
  simp only [Prod.mk.injEq] at h3
  obtain ⟨hz0, -, -⟩ := h3
  obtain ⟨-, ⟨hv, -⟩ | ⟨g', cap', cur, hv, hg, hh, h1, h2, h3, h4⟩⟩ := hs
  · cases hv
  · injection hv with e1 e2 e3
    injection e1 with e1
    injection e1 with e1
    subst e1
    subst e3
    rw [hn] at h1 h4
    rw [Nat.mul_one] at h3 h4
    have hzc : (Builtin.zeroCells z.cells (n - k)).toList = List.replicate (n - k) z := by
      rw [isCell_cells hz]
      simp [Builtin.zeroCells]
      apply List.ext_getElem
      · simp
      · intro i h1 h2
        simp [Nat.mod_one]
    have hrun := run_storeCells_at P g k e (List.replicate (n - k) z) 0 cur w hh (by rw [List.length_replicate]; omega) (fun v hv => isCell_one (by rw [List.eq_of_mem_replicate hv]; exact hz))
    refine ⟨_, _, ?_, h (w.setRow g (cur.toList.take (k + 0) ++ List.replicate (n - k) z ++ cur.toList.drop (k + 0 + (List.replicate (n - k) z).length)).toArray) ?_ ?_⟩
    · obtain ⟨m, hm⟩ : ∃ m, n - k = m + 1 := ⟨n - k - 1, by omega⟩
      rw [hm] at hrun hzc ⊢
      simp [Builtin.clear_, run_underlying ht, zeroValue, run_info hi, hz0, hzc, hrun]
    · refine ⟨by simp, .inr ⟨g, cap, _, ?_, hg, setRow_heap w g cur _ e (0, 0) hh, by rw [List.length_take]; omega, h2, ?_, ?_⟩⟩
      · rw [List.length_take, hn, Nat.min_eq_left (by omega)]
      · simp; omega
      · rw [List.length_take, hn, Nat.min_eq_left (by omega), Nat.mul_one, Nat.add_zero, List.take_append_of_le_length (by simp; omega), List.take_append_of_le_length (by simp; omega), List.take_take, Nat.min_self, ← h4, List.take_take, Nat.min_eq_left (by omega)]
    · exact ⟨rfl, rfl, rfl, by rw [setRow_size]; exact Nat.le_refl _, fun c _ hc => setRow_other w g c _ hc⟩
end
theorem Sl.toK {w : World} {v : Value} {xs : List Value} (h : Sl w v xs) : SlK 1 w v xs.length xs := by
  obtain ⟨a, c, hv, h2, h3, h4⟩ := h
  refine ⟨(Nat.mul_one _).symm, a, c, hv, h2, h3, ?_⟩
  rcases h4 with rfl | ⟨b, o, ha, hc⟩
  · exact .inl rfl
  · exact .inr ⟨b, o, ha, fun i hi => hc i (by omega)⟩
theorem SlK.cast {k : Nat} {w : World} {v : Value} {n m : Nat} {xs : List Value} (h : SlK k w v n xs) (e : n = m) : SlK k w v m xs := e ▸ h
theorem strs_take (L : List Str) (k : Nat) : (strs L).take k = strs (L.take k) := by simp [strs, List.map_take]
theorem strs_drop (L : List Str) (k : Nat) : (strs L).drop k = strs (L.drop k) := by simp [strs, List.map_drop]
theorem strs_app (L M : List Str) : strs L ++ strs M = strs (L ++ M) := by simp [strs]
theorem strs_get (L : List Str) {j : Nat} (hj : j < L.length) : (strs L)[j]? = some (sv (gt L j)) := by rw [gt_eq hj]; simp [strs, hj]
end Go.Vc
namespace Go.Proofs.Ytkjfpiimimfnhaa
open Go.Vc
theorem ok_slices_Compact_Sstring_string {lo : Nat} {w : World} {v : Value} {L : List Str} (hs : Ow lo t_string w v (strs L)) (hL : L.length ≤ 1152921504606846976) :
    Cal Try.prog f_slices_Compact_Sstring_string #[v] w fun r w' => Ow lo t_string w' r (strs (ddT L)) ∧ Ch (fun c => v.ownBlock = some c) w w' ∧ r.ownBlock = v.ownBlock := by
  apply c_slices_Compact_Sstring_string; unfold S_slices_Compact_Sstring_string
  refine iLenStr hs.sl ?_
  refine iLt ?_
  refine iCndP (fun h => ?_) (fun h => ?_)
  · rw [ddT_id (fun i h1 h2 => by omega)]
    exact ⟨hs, (Ext.refl w).ch, by first | trivial | rfl⟩
  obtain ⟨g, cap, hv, hcap, hcm⟩ := hs.open (by intro e; have := strs_len L; rw [e] at this; simp at this; omega)
  rw [strs_len] at hv hcap
  refine iLp (fun k : Nat => [.int .i64 (k : Int)]) (fun k w' => 1 ≤ k ∧ k ≤ L.length ∧ Ext w w' ∧ ∀ i, 1 ≤ i → i < k → ¬ gt L i = gt L (i - 1)) (fun k => L.length - k) 1 rfl ⟨Nat.le_refl _, by omega, Ext.refl _, fun i h1 h2 => by omega⟩ ?_
  rintro k w2 Kn ⟨hk1, hkn, h2, hne⟩ hKn
  have hs2 := hs.ext h2
  intro _
  simp only [gx]
  refine iLenStr hs2.sl ?_
  refine iLt ?_
  refine iCndP (fun h3 => ?_) (fun h3 => ?_)
  rotate_left
  · rw [ddT_id (fun i h1 h2 => hne i h1 (by omega))]
    exact ⟨hs2, h2.ch, by first | trivial | rfl⟩
  refine iRdO (j := k) hs2 rfl (by omega) ?_
  refine iSub (by omega) ?_
  refine iRdO (j := k - 1) hs2 (by omega) (by omega) ?_
  refine iEqT ?_
  intro w3 h23
  have hs3 := hs2.ext h23
  refine iCndP (fun h4 => ?_) (fun h4 => ?_)
  rotate_left
  · refine iAdd (by omega) ?_
    refine hKn (k + 1) _ ⟨by omega, by omega, h2.trans h23, fun i h1 h5 => ?_⟩ (by omega)
    by_cases hi : i = k
    · subst hi; exact h4
    · exact hne i h1 (by omega)
  subst hv
  refine iSlTail (k := k) (by omega) hcap ?_
  refine iLp (fun s : Nat × Nat => [.int .i64 (s.1 : Int), .int .i64 (s.2 : Int)]) (fun s w' => k ≤ s.1 ∧ s.1 + 1 ≤ k + s.2 ∧ k + s.2 ≤ L.length ∧ ∃ M, Turn lo t_string sv (.slice (some ⟨g, 0, none⟩) L.length cap) w w' M ∧ M.length = L.length ∧ M.take s.1 = ddT (L.take (k + s.2)) ∧ ∀ j, k + s.2 ≤ j + 1 → gt M j = gt L j) (fun s => L.length - s.2) (k, 1) rfl
    ⟨Nat.le_refl _, Nat.le_refl _, by show k + 1 ≤ L.length; omega, L, ⟨hs3, (h2.trans h23).ch⟩, rfl, by show L.take k = ddT (L.take (k + 1)); rw [ddT_take hk1 (by omega), if_pos h4, ddT_idk k (by omega) hne], fun _ _ => rfl⟩ ?_
  rintro ⟨kk, k2⟩ w5 Kn5 ⟨hkk, hkk2, hk2, M, ht, hM, hMt, hMe⟩ hKn5
  have hkk : k ≤ kk := hkk
  have hkk2 : kk + 1 ≤ k + k2 := hkk2
  have hk2 : k + k2 ≤ L.length := hk2
  have hMt : M.take kk = ddT (L.take (k + k2)) := hMt
  have hMe : ∀ j, k + k2 ≤ j + 1 → gt M j = gt L j := hMe
  intro _
  simp only [gx]
  refine iLenL ?_
  refine iLt ?_
  refine iCndP (fun h5 => ?_) (fun h5 => ?_)
  · refine iIaL (j := k2) (by omega) ?_
    refine iLd (ht.ow.at (by rw [List.length_map]; exact hM) (j := k + k2) (by omega) |>.trans (strs_get M (by omega))) ?_
    refine iSub (by omega) ?_
    rw [show (k2 : Int) - 1 = ((k2 - 1 : Nat) : Int) by omega]
    refine iIaL (j := k2 - 1) (by omega) ?_
    refine iLd (ht.ow.at (by rw [List.length_map]; exact hM) (j := k + (k2 - 1)) (by omega) |>.trans (strs_get M (by omega))) ?_
    refine iNeT ?_
    intro w6 h56
    have ht6 := ht.ext h56
    have e1 := hMe (k + k2) (by omega)
    have e2 := hMe (k + (k2 - 1)) (by omega)
    have edd := ddT_take (l := L) (i := k + k2) (by omega) (by omega)
    rw [← e1, show k + k2 - 1 = k + (k2 - 1) by omega, ← e2] at edd
    refine iCndP (fun h6 => ?_) (fun h6 => ?_)
    · rw [if_neg h6, ← hMt] at edd
      refine iIaL (j := k2) (by omega) ?_
      refine iLd (ht6.ow.at (by rw [List.length_map]; exact hM) (j := k + k2) (by omega) |>.trans (strs_get M (by omega))) ?_
      refine iIaOw ht6.ow (by omega) (by rw [List.length_map]; omega) fun b o hb _ _ hc hf hset => ?_
      refine iSt (hc.trans (List.getElem?_eq_getElem (by rw [List.length_map]; omega))) hf rfl ?_
      have hset := hset (sv (gt M (k + k2)))
      rw [Int.toNat_natCast, ← List.map_set] at hset
      refine iAdd (by omega) ?_
      refine iAdd (by omega) ?_
      refine hKn5 (kk + 1, k2 + 1) _ ⟨by show k ≤ kk + 1; omega, by show kk + 1 + 1 ≤ k + (k2 + 1); omega, by show k + (k2 + 1) ≤ L.length; omega, M.set kk (gt M (k + k2)), ⟨hset, ht6.ch.trans ((Upd.setCell w6 b o _).ch (S := fun c => Value.ownBlock (.slice (some ⟨g, 0, none⟩) L.length cap) = some c) hb) fun _ e => .inl e⟩, by rw [List.length_set]; exact hM, ?_, fun j hj => ?_⟩ (by show L.length - (k2 + 1) < L.length - k2; omega)
      · show (M.set kk (gt M (k + k2))).take (kk + 1) = ddT (L.take (k + (k2 + 1)))
        rw [show k + (k2 + 1) = k + k2 + 1 by omega, edd, List.take_succ_eq_append_getElem (by rw [List.length_set]; omega), List.getElem_set_self, List.take_set_of_le (Nat.le_refl _)]
      · have hj : k + (k2 + 1) ≤ j + 1 := hj
        rw [gt_set _ (by omega), if_neg (by omega)]
        exact hMe j (by omega)
    · rw [if_pos (Classical.not_not.1 h6), ← hMt] at edd
      refine iAdd (by omega) ?_
      exact hKn5 (kk, k2 + 1) _ ⟨hkk, by show kk + 1 ≤ k + (k2 + 1); omega, by show k + (k2 + 1) ≤ L.length; omega, M, ht6, hM, edd.symm, fun j hj => hMe j (by have hj : k + (k2 + 1) ≤ j + 1 := hj; omega)⟩ (by show L.length - (k2 + 1) < L.length - k2; omega)
  · have hend : k + k2 = L.length := by omega
    rw [hend, List.take_length] at hMt
    refine iSlTail (k := kk) (by omega) hcap ?_
    refine iClr u_Sstring i_Sstring rfl ht.ow (by rw [List.length_map]; exact hM) (by omega) fun w8 h8 hc8 => ?_
    refine iSlHead (k := kk) (by omega) hcap ?_
    rw [show (List.map sv M).take kk = strs (M.take kk) from strs_take M kk, hMt] at h8
    exact ⟨h8, ht.ch.trans hc8 fun c hc => .inl (by rw [hc]; rfl), rfl⟩
theorem ok_impl_put {w : World} {v0 v1 : Value} {A B : List Str} (h0 : SlT w v0 A) (h1 : SlT w v1 B) (hc0 : isCell v0 = true) (hc1 : isCell v1 = true) (hl : A.length + B.length ≤ 1099511627776) :
    Cal Try.prog f_impl_put #[v0, v1] w fun r w' => Ext w w' ∧ Ow w.heap.size t_string w' r (strs (setT (A ++ B))) := by
  apply c_impl_put; unfold S_impl_put
  refine iBs2 rfl hc0 hc1 fun c w1 hc h1' hB => ?_
  refine iCall ((ok_Concat_Sstring_string (vs := [v0, v1]) (ps := [(A.length, strs A), (B.length, strs B)]) (Sl.ofBlk (n := 2) hB rfl (by decide)) rfl (fun i g1 g2 => ?_) (fun p hp u hu => ?_) (by simp; omega)).mono ?_)
  · rcases i with _ | _ | i
    · exact (Sl.toK (h0.ext h1')).cast (strs_len A)
    · exact (Sl.toK (h1.ext h1')).cast (strs_len B)
    · simp at g1; omega
  · simp only [List.mem_cons, List.not_mem_nil, or_false] at hp
    rcases hp with rfl | rfl
    · exact strs_cell _ _ hu
    · exact strs_cell _ _ hu
  rintro r w2 ⟨h2, ho⟩
  have hX2 := h1'.trans h2
  have ho2 : Ow w1.heap.size t_string w2 r (strs (A ++ B)) := by
    have := ho.toOw
    simpa [strs] using this
  refine iCall ((ok_slices_Sort_Sstring_string ho2 (by rw [List.length_append]; omega)).mono ?_)
  rintro _ w3 ⟨L', ho3, hc3, hperm, hsorted⟩
  have hlen : L'.length = A.length + B.length := by rw [hperm.length_eq, List.length_append]
  refine iCall ((ok_slices_Compact_Sstring_string ho3 (by omega)).mono ?_)
  rintro r' w4 ⟨ho4, hc4, _⟩
  rw [ddT_of_perm hsorted hperm] at ho4
  have hn : ∀ c, r.ownBlock = some c → w.heap.size ≤ c := fun c hc' => Nat.le_trans h1'.size (ho2.blk c hc').1
  exact ⟨(hX2.thenCh hc3 hn).thenCh hc4 hn, ho4.mono h1'.size⟩
theorem ok_spec_l02Insert {lo : Nat} {w : World} {v : Value} {L : List Str} {t : Str} (hs : Ow lo t_string w v (strs L)) (hlo : lo ≤ w.heap.size) (hL : L.length ≤ 1099511627776) :
    Cal Try.prog f_spec_l02Insert #[v, sv t] w fun r w' => Ext w w' ∧ Ow lo t_string w' r (strs (insT t L)) := by
  apply c_spec_l02Insert; unfold S_spec_l02Insert
  refine iLp (fun k : Nat => [.int .i64 (k : Int)]) (fun k w' => k ≤ L.length ∧ Ext w w' ∧ ∀ i, i < k → ltS (gt L i) t = true) (fun k => L.length - k) 0 rfl ⟨Nat.zero_le _, Ext.refl _, fun i hi => by omega⟩ ?_
  rintro k w2 Kn ⟨hk, h2, hlt⟩ hKn
  have hs2 := hs.ext h2
  intro _
  simp only [gx]
  refine iJnB (decide (k < L.length) && ltS (gt L k) t) w2 (fun J hJ => ?_) (fun w4 h4 => ?_)
  · refine iLenStr hs2.sl ?_
    refine iLt ?_
    refine iCndP (fun h => ?_) (fun h => ?_)
    · rw [decide_eq_true (show k < L.length by omega), Bool.true_and] at hJ
      refine iRdO (j := k) hs2 rfl (by omega) ?_
      exact iLtT (hJ _ (Ext.refl _))
    · rw [decide_eq_false (show ¬ k < L.length by omega), Bool.false_and] at hJ
      exact hJ _ (Ext.refl _)
  intro _
  simp only [gx]
  have hs4 := hs2.ext h4
  have h4' := h2.trans h4
  cases hc : decide (k < L.length) && ltS (gt L k) t
  rotate_left
  · rw [Bool.and_eq_true, decide_eq_true_eq] at hc
    refine iCndT rfl ?_
    refine iAdd (by omega) ?_
    refine hKn (k + 1) _ ⟨by omega, h4', fun i hi => ?_⟩ (by omega)
    by_cases hik : i = k
    · subst hik; exact hc.2
    · exact hlt i (by omega)
  refine iCndF rfl ?_
  have hsp := insT_split hk hlt
  refine iJnB (decide (k < L.length) && decide (gt L k = t)) w4 (fun J hJ => ?_) (fun w6 h6 => ?_)
  · refine iLenStr hs4.sl ?_
    refine iLt ?_
    refine iCndP (fun h => ?_) (fun h => ?_)
    · rw [decide_eq_true (show k < L.length by omega), Bool.true_and] at hJ
      refine iRdO (j := k) hs4 rfl (by omega) ?_
      exact iEqT (hJ _ (Ext.refl _))
    · rw [decide_eq_false (show ¬ k < L.length by omega), Bool.false_and] at hJ
      exact hJ _ (Ext.refl _)
  intro _
  simp only [gx]
  have hs6 := hs4.ext h6
  have h6' := h4'.trans h6
  cases hc2 : decide (k < L.length) && decide (gt L k = t)
  rotate_left
  · rw [Bool.and_eq_true, decide_eq_true_eq, decide_eq_true_eq] at hc2
    refine iCndT rfl ⟨h6', ?_⟩
    have : insT t L = L := by
      rw [hsp, List.drop_eq_getElem_cons hc2.1, ← gt_eq hc2.1, hc2.2, insT, ltS_irrefl, if_neg (by decide), if_pos rfl]
      have := List.take_append_drop k L
      rw [List.drop_eq_getElem_cons hc2.1, ← gt_eq hc2.1, hc2.2] at this
      exact this
    rw [this]; exact hs6
  · refine iCndF rfl ?_
    have hres : insT t L = L.take k ++ [t] ++ L.drop k := by
      rw [hsp]
      rcases Nat.lt_or_ge k L.length with h | h
      · rw [decide_eq_true h, Bool.true_and] at hc hc2
        rw [List.drop_eq_getElem_cons h, ← gt_eq h, insT, hc, if_neg (by decide), if_neg (of_decide_eq_false hc2)]
        simp
      · rw [List.drop_of_length_le h]; simp [insT]
    have hlo6 := Nat.le_trans hlo h6'.size
    refine iBs0 fun v7 w7 hw7 h7 ho7 => ?_
    have hs7 := hs6.ext h7
    refine iSlTo hs7.sl (by rw [strs_len]; exact hk) fun u hu => ?_
    rw [strs_take] at hu
    refine iAppA u_Sstring i_Sstring rfl ho7 hu (strs_cell _) (by rw [strs_len, List.length_take, List.length_nil]; omega) (by rw [strs_len, List.length_take, List.length_nil]; omega) (by omega) fun v8 w8 ho8 hg8 _ => ?_
    have hX8 := h7.grown hg8 fun b hb => (ho7.blk b hb).1
    have hs8 := hs6.ext hX8
    refine iApp1A u_Sstring i_Sstring rfl ho8 rfl (by rw [List.length_append, strs_len, List.length_take, List.length_nil]; omega) (by rw [List.length_append, strs_len, List.length_take, List.length_nil]; omega) (by have := hX8.size; omega) fun v10 w10 ho10 hg10 _ => ?_
    have hX10 := hX8.grown hg10 fun b hb => (ho8.blk b hb).1
    have hs10 := hs6.ext hX10
    refine iSlFrom hs10.sl (by rw [strs_len]; exact hk) fun u' hu' => ?_
    rw [strs_drop] at hu'
    rw [List.nil_append, show strs (L.take k) ++ [sv t] = strs (L.take k ++ [t]) from strs_snoc _ _] at ho10
    refine iAppA u_Sstring i_Sstring rfl ho10 hu' (strs_cell _) (by rw [strs_len, strs_len, List.length_append, List.length_take, List.length_drop, List.length_singleton]; omega) (by rw [strs_len, strs_len, List.length_append, List.length_take, List.length_drop, List.length_singleton]; omega) (by have := hX10.size; omega) fun v11 w11 ho11 hg11 _ => ?_
    have hX11 := hX10.grown hg11 fun b hb => (ho10.blk b hb).1
    rw [strs_app, ← hres] at ho11
    exact ⟨h6'.trans hX11, ho11.mono hlo6⟩
theorem ok_spec_l27Set {w : World} {v : Value} {L : List Str} (hs : SlT w v L) (hL : L.length ≤ 1099511627776) :
    Cal Try.prog f_spec_l27Set #[v] w fun r w' => Ext w w' ∧ Ow w.heap.size t_string w' r (strs (setT L)) := by
  apply c_spec_l27Set; unfold S_spec_l27Set
  refine iBs0 fun v1 w1 hw1 h1 ho1 => ?_
  refine iLp (fun s : Value × Nat => [s.1, .int .i64 (s.2 : Int)]) (fun s w' => s.2 ≤ L.length ∧ Ext w w' ∧ Ow w.heap.size t_string w' s.1 (strs (setT (L.take s.2)))) (fun s => L.length - s.2) (v1, 0) rfl ⟨Nat.zero_le _, h1, ho1⟩ ?_
  rintro ⟨u, i⟩ w3 Kn ⟨hi, h3, ho⟩ hKn
  have hi : i ≤ L.length := hi
  have ho : Ow w.heap.size t_string w3 u (strs (setT (L.take i))) := ho
  intro _
  simp only [gx]
  refine iLenStr (hs.ext h3) ?_
  refine iLt ?_
  refine iCndP (fun h => ?_) (fun h => ?_)
  · refine iIaT (hs.ext h3) (by omega) fun p hp => ?_
    refine iLd hp ?_
    have := setT_len (L.take i)
    rw [List.length_take] at this
    refine iCall ((ok_spec_l02Insert ho h3.size (by omega)).mono ?_)
    rintro r w4 ⟨h4, ho4⟩
    refine iAdd (by omega) ?_
    rw [← setT_snoc, ← List.take_succ_eq_append_getElem (by omega)] at ho4
    exact hKn (r, i + 1) _ ⟨by show i + 1 ≤ L.length; omega, h3.trans h4, ho4⟩ (by show L.length - (i + 1) < L.length - i; omega)
  · rw [List.take_of_length_le (by omega)] at ho
    exact ⟨h3, ho⟩
end Go.Proofs.Ytkjfpiimimfnhaa

/- Contracts: the references of an expression, in the program and in the reference; the laws' helpers for rows of texts. Conditions: none. -/
namespace Go.Vc
theorem iChr {P : Program} {w : World} {s d e : TypeId} {c : UInt8} {z : Int} {K : Value → World → Prop} (hs : P.underlying s = some (.slice e)) (he : P.underlying e = some (.int .u8)) (hd : P.underlying d = some .string) (hz : z = (c.toNat : Int)) (h : ∀ w', Ext w w' → K (sv [c]) w') :
    xBs e (Value.cells (.int .u8 0)) 1 1 [(0, .int .u8 z)] w fun v w3 => xR P w3 (convert s d v) fun r => K r w3 := by
  subst hz
  refine iBs1 rfl rfl fun b w1 hb h1 hB => ?_
  refine ⟨sv [c], fun w' hw' => ?_, h w1 h1⟩
  have hB' := hB.ext hw'
  rw [run_convert_bytes_string w' s d e _ 1 1 hs he hd]
  have hl : (loadCells ⟨b, 0, none⟩ 1).run P w' = .ok ([(c.toNat : Int)].map (Value.int .u8)).toArray w' := by
    simp only [loadCells]
    rw [loadCellsFrom_run (cs := #[Value.int .u8 (c.toNat : Int)]) 1 0 #[] (fun j _ hj => by
      have : j = 0 := by omega
      subst this
      exact hB'.cell 0) (by simp)]
    simp
  rw [run_bytesToString w' ⟨b, 0, none⟩ 1 1 _ hl]
  have e : [(c.toNat : Int)].foldl (fun (r : ByteArray) (n : Int) => r.push (UInt8.ofNat n.toNat)) ByteArray.empty = ⟨[c].toArray⟩ := by
    simp only [List.foldl_cons, List.foldl_nil, Int.toNat_natCast, UInt8.ofNat_toNat]
    rfl
  rw [e]
end Go.Vc
namespace Go.Proofs.Ytkjfpiimimfnhaa
open Go.Vc
open Go.RowKit (Below)
/-- The function that keeps each name in a row of its own and gives p. -/
def nmRefs (b : Nat) : Namer Try.prog t_byte (.func (.func f_impl_references_1) #[] #[.pointer (some ⟨b, 0, none⟩)]) (fun _ => [112]) (fun _ => True) where
  J := fun S l w => ∃ u, Blk t_Sstring w b [u] ∧ Ow (b + 1) t_string w u (strs l) ∧ ∀ k, S k ↔ (k = b ∨ u.ownBlock = some k)
  below := fun ⟨u, hB, ho, hS⟩ k hk => by
    rcases (hS k).1 hk with rfl | e
    · exact hB.lt
    · exact (ho.blk k e).2
  keep := fun ⟨u, hB, ho, hS⟩ _ hk => ⟨u, (hk b ((hS b).2 (.inl rfl))).trans hB, ho.same fun c hc => hk c ((hS c).2 (.inr hc)), hS⟩
  no8 := fun ⟨u, hB, ho, hS⟩ k hk => by
    rintro ⟨cur, fz, hc⟩
    rcases (hS k).1 hk with rfl | e
    · have := hB.symm.trans hc
      simp only [Option.some.injEq, Obj.cells.injEq] at this
      exact absurd this.2.1 (by decide)
    · obtain ⟨cur', hc'⟩ := ho.ty e
      have := hc'.symm.trans hc
      simp only [Option.some.injEq, Obj.cells.injEq] at this
      exact absurd this.2.1 (by decide)
  call := fun {S l w n} ⟨u, hB, ho, hS⟩ _ _ hl => by
    refine ⟨_, _, _, rfl, ?_⟩
    show Cal Try.prog f_impl_references_1 #[sv n, .pointer (some ⟨b, 0, none⟩)] w _
    apply c_impl_references_1; unfold S_impl_references_1
    have hlt := hB.lt
    refine iLdB hB rfl ?_
    refine iApp1A u_Sstring i_Sstring rfl ho rfl (by rw [strs_len]; omega) (by rw [strs_len]; omega) (by omega) fun u' w2 ho2 hg hat => ?_
    have hne : u.ownBlock ≠ some b := ho.ne_blk hB (by decide)
    have hB2 := hB.grown hg hne
    refine iStB hB2 (by simp) ho2.cell fun hB3 => ?_
    have hne2 : u'.ownBlock ≠ some b := ho2.ne_blk hB2 (by decide)
    rw [strs_snoc] at ho2
    refine ⟨rfl, fun k => k = b ∨ u'.ownBlock = some k, ⟨u', hB3, ho2.upd (Upd.setCell w2 b 0 u') hne2, fun k => Iff.rfl⟩, ?_, fun k hk => ?_⟩
    · refine (grown_ch (S := S) hg fun c hc => (hS c).2 (.inr hc)).trans ((Upd.setCell w2 b 0 u').ch (S := S) ((hS b).2 (.inl rfl))) fun c hc => .inl hc
    · rcases hk with rfl | hk
      · exact .inl ((hS _).2 (.inl rfl))
      · rcases hat with e | ⟨c, e, hc⟩
        · exact .inl ((hS k).2 (.inr (e ▸ hk)))
        · rw [e] at hk; cases hk; exact .inr hc
theorem ok_impl_references {t : Str} (ht : t.length ≤ 262144) (hok : (names (chop t)).all nameOk = true) (w : World) : Cal Try.prog f_impl_references #[sv t] w fun r w' => Ext w w' ∧ Ow w.heap.size t_string w' r (strs (setT (names (chop t)))) := by
  apply c_impl_references; unfold S_impl_references
  refine iNew fun b w1 hb h1 hB => ?_
  have hJ : (nmRefs b).J (fun k => k = b) [] w1 := ⟨.slice none 0 0, hB, Ow.nil _ _ _, fun k => ⟨.inl, fun h => h.elim id fun e => by cases e⟩⟩
  have hfl := fill_len (g := fun _ => [112]) (B := 1) t (fun n _ => by simp)
  refine iCall ((ok_impl_replaced (nmRefs b) (by omega) (fun _ _ => trivial) (by omega) hJ).mono ?_)
  rintro _ w2 ⟨S, l, ⟨u, hB2, ho2, hS2⟩, hc2, -, h2, -⟩
  obtain ⟨-, rfl⟩ := h2 hok
  have hX2 : Ext w w2 := h1.thenCh hc2 fun c hc => by omega
  refine iLdB hB2 rfl ?_
  have hn : (names (chop t)).length ≤ t.length := by rw [show (names (chop t)).length = (chop t).2.length from List.length_map _]; exact chop_len t
  refine iCall ((ok_impl_put (A := names (chop t)) (B := []) ho2.sl (Sl.nil w2) ho2.cell rfl (by simp; omega)).mono ?_)
  rintro r w3 ⟨h3, ho3⟩
  rw [List.append_nil] at ho3
  exact ⟨hX2.trans h3, ho3.mono hX2.size⟩
/-- The references of an expression; of other texts none. -/
def refsOf (t : Str) : List Str := if exprC t = 0 then setT (names (chop t)) else []
theorem refsOf_len (t : Str) : (refsOf t).length ≤ t.length := by
  unfold refsOf
  split
  · have := setT_len (names (chop t))
    have h2 : (names (chop t)).length ≤ t.length := by rw [show (names (chop t)).length = (chop t).2.length from List.length_map _]; exact chop_len t
    omega
  · simp
theorem exprC_ok {t : Str} (h : exprC t = 0) : t.length ≤ 300 ∧ exprB t = true ∧ (names (chop t)).all nameOk = true := by
  unfold exprC at h
  split at h
  · cases h
  · split at h
    · rename_i h1 h2
      refine ⟨by omega, h2, ?_⟩
      unfold exprB at h2
      rw [Bool.and_eq_true] at h2
      exact h2.1
    · cases h
theorem ok_impl_ReferencesOf (t : Str) (w : World) : Cal Try.prog f_impl_ReferencesOf #[sv t] w fun r w' => Ext w w' ∧ ∃ u, r = .tuple #[u, .int .i64 (exprC t)] ∧ Ow w.heap.size t_string w' u (strs (refsOf t)) := by
  apply c_impl_ReferencesOf; unfold S_impl_ReferencesOf
  refine iRet (ok_impl_expressionCode t w) fun w1 h1 => ?_
  refine iNe ?_
  refine iCndP (fun h => ?_) (fun h => ?_)
  · refine ⟨h1, _, rfl, ?_⟩
    unfold refsOf
    rw [if_neg h]
    exact Ow.nil _ _ _
  · have h : exprC t = 0 := Classical.not_not.1 h
    obtain ⟨hl, -, hn⟩ := exprC_ok h
    refine iCall ((ok_impl_references (by omega) hn w1).mono ?_)
    rintro r w2 ⟨h2, ho⟩
    refine ⟨h1.trans h2, r, by rw [h], ?_⟩
    unfold refsOf
    rw [if_pos h]
    exact ho.mono h1.size
theorem ok_spec_ReferencesOf (t : Str) (w : World) : Cal Try.prog f_spec_ReferencesOf #[sv t] w fun r w' => Ext w w' ∧ ∃ u, r = .tuple #[u, .int .i64 (exprC t)] ∧ Ow w.heap.size t_string w' u (strs (refsOf t)) := by
  apply c_spec_ReferencesOf; unfold S_spec_ReferencesOf
  refine iLenT ?_
  refine iLt ?_
  refine iCndP (fun h => ?_) (fun h => ?_)
  · have e : exprC t = 3 := by unfold exprC; rw [if_pos (by omega)]
    refine ⟨Ext.refl _, _, by rw [e], ?_⟩
    unfold refsOf
    rw [e, if_neg (by decide)]
    exact Ow.nil _ _ _
  · refine iRet (ok_spec_l36Form (by omega) w) fun w1 h1 => ?_
    refine iNot ?_
    cases he : exprB t
    · refine iCndT rfl ?_
      have e : exprC t = 6 := by unfold exprC; rw [if_neg (by omega), he]; rfl
      refine ⟨h1, _, by rw [e], ?_⟩
      unfold refsOf
      rw [e, if_neg (by decide)]
      exact Ow.nil _ _ _
    · refine iCndF rfl ?_
      have e : exprC t = 0 := by unfold exprC; rw [if_neg (by omega), he]; rfl
      refine iCall ((ok_spec_l36Cut (by omega) w1).mono ?_)
      rintro r w2 ⟨h2, vp, vn, rfl, -, hn⟩
      refine iE20 ?_
      refine iE21 ?_
      have hnl : (names (chop t)).length ≤ t.length := by rw [show (names (chop t)).length = (chop t).2.length from List.length_map _]; exact chop_len t
      refine iCall ((ok_spec_l27Set hn.sl (by omega)).mono ?_)
      rintro r w3 ⟨h3, ho⟩
      refine ⟨(h1.trans h2).trans h3, r, by rw [e], ?_⟩
      unfold refsOf
      rw [if_pos e]
      exact ho.mono (h1.trans h2).size
theorem ok_laws_eqStringS {v0 v1 : Value} {A B : List Str} {w : World} (h0 : SlT w v0 A) (h1 : SlT w v1 B) : Ret Try.prog f_laws_eqStringS #[v0, v1] w (.bool (decide (A = B))) := by
  apply c_laws_eqStringS; unfold S_laws_eqStringS
  have hA := h0.len
  rw [strs_len] at hA
  refine iLenStr h0 ?_
  refine iLenStr h1 ?_
  refine iNe ?_
  refine iCndP (fun h => ?_) (fun h => ?_)
  · rw [decide_eq_false (show ¬ A = B from fun e => h (by rw [e]))]
    exact ⟨by first | trivial | rfl, Ext.refl _⟩
  · have hl : A.length = B.length := by omega
    refine iLp (fun i : Nat => [.int .i64 (i : Int)]) (fun i w' => i ≤ A.length ∧ Ext w w' ∧ ∀ j, j < i → gt A j = gt B j) (fun i => A.length - i) 0 rfl ⟨Nat.zero_le _, Ext.refl _, fun j hj => by omega⟩ ?_
    rintro i w2 Kn ⟨hi, h2, he⟩ hKn
    intro _
    simp only [gx]
    refine iLenStr (h0.ext h2) ?_
    refine iLt ?_
    refine iCndP (fun h3 => ?_) (fun h3 => ?_)
    · refine iIaT (h0.ext h2) (by omega) fun p hp => ?_
      refine iLd hp ?_
      refine iIaT (h1.ext h2) (show i < B.length by omega) fun q hq => ?_
      refine iLd hq ?_
      refine iNeT ?_
      intro w3 h23
      refine iCndP (fun h4 => ?_) (fun h4 => ?_)
      · rw [decide_eq_false (show ¬ A = B from fun e => h4 (by subst e; rfl))]
        exact ⟨by first | trivial | rfl, h2.trans h23⟩
      · refine iAdd (by omega) ?_
        refine hKn (i + 1) _ ⟨by omega, h2.trans h23, fun j hj => ?_⟩ (by omega)
        by_cases hji : j = i
        · subst hji; rw [gt_eq (by omega), gt_eq (by omega)]; exact Classical.not_not.1 h4
        · exact he j (by omega)
    · rw [decide_eq_true (show A = B from List.ext_getElem hl fun j g1 g2 => by rw [← gt_eq g1, ← gt_eq g2]; exact he j (by omega))]
      exact ⟨by first | trivial | rfl, h2⟩
theorem ok_laws_markText (k : Int) (hk : k ≤ 9223372036854775807) (w : World) : Ret Try.prog f_laws_markText #[.int .i64 k] w (sv (markT k)) := by
  apply c_laws_markText; unfold S_laws_markText
  refine iLe ?_
  refine iCndP (fun h => ?_) (fun h => ?_)
  · unfold markT
    rw [if_pos h]
    exact ⟨by first | trivial | rfl, Ext.refl _⟩
  · refine iLp (fun s : Nat × Str => [.int .i64 (s.1 : Int), sv s.2]) (fun s w' => Ext w w' ∧ s.1 < 9223372036854775808 ∧ ∃ m, m + s.2.length = 20 ∧ s.1 < 10 ^ m ∧ digs m s.1 s.2 = digs 20 k.toNat []) (fun s => s.1) (k.toNat, []) (by show [Value.int .i64 ((k.toNat : Nat) : Int), _] = [Value.int .i64 k, _]; rw [Int.toNat_of_nonneg (by omega)])
      ⟨Ext.refl _, by show k.toNat < _; omega, 20, rfl, by show k.toNat < 10 ^ 20; omega, rfl⟩ ?_
    rintro ⟨n, acc⟩ w2 Kn ⟨h2, hn63, m, hm, hn, hd⟩ hKn
    have hn63 : n < 9223372036854775808 := hn63
    have hm : m + acc.length = 20 := hm
    have hn : n < 10 ^ m := hn
    have hd : digs m n acc = digs 20 k.toNat [] := hd
    intro _
    simp only [gx]
    refine iLt ?_
    refine iCndP (fun h3 => ?_) (fun h3 => ?_)
    · obtain ⟨m, rfl⟩ : ∃ m', m = m' + 1 := by
        rcases m with _ | m
        · simp at hn; omega
        · exact ⟨m, rfl⟩
      refine iRem (by omega) ?_
      refine iAdd (by omega) ?_
      refine ⟨_, _, rfl, ?_⟩
      rw [IntWalk.u8_in _ (by omega)]
      have ec : 48 + (n : Int) % 10 = ((UInt8.ofNat (48 + n % 10)).toNat : Int) := by
        rw [UInt8.toNat_ofNat']
        omega
      refine iChr (c := UInt8.ofNat (48 + n % 10)) (s := 44) (d := t_string) (by kernel_rfl) (by kernel_rfl) (by kernel_rfl) ec fun w3 h23 => ?_
      refine iCat (by simp only [List.length_singleton]; omega) ?_
      refine iQuo (by omega) ?_
      rw [show (n : Int) / 10 = ((n / 10 : Nat) : Int) by omega]
      refine hKn (n / 10, UInt8.ofNat (48 + n % 10) :: acc) _ ⟨h2.trans h23, by show n / 10 < _; omega, m, by show m + (_ :: acc).length = 20; rw [List.length_cons]; omega, by show n / 10 < 10 ^ m; rw [Nat.pow_succ] at hn; omega, ?_⟩ (by show n / 10 < n; omega)
      show digs m (n / 10) (UInt8.ofNat (48 + n % 10) :: acc) = _
      rw [← hd]
      conv => rhs; unfold digs
      rw [if_neg (by omega)]
    · have h0 : n = 0 := by omega
      subst h0
      have hacc : acc = digs 20 k.toNat [] := by
        rw [← hd]
        cases m with
        | zero => rfl
        | succ m => unfold digs; rw [if_pos rfl]
      refine iCat (a := [109]) (by simp only [List.length_singleton]; omega) ?_
      refine ⟨?_, h2⟩
      unfold markT
      rw [if_neg h, hacc]
      rfl
theorem ok_laws_markStringS {lo : Nat} {v : Value} {L : List Str} {w : World} (hs : Ow lo t_string w v (strs L)) {k : Nat} (hk : k + L.length ≤ 1152921504606846976) :
    Cal Try.prog f_laws_markStringS #[v, .int .i64 (k : Int)] w fun r w' => r = .int .i64 ((k + L.length : Nat) : Int) ∧ Turn lo t_string sv v w w' (marksT k L.length) := by
  apply c_laws_markStringS; unfold S_laws_markStringS
  refine iLp (fun i : Nat => [.int .i64 ((k + i : Nat) : Int), .int .i64 (i : Int)]) (fun i w' => i ≤ L.length ∧ ∃ M, Turn lo t_string sv v w w' M ∧ M.length = L.length ∧ ∀ j, j < i → gt M j = markT ((k + j : Nat) : Int)) (fun i => L.length - i) 0 rfl ⟨Nat.zero_le _, L, Turn.refl hs, rfl, fun j hj => by omega⟩ ?_
  rintro i w2 Kn ⟨hi, M, ht, hM, he⟩ hKn
  intro _
  simp only [gx]
  refine iLenStr (L := M) ht.ow.sl ?_
  refine iLt ?_
  refine iCndP (fun h3 => ?_) (fun h3 => ?_)
  · refine iRet (ok_laws_markText _ (by omega) w2) fun w3 h23 => ?_
    have ht3 := ht.ext h23
    refine iIaOw ht3.ow (by omega) (by rw [List.length_map]; omega) fun b o hb _ _ hc hf hset => ?_
    refine iSt (hc.trans (List.getElem?_eq_getElem (by rw [List.length_map]; omega))) hf rfl ?_
    have hset := hset (sv (markT ((k + i : Nat) : Int)))
    rw [Int.toNat_natCast, ← List.map_set] at hset
    refine iAdd (by omega) ?_
    refine iAdd (by omega) ?_
    refine hKn (i + 1) _ ⟨by omega, M.set i (markT ((k + i : Nat) : Int)), ⟨hset, ht3.ch.trans ((Upd.setCell w3 b o _).ch (S := fun c => v.ownBlock = some c) hb) fun _ e => .inl e⟩, by rw [List.length_set]; exact hM, fun j hj => ?_⟩ (by omega)
    rw [gt_set _ (by omega)]
    by_cases hji : j = i
    · rw [if_pos hji, hji]
    · rw [if_neg hji]; exact he j (by omega)
  · have hil : i = L.length := by omega
    subst hil
    refine ⟨rfl, ?_⟩
    have : marksT k L.length = M := List.ext_getElem (by rw [marksT_len, hM]) fun j g1 g2 => by
      rw [← gt_eq g1, ← gt_eq g2, gt_marksT (by omega), he j (by omega)]
    rw [this]; exact ht
theorem ok_laws_heldStringS {v : Value} {k n : Nat} {w : World} (hs : SlT w v (marksT k n)) (hk : k + n ≤ 1152921504606846976) : Ret Try.prog f_laws_heldStringS #[v, .int .i64 (k : Int)] w (.int .i64 ((k + n : Nat) : Int)) := by
  apply c_laws_heldStringS; unfold S_laws_heldStringS
  refine iLp (fun i : Nat => [.int .i64 ((k + i : Nat) : Int), .int .i64 (i : Int)]) (fun i w' => i ≤ n ∧ Ext w w') (fun i => n - i) 0 rfl ⟨Nat.zero_le _, Ext.refl _⟩ ?_
  rintro i w2 Kn ⟨hi, h2⟩ hKn
  intro _
  simp only [gx]
  have hl := marksT_len n k
  refine iLenStr (hs.ext h2) ?_
  refine iLt ?_
  refine iCndP (fun h3 => ?_) (fun h3 => ?_)
  · refine iIaT (hs.ext h2) (show i < (marksT k n).length by omega) fun p hp => ?_
    refine iLd hp ?_
    refine iRetQ (fun w' _ => ok_laws_markText _ (by omega) w') ?_
    refine iNeT ?_
    intro w3 h23
    rw [← gt_eq (show i < (marksT k n).length by omega), gt_marksT (by omega)]
    refine iCndP (fun h4 => absurd rfl h4) (fun _ => ?_)
    refine iAdd (by omega) ?_
    refine iAdd (by omega) ?_
    exact hKn (i + 1) _ ⟨by omega, h2.trans h23⟩ (by omega)
  · have : i = n := by omega
    subst this
    exact ⟨by first | trivial | rfl, h2⟩
theorem ok_laws_FnExactReferencesOf (t : Str) (w : World) : Ret Try.prog f_laws_FnExactReferencesOf #[sv t] w (.bool true) := by
  apply c_laws_FnExactReferencesOf; unfold S_laws_FnExactReferencesOf
  refine iLenT ?_
  refine iLt ?_
  refine iCndP (fun h => ?_) (fun h => ?_)
  · exact ⟨by first | trivial | rfl, Ext.refl _⟩
  have hrl := refsOf_len t
  refine iCall ((ok_spec_ReferencesOf t w).mono ?_)
  rintro r w1 ⟨h1, v0, rfl, ho0⟩
  refine iE20 ?_
  refine iE21 ?_
  refine iCall ((ok_impl_ReferencesOf t w1).mono ?_)
  rintro r w2 ⟨h2, v1, rfl, ho1⟩
  refine iE20 ?_
  refine iE21 ?_
  have hlt0 : ∀ c, v0.ownBlock = some c → c < w1.heap.size := fun c hc => (ho0.blk c hc).2
  have ho0 := ho0.ext h2
  refine iJnB false w2 (fun J hJ => ?_) (fun w4 h4 => ?_)
  · refine iRet (ok_laws_eqStringS ho1.sl ho0.sl) fun w3 h3 => ?_
    rw [decide_eq_true rfl]
    refine iNot ?_
    refine iCndF rfl ?_
    refine iNe ?_
    rw [decide_eq_false (fun h => h rfl)]
    exact hJ _ h3
  intro _
  simp only [gx]
  refine iCndF rfl ?_
  have ho0 := ho0.ext h4
  have ho1 := ho1.ext h4
  have hX4 := (h1.trans h2).trans h4
  have hne : ∀ c, v0.ownBlock = some c → ¬ v1.ownBlock = some c := fun c hc hc' => by
    have a1 := (ho1.blk c hc').1
    have a2 := hlt0 c hc
    omega
  refine iCall ((ok_laws_markStringS ho1 (k := 1) (by omega)).mono ?_)
  rintro r w6 ⟨rfl, ht6⟩
  have hX6 : Ext w w6 := hX4.thenCh ht6.ch fun c hc => Nat.le_trans h1.size (ho1.blk c hc).1
  have ho06 := ho0.ch ht6.ch hne
  refine iRet (ok_laws_heldStringS (k := 1) (n := (refsOf t).length) ht6.ow.sl (by omega)) fun w7 h7 => ?_
  refine iLt ?_
  refine iCndP (fun h => by omega) (fun _ => ?_)
  refine iNe ?_
  refine iCndP (fun h => absurd rfl h) (fun _ => ?_)
  refine iCall ((ok_impl_ReferencesOf t w7).mono ?_)
  rintro r w8 ⟨h8, v2, rfl, ho2⟩
  refine iE20 ?_
  refine iE21 ?_
  have ho08 := (ho06.ext h7).ext h8
  have ht8 := (ht6.ext h7).ext h8
  have hX8 := (hX6.trans h7).trans h8
  refine iJnB false w8 (fun J hJ => ?_) (fun w10 h10 => ?_)
  · refine iRet (ok_laws_eqStringS ho2.sl ho08.sl) fun w9 h9 => ?_
    rw [decide_eq_true rfl]
    refine iNot ?_
    refine iCndF rfl ?_
    refine iNe ?_
    rw [decide_eq_false (fun h => h rfl)]
    exact hJ _ h9
  intro _
  simp only [gx]
  refine iCndF rfl ?_
  refine iRet (ok_laws_heldStringS (k := 1) (n := (refsOf t).length) (ht8.ext h10).ow.sl (by omega)) fun w12 h12 => ?_
  refine iLt ?_
  refine iCndP (fun h => by omega) (fun _ => ?_)
  refine iNe ?_
  refine iCndP (fun h => absurd rfl h) (fun _ => ?_)
  exact ⟨by first | trivial | rfl, (hX8.trans h10).trans h12⟩
end Go.Proofs.Ytkjfpiimimfnhaa
