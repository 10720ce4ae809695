/- Plain facts on posets: depths, and the order by depth. No program in sight. Conditions: none. -/
import Derived.Test.YtoolpnkcmlebkaaGreatMaA
namespace Go.Vc
structure Po (f : Fr) : Prop where
  ok : f.ok
  refl : ∀ x, x < f.n → (f.a.getD x 0).testBit x = true
  trans : ∀ x y z, (f.a.getD x 0).testBit y = true → (f.a.getD y 0).testBit z = true → (f.a.getD x 0).testBit z = true
  anti : ∀ x y, (f.a.getD x 0).testBit y = true → (f.a.getD y 0).testBit x = true → x = y
theorem po_of {f : Fr} (hf : f.ok) (h : poB f = true) : Po f := by
  unfold poB at h
  rw [Bool.and_eq_true, Bool.and_eq_true] at h
  obtain ⟨h0, h2, h8⟩ := h
  refine ⟨hf, fun x hx => ?_, (flagB_trans hf).1 h2, fun x y h1 h2 => ?_⟩
  · rw [flagB_refl, List.all_eq_true] at h0
    exact h0 x (List.mem_range.2 hx)
  · obtain ⟨hx, hy⟩ := fr_bit_lt hf h1
    have := (flagB_iff.1 h8 x hx).2 y hy
    unfold flag2 at this
    rw [h1, h2] at this
    simpa using this
/-- What can be reached is what is above. -/
theorem rows_one {f : Fr} (_hf : f.ok) {x : Nat} (hx : x < f.n) : rowsK f.a (2 ^ x) f.n = f.a.getD x 0 := by
  apply Nat.eq_of_testBit_eq
  intro j
  rw [Bool.eq_iff_iff, rowsK_bit]
  constructor
  · rintro ⟨i, _, h2, h3⟩
    rw [Nat.testBit_two_pow, decide_eq_true_eq] at h2
    rw [h2]; exact h3
  · exact fun h => ⟨x, hx, by rw [Nat.testBit_two_pow]; simp, h⟩
theorem rows_sub {f : Fr} (hp : Po f) {m : Nat} (hm : m < 2 ^ f.n) (j : Nat) (h : m.testBit j = true) : (rowsK f.a m f.n).testBit j = true := by
  have hj : j < f.n := by
    rcases Nat.lt_or_ge j f.n with h' | h'
    · exact h'
    · rw [Nat.testBit_lt_two_pow (Nat.lt_of_lt_of_le hm (Nat.pow_le_pow_right (by omega) h'))] at h; cases h
  exact (rowsK_bit _ _ _ _).2 ⟨j, hj, h, hp.refl j hj⟩
theorem rows_rows {f : Fr} (hp : Po f) (m : Nat) : sdiff (rowsK f.a (rowsK f.a m f.n) f.n) (rowsK f.a m f.n) = 0 := by
  rw [sdiff_eq_zero]
  intro j hj
  obtain ⟨i, hi, h1, h2⟩ := (rowsK_bit _ _ _ _).1 hj
  obtain ⟨k, hk, h3, h4⟩ := (rowsK_bit _ _ _ _).1 h1
  exact (rowsK_bit _ _ _ _).2 ⟨k, hk, h3, hp.trans k i j h4 h2⟩
/-- The greatest of some numbers. -/
def bestF (h : Nat → Nat) (p : Nat → Bool) (k : Nat) : Nat := (List.range k).foldl (fun b v => if p v then max b (h v) else b) 0
theorem bestF_succ (h : Nat → Nat) (p : Nat → Bool) (k : Nat) : bestF h p (k + 1) = if p k then max (bestF h p k) (h k) else bestF h p k := by
  unfold bestF; rw [List.range_succ, List.foldl_append]; rfl
theorem bestF_le {h : Nat → Nat} {p : Nat → Bool} {B : Nat} : ∀ k, (∀ v, v < k → p v = true → h v ≤ B) → bestF h p k ≤ B
  | 0, _ => Nat.zero_le _
  | k + 1, hB => by
    rw [bestF_succ]
    have ih := bestF_le k fun v hv hp => hB v (by omega) hp
    split
    · rename_i hp
      exact Nat.max_le.2 ⟨ih, hB k (by omega) hp⟩
    · exact ih
theorem le_bestF {h : Nat → Nat} {p : Nat → Bool} : ∀ {k v : Nat}, v < k → p v = true → h v ≤ bestF h p k
  | k + 1, v, hv, hp => by
    rw [bestF_succ]
    by_cases hvk : v = k
    · subst hvk; rw [if_pos hp]; exact Nat.le_max_right _ _
    · have := le_bestF (h := h) (show v < k by omega) hp
      split
      · exact Nat.le_trans this (Nat.le_max_left _ _)
      · exact this
theorem bestF_congr {h h' : Nat → Nat} {p : Nat → Bool} : ∀ k, (∀ v, v < k → p v = true → h v = h' v) → bestF h p k = bestF h' p k
  | 0, _ => rfl
  | k + 1, hh => by
    rw [bestF_succ, bestF_succ, bestF_congr k fun v hv hp => hh v (by omega) hp]
    split
    · rename_i hp; rw [hh k (by omega) hp]
    · rfl
def aboveB (f : Fr) (x v : Nat) : Bool := !decide (v = x) && (f.a.getD x 0).testBit v
def depF (f : Fr) : Nat → Nat → Nat
  | 0, _ => 0
  | k + 1, x => bestF (depF f k) (aboveB f x) f.n + 1
theorem popc_above {f : Fr} (hp : Po f) {x v : Nat} (h : aboveB f x v = true) : popc (f.a.getD v 0) < popc (f.a.getD x 0) := by
  unfold aboveB at h
  rw [Bool.and_eq_true, Bool.not_eq_true', decide_eq_false_iff_not] at h
  obtain ⟨hne, hb⟩ := h
  obtain ⟨hx, hv⟩ := fr_bit_lt hp.ok hb
  have hn : (f.a.getD v 0).testBit x = false := by
    rw [Bool.eq_false_iff]
    exact fun h => hne (hp.anti v x h hb)
  have h1 := popc_or_one (f.a.getD v 0) x (by have := hp.ok.1; omega)
  rw [hn] at h1
  simp only [Bool.false_eq_true, if_false] at h1
  have h2 := popc_mono (a := f.a.getD v 0 ||| 2 ^ x) (b := f.a.getD x 0) (fun i hi => by
    rw [Nat.testBit_or, Bool.or_eq_true] at hi
    rcases hi with hi | hi
    · exact hp.trans x v i hb hi
    · rw [Nat.testBit_two_pow, decide_eq_true_eq] at hi
      rw [← hi]; exact hp.refl x hx)
  omega
theorem popc_pos {f : Fr} (hp : Po f) {x : Nat} (hx : x < f.n) : 0 < popc (f.a.getD x 0) := by
  have h1 := popc_or_one 0 x (by have := hp.ok.1; omega)
  rw [popc_zero] at h1
  simp only [Nat.zero_testBit, Bool.false_eq_true, if_false] at h1
  have h2 := popc_mono (a := 0 ||| 2 ^ x) (b := f.a.getD x 0) (fun i hi => by
    rw [Nat.zero_or, Nat.testBit_two_pow, decide_eq_true_eq] at hi
    rw [← hi]; exact hp.refl x hx)
  omega
theorem depF_same {f : Fr} (hp : Po f) : ∀ (k k' x : Nat), x < f.n → popc (f.a.getD x 0) ≤ k → popc (f.a.getD x 0) ≤ k' → depF f k x = depF f k' x
  | 0, _, x, hx, h, _ => by have := popc_pos hp hx; omega
  | k + 1, 0, x, hx, _, h => by have := popc_pos hp hx; omega
  | k + 1, k' + 1, x, hx, h, h' => by
    simp only [depF]
    congr 1
    refine bestF_congr f.n fun v hv hb => ?_
    have := popc_above hp hb
    exact depF_same hp k k' v hv (by omega) (by omega)
/-- The depth. -/
def dep (f : Fr) (x : Nat) : Nat := depF f 9 x
theorem popc_le8 {f : Fr} (hf : f.ok) (x : Nat) : popc (f.a.getD x 0) ≤ f.n := by
  by_cases hx : x < f.n
  · exact popc_full (by have := hf.1; omega) (hf.lt hx)
  · have e : f.a.getD x 0 = 0 := by simp [List.getD_eq_getElem?_getD, List.getElem?_eq_none (show f.a.length ≤ x by rw [hf.2.1]; omega)]
    rw [e, popc_zero]; omega
theorem dep_eq {f : Fr} (hp : Po f) {k x : Nat} (hx : x < f.n) (hk : popc (f.a.getD x 0) ≤ k) : depF f k x = dep f x :=
  depF_same hp k 9 x hx hk (by have := popc_le8 hp.ok x; have := hp.ok.1; omega)
theorem dep_above {f : Fr} (hp : Po f) {x v : Nat} (_hx : x < f.n) (h : aboveB f x v = true) : dep f v < dep f x := by
  have hv : v < f.n := by
    unfold aboveB at h
    rw [Bool.and_eq_true] at h
    exact (fr_bit_lt hp.ok h.2).2
  have h1 : dep f x = bestF (depF f 8) (aboveB f x) f.n + 1 := rfl
  have h2 := le_bestF (h := depF f 8) hv h
  have h3 := popc_above hp h
  have h4 := popc_le8 hp.ok x
  have h5 := hp.ok.1
  rw [dep_eq hp hv (by omega)] at h2
  omega
theorem depF_le {f : Fr} (hp : Po f) : ∀ (k x : Nat), x < f.n → depF f k x ≤ popc (f.a.getD x 0)
  | 0, _, _ => Nat.zero_le _
  | k + 1, x, hx => by
    simp only [depF]
    have h1 := popc_pos hp hx
    have := bestF_le (h := depF f k) (p := aboveB f x) (B := popc (f.a.getD x 0) - 1) f.n fun v hv hb => by
      have h2 := popc_above hp hb
      have h3 := depF_le hp k v hv
      omega
    omega
theorem dep_pos (f : Fr) (x : Nat) : 1 ≤ dep f x := by
  show 1 ≤ bestF (depF f 8) (aboveB f x) f.n + 1
  omega
/-- The order by depth. -/
def ordK (f : Fr) (d : Nat) : List Nat := (List.range d).flatMap fun d => (List.range f.n).filter fun x => decide (dep f x = d + 1)
def ordOf (f : Fr) : List Nat := ordK f f.n
theorem popc_range {n : Nat} (hn : n ≤ 62) : popc (2 ^ n - 1) = n := by
  have e : 2 ^ n - 1 = setOf (List.range n) := by
    apply Nat.eq_of_testBit_eq
    intro i
    rw [full_testBit, setOf_testBit, Bool.eq_iff_iff, decide_eq_true_eq, List.contains_iff_mem, List.mem_range]
  rw [e, (popc_setOf_nodup n (List.range n) (by simp) (fun y hy => by have := List.mem_range.1 hy; omega)).2 List.nodup_range]
  simp
theorem ordOf_ok {f : Fr} (hp : Po f) : OrdOk f (ordOf f) := by
  have hmem : ∀ x, x ∈ ordOf f ↔ x < f.n := fun x => by
    unfold ordOf ordK
    rw [List.mem_flatMap]
    constructor
    · rintro ⟨d, _, h⟩
      exact List.mem_range.1 (List.mem_filter.1 h).1
    · intro hx
      have h1 := dep_pos f x
      have h2 := depF_le hp 9 x hx
      have h3 := popc_le8 hp.ok x
      refine ⟨dep f x - 1, List.mem_range.2 ?_, List.mem_filter.2 ⟨List.mem_range.2 hx, decide_eq_true (by omega)⟩⟩
      have : dep f x ≤ f.n := Nat.le_trans h2 h3
      omega
  have hnd : (ordOf f).Nodup := by
    unfold ordOf ordK List.Nodup
    rw [List.pairwise_flatMap]
    refine ⟨fun d _ => List.Nodup.sublist List.filter_sublist List.nodup_range, ?_⟩
    refine List.Pairwise.imp ?_ (List.pairwise_lt_range (n := f.n))
    intro d d' hlt x hx y hy
    have h1 := of_decide_eq_true (List.mem_filter.1 hx).2
    have h2 := of_decide_eq_true (List.mem_filter.1 hy).2
    rintro rfl
    omega
  have hso : (ordOf f).Pairwise fun x y => dep f x ≤ dep f y := by
    unfold ordOf ordK
    rw [List.pairwise_flatMap]
    refine ⟨fun d _ => ?_, ?_⟩
    · rw [List.pairwise_iff_getElem]
      intro i j hi hj _
      have h1 := of_decide_eq_true (List.mem_filter.1 (List.getElem_mem hi)).2
      have h2 := of_decide_eq_true (List.mem_filter.1 (List.getElem_mem hj)).2
      omega
    · refine List.Pairwise.imp ?_ (List.pairwise_lt_range (n := f.n))
      intro d d' hlt x hx y hy
      have h1 := of_decide_eq_true (List.mem_filter.1 hx).2
      have h2 := of_decide_eq_true (List.mem_filter.1 hy).2
      omega
  have hlen : (ordOf f).length = f.n := by
    have hf8 := hp.ok.1
    rw [← (popc_setOf_nodup _ (ordOf f) rfl (fun y hy => by have := (hmem y).1 hy; omega)).2 hnd]
    have e : setOf (ordOf f) = 2 ^ f.n - 1 := by
      apply Nat.eq_of_testBit_eq
      intro i
      rw [full_testBit, setOf_testBit, Bool.eq_iff_iff, decide_eq_true_eq, List.contains_iff_mem, hmem]
    rw [e, popc_range (by omega)]
  refine ⟨hlen, fun x hx => (hmem x).1 hx, fun x hx => (hmem x).2 hx, hnd, fun x y hb hne => ?_⟩
  obtain ⟨hx, hy⟩ := fr_bit_lt hp.ok hb
  have hd : dep f y < dep f x := dep_above hp hx (by unfold aboveB; rw [hb, decide_eq_false hne]; rfl)
  have ix : (ordOf f).idxOf x < (ordOf f).length := List.idxOf_lt_length_of_mem ((hmem x).2 hx)
  have iy : (ordOf f).idxOf y < (ordOf f).length := List.idxOf_lt_length_of_mem ((hmem y).2 hy)
  rcases Nat.lt_or_ge ((ordOf f).idxOf y) ((ordOf f).idxOf x) with h | h
  · exact h
  · exfalso
    rcases Nat.lt_or_eq_of_le h with h | h
    · have := List.pairwise_iff_getElem.1 hso _ _ ix iy h
      rw [List.getElem_idxOf, List.getElem_idxOf] at this
      omega
    · have e1 : (ordOf f)[(ordOf f).idxOf x] = x := List.getElem_idxOf ix
      have e2 : (ordOf f)[(ordOf f).idxOf y] = y := List.getElem_idxOf iy
      have : x = y := by rw [← e1, ← e2]; simp only [h]
      exact hne this.symm
end Go.Vc
