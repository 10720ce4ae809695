/- Plain facts on masks: members, images, the count of members. No program in sight. Conditions: none. -/
import Derived.Test.YtoolpnkcmlebkaaGreatMem
namespace Go.Vc

/-! ### Members -/
def memK (m k : Nat) : List Nat := (List.range k).filter fun i => m.testBit i
def mem (m : Nat) : List Nat := memK m 63
def popc (m : Nat) : Nat := (mem m).length
theorem memK_succ (m k : Nat) : memK m (k + 1) = memK m k ++ if m.testBit k then [k] else [] := by
  simp only [memK, List.range_succ, List.filter_append, List.filter_cons, List.filter_nil]
theorem memK_high {m a : Nat} (h : ∀ j, a ≤ j → m.testBit j = false) : ∀ d, memK m (a + d) = memK m a := by
  intro d
  induction d with
  | zero => rfl
  | succ d ih => rw [← Nat.add_assoc, memK_succ, ih, h (a + d) (by omega)]; simp
theorem testBit_of_shr {m k : Nat} (h : m >>> k = 0) (j : Nat) (hj : k ≤ j) : m.testBit j = false := by
  have : m < 2 ^ k := by
    rw [Nat.shiftRight_eq_div_pow] at h
    exact (Nat.div_eq_zero_iff_lt (Nat.two_pow_pos k)).1 h
  exact Nat.testBit_lt_two_pow (Nat.lt_of_lt_of_le this (Nat.pow_le_pow_right (by omega) hj))
theorem memK_stop {m k : Nat} (hm : m < 2 ^ 63) (h : m >>> k = 0) : memK m k = mem m := by
  by_cases hk : k ≤ 63
  · have := memK_high (testBit_of_shr h) (63 - k)
    rw [show k + (63 - k) = 63 by omega] at this
    exact this.symm
  · have := memK_high (m := m) (a := 63) (fun j hj => Nat.testBit_lt_two_pow (Nat.lt_of_lt_of_le hm (Nat.pow_le_pow_right (by omega) hj))) (k - 63)
    rw [show 63 + (k - 63) = k by omega] at this
    exact this
theorem mem_mem {m i : Nat} (hm : m < 2 ^ 63) : i ∈ mem m ↔ m.testBit i = true := by
  simp only [mem, memK, List.mem_filter, List.mem_range]
  constructor
  · exact fun h => h.2
  · intro h
    refine ⟨?_, h⟩
    rcases Nat.lt_or_ge i 63 with h' | h'
    · exact h'
    · rw [Nat.testBit_lt_two_pow (Nat.lt_of_lt_of_le hm (Nat.pow_le_pow_right (by omega) h'))] at h; cases h
theorem memK_length_le (m k : Nat) : (memK m k).length ≤ k := by
  have := List.length_filter_le (fun i => m.testBit i) (List.range k)
  simpa [memK] using this
theorem shr_pos {m k : Nat} (h : 0 < m >>> k) (hm : m < 2 ^ 63) : k < 63 := by
  rcases Nat.lt_or_ge k 63 with h' | h'
  · exact h'
  · have : m >>> k = 0 := by
      rw [Nat.shiftRight_eq_div_pow]
      exact Nat.div_eq_of_lt (Nat.lt_of_lt_of_le hm (Nat.pow_le_pow_right (by omega) h'))
    omega
theorem shr_succ (m k : Nat) : m >>> (k + 1) = m >>> k / 2 := by
  rw [Nat.shiftRight_succ]
theorem testBit_shr (m k : Nat) : (m >>> k) % 2 = (m.testBit k).toNat := by
  rw [Nat.testBit_eq_decide_div_mod_eq, ← Nat.shiftRight_eq_div_pow]
  rcases Nat.mod_two_eq_zero_or_one (m >>> k) with h | h <;> simp [h]

/-! ### Images -/
def setOf (l : List Nat) : Nat := l.foldl (fun a y => a ||| 2 ^ y) 0
theorem setOf_snoc (l : List Nat) (y : Nat) : setOf (l ++ [y]) = setOf l ||| 2 ^ y := by simp [setOf]
theorem foldl_or_testBit (l : List Nat) (a j : Nat) : (l.foldl (fun a y => a ||| 2 ^ y) a).testBit j = (a.testBit j || l.contains j) := by
  induction l generalizing a with
  | nil => simp
  | cons x r ih =>
    rw [List.foldl_cons, ih, Nat.testBit_or, Nat.testBit_two_pow]
    rw [List.contains_cons]
    by_cases h : x = j
    · subst h; simp
    · have h' : (j == x) = false := by simp; omega
      simp [h, h']
theorem setOf_testBit (l : List Nat) (j : Nat) : (setOf l).testBit j = l.contains j := by simp [setOf, foldl_or_testBit]
theorem setOf_lt {l : List Nat} {n : Nat} (h : ∀ y ∈ l, y < n) : setOf l < 2 ^ n := by
  refine Nat.lt_pow_two_of_testBit _ fun i hi => ?_
  rw [setOf_testBit]
  simp only [List.contains_eq_mem, decide_eq_false_iff_not]
  intro hm
  have := h i hm
  omega
/-- The images of the first k members of a mask. -/
def imgK (im : List Nat) (m k : Nat) : Nat := setOf ((memK m k).map fun i => im.getD i 0)
def img (im : List Nat) (m : Nat) : Nat := imgK im m im.length
theorem imgK_succ (im : List Nat) (m k : Nat) : imgK im m (k + 1) = if m.testBit k then imgK im m k ||| 2 ^ im.getD k 0 else imgK im m k := by
  simp only [imgK, memK_succ, List.map_append]
  split
  · simp [setOf_snoc]
  · simp
theorem imgK_lt {im : List Nat} {n m k : Nat} (h : ∀ y ∈ im, y < n) (hk : k ≤ im.length) : imgK im m k < 2 ^ n := by
  refine setOf_lt fun y hy => ?_
  obtain ⟨i, hi, rfl⟩ := List.mem_map.1 hy
  have : i < k := by simp only [memK, List.mem_filter, List.mem_range] at hi; exact hi.1
  have hi : i < im.length := by omega
  simp only [List.getD_eq_getElem?_getD, List.getElem?_eq_getElem hi, Option.getD_some]
  exact h _ (List.getElem_mem _)

/-! ### Counting members by the word's own trick -/
def popN : Nat → Nat → Nat
  | 0, _ => 0
  | n + 1, x => x % 2 + popN n (x / 2)
theorem popN_le (n x : Nat) : popN n x ≤ n := by
  induction n generalizing x with
  | zero => simp [popN]
  | succ n ih => simp only [popN]; have := ih (x / 2); omega
theorem popN_split (a b x : Nat) : popN (a + b) x = popN a (x % 2 ^ a) + popN b (x / 2 ^ a) := by
  induction a generalizing x with
  | zero => simp [popN]
  | succ a ih =>
    rw [show a + 1 + b = (a + b) + 1 by omega]
    simp only [popN]
    rw [ih (x / 2)]
    have h1 : x % 2 ^ (a + 1) % 2 = x % 2 := by rw [Nat.pow_succ, Nat.mul_comm, Nat.mod_mul_right_mod]
    have h2 : x % 2 ^ (a + 1) / 2 = x / 2 % 2 ^ a := by rw [Nat.pow_succ, Nat.mul_comm, Nat.mod_mul_right_div_self]
    have h3 : x / 2 / 2 ^ a = x / 2 ^ (a + 1) := by rw [Nat.div_div_eq_div_mul, Nat.pow_succ, Nat.mul_comm]
    rw [h1, h2, h3]; omega
/-- j fields of k bits, each the count of its own members. -/
def fld (k : Nat) : Nat → Nat → Nat
  | 0, _ => 0
  | j + 1, x => popN k (x % 2 ^ k) + 2 ^ k * fld k j (x / 2 ^ k)
/-- Of j fields of 2 k bits the lower halves. -/
def Mk (k : Nat) : Nat → Nat
  | 0 => 0
  | j + 1 => (2 ^ k - 1) + 2 ^ (2 * k) * Mk k j
theorem popN_lt {k : Nat} (x : Nat) : popN k x < 2 ^ k := Nat.lt_of_le_of_lt (popN_le k x) Nat.lt_two_pow_self
theorem and_field {k u m v M : Nat} (hu : u < 2 ^ k) (hm : m < 2 ^ k) : (u + 2 ^ k * v) &&& (m + 2 ^ k * M) = (u &&& m) + 2 ^ k * (v &&& M) := by
  have hum : u &&& m < 2 ^ k := Nat.lt_of_le_of_lt Nat.and_le_left hu
  apply Nat.eq_of_testBit_eq
  intro i
  rw [Nat.testBit_and, Nat.add_comm u, Nat.add_comm m, Nat.add_comm (u &&& m), Nat.testBit_two_pow_mul_add _ hu, Nat.testBit_two_pow_mul_add _ hm, Nat.testBit_two_pow_mul_add _ hum]
  split <;> simp [Nat.testBit_and]
theorem pow_two_mul (k : Nat) : 2 ^ (2 * k) = 2 ^ k * 2 ^ k := by rw [Nat.two_mul, Nat.pow_add]
theorem fld_two (k j x : Nat) : fld k (2 * (j + 1)) x = (popN k (x % 2 ^ k) + 2 ^ k * popN k (x / 2 ^ k % 2 ^ k)) + 2 ^ (2 * k) * fld k (2 * j) (x / 2 ^ (2 * k)) := by
  rw [show 2 * (j + 1) = (2 * j + 1) + 1 by omega]
  simp only [fld]
  rw [Nat.div_div_eq_div_mul, ← pow_two_mul, Nat.mul_add, ← Nat.mul_assoc, ← pow_two_mul, Nat.add_assoc]
theorem low_and {k a b : Nat} (ha : a < 2 ^ k) : (a + 2 ^ k * b) &&& (2 ^ k - 1) = a := by
  rw [Nat.and_two_pow_sub_one_eq_mod, Nat.add_mul_mod_self_left, Nat.mod_eq_of_lt ha]
theorem mask_lt (k : Nat) : 2 ^ k - 1 < 2 ^ (2 * k) := by
  have h1 : 0 < 2 ^ k := Nat.two_pow_pos k
  have h2 : 2 ^ k ≤ 2 ^ (2 * k) := Nat.pow_le_pow_right (by omega) (by omega)
  omega
theorem pair_lt {k a b : Nat} (ha : a < 2 ^ k) (hb : b < 2 ^ k) : a + 2 ^ k * b < 2 ^ (2 * k) := by
  rw [pow_two_mul]
  calc a + 2 ^ k * b < 2 ^ k + 2 ^ k * b := by omega
    _ = 2 ^ k * (b + 1) := by rw [Nat.mul_add, Nat.mul_one, Nat.add_comm]
    _ ≤ 2 ^ k * 2 ^ k := Nat.mul_le_mul_left _ hb
theorem popN_two (k x : Nat) : popN (2 * k) (x % 2 ^ (2 * k)) = popN k (x % 2 ^ k) + popN k (x / 2 ^ k % 2 ^ k) := by
  rw [Nat.two_mul, popN_split]
  congr 1
  · rw [Nat.pow_add, Nat.mod_mul_right_mod]
  · rw [Nat.pow_add, Nat.mod_mul_right_div_self]
/-- Two neighbours added, by masks. -/
theorem fld_low (k j : Nat) : ∀ x, (fld k (2 * j) x &&& Mk k j) + ((fld k (2 * j) x) >>> k &&& Mk k j) = fld (2 * k) j x := by
  induction j with
  | zero => intro x; simp [fld, Mk]
  | succ j ih =>
    intro x
    have ha := popN_lt (k := k) (x % 2 ^ k)
    have hb := popN_lt (k := k) (x / 2 ^ k % 2 ^ k)
    rw [fld_two]
    have hy := ih (x / 2 ^ (2 * k))
    generalize fld k (2 * j) (x / 2 ^ (2 * k)) = y at *
    simp only [Mk]
    rw [and_field (pair_lt ha hb) (mask_lt k), low_and ha]
    have hs : ((popN k (x % 2 ^ k) + 2 ^ k * popN k (x / 2 ^ k % 2 ^ k)) + 2 ^ (2 * k) * y) >>> k = (popN k (x / 2 ^ k % 2 ^ k) + 2 ^ k * (y % 2 ^ k)) + 2 ^ (2 * k) * (y >>> k) := by
      rw [Nat.shiftRight_eq_div_pow, pow_two_mul, Nat.mul_assoc, Nat.add_assoc, ← Nat.mul_add, Nat.add_mul_div_left _ _ (Nat.two_pow_pos k), Nat.div_eq_of_lt ha, Nat.zero_add, Nat.mul_assoc, Nat.shiftRight_eq_div_pow]
      rw [Nat.add_assoc, ← Nat.mul_add, Nat.mod_add_div]
    rw [hs, and_field (pair_lt hb (Nat.mod_lt _ (Nat.two_pow_pos k))) (mask_lt k), low_and hb]
    simp only [fld]
    rw [popN_two, ← hy, Nat.mul_add]
    omega
theorem fld_lt (k j x : Nat) : fld k j x < 2 ^ (k * j) := by
  induction j generalizing x with
  | zero => simp [fld]
  | succ j ih =>
    simp only [fld]
    have h1 := popN_lt (k := k) (x % 2 ^ k)
    have h2 := ih (x / 2 ^ k)
    rw [Nat.mul_succ, Nat.add_comm (k * j), Nat.pow_add]
    calc popN k (x % 2 ^ k) + 2 ^ k * fld k j (x / 2 ^ k) < 2 ^ k + 2 ^ k * fld k j (x / 2 ^ k) := by omega
      _ = 2 ^ k * (fld k j (x / 2 ^ k) + 1) := by rw [Nat.mul_add, Nat.mul_one, Nat.add_comm]
      _ ≤ 2 ^ k * 2 ^ (k * j) := Nat.mul_le_mul_left _ h2
/-- Two neighbours added before the mask: no field runs over. -/
theorem fld_sum (j : Nat) : ∀ x, (fld 4 (2 * j) x + (fld 4 (2 * j) x) >>> 4) &&& Mk 4 j = fld 8 j x := by
  induction j with
  | zero => intro x; simp [fld, Mk]
  | succ j ih =>
    intro x
    have ha := popN_le 4 (x % 2 ^ 4)
    have hb := popN_le 4 (x / 2 ^ 4 % 2 ^ 4)
    have hy := ih (x / 2 ^ 8)
    have h2 : popN 8 (x % 2 ^ 8) = popN 4 (x % 2 ^ 4) + popN 4 (x / 2 ^ 4 % 2 ^ 4) := popN_two 4 x
    have hF := fld_two 4 j x
    rw [show 2 * 4 = 8 by rfl] at hF
    rw [hF]
    have hlow : fld 4 (2 * j) (x / 2 ^ 8) % 16 ≤ 4 := by
      cases j with
      | zero => simp [fld]
      | succ j =>
        rw [fld_two]
        have h1 := popN_le 4 (x / 2 ^ 8 % 2 ^ 4)
        omega
    generalize fld 4 (2 * j) (x / 2 ^ 8) = y at *
    generalize popN 4 (x % 2 ^ 4) = a at *
    generalize popN 4 (x / 2 ^ 4 % 2 ^ 4) = b at *
    simp only [Mk]
    have hs : (a + 2 ^ 4 * b + 2 ^ 8 * y) + (a + 2 ^ 4 * b + 2 ^ 8 * y) >>> 4 = ((a + b) + 2 ^ 4 * (b + y % 16)) + 2 ^ 8 * (y + y >>> 4) := by
      rw [Nat.shiftRight_eq_div_pow, Nat.shiftRight_eq_div_pow]; omega
    rw [hs, show 2 * 4 = 8 by rfl, and_field (k := 8) (by omega) (by decide), low_and (k := 4) (by omega), hy]
    simp only [fld]
    rw [h2]
theorem fld_one (j : Nat) : ∀ x, fld 1 j x = x % 2 ^ j := by
  induction j with
  | zero => intro x; simp [fld, Nat.mod_one]
  | succ j ih =>
    intro x
    simp only [fld, ih, popN, Nat.add_zero, Nat.pow_one]
    rw [Nat.mod_mod, Nat.pow_succ, Nat.mul_comm (2 ^ j), Nat.mod_mul]
theorem fld8_sum (x : Nat) : ∃ d0 d1 d2 d3 d4 d5 d6 d7, fld 8 8 x = d0 + 256 * (d1 + 256 * (d2 + 256 * (d3 + 256 * (d4 + 256 * (d5 + 256 * (d6 + 256 * d7)))))) ∧ d0 + d1 + d2 + d3 + d4 + d5 + d6 + d7 = popN 64 x ∧
    d0 ≤ 8 ∧ d1 ≤ 8 ∧ d2 ≤ 8 ∧ d3 ≤ 8 ∧ d4 ≤ 8 ∧ d5 ≤ 8 ∧ d6 ≤ 8 ∧ d7 ≤ 8 := by
  have e : ∀ n x, popN (8 + n) x = popN 8 (x % 256) + popN n (x / 256) := fun n x => popN_split 8 n x
  have F : ∀ j x, fld 8 (j + 1) x = popN 8 (x % 256) + 256 * fld 8 j (x / 256) := fun _ _ => rfl
  have F0 : ∀ x, fld 8 0 x = 0 := fun _ => rfl
  have e0 : ∀ x, popN 0 x = 0 := fun _ => rfl
  have b : ∀ x, popN 8 x ≤ 8 := popN_le 8
  have h1 : fld 8 8 x = _ := F 7 x
  rw [F 6, F 5, F 4, F 3, F 2, F 1, F 0, F0, Nat.mul_zero, Nat.add_zero] at h1
  have h2 : popN 64 x = _ := e 56 x
  rw [e 48, e 40, e 32, e 24, e 16, e 8, show popN 8 (x / 256 / 256 / 256 / 256 / 256 / 256 / 256) = _ from e 0 _, e0] at h2
  exact ⟨_, _, _, _, _, _, _, _, h1, by rw [h2]; omega, b _, b _, b _, b _, b _, b _, b _, b _⟩
theorem fld4_le (j x : Nat) : 15 * fld 4 j x + 4 ≤ 4 * 16 ^ j := by
  induction j generalizing x with
  | zero => simp [fld]
  | succ j ih =>
    simp only [fld]
    have h1 := popN_le 4 (x % 2 ^ 4)
    have h2 := ih (x / 2 ^ 4)
    generalize fld 4 j (x / 2 ^ 4) = F at *
    generalize popN 4 (x % 2 ^ 4) = a at *
    have : 16 ^ (j + 1) = 16 * 16 ^ j := by rw [Nat.pow_succ, Nat.mul_comm]
    omega
theorem div_low {u v c : Nat} (hu : u < c) : (u + c * v) / c = v := by
  rw [Nat.add_mul_div_left _ _ (by omega), Nat.div_eq_of_lt hu, Nat.zero_add]
theorem fold_bytes {z s d0 d1 d2 d3 d4 d5 d6 d7 : Nat} (e : z = d0 + 256 * (d1 + 256 * (d2 + 256 * (d3 + 256 * (d4 + 256 * (d5 + 256 * (d6 + 256 * d7))))))) (hs : d0 + d1 + d2 + d3 + d4 + d5 + d6 + d7 = s)
    (hd : d0 ≤ 8 ∧ d1 ≤ 8 ∧ d2 ≤ 8 ∧ d3 ≤ 8 ∧ d4 ≤ 8 ∧ d5 ≤ 8 ∧ d6 ≤ 8 ∧ d7 ≤ 8) : ∃ y1 y2 y3, z + z / 256 = y1 ∧ y1 + y1 / 65536 = y2 ∧ y2 + y2 / 4294967296 = y3 ∧ y3 % 128 = s ∧ y1 < 2 ^ 63 ∧ y2 < 2 ^ 63 ∧ y3 < 2 ^ 63 ∧ z < 2 ^ 63 := by
  have q1 : z / 256 = d1 + 256 * (d2 + 256 * (d3 + 256 * (d4 + 256 * (d5 + 256 * (d6 + 256 * d7))))) := by rw [e]; exact div_low (by omega)
  have e1 : z + z / 256 = ((d0 + d1) + 256 * (d1 + d2)) + 65536 * ((d2 + d3) + 256 * (d3 + d4) + 65536 * ((d4 + d5) + 256 * (d5 + d6) + 65536 * ((d6 + d7) + 256 * d7))) := by
    rw [q1, e]; clear q1 e hd hs; omega
  have q2 : (z + z / 256) / 65536 = (d2 + d3) + 256 * (d3 + d4) + 65536 * ((d4 + d5) + 256 * (d5 + d6) + 65536 * ((d6 + d7) + 256 * d7)) := by
    rw [e1]; exact div_low (by clear e1 q1 e hs; omega)
  have e2 : (z + z / 256) + (z + z / 256) / 65536 = ((d0 + d1 + d2 + d3) + 256 * (d1 + d2 + d3 + d4) + 65536 * ((d2 + d3 + d4 + d5) + 256 * (d3 + d4 + d5 + d6))) + 4294967296 * ((d4 + d5 + d6 + d7) + 256 * (d5 + d6 + d7) + 65536 * ((d6 + d7) + 256 * d7)) := by
    rw [q2, e1]; clear q2 e1 q1 e hd hs; omega
  have q3 : ((z + z / 256) + (z + z / 256) / 65536) / 4294967296 = (d4 + d5 + d6 + d7) + 256 * (d5 + d6 + d7) + 65536 * ((d6 + d7) + 256 * d7) := by
    rw [e2]; exact div_low (by clear e2 q2 e1 q1 e hs; omega)
  have e3 : (z + z / 256) + (z + z / 256) / 65536 + ((z + z / 256) + (z + z / 256) / 65536) / 4294967296 = s + 128 * (2 * (d1 + d2 + d3 + d4 + d5 + d6 + d7) + 512 * ((d2 + d3 + d4 + d5 + d6 + d7) + 256 * (d3 + d4 + d5 + d6 + d7)) + 33554432 * ((d4 + d5 + d6 + d7) + 256 * (d5 + d6 + d7) + 65536 * ((d6 + d7) + 256 * d7))) := by
    rw [q3, e2, ← hs]; clear q3 e2 q2 e1 q1 e hd hs; omega
  refine ⟨_, _, _, rfl, rfl, rfl, ?_, ?_, ?_, ?_, ?_⟩
  · rw [e3, Nat.add_mul_mod_self_left, Nat.mod_eq_of_lt (by clear e3 q3 e2 q2 e1 q1 e; omega)]
  · rw [e1]; clear e3 q3 e2 q2 e1 q1 e hs; omega
  · rw [e2]; clear e3 q3 e2 q2 e1 q1 e hs; omega
  · rw [e3]; clear e3 q3 e2 q2 e1 q1 e; omega
  · rw [e]; clear e3 q3 e2 q2 e1 q1 e hs; omega
theorem popN_eq (k x : Nat) : popN k x = (memK x k).length := by
  induction k generalizing x with
  | zero => rfl
  | succ k ih =>
    simp only [popN, ih]
    have h : memK x (k + 1) = (if x.testBit 0 then [0] else []) ++ (memK (x / 2) k).map (· + 1) := by
      simp only [memK, List.range_succ_eq_map, List.filter_cons, List.filter_map]
      have : (fun i => x.testBit i) ∘ Nat.succ = fun i => (x / 2).testBit i := by funext i; simp [Nat.testBit_succ]
      rw [this]
      split <;> simp
    rw [h]
    have h0 : x % 2 = (x.testBit 0).toNat := by
      rw [Nat.testBit_zero]; rcases Nat.mod_two_eq_zero_or_one x with h | h <;> simp [h]
    rw [h0]
    cases x.testBit 0
    · simp
    · simp; omega
theorem popN_popc {x : Nat} (hx : x < 2 ^ 63) : popN 64 x = popc x := by
  rw [popN_eq]
  unfold popc mem
  rw [show (64 : Nat) = 63 + 1 by rfl, memK_succ, Nat.testBit_lt_two_pow hx]
  simp
end Go.Vc
