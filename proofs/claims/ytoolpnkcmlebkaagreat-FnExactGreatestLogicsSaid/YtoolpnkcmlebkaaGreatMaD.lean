/- Plain facts: parts of posets, upsets, what tells one poset from another. No program in sight. Conditions: none. -/
import Derived.Test.YtoolpnkcmlebkaaGreatMaC
namespace Go.Vc
/-- A set as a set of places in a list. -/
def sqz (ms : List Nat) (m : Nat) : Nat := setOf ((List.range ms.length).filter fun k => m.testBit (ms.getD k 0))
def sqzK (ms : List Nat) (m k : Nat) : Nat := setOf ((List.range k).filter fun k => m.testBit (ms.getD k 0))
theorem sqzK_succ (ms : List Nat) (m k : Nat) : sqzK ms m (k + 1) = if m.testBit (ms.getD k 0) then sqzK ms m k ||| 2 ^ k else sqzK ms m k := by
  unfold sqzK
  rw [List.range_succ, List.filter_append]
  cases h : m.testBit (ms.getD k 0)
  · simp only [List.filter_cons, List.filter_nil, h, Bool.false_eq_true, if_false, List.append_nil]
  · simp only [List.filter_cons, List.filter_nil, h, if_true]
    rw [setOf_snoc]
theorem sqzK_lt (ms : List Nat) (m k : Nat) : sqzK ms m k < 2 ^ k := setOf_lt fun _ hy => List.mem_range.1 (List.mem_filter.1 hy).1
theorem sqz_bit (ms : List Nat) (m j : Nat) : (sqz ms m).testBit j = (decide (j < ms.length) && m.testBit (ms.getD j 0)) := by
  unfold sqz
  rw [setOf_testBit, Bool.eq_iff_iff, List.contains_iff_mem, List.mem_filter, List.mem_range]
  simp
def partFr (f : Fr) (mask : Nat) : Fr := ⟨(mem mask).length, (mem mask).map fun x => sqz (mem mask) (f.a.getD x 0)⟩
section
variable {f : Fr} {mask : Nat}
theorem mask63 (hf : f.ok) (hm : mask < 2 ^ f.n) : mask < 2 ^ 63 := Nat.lt_of_lt_of_le hm (Nat.pow_le_pow_right (by omega) (by have := hf.1; omega))
theorem mem_lt (hf : f.ok) (hm : mask < 2 ^ f.n) {x : Nat} (hx : x ∈ mem mask) : x < f.n := by
  have hb := (mem_mem (mask63 hf hm)).1 hx
  rcases Nat.lt_or_ge x f.n with h | h
  · exact h
  · rw [Nat.testBit_lt_two_pow (Nat.lt_of_lt_of_le hm (Nat.pow_le_pow_right (by omega) h))] at hb; cases hb
theorem mem_len (hf : f.ok) (hm : mask < 2 ^ f.n) : (mem mask).length ≤ f.n := popc_full (by have := hf.1; omega) hm
theorem mem_nodup (m : Nat) : (mem m).Nodup := by
  unfold mem memK
  exact List.Nodup.sublist List.filter_sublist List.nodup_range
theorem part_ok (hf : f.ok) (hm : mask < 2 ^ f.n) : (partFr f mask).ok := by
  refine ⟨Nat.le_trans (mem_len hf hm) hf.1, by simp [partFr], fun x hx => ?_⟩
  obtain ⟨y, _, rfl⟩ := List.mem_map.1 hx
  exact sqzK_lt _ _ _
theorem part_bit (i j : Nat) : (((partFr f mask).a.getD i 0).testBit j = true) ↔ i < (mem mask).length ∧ j < (mem mask).length ∧ (f.a.getD ((mem mask).getD i 0) 0).testBit ((mem mask).getD j 0) = true := by
  unfold partFr
  by_cases hi : i < (mem mask).length
  · have e : ((mem mask).map fun x => sqz (mem mask) (f.a.getD x 0)).getD i 0 = sqz (mem mask) (f.a.getD ((mem mask).getD i 0) 0) := by simp [List.getD_eq_getElem?_getD, hi]
    rw [e, sqz_bit, Bool.and_eq_true, decide_eq_true_eq]
    exact ⟨fun h => ⟨hi, h⟩, fun h => h.2⟩
  · have e : ((mem mask).map fun x => sqz (mem mask) (f.a.getD x 0)).getD i 0 = 0 := by simp [List.getD_eq_getElem?_getD, hi]
    rw [e, Nat.zero_testBit]
    exact ⟨fun h => absurd h (by simp), fun h => absurd h.1 hi⟩
theorem part_po (hp : Po f) (hm : mask < 2 ^ f.n) : Po (partFr f mask) := by
  have hlt : ∀ i, i < (mem mask).length → (mem mask).getD i 0 < f.n := fun i hi => mem_lt hp.ok hm (getD_mem hi)
  refine ⟨part_ok hp.ok hm, fun x hx => ?_, fun x y z h1 h2 => ?_, fun x y h1 h2 => ?_⟩
  · have hx : x < (mem mask).length := hx
    exact part_bit x x |>.2 ⟨hx, hx, hp.refl _ (hlt x hx)⟩
  · rw [part_bit] at h1 h2 ⊢
    exact ⟨h1.1, h2.2.1, hp.trans _ _ _ h1.2.2 h2.2.2⟩
  · rw [part_bit] at h1 h2
    have := hp.anti _ _ h1.2.2 h2.2.2
    have hx := h1.1
    have hy := h1.2.1
    rw [List.getD_eq_getElem?_getD, List.getD_eq_getElem?_getD, List.getElem?_eq_getElem hx, List.getElem?_eq_getElem hy, Option.getD_some, Option.getD_some] at this
    exact (List.getElem_inj (mem_nodup mask)).1 this
end
/-- All upsets. -/
def upK (f : Fr) (k : Nat) : List Nat := (List.range k).filter fun m => decide (rowsK f.a m f.n = m)
def upsets (f : Fr) : List Nat := upK f (2 ^ f.n)
theorem upK_succ (f : Fr) (k : Nat) : upK f (k + 1) = if rowsK f.a k f.n = k then upK f k ++ [k] else upK f k := by
  unfold upK
  rw [List.range_succ, List.filter_append]
  by_cases h : rowsK f.a k f.n = k
  · rw [if_pos h]; simp [h]
  · rw [if_neg h]; simp [h]
theorem upsets_lt {f : Fr} {m : Nat} (h : m ∈ upsets f) : m < 2 ^ f.n := List.mem_range.1 (List.mem_filter.1 h).1
theorem upK_len (f : Fr) (k : Nat) : (upK f k).length ≤ k := by
  have := List.length_filter_le (fun m => decide (rowsK f.a m f.n = m)) (List.range k)
  rwa [List.length_range] at this
theorem upsets_len {f : Fr} (hf : f.ok) : (upsets f).length ≤ 256 := by
  refine Nat.le_trans (upK_len f _) ?_
  exact (Nat.pow_le_pow_right (by omega) hf.1 : 2 ^ f.n ≤ 2 ^ 8)
/-- The first upset of whose part g is an image, and the first map. -/
def oneOut (f g : Fr) (m : Nat) : Option (Nat × List Nat) :=
  match leaves (fitsB (partFr f m) g true false) g.n (partFr f m).n [] with
  | [] => none
  | F :: _ => some (m, F)
def partOut (f g : Fr) : Option (Nat × List Nat) := (upsets f).findSome? (oneOut f g)
theorem oneOut_small {f g : Fr} (hf : f.ok) (hg : g.ok) {m : Nat} (hm : m < 2 ^ f.n) (h : popc m < g.n) : oneOut f g m = none := by
  unfold oneOut
  have : leaves (fitsB (partFr f m) g true false) g.n (partFr f m).n [] = [] := dfs_none (part_ok hf hm) hg true false (.inl ⟨rfl, h⟩)
  rw [this]
theorem partOut_some {f g : Fr} {m : Nat} {F : List Nat} (h : partOut f g = some (m, F)) : m ∈ upsets f ∧ ∃ Fs, leaves (fitsB (partFr f m) g true false) g.n (partFr f m).n [] = F :: Fs := by
  unfold partOut at h
  obtain ⟨m', hm, h⟩ := List.exists_of_findSome?_eq_some h
  unfold oneOut at h
  split at h
  · cases h
  · rename_i F' Fs e
    simp only [Option.some.injEq, Prod.mk.injEq] at h
    obtain ⟨rfl, rfl⟩ := h
    exact ⟨hm, Fs, e⟩
/-- The elements of g that tell it from f. -/
def tellB (f g : Fr) (x : Nat) : Bool := (partOut f (partFr g (g.a.getD x 0))).isNone
def tellK (f g : Fr) (k : Nat) : Nat := setOf ((List.range k).filter (tellB f g))
def tell (f g : Fr) : Nat := tellK f g g.n
theorem tellK_succ (f g : Fr) (k : Nat) : tellK f g (k + 1) = if tellB f g k then tellK f g k ||| 2 ^ k else tellK f g k := by
  unfold tellK
  rw [List.range_succ, List.filter_append]
  cases h : tellB f g k
  · simp only [List.filter_cons, List.filter_nil, h, Bool.false_eq_true, if_false, List.append_nil]
  · simp only [List.filter_cons, List.filter_nil, h, if_true]
    rw [setOf_snoc]
theorem tellK_lt (f g : Fr) (k : Nat) : tellK f g k < 2 ^ k := setOf_lt fun _ hy => List.mem_range.1 (List.mem_filter.1 hy).1
end Go.Vc
