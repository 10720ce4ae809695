/- Plain facts on the search: how many maps there are, what a visitor sees of them. No program in sight. Conditions: none. -/
import Derived.Test.YtgbnmihpjlbfgaaC10
namespace Go.Vc
def desc : Nat → Nat → Nat
  | _, 0 => 1
  | r, d + 1 => r * desc (r - 1) d
theorem desc_le {m d : Nat} (hm : m ≤ 8) (hd : d ≤ 8) : desc m d ≤ 40320 := by
  have : ∀ m, m ≤ 8 → ∀ d, d ≤ 8 → desc m d ≤ 40320 := by decide
  exact this m hm d hd
theorem desc_mono : ∀ (d : Nat) {r s : Nat}, r ≤ s → desc r d ≤ desc s d
  | 0, _, _, _ => Nat.le_refl _
  | d + 1, _, _, h => Nat.mul_le_mul h (desc_mono d (by omega))
theorem dfs_inj_length (ok : List Nat → Bool) (m : Nat) (hm : m ≤ 8) (hok : ∀ im y, ok (im ++ [y]) = true → (∀ z ∈ im ++ [y], z < m) → (im ++ [y]).Nodup) : ∀ (d : Nat) (im : List Nat), im.Nodup → (∀ y ∈ im, y < m) → (dfs ok m d im).length ≤ desc (m - im.length) d
  | 0, im, _, _ => by simp [dfs, desc]
  | d + 1, im, hn, hlt => by
    rw [dfs_succ]
    have hnext : ∀ y, y ∈ (List.range m).filter (fun y => ok (im ++ [y])) → y < m ∧ (im ++ [y]).Nodup := fun y hy => by
      obtain ⟨h1, h2⟩ := List.mem_filter.1 hy
      have h1 := List.mem_range.1 h1
      exact ⟨h1, hok im y h2 fun z hz => by
        simp at hz
        rcases hz with hz | rfl
        · exact hlt z hz
        · exact h1⟩
    have hA : im.length + ((List.range m).filter fun y => ok (im ++ [y])).length ≤ m := by
      have hnd : (im ++ (List.range m).filter fun y => ok (im ++ [y])).Nodup := by
        rw [List.nodup_append]
        refine ⟨hn, List.Nodup.sublist List.filter_sublist List.nodup_range, fun a ha b hb => ?_⟩
        rintro rfl
        have := (hnext a hb).2
        rw [List.nodup_append] at this
        exact this.2.2 a ha a (by simp) rfl
      have hall : ∀ y ∈ (im ++ (List.range m).filter fun y => ok (im ++ [y])), y < m := fun y hy => by
        rcases List.mem_append.1 hy with hy | hy
        · exact hlt y hy
        · exact (hnext y hy).1
      have h1 := (popc_setOf_nodup _ _ rfl (fun y hy => by have := hall y hy; omega)).2 hnd
      have h2 := popc_full (m := m) (by omega) (setOf_lt hall)
      rw [h1, List.length_append] at h2
      exact h2
    refine Nat.le_trans (flatMap_if_length' m ok im d hm hok hn hlt hnext) ?_
    exact Nat.mul_le_mul (by omega) (Nat.le_refl _)
 where
  flatMap_if_length' (m : Nat) (ok : List Nat → Bool) (im : List Nat) (d : Nat) (hm : m ≤ 8) (hok : ∀ im y, ok (im ++ [y]) = true → (∀ z ∈ im ++ [y], z < m) → (im ++ [y]).Nodup) (hn : im.Nodup) (hlt : ∀ y ∈ im, y < m) (hnext : ∀ y, y ∈ (List.range m).filter (fun y => ok (im ++ [y])) → y < m ∧ (im ++ [y]).Nodup) :
      ((List.range m).flatMap fun y => if ok (im ++ [y]) then dfs ok m d (im ++ [y]) else []).length ≤ ((List.range m).filter fun y => ok (im ++ [y])).length * desc (m - im.length - 1) d := by
    have key : ∀ L : List Nat, (∀ y ∈ L, y < m) → (L.flatMap fun y => if ok (im ++ [y]) then dfs ok m d (im ++ [y]) else []).length ≤ (L.filter fun y => ok (im ++ [y])).length * desc (m - im.length - 1) d := by
      intro L
      induction L with
      | nil => simp
      | cons y L ih =>
        intro hL
        have ih := ih fun z hz => hL z (by simp [hz])
        rw [List.flatMap_cons, List.length_append, List.filter_cons]
        cases hp : ok (im ++ [y])
        · simpa using ih
        · simp only [if_true, List.length_cons, Nat.succ_mul]
          have hy : y ∈ (List.range m).filter (fun y => ok (im ++ [y])) := List.mem_filter.2 ⟨List.mem_range.2 (hL y (by simp)), hp⟩
          have := dfs_inj_length ok m hm hok d (im ++ [y]) (hnext y hy).2 (fun z hz => by
            simp at hz
            rcases hz with hz | rfl
            · exact hlt z hz
            · exact hL z (by simp))
          rw [List.length_append, List.length_singleton, ← Nat.sub_sub] at this
          omega
    exact key _ fun y hy => List.mem_range.1 hy
theorem fits_nodup {f g : Fr} {onto : Bool} {im : List Nat} (hm : ∀ y ∈ im, y < 63) (h : fitsB f g onto true im = true) : im.Nodup := by
  simp only [fitsB, Bool.and_eq_true, Bool.not_true, Bool.false_or, decide_eq_true_eq] at h
  exact (popc_setOf_nodup _ im rfl hm).1 h.2.2
theorem leaves_inj_length {f g : Fr} (hf : f.ok) (hg : g.ok) (onto : Bool) : (leaves (fitsB f g onto true) g.n f.n []).length ≤ 40320 := by
  unfold leaves
  split
  · refine Nat.le_trans (dfs_inj_length _ g.n hg.1 (fun im y h hz => fits_nodup (fun z hz' => by have := hz z hz'; have := hg.1; omega) h) f.n [] List.nodup_nil (fun y hy => by cases hy)) (desc_le (by have := hg.1; simp; omega) hf.1)
  · simp
theorem ref_eq {f g : Fr} (hf : f.ok) (hg : g.ok) {onto one : Bool} (h1 : one = true → onto = true) (most : Nat) : refFound f g onto one most = (leaves (fitsB f g onto one) g.n f.n []).take most := by
  unfold refFound leaves
  split
  · rename_i h
    rw [dfs_none hf hg onto one]
    · simp
    · simp only [Bool.or_eq_true, Bool.and_eq_true, Bool.not_eq_true', decide_eq_false_iff_not, decide_eq_true_eq] at h
      rcases h with ⟨h2, h3⟩ | ⟨h2, h3⟩
      · exact .inr ⟨h1 h2, h2, h3⟩
      · exact .inl ⟨h2, h3⟩
  · rename_i h
    rw [dfs_same hf hg]
    intro ho
    rw [ho] at h
    rcases Nat.lt_or_ge f.n g.n with h' | h'
    · exfalso; apply h; simp [h']
    · exact h'
theorem visitAll_true : ∀ (a vis : List (List Nat)), visitAll (fun _ => true) vis a = (vis ++ a, true)
  | [], vis => by simp [visitAll]
  | l :: a, vis => by simp only [visitAll, if_true]; rw [visitAll_true a]; simp
theorem visitAll_most (N : Nat) : ∀ (a vis : List (List Nat)), vis.length ≤ N → (visitAll (fun l => decide (l.length ≤ N)) vis a).1 = (vis ++ a).take (N + 1)
  | [], vis, h => by simp only [visitAll, List.append_nil]; rw [List.take_of_length_le (by omega)]
  | l :: a, vis, h => by
    simp only [visitAll]
    split
    · rename_i hc
      rw [visitAll_most N a _ (by simpa using hc)]; simp
    · rename_i hc
      simp at hc
      have : vis.length = N := by omega
      rw [show vis ++ l :: a = (vis ++ [l]) ++ a by simp, List.take_append_of_le_length (by simp; omega), List.take_of_length_le (by simp; omega)]
theorem visitAll_false : ∀ (a : List (List Nat)), (visitAll (fun _ => false) [] a).1 = a.take 1
  | [] => by simp [visitAll]
  | l :: a => by simp [visitAll]
/-- The frame of a good pair. -/
def frOf (n : Int) (l : List Int) : Fr := ⟨n.toNat, l.map Int.toNat⟩
end Go.Vc
