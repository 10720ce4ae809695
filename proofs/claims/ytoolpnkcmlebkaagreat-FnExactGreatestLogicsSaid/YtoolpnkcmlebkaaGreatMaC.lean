/- Plain facts: both searches for p-morphisms find the same maps; the order on lists. No program in sight. Conditions: none. -/
import Derived.Test.YtoolpnkcmlebkaaGreatMaB
namespace Go.Vc
/-- The order on lists. -/
def lessB : List Int → List Int → Bool
  | [], [] => false
  | [], _ :: _ => true
  | _ :: _, [] => false
  | x :: a, y :: b => if x = y then lessB a b else decide (x < y)
theorem lessB_irr : ∀ a, lessB a a = false
  | [] => rfl
  | x :: a => by simp [lessB, lessB_irr a]
theorem lessB_anti : ∀ a b, lessB a b = false → lessB b a = false → a = b
  | [], [], _, _ => rfl
  | [], _ :: _, h, _ => by simp [lessB] at h
  | _ :: _, [], _, h => by simp [lessB] at h
  | x :: a, y :: b, h1, h2 => by
    simp only [lessB] at h1 h2
    by_cases h : x = y
    · subst h
      rw [if_pos rfl] at h1 h2
      rw [lessB_anti a b h1 h2]
    · rw [if_neg h, decide_eq_false_iff_not] at h1
      rw [if_neg (fun e => h e.symm), decide_eq_false_iff_not] at h2
      omega
theorem lessB_asymm : ∀ a b, lessB a b = true → lessB b a = false
  | [], [], _ => rfl
  | [], _ :: _, _ => rfl
  | _ :: _, [], h => by simp [lessB] at h
  | x :: a, y :: b, h1 => by
    simp only [lessB] at h1 ⊢
    by_cases h : x = y
    · subst h
      rw [if_pos rfl] at h1 ⊢
      exact lessB_asymm a b h1
    · rw [if_neg h, decide_eq_true_eq] at h1
      rw [if_neg (fun e => h e.symm), decide_eq_false_iff_not]
      omega
/-- 'Not less' goes on. -/
theorem lessB_trans : ∀ a b c, lessB b a = false → lessB c b = false → lessB c a = false
  | [], [], [], _, _ => rfl
  | [], [], _ :: _, _, _ => rfl
  | [], _ :: _, [], _, h => by simp [lessB] at h
  | [], _ :: _, _ :: _, _, _ => rfl
  | _ :: _, [], _, h, _ => by simp [lessB] at h
  | _ :: _, _ :: _, [], _, h => by simp [lessB] at h
  | x :: a, y :: b, z :: c, h1, h2 => by
    simp only [lessB] at h1 h2 ⊢
    by_cases h : y = x
    · subst h
      rw [if_pos rfl] at h1
      by_cases h' : z = y
      · subst h'
        rw [if_pos rfl] at h2 ⊢
        exact lessB_trans a b c h1 h2
      · rw [if_neg h'] at h2 ⊢; exact h2
    · rw [if_neg h, decide_eq_false_iff_not] at h1
      by_cases h' : z = y
      · subst h'
        rw [if_neg h, decide_eq_false_iff_not]; exact h1
      · rw [if_neg h', decide_eq_false_iff_not] at h2
        rw [if_neg (by omega), decide_eq_false_iff_not]; omega
theorem lessB_append : ∀ (p a b : List Int), lessB (p ++ a) (p ++ b) = lessB a b
  | [], _, _ => rfl
  | x :: p, a, b => by simp [lessB, lessB_append p a b]
theorem nats_append (a b : List Nat) : nats (a ++ b) = nats a ++ nats b := by simp [nats]
theorem nats_inj {a b : List Nat} (h : nats a = nats b) : a = b := by
  unfold nats at h
  exact (List.map_inj_right (fun x y h => Int.ofNat.inj h)).1 h
theorem exts_sorted (m : Nat) : ∀ (d : Nat) (im : List Nat), (exts m d im).Pairwise fun a b => lessB (nats a) (nats b) = true
  | 0, im => by simp [exts]
  | d + 1, im => by
    simp only [exts]
    rw [List.pairwise_flatMap]
    refine ⟨fun y _ => exts_sorted m d _, ?_⟩
    refine List.Pairwise.imp ?_ (List.pairwise_lt_range (n := m))
    intro y y' hlt a ha b hb
    have h1 := (exts_spec m d _ a ha).2.1
    have h2 := (exts_spec m d _ b hb).2.1
    have e1 := List.take_append_drop (im ++ [y]).length a
    have e2 := List.take_append_drop (im ++ [y']).length b
    rw [h1] at e1
    rw [h2] at e2
    rw [← e1, ← e2, List.append_assoc, List.append_assoc, nats_append, nats_append im, lessB_append]
    simp only [List.singleton_append, nats, List.map_cons, lessB]
    rw [if_neg (by show ¬ ((y : Nat) : Int) = ((y' : Nat) : Int); omega), decide_eq_true_eq]
    show ((y : Nat) : Int) < ((y' : Nat) : Int)
    omega
theorem dfs_sorted (ok : List Nat → Bool) (m d : Nat) (im : List Nat) : (dfs ok m d im).Pairwise fun a b => lessB (nats a) (nats b) = true := by
  rw [dfs_eq]; exact (exts_sorted m d im).filter _
theorem leaves_sorted (ok : List Nat → Bool) (m d : Nat) (im : List Nat) : (leaves ok m d im).Pairwise fun a b => lessB (nats a) (nats b) = true := by
  unfold leaves
  split
  · exact dfs_sorted ok m d im
  · exact List.Pairwise.nil
theorem nodup_of_sorted {L : List (List Nat)} (h : L.Pairwise fun a b => lessB (nats a) (nats b) = true) : L.Nodup :=
  h.imp fun {a b} hab e => by subst e; rw [lessB_irr] at hab; cases hab
theorem exts_all (m : Nat) : ∀ (d : Nat) (im l : List Nat), l.length = d → (∀ y ∈ l, y < m) → im ++ l ∈ exts m d im
  | 0, im, l, h0, _ => by simp [exts, List.length_eq_zero_iff.1 h0]
  | d + 1, im, l, h0, hlt => by
    obtain ⟨y, r, rfl⟩ : ∃ y r, l = y :: r := by
      cases l with
      | nil => simp at h0
      | cons y r => exact ⟨y, r, rfl⟩
    simp only [exts, List.mem_flatMap, List.mem_range]
    refine ⟨y, hlt y (by simp), ?_⟩
    have := exts_all m d (im ++ [y]) r (by simpa using h0) (fun z hz => hlt z (by simp [hz]))
    simpa using this
/-- The program's search finds just the maps. -/
theorem mem_leaves {f g : Fr} (hf : f.ok) (hg : g.ok) {onto one : Bool} {F : List Nat} : F ∈ leaves (fitsB f g onto one) g.n f.n [] ↔ F.length = f.n ∧ (∀ y ∈ F, y < g.n) ∧ fullB f g onto one F := by
  unfold leaves
  constructor
  · intro h
    split at h
    · rename_i hnil
      rw [dfs_eq, List.mem_filter] at h
      obtain ⟨hex, hall⟩ := h
      obtain ⟨h1, _, h3⟩ := exts_spec _ _ _ _ hex
      simp only [List.length_nil, Nat.zero_add, List.drop_zero] at h1 h3
      simp only [List.all_eq_true, List.mem_range, List.length_nil, Nat.zero_add] at hall
      refine ⟨h1, h3, fits_full hf hg h1 h3 ?_⟩
      by_cases hn : f.n = 0
      · have : F = [] := List.length_eq_zero_iff.1 (by omega)
        rw [this]; exact hnil
      · have := hall (f.n - 1) (by omega)
        rwa [show f.n - 1 + 1 = f.n by omega, List.take_of_length_le (by omega)] at this
    · cases h
  · rintro ⟨h1, h3, h⟩
    have h0 := full_fits hf hg h1 h3 h 0 (by omega)
    rw [List.take_zero] at h0
    rw [if_pos h0, dfs_eq, List.mem_filter]
    refine ⟨by simpa using exts_all g.n f.n [] F h1 h3, ?_⟩
    simp only [List.all_eq_true, List.mem_range, List.length_nil, Nat.zero_add]
    intro j hj
    exact full_fits hf hg h1 h3 h (j + 1) (by omega)
/-- What the reference's search finds, as maps. -/
def foundU (f g : Fr) (fix : List Int) (onto : Bool) : List (List Nat) := (srch f g fix onto (ordOf f) f.n []).map (unOrd f.n (ordOf f))
section
variable {f g : Fr} {fix : List Int} {onto : Bool}
theorem mem_foundU (hp : Po f) (hg : g.ok) {F : List Nat} : F ∈ foundU f g fix onto ↔ fullP f g fix onto F := by
  have ho := ordOf_ok hp
  unfold foundU
  rw [List.mem_map]
  constructor
  · rintro ⟨ys, h, rfl⟩
    exact ((mem_srch hp.ok hg ho ys).1 h).2
  · intro h
    refine ⟨byOrd (ordOf f) F, (mem_srch hp.ok hg ho _).2 ⟨?_, ?_⟩, unOrd_byOrd ho h.1⟩
    · rw [byOrd, List.length_map, ho.len]
    · rw [unOrd_byOrd ho h.1]; exact h
theorem nodup_foundU (hp : Po f) (hg : g.ok) : (foundU f g fix onto).Nodup := by
  have ho := ordOf_ok hp
  unfold foundU List.Nodup
  rw [List.pairwise_map]
  have h : (srch f g fix onto (ordOf f) f.n []).Nodup := by
    unfold srch
    split
    · exact nodup_of_sorted (dfs_sorted _ _ _ _)
    · exact List.nodup_nil
  refine List.Pairwise.imp_of_mem (fun {a b} ha hb hne he => hne ?_) h
  have h1 := ((mem_srch hp.ok hg ho a).1 ha).1
  have h2 := ((mem_srch hp.ok hg ho b).1 hb).1
  rw [← byOrd_unOrd ho h1, ← byOrd_unOrd ho h2, he]
theorem part_full {n : Nat} {ord ys : List Nat} (hl : ys.length = n) (ho : ∀ x, x < n → ord.idxOf x < n) : partL n ord ys = nats (unOrd n ord ys) := by
  unfold partL unOrd nats
  rw [List.map_map]
  refine List.map_congr_left fun x hx => ?_
  have := ho x (List.mem_range.1 hx)
  rw [if_pos (by omega)]; rfl
theorem srch_part (hp : Po f) (hg : g.ok) : (srch f g fix onto (ordOf f) f.n []).map (partL f.n (ordOf f)) = (foundU f g fix onto).map nats := by
  have ho := ordOf_ok hp
  unfold foundU
  rw [List.map_map]
  refine List.map_congr_left fun ys hys => ?_
  exact part_full ((mem_srch hp.ok hg ho ys).1 hys).1 (fun x hx => ho.idx hx)
/-- Without fixed images both searches find the same. -/
theorem found_perm (hp : Po f) (hg : g.ok) (hfix : ∀ x, x < f.n → fix.getD x 0 < 0) : (foundU f g fix onto).Perm (leaves (fitsB f g onto false) g.n f.n []) := by
  rw [List.perm_ext_iff_of_nodup (nodup_foundU hp hg) (nodup_of_sorted (leaves_sorted _ _ _ _))]
  intro F
  rw [mem_foundU hp hg, mem_leaves hp.ok hg]
  exact ⟨fun h => ⟨h.1, h.2.1, h.2.2.1⟩, fun h => ⟨h.1, h.2.1, h.2.2, fun x hx => .inl (hfix x hx)⟩⟩
theorem sorted_nats {L : List (List Nat)} (h : L.Pairwise fun a b => lessB (nats a) (nats b) = true) : (L.map nats).Pairwise fun a b => lessB b a = false := by
  rw [List.pairwise_map]
  exact h.imp fun {a b} hab => lessB_asymm _ _ hab
/-- Sorted, they are the same list. -/
theorem found_sorted (hp : Po f) (hg : g.ok) (hfix : ∀ x, x < f.n → fix.getD x 0 < 0) {L : List (List Int)} (hL : L.Perm ((foundU f g fix onto).map nats)) (hs : L.Pairwise fun a b => lessB b a = false) :
    L = (leaves (fitsB f g onto false) g.n f.n []).map nats :=
  (hL.trans ((found_perm hp hg hfix).map nats)).eq_of_pairwise (fun a b _ _ h1 h2 => lessB_anti a b h2 h1) hs (sorted_nats (leaves_sorted _ _ _ _))
/-- The greedy choice finds the first. -/
def fixK (n : Nat) (F : List Nat) (k : Nat) : List Int := (List.range n).map fun i => if i < k then ((F.getD i 0 : Nat) : Int) else -1
theorem fixK_len (n : Nat) (F : List Nat) (k : Nat) : (fixK n F k).length = n := by simp [fixK]
theorem fixK_zero (n : Nat) (F : List Nat) : fixK n F 0 = List.replicate n (-1) := by
  apply List.ext_getElem
  · simp [fixK]
  · intro i h1 h2; simp [fixK]
theorem fixK_end {n : Nat} {F : List Nat} (hF : F.length = n) : fixK n F n = nats F := by
  apply List.ext_getElem
  · simp [fixK, nats, hF]
  · intro i h1 h2
    have hi : i < n := by simpa [fixK] using h1
    have hi' : i < F.length := by omega
    simp [fixK, nats, hi, List.getD_eq_getElem?_getD, hi']
theorem fixK_set {n : Nat} {F : List Nat} {k : Nat} (_hk : k < n) : (fixK n F k).set k ((F.getD k 0 : Nat) : Int) = fixK n F (k + 1) := by
  apply List.ext_getElem
  · simp [fixK]
  · intro i h1 h2
    have hi : i < n := by simpa [fixK] using h2
    rw [List.getElem_set]
    by_cases h : k = i
    · subst h; simp [fixK]
    · rw [if_neg h]
      simp only [fixK, List.getElem_map, List.getElem_range]
      by_cases h3 : i < k
      · rw [if_pos h3, if_pos (by omega)]
      · rw [if_neg h3, if_neg (by omega)]
theorem lessB_first : ∀ {F G : List Nat} {k : Nat}, k < F.length → k < G.length → (∀ i, i < k → F.getD i 0 = G.getD i 0) → G.getD k 0 < F.getD k 0 → lessB (nats F) (nats G) = false
  | [], _, _, h, _, _, _ => by simp at h
  | _ :: _, [], _, _, h, _, _ => by simp at h
  | x :: F, y :: G, 0, _, _, _, h => by
    simp only [List.getD_cons_zero] at h
    simp only [nats, List.map_cons, lessB]
    rw [if_neg (by show ¬ ((x : Nat) : Int) = ((y : Nat) : Int); omega), decide_eq_false_iff_not]
    show ¬ ((x : Nat) : Int) < ((y : Nat) : Int)
    omega
  | x :: F, y :: G, k + 1, h1, h2, h3, h4 => by
    have e : x = y := by have := h3 0 (by omega); simpa using this
    subst e
    simp only [nats, List.map_cons, lessB, if_true]
    refine lessB_first (k := k) (by simpa using h1) (by simpa using h2) (fun i hi => ?_) (by simpa using h4)
    have := h3 (i + 1) (by omega)
    simpa using this
theorem greedy_none (hp : Po f) (hg : g.ok) {F : List Nat} {Fs : List (List Nat)} (hL : leaves (fitsB f g onto false) g.n f.n [] = F :: Fs) {k y : Nat} (hk : k < f.n) (hy : y < F.getD k 0) : foundU f g ((fixK f.n F k).set k (y : Int)) onto = [] := by
  rw [List.eq_nil_iff_forall_not_mem]
  intro G hG
  rw [mem_foundU hp hg] at hG
  obtain ⟨h1, h2, h3, h4⟩ := hG
  have hGl : G ∈ F :: Fs := by rw [← hL, mem_leaves hp.ok hg]; exact ⟨h1, h2, h3⟩
  have hF : F.length = f.n := ((mem_leaves (onto := onto) (one := false) hp.ok hg).1 (by rw [hL]; exact List.mem_cons_self)).1
  have hGk : G.getD k 0 = y := by
    have := h4 k hk
    rw [List.getD_eq_getElem?_getD, List.getElem?_set_self (by rw [fixK_len]; exact hk), Option.getD_some] at this
    omega
  have hGi : ∀ i, i < k → F.getD i 0 = G.getD i 0 := fun i hi => by
    have := h4 i (by omega)
    rw [List.getD_eq_getElem?_getD, List.getElem?_set_ne (by omega)] at this
    have e : ((fixK f.n F k)[i]?).getD 0 = ((F.getD i 0 : Nat) : Int) := by simp [fixK, show i < f.n by omega, hi]
    rw [e] at this
    omega
  have hless := lessB_first (F := F) (G := G) (k := k) (by omega) (by omega) hGi (by omega)
  have hs := leaves_sorted (fitsB f g onto false) g.n f.n []
  rw [hL, List.pairwise_cons] at hs
  rcases List.mem_cons.1 hGl with rfl | h
  · omega
  · rw [hs.1 G h] at hless; cases hless
theorem greedy_some (hp : Po f) (hg : g.ok) {F : List Nat} {Fs : List (List Nat)} (hL : leaves (fitsB f g onto false) g.n f.n [] = F :: Fs) {k : Nat} : foundU f g (fixK f.n F k) onto ≠ [] := by
  have hm : F ∈ leaves (fitsB f g onto false) g.n f.n [] := by rw [hL]; exact List.mem_cons_self
  obtain ⟨h1, h2, h3⟩ := (mem_leaves hp.ok hg).1 hm
  have : F ∈ foundU f g (fixK f.n F k) onto := by
    rw [mem_foundU hp hg]
    refine ⟨h1, h2, h3, fun x hx => ?_⟩
    have e : (fixK f.n F k).getD x 0 = if x < k then ((F.getD x 0 : Nat) : Int) else -1 := by simp [fixK, hx]
    rw [e]
    split
    · exact .inr rfl
    · exact .inl (by omega)
  intro h
  rw [h] at this; cases this
end
end Go.Vc
