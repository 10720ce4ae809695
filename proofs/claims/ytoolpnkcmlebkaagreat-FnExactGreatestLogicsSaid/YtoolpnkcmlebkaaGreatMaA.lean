/- Plain facts on the reference's search for p-morphisms, which goes by depth and leaves elements open. No program in sight. Conditions: none. -/
import Derived.Test.YtoolpnkcmlebkaaGreatC19
namespace Go.Vc
/-- The images of a set, as far as they are known. -/
def imgP (im : List Int) (mask : Nat) : Nat := setOf (((mem mask).filter fun x => decide (0 ≤ im.getD x (-1))).map fun x => (im.getD x (-1)).toNat)
theorem imgP_bit {im : List Int} {mask j : Nat} (hm : mask < 2 ^ 63) : (imgP im mask).testBit j = true ↔ ∃ x, mask.testBit x = true ∧ im.getD x (-1) = (j : Int) := by
  unfold imgP
  rw [setOf_testBit, List.contains_iff_mem, List.mem_map]
  constructor
  · rintro ⟨x, hx, rfl⟩
    obtain ⟨h1, h2⟩ := List.mem_filter.1 hx
    refine ⟨x, (mem_mem hm).1 h1, ?_⟩
    have := of_decide_eq_true h2
    omega
  · rintro ⟨x, h1, h2⟩
    refine ⟨x, List.mem_filter.2 ⟨(mem_mem hm).2 h1, decide_eq_true (by omega)⟩, by rw [h2]; simp⟩
/-- Known images stay possible. -/
def openB (f g : Fr) (fix : List Int) (onto : Bool) (im : List Int) : Bool :=
  ((List.range f.n).all fun x => decide (0 ≤ im.getD x (-1)) || (List.range g.n).any fun y => decide (sdiff (imgP im (f.a.getD x 0)) (g.a.getD y 0) = 0) && (decide (fix.getD x 0 < 0) || decide (fix.getD x 0 = (y : Int)))) &&
  (!onto || decide (g.n ≤ popc (imgP im (2 ^ f.n - 1)) + ((List.range f.n).filter fun x => decide (im.getD x (-1) < 0)).length))
/-- The images once the first elements of an order have theirs. -/
def partL (n : Nat) (ord ys : List Nat) : List Int := (List.range n).map fun x => if ord.idxOf x < ys.length then ((ys.getD (ord.idxOf x) 0 : Nat) : Int) else -1
theorem part_get {n : Nat} {ord ys : List Nat} {x : Nat} (hx : x < n) : (partL n ord ys).getD x (-1) = if ord.idxOf x < ys.length then ((ys.getD (ord.idxOf x) 0 : Nat) : Int) else -1 := by
  simp [partL, hx]
theorem part_out {n : Nat} {ord ys : List Nat} {x : Nat} (hx : n ≤ x) : (partL n ord ys).getD x (-1) = -1 := by
  have : (partL n ord ys).length ≤ x := by simp [partL, hx]
  simp [List.getD_eq_getElem?_getD, List.getElem?_eq_none this]
def stepB (f g : Fr) (fix : List Int) (ord ys : List Nat) : Bool :=
  (decide (fix.getD (ord.getD (ys.length - 1) 0) 0 < 0) || decide (fix.getD (ord.getD (ys.length - 1) 0) 0 = ((ys.getD (ys.length - 1) 0 : Nat) : Int))) &&
  decide (imgP (partL f.n ord ys) (f.a.getD (ord.getD (ys.length - 1) 0) 0) = g.a.getD (ys.getD (ys.length - 1) 0) 0)
def okP (f g : Fr) (fix : List Int) (onto : Bool) (ord ys : List Nat) : Bool := stepB f g fix ord ys && openB f g fix onto (partL f.n ord ys)
/-- What the search finds, by the order. -/
def srch (f g : Fr) (fix : List Int) (onto : Bool) (ord : List Nat) (d : Nat) (ys : List Nat) : List (List Nat) :=
  if openB f g fix onto (partL f.n ord ys) then dfs (okP f g fix onto ord) g.n d ys else []
theorem srch_succ (f g : Fr) (fix : List Int) (onto : Bool) (ord : List Nat) (d : Nat) (ys : List Nat) (h : openB f g fix onto (partL f.n ord ys) = true) :
    srch f g fix onto ord (d + 1) ys = (List.range g.n).flatMap fun y => if stepB f g fix ord (ys ++ [y]) then srch f g fix onto ord d (ys ++ [y]) else [] := by
  unfold srch
  rw [if_pos h, dfs_succ]
  congr 1
  funext y
  unfold okP
  cases stepB f g fix ord (ys ++ [y]) <;> simp
/-- An order in which all that is above comes first. -/
structure OrdOk (f : Fr) (ord : List Nat) : Prop where
  len : ord.length = f.n
  lt : ∀ x ∈ ord, x < f.n
  all : ∀ x, x < f.n → x ∈ ord
  nodup : ord.Nodup
  top : ∀ x y, (f.a.getD x 0).testBit y = true → y ≠ x → ord.idxOf y < ord.idxOf x
theorem OrdOk.idx {f : Fr} {ord : List Nat} (h : OrdOk f ord) {x : Nat} (hx : x < f.n) : ord.idxOf x < f.n := by
  rw [← h.len]; exact List.idxOf_lt_length_of_mem (h.all x hx)
theorem OrdOk.at_idx {f : Fr} {ord : List Nat} (h : OrdOk f ord) {x : Nat} (hx : x < f.n) : ord.getD (ord.idxOf x) 0 = x := by
  have h1 : ord.idxOf x < ord.length := by rw [h.len]; exact h.idx hx
  simp [List.getD_eq_getElem?_getD, h1]
theorem OrdOk.idx_at {f : Fr} {ord : List Nat} (h : OrdOk f ord) {k : Nat} (hk : k < f.n) : ord.idxOf (ord.getD k 0) = k := by
  have h1 : k < ord.length := by rw [h.len]; exact hk
  have e : ord.getD k 0 = ord[k] := by simp [List.getD_eq_getElem?_getD, h1]
  rw [e]
  exact h.nodup.idxOf_getElem k h1
/-- What is asked of a map. -/
def fullP (f g : Fr) (fix : List Int) (onto : Bool) (F : List Nat) : Prop :=
  F.length = f.n ∧ (∀ y ∈ F, y < g.n) ∧ fullB f g onto false F ∧ ∀ x, x < f.n → fix.getD x 0 < 0 ∨ fix.getD x 0 = ((F.getD x 0 : Nat) : Int)
/-- The map by the order. -/
def byOrd (ord F : List Nat) : List Nat := ord.map fun x => F.getD x 0
/-- .. and back. -/
def unOrd (n : Nat) (ord ys : List Nat) : List Nat := (List.range n).map fun x => ys.getD (ord.idxOf x) 0
section
variable {f g : Fr} {fix : List Int} {onto : Bool} {ord : List Nat}
theorem unOrd_byOrd (ho : OrdOk f ord) {F : List Nat} (hF : F.length = f.n) : unOrd f.n ord (byOrd ord F) = F := by
  apply List.ext_getElem
  · simp [unOrd, hF]
  · intro x h1 h2
    have hx : x < f.n := by simpa [unOrd] using h1
    have h3 : ord.idxOf x < ord.length := by rw [ho.len]; exact ho.idx hx
    simp only [unOrd, byOrd, List.getElem_map, List.getElem_range]
    simp [List.getD_eq_getElem?_getD, h3, h2]
theorem byOrd_unOrd (ho : OrdOk f ord) {ys : List Nat} (hy : ys.length = f.n) : byOrd ord (unOrd f.n ord ys) = ys := by
  apply List.ext_getElem
  · simp [byOrd, ho.len, hy]
  · intro k h1 h2
    have hk : k < f.n := by omega
    have h3 : k < ord.length := by rw [ho.len]; exact hk
    have hx : ord[k] < f.n := ho.lt _ (List.getElem_mem h3)
    have e := ho.idx_at hk
    have e2 : ord.getD k 0 = ord[k] := by simp [List.getD_eq_getElem?_getD, h3]
    rw [e2] at e
    simp only [byOrd, unOrd, List.getElem_map]
    simp [List.getD_eq_getElem?_getD, hx, e, h2]
theorem byOrd_get (ho : OrdOk f ord) {F : List Nat} {x : Nat} (hx : x < f.n) : (byOrd ord F).getD (ord.idxOf x) 0 = F.getD x 0 := by
  have h3 : ord.idxOf x < ord.length := by rw [ho.len]; exact ho.idx hx
  simp [byOrd, List.getD_eq_getElem?_getD, h3]
theorem byOrd_at (ho : OrdOk f ord) {F : List Nat} {k : Nat} (hk : k < f.n) : (byOrd ord F).getD k 0 = F.getD (ord.getD k 0) 0 := by
  have h3 : k < ord.length := by rw [ho.len]; exact hk
  simp [byOrd, List.getD_eq_getElem?_getD, h3]
/-- The known part of a map. -/
theorem part_take (ho : OrdOk f ord) {F : List Nat} {k x : Nat} (hk : k ≤ f.n) (hx : x < f.n) : (partL f.n ord ((byOrd ord F).take k)).getD x (-1) = if ord.idxOf x < k then ((F.getD x 0 : Nat) : Int) else -1 := by
  have hl : ((byOrd ord F).take k).length = k := by rw [List.length_take, byOrd, List.length_map, ho.len]; omega
  rw [part_get hx, hl]
  split
  · rename_i h
    rw [getD_take h, byOrd_get ho hx]
  · rfl
theorem imgP_part (hf : f.ok) (ho : OrdOk f ord) {F : List Nat} (hF : F.length = f.n) {k : Nat} (hk : k ≤ f.n) {mask : Nat} (hm : mask < 2 ^ f.n) (j : Nat) :
    (imgP (partL f.n ord ((byOrd ord F).take k)) mask).testBit j = true ↔ ∃ x, x < f.n ∧ mask.testBit x = true ∧ ord.idxOf x < k ∧ F.getD x 0 = j := by
  have hm63 : mask < 2 ^ 63 := Nat.lt_of_lt_of_le hm (Nat.pow_le_pow_right (by omega) (by have := hf.1; omega))
  rw [imgP_bit hm63]
  have hlt : ∀ x, mask.testBit x = true → x < f.n := fun x hx => by
    rcases Nat.lt_or_ge x f.n with h | h
    · exact h
    · rw [Nat.testBit_lt_two_pow (Nat.lt_of_lt_of_le hm (Nat.pow_le_pow_right (by omega) h))] at hx; cases hx
  constructor
  · rintro ⟨x, h1, h2⟩
    have hx := hlt x h1
    rw [part_take ho hk hx] at h2
    split at h2
    · rename_i h3
      exact ⟨x, hx, h1, h3, by omega⟩
    · omega
  · rintro ⟨x, hx, h1, h3, h4⟩
    exact ⟨x, h1, by rw [part_take ho hk hx, if_pos h3, h4]⟩
/-- Whatever is above an element that has its image has its image too. -/
theorem imgP_above (hf : f.ok) (ho : OrdOk f ord) {F : List Nat} (hF : F.length = f.n) {k x : Nat} (hk : k ≤ f.n) (hx : x < f.n) (hxk : ord.idxOf x < k) : imgP (partL f.n ord ((byOrd ord F).take k)) (f.a.getD x 0) = img F (f.a.getD x 0) := by
  apply Nat.eq_of_testBit_eq
  intro j
  rw [Bool.eq_iff_iff, imgP_part hf ho hF hk (hf.lt hx), img_testBit]
  constructor
  · rintro ⟨y, h1, h2, _, h4⟩
    exact ⟨y, by omega, h2, h4⟩
  · rintro ⟨y, h1, h2, h4⟩
    refine ⟨y, by omega, h2, ?_, h4⟩
    by_cases hyx : y = x
    · rw [hyx]; exact hxk
    · exact Nat.lt_trans (ho.top x y h2 hyx) hxk
theorem left_part (ho : OrdOk f ord) {F : List Nat} {k : Nat} (hk : k ≤ f.n) : ((List.range f.n).filter fun x => decide ((partL f.n ord ((byOrd ord F).take k)).getD x (-1) < 0)) = (List.range f.n).filter fun x => decide (k ≤ ord.idxOf x) := by
  refine List.filter_congr fun x hx => ?_
  have hx := List.mem_range.1 hx
  rw [part_take ho hk hx, decide_eq_decide]
  split <;> omega
/-- A map's known part stays possible. -/
theorem full_open (hf : f.ok) (hg : g.ok) (ho : OrdOk f ord) {F : List Nat} (h : fullP f g fix onto F) {k : Nat} (hk : k ≤ f.n) : openB f g fix onto (partL f.n ord ((byOrd ord F).take k)) = true := by
  obtain ⟨hF, hlt, ⟨h1, h2, _⟩, h4⟩ := h
  unfold openB
  rw [Bool.and_eq_true, List.all_eq_true]
  refine ⟨fun x hx => ?_, ?_⟩
  · have hx := List.mem_range.1 hx
    rw [Bool.or_eq_true]
    right
    rw [List.any_eq_true]
    have hy := getD_lt hlt (show x < F.length by omega)
    refine ⟨F.getD x 0, List.mem_range.2 hy, ?_⟩
    rw [Bool.and_eq_true, Bool.or_eq_true, decide_eq_true_eq, decide_eq_true_eq, decide_eq_true_eq]
    refine ⟨?_, h4 x hx⟩
    rw [sdiff_eq_zero, ← h1 x hx]
    intro j hj
    obtain ⟨z, hz, hb, _, e⟩ := (imgP_part hf ho hF hk (hf.lt hx) j).1 hj
    exact (img_testBit _ _ _).2 ⟨z, by omega, hb, e⟩
  · cases onto
    · rfl
    · rw [Bool.not_true, Bool.false_or, decide_eq_true_eq, left_part ho hk, ← h2 rfl]
      -- all images: known ones and those of what is left
      have hsub : ∀ j, (setOf F).testBit j = true → (imgP (partL f.n ord ((byOrd ord F).take k)) (2 ^ f.n - 1) ||| setOf (((List.range f.n).filter fun x => decide (k ≤ ord.idxOf x)).map fun x => F.getD x 0)).testBit j = true := by
        intro j hj
        rw [setOf_testBit, List.contains_iff_mem] at hj
        obtain ⟨x, hx, rfl⟩ := List.getElem_of_mem hj
        have hx' : x < f.n := by omega
        have e : F.getD x 0 = F[x] := by simp [List.getD_eq_getElem?_getD, hx]
        rw [Nat.testBit_or, Bool.or_eq_true]
        by_cases hk2 : ord.idxOf x < k
        · left
          rw [imgP_part hf ho hF hk (by have := Nat.two_pow_pos f.n; omega)]
          exact ⟨x, hx', by rw [full_testBit]; simpa using hx', hk2, e⟩
        · right
          rw [setOf_testBit, List.contains_iff_mem, List.mem_map]
          exact ⟨x, List.mem_filter.2 ⟨List.mem_range.2 hx', decide_eq_true (by omega)⟩, e⟩
      refine Nat.le_trans (popc_mono hsub) ?_
      have key : ∀ (r : List Nat) (a : Nat), (∀ y ∈ r, y < 63) → popc (a ||| setOf r) ≤ popc a + r.length := by
        intro r
        have h0 : ∀ (r : List Nat) (a : Nat), (∀ y ∈ r, y < 63) → popc (r.foldl (fun a y => a ||| 2 ^ y) a) ≤ popc a + r.length := by
          intro r
          induction r with
          | nil => intro a _; simp
          | cons x r ih =>
            intro a h
            rw [List.foldl_cons]
            have h1 := ih (a ||| 2 ^ x) (fun y hy => h y (by simp [hy]))
            have h2 := popc_or_one a x (h x (by simp))
            rw [List.length_cons]
            split at h2 <;> omega
        intro a hr
        have e : a ||| setOf r = r.foldl (fun a y => a ||| 2 ^ y) a := by
          apply Nat.eq_of_testBit_eq
          intro j
          rw [Nat.testBit_or, setOf_testBit, foldl_or_testBit]
        rw [e]; exact h0 r a hr
      have := key (((List.range f.n).filter fun x => decide (k ≤ ord.idxOf x)).map fun x => F.getD x 0) (imgP (partL f.n ord ((byOrd ord F).take k)) (2 ^ f.n - 1)) (fun y hy => by
        obtain ⟨x, hx, rfl⟩ := List.mem_map.1 hy
        have hx := List.mem_range.1 (List.mem_filter.1 hx).1
        have := getD_lt hlt (show x < F.length by omega)
        have := hg.1
        omega)
      rwa [List.length_map] at this
theorem full_step (hf : f.ok) (ho : OrdOk f ord) {F : List Nat} (h : fullP f g fix onto F) {k : Nat} (hk : k < f.n) : stepB f g fix ord ((byOrd ord F).take (k + 1)) = true := by
  obtain ⟨hF, hlt, ⟨h1, _, _⟩, h4⟩ := h
  have hl : ((byOrd ord F).take (k + 1)).length = k + 1 := by rw [List.length_take, byOrd, List.length_map, ho.len]; omega
  have hx : ord.getD k 0 < f.n := by
    have h3 : k < ord.length := by rw [ho.len]; exact hk
    have e : ord.getD k 0 = ord[k] := by simp [List.getD_eq_getElem?_getD, h3]
    rw [e]; exact ho.lt _ (List.getElem_mem h3)
  unfold stepB
  rw [hl, Nat.add_sub_cancel, getD_take (by omega), byOrd_at ho hk, Bool.and_eq_true, Bool.or_eq_true, decide_eq_true_eq, decide_eq_true_eq, decide_eq_true_eq]
  refine ⟨h4 _ hx, ?_⟩
  rw [imgP_above hf ho hF (by omega) hx (by rw [ho.idx_at hk]; omega), h1 _ hx]
/-- The search finds just the maps. -/
theorem mem_srch (hf : f.ok) (hg : g.ok) (ho : OrdOk f ord) (ys : List Nat) : ys ∈ srch f g fix onto ord f.n [] ↔ ys.length = f.n ∧ fullP f g fix onto (unOrd f.n ord ys) := by
  unfold srch
  constructor
  · intro h
    split at h
    · rename_i hop
      rw [dfs_eq, List.mem_filter] at h
      obtain ⟨hex, hall⟩ := h
      obtain ⟨hl, _, hlt⟩ := exts_spec _ _ _ _ hex
      simp only [List.length_nil, Nat.zero_add, List.drop_zero] at hl hlt
      simp only [List.all_eq_true, List.mem_range, List.length_nil, Nat.zero_add] at hall
      refine ⟨hl, ?_⟩
      have hF : (unOrd f.n ord ys).length = f.n := by simp [unOrd]
      have hys : ys = byOrd ord (unOrd f.n ord ys) := (byOrd_unOrd ho hl).symm
      have hFlt : ∀ y ∈ unOrd f.n ord ys, y < g.n := by
        intro y hy
        obtain ⟨x, hx, rfl⟩ := List.mem_map.1 hy
        exact getD_lt hlt (by rw [hl]; exact ho.idx (List.mem_range.1 hx))
      have hstep : ∀ x, x < f.n → stepB f g fix ord (ys.take (ord.idxOf x + 1)) = true := fun x hx => by
        have := hall (ord.idxOf x) (ho.idx hx)
        unfold okP at this
        rw [Bool.and_eq_true] at this
        exact this.1
      have hget : ∀ x, x < f.n → (unOrd f.n ord ys).getD x 0 = ys.getD (ord.idxOf x) 0 := fun x hx => by simp [unOrd, hx]
      have hone : ∀ x, x < f.n → (fix.getD x 0 < 0 ∨ fix.getD x 0 = (((unOrd f.n ord ys).getD x 0 : Nat) : Int)) ∧ img (unOrd f.n ord ys) (f.a.getD x 0) = g.a.getD ((unOrd f.n ord ys).getD x 0) 0 := fun x hx => by
        have h1 := hstep x hx
        have hlt2 := ho.idx hx
        have hl2 : (ys.take (ord.idxOf x + 1)).length = ord.idxOf x + 1 := by rw [List.length_take]; omega
        unfold stepB at h1
        rw [hl2, Nat.add_sub_cancel, getD_take (by omega), ho.at_idx hx, Bool.and_eq_true, Bool.or_eq_true, decide_eq_true_eq, decide_eq_true_eq, decide_eq_true_eq] at h1
        rw [hget x hx]
        refine ⟨h1.1, ?_⟩
        rw [← h1.2, ← imgP_above hf ho hF (k := ord.idxOf x + 1) (by omega) hx (by omega), ← hys]
      refine ⟨hF, hFlt, ⟨fun x hx => (hone x hx).2, fun honto => ?_, fun h => by cases h⟩, fun x hx => (hone x hx).1⟩
      have hlast : openB f g fix onto (partL f.n ord (ys.take f.n)) = true := by
        by_cases hn : f.n = 0
        · rw [hn, List.take_zero]; rw [hn] at hop; exact hop
        · have := hall (f.n - 1) (by omega)
          rw [show f.n - 1 + 1 = f.n by omega] at this
          unfold okP at this
          rw [Bool.and_eq_true] at this
          exact this.2
      unfold openB at hlast
      rw [Bool.and_eq_true, honto, Bool.not_true, Bool.false_or, decide_eq_true_eq] at hlast
      have hleft := left_part (F := unOrd f.n ord ys) ho (Nat.le_refl f.n)
      rw [← hys] at hleft
      rw [hleft] at hlast
      have hnone : ((List.range f.n).filter fun x => decide (f.n ≤ ord.idxOf x)) = [] := by
        rw [List.filter_eq_nil_iff]
        intro x hx
        have := ho.idx (List.mem_range.1 hx)
        simp; omega
      rw [hnone, List.length_nil, Nat.add_zero] at hlast
      have hsame : imgP (partL f.n ord (ys.take f.n)) (2 ^ f.n - 1) = setOf (unOrd f.n ord ys) := by
        apply Nat.eq_of_testBit_eq
        intro j
        have hb := imgP_part hf ho hF (Nat.le_refl f.n) (mask := 2 ^ f.n - 1) (by have := Nat.two_pow_pos f.n; omega) j
        rw [← hys] at hb
        rw [Bool.eq_iff_iff, hb, setOf_testBit, List.contains_iff_mem]
        constructor
        · rintro ⟨x, hx, _, _, rfl⟩
          exact getD_mem (by omega)
        · intro hj
          obtain ⟨x, hx, e⟩ := List.getElem_of_mem hj
          have hx' : x < f.n := by omega
          exact ⟨x, hx', by rw [full_testBit]; simpa using hx', ho.idx hx', by rw [← e]; simp [List.getD_eq_getElem?_getD, hx]⟩
      rw [hsame] at hlast
      have := popc_full (m := g.n) (by have := hg.1; omega) (setOf_lt hFlt)
      omega
    · cases h
  · rintro ⟨hl, h⟩
    have hys : ys = byOrd ord (unOrd f.n ord ys) := (byOrd_unOrd ho hl).symm
    have hop0 := full_open hf hg ho h (Nat.zero_le f.n)
    rw [List.take_zero] at hop0
    rw [if_pos hop0, dfs_eq, List.mem_filter]
    refine ⟨?_, ?_⟩
    · have key : ∀ (d : Nat) (im l : List Nat), l.length = d → (∀ y ∈ l, y < g.n) → im ++ l ∈ exts g.n d im := by
        intro d
        induction d with
        | zero => intro im l h0 _; simp [exts, List.length_eq_zero_iff.1 h0]
        | succ d ih =>
          intro im l h0 hlt
          obtain ⟨y, r, rfl⟩ : ∃ y r, l = y :: r := by
            cases l with
            | nil => simp at h0
            | cons y r => exact ⟨y, r, rfl⟩
          simp only [exts, List.mem_flatMap, List.mem_range]
          refine ⟨y, hlt y (by simp), ?_⟩
          have := ih (im ++ [y]) r (by simpa using h0) (fun z hz => hlt z (by simp [hz]))
          simpa using this
      have := key f.n [] ys hl (fun y hy => by
        obtain ⟨k, hk, rfl⟩ := List.getElem_of_mem hy
        have hk' : k < f.n := by omega
        have h3 : k < ord.length := by rw [ho.len]; exact hk'
        have hx : ord[k] < f.n := ho.lt _ (List.getElem_mem h3)
        have e1 := byOrd_at (F := unOrd f.n ord ys) ho hk'
        rw [← hys] at e1
        have e2 : ys.getD k 0 = ys[k] := by simp [List.getD_eq_getElem?_getD, hk]
        have e3 : ord.getD k 0 = ord[k] := by simp [List.getD_eq_getElem?_getD, h3]
        rw [← e2, e1, e3]
        exact getD_lt h.2.1 (by rw [h.1]; exact hx))
      simpa using this
    · simp only [List.all_eq_true, List.mem_range, List.length_nil, Nat.zero_add]
      intro j hj
      unfold okP
      rw [Bool.and_eq_true]
      have h1 := full_step hf ho h hj
      have h2 := full_open hf hg ho h (k := j + 1) (by omega)
      rw [← hys] at h1 h2
      exact ⟨h1, h2⟩
end
end Go.Vc
