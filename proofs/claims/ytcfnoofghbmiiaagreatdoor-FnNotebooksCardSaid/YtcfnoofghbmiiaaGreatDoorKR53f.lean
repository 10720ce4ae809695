/- The proof of FnNotebooksCard, part 6 of 7. Conditions: none. -/
import Derived.Test.YtcfnoofghbmiiaaGreatDoorKR53e
namespace Go.Vc
/-! ### Parts, and what a left side lacks of them -/
def subF : Fm → List Fm
  | .and x y => .and x y :: (subF x ++ subF y)
  | .or x y => .or x y :: (subF x ++ subF y)
  | .imp x y => .imp x y :: (subF x ++ subF y)
  | a => [a]
theorem jI (a : Fm) : a ∈ subF a := by cases a <;> simp [subF]
theorem kD {u : Fm} : ∀ {c : Fm}, u ∈ subF c → ∀ x ∈ subF u, x ∈ subF c := by
  intro c
  induction c with
  | var _ => intro h x hx; simp only [subF, List.mem_singleton] at h; subst h; exact hx
  | fls => intro h x hx; simp only [subF, List.mem_singleton] at h; subst h; exact hx
  | box _ _ => intro h x hx; simp only [subF, List.mem_singleton] at h; subst h; exact hx
  | dia _ _ => intro h x hx; simp only [subF, List.mem_singleton] at h; subst h; exact hx
  | and a b ia ib =>
    intro h x hx
    rw [subF, List.mem_cons, List.mem_append] at h
    rcases h with rfl | h | h
    · exact hx
    · rw [subF]; exact List.mem_cons_of_mem _ (List.mem_append_left _ (ia h x hx))
    · rw [subF]; exact List.mem_cons_of_mem _ (List.mem_append_right _ (ib h x hx))
  | or a b ia ib =>
    intro h x hx
    rw [subF, List.mem_cons, List.mem_append] at h
    rcases h with rfl | h | h
    · exact hx
    · rw [subF]; exact List.mem_cons_of_mem _ (List.mem_append_left _ (ia h x hx))
    · rw [subF]; exact List.mem_cons_of_mem _ (List.mem_append_right _ (ib h x hx))
  | imp a b ia ib =>
    intro h x hx
    rw [subF, List.mem_cons, List.mem_append] at h
    rcases h with rfl | h | h
    · exact hx
    · rw [subF]; exact List.mem_cons_of_mem _ (List.mem_append_left _ (ia h x hx))
    · rw [subF]; exact List.mem_cons_of_mem _ (List.mem_append_right _ (ib h x hx))
theorem NA {c x y : Fm} (h : Fm.and x y ∈ subF c) : x ∈ subF c ∧ y ∈ subF c := ⟨kD h x (by rw [subF]; simp [jI]), kD h y (by rw [subF]; simp [jI])⟩
theorem KV {c x y : Fm} (h : Fm.or x y ∈ subF c) : x ∈ subF c ∧ y ∈ subF c := ⟨kD h x (by rw [subF]; simp [jI]), kD h y (by rw [subF]; simp [jI])⟩
theorem FQ {c x y : Fm} (h : Fm.imp x y ∈ subF c) : x ∈ subF c ∧ y ∈ subF c := ⟨kD h x (by rw [subF]; simp [jI]), kD h y (by rw [subF]; simp [jI])⟩
theorem hU : ∀ {c u : Fm}, u ∈ subF c → u.size ≤ c.size := by
  intro c
  induction c with
  | var _ => intro u h; simp only [subF, List.mem_singleton] at h; subst h; exact Nat.le_refl _
  | fls => intro u h; simp only [subF, List.mem_singleton] at h; subst h; exact Nat.le_refl _
  | box _ _ => intro u h; simp only [subF, List.mem_singleton] at h; subst h; exact Nat.le_refl _
  | dia _ _ => intro u h; simp only [subF, List.mem_singleton] at h; subst h; exact Nat.le_refl _
  | and a b ia ib =>
    intro u h
    rw [subF, List.mem_cons, List.mem_append] at h
    rcases h with rfl | h | h
    · exact Nat.le_refl _
    · have := ia h; simp only [Fm.size]; omega
    · have := ib h; simp only [Fm.size]; omega
  | or a b ia ib =>
    intro u h
    rw [subF, List.mem_cons, List.mem_append] at h
    rcases h with rfl | h | h
    · exact Nat.le_refl _
    · have := ia h; simp only [Fm.size]; omega
    · have := ib h; simp only [Fm.size]; omega
  | imp a b ia ib =>
    intro u h
    rw [subF, List.mem_cons, List.mem_append] at h
    rcases h with rfl | h | h
    · exact Nat.le_refl _
    · have := ia h; simp only [Fm.size]; omega
    · have := ib h; simp only [Fm.size]; omega
theorem PO : ∀ c : Fm, ((subF c).map Fm.w2).sum ≤ 2 * c.w2 := by
  intro c
  induction c with
  | var _ => simp [subF]; omega
  | fls => simp [subF]; omega
  | box _ _ => simp [subF]; omega
  | dia _ _ => simp [subF]; omega
  | and a b ia ib =>
    have h := mN a.w2_ge b.w2_ge
    have e := PX a b
    simp only [subF, List.map_cons, List.sum_cons, List.map_append, List.sum_append]
    generalize a.w2 * b.w2 = p at *
    omega
  | or a b ia ib =>
    have h := mN a.w2_ge b.w2_ge
    have e := w2_or a b
    simp only [subF, List.map_cons, List.sum_cons, List.map_append, List.sum_append]
    generalize a.w2 * b.w2 = p at *
    omega
  | imp a b ia ib =>
    have h := mN a.w2_ge b.w2_ge
    have e := iR a b
    simp only [subF, List.map_cons, List.sum_cons, List.map_append, List.sum_append]
    generalize a.w2 * b.w2 = p at *
    omega
theorem MB {f : Fm → Nat} : ∀ {M S : List Fm}, M.Nodup → (∀ x ∈ M, x ∈ S) → (M.map f).sum ≤ (S.map f).sum
  | [], _, _, _ => Nat.zero_le _
  | x :: M, S, hn, hs => by
    obtain ⟨A, B, rfl⟩ := List.append_of_mem (hs x List.mem_cons_self)
    obtain ⟨h1, h2⟩ := List.nodup_cons.1 hn
    have ih := MB (f := f) (M := M) (S := A ++ B) h2 fun y hy => by
      have := hs y (List.mem_cons_of_mem _ hy)
      rw [List.mem_append, List.mem_cons] at this
      rcases this with h | h | h
      · exact List.mem_append_left _ h
      · subst h; exact absurd hy h1
      · exact List.mem_append_right _ h
    simp only [List.map_cons, List.sum_cons, List.map_append, List.sum_append] at *
    omega
theorem PR : ∀ {a : Fm}, a.plain = true → 2 * a.wt + 1 ≤ 3 * a.size := by
  intro a
  induction a with
  | var _ => intro _; simp [Fm.wt, Fm.size]
  | fls => intro _; simp [Fm.wt, Fm.size]
  | box _ _ => intro h; cases h
  | dia _ _ => intro h; cases h
  | and a b ia ib => intro h; have h := e7 h; have := ia h.1; have := ib h.2; simp only [Fm.wt, Fm.size]; omega
  | or a b ia ib => intro h; have h := gA h; have := ia h.1; have := ib h.2; simp only [Fm.wt, Fm.size]; omega
  | imp a b ia ib => intro h; have h := bG h; have := ia h.1; have := ib h.2; simp only [Fm.wt, Fm.size]; omega
theorem N9 {α : Type} {p q : α → Bool} : ∀ {l : List α}, (∀ x ∈ l, q x = true → p x = true) → (l.filter q).length ≤ (l.filter p).length
  | [], _ => Nat.le_refl _
  | x :: l, h => by
    have ih := N9 (p := p) (q := q) (l := l) fun y hy => h y (List.mem_cons_of_mem _ hy)
    rw [List.filter_cons, List.filter_cons]
    by_cases hq : q x = true
    · rw [if_pos hq, if_pos (h x List.mem_cons_self hq), List.length_cons, List.length_cons]; omega
    · rw [if_neg hq]
      split
      · rw [List.length_cons]; omega
      · exact ih
theorem OC {α : Type} {p q : α → Bool} : ∀ {l : List α} {u : α}, (∀ x ∈ l, q x = true → p x = true) → u ∈ l → p u = true → q u = false → (l.filter q).length < (l.filter p).length
  | [], _, _, hu, _, _ => by cases hu
  | x :: l, u, h, hu, hp, hq => by
    have hl : ∀ y ∈ l, q y = true → p y = true := fun y hy => h y (List.mem_cons_of_mem _ hy)
    rw [List.filter_cons, List.filter_cons]
    rcases List.mem_cons.1 hu with e | hu
    · subst e
      rw [if_neg (by rw [hq]; simp), if_pos hp, List.length_cons]
      have := N9 hl
      omega
    · have ih := OC hl hu hp hq
      by_cases hx : q x = true
      · rw [if_pos hx, if_pos (h x List.mem_cons_self hx), List.length_cons, List.length_cons]; omega
      · rw [if_neg hx]
        split
        · rw [List.length_cons]; omega
        · exact ih
def cnt (c : Fm) (L : List Str) : Nat := ((subF c).filter fun u => !decide (u.body ∈ L)).length
theorem XV {c u : Fm} {L L' : List Str} (h : ∀ t ∈ L, t ∈ L') (hu : u ∈ subF c) (h1 : ¬ u.body ∈ L) (h2 : u.body ∈ L') : cnt c L' < cnt c L := OC (u := u) (fun x _ hx => by
  simp only [Bool.not_eq_true', decide_eq_false_iff_not] at *
  exact fun hm => hx (h _ hm)) hu (by simp [h1]) (by simp [h2])
noncomputable def mu (c : Fm) (L : List Str) (r : Str) : Nat := (2 * cnt c L + (if dirB L (fT r) = true then 0 else 1)) * (c.size + 1) + (fT r).size
theorem WR {c : Fm} {L L' : List Str} {r r' : Str} (h : cnt c L' < cnt c L) (hr : fT r' ∈ subF c) : mu c L' r' < mu c L r := by
  have h1 := hU hr
  unfold mu
  have h2 : (2 * cnt c L' + (if dirB L' (fT r') = true then 0 else 1)) + 1 ≤ 2 * cnt c L + (if dirB L (fT r) = true then 0 else 1) := by split <;> split <;> omega
  have h3 := Nat.mul_le_mul_right (c.size + 1) h2
  rw [Nat.add_mul, Nat.one_mul] at h3
  omega
theorem WP {c : Fm} {L : List Str} {r r' : Str} (h : dirB L (fT r) = false) (h' : dirB L (fT r') = true) (hr : fT r' ∈ subF c) : mu c L r' < mu c L r := by
  have h1 := hU hr
  unfold mu
  have e : (2 * cnt c L + 1) * (c.size + 1) = 2 * cnt c L * (c.size + 1) + (c.size + 1) := by rw [Nat.add_mul, Nat.one_mul]
  rw [h, h', if_pos rfl, if_neg (by simp), e, Nat.add_zero]
  generalize 2 * cnt c L * (c.size + 1) = K
  omega
theorem AD {c : Fm} {L : List Str} {r r' : Str} (h : dirB L (fT r) = true → dirB L (fT r') = true) (hs : (fT r').size < (fT r).size) : mu c L r' < mu c L r := by
  unfold mu
  have h2 : (2 * cnt c L + (if dirB L (fT r') = true then 0 else 1)) ≤ 2 * cnt c L + (if dirB L (fT r) = true then 0 else 1) := by
    by_cases hd : dirB L (fT r) = true
    · rw [if_pos hd, if_pos (h hd)]; exact Nat.le_refl _
    · rw [if_neg hd]; split <;> omega
  have h3 := Nat.mul_le_mul_right (c.size + 1) h2
  omega
/-! ### Moves -/
def findT (p : Str → Bool) (L : List Str) : Str := (L.find? p).getD []
theorem BV {p : Str → Bool} {L : List Str} (h : ¬ findT p L = []) : findT p L ∈ L ∧ p (findT p L) = true := by
  unfold findT at *
  cases hf : L.find? p with
  | none => rw [hf] at h; exact absurd rfl h
  | some t =>
    rw [hf] at h
    exact ⟨List.mem_of_find?_eq_some hf, List.find?_some hf⟩
theorem GT.ne {t : Str} (h : GT t) : ¬ t = [] := by
  obtain ⟨a, _, hp, rfl⟩ := h
  intro e
  cases a with
  | imp x y =>
    simp only [Fm.body] at e
    split at e
    · split at e <;> simp at e
    · simp at e
  | box _ => cases hp
  | dia _ => cases hp
  | _ => simp [Fm.body] at e
theorem BL {p : Str → Bool} {L : List Str} (hg : ∀ t ∈ L, GT t) (h : findT p L = []) : ∀ t ∈ L, p t = false := by
  unfold findT at h
  cases hf : L.find? p with
  | none => intro t ht; have := List.find?_eq_none.1 hf t ht; simpa using this
  | some t =>
    rw [hf] at h
    exact absurd h (hg t (List.mem_of_find?_eq_some hf)).ne
def hasB (L : List Str) (x : Fm) : Bool := decide (x.body ∈ L)
def fAnd (L : List Str) (t : Str) : Bool := match fT t with | .and x y => !(hasB L x && hasB L y) | _ => false
def fOr (L : List Str) (t : Str) : Bool := match fT t with | .or x y => !hasB L x && !hasB L y | _ => false
noncomputable def fImp (L : List Str) (t : Str) : Bool := match fT t with | .imp x y => !hasB L y && dirB L x | _ => false
noncomputable def moveI (L : List Str) (r : Str) : Nat × Str :=
  if r ∈ L then (1, []) else if Fm.fls.body ∈ L then (2, []) else
  match fT r with
  | .and _ _ => (4, [])
  | .imp _ _ => (9, [])
  | c => if ¬ findT (fAnd L) L = [] then (3, findT (fAnd L) L) else if ¬ findT (fOr L) L = [] then (5, findT (fOr L) L) else
    match c with
    | .or x y => if dirB L x = true then (6, []) else if dirB L y = true then (7, []) else (8, findT (fImp L) L)
    | _ => (8, findT (fImp L) L)
def leftG (L : List Str) (r : Str) (rule : Nat) (a : Fm) : List Sq × Bool :=
  match a with
  | .and x y => if rule = 3 then ([(setT (L ++ [x.body, y.body]), r)], true) else ([], false)
  | .or x y => if rule = 5 then ([(addT L x.body, r), (addT L y.body, r)], true) else ([], false)
  | .imp x y => if rule = 8 then ([(L, x.body), (addT L y.body, r)], true) else ([], false)
  | _ => ([], false)
def dV (L : List Str) (rule : Nat) (c : Fm) : List Sq × Bool :=
  match c with
  | .and x y => if rule = 4 then ([(L, x.body), (L, y.body)], true) else ([], false)
  | .or x y => if rule = 6 then ([(L, x.body)], true) else if rule = 7 then ([(L, y.body)], true) else ([], false)
  | .imp x y => if rule = 9 then ([(addT L x.body, y.body)], true) else ([], false)
  | _ => ([], false)
def aQ (L : List Str) (r : Str) (rule : Nat) (main : Str) : List Sq × Bool :=
  if rule = 1 then ([], decide (main = []) && decide (r ∈ L)) else if rule = 2 then ([], decide (main = []) && decide (Fm.fls.body ∈ L)) else
  if rule = 3 ∨ rule = 5 ∨ rule = 8 then (if main ∈ L then leftG L r rule (fT main) else ([], false)) else
  ((dV L rule (fT r)).1, (dV L rule (fT r)).2 && decide (main = []))
structure GI (c : Fm) (L : List Str) (r : Str) : Prop where
  inc : Inc L
  left : ∀ t ∈ L, GT t ∧ fT t ∈ subF c
  right : GT r ∧ fT r ∈ subF c
  vt : VT L r
theorem sG {L L' : List Str} {r : Str} (h : ∀ t ∈ L, t ∈ L') (k : VT L r) : VT L' r := fun M w hw => k M w fun a ha => by
  obtain ⟨t, ht, rfl⟩ := List.mem_map.1 ha
  exact hw _ (List.mem_map.2 ⟨t, h t ht, rfl⟩)
theorem XB {L : List Str} {t : Str} (hi : Inc L) (ht : t ∈ L) : addT L t = L := FR (iK _) hi fun u => by
  rw [b5]
  exact ⟨fun h => h.elim id fun e => e ▸ ht, .inl⟩
theorem oU {L : List Str} {x : Fm} (hx : x.good) (h : Vld (L.map fT) x) : VT L x.body := by unfold VT; rwa [aE hx]
def MvOk (c : Fm) (L : List Str) (r : Str) (m : Nat × Str) : Prop := (aQ L r m.1 m.2).2 = true ∧ 1 ≤ m.1 ∧ m.1 ≤ 9 ∧ ∀ p ∈ (aQ L r m.1 m.2).1, GI c p.1 p.2 ∧ mu c p.1 p.2 < mu c L r
theorem GI.more {c : Fm} {L L' : List Str} {r r' : Str} (h : GI c L r) (hi : Inc L') (h1 : ∀ t ∈ L, t ∈ L') (h2 : ∀ t ∈ L', t ∈ L ∨ (GT t ∧ fT t ∈ subF c)) (h3 : GT r') (h4 : fT r' ∈ subF c) (h5 : VT L' r') (hu : ∃ u ∈ subF c, ¬ u.body ∈ L ∧ u.body ∈ L') : GI c L' r' ∧ mu c L' r' < mu c L r := by
  obtain ⟨u, u1, u2, u3⟩ := hu
  exact ⟨⟨hi, fun t ht => (h2 t ht).elim (h.left t) id, ⟨h3, h4⟩, h5⟩, WR (XV h1 u1 u2 u3) h4⟩
theorem GI.gt {c : Fm} {L : List Str} {r : Str} (h : GI c L r) : ∀ t ∈ L, GT t := fun t ht => (h.left t ht).1
theorem QH {c : Fm} {L : List Str} {r : Str} (h : GI c L r) (hA : ¬ findT (fAnd L) L = []) {m : Nat × Str} (hm : m = (3, findT (fAnd L) L)) : MvOk c L r m := by
  subst hm
  obtain ⟨f1, f2⟩ := BV hA
  generalize findT (fAnd L) L = t at *
  obtain ⟨hg, hp, hb⟩ := (h.gt t f1).at
  have hs := (h.left t f1).2
  unfold fAnd at f2
  cases e : fT t with
  | and x y =>
    rw [e] at f2 hg hp hs
    have hp := e7 hp
    have hs := NA hs
    have eg : aQ L r 3 t = ([(setT (L ++ [x.body, y.body]), r)], true) := by simp [aQ, leftG, f1, e]
    show (aQ L r 3 t).2 = true ∧ _ ∧ _ ∧ ∀ p ∈ (aQ L r 3 t).1, _
    rw [eg]
    refine ⟨rfl, by show 1 ≤ 3; decide, by show 3 ≤ 9; decide, fun p hpm => ?_⟩
    rw [List.mem_singleton] at hpm
    subst hpm
    have hmem : ∀ u, u ∈ setT (L ++ [x.body, y.body]) ↔ u ∈ L ∨ u = x.body ∨ u = y.body := fun u => by rw [fA]; simp
    refine h.more (iK _) (fun t ht => (hmem t).2 (.inl ht)) (fun t ht => ?_) h.right.1 h.right.2 (sG (fun t ht => (hmem t).2 (.inl ht)) h.vt) ?_
    · rcases (hmem t).1 ht with ht | rfl | rfl
      · exact .inl ht
      · exact .inr ⟨GT.of hg.1 hp.1, by rw [aE hg.1]; exact hs.1⟩
      · exact .inr ⟨GT.of hg.2 hp.2, by rw [aE hg.2]; exact hs.2⟩
    · by_cases hx : x.body ∈ L
      · refine ⟨y, hs.2, fun hy => ?_, (hmem _).2 (.inr (.inr rfl))⟩
        simp [hasB, hx, hy] at f2
      · exact ⟨x, hs.1, hx, (hmem _).2 (.inr (.inl rfl))⟩
  | _ => rw [e] at f2; cases f2
theorem SR {c : Fm} {L : List Str} {r : Str} (h : GI c L r) (hA : ¬ findT (fOr L) L = []) {m : Nat × Str} (hm : m = (5, findT (fOr L) L)) : MvOk c L r m := by
  subst hm
  obtain ⟨f1, f2⟩ := BV hA
  generalize findT (fOr L) L = t at *
  obtain ⟨hg, hp, hb⟩ := (h.gt t f1).at
  have hs := (h.left t f1).2
  unfold fOr at f2
  cases e : fT t with
  | or x y =>
    rw [e] at f2 hg hp hs
    have hp := gA hp
    have hs := KV hs
    have hx : ¬ x.body ∈ L := by simp [hasB] at f2; exact f2.1
    have hy : ¬ y.body ∈ L := by simp [hasB] at f2; exact f2.2
    have eg : aQ L r 5 t = ([(addT L x.body, r), (addT L y.body, r)], true) := by simp [aQ, leftG, f1, e]
    show (aQ L r 5 t).2 = true ∧ _ ∧ _ ∧ ∀ p ∈ (aQ L r 5 t).1, _
    rw [eg]
    refine ⟨rfl, by show 1 ≤ 5; decide, by show 5 ≤ 9; decide, fun p hpm => ?_⟩
    simp only [List.mem_cons, List.not_mem_nil, or_false] at hpm
    rcases hpm with rfl | rfl
    · refine h.more (iK _) (fun t ht => b5.2 (.inl ht)) (fun t ht => ?_) h.right.1 h.right.2 (sG (fun t ht => b5.2 (.inl ht)) h.vt) ⟨x, hs.1, hx, b5.2 (.inr rfl)⟩
      rcases b5.1 ht with ht | rfl
      · exact .inl ht
      · exact .inr ⟨GT.of hg.1 hp.1, by rw [aE hg.1]; exact hs.1⟩
    · refine h.more (iK _) (fun t ht => b5.2 (.inl ht)) (fun t ht => ?_) h.right.1 h.right.2 (sG (fun t ht => b5.2 (.inl ht)) h.vt) ⟨y, hs.2, hy, b5.2 (.inr rfl)⟩
      rcases b5.1 ht with ht | rfl
      · exact .inl ht
      · exact .inr ⟨GT.of hg.2 hp.2, by rw [aE hg.2]; exact hs.2⟩
  | _ => rw [e] at f2; cases f2
theorem QU {c : Fm} {L : List Str} {r : Str} (h : GI c L r) (h2 : ¬ Fm.fls.body ∈ L) (hdr : dirB L (fT r) = false) (hA : findT (fAnd L) L = []) (hO : findT (fOr L) L = []) {m : Nat × Str} (hm : m = (8, findT (fImp L) L)) : MvOk c L r m := by
  subst hm
  have hbody : ∀ {a : Fm}, a.good → fT a.body = a := fun ha => aE ha
  have hne : ¬ findT (fImp L) L = [] := fun hI => by
    have hsat : Satd L := ⟨h.gt, h2, fun x y hg hm => ?_, fun x y hg hm => ?_, fun x y hg hm => ?_⟩
    · obtain ⟨hg, hp, -⟩ := h.right.1.at
      have := hsat.dir hg hp h.vt
      rw [hdr] at this; cases this
    · have := BL h.gt hA _ hm
      unfold fAnd at this
      rw [hbody hg] at this
      simpa [hasB] using this
    · have := BL h.gt hO _ hm
      unfold fOr at this
      rw [hbody hg] at this
      by_cases hx : x.body ∈ L
      · exact .inl hx
      · refine .inr ?_
        simpa [hasB, hx] using this
    · have := BL h.gt hI _ hm
      unfold fImp at this
      rw [hbody hg] at this
      by_cases hy : y.body ∈ L
      · exact .inl hy
      · refine .inr ?_
        simpa [hasB, hy] using this
  obtain ⟨f1, f2⟩ := BV hne
  generalize findT (fImp L) L = t at *
  obtain ⟨hg, hp, hb⟩ := (h.gt t f1).at
  have hs := (h.left t f1).2
  unfold fImp at f2
  cases e : fT t with
  | imp x y =>
    rw [e] at f2 hg hp hs
    have hp := bG hp
    have hs := FQ hs
    rw [Bool.and_eq_true] at f2
    have hy : ¬ y.body ∈ L := by simpa [hasB] using f2.1
    have hx := f2.2
    have eg : aQ L r 8 t = ([(L, x.body), (addT L y.body, r)], true) := by simp [aQ, leftG, f1, e]
    show (aQ L r 8 t).2 = true ∧ _ ∧ _ ∧ ∀ p ∈ (aQ L r 8 t).1, _
    rw [eg]
    refine ⟨rfl, by show 1 ≤ 8; decide, by show 8 ≤ 9; decide, fun p hpm => ?_⟩
    simp only [List.mem_cons, List.not_mem_nil, or_false] at hpm
    rcases hpm with rfl | rfl
    · exact ⟨⟨h.inc, h.left, ⟨GT.of hg.1 hp.1, by rw [aE hg.1]; exact hs.1⟩, oU hg.1 (IL hg.1 hx)⟩, WP hdr (by rw [aE hg.1]; exact hx) (by rw [aE hg.1]; exact hs.1)⟩
    · refine h.more (iK _) (fun t ht => b5.2 (.inl ht)) (fun t ht => ?_) h.right.1 h.right.2 (sG (fun t ht => b5.2 (.inl ht)) h.vt) ⟨y, hs.2, hy, b5.2 (.inr rfl)⟩
      rcases b5.1 ht with ht | rfl
      · exact .inl ht
      · exact .inr ⟨GT.of hg.2 hp.2, by rw [aE hg.2]; exact hs.2⟩
  | _ => rw [e] at f2; cases f2
theorem NZ {c : Fm} {L : List Str} {r : Str} (h : GI c L r) (h2 : ¬ Fm.fls.body ∈ L) (hdr : dirB L (fT r) = false) {m : Nat × Str} (hm : m = if ¬ findT (fAnd L) L = [] then (3, findT (fAnd L) L) else if ¬ findT (fOr L) L = [] then (5, findT (fOr L) L) else (8, findT (fImp L) L)) : MvOk c L r m := by
  by_cases hA : ¬ findT (fAnd L) L = []
  · rw [if_pos hA] at hm; exact QH h hA hm
  rw [if_neg hA] at hm
  by_cases hO : ¬ findT (fOr L) L = []
  · rw [if_pos hO] at hm; exact SR h hO hm
  rw [if_neg hO] at hm
  exact QU h h2 hdr (Classical.not_not.1 hA) (Classical.not_not.1 hO) hm
theorem WX {c : Fm} {L : List Str} {r : Str} (h : GI c L r) : MvOk c L r (moveI L r) := by
  have hgt : ∀ t ∈ L, GT t := fun t ht => (h.left t ht).1
  obtain ⟨hg, hp, hb⟩ := h.right.1.at
  have hs := h.right.2
  have hvt := h.vt
  by_cases h1 : r ∈ L
  · have e : moveI L r = (1, []) := by unfold moveI; rw [if_pos h1]
    rw [e]
    unfold MvOk
    simp [aQ, h1]
  by_cases h2 : Fm.fls.body ∈ L
  · have e : moveI L r = (2, []) := by unfold moveI; rw [if_neg h1, if_pos h2]
    rw [e]
    unfold MvOk
    simp [aQ, h2]
  have hdno : ∀ {a : Fm}, a.body = r → (decide (a.body ∈ L) || decide (Fm.fls.body ∈ L)) = false := fun e => by rw [e]; simp [h1, h2]
  cases hr : fT r with
  | box _ => rw [hr] at hp; cases hp
  | dia _ => rw [hr] at hp; cases hp
  | and x y =>
    have e : moveI L r = (4, []) := by unfold moveI; rw [if_neg h1, if_neg h2, hr]
    rw [hr] at hg hp hs hb
    have hp := e7 hp
    have hs2 := NA hs
    rw [e]
    have eg : aQ L r 4 [] = ([(L, x.body), (L, y.body)], true) := by simp [aQ, dV, hr]
    unfold MvOk
    rw [eg]
    refine ⟨rfl, by decide, by decide, fun p hpm => ?_⟩
    have hvt2 : Vld (L.map fT) (.and x y) := by rw [← hr]; exact hvt
    have hd : dirB L (.and x y) = (dirB L x && dirB L y) := by rw [dirB, hdno hb, Bool.false_or]
    simp only [List.mem_cons, List.not_mem_nil, or_false] at hpm
    rcases hpm with rfl | rfl
    · refine ⟨⟨h.inc, h.left, ⟨GT.of hg.1 hp.1, by rw [aE hg.1]; exact hs2.1⟩, oU hg.1 (Vld.and.1 hvt2).1⟩, AD (fun k => ?_) ?_⟩
      · rw [hr, hd, Bool.and_eq_true] at k
        rw [aE hg.1]; exact k.1
      · rw [aE hg.1, hr]; simp only [Fm.size]; omega
    · refine ⟨⟨h.inc, h.left, ⟨GT.of hg.2 hp.2, by rw [aE hg.2]; exact hs2.2⟩, oU hg.2 (Vld.and.1 hvt2).2⟩, AD (fun k => ?_) ?_⟩
      · rw [hr, hd, Bool.and_eq_true] at k
        rw [aE hg.2]; exact k.2
      · rw [aE hg.2, hr]; simp only [Fm.size]; omega
  | imp x y =>
    have e : moveI L r = (9, []) := by unfold moveI; rw [if_neg h1, if_neg h2, hr]
    rw [hr] at hg hp hs hb
    have hp := bG hp
    have hs2 := FQ hs
    rw [e]
    have eg : aQ L r 9 [] = ([(addT L x.body, y.body)], true) := by simp [aQ, dV, hr]
    unfold MvOk
    rw [eg]
    refine ⟨rfl, by decide, by decide, fun p hpm => ?_⟩
    rw [List.mem_singleton] at hpm
    subst hpm
    have hvt2 : Vld (L.map fT) (.imp x y) := by rw [← hr]; exact hvt
    have hv : VT (addT L x.body) y.body := oU hg.2 fun M w hw => by
      obtain ⟨k1, k2⟩ := (MP hg.1).1 hw
      exact hvt2 M w k2 w (M.refl w) k1
    by_cases hx : x.body ∈ L
    · show GI c (addT L x.body) y.body ∧ mu c (addT L x.body) y.body < mu c L r
      rw [XB h.inc hx] at hv ⊢
      refine ⟨⟨h.inc, h.left, ⟨GT.of hg.2 hp.2, by rw [aE hg.2]; exact hs2.2⟩, hv⟩, AD (fun k => ?_) ?_⟩
      · rw [hr, dirB, hdno hb, Bool.false_or, if_pos hx] at k
        rw [aE hg.2]; exact k
      · rw [aE hg.2, hr]; simp only [Fm.size]; omega
    · refine h.more (iK _) (fun t ht => b5.2 (.inl ht)) (fun t ht => ?_) (GT.of hg.2 hp.2) (by rw [aE hg.2]; exact hs2.2) hv ⟨x, hs2.1, hx, b5.2 (.inr rfl)⟩
      rcases b5.1 ht with ht | rfl
      · exact .inl ht
      · exact .inr ⟨GT.of hg.1 hp.1, by rw [aE hg.1]; exact hs2.1⟩
  | var q =>
    have hdr : dirB L (fT r) = false := by
      rw [hr] at hb ⊢
      exact hdno hb
    exact NZ h h2 hdr (by
      unfold moveI
      rw [if_neg h1, if_neg h2, hr])
  | fls =>
    have hdr : dirB L (fT r) = false := by
      rw [hr] at hb ⊢
      exact hdno hb
    exact NZ h h2 hdr (by
      unfold moveI
      rw [if_neg h1, if_neg h2, hr])
  | or x y =>
    rw [hr] at hg hp hs hb
    have hp := gA hp
    have hs2 := KV hs
    have hd : dirB L (.or x y) = (dirB L x || dirB L y) := by rw [dirB, hdno hb, Bool.false_or]
    by_cases hA : ¬ findT (fAnd L) L = []
    · exact QH h hA (by unfold moveI; rw [if_neg h1, if_neg h2, hr]; simp only [if_pos hA])
    by_cases hO : ¬ findT (fOr L) L = []
    · exact SR h hO (by unfold moveI; rw [if_neg h1, if_neg h2, hr]; simp only [if_neg hA, if_pos hO])
    by_cases hx : dirB L x = true
    · have e : moveI L r = (6, []) := by unfold moveI; rw [if_neg h1, if_neg h2, hr]; simp only [if_neg hA, if_neg hO, if_pos hx]
      rw [e]
      have eg : aQ L r 6 [] = ([(L, x.body)], true) := by simp [aQ, dV, hr]
      unfold MvOk
      rw [eg]
      refine ⟨rfl, by decide, by decide, fun p hpm => ?_⟩
      rw [List.mem_singleton] at hpm
      subst hpm
      refine ⟨⟨h.inc, h.left, ⟨GT.of hg.1 hp.1, by rw [aE hg.1]; exact hs2.1⟩, oU hg.1 (IL hg.1 hx)⟩, AD (fun _ => by rw [aE hg.1]; exact hx) ?_⟩
      rw [aE hg.1, hr]; simp only [Fm.size]; omega
    by_cases hy : dirB L y = true
    · have e : moveI L r = (7, []) := by unfold moveI; rw [if_neg h1, if_neg h2, hr]; simp only [if_neg hA, if_neg hO, if_neg hx, if_pos hy]
      rw [e]
      have eg : aQ L r 7 [] = ([(L, y.body)], true) := by simp [aQ, dV, hr]
      unfold MvOk
      rw [eg]
      refine ⟨rfl, by decide, by decide, fun p hpm => ?_⟩
      rw [List.mem_singleton] at hpm
      subst hpm
      refine ⟨⟨h.inc, h.left, ⟨GT.of hg.2 hp.2, by rw [aE hg.2]; exact hs2.2⟩, oU hg.2 (IL hg.2 hy)⟩, AD (fun _ => by rw [aE hg.2]; exact hy) ?_⟩
      rw [aE hg.2, hr]; simp only [Fm.size]; omega
    · have hdr : dirB L (fT r) = false := by
        rw [hr, hd]
        simp at hx hy
        rw [hx, hy]; rfl
      exact QU h h2 hdr (Classical.not_not.1 hA) (Classical.not_not.1 hO) (by unfold moveI; rw [if_neg h1, if_neg h2, hr]; simp only [if_neg hA, if_neg hO, if_neg hx, if_neg hy])
end Go.Vc

namespace Go.Vc
structure SmT (t : Str) : Prop where
  gt : GT t
  size : (fT t).size ≤ 20
theorem SmT.len {t : Str} (h : SmT t) : t.length ≤ 200 := by
  have h1 := EV h.gt
  have h2 := PR h.gt.at.2.1
  have := h.size
  omega
theorem SmT.code {t : Str} (h : SmT t) : pCode t = 0 := by
  obtain ⟨g, p, b⟩ := h.gt.at
  have hl := h.len
  have hs := h.size
  have e : rd t = (fT t, ([], false)) := by
    have := SV g
    rw [b] at this; exact this
  unfold pCode
  rw [if_neg (by omega), if_pos (by unfold rdOk; rw [e]; rfl)]
  rw [show (rd t).1 = fT t from rfl, if_neg (by omega)]
theorem SmT.good {t : Str} (h : SmT t) : goodT t = true := by
  unfold goodT
  rw [decide_eq_true h.code, decide_eq_true (show (rd t).1.body = t from h.gt.at.2.2)]; rfl
theorem SmT.of {a : Fm} (hg : a.good) (hp : a.plain = true) (hs : a.size ≤ 20) : SmT a.body := ⟨GT.of hg hp, by rw [aE hg]; exact hs⟩
theorem TP {L : List Str} (h : Inc L) : L.Nodup := h.imp fun {a b} hab e => by subst e; rw [bS] at hab; cases hab
structure PL (c : Fm) (L : List Str) : Prop where
  inc : Inc L
  left : ∀ t ∈ L, GT t ∧ fT t ∈ subF c
theorem GI.pl {c : Fm} {L : List Str} {r : Str} (h : GI c L r) : PL c L := ⟨h.inc, h.left⟩
theorem PL.sum {c : Fm} {L : List Str} (h : PL c L) : mT L ≤ 2 * c.w2 := by
  have h1 : (L.map fT).Nodup := by
    refine List.pairwise_map.2 ((TP h.inc).imp_of_mem fun {a b} ha hb hab e => ?_)
    exact hab ((h.left a ha).1.inj (h.left b hb).1 e)
  have h2 := MB (f := Fm.w2) h1 (S := subF c) fun x hx => by
    obtain ⟨t, ht, rfl⟩ := List.mem_map.1 hx
    exact (h.left t ht).2
  rw [List.map_map] at h2
  have h3 := PO c
  have : mT L = (L.map (Fm.w2 ∘ fT)).sum := rfl
  omega
theorem PL.add {c : Fm} {L : List Str} (h : PL c L) {x : Fm} (hg : x.good) (hp : x.plain = true) (hx : x ∈ subF c) : PL c (addT L x.body) := ⟨iK _, fun t ht => by
  rcases b5.1 ht with ht | rfl
  · exact h.left t ht
  · exact ⟨GT.of hg hp, by rw [aE hg]; exact hx⟩⟩
theorem w2_20 {c : Fm} (hp : c.plain = true) (hs : c.size ≤ 20) : c.w2 ≤ 536870912 := by
  have := PR hp
  exact Nat.le_trans (Nat.pow_le_pow_right (by omega) (show c.wt ≤ 29 by omega)) (by decide)
theorem XS {c : Fm} {u : Fm} (hu : u ∈ subF c) : u.w2 ≤ 2 * c.w2 := by
  have h := MB (f := Fm.w2) (M := [u]) (S := subF c) (by simp) (fun x hx => by rw [List.mem_singleton.1 hx]; exact hu)
  have := PO c
  simp at h
  omega
theorem PL.sq {c : Fm} {L : List Str} {r : Str} (h : PL c L) (hp : c.plain = true) (hs : c.size ≤ 20) (hr : GT r ∧ fT r ∈ subF c) : SqT L r := by
  refine ⟨fun t ht => (h.left t ht).1, hr.1, ?_⟩
  have h1 := h.sum
  have h2 : wT r ≤ 2 * c.w2 := XS hr.2
  have h3 := w2_20 hp hs
  omega
theorem PL.sm {c : Fm} {L : List Str} (h : PL c L) (hs : c.size ≤ 20) : ∀ t ∈ L, SmT t := fun t ht => ⟨(h.left t ht).1, Nat.le_trans (hU (h.left t ht).2) hs⟩
theorem PL.len {c : Fm} {L : List Str} (h : PL c L) (hp : c.plain = true) (hs : c.size ≤ 20) : L.length ≤ 1000000000 := by
  have h1 := h.sum
  have h2 := QJ L
  have h3 := w2_20 hp hs
  omega
theorem GI.sm {c : Fm} {L : List Str} {r : Str} (h : GI c L r) (hs : c.size ≤ 20) : SmT r := ⟨h.right.1, Nat.le_trans (hU h.right.2) hs⟩
theorem XD (L : List Str) (r : Str) : vB (setT L) r = vB L r := by
  rw [Bool.eq_iff_iff, cA, cA]
  exact ⟨sG fun t ht => fA.1 ht, sG fun t ht => fA.2 ht⟩
/-! ### Proofs -/
structure Inf where
  rule : Nat
  prem : List Nat
  left : List Str
  right : Str
  main : Str
instance : Inhabited Inf := ⟨⟨0, [], [], [], []⟩⟩
structure nI (P : List Inf) (k : Nat) : Prop where
  lo : 1 ≤ (gt P k).rule
  hi : (gt P k).rule ≤ 9
  goals : aQ (gt P k).left (gt P k).right (gt P k).rule (gt P k).main = ((gt P k).prem.map fun q => ((gt P q).left, (gt P q).right), true)
  prem : ∀ q ∈ (gt P k).prem, q < k
  inc : Inc (gt P k).left
  left : ∀ t ∈ (gt P k).left, SmT t
  right : SmT (gt P k).right
  len : (gt P k).left.length ≤ 12
  main : (gt P k).main = [] ∨ (gt P k).main ∈ (gt P k).left
theorem FV {P Q : List Inf} {k : Nat} (hk : k < P.length) : gt (P ++ Q) k = gt P k := by
  rw [gt_eq (by rw [List.length_append]; omega), gt_eq hk, List.getElem_append_left hk]
theorem nI.app {P Q : List Inf} {k : Nat} (h : nI P k) (hk : k < P.length) : nI (P ++ Q) k := by
  have e := FV (Q := Q) hk
  refine ⟨by rw [e]; exact h.lo, by rw [e]; exact h.hi, ?_, by rw [e]; exact h.prem, by rw [e]; exact h.inc, by rw [e]; exact h.left, by rw [e]; exact h.right, by rw [e]; exact h.len, by rw [e]; exact h.main⟩
  rw [e, h.goals]
  congr 1
  exact List.map_congr_left fun q hq => by
    have := h.prem q hq
    rw [FV (by omega)]
end Go.Vc

namespace Go.Proofs.YtcfnoofghbmiiaaGreatDoor
open Go.Vc
theorem IX {v v' : Value} {L : List Str} {w : World} (hs : SlT w v L) (hs' : SlT w v' L) : Ret Tryz.prog gN #[v, v'] w (.bool true) := by
  have hln := hs.len
  rw [bF] at hln
  apply n5; unfold gK
  refine bO hs (bO hs' ?_)
  refine iNe (iCndF (decide_eq_false fun h => h rfl) ?_)
  refine bO hs ?_
  refine iLp (fun i : Nat => [.int .i64 (i : Int)]) (fun i w' => i ≤ L.length ∧ Ext w w') (fun i => L.length - i) 0 rfl ⟨Nat.zero_le _, Ext.refl _⟩ ?_
  rintro i w2 Kn ⟨hi, x2⟩ hKn
  intro _
  simp only [gx]
  refine iLt (iCndP (fun h => ?_) (fun h => ⟨by first | trivial | rfl, x2⟩))
  have hil : i < L.length := by omega
  refine iIaG (hs.ext x2) rfl hil ?_
  refine iIaG (hs'.ext x2) rfl hil ?_
  refine iNeT ?_
  intro w3 x3
  refine iCndF (decide_eq_false fun h => h rfl) ?_
  refine iAdd (by omega) ?_
  exact hKn (i + 1) _ ⟨by omega, x2.trans x3⟩ (by omega)
theorem oF {t : Str} (h : SmT t) (w : World) : Ret Tryz.prog pU #[sv t] w (.bool true) := by
  apply ER; unfold p0
  refine iJnB true w (fun J hJ => ?_) (fun w2 x2 => fun _ => ⟨by first | trivial | rfl, x2⟩)
  refine iRet (y6 t w) fun w3 x3 => ?_
  rw [h.good]
  refine iCndT rfl ?_
  refine iCall ((cV t w3).mono ?_)
  rintro v w4 ⟨x4, hv, -⟩
  have hv : FmW w3.heap.size w4 v (fT t) := hv h.code
  refine iRet (u0 hv.sl) fun w5 x5 => ?_
  rw [h.gt.at.2.1]
  exact hJ _ ((x3.trans x4).trans x5)
theorem LZ {v : Value} {L : List Str} {w : World} (hs : SlT w v L) (hi : Inc L) (hl : ∀ t ∈ L, SmT t) : Ret Tryz.prog B3 #[v] w (.bool true) := by
  have hln := hs.len
  rw [bF] at hln
  apply O7; unfold CT
  refine bO hs ?_
  refine iLp (fun i : Nat => [.int .i64 (i : Int)]) (fun i w' => i ≤ L.length ∧ Ext w w') (fun i => L.length - i) 0 rfl ⟨Nat.zero_le _, Ext.refl _⟩ ?_
  rintro i w2 Kn ⟨hi2, x2⟩ hKn
  intro _
  simp only [gx]
  refine iLt (iCndP (fun h => ?_) (fun h => ⟨by first | trivial | rfl, x2⟩))
  have hil : i < L.length := by omega
  refine iIaG (hs.ext x2) rfl hil ?_
  refine iJnB false w2 (fun J hJ => ?_) (fun w4 x4 => ?_)
  · refine iRet (oF (hl _ (by rw [gt_eq hil]; exact List.getElem_mem _)) w2) fun w5 x5 => iNot (iCndF rfl ?_)
    refine iLt (iCndP (fun h0 => ?_) (fun _ => hJ _ x5))
    have hi0 : 0 < i := by omega
    refine iSub (by omega) ?_
    refine iIaG (j := i - 1) (hs.ext (x2.trans x5)) (by omega) (by omega) ?_
    refine iGeT ?_
    have := List.pairwise_iff_getElem.1 hi (i - 1) i (by omega) hil (by omega)
    rw [← gt_eq (show i - 1 < L.length by omega), ← gt_eq hil] at this
    rw [this]
    exact hJ _ x5
  · intro _
    simp only [gx]
    refine iCndF rfl (iAdd (by omega) ?_)
    exact hKn (i + 1) _ ⟨by omega, x2.trans x4⟩ (by omega)
theorem D6 {v : Value} {L : List Str} {w : World} (hs : SlT w v L) (hi : Inc L) (hl : ∀ t ∈ L, SmT t) (h12 : L.length ≤ 12) : Ret Tryz.prog rC #[v] w (.bool true) := by
  apply GU; unfold rY
  refine iJnB true w (fun J hJ => ?_) (fun w2 x2 => fun _ => ⟨by first | trivial | rfl, x2⟩)
  refine bO hs ?_
  refine iLe (iCndT (decide_eq_true (by omega)) ?_)
  exact iRet (LZ hs hi hl) fun w3 x3 => hJ _ x3
theorem rJ {v : Value} {L : List Str} {r : Str} {w : World} (hs : SlT w v L) (hi : Inc L) (hl : ∀ t ∈ L, SmT t) (h12 : L.length ≤ 12) (hr : SmT r) : Ret Tryz.prog tB #[v, sv r] w (.bool true) := by
  apply HR; unfold sQ
  refine iJnB true w (fun J hJ => ?_) (fun w2 x2 => fun _ => ⟨by first | trivial | rfl, x2⟩)
  refine iRet (D6 hs hi hl h12) fun w3 x3 => iCndT rfl ?_
  exact iRet (oF hr w3) fun w4 x4 => hJ _ (x3.trans x4)
theorem wC {v : Value} {L : List Str} {w : World} (hs : SlT w v L) (hl : ∀ t ∈ L, SmT t) (hL : L.length ≤ 1000) : Ret Tryz.prog zO #[v] w (.int .i64 (((L.map fun t => (fT t).size).sum : Nat) : Int)) := by
  have hb : ∀ k, ((L.take k).map fun t => (fT t).size).sum ≤ 20 * k := fun k => by
    induction k with
    | zero => simp
    | succ k ih =>
      rcases Nat.lt_or_ge k L.length with h | h
      · rw [List.take_succ_eq_append_getElem h, List.map_append, List.sum_append]
        have := (hl _ (List.getElem_mem h)).size
        simp only [List.map_cons, List.map_nil, List.sum_cons, List.sum_nil, Nat.add_zero]; omega
      · rw [List.take_of_length_le (by omega)]
        rw [List.take_of_length_le h] at ih
        omega
  apply M1; unfold AF
  refine bO hs ?_
  refine iLp (fun i : Nat => [.int .i64 ((((L.take i).map fun t => (fT t).size).sum : Nat) : Int), .int .i64 (i : Int)]) (fun i w' => i ≤ L.length ∧ Ext w w') (fun i => L.length - i) 0 rfl ⟨Nat.zero_le _, Ext.refl _⟩ ?_
  rintro i w2 Kn ⟨hi, x2⟩ hKn
  intro _
  simp only [gx]
  refine iLt (iCndP (fun h => ?_) (fun h => ?_))
  · have hil : i < L.length := by omega
    have hm := hl _ (List.getElem_mem hil)
    rw [← gt_eq hil] at hm
    refine iIaG (hs.ext x2) rfl hil ?_
    refine iCall ((cV (gt L i) w2).mono ?_)
    rintro u w3 ⟨x3, hv, -⟩
    have hv : FmW w2.heap.size w3 u (fT (gt L i)) := hv hm.code
    refine iLenK hv.sl ?_
    have := hb i
    have := hm.size
    refine iAdd (by omega) (iAdd (by omega) ?_)
    have e : ((L.take (i + 1)).map fun t => (fT t).size).sum = ((L.take i).map fun t => (fT t).size).sum + (fT (gt L i)).size := by
      rw [List.take_succ_eq_append_getElem hil, List.map_append, List.sum_append, ← gt_eq hil]; simp
    have := hKn (i + 1) w3 ⟨by omega, x2.trans x3⟩ (by omega)
    rw [e] at this
    exact this
  · have : i = L.length := by omega
    subst this
    rw [List.take_length]
    exact ⟨by first | trivial | rfl, x2⟩
theorem rF {v : Value} {r : Str} {w : World} (hs : SlT w v []) (hr : SmT r) : Ret Tryz.prog wP #[v, sv r] w (.int .i64 0) := by
  apply JO; unfold vR
  refine iRet (rJ hs List.Pairwise.nil (fun t ht => by cases ht) (by simp) hr) fun w1 x1 => iNot (iCndF rfl ?_)
  refine iBs1 rfl rfl fun b w2 hb x2 hB => ?_
  have hone : SlT w2 (.slice (some ⟨b, 0, none⟩) 1 1) [r] := Sl.ofBlk (n := 1) hB rfl (by decide)
  refine iRet (v := .bool true) ?_ fun w3 x3 => iNot (iCndF rfl ⟨rfl, (x1.trans x2).trans x3⟩)
  apply D4; unfold qG
  have hsz := hr.size
  refine iRet (wC (hs.ext (x1.trans x2)) (fun t ht => by cases ht) (by simp)) fun w4 x4 => ?_
  refine iRet (wC (hone.ext x4) (fun t ht => by rw [List.mem_singleton.1 ht]; exact hr) (by simp)) fun w5 x5 => ?_
  simp only [List.map_nil, List.sum_nil, List.map_cons, List.sum_cons, Nat.add_zero]
  refine iAdd (by omega) (iLe ⟨?_, x4.trans x5⟩)
  rw [decide_eq_true (by omega)]
theorem JD {v : Value} {r : Str} {w : World} (hs : TxW 0 w v []) (hr : SmT r) (hv : VT [] r) : Ret Tryz.prog B6 #[v, sv r] w (.tuple #[.bool true, .int .i64 0]) := by
  apply OL; unfold B8
  refine iRet (rF hs.sl hr) fun w1 x1 => ?_
  refine iNe (iCndF (decide_eq_false fun h => h rfl) ?_)
  have h : SqT (setT []) r := ⟨fun t ht => (by cases ht), hr.gt, by
    have := w2_20 hr.gt.at.2.1 hr.size
    show 0 + (fT r).w2 ≤ _
    omega⟩
  refine iRet (l9 (hs.ext x1) h (by simp)) fun w2 x2 => ⟨?_, x1.trans x2⟩
  rw [cA.2 (show VT (setT []) r from hv)]
theorem t6 {db mb : Nat} {v : Value} {L : List Str} {r : Str} {w : World} (hD : Dec w db mb) (hv : TxW 0 w v L) (h : SqT (setT L) r) (hl : L.length ≤ 549755813888) : Cal Tryz.prog fS #[dp db, v, sv r] w (DQ KnQ mb w (vB L r)) := by
  apply kM; unfold fU
  refine iCall ((i8 (A := L) (B := []) hv.sl (Sl.nil w) hv.cell rfl (by simp only [List.length_nil]; omega)).mono ?_)
  rintro u w2 ⟨x2, ho⟩
  rw [List.append_nil] at ho
  refine dE ho.cell rfl ?_
  refine iCall ((ok_Pv _ _ _ h (Nat.lt_succ_self _) w2 u (hD.ext x2) (ho.mono (Nat.zero_le _))).mono ?_)
  rintro u w3 h3
  rw [XD] at h3
  exact h3.ext x2 (Ext.refl _)
end Go.Proofs.YtcfnoofghbmiiaaGreatDoor

namespace Go.Vc
structure IV where
  i : Inf
  vp : Value
  vl : Value
def IV.cs (x : IV) : List Value := [.int .i64 (x.i.rule : Int), x.vp, x.vl, sv x.i.right, sv x.i.main]
def b9 (R : List IV) : List Value := R.flatMap IV.cs
theorem S5 (A B : List IV) : b9 (A ++ B) = b9 A ++ b9 B := by simp [b9]
instance : Inhabited IV := ⟨⟨default, .slice none 0 0, .slice none 0 0⟩⟩
theorem N0 : ∀ {R : List IV} {j : Nat}, j < R.length → ∀ k, k < 5 → (b9 R)[j * 5 + k]? = (gt R j).cs[k]?
  | [], j, h, _, _ => absurd h (Nat.not_lt_zero j)
  | x :: R, 0, _, k, hk => by
    rw [show b9 (x :: R) = x.cs ++ b9 R by simp [b9], Nat.zero_mul, Nat.zero_add, List.getElem?_append_left (by simp [IV.cs]; omega)]
    rfl
  | x :: R, j + 1, h, k, hk => by
    have := N0 (R := R) (j := j) (by simpa using h) k hk
    rw [show b9 (x :: R) = x.cs ++ b9 R by simp [b9], show (j + 1) * 5 + k = j * 5 + k + 5 by omega, List.getElem?_append_right (by simp [IV.cs])]
    rw [show j * 5 + k + 5 - x.cs.length = j * 5 + k by simp [IV.cs]]
    exact this
theorem iBs15 {w : World} {e : TypeId} {a b c d f z0 z1 z2 z3 z4 : Value} {K : Value → World → Prop} (h : ∀ bb w', bb = w.heap.size ∧ w'.heap.size = bb + 1 → Ext w w' → Blk e w' bb [a, b, c, d, f] → K (.slice (some ⟨bb, 0, none⟩) 1 1) w') :
    xBs e (Value.cells (.agg #[z0, z1, z2, z3, z4])) 5 1 [(0, .agg #[a, b, c, d, f])] w K := by
  refine ⟨#[a, b, c, d, f], ?_, h _ _ ⟨rfl, by simp⟩ (Ext.alloc w _) (Blk.new w #[a, b, c, d, f] e)⟩
  simp [Instr.fill, Value.cells, show Array.range 5 = #[0, 1, 2, 3, 4] from rfl]
theorem MapB.chB {Q : Str → Value → Prop} {S : Nat → Prop} {w w' : World} {b : Nat} (h : MapB Q w b) (hc : Ch S w w') (hn : ¬ S b) : MapB Q w' b := by
  obtain ⟨es, clock, h1, h2⟩ := h
  have hlt : b < w.heap.size := by
    rw [Array.getElem?_eq_some_iff] at h1; exact h1.1
  exact ⟨es, clock, by rw [hc.block b hlt hn]; exact h1, h2⟩
end Go.Vc
namespace Go.Proofs.YtcfnoofghbmiiaaGreatDoor
open Go.Vc
def TyI (l0 : Nat) (w : World) (c : Nat) : Prop := l0 ≤ c ∧ ∃ cs, Blk bN w c cs
def BCh (l0 mb b : Nat) (w w' : World) : Prop := Ch (fun c => c = mb ∨ c = b ∨ TyI l0 w c) w w'
theorem BCh.trans {l0 mb b : Nat} {w w' w'' : World} (h : BCh l0 mb b w w') (k : BCh l0 mb b w' w'') : BCh l0 mb b w w'' := by
  refine Ch.trans h k fun c hc => ?_
  by_cases hlt : c < w.heap.size
  · by_cases hs : c = mb ∨ c = b ∨ TyI l0 w c
    · exact .inl hs
    · rcases hc with hc | hc | ⟨h0, cs, hc⟩
      · exact absurd (.inl hc) hs
      · exact absurd (.inr (.inl hc)) hs
      · refine .inl (.inr (.inr ⟨h0, cs, ?_⟩))
        unfold Blk at hc ⊢
        rw [← h.block c hlt hs]; exact hc
  · exact .inr (by omega)
theorem BCh.ext {l0 mb b : Nat} {w w' : World} (x : Ext w w') : BCh l0 mb b w w' := x.ch
theorem BCh.map {l0 mb b : Nat} {w w' : World} (x : Ch (fun c => c = mb) w w') : BCh l0 mb b w w' := x.mono fun _ h => .inl h
theorem BCh.blk {l0 mb b : Nat} {w w' : World} (x : Ch (fun c => c = b) w w') : BCh l0 mb b w w' := x.mono fun _ h => .inr (.inl h)
theorem BCh.row {mb b k lo n : Nat} {w w' : World} {v : Value} {xs : List Value} (h : OwK k lo bN w v n xs) (x : Ch (fun c => v.ownBlock = some c) w w') : BCh lo mb b w w' := x.mono fun c hc => by
  obtain ⟨cur, hh⟩ := OwK.ty h hc
  exact .inr (.inr ⟨(OwK.blk h c hc).1, cur.toList, by unfold Blk; rw [hh]⟩)
theorem QS {k lo n b : Nat} {e e' : TypeId} {w : World} {v : Value} {xs cs : List Value} (h : OwK k lo e w v n xs) (hB : Blk e' w b cs) (hne : e ≠ e') : ¬ v.ownBlock = some b := fun hc => by
  obtain ⟨_, h0 | ⟨g, cap, cur, hv, hg, hh, _⟩⟩ := h
  · rw [h0.1] at hc; cases hc
  · rw [hv] at hc
    cases hc
    unfold Blk at hB
    rw [hh] at hB
    exact hne (by cases hB; rfl)
theorem OwK.bch {Q : Str → Value → Prop} {l0 k lo n mb b : Nat} {e : TypeId} {w w' : World} {v : Value} {xs cs : List Value} (h : OwK k lo e w v n xs) (x : BCh l0 mb b w w') (hm : MapB Q w mb) (hB : Blk 74 w b cs) (h1 : e ≠ 74) (h2 : e ≠ bN) : OwK k lo e w' v n xs := by
  refine OwK.ch h x fun c hc hS => ?_
  rcases hS with rfl | rfl | ⟨-, cs', hS⟩
  · exact hm.ne_ow h c hc rfl
  · exact QS h hB h1 hc
  · exact QS h hS h2 hc
theorem Ow.bch {Q : Str → Value → Prop} {l0 lo mb b : Nat} {e : TypeId} {w w' : World} {v : Value} {xs cs : List Value} (h : Ow lo e w v xs) (x : BCh l0 mb b w w') (hm : MapB Q w mb) (hB : Blk 74 w b cs) (h1 : e ≠ 74) (h2 : e ≠ bN) : Ow lo e w' v xs := by
  refine Ow.ch h x fun c hc hS => ?_
  rcases hS with rfl | rfl | ⟨-, cs', hS⟩
  · exact hm.ne_ow h.toK c hc rfl
  · exact h.ne_blk hB h1 hc
  · exact h.ne_blk hS h2 hc
theorem Blk.bch {Q : Str → Value → Prop} {l0 q mb b : Nat} {e : TypeId} {w w' : World} {cs cs' : List Value} (h : Blk e w q cs) (x : BCh l0 mb b w w') (hm : MapB Q w mb) (hB : Blk 74 w b cs') (h1 : e ≠ 74) (h2 : e ≠ bN) : Blk e w' q cs := by
  refine h.ch x fun hS => ?_
  rcases hS with rfl | rfl | ⟨-, cs'', hS⟩
  · exact hm.ne_blk h rfl
  · unfold Blk at h hB; rw [h] at hB; exact h1 (by cases hB; rfl)
  · unfold Blk at h hS; rw [h] at hS; exact h2 (by cases hS; rfl)
theorem ne_ty {w : World} {e e' : TypeId} {c : Nat} (h : ∃ cur, w.heap[c]? = some (.cells cur e (0, 0))) (h' : ∃ cur, w.heap[c]? = some (.cells cur e' (0, 0))) : e = e' := by
  obtain ⟨_, h⟩ := h
  obtain ⟨_, h'⟩ := h'
  rw [h] at h'; cases h'; rfl
structure BW (l0 : Nat) (w : World) (b db mb : Nat) (R : List IV) : Prop where
  lob : l0 ≤ b
  dec : Dec w db mb
  ex : ∃ vp, Blk 74 w b [dp db, vp] ∧ OwK 5 l0 bN w vp R.length (b9 R)
  prem : ∀ x ∈ R, Ow 0 t_i64 w x.vp (ints (nats x.i.prem))
  left : ∀ x ∈ R, Ow 0 aA w x.vl (strs x.i.left)
theorem BW.ext {w w' : World} {l0 b db mb : Nat} {R : List IV} (h : BW l0 w b db mb R) (x : Ext w w') : BW l0 w' b db mb R := by
  obtain ⟨h0, hd, ⟨vp, h1, h2⟩, h3, h4⟩ := h
  exact ⟨h0, hd.ext x, ⟨vp, h1.ext x, OwK.ext h2 x⟩, fun y hy => (h3 y hy).ext x, fun y hy => (h4 y hy).ext x⟩
theorem BW.tr {w w' : World} {l0 b db mb : Nat} {R : List IV} (h : BW l0 w b db mb R) (hm : MapB KnQ w' mb) (x : Ch (fun c => c = mb) w w') : BW l0 w' b db mb R := by
  obtain ⟨h0, hd, ⟨vp, h1, h2⟩, h3, h4⟩ := h
  refine ⟨h0, hd.tr hm x, ⟨vp, h1.ch x (hd.map.ne_blk h1), OwK.ch h2 x (hd.map.ne_ow h2)⟩, fun y hy => ?_, fun y hy => ?_⟩
  · exact (h3 y hy).ch x (hd.map.ne_ow (h3 y hy).toK)
  · exact (h4 y hy).ch x (hd.map.ne_ow (h4 y hy).toK)
theorem BW.grown {w w' : World} {l0 b db mb lo : Nat} {R : List IV} {pv : Value} {xs : List Value} (h : BW l0 w b db mb R) (hp : Ow lo t_i64 w pv xs) (hne : ∀ x ∈ R, ∀ c, x.vp.ownBlock = some c → pv.ownBlock ≠ some c) (hg : w.grownBy w' pv.ownBlock) : BW l0 w' b db mb R := by
  obtain ⟨h0, hd, ⟨vp, h1, h2⟩, h3, h4⟩ := h
  have hc := dJ (S := fun k => pv.ownBlock = some k) hg fun k hk => hk
  refine ⟨h0, ⟨hd.blk.grown hg (hp.ne_blk hd.blk (by decide)), hd.map.chB hc fun hS => hd.map.ne_ow hp.toK _ hS rfl⟩, ⟨vp, h1.grown hg (hp.ne_blk h1 (by decide)), OwK.ch h2 hc fun c hc' hS => ?_⟩, fun y hy => ?_, fun y hy => ?_⟩
  · exact absurd (ne_ty (OwK.ty h2 hc') (hp.ty hS)) (by decide)
  · exact (h3 y hy).ch hc fun c hc' hS => hne y hy c hc' hS
  · exact (h4 y hy).ch hc fun c hc' hS => absurd (ne_ty ((h4 y hy).ty hc') (hp.ty hS)) (by decide)
end Go.Proofs.YtcfnoofghbmiiaaGreatDoor

namespace Go.Vc
theorem DQ.refl {Q : Str → Value → Prop} {mb : Nat} {w w' : World} {b : Bool} (hm : MapB Q w' mb) (x : Ext w w') : DQ Q mb w b (.bool b) w' := ⟨rfl, hm, x.ch⟩
end Go.Vc
namespace Go.Proofs.YtcfnoofghbmiiaaGreatDoor
open Go.Vc
theorem FmS.tr {Q : Str → Value → Prop} {mb : Nat} {w w' : World} {v : Value} {a : Fm} (h : FmS w v a) (hm : MapB Q w mb) (hc : Ch (fun c => c = mb) w w') : FmS w' v a := SlK.tr h hm hc
def DirC (c : Fm) (db mb : Nat) (L : List Str) (a : Fm) : Prop := a.good → a.plain = true → a ∈ subF c → ∀ {w : World} {v va : Value}, Dec w db mb → TxW 0 w v L → FmS w va a → Cal Tryz.prog kO #[dp db, v, va] w (DQ KnQ mb w (dirB L a))
theorem tW {c : Fm} (hcp : c.plain = true) (hcs : c.size ≤ 20) {db mb : Nat} {L : List Str} (hPL : PL c L) {a : Fm} (IH : ∀ k ∈ a.kids, DirC c db mb L k) : DirC c db mb L a := by
  intro hg hp hsub w v va hD hv hs
  have hsz := hU hsub
  have hLl := hPL.len hcp hcs
  apply uI; unfold kL
  refine iJnB (decide (a.body ∈ L) || decide (Fm.fls.body ∈ L)) w (fun J hJ => ?_) (fun w2 x2 => ?_)
  · refine iRet (aY hs hg (by omega)) fun w3 x3 => ?_
    refine iRet (aS (hv.ext x3).sl) fun w4 x4 => ?_
    refine iCndP (fun h => ?_) (fun h => ?_)
    · rw [decide_eq_true h, Bool.true_or] at hJ
      exact hJ _ (x3.trans x4)
    · rw [decide_eq_false h, Bool.false_or] at hJ
      exact iRet (aS (t := Fm.fls.body) (hv.ext (x3.trans x4)).sl) fun w5 x5 => hJ _ ((x3.trans x4).trans x5)
  intro _
  simp only [gx]
  have hD2 := hD.ext x2
  have hv2 := hv.ext x2
  have hs2 : FmS w2 va a := SlK.ext hs x2
  refine iCnd (fun h => ?_) (fun h => ?_)
  · have e : dirB L a = true := by
      rw [Bool.or_eq_true, decide_eq_true_eq, decide_eq_true_eq] at h
      exact h.elim QN V1
    rw [e]
    exact DQ.refl hD2.map x2
  have ha1 := a.size_pos
  refine iFld (f := 0) (j := 0) hs2 rfl ha1 (by decide) (aJ hs2).1 ?_
  -- two parts
  have two : ∀ (x y : Fm), a.kids = [x, y] → ∀ {w' : World}, MapB KnQ w' mb → Ch (fun c => c = mb) w2 w' → Dec w' db mb ∧ TxW 0 w' v L ∧ FmS w' va a := fun x y _ w' hm hc => ⟨hD2.tr hm hc, TxW.tr hv2 hD2.map hc, FmS.tr hs2 hD2.map hc⟩
  cases a with
  | var q =>
    have e : dirB L (.var q) = false := h
    rw [e]
    exact iEq (iCndF rfl (iEq (iCndF rfl (iEq (iCndF rfl (DQ.refl hD2.map x2))))))
  | fls =>
    have e : dirB L .fls = false := h
    rw [e]
    exact iEq (iCndF rfl (iEq (iCndF rfl (iEq (iCndF rfl (DQ.refl hD2.map x2))))))
  | box _ => cases hp
  | dia _ => cases hp
  | and x y =>
    have hp := e7 hp
    have hsb := NA hsub
    have e : dirB L (.and x y) = (dirB L x && dirB L y) := by rw [dirB, h, Bool.false_or]
    rw [e]
    refine iEq (iCndT rfl ?_)
    refine iJnX (fun xs w' => ∃ q, xs = [.bool q] ∧ DQ KnQ mb w2 (dirB L x && dirB L y) (.bool q) w') (fun J hJ => ?_) ?_
    · refine iCall ((aK (g := x) (gs := [y]) hs2 rfl (by omega)).mono ?_)
      rintro vx w8 ⟨x8, hx⟩
      refine iCall ((IH x (by simp [Fm.kids]) hg.1 hp.1 hsb.1 (hD2.ext x8) (hv2.ext x8) hx).mono ?_)
      rintro _ w9 ⟨rfl, hm9, hc9⟩
      have c29 := dK x8 hc9
      obtain ⟨hD9, hv9, hs9⟩ := two x y rfl hm9 c29
      refine iCnd (fun h1 => ?_) (fun h1 => ?_)
      · refine iCall ((aV (g := x) (h := y) hs9 rfl (by omega)).mono ?_)
        rintro vy w10 ⟨x10, hy⟩
        refine iCall ((IH y (by simp [Fm.kids]) hg.2 hp.2 hsb.2 (hD9.ext x10) (hv9.ext x10) hy).mono ?_)
        rintro _ w11 ⟨rfl, hm11, hc11⟩
        exact hJ _ _ ⟨_, rfl, by rw [h1, Bool.true_and], hm11, c29.trans (dK x10 hc11) fun _ e => .inl e⟩
      · exact hJ _ _ ⟨false, rfl, by rw [h1]; rfl, hm9, c29⟩
    · rintro _ w' ⟨q, rfl, hq⟩
      intro _
      exact hq.ext x2 (Ext.refl _)
  | or x y =>
    have hp := gA hp
    have hsb := KV hsub
    have e : dirB L (.or x y) = (dirB L x || dirB L y) := by rw [dirB, h, Bool.false_or]
    rw [e]
    refine iEq (iCndF rfl (iEq (iCndT rfl ?_)))
    refine iJnX (fun xs w' => ∃ q, xs = [.bool q] ∧ DQ KnQ mb w2 (dirB L x || dirB L y) (.bool q) w') (fun J hJ => ?_) ?_
    · refine iCall ((aK (g := x) (gs := [y]) hs2 rfl (by omega)).mono ?_)
      rintro vx w8 ⟨x8, hx⟩
      refine iCall ((IH x (by simp [Fm.kids]) hg.1 hp.1 hsb.1 (hD2.ext x8) (hv2.ext x8) hx).mono ?_)
      rintro _ w9 ⟨rfl, hm9, hc9⟩
      have c29 := dK x8 hc9
      obtain ⟨hD9, hv9, hs9⟩ := two x y rfl hm9 c29
      refine iCnd (fun h1 => ?_) (fun h1 => ?_)
      · exact hJ _ _ ⟨true, rfl, by rw [h1]; rfl, hm9, c29⟩
      · refine iCall ((aV (g := x) (h := y) hs9 rfl (by omega)).mono ?_)
        rintro vy w10 ⟨x10, hy⟩
        refine iCall ((IH y (by simp [Fm.kids]) hg.2 hp.2 hsb.2 (hD9.ext x10) (hv9.ext x10) hy).mono ?_)
        rintro _ w11 ⟨rfl, hm11, hc11⟩
        exact hJ _ _ ⟨_, rfl, by rw [h1, Bool.false_or], hm11, c29.trans (dK x10 hc11) fun _ e => .inl e⟩
    · rintro _ w' ⟨q, rfl, hq⟩
      intro _
      exact hq.ext x2 (Ext.refl _)
  | imp x y =>
    have hp := bG hp
    have hsb := FQ hsub
    have e : dirB L (.imp x y) = if x.body ∈ L then dirB L y else vB (addT L x.body) y.body := by rw [dirB, h, Bool.false_or]
    rw [e]
    have hsx := hU hsb.1
    have hsy := hU hsb.2
    refine iEq (iCndF rfl (iEq (iCndF rfl (iEq (iCndT rfl ?_)))))
    refine iCall ((aK (g := x) (gs := [y]) hs2 rfl (by omega)).mono ?_)
    rintro vx w8 ⟨x8, hx⟩
    refine iRet (aY hx hg.1 (by omega)) fun w9 x9 => ?_
    have x29 := x8.trans x9
    refine iRet (aS (hv2.ext x29).sl) fun w10 x10 => ?_
    have x210 := x29.trans x10
    refine iCndP (fun hm => ?_) (fun hm => ?_)
    · rw [if_pos hm]
      refine iCall ((aV (g := x) (h := y) (SlK.ext hs2 x210) rfl (by omega)).mono ?_)
      rintro vy w11 ⟨x11, hy⟩
      have x211 := x210.trans x11
      refine iCall ((IH y (by simp [Fm.kids]) hg.2 hp.2 hsb.2 (hD2.ext x211) (hv2.ext x211) hy).mono ?_)
      rintro u w12 hq
      exact hq.ext (x2.trans x211) (Ext.refl _)
    · rw [if_neg hm]
      refine iCall ((aK (g := x) (gs := [y]) (SlK.ext hs2 x210) rfl (by omega)).mono ?_)
      rintro vx2 w11 ⟨x11, hx2⟩
      refine iRet (aY hx2 hg.1 (by omega)) fun w12 x12 => ?_
      refine iBs1 rfl rfl fun bb w13 hbb x13 hB13 => ?_
      have x213 := ((x210.trans x11).trans x12).trans x13
      refine iCall ((i8 (A := L) (B := [x.body]) (hv2.ext x213).sl (Sl.ofBlk (n := 1) hB13 rfl (by decide)) hv.cell rfl (by simp only [List.length_cons, List.length_nil]; omega)).mono ?_)
      rintro vp w14 ⟨x14, hop⟩
      have x214 := x213.trans x14
      refine iCall ((aV (g := x) (h := y) (SlK.ext hs2 x214) rfl (by omega)).mono ?_)
      rintro vy w15 ⟨x15, hy⟩
      refine iRet (aY hy hg.2 (by omega)) fun w16 x16 => ?_
      have x216 := (x214.trans x15).trans x16
      have hadd := hPL.add hg.1 hp.1 hsb.1
      have hsq := hadd.sq hcp hcs (r := y.body) ⟨GT.of hg.2 hp.2, by rw [aE hg.2]; exact hsb.2⟩
      have hset : setT (addT L x.body) = addT L x.body := FR (iK _) hadd.inc fun u => fA
      have hal := hadd.len hcp hcs
      refine iCall ((t6 (L := addT L x.body) (hD2.ext x216) ((hop.mono (Nat.zero_le _)).ext (x15.trans x16)) (by rw [hset]; exact hsq) (by omega)).mono ?_)
      rintro u w17 hq
      exact hq.ext (x2.trans x216) (Ext.refl _)
theorem fC {c : Fm} (hcp : c.plain = true) (hcs : c.size ≤ 20) {db mb : Nat} {L : List Str} (hPL : PL c L) (a : Fm) : DirC c db mb L a := by
  have two : ∀ {x y k : Fm}, DirC c db mb L x → DirC c db mb L y → k ∈ [x, y] → DirC c db mb L k := fun hx hy hk => by
    simp only [List.mem_cons, List.not_mem_nil, or_false] at hk
    rcases hk with rfl | rfl
    · exact hx
    · exact hy
  induction a with
  | var _ => exact tW hcp hcs hPL fun k hk => by cases hk
  | fls => exact tW hcp hcs hPL fun k hk => by cases hk
  | and x y hx hy => exact tW hcp hcs hPL fun k hk => two hx hy hk
  | or x y hx hy => exact tW hcp hcs hPL fun k hk => two hx hy hk
  | imp x y hx hy => exact tW hcp hcs hPL fun k hk => two hx hy hk
  | box x => exact fun _ hp => by cases hp
  | dia x => exact fun _ hp => by cases hp
theorem kV {mb : Nat} {v fv : Value} {L : List Str} {r : Str} {p : Str → Bool} (hL : ∀ t ∈ L, SmT t) (hno : ∀ t ∈ L, (fT t).kids.length ≠ 2 → p t = false) {w : World} (hm : MapB KnQ w mb) (hv : TxW 0 w v L)
    (hf : ∀ t ∈ L, ∀ x y, (fT t).kids = [x, y] → ∀ w', MapB KnQ w' mb → Ch (fun c => c = mb) w w' → ∀ va, FmS w' va (fT t) → callV Tryz.prog fv [va, .bool (hasB L x), .bool (hasB L y)] w' (DQ KnQ mb w' (p t))) :
    Cal Tryz.prog mB #[.agg #[v, sv r], fv] w fun u w' => u = sv (findT p L) ∧ MapB KnQ w' mb ∧ Ch (fun c => c = mb) w w' := by
  have hln := hv.sl.len
  rw [bF] at hln
  apply H8; unfold tK
  refine iNew2 fun b2 w1 hb2 x1 hB2 => ?_
  refine iFa (iLdB hB2 (i := 0) (v := v) rfl ?_)
  have hm1 := hm.ext x1
  have hv1 := hv.ext x1
  refine bO hv1.sl ?_
  refine iLp (fun i : Nat => [.int .i64 (i : Int)]) (fun i w' => i ≤ L.length ∧ MapB KnQ w' mb ∧ Ch (fun c => c = mb) w1 w' ∧ ∀ j, j < i → p (gt L j) = false) (fun i => L.length - i) 0 rfl ⟨Nat.zero_le _, hm1, (Ext.refl _).ch, fun j hj => absurd hj (Nat.not_lt_zero _)⟩ ?_
  rintro i w3 Kn ⟨hi, hm3, hc3, hno3⟩ hKn
  intro _
  simp only [gx]
  have c03 : Ch (fun c => c = mb) w w3 := dK x1 hc3
  refine iLt (iCndP (fun h => ?_) (fun h => ?_))
  · have hil : i < L.length := by omega
    have hmem : gt L i ∈ L := by rw [gt_eq hil]; exact List.getElem_mem _
    have hsm := hL _ hmem
    have hv3 := TxW.tr hv1 hm1 hc3
    have hB3 := hB2.ch hc3 (hm1.ne_blk hB2)
    refine iIaG hv3.sl rfl hil ?_
    refine iCall ((cV (gt L i) w3).mono ?_)
    rintro va w4 ⟨x4, hva, -⟩
    have hva : FmW w3.heap.size w4 va (fT (gt L i)) := hva hsm.code
    have hs4 : FmS w4 va (fT (gt L i)) := hva.sl
    have hm4 := hm3.ext x4
    have hv4 := hv3.ext x4
    have hB4 := hB3.ext x4
    have hgood := hsm.gt.at.1
    have hsz := hsm.size
    have hpos := (fT (gt L i)).size_pos
    have hi3 := hno _ hmem
    have hf3 := hf _ hmem
    generalize hr : gt L i = t at *
    refine iJnX (fun xs w' => ∃ q, xs = [.bool q] ∧ q = p t ∧ MapB KnQ w' mb ∧ Ch (fun c => c = mb) w4 w') (fun J hJ => ?_) ?_
    · refine iFld (f := 0) (j := 0) hs4 rfl hpos (by decide) (aJ hs4).1 ?_
      refine iRetQ (fun w' _ => m7 (fT t).kind w') ?_
      rw [(fT t).arity_kids]
      refine iEq (iCndP (fun h2 => ?_) (fun h2 => ?_))
      · obtain ⟨x, y, hk⟩ : ∃ x y, (fT t).kids = [x, y] := by
          have h2 : (fT t).kids.length = 2 := by omega
          match (fT t).kids, h2 with
          | [x, y], _ => exact ⟨x, y, rfl⟩
        have hgx : x.good ∧ y.good ∧ x.size ≤ 20 ∧ y.size ≤ 20 := by
          have := (fT t).size_kids
          rw [hk] at this
          simp [sizeL] at this
          exact ⟨IK hgood x (by rw [hk]; simp), IK hgood y (by rw [hk]; simp), by omega, by omega⟩
        refine iFa (iLdB hB4 (i := 0) (v := v) rfl ?_)
        refine iFa (iLdB hB4 (i := 0) (v := v) rfl ?_)
        intro w7 x7
        refine iCall ((aK (g := x) (gs := [y]) (SlK.ext hs4 x7) hk (by omega)).mono ?_)
        rintro vx w8 ⟨x8, hx⟩
        refine ⟨x8, ?_⟩
        refine iRetQ (fun w' x' => aY (SlK.ext hx x') hgx.1 (by omega)) ?_
        have x48 := x7.trans x8
        refine iRetQ (fun w' x' => aS (hv4.ext (x48.trans x')).sl) ?_
        intro w9 x9
        have x49 := x48.trans x9
        refine iCall ((aV (g := x) (h := y) (SlK.ext hs4 x49) hk (by omega)).mono ?_)
        rintro vy w10 ⟨x10, hy⟩
        refine ⟨x10, ?_⟩
        refine iRetQ (fun w' x' => aY (SlK.ext hy x') hgx.2.1 (by omega)) ?_
        have x410 := x49.trans x10
        refine iRetQ (fun w' x' => aS (hv4.ext (x410.trans x')).sl) ?_
        intro w11 x11
        have x411 := x410.trans x11
        refine (hf3 x y hk w11 (hm4.ext x411) (c03.trans ((x4.trans x411).ch (S := fun c => c = mb)) fun _ e => .inl e) va (SlK.ext hs4 x411)).mono ?_
        rintro _ w12 ⟨rfl, hm12, hc12⟩
        intro w13 x13
        exact hJ _ _ ⟨_, rfl, rfl, hm12.ext x13, (dK x411 hc12).trans (x13.ch (S := fun c => c = mb)) fun _ e => .inl e⟩
      · have hpf := hi3 (by omega)
        intro w14 x14 w15 x15 w16 x16 w17 x17
        have xx := ((x14.trans x15).trans x16).trans x17
        exact hJ _ _ ⟨false, rfl, hpf.symm, hm4.ext xx, xx.ch⟩
    · rintro _ w6 ⟨q, rfl, hq, hm6, hc6⟩
      have c36 : Ch (fun c => c = mb) w3 w6 := dK x4 hc6
      intro _
      simp only [gx]
      refine iCnd (fun hp => ?_) (fun hp => ?_)
      · refine ⟨?_, hm6, c03.trans c36 fun _ e => .inl e⟩
        have hfd : L.find? p = some t := by
          rw [List.find?_eq_some_iff_getElem]
          refine ⟨by rw [← hq]; exact hp, i, hil, by rw [← gt_eq hil]; exact hr, fun j hj => ?_⟩
          rw [← gt_eq (show j < L.length by omega), hno3 j hj]; rfl
        unfold findT
        rw [hfd]; rfl
      · refine iAdd (by omega) ?_
        refine hKn (i + 1) _ ⟨by omega, hm6, hc3.trans c36 fun _ e => .inl e, fun j hj => ?_⟩ (by omega)
        by_cases e : j = i
        · subst e; rw [hr, ← hq]; exact hp
        · exact hno3 j (by omega)
  · refine ⟨?_, hm3, c03⟩
    have hfd : L.find? p = none := by
      rw [List.find?_eq_none]
      intro t ht
      obtain ⟨j, hj, rfl⟩ := List.getElem_of_mem ht
      rw [← gt_eq hj, hno3 j (by omega)]; simp
    unfold findT
    rw [hfd]; rfl
theorem QL {L : List Str} {t : Str} {x y : Fm} {w : World} {va : Value} (hk : (fT t).kids = [x, y]) (hs : FmS w va (fT t)) : Ret Tryz.prog fF #[va, .bool (hasB L x), .bool (hasB L y)] w (.bool (fAnd L t)) := by
  have hpos := (fT t).size_pos
  apply sK; unfold jS
  refine iJnB (fAnd L t) w (fun J hJ => ?_) (fun w2 x2 => fun _ => ⟨by first | trivial | rfl, x2⟩)
  refine iFld (f := 0) (j := 0) hs rfl hpos (by decide) (aJ hs).1 ?_
  unfold fAnd at hJ
  cases e : fT t with
  | and a b =>
    rw [e] at hk hJ
    cases hk
    have hJ : ∀ w4, Ext w w4 → J [.bool (!(hasB L x && hasB L y))] w4 := hJ
    refine iEq (iCndT rfl ?_)
    refine iCnd (fun h1 => ?_) (fun h1 => ?_)
    · rw [h1] at hJ
      exact iNot (hJ _ (Ext.refl _))
    · rw [h1] at hJ
      exact hJ _ (Ext.refl _)
  | var _ => rw [e] at hk; cases hk
  | fls => rw [e] at hk; cases hk
  | box _ => rw [e] at hk; cases hk
  | dia _ => rw [e] at hk; cases hk
  | or a b => rw [e] at hJ; exact iEq (iCndF rfl (hJ _ (Ext.refl _)))
  | imp a b => rw [e] at hJ; exact iEq (iCndF rfl (hJ _ (Ext.refl _)))
theorem P0 {L : List Str} {t : Str} {x y : Fm} {w : World} {va : Value} (hk : (fT t).kids = [x, y]) (hs : FmS w va (fT t)) : Ret Tryz.prog fH #[va, .bool (hasB L x), .bool (hasB L y)] w (.bool (fOr L t)) := by
  have hpos := (fT t).size_pos
  apply tP; unfold jO
  refine iJnB (fOr L t) w (fun J hJ => ?_) (fun w2 x2 => fun _ => ⟨by first | trivial | rfl, x2⟩)
  refine iFld (f := 0) (j := 0) hs rfl hpos (by decide) (aJ hs).1 ?_
  unfold fOr at hJ
  cases e : fT t with
  | or a b =>
    rw [e] at hk hJ
    cases hk
    have hJ : ∀ w4, Ext w w4 → J [.bool (!hasB L x && !hasB L y)] w4 := hJ
    refine iEq (iCndT rfl (iNot ?_))
    refine iCnd (fun h1 => ?_) (fun h1 => ?_)
    · rw [h1, Bool.true_and] at hJ
      exact iNot (hJ _ (Ext.refl _))
    · rw [h1, Bool.false_and] at hJ
      exact hJ _ (Ext.refl _)
  | var _ => rw [e] at hk; cases hk
  | fls => rw [e] at hk; cases hk
  | box _ => rw [e] at hk; cases hk
  | dia _ => rw [e] at hk; cases hk
  | and a b => rw [e] at hJ; exact iEq (iCndF rfl (hJ _ (Ext.refl _)))
  | imp a b => rw [e] at hJ; exact iEq (iCndF rfl (hJ _ (Ext.refl _)))
theorem QR {c : Fm} (hcp : c.plain = true) (hcs : c.size ≤ 20) {db mb : Nat} {L : List Str} (hPL : PL c L) {t r : Str} (ht : t ∈ L) {x y : Fm} {w : World} {v va : Value} {e1 e2 : TypeId} {q1 q2 : Nat} (hk : (fT t).kids = [x, y]) (hs : FmS w va (fT t)) (hD : Dec w db mb) (hv : TxW 0 w v L) (h1 : Blk e1 w q1 [dp db]) (h2 : Blk e2 w q2 [v, sv r]) :
    Cal Tryz.prog dC #[va, .bool (hasB L x), .bool (hasB L y), .pointer (some ⟨q1, 0, none⟩), .pointer (some ⟨q2, 0, none⟩)] w (DQ KnQ mb w (fImp L t)) := by
  have hpos := (fT t).size_pos
  obtain ⟨hgt, hsub⟩ := hPL.left t ht
  obtain ⟨hg, hp, -⟩ := hgt.at
  have hsz := hU hsub
  apply tQ; unfold jX
  refine iJnX (fun xs w' => ∃ q, xs = [.bool q] ∧ DQ KnQ mb w (fImp L t) (.bool q) w') (fun J hJ => ?_) ?_
  · refine iFld (f := 0) (j := 0) hs rfl hpos (by decide) (aJ hs).1 ?_
    have no : fImp L t = false → ∀ w11, Ext w w11 → ∀ w12, Ext w11 w12 → ∀ w13, Ext w12 w13 → J [.bool false] w13 := fun hf w11 x11 w12 x12 w13 x13 => by
      have xx := (x11.trans x12).trans x13
      exact hJ _ _ ⟨false, rfl, by rw [hf], hD.map.ext xx, xx.ch⟩
    cases e : fT t with
    | imp a b =>
      rw [e] at hk hg hp hsub hs
      cases hk
      have hp := bG hp
      have hsb := FQ hsub
      refine iEq (iCndT rfl (iNot ?_))
      refine iCnd (fun h3 => ?_) (fun h3 => ?_)
      · refine iLdB h1 rfl ?_
        refine iFa (iLdB h2 (i := 0) (v := v) rfl ?_)
        intro w3 x3
        refine iCall ((aK (g := x) (gs := [y]) (SlK.ext hs x3) rfl (by rw [← e]; omega)).mono ?_)
        rintro vx w4 ⟨x4, hx⟩
        refine ⟨x4, ?_⟩
        intro w5 x5
        have x35 := (x3.trans x4).trans x5
        refine iCall ((fC hcp hcs hPL x hg.1 hp.1 hsb.1 (hD.ext x35) (hv.ext x35) (SlK.ext hx x5)).mono ?_)
        rintro _ w6 ⟨rfl, hm6, hc6⟩
        intro w7 x7
        refine hJ _ _ ⟨_, rfl, ?_, hm6.ext x7, (dK x35 hc6).trans (x7.ch (S := fun c => c = mb)) fun _ e => .inl e⟩
        unfold fImp
        rw [e]
        show Value.bool (dirB L x) = .bool (!hasB L y && dirB L x)
        rw [h3, Bool.true_and]
      · refine no ?_
        unfold fImp
        rw [e]
        show (!hasB L y && dirB L x) = false
        rw [h3]; rfl
    | var _ => rw [e] at hk; cases hk
    | fls => rw [e] at hk; cases hk
    | box _ => rw [e] at hk; cases hk
    | dia _ => rw [e] at hk; cases hk
    | and a b => exact iEq (iCndF rfl (no (by unfold fImp; rw [e])))
    | or a b => exact iEq (iCndF rfl (no (by unfold fImp; rw [e])))
  · rintro _ w' ⟨q, rfl, hq⟩
    intro _
    exact hq
end Go.Proofs.YtcfnoofghbmiiaaGreatDoor

namespace Go.Vc
theorem kind2 {a : Fm} (h : a.kind = 2) : ∃ x y, a = .and x y := by
  cases a <;> first | exact ⟨_, _, rfl⟩ | (simp [Fm.kind] at h)
theorem kind3 {a : Fm} (h : a.kind = 3) : ∃ x y, a = .or x y := by
  cases a <;> first | exact ⟨_, _, rfl⟩ | (simp [Fm.kind] at h)
theorem kind4 {a : Fm} (h : a.kind = 4) : ∃ x y, a = .imp x y := by
  cases a <;> first | exact ⟨_, _, rfl⟩ | (simp [Fm.kind] at h)
noncomputable def restI (L : List Str) : Fm → Nat × Str
  | .or x y => if dirB L x = true then (6, []) else if dirB L y = true then (7, []) else (8, findT (fImp L) L)
  | _ => (8, findT (fImp L) L)
theorem TC {L : List Str} {r : Str} (h1 : ¬ r ∈ L) (h2 : ¬ Fm.fls.body ∈ L) (h3 : ¬ (fT r).kind = 2) (h4 : ¬ (fT r).kind = 4) : moveI L r = if ¬ findT (fAnd L) L = [] then (3, findT (fAnd L) L) else if ¬ findT (fOr L) L = [] then (5, findT (fOr L) L) else restI L (fT r) := by
  unfold moveI
  rw [if_neg h1, if_neg h2]
  cases e : fT r with
  | and _ _ => rw [e] at h3; exact absurd rfl h3
  | imp _ _ => rw [e] at h4; exact absurd rfl h4
  | _ => rfl
theorem VV {L : List Str} {a : Fm} (h : ¬ a.kind = 3) : restI L a = (8, findT (fImp L) L) := by
  cases a with
  | or _ _ => exact absurd rfl h
  | _ => rfl
theorem WO {L : List Str} {t : Str} (h : (fT t).kids.length ≠ 2) : fAnd L t = false := by
  unfold fAnd
  cases e : fT t with
  | and _ _ => rw [e] at h; exact absurd rfl h
  | _ => rfl
theorem XO {L : List Str} {t : Str} (h : (fT t).kids.length ≠ 2) : fOr L t = false := by
  unfold fOr
  cases e : fT t with
  | or _ _ => rw [e] at h; exact absurd rfl h
  | _ => rfl
theorem W1 {L : List Str} {t : Str} (h : (fT t).kids.length ≠ 2) : fImp L t = false := by
  unfold fImp
  cases e : fT t with
  | imp _ _ => rw [e] at h; exact absurd rfl h
  | _ => rfl
end Go.Vc
namespace Go.Proofs.YtcfnoofghbmiiaaGreatDoor
open Go.Vc
def MvQ (mb : Nat) (L : List Str) (r : Str) (w : World) : Value → World → Prop := fun u w' => u = .tuple #[.int .i64 ((moveI L r).1 : Int), sv (moveI L r).2] ∧ MapB KnQ w' mb ∧ Ch (fun c => c = mb) w w'
theorem MvQ.mk {mb : Nat} {L : List Str} {r : Str} {w w' : World} {k : Nat} {t : Str} (h : moveI L r = (k, t)) (hm : MapB KnQ w' mb) (hc : Ch (fun c => c = mb) w w') : MvQ mb L r w (.tuple #[.int .i64 (k : Int), sv t]) w' := ⟨by rw [h], hm, hc⟩
theorem uL {c : Fm} (hcp : c.plain = true) (hcs : c.size ≤ 20) {db mb : Nat} {L : List Str} {r : Str} (hGI : GI c L r) {w : World} {v : Value} (hD : Dec w db mb) (hv : TxW 0 w v L) : Cal Tryz.prog lQ #[dp db, .agg #[v, sv r]] w (MvQ mb L r w) := by
  have hPL := hGI.pl
  have hsm := hPL.sm hcs
  have hr := hGI.sm hcs
  obtain ⟨hg, hp, -⟩ := hr.gt.at
  have hsz := hr.size
  have hpos := (fT r).size_pos
  apply yC; unfold lK
  refine iNew fun q1 w1 hq1 x1 hB1 => ?_
  have hB1 : Blk 71 w1 q1 [dp db] := hB1
  refine iNew2 fun q2 w2 hq2 x2 hB2 => ?_
  have hB1 := hB1.ext x2
  have X2 := x1.trans x2
  refine iFa (iLdB hB2 (i := 1) (v := sv r) rfl ?_)
  refine iCall ((cV r w2).mono ?_)
  rintro vc w3 ⟨x3, hvc, -⟩
  have hvc : FmW w2.heap.size w3 vc (fT r) := hvc hr.code
  have hsc : FmS w3 vc (fT r) := hvc.sl
  have X3 := X2.trans x3
  have hB3 := hB2.ext x3
  refine iFa (iLdB hB3 (i := 0) (v := v) rfl ?_)
  refine iFa (iLdB hB3 (i := 1) (v := sv r) rfl ?_)
  refine iRet (aS (hv.ext X3).sl) fun w4 x4 => ?_
  have X4 := X3.trans x4
  refine iCndP (fun h1 => ?_) (fun h1 => ?_)
  · exact MvQ.mk (k := 1) (by unfold moveI; rw [if_pos h1]) (hD.map.ext X4) X4.ch
  refine iFa (iLdB (hB3.ext x4) (i := 0) (v := v) rfl ?_)
  refine iRet (aS (t := Fm.fls.body) (hv.ext X4).sl) fun w5 x5 => ?_
  have X5 := X4.trans x5
  refine iCndP (fun h2 => ?_) (fun h2 => ?_)
  · exact MvQ.mk (k := 2) (by unfold moveI; rw [if_neg h1, if_pos h2]) (hD.map.ext X5) X5.ch
  have hs5 : FmS w5 vc (fT r) := SlK.ext hsc (x4.trans x5)
  refine iFld (f := 0) (j := 0) hs5 rfl hpos (by decide) (aJ hs5).1 ?_
  refine iEq (iCndP (fun h3 => ?_) (fun h3 => ?_))
  · obtain ⟨x, y, e⟩ := kind2 (show (fT r).kind = 2 by omega)
    exact MvQ.mk (k := 4) (by unfold moveI; rw [if_neg h1, if_neg h2, e]) (hD.map.ext X5) X5.ch
  refine iFld (f := 0) (j := 0) hs5 rfl hpos (by decide) (aJ hs5).1 ?_
  refine iEq (iCndP (fun h4 => ?_) (fun h4 => ?_))
  · obtain ⟨x, y, e⟩ := kind4 (show (fT r).kind = 4 by omega)
    exact MvQ.mk (k := 9) (by unfold moveI; rw [if_neg h1, if_neg h2, e]) (hD.map.ext X5) X5.ch
  have hrest := TC h1 h2 (show ¬ (fT r).kind = 2 by omega) (show ¬ (fT r).kind = 4 by omega)
  -- from here on the map may turn
  have hD5 := hD.ext X5
  have hv5 := hv.ext X5
  have hB15 := hB1.ext ((x3.trans x4).trans x5)
  have hB25 := hB3.ext (x4.trans x5)
  have st : ∀ {w' : World}, MapB KnQ w' mb → Ch (fun c => c = mb) w5 w' → Dec w' db mb ∧ TxW 0 w' v L ∧ FmS w' vc (fT r) ∧ Blk 71 w' q1 [dp db] ∧ Blk 77 w' q2 [v, sv r] ∧ Ch (fun c => c = mb) w w' := fun hm hc => ⟨hD5.tr hm hc, TxW.tr hv5 hD5.map hc, FmS.tr hs5 hD5.map hc, hB15.ch hc (hD5.map.ne_blk hB15), hB25.ch hc (hD5.map.ne_blk hB25), dK X5 hc⟩
  refine iLd2 hB25 ?_
  refine iCall ((kV (p := fAnd L) hsm (fun t _ h => WO h) hD5.map hv5 fun t ht x y hk w' hm' hc' va hs => iClo rfl ?_).mono ?_)
  · show Cal Tryz.prog fF #[va, .bool (hasB L x), .bool (hasB L y)] w' _
    refine (QL (L := L) hk hs).mono ?_
    rintro _ w9 ⟨rfl, x9⟩
    exact DQ.refl (hm'.ext x9) x9
  rintro _ w6 ⟨rfl, hm6, hc6⟩
  obtain ⟨hD6, hv6, hs6, hB16, hB26, cc6⟩ := st hm6 hc6
  refine iNeT (iCndP (fun h5 => ?_) (fun h5 => ?_))
  · exact MvQ.mk (k := 3) (by rw [hrest, if_pos h5]) hm6 cc6
  rw [if_neg h5] at hrest
  refine iLd2 hB26 ?_
  refine iCall ((kV (p := fOr L) hsm (fun t _ h => XO h) hD6.map hv6 fun t ht x y hk w' hm' hc' va hs => iClo rfl ?_).mono ?_)
  · show Cal Tryz.prog fH #[va, .bool (hasB L x), .bool (hasB L y)] w' _
    refine (P0 (L := L) hk hs).mono ?_
    rintro _ w9 ⟨rfl, x9⟩
    exact DQ.refl (hm'.ext x9) x9
  rintro _ w7 ⟨rfl, hm7, hc7⟩
  have c57 : Ch (fun c => c = mb) w5 w7 := hc6.trans hc7 fun _ e => .inl e
  obtain ⟨hD7, hv7, hs7, hB17, hB27, cc7⟩ := st hm7 c57
  refine iNeT (iCndP (fun h6 => ?_) (fun h6 => ?_))
  · exact MvQ.mk (k := 5) (by rw [hrest, if_pos h6]) hm7 cc7
  rw [if_neg h6] at hrest
  -- the last: an implication
  have last : ∀ {w' : World}, moveI L r = (8, findT (fImp L) L) → MapB KnQ w' mb → Ch (fun c => c = mb) w5 w' → xLdA w' 2 (.pointer (some ⟨q2, 0, none⟩)) fun v70 => callV Tryz.prog (.func (.func mB) #[] #[]) [v70, .func (.func dC) #[] #[.pointer (some ⟨q1, 0, none⟩), .pointer (some ⟨q2, 0, none⟩)]] w' fun v72 w28 => MvQ mb L r w (.tuple #[.int .i64 8, v72]) w28 := fun {w'} he hm hc => by
    obtain ⟨hD', hv', -, hB1', hB2', cc'⟩ := st hm hc
    refine iLd2 hB2' ?_
    refine iCall ((kV (p := fImp L) hsm (fun t _ h => W1 h) hD'.map hv' fun t ht x y hk w'' hm'' hc'' va hs => iClo rfl ?_).mono ?_)
    · show Cal Tryz.prog dC #[va, .bool (hasB L x), .bool (hasB L y), .pointer (some ⟨q1, 0, none⟩), .pointer (some ⟨q2, 0, none⟩)] w'' _
      exact QR hcp hcs hPL ht hk hs (hD'.tr hm'' hc'') (TxW.tr hv' hD'.map hc'') (hB1'.ch hc'' (hD'.map.ne_blk hB1')) (hB2'.ch hc'' (hD'.map.ne_blk hB2'))
    rintro _ w8 ⟨rfl, hm8, hc8⟩
    exact MvQ.mk (k := 8) he hm8 (cc'.trans hc8 fun _ e => .inl e)
  by_cases hor : (fT r).kind = 3
  · obtain ⟨x, y, e⟩ := kind3 hor
    rw [e] at hrest
    have hrest : moveI L r = if dirB L x = true then (6, []) else if dirB L y = true then (7, []) else (8, findT (fImp L) L) := hrest
    have hpo := by rw [e] at hp; exact gA hp
    have hgo : x.good ∧ y.good := by rw [e] at hg; exact hg
    have hsb := by have := hGI.right.2; rw [e] at this; exact KV this
    have hk : (fT r).kids = [x, y] := by rw [e]; rfl
    have ek : ((fT r).kind : Int) = 3 := by omega
    have hk7 := (aJ hs7).1
    refine iJnX (fun xs w' => xs = [.bool (dirB L x)] ∧ MapB KnQ w' mb ∧ Ch (fun c => c = mb) w5 w') (fun J hJ => ?_) ?_
    · refine iFld (f := 0) (j := 0) hs7 rfl hpos (by decide) hk7 ?_
      refine iEq (iCndT (decide_eq_true ek) ?_)
      refine iLdB hB17 rfl ?_
      refine iFa (iLdB hB27 (i := 0) (v := v) rfl ?_)
      intro w8 x8
      refine iCall ((aK (g := x) (gs := [y]) (SlK.ext hs7 x8) hk (by omega)).mono ?_)
      rintro vx w9 ⟨x9, hx⟩
      refine ⟨x9, ?_⟩
      intro w10 x10
      have x710 := (x8.trans x9).trans x10
      refine iCall ((fC hcp hcs hPL x hgo.1 hpo.1 hsb.1 (hD7.ext x710) (hv7.ext x710) (SlK.ext hx x10)).mono ?_)
      rintro _ w11 ⟨rfl, hm11, hc11⟩
      intro w12 x12
      exact hJ _ _ ⟨rfl, hm11.ext x12, c57.trans ((dK x710 hc11).trans (x12.ch (S := fun c => c = mb)) fun _ e => .inl e) fun _ e => .inl e⟩
    rintro _ w9 ⟨rfl, hm9, hc9⟩
    intro _
    simp only [gx]
    obtain ⟨hD9, hv9, hs9, hB19, hB29, cc9⟩ := st hm9 hc9
    refine iCnd (fun h7 => ?_) (fun h7 => ?_)
    · exact MvQ.mk (k := 6) (by rw [hrest]; rw [if_pos h7]) hm9 cc9
    have h7 : ¬ dirB L x = true := by rw [h7]; simp
    have hk9 := (aJ hs9).1
    refine iJnX (fun xs w' => xs = [.bool (dirB L y)] ∧ MapB KnQ w' mb ∧ Ch (fun c => c = mb) w5 w') (fun J hJ => ?_) ?_
    · refine iFld (f := 0) (j := 0) hs9 rfl hpos (by decide) hk9 ?_
      refine iEq (iCndT (decide_eq_true ek) ?_)
      refine iLdB hB19 rfl ?_
      refine iFa (iLdB hB29 (i := 0) (v := v) rfl ?_)
      intro w10 x10
      refine iCall ((aV (g := x) (h := y) (SlK.ext hs9 x10) hk (by omega)).mono ?_)
      rintro vy w11 ⟨x11, hy⟩
      refine ⟨x11, ?_⟩
      intro w12 x12
      have x912 := (x10.trans x11).trans x12
      refine iCall ((fC hcp hcs hPL y hgo.2 hpo.2 hsb.2 (hD9.ext x912) (hv9.ext x912) (SlK.ext hy x12)).mono ?_)
      rintro _ w13 ⟨rfl, hm13, hc13⟩
      intro w14 x14
      exact hJ _ _ ⟨rfl, hm13.ext x14, hc9.trans ((dK x912 hc13).trans (x14.ch (S := fun c => c = mb)) fun _ e => .inl e) fun _ e => .inl e⟩
    rintro _ w19 ⟨rfl, hm19, hc19⟩
    intro _
    simp only [gx]
    obtain ⟨-, -, -, -, -, cc19⟩ := st hm19 hc19
    refine iCnd (fun h8 => ?_) (fun h8 => ?_)
    · exact MvQ.mk (k := 7) (by rw [hrest]; rw [if_neg h7, if_pos h8]) hm19 cc19
    have h8 : ¬ dirB L y = true := by rw [h8]; simp
    exact last (by rw [hrest]; rw [if_neg h7, if_neg h8]) hm19 hc19
  · rw [VV hor] at hrest
    have ek : ¬ ((fT r).kind : Int) = 3 := by omega
    refine iJnX (fun xs w' => xs = [.bool false] ∧ Ext w7 w') (fun J hJ => ?_) ?_
    · refine iFld (f := 0) (j := 0) hs7 rfl hpos (by decide) (aJ hs7).1 ?_
      refine iEq (iCndF (decide_eq_false ek) ?_)
      intro w8 x8 w9 x9 w10 x10
      exact hJ _ _ ⟨rfl, (x8.trans x9).trans x10⟩
    rintro _ w9 ⟨rfl, x9⟩
    intro _
    simp only [gx]
    refine iCndF rfl ?_
    have hs9 := SlK.ext hs7 x9
    refine iJnX (fun xs w' => xs = [.bool false] ∧ Ext w7 w') (fun J hJ => ?_) ?_
    · refine iFld (f := 0) (j := 0) hs9 rfl hpos (by decide) (aJ hs7).1 ?_
      refine iEq (iCndF (decide_eq_false ek) ?_)
      intro w10 x10 w11 x11 w12 x12
      exact hJ _ _ ⟨rfl, ((x9.trans x10).trans x11).trans x12⟩
    rintro _ w19 ⟨rfl, x19⟩
    intro _
    simp only [gx]
    refine iCndF rfl ?_
    exact last hrest (hm7.ext x19) (c57.trans (x19.ch (S := fun c => c = mb)) fun _ e => .inl e)
end Go.Proofs.YtcfnoofghbmiiaaGreatDoor

namespace Go.Vc
theorem UG {a : Fm} (h : (a.kind : Int) = 2) : ∃ x y, a = .and x y := by
  cases a <;> first | exact ⟨_, _, rfl⟩ | (simp [Fm.kind] at h)
theorem QG {a : Fm} (h : (a.kind : Int) = 3) : ∃ x y, a = .or x y := by
  cases a <;> first | exact ⟨_, _, rfl⟩ | (simp [Fm.kind] at h)
theorem UM {a : Fm} (h : (a.kind : Int) = 4) : ∃ x y, a = .imp x y := by
  cases a <;> first | exact ⟨_, _, rfl⟩ | (simp [Fm.kind] at h)
theorem both {p q : Prop} [Decidable p] [Decidable q] (h : (decide p && decide q) = true) : p ∧ q := by
  rw [Bool.and_eq_true, decide_eq_true_eq, decide_eq_true_eq] at h; exact h
theorem nboth {p q : Prop} [Decidable p] [Decidable q] (h : (decide p && decide q) = false) : ¬ (p ∧ q) := fun ⟨a, b⟩ => by
  rw [decide_eq_true a, decide_eq_true b] at h; cases h
theorem VY {L : List Str} {r : Str} {rule : Nat} {a : Fm} (h2 : ¬ ((rule : Int) = 3 ∧ (a.kind : Int) = 2)) (h3 : ¬ ((rule : Int) = 5 ∧ (a.kind : Int) = 3)) (h4 : ¬ ((rule : Int) = 8 ∧ (a.kind : Int) = 4)) : leftG L r rule a = ([], false) := by
  cases a with
  | and x y => exact if_neg fun e => h2 ⟨by omega, rfl⟩
  | or x y => exact if_neg fun e => h3 ⟨by omega, rfl⟩
  | imp x y => exact if_neg fun e => h4 ⟨by omega, rfl⟩
  | _ => rfl
theorem TW {L : List Str} {rule : Nat} {a : Fm} (h2 : ¬ ((rule : Int) = 4 ∧ (a.kind : Int) = 2)) (h3 : ¬ ((rule : Int) = 6 ∧ (a.kind : Int) = 3)) (h5 : ¬ ((rule : Int) = 7 ∧ (a.kind : Int) = 3)) (h4 : ¬ ((rule : Int) = 9 ∧ (a.kind : Int) = 4)) : dV L rule a = ([], false) := by
  cases a with
  | and x y => exact if_neg fun e => h2 ⟨by omega, rfl⟩
  | or x y => exact (if_neg fun e => h3 ⟨by omega, rfl⟩).trans (if_neg fun e => h5 ⟨by omega, rfl⟩)
  | imp x y => exact if_neg fun e => h4 ⟨by omega, rfl⟩
  | _ => rfl
def iL (R : List (Value × Sq)) : List Value := R.flatMap fun x => [x.1, sv x.2.2]
theorem S0 (A B : List (Value × Sq)) : iL (A ++ B) = iL A ++ iL B := by simp [iL]
theorem j8 : ∀ {R : List (Value × Sq)} {j : Nat}, j < R.length → (iL R)[j * 2 + 0]? = some (gt R j).1 ∧ (iL R)[j * 2 + 1]? = some (sv (gt R j).2.2)
  | [], j, h => absurd h (Nat.not_lt_zero j)
  | x :: R, 0, _ => ⟨rfl, rfl⟩
  | x :: R, j + 1, h => by
    have := j8 (R := R) (j := j) (by simpa using h)
    rw [show iL (x :: R) = [x.1, sv x.2.2] ++ iL R by simp [iL], show (j + 1) * 2 + 0 = j * 2 + 0 + 2 by omega, show (j + 1) * 2 + 1 = j * 2 + 1 + 2 by omega, List.getElem?_append_right (by simp), List.getElem?_append_right (by simp)]
    exact this
end Go.Vc
namespace Go.Proofs.YtcfnoofghbmiiaaGreatDoor
open Go.Vc
def GsW (w : World) (v : Value) (G : List Sq) : Prop := ∃ R : List (Value × Sq), R.map Prod.snd = G ∧ OwK 2 0 cI w v R.length (iL R) ∧ ∀ x ∈ R, TxW 0 w x.1 x.2.1
theorem GsW.ext {w w' : World} {v : Value} {G : List Sq} (h : GsW w v G) (x : Ext w w') : GsW w' v G := by
  obtain ⟨R, h1, h2, h3⟩ := h
  exact ⟨R, h1, OwK.ext h2 x, fun y hy => (h3 y hy).ext x⟩
theorem GsW.nil (w : World) : GsW w (.slice none 0 0) [] := ⟨[], rfl, OwK.nil 2 0 _ w, fun x hx => by cases hx⟩
theorem GsW.one {w : World} {b : Nat} {v : Value} {L : List Str} {r : Str} (hB : Blk cI w b [v, sv r]) (hv : TxW 0 w v L) : GsW w (.slice (some ⟨b, 0, none⟩) 1 1) [(L, r)] :=
  ⟨[(v, (L, r))], rfl, OwK.ofBlk (n := 1) hB (Nat.zero_le _) rfl (by decide), fun x hx => by rw [List.mem_singleton.1 hx]; exact hv⟩
theorem GsW.two {w : World} {b : Nat} {v v' : Value} {L L' : List Str} {r r' : Str} (hB : Blk cI w b [v, sv r, v', sv r']) (hv : TxW 0 w v L) (hv' : TxW 0 w v' L') : GsW w (.slice (some ⟨b, 0, none⟩) 2 2) [(L, r), (L', r')] :=
  ⟨[(v, (L, r)), (v', (L', r'))], rfl, OwK.ofBlk (n := 2) hB (Nat.zero_le _) rfl (by decide), fun x hx => by
    rcases List.mem_cons.1 hx with rfl | hx
    · exact hv
    · rw [List.mem_singleton.1 hx]; exact hv'⟩
theorem iRule {w : World} {va : Value} {a : Fm} {rule : Nat} (ha : FmS w va a) (k q : Int) {J : List Value → World → Prop} (h : J [.bool (decide ((rule : Int) = k) && decide ((a.kind : Int) = q))] w) :
    xEq .i64 (.int .i64 (rule : Int)) (.int .i64 k) fun v13 => cnd v13 (xIa 2 va (.int .i64 0) fun v16 => xFa 0 v16 fun v17 => xLd w v17 fun v18 => xEq .i64 v18 (.int .i64 q) fun v19 => J [v19] w) (J [.bool false] w) := by
  refine iEq (iCndP (fun h1 => ?_) (fun h1 => ?_))
  · refine iFld (f := 0) (j := 0) ha rfl a.size_pos (by decide) (aJ ha).1 (iEq ?_)
    rw [decide_eq_true h1, Bool.true_and] at h; exact h
  · rw [decide_eq_false h1, Bool.false_and] at h; exact h
def GlQ (w : World) (g : List Sq × Bool) : Value → World → Prop := fun u w' => Ext w w' ∧ ∃ x, u = .tuple #[x, .bool g.2] ∧ GsW w' x g.1
theorem GlQ.one {w w' : World} {g : List Sq × Bool} {b : Nat} {u : Value} {L : List Str} {r : Str} (e : g = ([(L, r)], true)) (x : Ext w w') (hB : Blk cI w' b [u, sv r]) (hu : TxW 0 w' u L) : GlQ w g (.tuple #[.slice (some ⟨b, 0, none⟩) 1 1, .bool true]) w' := ⟨x, _, by rw [e], by rw [e]; exact GsW.one hB hu⟩
theorem GlQ.two {w w' : World} {g : List Sq × Bool} {b : Nat} {u u' : Value} {L L' : List Str} {r r' : Str} (e : g = ([(L, r), (L', r')], true)) (x : Ext w w') (hB : Blk cI w' b [u, sv r, u', sv r']) (hu : TxW 0 w' u L) (hu' : TxW 0 w' u' L') : GlQ w g (.tuple #[.slice (some ⟨b, 0, none⟩) 2 2, .bool true]) w' := ⟨x, _, by rw [e], by rw [e]; exact GsW.two hB hu hu'⟩
theorem GlQ.no {w w' : World} {g : List Sq × Bool} (e : g = ([], false)) (x : Ext w w') : GlQ w g (.tuple #[.slice none 0 0, .bool false]) w' := ⟨x, _, by rw [e], by rw [e]; exact GsW.nil _⟩
theorem xX {v va : Value} {L : List Str} {r : Str} {a : Fm} {rule : Nat} {w : World} (hv : TxW 0 w v L) (ha : FmS w va a) (hg : a.good) (hn : a.size ≤ 1000) (hl : L.length ≤ 1000000000) :
    Cal Tryz.prog mL #[.agg #[v, sv r], .int .i64 (rule : Int), va] w (GlQ w (leftG L r rule a)) := by
  apply zX; unfold mR
  refine iNew2 fun q w1 hq x1 hB1 => ?_
  refine iCall ((eX (SlK.ext ha x1) hg (by omega)).mono ?_)
  rintro p w2 ⟨x2, hp0⟩
  have X2 := x1.trans x2
  have hp : TxW 0 w2 p (a.kids.map Fm.body) := hp0.mono (Nat.zero_le _)
  have hB2 := hB1.ext x2
  have hv2 := hv.ext X2
  have ha2 : FmS w2 va a := SlK.ext ha X2
  refine iJnB (decide ((rule : Int) = 3) && decide ((a.kind : Int) = 2)) w2 (fun J hJ => iRule ha2 3 2 (hJ _ (Ext.refl _))) fun w4 x4 => ?_
  intro _
  simp only [gx]
  have X4 := X2.trans x4
  have wi : ∀ {w' : World} {lo : Nat} {vt : Value} {ts : List Str} {K : Value → World → Prop}, Ext w2 w' → TxW lo w' vt ts → ts.length ≤ 2 → (∀ u w'', Ext w' w'' → TxW 0 w'' u (setT (L ++ ts)) → K (.agg #[u, sv r]) w'') → callV Tryz.prog (.func (.func mC) #[] #[]) [.agg #[v, sv r], vt] w' K := fun {w' _ vt ts K} x ht h2 h => by
    refine iCall ((kU (L := L) (hv2.ext x) ht (by omega)).mono ?_)
    rintro _ w'' ⟨x', u, rfl, hu⟩
    exact h u w'' x' (hu.mono (Nat.zero_le _))
  refine iCnd (fun h => ?_) (fun h => ?_)
  · obtain ⟨hr, hk⟩ := both h
    obtain ⟨x, y, rfl⟩ := UG hk
    refine iLd2 (hB2.ext x4) ?_
    refine wi x4 (hp.ext x4) (by simp [Fm.kids]) fun u w5 x5 hu => ?_
    refine iBsA fun b w6 _ x6 hB6 => ?_
    exact GlQ.one (if_pos (by omega)) ((X4.trans x5).trans x6) hB6 (hu.ext x6)
  have h3 := nboth h
  refine iJnB (decide ((rule : Int) = 5) && decide ((a.kind : Int) = 3)) w4 (fun J hJ => iRule (SlK.ext ha2 x4) 5 3 (hJ _ (Ext.refl _))) fun w8 x8 => ?_
  intro _
  simp only [gx]
  have x28 := x4.trans x8
  have X8 := X4.trans x8
  -- the parts
  have k0 : ∀ {w' : World} {x y : Fm} {K : Value → Prop}, a.kids = [x, y] → Ext w2 w' → K (sv x.body) → xIa 1 p (.int .i64 0) fun q => xLd w' q K := fun {w' x y K} e x' h => iIaG (L := a.kids.map Fm.body) (j := 0) (hp.ext x').sl rfl (by rw [e]; simp) (by rw [e]; exact h)
  have k1 : ∀ {w' : World} {x y : Fm} {K : Value → Prop}, a.kids = [x, y] → Ext w2 w' → K (sv y.body) → xIa 1 p (.int .i64 1) fun q => xLd w' q K := fun {w' x y K} e x' h => iIaG (L := a.kids.map Fm.body) (j := 1) (hp.ext x').sl rfl (by rw [e]; simp) (by rw [e]; exact h)
  refine iCnd (fun h => ?_) (fun h => ?_)
  · obtain ⟨hr, hk⟩ := both h
    obtain ⟨x, y, e⟩ := QG hk
    have ek : a.kids = [x, y] := by rw [e]; rfl
    have eg : leftG L r rule a = ([(addT L x.body, r), (addT L y.body, r)], true) := by rw [e]; exact if_pos (by omega)
    refine iLd2 (hB2.ext x28) (k0 ek x28 (iLd2 (hB2.ext x28) (k1 ek x28 ?_)))
    have fin : ∀ {w' w9 : World} {u u' : Value}, Ext w8 w' → TxW 0 w' u (addT L x.body) → TxW 0 w' u' (addT L y.body) → Ext w' w9 → xBs cI (Value.cells (.agg #[.slice none 0 0, .string ⟨#[]⟩])) 2 2 [(0, .agg #[u, sv r]), (1, .agg #[u', sv r])] w9 fun v47 w18 => ∀ w19, Ext w18 w19 → GlQ w (leftG L r rule a) (.tuple #[v47, .bool true]) w19 := fun {w' w9 u u'} x' hu hu' x9 => by
      refine iBsA2 fun b w18 _ x18 hB18 w19 x19 => ?_
      have xx := (x9.trans x18).trans x19
      exact GlQ.two eg ((X8.trans x').trans xx) (hB18.ext x19) (hu.ext xx) (hu'.ext xx)
    intro w9 x9
    have one : ∀ {w' : World} {b : Nat} {t : Str}, Blk aA w' b [sv t] → TxW 0 w' (.slice (some ⟨b, 0, none⟩) 1 1) [t] := fun hB => Ow.ofBlk (n := 1) hB (Nat.zero_le _) rfl (by decide)
    refine ⟨?_, ?_⟩
    · refine iBs1 rfl rfl fun b w10 _ x10 hB => ⟨x10, fun w11 x11 => ⟨?_, ?_⟩⟩
      · have X11 := (x9.trans x10).trans x11
        refine wi (x28.trans X11) (one (hB.ext x11)) (by simp) fun u w12 x12 hu => ⟨x12, fun w13 x13 => ?_⟩
        refine iBs1 rfl rfl fun b' w14 _ x14 hB' => ⟨x14, fun w15 x15 => ?_⟩
        have X15 := ((x12.trans x13).trans x14).trans x15
        refine wi (x28.trans (X11.trans X15)) (one (hB'.ext x15)) (by simp) fun u' w16 x16 hu' w17 x17 => ?_
        exact fin ((X11.trans X15).trans x16) (hu.ext (((x13.trans x14).trans x15).trans x16)) hu' x17
      · have X11 := (x9.trans x10).trans x11
        refine iBs1 rfl rfl fun b' w14 _ x14 hB' => ⟨x14, fun w15 x15 => ?_⟩
        have x1115 := x14.trans x15
        refine wi (x28.trans (X11.trans x1115)) (one (hB.ext (x11.trans x1115))) (by simp) fun u w16 x16 hu => ⟨x16, fun w17 x17 => ?_⟩
        have x1517 := x16.trans x17
        refine wi (x28.trans (X11.trans (x1115.trans x1517))) (one (hB'.ext (x15.trans x1517))) (by simp) fun u' w18 x18 hu' w19 x19 => ?_
        exact fin (X11.trans ((x1115.trans x1517).trans x18)) (hu.ext (x17.trans x18)) hu' x19
    · refine iBs1 rfl rfl fun b' w10 _ x10 hB' => ⟨x10, fun w11 x11 => ?_⟩
      refine iBs1 rfl rfl fun b w12 _ x12 hB => ⟨x12, fun w13 x13 => ?_⟩
      have x1113 := x12.trans x13
      have X13 := ((x9.trans x10).trans x11).trans x1113
      refine wi (x28.trans X13) (one (hB.ext x13)) (by simp) fun u w14 x14 hu => ⟨x14, fun w15 x15 => ?_⟩
      have x1315 := x14.trans x15
      refine wi (x28.trans (X13.trans x1315)) (one (hB'.ext (x11.trans (x1113.trans x1315)))) (by simp) fun u' w16 x16 hu' w17 x17 => ?_
      exact fin ((X13.trans x1315).trans x16) (hu.ext (x15.trans x16)) hu' x17
  have h5 := nboth h
  refine iJnB (decide ((rule : Int) = 8) && decide ((a.kind : Int) = 4)) w8 (fun J hJ => iRule (SlK.ext ha2 x28) 8 4 (hJ _ (Ext.refl _))) fun w39 x39 => ?_
  intro _
  simp only [gx]
  have x239 := x28.trans x39
  have X39 := X8.trans x39
  refine iCnd (fun h => ?_) (fun h => ?_)
  · obtain ⟨hr, hk⟩ := both h
    obtain ⟨x, y, e⟩ := UM hk
    have ek : a.kids = [x, y] := by rw [e]; rfl
    have eg : leftG L r rule a = ([(L, x.body), (addT L y.body, r)], true) := by rw [e]; exact if_pos (by omega)
    refine iLd2 (hB2.ext x239) (k0 ek x239 (iLd2 (hB2.ext x239) (k1 ek x239 ?_)))
    have fin : ∀ {w' w9 : World} {u' : Value}, Ext w39 w' → TxW 0 w' u' (addT L y.body) → Ext w' w9 → xBs cI (Value.cells (.agg #[.slice none 0 0, .string ⟨#[]⟩])) 2 2 [(0, .agg #[v, sv x.body]), (1, .agg #[u', sv r])] w9 fun v47 w18 => ∀ w19, Ext w18 w19 → GlQ w (leftG L r rule a) (.tuple #[v47, .bool true]) w19 := fun {w' w9 u'} x' hu' x9 => by
      refine iBsA2 fun b w18 _ x18 hB18 w19 x19 => ?_
      have xx := (x9.trans x18).trans x19
      exact GlQ.two eg ((X39.trans x').trans xx) (hB18.ext x19) (hv.ext ((X39.trans x').trans xx)) (hu'.ext xx)
    intro w40 x40
    have one : ∀ {w' : World} {b : Nat} {t : Str}, Blk aA w' b [sv t] → TxW 0 w' (.slice (some ⟨b, 0, none⟩) 1 1) [t] := fun hB => Ow.ofBlk (n := 1) hB (Nat.zero_le _) rfl (by decide)
    refine ⟨?_, ?_⟩
    · refine iRet (aT hv.cell) fun w41 x41 => ⟨x41, fun w42 x42 => ?_⟩
      refine iBs1 rfl rfl fun b w43 _ x43 hB => ⟨x43, fun w44 x44 => ?_⟩
      have XX := (((x40.trans x41).trans x42).trans x43).trans x44
      refine wi (x239.trans XX) (one (hB.ext x44)) (by simp) fun u w45 x45 hu w46 x46 => ?_
      exact fin (XX.trans x45) hu x46
    · refine iBs1 rfl rfl fun b w43 _ x43 hB => ⟨x43, fun w44 x44 => ?_⟩
      refine iRet (aT hv.cell) fun w41 x41 => ⟨x41, fun w42 x42 => ?_⟩
      have XX := (((x40.trans x43).trans x44).trans x41).trans x42
      refine wi (x239.trans XX) (one (hB.ext ((x44.trans x41).trans x42))) (by simp) fun u w45 x45 hu w46 x46 => ?_
      exact fin (XX.trans x45) hu x46
  · exact GlQ.no (VY h3 h5 (nboth h)) X39
theorem uN {v : Value} {L : List Str} {r : Str} {rule : Nat} {w : World} (hv : TxW 0 w v L) (hr : SmT r) (hl : L.length ≤ 1000000000) :
    Cal Tryz.prog k7 #[.agg #[v, sv r], .int .i64 (rule : Int)] w (GlQ w (dV L rule (fT r))) := by
  obtain ⟨hg, hpl, -⟩ := hr.gt.at
  have hn := hr.size
  apply yE; unfold lJ
  refine iNew2 fun q w1 hq x1 hB1 => ?_
  refine iFa (iLdB hB1 (i := 1) (v := sv r) rfl ?_)
  refine iCall ((cV r w1).mono ?_)
  rintro va w2 ⟨x2, hva, -⟩
  have hva : FmW w1.heap.size w2 va (fT r) := hva hr.code
  have ha2 : FmS w2 va (fT r) := hva.sl
  generalize fT r = a at *
  refine iCall ((eX ha2 hg (by omega)).mono ?_)
  rintro p w3 ⟨x3, hp0⟩
  have hp : TxW 0 w3 p (a.kids.map Fm.body) := hp0.mono (Nat.zero_le _)
  have X3 := (x1.trans x2).trans x3
  have hB3 := hB1.ext (x2.trans x3)
  have hv3 := hv.ext X3
  have ha3 : FmS w3 va a := SlK.ext ha2 x3
  have k0 : ∀ {w' : World} {x y : Fm} {K : Value → Prop}, a.kids = [x, y] → Ext w3 w' → K (sv x.body) → xIa 1 p (.int .i64 0) fun q => xLd w' q K := fun {w' x y K} e x' h => iIaG (L := a.kids.map Fm.body) (j := 0) (hp.ext x').sl rfl (by rw [e]; simp) (by rw [e]; exact h)
  have k1 : ∀ {w' : World} {x y : Fm} {K : Value → Prop}, a.kids = [x, y] → Ext w3 w' → K (sv y.body) → xIa 1 p (.int .i64 1) fun q => xLd w' q K := fun {w' x y K} e x' h => iIaG (L := a.kids.map Fm.body) (j := 1) (hp.ext x').sl rfl (by rw [e]; simp) (by rw [e]; exact h)
  refine iJnB (decide ((rule : Int) = 4) && decide ((a.kind : Int) = 2)) w3 (fun J hJ => iRule ha3 4 2 (hJ _ (Ext.refl _))) fun w5 x5 => ?_
  intro _
  simp only [gx]
  have X5 := X3.trans x5
  refine iCnd (fun h => ?_) (fun h => ?_)
  · obtain ⟨hr, hk⟩ := both h
    obtain ⟨x, y, e⟩ := UG hk
    have ek : a.kids = [x, y] := by rw [e]; rfl
    have eg : dV L rule a = ([(L, x.body), (L, y.body)], true) := by rw [e]; exact if_pos (by omega)
    refine iLd2 (hB3.ext x5) (k0 ek x5 (iLd2 (hB3.ext x5) (k1 ek x5 ?_)))
    intro w6 x6
    refine iRet (aT hv.cell) fun w7 x7 => ⟨x7, fun w8 x8 => ?_⟩
    refine iRet (aT hv.cell) fun w9 x9 => fun w10 x10 => ?_
    refine iBsA2 fun b w11 _ x11 hB11 w12 x12 => ?_
    have XX := (((((X5.trans x6).trans x7).trans x8).trans x9).trans x10).trans (x11.trans x12)
    exact GlQ.two eg XX (hB11.ext x12) (hv.ext XX) (hv.ext XX)
  have h2 := nboth h
  refine iJnB (decide ((rule : Int) = 6) && decide ((a.kind : Int) = 3)) w5 (fun J hJ => iRule (SlK.ext ha3 x5) 6 3 (hJ _ (Ext.refl _))) fun w14 x14 => ?_
  intro _
  simp only [gx]
  have x314 := x5.trans x14
  have X14 := X5.trans x14
  refine iCnd (fun h => ?_) (fun h => ?_)
  · obtain ⟨hr, hk⟩ := both h
    obtain ⟨x, y, e⟩ := QG hk
    have ek : a.kids = [x, y] := by rw [e]; rfl
    have eg : dV L rule a = ([(L, x.body)], true) := by rw [e]; exact if_pos (by omega)
    refine iLd2 (hB3.ext x314) (k0 ek x314 ?_)
    intro w15 x15
    refine iRet (aT hv.cell) fun w16 x16 => fun w17 x17 => ?_
    refine iBsA fun b w18 _ x18 hB18 w19 x19 => ?_
    have XX := ((X14.trans x15).trans (x16.trans x17)).trans (x18.trans x19)
    exact GlQ.one eg XX (hB18.ext x19) (hv.ext XX)
  have h3 := nboth h
  refine iJnB (decide ((rule : Int) = 7) && decide ((a.kind : Int) = 3)) w14 (fun J hJ => iRule (SlK.ext ha3 x314) 7 3 (hJ _ (Ext.refl _))) fun w21 x21 => ?_
  intro _
  simp only [gx]
  have x321 := x314.trans x21
  have X21 := X14.trans x21
  refine iCnd (fun h => ?_) (fun h => ?_)
  · obtain ⟨hr, hk⟩ := both h
    obtain ⟨x, y, e⟩ := QG hk
    have ek : a.kids = [x, y] := by rw [e]; rfl
    have eg : dV L rule a = ([(L, y.body)], true) := by rw [e]; exact (if_neg (by omega)).trans (if_pos (by omega))
    refine iLd2 (hB3.ext x321) (k1 ek x321 ?_)
    intro w15 x15
    refine iRet (aT hv.cell) fun w16 x16 => fun w17 x17 => ?_
    refine iBsA fun b w18 _ x18 hB18 w19 x19 => ?_
    have XX := ((X21.trans x15).trans (x16.trans x17)).trans (x18.trans x19)
    exact GlQ.one eg XX (hB18.ext x19) (hv.ext XX)
  have h5 := nboth h
  refine iJnB (decide ((rule : Int) = 9) && decide ((a.kind : Int) = 4)) w21 (fun J hJ => iRule (SlK.ext ha3 x321) 9 4 (hJ _ (Ext.refl _))) fun w28 x28 => ?_
  intro _
  simp only [gx]
  have x328 := x321.trans x28
  have X28 := X21.trans x28
  refine iCnd (fun h => ?_) (fun h => ?_)
  · obtain ⟨hr, hk⟩ := both h
    obtain ⟨x, y, e⟩ := UM hk
    have ek : a.kids = [x, y] := by rw [e]; rfl
    have eg : dV L rule a = ([(addT L x.body, y.body)], true) := by rw [e]; exact if_pos (by omega)
    refine iLd2 (hB3.ext x328) (k0 ek x328 (k1 ek x328 ?_))
    intro w29 x29
    refine iBs1 rfl rfl fun b w30 _ x30 hB => ⟨x30, fun w31 x31 => ?_⟩
    have X31 := X28.trans (x29.trans (x30.trans x31))
    refine iCall ((kU (L := L) (ts := [x.body]) (lo' := 0) (hv.ext X31) (Ow.ofBlk (n := 1) (hB.ext x31) (Nat.zero_le _) rfl (by decide)) (by simp; omega)).mono ?_)
    rintro _ w32 ⟨x32, u, rfl, hu⟩
    refine ⟨x32, fun w33 x33 => ?_⟩
    refine iRet (aT hu.cell) fun w34 x34 => fun w35 x35 => ?_
    refine iBsA fun b w36 _ x36 hB36 w37 x37 => ?_
    have XX := (x33.trans (x34.trans x35)).trans (x36.trans x37)
    exact GlQ.one eg ((X31.trans x32).trans XX) (hB36.ext x37) ((hu.ext XX).mono (Nat.zero_le _))
  · exact GlQ.no (TW h2 h3 h5 (nboth h)) X28
theorem qJ {v : Value} {L : List Str} {r main : Str} {rule : Nat} {w : World} (hv : TxW 0 w v L) (hL : ∀ t ∈ L, SmT t) (hr : SmT r) (hl : L.length ≤ 1000000000) (hrule : rule ≤ 9) :
    Cal Tryz.prog rS #[.agg #[v, sv r], .int .i64 (rule : Int), sv main] w (GlQ w (aQ L r rule main)) := by
  apply GA; unfold rO
  refine iNew2 fun q w1 hq x1 hB1 => ?_
  have hv1 := hv.ext x1
  refine iEq (iCndP (fun h1 => ?_) (fun h1 => ?_))
  · have eg : aQ L r rule main = ([], decide (main = []) && decide (r ∈ L)) := if_pos (by omega)
    rw [eg]
    refine iJnX (fun xs w' => xs = [.slice none 0 0, .bool (decide (main = []) && decide (r ∈ L))] ∧ Ext w1 w') (fun J hJ => ?_) ?_
    · refine iEqT (b := []) (iCndP (fun h => ?_) (fun h => ?_))
      · rw [decide_eq_true h, Bool.true_and] at hJ
        refine iFa (iLdB hB1 (i := 0) (v := v) rfl ?_)
        refine iFa (iLdB hB1 (i := 1) (v := sv r) rfl ?_)
        exact iRet (aS hv1.sl) fun w3 x3 => hJ _ _ ⟨rfl, x3⟩
      · rw [decide_eq_false h, Bool.false_and] at hJ
        exact hJ _ _ ⟨rfl, Ext.refl _⟩
    rintro _ w3 ⟨rfl, x3⟩
    intro _
    exact ⟨x1.trans x3, _, rfl, GsW.nil _⟩
  refine iEq (iCndP (fun h2 => ?_) (fun h2 => ?_))
  · have eg : aQ L r rule main = ([], decide (main = []) && decide (Fm.fls.body ∈ L)) := (if_neg (by omega)).trans (if_pos (by omega))
    rw [eg]
    refine iJnX (fun xs w' => xs = [.slice none 0 0, .bool (decide (main = []) && decide (Fm.fls.body ∈ L))] ∧ Ext w1 w') (fun J hJ => ?_) ?_
    · refine iEqT (b := []) (iCndP (fun h => ?_) (fun h => ?_))
      · rw [decide_eq_true h, Bool.true_and] at hJ
        refine iFa (iLdB hB1 (i := 0) (v := v) rfl ?_)
        exact iRet (aS (t := Fm.fls.body) hv1.sl) fun w3 x3 => hJ _ _ ⟨rfl, x3⟩
      · rw [decide_eq_false h, Bool.false_and] at hJ
        exact hJ _ _ ⟨rfl, Ext.refl _⟩
    rintro _ w3 ⟨rfl, x3⟩
    intro _
    exact ⟨x1.trans x3, _, rfl, GsW.nil _⟩
  refine iEq ?_
  refine iJnB (decide (rule = 3 ∨ rule = 5 ∨ rule = 8)) w1 (fun J hJ => ?_) fun w9 x9 => ?_
  · refine iCndP (fun h => ?_) (fun h => ?_)
    · rw [decide_eq_true (show rule = 3 ∨ rule = 5 ∨ rule = 8 by omega)] at hJ
      exact hJ _ (Ext.refl _)
    refine iEq (iJnB (decide (rule = 3 ∨ rule = 5 ∨ rule = 8)) w1 (fun J' hJ' => ?_) fun w11 x11 => fun _ => hJ _ x11)
    refine iCndP (fun h' => ?_) (fun h' => iEq ?_)
    · rw [decide_eq_true (show rule = 3 ∨ rule = 5 ∨ rule = 8 by omega)] at hJ'
      exact hJ' _ (Ext.refl _)
    · have e : decide ((rule : Int) = 8) = decide (rule = 3 ∨ rule = 5 ∨ rule = 8) := decide_eq_decide.2 (by omega)
      rw [e]; exact hJ' _ (Ext.refl _)
  intro _
  simp only [gx]
  have X9 := x1.trans x9
  have hB9 := hB1.ext x9
  refine iCndP (fun h3 => ?_) (fun h3 => ?_)
  · have eg : aQ L r rule main = if main ∈ L then leftG L r rule (fT main) else ([], false) := ((if_neg (by omega)).trans (if_neg (by omega))).trans (if_pos h3)
    refine iFa (iLdB hB9 (i := 0) (v := v) rfl ?_)
    refine iRet (aS (hv.ext X9).sl) fun w12 x12 => ?_
    have X12 := X9.trans x12
    refine iNot (iCnd (fun h => ?_) (fun h => ?_))
    · have h : ¬ main ∈ L := by simpa using h
      rw [if_neg h] at eg
      exact GlQ.no eg X12
    have h : main ∈ L := by simpa using h
    rw [if_pos h] at eg
    have hm := hL main h
    have hms := hm.size
    rw [eg]
    refine iLd2 (hB9.ext x12) ?_
    intro w13 x13
    refine iCall ((cV main w13).mono ?_)
    rintro va w14 ⟨x14, hva, -⟩
    have hva : FmW w13.heap.size w14 va (fT main) := hva hm.code
    refine ⟨x14, fun w15 x15 => ?_⟩
    have X15 := X12.trans (x13.trans (x14.trans x15))
    refine iCall ((xX (rule := rule) (r := r) (hv.ext X15) (SlK.ext hva.sl x15) hm.gt.at.1 (by omega) hl).mono ?_)
    rintro _ w16 ⟨x16, u, rfl, hu⟩
    refine iEx rfl (iEx rfl ?_)
    intro w17 x17
    exact ⟨(X15.trans x16).trans x17, u, rfl, hu.ext x17⟩
  have eg : aQ L r rule main = ((dV L rule (fT r)).1, (dV L rule (fT r)).2 && decide (main = [])) := ((if_neg (by omega)).trans (if_neg (by omega))).trans (if_neg h3)
  refine iEq (iCndF (decide_eq_false (by omega)) ?_)
  refine iLd2 hB9 ?_
  refine iCall ((uN (rule := rule) (hv.ext X9) hr hl).mono ?_)
  rintro _ w35 ⟨x35, u, rfl, hu⟩
  refine iEx rfl (iEx rfl ?_)
  rw [eg]
  generalize dV L rule (fT r) = g at *
  refine iJnX (fun xs w' => xs = [u, .bool (g.2 && decide (main = []))] ∧ Ext w35 w') (fun J hJ => ?_) ?_
  · refine iCnd (fun h => ?_) (fun h => ?_)
    · rw [h, Bool.true_and] at hJ
      exact iEqT (b := []) (hJ _ _ ⟨rfl, Ext.refl _⟩)
    · rw [h, Bool.false_and] at hJ
      exact hJ _ _ ⟨rfl, Ext.refl _⟩
  rintro _ w37 ⟨rfl, x37⟩
  intro _
  exact ⟨(X9.trans x35).trans x37, u, rfl, hu.ext x37⟩
end Go.Proofs.YtcfnoofghbmiiaaGreatDoor

namespace Go.Vc
theorem V9 {z0 z1 z2 z3 z4 a b c d f : Value} {K : Value → Prop} (ha : aC a = true) (hb : aC b = true) (hc : aC c = true) (hd : aC d = true) (hf : aC f = true) (h : K (.agg #[a, b, c, d, f])) : aH #[z0, z1, z2, z3, z4] #[(0, 1), (1, 1), (2, 1), (3, 1), (4, 1)] [(0, a), (1, b), (2, c), (3, d), (4, f)] K :=
  bH (cs := #[a, b, c, d, f]) (by simp [Instr.fill, aM ha, aM hb, aM hc, aM hd, aM hf]) h
theorem TA {L : List Str} {r main : Str} {rule : Nat} (h : (aQ L r rule main).2 = true) : main = [] ∨ main ∈ L := by
  unfold aQ at h
  split at h
  · exact .inl (both h).1
  split at h
  · exact .inl (both h).1
  split at h
  · split at h
    · rename_i hm; exact .inr hm
    · cases h
  · rw [Bool.and_eq_true, decide_eq_true_eq] at h; exact .inl h.2
theorem TT {L : List Str} {r : Str} {rule : Nat} {a : Fm} : (leftG L r rule a).1.length ≤ 2 := by
  unfold leftG
  split <;> (try split) <;> simp
theorem SX {L : List Str} {rule : Nat} {a : Fm} : (dV L rule a).1.length ≤ 2 := by
  unfold dV
  split <;> (try split) <;> (try split) <;> simp
theorem OH {L : List Str} {r main : Str} {rule : Nat} : (aQ L r rule main).1.length ≤ 2 := by
  unfold aQ
  split
  · simp
  split
  · simp
  split
  · split
    · exact TT
    · simp
  · exact SX
theorem W9 {α : Type} [Inhabited α] (P : List α) (x : α) : gt (P ++ [x]) P.length = x := by
  rw [gt_eq (by rw [List.length_append]; simp)]; simp
theorem QV {α β : Type} [Inhabited α] [Inhabited β] {f : α → β} {L : List α} {k : Nat} (h : k < L.length) : gt (L.map f) k = f (gt L k) := by
  rw [gt_eq (by rw [List.length_map]; exact h), gt_eq h, List.getElem_map]
def seqI (x : Inf) : Sq := (x.left, x.right)
structure Grow (P Q : List Inf) (L : List Str) (r : Str) : Prop where
  pos : 0 < Q.length
  len : (P ++ Q).length ≤ 60
  last : seqI (gt (P ++ Q) ((P ++ Q).length - 1)) = (L, r)
  good : ∀ k, P.length ≤ k → k < (P ++ Q).length → nI (P ++ Q) k
structure Pre (P Q : List Inf) (ps : List Nat) (G : List Sq) : Prop where
  len : (P ++ Q).length ≤ 60
  seq : ps.map (fun q => seqI (gt (P ++ Q) q)) = G
  lt : ∀ q ∈ ps, q < (P ++ Q).length
  good : ∀ k, P.length ≤ k → k < (P ++ Q).length → nI (P ++ Q) k
theorem Pre.more {P Q Q' : List Inf} {ps : List Nat} {G : List Sq} {L : List Str} {r : Str} (h : Pre P Q ps G) (g : Grow (P ++ Q) Q' L r) : Pre P (Q ++ Q') (ps ++ [(P ++ (Q ++ Q')).length - 1]) (G ++ [(L, r)]) := by
  obtain ⟨h1, h2, h3, h4⟩ := h
  obtain ⟨g1, g2, g3, g4⟩ := g
  rw [List.append_assoc] at g2 g3 g4
  have hl : (P ++ (Q ++ Q')).length = (P ++ Q).length + Q'.length := by rw [← List.append_assoc, List.length_append]
  have ea : ∀ q, q < (P ++ Q).length → gt (P ++ (Q ++ Q')) q = gt (P ++ Q) q := fun q hq => by rw [← List.append_assoc, FV hq]
  refine ⟨g2, ?_, fun q hq => ?_, fun k hk hk2 => ?_⟩
  · rw [List.map_append, List.map_singleton, g3, ← h2]
    congr 1
    exact List.map_congr_left fun q hq => by rw [ea q (h3 q hq)]
  · rcases List.mem_append.1 hq with hq | hq
    · have := h3 q hq; omega
    · rw [List.mem_singleton.1 hq]; omega
  · by_cases hkk : k < (P ++ Q).length
    · have := (h4 k hk hkk).app (Q := Q') hkk
      rwa [List.append_assoc] at this
    · exact g4 k (by omega) hk2
theorem Pre.close {P Q : List Inf} {ps : List Nat} {L : List Str} {r : Str} {rule : Nat} {main : Str} (h : Pre P Q ps (aQ L r rule main).1) (hok : (aQ L r rule main).2 = true) (h1 : 1 ≤ rule) (h9 : rule ≤ 9) (hi : Inc L) (hL : ∀ t ∈ L, SmT t) (hr : SmT r) (h12 : L.length ≤ 12) (h60 : (P ++ Q).length + 1 ≤ 60) : Grow P (Q ++ [⟨rule, ps, L, r, main⟩]) L r := by
  obtain ⟨p1, p2, p3, p4⟩ := h
  have hl : (P ++ (Q ++ [(⟨rule, ps, L, r, main⟩ : Inf)])).length = (P ++ Q).length + 1 := by rw [← List.append_assoc, List.length_append]; rfl
  have he : gt (P ++ (Q ++ [(⟨rule, ps, L, r, main⟩ : Inf)])) (P ++ Q).length = ⟨rule, ps, L, r, main⟩ := by rw [← List.append_assoc, W9]
  refine ⟨by rw [List.length_append]; exact Nat.succ_pos _, by omega, by rw [hl, Nat.add_sub_cancel, he]; rfl, fun k hk hk2 => ?_⟩
  by_cases hkk : k < (P ++ Q).length
  · have := (p4 k hk hkk).app (Q := [(⟨rule, ps, L, r, main⟩ : Inf)]) hkk
    rwa [List.append_assoc] at this
  · have hk3 : k = (P ++ Q).length := by omega
    subst hk3
    refine ⟨by rw [he]; exact h1, by rw [he]; exact h9, ?_, by rw [he]; exact p3, by rw [he]; exact hi, by rw [he]; exact hL, by rw [he]; exact hr, by rw [he]; exact h12, by rw [he]; exact TA hok⟩
    rw [he]
    show aQ L r rule main = (ps.map _, true)
    refine Prod.ext ?_ hok
    show _ = ps.map _
    rw [← p2]
    exact List.map_congr_left fun q hq => by rw [← List.append_assoc, FV (p3 q hq)]; rfl
end Go.Vc
namespace Go.Proofs.YtcfnoofghbmiiaaGreatDoor
open Go.Vc
theorem IJ {v : Value} {n : Nat} {xs : List Value} {w : World} (hs : SlK 5 w v n xs) : Ret Tryz.prog iT #[v] w (.int .i64 (n : Int)) := by
  apply qV; unfold iS
  exact iLenK hs ⟨rfl, Ext.refl _⟩
def BdQ (l0 mb b db : Nat) (R : List IV) (L : List Str) (r : Str) (w : World) : Value → World → Prop := fun u w' => ∃ ok, u = .bool ok ∧ BCh l0 mb b w w' ∧ (ok = true → ∃ RQ, BW l0 w' b db mb (R ++ RQ) ∧ (∀ x ∈ RQ, ∀ c, x.vp.ownBlock = some c → w.heap.size ≤ c) ∧ Grow (R.map IV.i) (RQ.map IV.i) L r)
def BdC (l0 db mb b : Nat) (L : List Str) (r : Str) : Prop := ∀ (w : World) (v : Value) (R : List IV), BW l0 w b db mb R → R.length ≤ 60 → TxW 0 w v L → Cal Tryz.prog kN #[dp b, .agg #[v, sv r]] w (BdQ l0 mb b db R L r w)
theorem WZ {c : Fm} (hcp : c.plain = true) (hcs : c.size ≤ 20) {l0 db mb b : Nat} {L : List Str} {r : Str} (hGI : GI c L r) (IH : ∀ L' r', GI c L' r' → mu c L' r' < mu c L r → BdC l0 db mb b L' r') : BdC l0 db mb b L r := by
  intro w v R hb hR hv
  have hsm := hGI.pl.sm hcs
  have hr := hGI.sm hcs
  have hLl := hGI.pl.len hcp hcs
  obtain ⟨mv1, mv2, mv3, mv4⟩ := WX hGI
  apply uQ; unfold kP
  refine iNew2 fun q w1 hq x1 hB1 => ?_
  have hb1 := hb.ext x1
  obtain ⟨vp, hblk, -⟩ := hb1.ex
  refine iNil (iFa (iLdB hblk (i := 0) (v := dp db) rfl ?_))
  refine iLd2 hB1 ?_
  intro w2 x2
  have hb2 := hb1.ext x2
  have hv2 := hv.ext (x1.trans x2)
  refine iCall ((uL hcp hcs hGI hb2.dec hv2).mono ?_)
  rintro _ w3 ⟨rfl, hm3, hc3⟩
  have hb3 := hb2.tr hm3 hc3
  have hB3 := (hB1.ext x2).ch hc3 (hb2.dec.map.ne_blk (hB1.ext x2))
  have hv3 := TxW.tr hv2 hb2.dec.map hc3
  refine iEx rfl (iEx rfl ?_)
  generalize hmv : moveI L r = m at *
  obtain ⟨rule, main⟩ := m
  intro w4 x4
  refine iLd2 (hB3.ext x4) ?_
  refine iCall ((qJ (hv3.ext x4) hsm hr hLl mv3).mono ?_)
  rintro _ w5 ⟨x5, x, rfl, hx⟩
  refine iEx rfl (iEx rfl ?_)
  obtain ⟨RG, hRG, hrow, hRL⟩ := hx
  have x35 := x4.trans x5
  have bc5 : BCh l0 mb b w w5 := ((BCh.ext (x1.trans x2)).trans (BCh.map hc3)).trans (BCh.ext x35)
  have hb5 := hb3.ext x35
  have hB5 := hB3.ext x35
  have hv5 := hv3.ext x35
  obtain ⟨vp5, hblk5, hvp5⟩ := hb5.ex
  have hm5 := hb5.dec.map
  have hrl : RG.length ≤ 2 := by
    have h1 := @OH L r main rule
    rw [← hRG, List.length_map] at h1; exact h1
  refine iLenK hrow.sl ?_
  refine iLp (fun s : Value × Nat => [s.1, .int .i64 (s.2 : Int)]) (fun s w' => s.2 ≤ RG.length ∧ BCh l0 mb b w5 w' ∧ ∃ RQ ps, BW l0 w' b db mb (R ++ RQ) ∧ (∀ x ∈ RQ, ∀ c, x.vp.ownBlock = some c → w5.heap.size ≤ c) ∧ Ow w5.heap.size t_i64 w' s.1 (ints (nats ps)) ∧ (∀ x ∈ R ++ RQ, ∀ c, x.vp.ownBlock = some c → s.1.ownBlock ≠ some c) ∧ ps.length = s.2 ∧ Pre (R.map IV.i) (RQ.map IV.i) ps ((RG.map Prod.snd).take s.2)) (fun s => RG.length - s.2) (.slice none 0 0, 0) rfl ⟨Nat.zero_le _, BCh.ext (Ext.refl _), [], [], by rw [List.append_nil]; exact hb5, fun x hx => (by cases hx), Ow.nil _ _ _, fun x _ c _ e => (by cases e), rfl, ⟨by simpa using hR, rfl, fun q hq => (by cases hq), fun k h1 h2 => by simp at h1 h2; omega⟩⟩ ?_
  rintro ⟨pv, i⟩ w7 Kn ⟨hi, bc7, RQ, ps, hb7, hnew7, ho7, hne7, hps, hpre⟩ hKn
  have hi : i ≤ RG.length := hi
  have ho7 : Ow w5.heap.size t_i64 w7 pv (ints (nats ps)) := ho7
  have hps : ps.length = i := hps
  have hpre : Pre (R.map IV.i) (RQ.map IV.i) ps ((RG.map Prod.snd).take i) := hpre
  have hne7 : ∀ x ∈ R ++ RQ, ∀ c, x.vp.ownBlock = some c → pv.ownBlock ≠ some c := hne7
  have hrow7 := OwK.bch hrow bc7 hm5 hblk5 (by decide) (by decide)
  have hB7 := Blk.bch hB5 bc7 hm5 hblk5 (by decide) (by decide)
  have hv7 := Ow.bch hv5 bc7 hm5 hblk5 (by decide) (by decide)
  have hlen7 := hpre.len
  rw [← List.map_append, List.length_map] at hlen7
  have hpsl : (ints (nats ps)).length = ps.length := by rw [yA, xW]
  intro _
  simp only [gx]
  refine iLt (iCndP (fun h => ?_) (fun h => ?_))
  · have hil : i < RG.length := by omega
    refine iLdK (cs := #[(gt RG i).1, sv (gt RG i).2.2]) (OwK.sl hrow7) rfl hil rfl (fun j hj => ?_) ?_
    · rcases j with _ | _ | j
      · exact (j8 hil).1
      · exact (j8 hil).2
      · omega
    have hmem : gt RG i ∈ RG := by rw [gt_eq hil]; exact List.getElem_mem _
    have hli : TxW 0 w7 (gt RG i).1 (gt RG i).2.1 := Ow.bch (hRL _ hmem) bc7 hm5 hblk5 (by decide) (by decide)
    refine iNew2 fun q8 w8 hq8 x8 hB8 => ?_
    refine iSt2 hB8 rfl hli.cell rfl fun w9 hB9 hc9 => ?_
    refine iLd2 hB9 ?_
    have x79 : Ext w7 w9 := x8.thenCh hc9 fun c hc => by omega
    have hgl : (gt RG i).2 ∈ (aQ L r rule main).1 := by rw [← hRG]; exact List.mem_map.2 ⟨_, hmem, rfl⟩
    obtain ⟨hgi, hmu⟩ := mv4 _ hgl
    have hb9 := hb7.ext x79
    have ho9 := ho7.ext x79
    refine iCall ((IH _ _ hgi hmu w9 (gt RG i).1 (R ++ RQ) hb9 hlen7 (hli.ext x79)).mono ?_)
    rintro _ w10 ⟨ok, rfl, bc10, hok⟩
    have bc510 : BCh l0 mb b w5 w10 := bc7.trans ((BCh.ext x79).trans bc10)
    refine iNot (iCnd (fun hn => ?_) (fun hn => ?_))
    · exact ⟨false, rfl, bc5.trans bc510, fun e => by cases e⟩
    have hn : ok = true := by simpa using hn
    obtain ⟨RQ', hb10, hnew10, hgr⟩ := hok hn
    obtain ⟨vp9, hblk9, -⟩ := hb9.ex
    have ho10 := Ow.bch ho9 bc10 hb9.dec.map hblk9 (by decide) (by decide)
    obtain ⟨vp10, hblk10, hvp10⟩ := hb10.ex
    refine iNil (iFa (iLdB hblk10 (i := 1) (v := vp10) rfl ?_))
    refine iRet (IJ hvp10.sl) fun w11 x11 => ?_
    have hpre' := hpre.more (by rw [← List.map_append]; exact hgr)
    rw [← List.map_append] at hpre'
    have hlen' := hpre'.len
    have hpos := hgr.pos
    rw [List.length_map] at hpos
    rw [← List.map_append, List.length_map] at hlen'
    have hl2 : ((R ++ RQ) ++ RQ').length = (R ++ (RQ ++ RQ')).length := by rw [List.append_assoc]
    have hl3 : 0 < (R ++ (RQ ++ RQ')).length := by simp only [List.length_append]; omega
    refine iSub (by omega) ?_
    rw [show ((((R ++ RQ) ++ RQ').length : Nat) : Int) - 1 = (((List.map IV.i R ++ List.map IV.i (RQ ++ RQ')).length - 1 : Nat) : Int) by rw [← List.map_append, List.length_map]; omega]
    have hb11 := hb10.ext x11
    have ho11 := ho10.ext x11
    have hnq : ∀ x ∈ (R ++ RQ) ++ RQ', ∀ c, x.vp.ownBlock = some c → pv.ownBlock ≠ some c := fun x hx c hc hpc => by
      rcases List.mem_append.1 hx with hx | hx
      · exact hne7 x hx c hc hpc
      · have h1 := hnew10 x hx c hc
        have h2 := (ho9.blk c hpc).2
        omega
    have hsz : w5.heap.size ≤ w11.heap.size := Nat.le_trans bc510.size x11.size
    refine XN XG YB rfl ho11 rfl (by omega) (by omega) hsz fun pv' w13 ho13 hg13 hat13 => ?_
    refine iAdd (by omega) ?_
    have hb13 := hb11.grown ho11 hnq hg13
    refine hKn (pv', i + 1) _ ⟨hil, ?_, RQ ++ RQ', ps ++ [(List.map IV.i R ++ List.map IV.i (RQ ++ RQ')).length - 1], ?_, ?_, ?_, ?_, ?_, ?_⟩ (by show RG.length - (i + 1) < RG.length - i; omega)
    · refine Ch.trans (bc510.trans (BCh.ext x11)) (dJ (S := fun k => pv.ownBlock = some k) hg13 fun k hk => hk) fun k hk => .inr (ho11.blk k hk).1
    · rw [← List.append_assoc]; exact hb13
    · intro x hx c hc
      rcases List.mem_append.1 hx with hx | hx
      · exact hnew7 x hx c hc
      · have h1 := hnew10 x hx c hc
        have h2 := bc7.size
        have h3 := x79.size
        omega
    · show Ow _ _ _ pv' _
      rw [show ints (nats (ps ++ [(List.map IV.i R ++ List.map IV.i (RQ ++ RQ')).length - 1])) = ints (nats ps) ++ [.int .i64 (((List.map IV.i R ++ List.map IV.i (RQ ++ RQ')).length - 1 : Nat) : Int)] by simp [ints, nats]]
      exact ho13
    · intro x hx c hc hpc
      rw [← List.append_assoc] at hx
      have hpc : pv'.ownBlock = some c := hpc
      rcases hat13 with e | ⟨c', e, hc'⟩
      · rw [e] at hpc; exact hnq x hx c hc hpc
      · rw [e] at hpc
        cases hpc
        have := ((hb11.prem x hx).blk _ hc).2
        omega
    · show (ps ++ [_]).length = i + 1
      rw [List.length_append, hps]; rfl
    · show Pre _ _ _ ((RG.map Prod.snd).take (i + 1))
      rw [List.take_succ_eq_append_getElem (by rw [List.length_map]; exact hil), List.getElem_map, ← gt_eq hil]
      exact hpre'
  · have hiG : i = RG.length := by omega
    have hG : (RG.map Prod.snd).take i = (aQ L r rule main).1 := by rw [List.take_of_length_le (by rw [List.length_map]; omega), hRG]
    rw [hG] at hpre
    obtain ⟨vp7, hblk7, hvp7⟩ := hb7.ex
    refine iNil (iFa (iLdB hblk7 (i := 1) (v := vp7) rfl ?_))
    refine iFa (iLdB hB7 (i := 0) (v := v) rfl ?_)
    refine iFa (iLdB hB7 (i := 1) (v := sv r) rfl ?_)
    intro w14 x14
    refine iCall ((sM (hv7.ext x14) (by omega)).mono ?_)
    rintro u w15 ⟨x15, hu15⟩
    refine ⟨x15, V9 rfl ho7.cell hu15.cell rfl rfl ?_⟩
    intro w16 x16
    refine iBs15 fun bb w17 hbb x17 hB17 => ⟨x17, fun w18 x18 => ?_⟩
    have x1518 := x16.trans (x17.trans x18)
    have x718 := (x14.trans x15).trans x1518
    have hb18 := hb7.ext x718
    have hvp18 := OwK.ext hvp7 x718
    have hblk18 := hblk7.ext x718
    have hu18 : TxW 0 w18 u L := (hu15.ext x1518).mono (Nat.zero_le _)
    have ho18 := ho7.ext x718
    have hv18 := hv7.ext x718
    have hB18 := hB7.ext x718
    have hsl : SlK 5 w18 (.slice (some ⟨bb, 0, none⟩) 1 1) 1 (IV.cs ⟨⟨rule, ps, L, r, main⟩, pv, u⟩) := SlK.ofBlk (hB17.ext x18) rfl (by decide)
    refine iAppK GD F8 rfl (by decide) hvp18 hsl (fun y hy => by
      simp only [IV.cs, List.mem_cons, List.not_mem_nil, or_false] at hy
      rcases hy with rfl | rfl | rfl | rfl | rfl
      · rfl
      · exact ho7.cell
      · exact hu15.cell
      · rfl
      · rfl) (by omega) (by omega) (Nat.le_trans hb18.lob (Nat.le_of_lt hblk18.lt)) fun vp' w19 hvp19 hg19 hat19 => ?_
    have hg := dJ (S := fun k => vp7.ownBlock = some k) hg19 fun k hk => hk
    have hcell : vp'.cells = #[vp'] := aM hvp19.cell
    have hblk19 := hblk18.grown hg19 (OwK.ne_blk hvp18 hblk18 (by decide))
    have hB19 := hB18.grown hg19 (OwK.ne_blk hvp18 hB18 (by decide))
    have hdec19 : Dec w19 db mb := ⟨hb18.dec.blk.grown hg19 (OwK.ne_blk hvp18 hb18.dec.blk (by decide)), hb18.dec.map.chB hg fun hS => hb18.dec.map.ne_ow hvp18 _ hS rfl⟩
    have keep : ∀ {lo : Nat} {e : TypeId} {v' : Value} {xs : List Value}, e ≠ bN → Ow lo e w18 v' xs → Ow lo e w19 v' xs := fun hne h => h.ch hg fun c hc hS => hne (ne_ty (h.ty hc) (OwK.ty hvp18 hS))
    have hprem19 := fun x hx => keep (by decide) (hb18.prem x hx)
    have hleft19 := fun x hx => keep (by decide) (hb18.left x hx)
    have ho19 := keep (by decide) ho18
    have hu19 := keep (by decide) hu18
    have hv19 := keep (by decide) hv18
    refine iNil (iFa ?_)
    intro w20 x20
    have hblk20 := hblk19.ext x20
    refine iStB hblk20 (by simp) hvp19.cell fun hB21 => ?_
    have hup := Upd.setCell w20 b 1 vp'
    generalize hw21 : w20.setCell ⟨b, 1, none⟩ vp' = w21 at *
    have hch := hup.ch (S := fun k => k = b) rfl
    have hdec20 := hdec19.ext x20
    have hdec21 : Dec w21 db mb := by
      refine ⟨hdec20.blk.ch hch fun e => ?_, hdec20.map.chB hch fun e => hdec20.map.ne_blk hblk20 e.symm⟩
      have h1 := hdec20.blk
      have h2 := hblk20
      unfold Blk at h1 h2
      rw [e, h2] at h1; cases h1
    have keep2 : ∀ {lo : Nat} {e : TypeId} {v' : Value} {xs : List Value}, e ≠ 74 → Ow lo e w19 v' xs → Ow lo e w21 v' xs := fun hne h => (h.ext x20).ch hch fun c hc hS => (h.ext x20).ne_blk hblk20 hne (by rw [hc, hS])
    have hprem21 := fun x hx => keep2 (by decide) (hprem19 x hx)
    have hleft21 := fun x hx => keep2 (by decide) (hleft19 x hx)
    have hv21 := keep2 (by decide) hv19
    have hvp21 := OwK.ch (OwK.ext hvp19 x20) hch fun c hc hS => QS (OwK.ext hvp19 x20) hblk20 (by decide) (by rw [hc, hS])
    have hBq21 : Blk 77 w21 q [v, sv r] := (hB19.ext x20).ch hch fun e => by
      have h1 := hB19.ext x20
      have h2 := hblk20
      unfold Blk at h1 h2
      rw [e, h2] at h1; cases h1
    intro w22 x22
    have hRl : (R ++ (RQ ++ [(⟨⟨rule, ps, L, r, main⟩, pv, u⟩ : IV)])).length = (R ++ RQ).length + 1 := by rw [← List.append_assoc, List.length_append]; rfl
    refine iJnB (decide ((R ++ RQ).length + 1 ≤ 60) && decide (L.length ≤ 12)) w22 (fun J hJ => ?_) fun w24 x24 => ?_
    · refine iNil (iFa (iLdB (hB21.ext x22) (i := 1) (v := vp') rfl ?_))
      refine iLenK (OwK.ext hvp21 x22).sl ?_
      refine iLe (iCnd (fun h60 => ?_) (fun h60 => ?_))
      · rw [decide_eq_true (show (R ++ RQ).length + 1 ≤ 60 by have := of_decide_eq_true h60; omega), Bool.true_and] at hJ
        refine iFa (iLdB (hBq21.ext x22) (i := 0) (v := v) rfl ?_)
        refine bO (hv21.ext x22).sl (iLe ?_)
        rw [show decide (((L.length : Nat) : Int) ≤ 12) = decide (L.length ≤ 12) from decide_eq_decide.2 (by omega)]
        exact hJ _ (Ext.refl _)
      · rw [decide_eq_false (show ¬ (R ++ RQ).length + 1 ≤ 60 by have := of_decide_eq_false h60; omega), Bool.false_and] at hJ
        exact hJ _ (Ext.refl _)
    intro _
    have x2124 := x22.trans x24
    have bc24 : BCh l0 mb b w w24 := ((((bc5.trans bc7).trans (BCh.ext x718)).trans (BCh.row hvp18 hg)).trans (BCh.ext x20)).trans ((BCh.blk hch).trans (BCh.ext x2124))
    refine ⟨_, rfl, bc24, fun hok => ⟨RQ ++ [⟨⟨rule, ps, L, r, main⟩, pv, u⟩], ?_, fun y hy c hc => ?_, ?_⟩⟩
    · refine ⟨hb.lob, hdec21.ext x2124, ⟨vp', hB21.ext x2124, ?_⟩, fun y hy => ?_, fun y hy => ?_⟩
      · rw [hRl]
        rw [show b9 (R ++ (RQ ++ [(⟨⟨rule, ps, L, r, main⟩, pv, u⟩ : IV)])) = b9 (R ++ RQ) ++ IV.cs ⟨⟨rule, ps, L, r, main⟩, pv, u⟩ by rw [← List.append_assoc, S5]; simp [b9]]
        exact OwK.ext hvp21 x2124
      · rw [← List.append_assoc] at hy
        rcases List.mem_append.1 hy with hy | hy
        · exact (hprem21 y hy).ext x2124
        · rw [List.mem_singleton.1 hy]
          exact ((keep2 (by decide) ho19).ext x2124).mono (Nat.zero_le _)
      · rw [← List.append_assoc] at hy
        rcases List.mem_append.1 hy with hy | hy
        · exact (hleft21 y hy).ext x2124
        · rw [List.mem_singleton.1 hy]
          exact (keep2 (by decide) hu19).ext x2124
    · rcases List.mem_append.1 hy with hy | hy
      · have := hnew7 y hy c hc
        have := bc5.size
        omega
      · rw [List.mem_singleton.1 hy] at hc
        have := (ho7.blk c hc).1
        have := bc5.size
        omega
    · obtain ⟨h60, h12⟩ := both hok
      rw [List.map_append]
      exact hpre.close mv1 mv2 mv3 hGI.inc hsm hr h12 (by rw [← List.map_append, List.length_map]; exact h60)
theorem jQ {c : Fm} (hcp : c.plain = true) (hcs : c.size ≤ 20) {l0 db mb b : Nat} : ∀ (n : Nat) {L : List Str} {r : Str}, GI c L r → mu c L r < n → BdC l0 db mb b L r
  | 0, _, _, _, h => absurd h (Nat.not_lt_zero _)
  | n + 1, L, r, hGI, h => WZ hcp hcs hGI fun _ _ hg hm => jQ hcp hcs n hg (by omega)
end Go.Proofs.YtcfnoofghbmiiaaGreatDoor

namespace Go.Vc
theorem WN {k n i : Nat} {ki : IntKind} {w : World} {v : Value} {xs : List Value} {K : Value → Prop} (hs : SlK k w v n xs) (hi : i ≤ n) (h : ∀ v', SlK k w v' i (xs.take (i * k)) → K v') : xSl k v none (some (.int ki (i : Int))) K := by
  obtain ⟨h0, a, c, rfl, h2, h3, h4⟩ := hs
  have hle : i * k ≤ n * k := Nat.mul_le_mul_right _ hi
  refine ⟨_, _, _, 0, i, rfl, ⟨ki, rfl⟩, rfl, Nat.zero_le _, by omega, ?_⟩
  refine h _ ⟨by rw [List.length_take]; omega, _, _, by rw [Nat.sub_zero], by omega, by omega, ?_⟩
  rcases Nat.eq_zero_or_pos i with hz | hz
  · exact .inl hz
  · rcases h4 with h4 | ⟨b, o, rfl, hc⟩
    · omega
    · refine .inr ⟨b, o, ?_, fun j hj => ?_⟩
      · rw [if_neg (by omega), Option.map_some]
        simp [Addr.add]
      · rw [hc j (by omega), List.getElem?_take, if_pos hj]
theorem Q8 (L : List IV) (k : Nat) : (b9 L).take (k * 5) = b9 (L.take k) := by
  induction L generalizing k with
  | nil => simp [b9]
  | cons x L ih =>
    cases k with
    | zero => simp [b9]
    | succ k =>
      show ((x.cs ++ b9 L)).take ((k + 1) * 5) = x.cs ++ b9 (L.take k)
      rw [List.take_append, List.take_of_length_le (by simp [IV.cs]; omega), show (k + 1) * 5 - x.cs.length = k * 5 by simp [IV.cs]; omega, ih]
theorem iNew5 {w : World} {e : TypeId} {a b c d f : Value} {K : Value → World → Prop} (h : ∀ q w', q = w.heap.size ∧ w'.heap.size = q + 1 → Ext w w' → Blk e w' q [a, b, c, d, f] → K (.pointer (some ⟨q, 0, none⟩)) w') : xNew (Value.cells (.agg #[a, b, c, d, f])) e w K :=
  iNew fun q w' h1 h2 h3 => h q w' h1 h2 (by simpa [Value.cells] using h3)
structure PrW (t1 t2 : TypeId) (w : World) (v : Value) (R : List IV) : Prop where
  row : SlK 5 w v R.length (b9 R)
  prem : ∀ x ∈ R, Ow 0 t1 w x.vp (ints (nats x.i.prem))
  left : ∀ x ∈ R, Ow 0 t2 w x.vl (strs x.i.left)
theorem PrW.ext {t1 t2 : TypeId} {w w' : World} {v : Value} {R : List IV} (h : PrW t1 t2 w v R) (x : Ext w w') : PrW t1 t2 w' v R := ⟨SlK.ext h.row x, fun y hy => (h.prem y hy).ext x, fun y hy => (h.left y hy).ext x⟩
end Go.Vc
namespace Go.Proofs.YtcfnoofghbmiiaaGreatDoor
open Go.Vc
theorem iAt5 {w : World} {v : Value} {n : Nat} {R : List IV} {j : Nat} {k : IntKind} {K : Value → Prop} (hs : SlK 5 w v n (b9 R)) (hn : n = R.length) (hj : j < R.length) (h : K (.agg (gt R j).cs.toArray)) : xIa 5 v (.int k (j : Int)) fun p => xLdA w 5 p K := by
  subst hn
  refine iLdK (cs := (gt R j).cs.toArray) hs rfl hj rfl (fun i hi => ?_) h
  rw [N0 hj i hi]
  simp
def XR (w : World) : Value → World → Prop := fun u w' => Ext w w' ∧ (u = .tuple #[.slice none 0 0, .int .i64 3] ∨ ∃ vp R, u = .tuple #[vp, .int .i64 0] ∧ PrW t_i64 aA w' vp R ∧ 1 ≤ R.length ∧ R.length ≤ 60 ∧ ∀ k, k < R.length → nI (R.map IV.i) k)
theorem IP {v : Value} {r : Str} {w : World} (hs : TxW 0 w v []) (hr : SmT r) (hv : VT [] r) : Cal Tryz.prog zK #[v, sv r] w (XR w) := by
  obtain ⟨hg, hp, -⟩ := hr.gt.at
  have hsz := hr.size
  apply MT; unfold AU
  refine iRet (rF hs.sl hr) fun w1 x1 => ?_
  refine iNe (iCndF (decide_eq_false fun h => h rfl) ?_)
  have h : SqT (setT []) r := ⟨fun t ht => (by cases ht), hr.gt, by
    have := w2_20 hp hsz
    show 0 + (fT r).w2 ≤ _
    omega⟩
  refine iRet (l9 (hs.ext x1) h (by simp)) fun w2 x2 => ?_
  rw [cA.2 (show VT (setT []) r from hv)]
  refine iNot (iCndF rfl ?_)
  refine iCall ((pQ w2).mono ?_)
  rintro _ w3 ⟨x3, db, mb, rfl, hD, hmb⟩
  refine AX rfl ?_
  refine iNew2 fun b w4 hb x4 hB => ?_
  have X3 := (x1.trans x2).trans x3
  have X4 := X3.trans x4
  have hGI : GI (fT r) [] r := ⟨List.Pairwise.nil, fun t ht => (by cases ht), ⟨hr.gt, jI _⟩, hv⟩
  have hBW : BW w2.heap.size w4 b db mb [] := ⟨by have := x3.size; omega, hD.ext x4, ⟨.slice none 0 0, hB, OwK.nil 5 _ _ _⟩, fun x hx => (by cases hx), fun x hx => (by cases hx)⟩
  refine dE hs.cell rfl ?_
  refine iCall ((jQ hp hsz (mu (fT r) [] r + 1) hGI (Nat.lt_succ_self _) w4 v [] hBW (by simp) (hs.ext X4)).mono ?_)
  rintro _ w5 ⟨ok, rfl, bc5, hok⟩
  have XX : Ext w2 w5 := (x3.trans x4).thenCh bc5 fun c hc => by
    rcases hc with rfl | rfl | ⟨h0, -⟩
    · exact hmb
    · have := x3.size; omega
    · exact h0
  have X5 := (x1.trans x2).trans XX
  refine iNot (iCnd (fun hn => ?_) (fun hn => ?_))
  · exact ⟨X5, .inl rfl⟩
  have hn : ok = true := by simpa using hn
  obtain ⟨RQ, hb5, -, hgr⟩ := hok hn
  rw [List.nil_append] at hb5
  obtain ⟨vp, hblk, hrow⟩ := hb5.ex
  refine iNil (iFa (iLdB hblk (i := 1) (v := vp) rfl ?_))
  have h1 := hgr.pos
  have h2 := hgr.len
  have h3 := hgr.good
  simp only [List.map_nil, List.nil_append, List.length_map, List.length_nil] at h1 h2 h3
  exact ⟨X5, .inr ⟨vp, RQ, rfl, ⟨hrow.sl, hb5.prem, hb5.left⟩, h1, h2, fun k hk => h3 k (Nat.zero_le _) hk⟩⟩
theorem IZ {v v' : Value} {L : List Str} {r : Str} {w : World} (hv : TxW 0 w v L) (hv' : TxW 0 w v' L) : Ret Tryz.prog nE #[.agg #[v, sv r], .agg #[v', sv r]] w (.bool true) := by
  apply KC; unfold wF
  refine iNew2 fun q1 w1 hq1 x1 hB1 => ?_
  refine iNew2 fun q2 w2 hq2 x2 hB2 => ?_
  have X2 := x1.trans x2
  refine iJnB true w2 (fun J hJ => ?_) (fun w4 x4 => fun _ => ⟨by first | trivial | rfl, X2.trans x4⟩)
  refine iFa (iLdB (hB1.ext x2) (i := 1) (v := sv r) rfl ?_)
  refine iFa (iLdB hB2 (i := 1) (v := sv r) rfl ?_)
  refine iEqT (iCndT (decide_eq_true rfl) ?_)
  refine iFa (iLdB (hB1.ext x2) (i := 0) (v := v) rfl ?_)
  refine iFa (iLdB hB2 (i := 0) (v := v') rfl ?_)
  exact iRet (IX (hv.ext X2).sl (hv'.ext X2).sl) fun w5 x5 => hJ _ x5
theorem OR {v v' : Value} {G : List Sq} {w : World} (hv : GsW w v G) (hv' : GsW w v' G) : Ret Tryz.prog bJ #[v, v', .func (.func nE) #[] #[]] w (.bool true) := by
  obtain ⟨R, hR, hs, hL⟩ := hv
  obtain ⟨R', hR', hs', hL'⟩ := hv'
  have hl : R.length = G.length := by rw [← hR, List.length_map]
  have hl' : R'.length = G.length := by rw [← hR', List.length_map]
  have hs := hs.sl
  have hs' := hs'.sl
  have hln := hs.len
  apply cZ; unfold bM
  refine iLenK hs (iLenK hs' (iNe (iCndF (decide_eq_false fun h => h (by omega)) ?_)))
  refine iLenK hs ?_
  refine iLp (fun i : Nat => [.int .i64 (i : Int)]) (fun i w' => i ≤ R.length ∧ Ext w w') (fun i => R.length - i) 0 rfl ⟨Nat.zero_le _, Ext.refl _⟩ ?_
  rintro i w2 Kn ⟨hi, x2⟩ hKn
  intro _
  simp only [gx]
  refine iLt (iCndP (fun h => ?_) (fun h => ⟨by first | trivial | rfl, x2⟩))
  have hil : i < R.length := by omega
  have hil' : i < R'.length := by omega
  have hm : gt R i ∈ R := by rw [gt_eq hil]; exact List.getElem_mem _
  have hm' : gt R' i ∈ R' := by rw [gt_eq hil']; exact List.getElem_mem _
  have hsame : (gt R i).2 = (gt R' i).2 := by
    have h1 : gt (R.map Prod.snd) i = (gt R i).2 := QV hil
    have h2 : gt (R'.map Prod.snd) i = (gt R' i).2 := QV hil'
    rw [← h1, ← h2, hR, hR']
  have ha := (hL _ hm).ext x2
  have hb := (hL' _ hm').ext x2
  refine iLdK (cs := #[(gt R i).1, sv (gt R i).2.2]) (SlK.ext hs x2) rfl hil rfl (fun j hj => ?_) ?_
  · rcases j with _ | _ | j
    · exact (j8 hil).1
    · exact (j8 hil).2
    · omega
  refine iNew2 fun q3 w3 hq3 x3 hB3 => ?_
  refine iSt2 hB3 rfl ha.cell rfl fun w4 hB4 hc4 => ?_
  have x24 : Ext w2 w4 := x3.thenCh hc4 fun c hc => by omega
  refine iLdK (cs := #[(gt R' i).1, sv (gt R' i).2.2]) (SlK.ext hs' (x2.trans x24)) rfl hil' rfl (fun j hj => ?_) ?_
  · rcases j with _ | _ | j
    · exact (j8 hil').1
    · exact (j8 hil').2
    · omega
  refine iNew2 fun q5 w5 hq5 x5 hB5 => ?_
  refine iSt2 hB5 rfl hb.cell rfl fun w6 hB6 hc6 => ?_
  have x46 : Ext w4 w6 := x5.thenCh hc6 fun c hc => by omega
  refine iLd2 (hB4.ext x46) (iLd2 hB6 ?_)
  have x26 := x24.trans x46
  rw [← hsame] at hb ⊢
  refine iRet (IZ (ha.ext x26) (hb.ext x26)) fun w7 x7 => ?_
  refine iNot (iCndF rfl (iAdd (by omega) ?_))
  exact hKn (i + 1) _ ⟨by omega, (x2.trans x26).trans x7⟩ (by omega)
theorem lB {x : IV} {w : World} (hc : aC x.vl = true) : Ret Tryz.prog mO #[.agg x.cs.toArray] w (.agg #[x.vl, sv x.i.right]) := by
  apply AA; unfold mI
  refine iNew5 fun q1 w1 hq1 x1 hB1 => ?_
  refine iNew2 fun q2 w2 hq2 x2 hB2 => ?_
  have hB1 := hB1.ext x2
  refine iFa (iLdB hB1 (i := 2) (v := x.vl) rfl ?_)
  refine iFa (iLdB hB1 (i := 3) (v := sv x.i.right) rfl ?_)
  refine dE hc rfl ?_
  refine iSt2 hB2 rfl hc rfl fun w8 hB8 hc8 => ?_
  refine iLd2 hB8 ⟨rfl, (x1.trans x2).thenCh hc8 fun c hc => by have := x1.size; omega⟩
theorem uR {R : List IV} {k : Nat} (hk : k < R.length) (hR : R.length ≤ 60) (hg : nI (R.map IV.i) k) {v0 : Value} {w : World} (h0 : SlK 5 w v0 k (b9 (R.take k))) (hpr : ∀ x ∈ R, Ow 0 t_i64 w x.vp (ints (nats x.i.prem))) (hlr : ∀ x ∈ R, TxW 0 w x.vl x.i.left) :
    Ret Tryz.prog lV #[v0, .agg (gt R k).cs.toArray] w (.bool true) := by
  have hmem : ∀ {j : Nat}, j < R.length → gt R j ∈ R := fun hj => by rw [gt_eq hj]; exact List.getElem_mem _
  have hgi : ∀ {j : Nat}, j < R.length → gt (R.map IV.i) j = (gt R j).i := fun hj => QV hj
  obtain ⟨g1, g2, g3, g4, g5, g6, g7, g8, -⟩ := hg
  rw [hgi hk] at g1 g2 g3 g4 g5 g6 g7 g8
  have hpm := hpr _ (hmem hk)
  have hlm := hlr _ (hmem hk)
  generalize hx : gt R k = x at *
  obtain ⟨⟨rule, ps, L, r, main⟩, vp, vl⟩ := x
  have hpm : Ow 0 t_i64 w vp (ints (nats ps)) := hpm
  have hlm : TxW 0 w vl L := hlm
  apply xT; unfold lI
  refine iNew5 fun q1 w1 hq1 x1 hB1 => ?_
  have hB1 : Blk bN w1 q1 [.int .i64 (rule : Int), vp, vl, sv r, sv main] := hB1
  refine iFa (iLdB hB1 (i := 2) (v := vl) rfl ?_)
  refine iFa (iLdB hB1 (i := 3) (v := sv r) rfl ?_)
  refine iRet (rJ (hlm.ext x1).sl g5 g6 g8 g7) fun w2 x2 => ?_
  refine iNot (iCndF rfl ?_)
  have X2 := x1.trans x2
  have hB2 := hB1.ext x2
  refine iFa (iLdB hB2 (i := 1) (v := vp) rfl ?_)
  have hpl : (ints (nats ps)).length = ps.length := by rw [yA, xW]
  refine iLenS (hpm.ext X2).sl ?_
  rw [hpl]
  have hpsl := (hpm.sl).len
  rw [hpl] at hpsl
  have hG : (aQ L r rule main).1.length = ps.length := by rw [show aQ L r rule main = _ from g3, List.length_map]
  have h2 := @OH L r main rule
  refine iLp (fun s : Value × Nat => [s.1, .int .i64 (s.2 : Int)]) (fun s w' => s.2 ≤ ps.length ∧ Ext w2 w' ∧ ∃ RG : List (Value × Sq), RG.map Prod.snd = (ps.take s.2).map (fun q => seqI (gt (R.map IV.i) q)) ∧ OwK 2 w2.heap.size cI w' s.1 RG.length (iL RG) ∧ ∀ x ∈ RG, TxW 0 w' x.1 x.2.1) (fun s => ps.length - s.2) (.slice none 0 0, 0) rfl ⟨Nat.zero_le _, Ext.refl _, [], rfl, OwK.nil 2 _ _ _, fun x hx => (by cases hx)⟩ ?_
  rintro ⟨gv, i⟩ w4 Kn ⟨hi, x4, RG, hRG, hrow, hRL⟩ hKn
  have hi : i ≤ ps.length := hi
  have hRG : RG.map Prod.snd = (ps.take i).map (fun q => seqI (gt (R.map IV.i) q)) := hRG
  have hrow : OwK 2 w2.heap.size cI w4 gv RG.length (iL RG) := hrow
  have hRGl : RG.length = i := by
    have := congrArg List.length hRG
    rw [List.length_map, List.length_map, List.length_take] at this
    omega
  have X4 := X2.trans x4
  have hB4 := hB2.ext x4
  intro _
  simp only [gx]
  refine iLt (iCndP (fun h => ?_) (fun h => ?_))
  · have hil : i < ps.length := by omega
    have hq : gt ps i < k := g4 _ (by rw [gt_eq hil]; exact List.getElem_mem _)
    refine iIaNN (l := ps) (j := i) (hpm.ext X4).sl hil fun p hp => ?_
    refine iLd (v := .int .i64 ((gt ps i : Nat) : Int)) hp ?_
    refine iLenK (SlK.ext h0 X4) ?_
    refine iSub (by omega) ?_
    refine iRet (KW _ _ _ w4) fun w5 x5 => ?_
    rw [decide_eq_true (show (0 : Int) ≤ ((gt ps i : Nat) : Int) ∧ ((gt ps i : Nat) : Int) ≤ (k : Int) - 1 by omega)]
    refine iNot (iCndF rfl ?_)
    have X5 := X4.trans x5
    have htk : (R.take k).length = k := by rw [List.length_take]; omega
    refine iAt5 (SlK.ext h0 X5) htk.symm (by omega) ?_
    have hqR : gt ps i < R.length := by omega
    have hgq : gt (R.take k) (gt ps i) = gt R (gt ps i) := by
      rw [gt_eq (by omega), gt_eq hqR, List.getElem_take]
    rw [hgq]
    have hyl := (hlr _ (hmem hqR)).ext X5
    generalize hy : gt R (gt ps i) = y at *
    refine iRet (lB hyl.cell) fun w6 x6 => ?_
    refine iBsA fun bb w7 hbb x7 hB7 => ?_
    have x47 := (x5.trans x6).trans x7
    refine iAppK QA PS rfl (by decide) (OwK.ext hrow x47) (SlK.ofBlk (n := 1) hB7 rfl (by decide)) (fun z hz => by
      simp only [List.mem_cons, List.not_mem_nil, or_false] at hz
      rcases hz with rfl | rfl
      · exact hyl.cell
      · rfl) (by omega) (by omega) (Nat.le_trans x4.size x47.size) fun gv' w8 hrow8 hg8 hat8 => ?_
    refine iAdd (by omega) ?_
    have x8 : Ext w2 w8 := (x4.trans x47).grown hg8 fun c hc => (OwK.blk hrow c hc).1
    have hgr := dJ (S := fun k => gv.ownBlock = some k) hg8 fun k hk => hk
    have keep : ∀ {v' : Value} {L' : List Str}, TxW 0 w7 v' L' → TxW 0 w8 v' L' := fun h => h.ch hgr fun c hc hS => absurd (ne_ty (h.ty hc) (OwK.ty (OwK.ext hrow x47) hS)) (by decide)
    refine hKn (gv', i + 1) _ ⟨hil, x8, RG ++ [(y.vl, seqI y.i)], ?_, ?_, fun z hz => ?_⟩ (by show ps.length - (i + 1) < ps.length - i; omega)
    · show _ = (ps.take (i + 1)).map _
      rw [List.map_append, hRG, List.take_succ_eq_append_getElem hil, List.map_append, ← gt_eq hil]
      congr 1
      show [seqI y.i] = [seqI (gt (R.map IV.i) (gt ps i))]
      rw [hgi hqR, hy]
    · show OwK 2 _ _ _ gv' _ _
      rw [S0, List.length_append]
      exact hrow8
    · rcases List.mem_append.1 hz with hz | hz
      · exact keep ((hRL z hz).ext x47)
      · rw [List.mem_singleton.1 hz]
        exact keep (hyl.ext (x6.trans x7))
  · have hil : i = ps.length := by omega
    rw [hil, List.take_length] at hRG
    have hGs : GsW w4 gv (aQ L r rule main).1 := ⟨RG, by rw [hRG, show aQ L r rule main = _ from g3]; rfl, hrow.mono (Nat.zero_le _), hRL⟩
    refine iFa (iLdB hB4 (i := 0) (v := .int .i64 (rule : Int)) rfl ?_)
    refine iEq (iCndF (decide_eq_false (by have : rule ≤ 9 := g2; omega)) ?_)
    refine iLdA hB4 rfl ?_
    refine iFa (iLdB hB4 (i := 0) (v := .int .i64 (rule : Int)) rfl ?_)
    refine iFa (iLdB hB4 (i := 4) (v := sv main) rfl ?_)
    intro w15 x15
    have hl15 := hlm.ext (X4.trans x15)
    refine iRet (lB (x := ⟨⟨rule, ps, L, r, main⟩, vp, vl⟩) hl15.cell) fun w16 x16 => ⟨x16, fun w17 x17 => ?_⟩
    have x1517 := x16.trans x17
    refine iCall ((qJ (hl15.ext x1517) g6 g7 (by have : L.length ≤ 12 := g8; omega) g2).mono ?_)
    rintro _ w18 ⟨x18, u, rfl, hu⟩
    refine iEx rfl (iEx rfl ?_)
    intro w19 x19
    have x419 := ((x15.trans x1517).trans x18).trans x19
    have X19 := X4.trans x419
    refine iJnB true w19 (fun J hJ => ?_) (fun w21 x21 => fun _ => ⟨by first | trivial | rfl, X19.trans x21⟩)
    refine iCndT (by rw [show aQ L r rule main = _ from g3]) ?_
    exact iRet (OR (hGs.ext x419) (hu.ext x19)) fun w22 x22 => hJ _ x22
theorem sB {R : List IV} {v : Value} {w : World} (hR : R.length ≤ 60) (hp : PrW t_i64 aA w v R) (hg : ∀ k, k < R.length → nI (R.map IV.i) k) : Ret Tryz.prog jU #[v] w (.int .i64 (-1)) := by
  apply uE; unfold jJ
  refine iLenK hp.row ?_
  refine iLp (fun i : Nat => [.int .i64 (i : Int)]) (fun i w' => i ≤ R.length ∧ Ext w w') (fun i => R.length - i) 0 rfl ⟨Nat.zero_le _, Ext.refl _⟩ ?_
  rintro i w2 Kn ⟨hi, x2⟩ hKn
  intro _
  simp only [gx]
  refine iLt (iCndP (fun h => ?_) (fun h => ⟨by first | trivial | rfl, x2⟩))
  have hil : i < R.length := by omega
  have hm : gt R i ∈ R := by rw [gt_eq hil]; exact List.getElem_mem _
  have hp2 := hp.ext x2
  refine iAt5 hp2.row rfl hil ?_
  refine iNew5 fun q3 w3 hq3 x3 hB3 => ?_
  refine iStAB hB3 rfl rfl (fun y hy => ?_) fun w4 hu4 hB4 => ?_
  · simp only [IV.cs, List.mem_cons, List.not_mem_nil, or_false] at hy
    rcases hy with rfl | rfl | rfl | rfl | rfl
    · rfl
    · exact (hp2.prem _ hm).cell
    · exact (hp2.left _ hm).cell
    · rfl
    · rfl
  have x24 : Ext w2 w4 := x3.upd hu4 (by omega)
  have hp4 := hp2.ext x24
  refine WN hp4.row (by omega) fun v' hv' => ?_
  rw [Q8] at hv'
  refine iLdA hB4 rfl ?_
  refine iRetQ (fun w' x' => uR hil hR (hg i hil) (SlK.ext hv' x') (fun x hx => (hp4.prem x hx).ext x') (fun x hx => (hp4.left x hx).ext x')) ?_
  refine iNot ?_
  intro w5 x5
  refine iCndF rfl (iAdd (by omega) ?_)
  exact hKn (i + 1) _ ⟨by omega, (x2.trans x24).trans x5⟩ (by omega)
theorem sD {R : List IV} {v : Value} {w : World} (h1 : 1 ≤ R.length) (hR : R.length ≤ 60) (hp : PrW t_i64 aA w v R) (hg : ∀ k, k < R.length → nI (R.map IV.i) k) : Ret Tryz.prog jW #[v] w (.tuple #[.int .i64 (-1), .int .i64 0]) := by
  apply sJ; unfold jR
  refine iRet (v := .bool true) ?_ fun w1 x1 => ?_
  · apply uO; unfold kR
    refine iJnB true w (fun J hJ => ?_) (fun w2 x2 => fun _ => ⟨by first | trivial | rfl, x2⟩)
    refine iLenK hp.row (iLe (iCndT (decide_eq_true (by omega)) ?_))
    refine iLenK hp.row (iLe ?_)
    rw [decide_eq_true (by omega)]
    exact hJ _ (Ext.refl _)
  refine iNot (iCndF rfl ?_)
  exact iRet (sB hR (hp.ext x1) hg) fun w2 x2 => ⟨rfl, x1.trans x2⟩
end Go.Proofs.YtcfnoofghbmiiaaGreatDoor

namespace Go.Vc
end Go.Vc
namespace Go.Proofs.YtcfnoofghbmiiaaGreatDoor
open Go.Vc
theorem RK {vc : Value} {w : World} {bs : List Nat} (hc : SlB w vc bs) : Ret Tryz.prog KH #[vc] w (.bool (decide ((4096 : Int) < (bs.length : Nat)))) := by
  apply S7; unfold LA
  refine iLenB hc ?_
  refine iLt ?_
  exact ⟨rfl, Ext.refl _⟩
end Go.Proofs.YtcfnoofghbmiiaaGreatDoor

namespace Go.Vc
theorem UD {P : Program} {w : World} {t t0 t1 t2 : TypeId} {x : Itm} {xo yo : Operand} {K : Value → Prop} (hu : P.underlying t = some (.struct (P.fieldsOf t))) (hp : P.stoodInHeld t = false) (hg : P.eqGuardType P.depth t = false)
    (hf : (P.fieldsOf t).toList.map (fun f => (f.name == "_", f.offset, f.type)) = [(false, 0, t0), (false, 1, t1), (false, 2, t2)]) (h0 : P.underlying t0 = some .string) (h1 : P.underlying t1 = some .string) (h2 : P.underlying t2 = some (.int .i64))
    (h : K (.bool false)) : xR P w (do eqGuard .neq t xo yo x.val x.val; binOp .neq t x.val x.val) K := by
  refine ⟨_, fun w' _ => ?_, h⟩
  obtain ⟨f0, f1, f2, hl, n0, n1, n2, o0, o1, o2, rfl, rfl, rfl⟩ : ∃ f0 f1 f2, (P.fieldsOf t).toList = [f0, f1, f2] ∧ ¬ f0.name = "_" ∧ ¬ f1.name = "_" ∧ ¬ f2.name = "_" ∧ f0.offset = 0 ∧ f1.offset = 1 ∧ f2.offset = 2 ∧ f0.type = t0 ∧ f1.type = t1 ∧ f2.type = t2 := by
    generalize (P.fieldsOf t).toList = l at hf
    rcases l with _ | ⟨f0, _ | ⟨f1, _ | ⟨f2, _ | ⟨f3, l⟩⟩⟩⟩ <;> simp at hf
    exact ⟨f0, f1, f2, rfl, hf.1.1, hf.2.1.1, hf.2.2.1, hf.1.2.1, hf.2.1.2.1, hf.2.2.2.1, hf.1.2.2, hf.2.1.2.2, hf.2.2.2.2⟩
  have pt : ∀ (t : TypeId) (cs : Array Value) (o : Nat) (x : Value), (P.underlying t = some (.int .i64) ∨ P.underlying t = some .string) → cs[o]? = some x → (part t cs o).run P w' = .ok x w' := fun t cs o x ht hx => by
    have hg : isAgg? P t = some false := by rcases ht with ht | ht <;> simp [isAgg?, ht]
    simp [part, mH hg, hx]
  have eqs : ∀ (d : Nat) (t : TypeId) (a : Str), P.underlying t = some .string → (Op.equalIn (d + 1) t (sv a) (sv a)).run P w' = .ok true w' := fun d t a ht => by
    have := run_equalIn_string w' d t ⟨a.toArray⟩ ⟨a.toArray⟩ ht
    simpa using this
  show ((do eqGuard .neq t xo yo (.agg #[sv x.nm, sv x.fm, .int .i64 x.cl]) (.agg #[sv x.nm, sv x.fm, .int .i64 x.cl]); binOp .neq t (.agg #[sv x.nm, sv x.fm, .int .i64 x.cl]) (.agg #[sv x.nm, sv x.fm, .int .i64 x.cl])) : Sem Value).run P w' = .ok (.bool false) w'
  rw [Sem.run_bind, run_eqGuard_agg w' .neq t xo yo _ _ hg, Result.andThen_ok, run_neq_struct, run_equalIn_struct w' 9999 t _ _ hu hp, hl]
  simp only [Op.eqFields, ne_eq, n0, n1, n2, not_false_eq_true, if_true, o0, o1, o2, Sem.run_bind]
  rw [pt _ _ 0 (sv x.nm) (.inr h0) rfl, Result.andThen_ok, pt _ _ 0 (sv x.nm) (.inr h0) rfl, Result.andThen_ok, eqs 9998 _ x.nm h0, Result.andThen_ok]
  simp only [Bool.not_true, Bool.false_eq_true, if_false, Sem.run_bind]
  rw [pt _ _ 1 (sv x.fm) (.inr h1) rfl, Result.andThen_ok, pt _ _ 1 (sv x.fm) (.inr h1) rfl, Result.andThen_ok, eqs 9998 _ x.fm h1, Result.andThen_ok]
  simp only [Bool.not_true, Bool.false_eq_true, if_false, Sem.run_bind]
  rw [pt _ _ 2 (.int .i64 x.cl) (.inl h2) rfl, Result.andThen_ok, pt _ _ 2 (.int .i64 x.cl) (.inl h2) rfl, Result.andThen_ok, run_equalIn_int w' 9998 _ .i64 .i64 _ _ h2, Result.andThen_ok]
  simp
end Go.Vc
namespace Go.Proofs.YtcfnoofghbmiiaaGreatDoor
open Go.Vc
theorem NP : (Tryz.prog.fieldsOf 36).toList.map (fun f => (f.name == "_", f.offset, f.type)) = [(false, 0, aA), (false, 1, aA), (false, 2, t_i64)] := by kernel_rfl
theorem xL : Tryz.prog.underlying aA = some .string := by kernel_rfl
theorem UE : Tryz.prog.underlying t_i64 = some (.int .i64) := by kernel_rfl
end Go.Proofs.YtcfnoofghbmiiaaGreatDoor

namespace Go.Vc
theorem VA {j : Jn} (h : Reach j) : ∀ e ∈ j.ents, e.sz ≤ 1000 := by
  induction h with
  | nil => intro e he; cases he
  | @add j j' e hr hb ha ih =>
    obtain ⟨L, _, rfl⟩ := iA ha
    intro e' he'
    rcases List.mem_append.1 he' with he' | he'
    · exact ih e' he'
    · rw [List.mem_singleton.1 he']
      obtain ⟨h1, h2⟩ := EY hb
      have h3 := BO h1
      show e.nm.length + e.fm.length ≤ 1000
      rcases h2 with ⟨_, h2⟩ | ⟨_, h2⟩ | ⟨_, h2⟩
      · have := FI h2; omega
      · rw [h2]; simp; omega
      · rw [h2]; simp; omega
theorem VN {t : Str} (hg : goodT t = true) (hc : iU t = true) : SmT t ∧ VT [] t := by
  obtain ⟨⟨a, ha, rfl⟩, -⟩ := SY hg
  unfold iU at hc
  rw [aE ha, Bool.and_eq_true, Bool.and_eq_true, decide_eq_true_eq, dF] at hc
  exact ⟨SmT.of ha hc.1 hc.2.1, oU ha hc.2.2⟩
theorem WE {L : List Itm} {t : Str} : t ∈ clF L ↔ ∃ x ∈ L, x.cl = 1 ∧ x.fm = t := by
  unfold clF
  rw [List.mem_map]
  constructor
  · rintro ⟨x, hx, rfl⟩
    rw [List.mem_filter, decide_eq_true_eq] at hx
    exact ⟨x, hx.1, hx.2, rfl⟩
  · rintro ⟨x, hx, h1, rfl⟩
    exact ⟨x, List.mem_filter.2 ⟨hx, decide_eq_true h1⟩, rfl⟩
theorem WT {L : List Itm} {x : Itm} (hx : x ∈ L) : hasI L x.nm = true := List.any_eq_true.2 ⟨x, hx, decide_eq_true rfl⟩
theorem U9 {L : List Itm} (h : IncI L) {i : Nat} (hi : i < L.length) : posI L (gt L i).nm = i :=
  tR (by omega) (fun k hk => h k i hk hi) (fun _ => bS _)
end Go.Vc
namespace Go.Proofs.YtcfnoofghbmiiaaGreatDoor
open Go.Vc
theorem qD {vc : Value} {w : World} {bs : List Nat} (hc : SlB w vc bs) : Cal Tryz.prog iQ #[vc] w fun r w' => Ext w w' ∧ ∃ t : Str, r = sv t ∧ t.length ≤ 4610 := by
  apply qQ; unfold iO
  refine iCall ((IY hc).mono ?_)
  rintro _ w2 ⟨b, rfl, hS2⟩
  refine iCall ((I3 (by decide) hc hS2).mono ?_)
  rintro _ w3 ⟨⟨t, rfl, ht⟩, hS3, hch3⟩
  exact ⟨hS3.ext, t, rfl, ht⟩
theorem DJ {w : World} {vc : Value} {bs : List Nat} (hT : TabOk w) (hc : SlB w vc bs) : Ret Tryz.prog p8 #[vc] w (.bool true) := by
  apply FD; unfold qN
  refine iRet (RK hc) fun w1 x1 => ?_
  refine iCndP (fun _ => ⟨by first | trivial | rfl, x1⟩) (fun _ => ?_)
  refine iCall ((qD (hc.ext x1)).mono ?_)
  rintro _ w2 ⟨x2, t, rfl, ht⟩
  have X2 := x1.trans x2
  refine iRet (uH (t := t) (by omega) (hT.ext X2)) fun w3 x3 => ?_
  refine iRet (uS (t := t) (by omega) w3) fun w4 x4 => ?_
  have X4 := (X2.trans x3).trans x4
  refine iNeT (iCndF (decide_eq_false fun h => h rfl) ?_)
  have hR := TF t
  have hJ := QK hR
  obtain ⟨htk, htl⟩ := NR t
  have hen := T1 t
  have hset := UK hR
  have hsz := VA hR
  have hrep : replJ jn0 (openJ t).ents = ((openJ t).text, 0) := by
    have := S4 hR (by omega) hen []
    rwa [List.append_nil] at this
  obtain ⟨hci, hct⟩ := P9 hJ
  have hcl : (eQ [] (cpE (openJ t).items)).length ≤ 6000 := by
    obtain ⟨j, hf, _, _, _, _, hp⟩ := sA hJ _ (Nat.le_refl _)
    rw [List.take_length] at hp
    rw [← hp]; exact hf.tx
  have hinc := hJ.incI
  refine iCall ((nJ (t := t) (by omega) (hT.ext X4)).mono ?_)
  rintro _ w5 ⟨x5, vi, rfl, hI5, hl12⟩
  refine iE30 (iE31 (iE32 ?_))
  have X5 := X4.trans x5
  refine iCall ((GQ (t := t) (by omega) (hT.ext X5)).mono ?_)
  rintro ve w6 ⟨x6, hE6, -⟩
  have X6 := X5.trans x6
  refine iRet (AY hE6.sl (fun e he => by have := hsz e he; omega) (hT.ext X6)) fun w7 x7 => ?_
  rw [hrep]
  refine iE20 (iE21 ?_)
  have X7 := X6.trans x7
  refine iCall ((nJ (t := eQ [] (cpE (openJ t).items)) (by omega) (hT.ext X7)).mono ?_)
  rintro _ w8 ⟨x8, va, rfl, hA8, -⟩
  rw [hci, hct] at *
  refine iE30 (iE31 (iE32 ?_))
  have X8 := X7.trans x8
  have hT8 := hT.ext X8
  have hI8 : SlIt w8 vi (openJ t).items := (hI5.ext ((x6.trans x7).trans x8)).sl
  have hA8 : SlIt w8 va (openJ t).items := hA8.sl
  have hE8 : SlK 3 w8 ve (openJ t).ents.length (cB (openJ t).ents) := (hE6.ext (x7.trans x8)).sl
  refine iJnB false w8 (fun J hJ => ?_) (fun w10 x10 => ?_)
  · refine iNe (iCndF (decide_eq_false fun h => h rfl) ?_)
    refine iLenK hE8 (iNe (iCndF (decide_eq_false fun h => h rfl) ?_))
    refine iLenT (iLt (iCndF (decide_eq_false (by omega)) ?_))
    refine iTxTo htl ?_
    rw [htk]
    refine iNeT (iCndF (decide_eq_false fun h => h rfl) ?_)
    refine iLenT (iNe (iCndF (decide_eq_false fun h => h rfl) ?_))
    refine iLenK hA8 (iLenK hI8 (iNe ?_))
    rw [decide_eq_false fun h => h rfl]
    exact hJ _ (Ext.refl _)
  intro _
  refine iCndF rfl ?_
  have X10 := X8.trans x10
  refine iCall ((uV (t := t) (by omega) (hT.ext X10)).mono ?_)
  rintro vc2 w11 ⟨x11, hC11, -⟩
  have x811 := x10.trans x11
  have X11 := X8.trans x811
  have hI := hI8.ext x811
  have hA := hA8.ext x811
  have hE := hE8.ext x811
  have hC : SlT w11 vc2 (setT (clF (openJ t).items)) := hC11.sl
  have hT11 := hT.ext X11
  have hcln : (setT (clF (openJ t).items)).length ≤ 12 := by
    have h1 := VK (clF (openJ t).items)
    have h2 := SC (openJ t).items
    omega
  have hclm : ∀ f, f ∈ setT (clF (openJ t).items) ↔ ∃ x ∈ (openJ t).items, x.cl = 1 ∧ x.fm = f := fun f => fA.trans WE
  clear hI8 hA8 hE8 hC11 hE6 hI5
  generalize setT (clF (openJ t).items) = C at *
  refine iLp (fun i : Nat => [.int .i64 (i : Int)]) (fun i w' => i ≤ (openJ t).items.length ∧ Ext w11 w') (fun i => (openJ t).items.length - i) 0 rfl ⟨Nat.zero_le _, Ext.refl _⟩ ?_
  rintro i w13 Kn ⟨hi, x13⟩ hKn
  have hI13 : SlIt w13 vi (openJ t).items := hI.ext x13
  have hA13 : SlIt w13 va (openJ t).items := hA.ext x13
  intro _
  simp only [gx]
  refine iLenK hI13 (iLt (iCndP (fun h => ?_) (fun h => ?_)))
  · have hil : i < (openJ t).items.length := by omega
    have hmem : gt (openJ t).items i ∈ (openJ t).items := by rw [gt_eq hil]; exact List.getElem_mem _
    have hhas := WT hmem
    have hpos := U9 hinc hil
    have hset := hset _ hmem
    have hsk := FX (gt (openJ t).items i).nm (openJ t).ents (openJ t).ents.length
    refine iJnB false w13 (fun J hJ => ?_) (fun w15 x15 => ?_)
    · refine iItm hA13 rfl hil (iItm hI13 rfl hil ?_)
      refine UD (by kernel_rfl) (by kernel_rfl) (by kernel_rfl) NP xL xL UE ?_
      refine iCndF rfl (iLt (iCndP (fun h0 => ?_) (fun h0 => ?_)))
      · refine iSub (by omega) ?_
        refine iNm (j := i - 1) hI13 (by omega) (by omega) (iNm hI13 rfl hil (iGeT ?_))
        rw [hinc (i - 1) i (by omega) hil]
        exact fun w17 x17 => hJ _ x17
      · exact fun w17 x17 => hJ _ x17
    intro _
    simp only [gx]
    refine iCndF rfl ?_
    have x1115 := x13.trans x15
    refine iNm (hI.ext x1115) rfl hil ?_
    refine iRet (GK (t := t) (n := (gt (openJ t).items i).nm) (by omega) (hT11.ext x1115)) fun w19 x19 => iE20 (iE21 ?_)
    have x1119 := x1115.trans x19
    refine iNm (hI.ext x1119) rfl hil ?_
    refine iRet (HW (t := t) (n := (gt (openJ t).items i).nm) (by omega) (hT11.ext x1119)) fun w20 x20 => iE20 (iE21 ?_)
    have x1120 := x1119.trans x20
    have e1 : fndC t (gt (openJ t).items i).nm = 0 := by unfold fndC; rw [if_pos hhas]
    have e2 : fndI t (gt (openJ t).items i).nm = gt (openJ t).items i := by unfold fndI; rw [if_pos hhas, hpos]
    have e3 : setL t (gt (openJ t).items i).nm = setK (gt (openJ t).items i).nm (openJ t).ents (openJ t).ents.length := by unfold setL; rw [if_pos hhas]
    rw [e1, e2, e3]
    generalize setK (gt (openJ t).items i).nm (openJ t).ents (openJ t).ents.length = s at *
    obtain ⟨hs1, hsf⟩ := hset
    refine iNew3 fun q w21 hq x21 hB21 => ?_
    refine iSt3 hB21 rfl rfl rfl rfl fun w22 hB22 hc22 => ?_
    have x2022 : Ext w20 w22 := x21.thenCh hc22 fun c hc => by omega
    have x1122 := x1120.trans x2022
    have hI22 : SlIt w22 vi (openJ t).items := hI.ext x1122
    refine iJnB false w22 (fun J hJ => ?_) (fun w24 x24 => ?_)
    · refine iAdd (by omega) (iNe (iCndF (decide_eq_false fun h => h rfl) ?_))
      refine iLt (iCndF (decide_eq_false (by omega)) ?_)
      refine iLt (iCndF (decide_eq_false (by omega)) ?_)
      refine iLd3 hB22 ?_
      refine iItm hI22 rfl hil ?_
      refine UD (x := gt (openJ t).items i) (by kernel_rfl) (by kernel_rfl) (by kernel_rfl) NP xL xL UE ?_
      refine iCndF rfl (iSub (by omega) ?_)
      have hsl : s - 1 < (openJ t).ents.length := by omega
      refine iFld (f := 2) (j := s - 1) (hE.ext x1122) (by omega) hsl (by decide) (ES hsl).2.2 ?_
      refine iFld (f := 1) (j := i) hI22 rfl hil (by decide) (iC hil).2.1 ?_
      rw [hsf]
      refine iNeT ?_
      rw [decide_eq_false fun h => h rfl]
      exact fun w29 x29 => hJ _ x29
    intro _
    simp only [gx]
    refine iCndF rfl ?_
    have x1124 := x1122.trans x24
    refine iLp (fun s : Bool × Nat => [.bool s.1, .int .i64 (s.2 : Int)]) (fun s w' => s.2 ≤ C.length ∧ Ext w24 w' ∧ (s.1 = true ↔ ∃ k, k < s.2 ∧ gt C k = (gt (openJ t).items i).fm)) (fun s => C.length - s.2) (false, 0) rfl ⟨Nat.zero_le _, Ext.refl _, ⟨fun e => (by cases e), fun ⟨k, hk, _⟩ => absurd hk (Nat.not_lt_zero k)⟩⟩ ?_
    rintro ⟨b, k⟩ w31 Kn2 ⟨hk, x31, hb⟩ hKn2
    have hk : k ≤ C.length := hk
    have hb : b = true ↔ ∃ m, m < k ∧ gt C m = (gt (openJ t).items i).fm := hb
    have x1131 := x1124.trans x31
    have hC31 : SlT w31 vc2 C := hC.ext x1131
    have hI31 : SlIt w31 vi (openJ t).items := hI.ext x1131
    intro _
    simp only [gx]
    refine bO hC31 (iLt (iCndP (fun h2 => ?_) (fun h2 => ?_)))
    · have hkl : k < C.length := by omega
      refine iJnB (b || decide (gt C k = (gt (openJ t).items i).fm)) w31 (fun J hJ => ?_) (fun w33 x33 => ?_)
      · refine iCnd (fun hbt => ?_) (fun hbf => ?_)
        · rw [hbt, Bool.true_or] at hJ
          exact fun w34 x34 => hJ _ x34
        · rw [hbf, Bool.false_or] at hJ
          refine iIaG hC31 rfl hkl ?_
          refine iFld (f := 1) (j := i) hI31 rfl hil (by decide) (iC hil).2.1 (iEqT ?_)
          exact fun w34 x34 => hJ _ x34
      intro _
      simp only [gx]
      refine iAdd (by omega) ?_
      refine hKn2 (_, k + 1) _ ⟨hkl, x31.trans x33, ?_⟩ (by show C.length - (k + 1) < C.length - k; omega)
      show (b || decide (gt C k = (gt (openJ t).items i).fm)) = true ↔ ∃ m, m < k + 1 ∧ gt C m = (gt (openJ t).items i).fm
      rw [Bool.or_eq_true, decide_eq_true_eq, hb]
      constructor
      · rintro (⟨m, hm, e⟩ | e)
        · exact ⟨m, by omega, e⟩
        · exact ⟨k, by omega, e⟩
      · rintro ⟨m, hm, e⟩
        by_cases hmk : m = k
        · subst hmk; exact .inr e
        · exact .inl ⟨m, by omega, e⟩
    · have hkc : k = C.length := by omega
      refine iJnB false w31 (fun J hJ => ?_) (fun w37 x37 => ?_)
      · refine iFld (f := 2) (j := i) hI31 rfl hil (by decide) (iC hil).2.2 (iEq (iCndP (fun h1 => ?_) (fun _ => hJ _ (Ext.refl _))))
        have hmC : (gt (openJ t).items i).fm ∈ C := (hclm _).2 ⟨_, hmem, h1, rfl⟩
        obtain ⟨m, hm, e⟩ := List.getElem_of_mem hmC
        have hbt : b = true := hb.2 ⟨m, by omega, by rw [gt_eq hm]; exact e⟩
        rw [hbt]
        exact iNot (hJ _ (Ext.refl _))
      intro _
      simp only [gx]
      refine iCndF rfl (iAdd (by omega) ?_)
      exact hKn (i + 1) _ ⟨hil, x1131.trans x37⟩ (by omega)
  · refine iLp (fun k : Nat => [.int .i64 (k : Int)]) (fun k w' => k ≤ C.length ∧ Ext w11 w') (fun k => C.length - k) 0 rfl ⟨Nat.zero_le _, x13⟩ ?_
    rintro k w39 Kn2 ⟨hk, x39⟩ hKn2
    have hC39 : SlT w39 vc2 C := hC.ext x39
    intro _
    simp only [gx]
    refine bO hC39 (iLt (iCndP (fun h2 => ?_) (fun h2 => ⟨by first | trivial | rfl, X11.trans x39⟩)))
    have hkl : k < C.length := by omega
    obtain ⟨x, hx, hx1, hxf⟩ := (hclm (gt C k)).1 (by rw [gt_eq hkl]; exact List.getElem_mem _)
    obtain ⟨-, ok2, -, ok4⟩ := hJ.ok x hx
    obtain ⟨hsm, hvt⟩ := VN ok2 (ok4 hx1)
    rw [hxf] at hsm hvt
    refine iBs0 fun u w40 hw40 x40 ho40 => ?_
    refine iIaG (hC39.ext x40) rfl hkl ?_
    have ho40 : TxW 0 w40 u [] := ho40.mono (Nat.zero_le _)
    refine iRet (JD ho40 hsm hvt) fun w41 x41 => iE20 (iE21 ?_)
    refine iBs0 fun u2 w42 hw42 x42 ho42 => ?_
    have x3942 := (x40.trans x41).trans x42
    refine iIaG (hC39.ext x3942) rfl hkl ?_
    have ho42 : TxW 0 w42 u2 [] := ho42.mono (Nat.zero_le _)
    refine iCall ((IP ho42 hsm hvt).mono ?_)
    rintro _ w43 ⟨x43, h43⟩
    have x3943 := x3942.trans x43
    rcases h43 with rfl | ⟨vp, R, rfl, hp, h1, h60, hg⟩
    · refine iE20 (iE21 ?_)
      refine iJnB false w43 (fun J hJ => ?_) (fun w45 x45 => ?_)
      · refine iNe (iCndF (decide_eq_false fun h => h rfl) ?_)
        refine iNot (iCndF rfl ?_)
        refine iNe (iCndT (by decide) (iNe ?_))
        exact hJ _ (Ext.refl _)
      intro _
      simp only [gx]
      refine iCndF rfl (iEq (iCndF (by decide) (iAdd (by omega) ?_)))
      exact hKn2 (k + 1) _ ⟨hkl, x39.trans (x3943.trans x45)⟩ (by omega)
    · refine iE20 (iE21 ?_)
      refine iJnB false w43 (fun J hJ => ?_) (fun w45 x45 => ?_)
      · refine iNe (iCndF (decide_eq_false fun h => h rfl) ?_)
        refine iNot (iCndF rfl ?_)
        refine iNe (iCndF (by decide) ?_)
        exact hJ _ (Ext.refl _)
      intro _
      simp only [gx]
      refine iCndF rfl (iEq (iCndT (by decide) ?_))
      refine iRet (sD h1 h60 (hp.ext x45) hg) fun w46 x46 => iE20 (iE21 ?_)
      refine iJnB false w46 (fun J hJ => ?_) (fun w48 x48 => ?_)
      · refine iNe (iCndF (by decide) (iNe ?_))
        exact hJ _ (Ext.refl _)
      intro _
      simp only [gx]
      refine iCndF rfl (iAdd (by omega) ?_)
      exact hKn2 (k + 1) _ ⟨hkl, x39.trans ((x3943.trans x45).trans (x46.trans x48))⟩ (by omega)
end Go.Proofs.YtcfnoofghbmiiaaGreatDoor
