/- The proof of FnResolutionCard, part 3 of 5. Conditions: none. -/
import Derived.Test.YtfadcafacpaldaaGreatDoorKR36b
import Derived.Maps.Own
/- Plain facts on lists in order without doubles: insertion, equal neighbours dropped, one list for each set; posets in order. No program in sight. Conditions: none. -/
namespace Go.Vc
section
variable {α : Type} {lt : α → α → Bool}
/-- A total order that tells all apart. -/
structure OrdA (lt : α → α → Bool) : Prop where
  o : Ordr lt
  anti : ∀ {a b}, lt a b = false → lt b a = false → a = b
theorem OrdA.tot (O : OrdA lt) (a b : α) : lt a b = true ∨ a = b ∨ lt b a = true := by
  cases h1 : lt a b
  · cases h2 : lt b a
    · exact .inr (.inl (O.anti h1 h2))
    · exact .inr (.inr rfl)
  · exact .inl rfl
theorem OrdA.trans (O : OrdA lt) {a b c : α} (h : lt a b = true) (k : lt b c = true) : lt a c = true := O.o.lt_le h (O.o.asym k)
abbrev IncA (lt : α → α → Bool) (L : List α) : Prop := L.Pairwise fun x y => lt x y = true
/-- Two lists in order with the same members are the same. -/
theorem incA_ext (O : OrdA lt) : ∀ {A B : List α}, IncA lt A → IncA lt B → (∀ x, x ∈ A ↔ x ∈ B) → A = B
  | [], [], _, _, _ => rfl
  | [], y :: B, _, _, h => by have := (h y).2 List.mem_cons_self; cases this
  | x :: A, [], _, _, h => by have := (h x).1 List.mem_cons_self; cases this
  | x :: A, y :: B, hA, hB, h => by
    rw [IncA, List.pairwise_cons] at hA hB
    have irr : ∀ z, lt z z = false := O.o.rfl
    have e : x = y := by
      rcases List.mem_cons.1 ((h x).1 List.mem_cons_self) with e | e
      · exact e
      · rcases List.mem_cons.1 ((h y).2 List.mem_cons_self) with e' | e'
        · exact e'.symm
        · have h1 := hB.1 x e
          have h2 := hA.1 y e'
          rw [O.o.asym h1] at h2; cases h2
    subst e
    rw [incA_ext O hA.2 hB.2 fun z => ?_]
    have hz := h z
    simp only [List.mem_cons] at hz
    constructor
    · intro hm
      rcases hz.1 (.inr hm) with e | e
      · subst e; have := hA.1 z hm; rw [irr] at this; cases this
      · exact e
    · intro hm
      rcases hz.2 (.inr hm) with e | e
      · subst e; have := hB.1 z hm; rw [irr] at this; cases this
      · exact e
/-- Laid into a list in order, if it is not there. -/
def insA (lt : α → α → Bool) (t : α) : List α → List α
  | [] => [t]
  | x :: l => if lt x t then x :: insA lt t l else if lt t x then t :: x :: l else x :: l
theorem mem_insA (O : OrdA lt) {t x : α} : ∀ {l : List α}, x ∈ insA lt t l ↔ x = t ∨ x ∈ l
  | [] => by simp [insA]
  | y :: l => by
    unfold insA
    split
    · rw [List.mem_cons, mem_insA O, List.mem_cons]
      constructor
      · rintro (h | h | h)
        · exact .inr (.inl h)
        · exact .inl h
        · exact .inr (.inr h)
      · rintro (h | h | h)
        · exact .inr (.inl h)
        · exact .inl h
        · exact .inr (.inr h)
    · rename_i h1
      split
      · simp
      · rename_i h2
        have := O.anti (by simpa using h1) (by simpa using h2)
        subst this; simp
theorem inc_insA (O : OrdA lt) {t : α} : ∀ {l : List α}, IncA lt l → IncA lt (insA lt t l)
  | [], _ => by simp [insA, IncA]
  | y :: l, h => by
    have h' := List.pairwise_cons.1 h
    unfold insA
    split
    · rename_i hy
      refine List.pairwise_cons.2 ⟨fun z hz => ?_, inc_insA O h'.2⟩
      rcases (mem_insA O).1 hz with e | e
      · subst e; exact hy
      · exact h'.1 z e
    · split
      · rename_i hty
        refine List.pairwise_cons.2 ⟨fun z hz => ?_, h⟩
        rcases List.mem_cons.1 hz with e | e
        · subst e; exact hty
        · exact O.trans hty (h'.1 z e)
      · exact h
theorem insA_split {t : α} [Inhabited α] : ∀ {l : List α} {k : Nat}, k ≤ l.length → (∀ i, i < k → lt (gt l i) t = true) → insA lt t l = l.take k ++ insA lt t (l.drop k)
  | _, 0, _, _ => rfl
  | [], k + 1, hk, _ => by simp at hk
  | x :: l, k + 1, hk, h => by
    have h0 : lt x t = true := h 0 (by omega)
    have := insA_split (t := t) (l := l) (k := k) (by simpa using hk) fun i hi => h (i + 1) (by omega)
    rw [insA, if_pos h0, this]
    rfl
theorem insA_len (t : α) : ∀ l : List α, (insA lt t l).length ≤ l.length + 1
  | [] => by simp [insA]
  | x :: l => by
    have := insA_len t l
    unfold insA
    split <;> (try split) <;> simp [List.length_cons] <;> omega
/-- The set of a list's members, in order. -/
def setA (lt : α → α → Bool) (l : List α) : List α := l.foldl (fun a x => insA lt x a) []
theorem setA_snoc (l : List α) (x : α) : setA lt (l ++ [x]) = insA lt x (setA lt l) := by simp [setA]
theorem inc_setA (O : OrdA lt) (l : List α) : IncA lt (setA lt l) := by
  unfold setA
  suffices h : ∀ (l a : List α), IncA lt a → IncA lt (l.foldl (fun a x => insA lt x a) a) from h l [] List.Pairwise.nil
  intro l
  induction l with
  | nil => intro a h; exact h
  | cons x l ih => intro a h; exact ih _ (inc_insA O h)
theorem mem_setA (O : OrdA lt) {x : α} {l : List α} : x ∈ setA lt l ↔ x ∈ l := by
  unfold setA
  suffices h : ∀ (l a : List α), x ∈ l.foldl (fun a x => insA lt x a) a ↔ x ∈ l ∨ x ∈ a by simpa using h l []
  intro l
  induction l with
  | nil => intro a; simp
  | cons y l ih =>
    intro a
    rw [List.foldl_cons, ih, mem_insA O, List.mem_cons]
    constructor
    · rintro (h | h | h)
      · exact .inl (.inr h)
      · exact .inl (.inl h)
      · exact .inr h
    · rintro ((h | h) | h)
      · exact .inr (.inl h)
      · exact .inl h
      · exact .inr (.inr h)
theorem setA_len (l : List α) : (setA lt l).length ≤ l.length := by
  suffices h : ∀ (l a : List α), (l.foldl (fun a x => insA lt x a) a).length ≤ a.length + l.length by simpa [setA] using h l []
  intro l
  induction l with
  | nil => intro a; simp
  | cons y l ih =>
    intro a
    have := ih (insA lt y a)
    have := insA_len (lt := lt) y a
    rw [List.foldl_cons, List.length_cons]; omega
variable {β : Type} {key : β → α}
/-- Those whose key is not the key of the one before. -/
def ddA (lt : α → α → Bool) (key : β → α) : List β → List β
  | [] => []
  | x :: l => go x l [x]
 where go (x : β) : List β → List β → List β
  | [], acc => acc
  | y :: l, acc => if lt (key x) (key y) || lt (key y) (key x) then go y l (acc ++ [y]) else go y l acc
theorem ddA_go_snoc (x : β) : ∀ (l acc : List β) (y : β), ddA.go lt key x (l ++ [y]) acc = if lt (key ((x :: l).getLastD x)) (key y) || lt (key y) (key ((x :: l).getLastD x)) then ddA.go lt key x l acc ++ [y] else ddA.go lt key x l acc
  | [], acc, y => by simp [ddA.go]
  | z :: l, acc, y => by
    simp only [List.cons_append, ddA.go]
    have e : (x :: z :: l).getLastD x = (z :: l).getLastD z := by simp [List.getLastD]
    rw [e]
    split <;> exact ddA_go_snoc z l _ y
theorem ddA_take [Inhabited β] {l : List β} {i : Nat} (h0 : 1 ≤ i) (hi : i < l.length) : ddA lt key (l.take (i + 1)) = if lt (key (gt l (i - 1))) (key (gt l i)) || lt (key (gt l i)) (key (gt l (i - 1))) then ddA lt key (l.take i) ++ [gt l i] else ddA lt key (l.take i) := by
  match l, hi with
  | x :: l, hi =>
    obtain ⟨k, rfl⟩ : ∃ k, i = k + 1 := ⟨i - 1, by omega⟩
    have hk : k < l.length := by simpa using hi
    have e2 : (x :: l).take (k + 1 + 1) = x :: (l.take k ++ [gt l k]) := by rw [List.take_succ_cons, List.take_succ_eq_append_getElem hk, gt_eq hk]
    have e3 : gt (x :: l) (k + 1) = gt l k := rfl
    have e4 : (x :: l.take k).getLastD x = gt (x :: l) (k + 1 - 1) := by
      cases k with
      | zero => simp [gt]
      | succ k =>
        rw [List.take_succ_eq_append_getElem (by omega), ← List.cons_append, List.getLastD_concat]
        show l[k] = gt l k
        rw [gt_eq (by omega)]
    rw [e2, List.take_succ_cons]
    show ddA.go lt key x (l.take k ++ [gt l k]) [x] = _
    rw [ddA_go_snoc, e4, e3]
    rfl
theorem ddA_one [Inhabited β] {l : List β} (h : 0 < l.length) : ddA lt key (l.take 1) = [gt l 0] := by
  cases l with
  | nil => simp at h
  | cons x l => rfl
theorem ddA_spec [Inhabited β] (O : OrdA lt) {l : List β} (hs : l.Pairwise fun x y => lt (key y) (key x) = false) : ∀ k, k ≤ l.length → List.Sublist (ddA lt key (l.take k)) (l.take k) ∧ IncA lt ((ddA lt key (l.take k)).map key) ∧ (∀ a, a ∈ (l.take k).map key → a ∈ (ddA lt key (l.take k)).map key) := by
  intro k
  induction k with
  | zero => intro _; simp [ddA]
  | succ k ih =>
    intro hk
    obtain ⟨h1, h2, h3⟩ := ih (by omega)
    rcases Nat.eq_zero_or_pos k with h0 | h0
    · subst h0
      rw [ddA_one (by omega)]
      cases l with
      | nil => simp at hk
      | cons x l => simp [gt, IncA]
    have et : l.take (k + 1) = l.take k ++ [gt l k] := by rw [List.take_succ_eq_append_getElem hk, gt_eq hk]
    have hpre : gt l (k - 1) ∈ l.take k := by
      rw [gt_eq (by omega), List.mem_take_iff_getElem]
      exact ⟨k - 1, by omega, rfl⟩
    rw [ddA_take h0 hk]
    have hall : ∀ b ∈ l.take k, lt (key (gt l k)) (key b) = false := by
      have := List.Pairwise.sublist (List.take_sublist (k + 1) l) hs
      rw [et, List.pairwise_append] at this
      exact fun b hb => this.2.2 b hb _ (by simp)
    split
    · rename_i hlt
      rw [hall _ hpre, Bool.or_false] at hlt
      refine ⟨?_, ?_, ?_⟩
      · rw [et]; exact h1.append (List.Sublist.refl _)
      · rw [List.map_append]
        refine List.pairwise_append.2 ⟨h2, by simp, fun a ha b hb => ?_⟩
        simp only [List.map_cons, List.map_nil, List.mem_singleton] at hb
        subst hb
        obtain ⟨c, hc, rfl⟩ := List.mem_map.1 ha
        have hc' := h1.subset hc
        -- c stands at or before k - 1
        have hle : lt (key (gt l (k - 1))) (key c) = false := by
          rw [List.mem_take_iff_getElem] at hc'
          obtain ⟨i, hi, rfl⟩ := hc'
          rcases Nat.lt_or_ge i (k - 1) with h | h
          · rw [gt_eq (by omega)]
            exact (List.pairwise_iff_getElem.1 hs) i (k - 1) (by omega) (by omega) h
          · have : i = k - 1 := by omega
            subst this
            rw [gt_eq (by omega)]
            exact O.o.rfl _
        exact O.o.le_lt hle hlt
      · intro a ha
        rw [et, List.map_append, List.mem_append] at ha
        rw [List.map_append, List.mem_append]
        rcases ha with ha | ha
        · exact .inl (h3 a ha)
        · exact .inr ha
    · rename_i hlt
      rw [Bool.or_eq_true, not_or] at hlt
      have e : key (gt l (k - 1)) = key (gt l k) := O.anti (by simpa using hlt.1) (by simpa using hlt.2)
      refine ⟨?_, h2, ?_⟩
      · rw [et]; exact h1.trans (List.sublist_append_left _ _)
      · intro a ha
        rw [et, List.map_append, List.mem_append] at ha
        rcases ha with ha | ha
        · exact h3 a ha
        · simp only [List.map_cons, List.map_nil, List.mem_singleton] at ha
          subst ha
          rw [← e]
          exact h3 _ (List.mem_map_of_mem hpre)
theorem ddA_set [Inhabited β] (O : OrdA lt) {l : List β} {m : List α} (hs : l.Pairwise fun x y => lt (key y) (key x) = false) (hp : ∀ a, a ∈ l.map key ↔ a ∈ m) : (ddA lt key l).map key = setA lt m := by
  obtain ⟨h1, h2, h3⟩ := ddA_spec O hs l.length (Nat.le_refl _)
  rw [List.take_length] at h1 h2 h3
  refine incA_ext O h2 (inc_setA O m) fun x => ?_
  rw [mem_setA O, ← hp]
  exact ⟨fun h => (h1.map key).subset h, h3 x⟩
end
end Go.Vc

/- Plain law of the search for refutations: clauses, resolvents, the steps of the program and of the reference are the same. No program in sight. Conditions: none. -/
namespace Go.Vc
/-- A clause: literals in order, one a variable. -/
def ClOk (c : List Int) : Prop := (∀ l ∈ c, 0 ≤ l ∧ l ≤ 11) ∧ c.Pairwise fun a b => a / 2 < b / 2
/-- What both programs test, place by place. -/
def ClAt (c : List Int) (i : Nat) : Prop := (0 ≤ c.getD i 0 ∧ c.getD i 0 ≤ 11) ∧ (0 < i → c.getD (i - 1) 0 / 2 < c.getD i 0 / 2)
theorem clOk_of {c : List Int} (h : ∀ i, i < c.length → ClAt c i) : ClOk c := by
  refine ⟨fun l hl => ?_, ?_⟩
  · obtain ⟨i, hi, rfl⟩ := List.getElem_of_mem hl
    have := (h i hi).1
    simpa [List.getD_eq_getElem?_getD, hi] using this
  · rw [List.pairwise_iff_getElem]
    intro i j hi hj hij
    suffices H : ∀ d, i + 1 + d < c.length → c.getD i 0 / 2 < c.getD (i + 1 + d) 0 / 2 by
      have := H (j - (i + 1)) (by omega)
      rw [show i + 1 + (j - (i + 1)) = j by omega] at this
      simpa [List.getD_eq_getElem?_getD, hi, hj] using this
    intro d
    induction d with
    | zero =>
      intro hd
      have := (h (i + 1) (by omega)).2 (by omega)
      simpa using this
    | succ d ih =>
      intro hd
      have h1 := ih (by omega)
      have h2 := (h (i + 1 + (d + 1)) hd).2 (by omega)
      rw [show i + 1 + (d + 1) - 1 = i + 1 + d by omega] at h2
      omega
theorem ClOk.at {c : List Int} (h : ClOk c) {i : Nat} (hi : i < c.length) : ClAt c i := by
  have e : ∀ k, k < c.length → c.getD k 0 = c[k]! := fun k hk => by simp [List.getD_eq_getElem?_getD, hk]
  refine ⟨?_, fun h0 => ?_⟩
  · have := h.1 c[i] (List.getElem_mem hi)
    simpa [List.getD_eq_getElem?_getD, hi] using this
  · have := (List.pairwise_iff_getElem.1 h.2) (i - 1) i (by omega) hi (by omega)
    have h1 : i - 1 < c.length := by omega
    simpa [List.getD_eq_getElem?_getD, hi, h1] using this
instance (c : List Int) : Decidable (ClOk c) := inferInstanceAs (Decidable (_ ∧ _))
theorem ClOk.lt {c : List Int} (h : ClOk c) : c.Pairwise fun a b => a < b := h.2.imp fun h => by omega
/-- Clauses with the same members are the same. -/
theorem ClOk.ext {c d : List Int} (hc : ClOk c) (hd : ClOk d) (h : ∀ l, l ∈ c ↔ l ∈ d) : c = d := by
  have O : OrdA (fun a b : Int => decide (a < b)) := ⟨⟨fun {a b} h => by simp at h ⊢; omega, fun {a b c} h k => by simp at h k ⊢; omega⟩, fun {a b} h k => by simp at h k; omega⟩
  exact incA_ext O (hc.lt.imp fun h => decide_eq_true h) (hd.lt.imp fun h => decide_eq_true h) h
/-- The literals of a resolvent. -/
def resL (c d : List Int) (v : Int) : List Int := ((List.range 12).map fun k : Nat => (k : Int)).filter fun l => decide (¬ l / 2 = v) && (decide (l ∈ c) || decide (l ∈ d))
theorem mem_resL {c d : List Int} {v l : Int} : l ∈ resL c d v ↔ (0 ≤ l ∧ l ≤ 11) ∧ ¬ l / 2 = v ∧ (l ∈ c ∨ l ∈ d) := by
  unfold resL
  rw [List.mem_filter, List.mem_map, Bool.and_eq_true, decide_eq_true_eq, Bool.or_eq_true, decide_eq_true_eq, decide_eq_true_eq]
  constructor
  · rintro ⟨⟨k, hk, rfl⟩, h⟩
    have := List.mem_range.1 hk
    exact ⟨⟨by omega, by omega⟩, h⟩
  · rintro ⟨h1, h2⟩
    exact ⟨⟨l.toNat, List.mem_range.2 (by omega), Int.toNat_of_nonneg h1.1⟩, h2⟩
theorem resL_lt (c d : List Int) (v : Int) : (resL c d v).Pairwise fun a b => a < b := by
  unfold resL
  refine List.Pairwise.filter _ ?_
  rw [List.pairwise_map]
  exact List.pairwise_lt_range.imp fun h => by omega
/-- The resolvent on a variable, if there is one. -/
def resC (c d : List Int) (v : Int) : Option (List Int) := if 2 * v ∈ c ∧ 2 * v + 1 ∈ d ∧ ClOk (resL c d v) then some (resL c d v) else none
theorem resC_ok {c d r : List Int} {v : Int} (h : resC c d v = some r) : ClOk r := by
  unfold resC at h
  split at h
  · rename_i h'
    cases h
    exact h'.2.2
  · cases h
/-- Both ways are never open. -/
theorem resC_one {c d : List Int} {v : Int} (hc : ClOk c) (h : resC c d v ≠ none) : resC d c v = none := by
  unfold resC at h ⊢
  rw [if_neg]
  rintro ⟨h1, h2, h3⟩
  refine h (if_neg ?_)
  rintro ⟨h4, _, _⟩
  obtain ⟨i, hi, e1⟩ := List.getElem_of_mem h4
  obtain ⟨j, hj, e2⟩ := List.getElem_of_mem h2
  rcases Nat.lt_trichotomy i j with h | h | h
  · have := (List.pairwise_iff_getElem.1 hc.2) i j hi hj h
    omega
  · subst h; omega
  · have := (List.pairwise_iff_getElem.1 hc.2) j i hj hi h
    omega
/-- A step: the clause, and of which steps and on which variable it is the resolvent. -/
structure Rs where
  c : List Int
  f : Int
  s : Int
  v : Int
/-- The steps so far, and whether the empty clause is reached. -/
abbrev RfSt := List Rs × Bool
def addS (st : RfSt) (s : Rs) : RfSt := if s.c ∈ st.1.map Rs.c then st else (st.1 ++ [s], s.c.isEmpty)
instance : Inhabited Rs := ⟨⟨[], 0, 0, 0⟩⟩
/-- One pair on one variable. -/
def pstep (j i v : Nat) (st : RfSt) : RfSt :=
  if st.2 then st else
  match resC (st.1.getD i default).c (st.1.getD j default).c v with
  | some r => addS st ⟨r, i, j, v⟩
  | none => match resC (st.1.getD j default).c (st.1.getD i default).c v with
    | some r => addS st ⟨r, j, i, v⟩
    | none => st
def remV (j i k : Nat) (st : RfSt) : RfSt := (List.range' k (6 - k)).foldl (fun st v => pstep j i v st) st
def remI (j k : Nat) (st : RfSt) : RfSt := (List.range' k (j - k)).foldl (fun st i => remV j i 0 st) st
def remJ : Nat → Nat → RfSt → RfSt
  | 0, _, st => st
  | n + 1, j, st => if st.2 || decide (st.1.length ≤ j) then st else remJ n (j + 1) (remI j 0 st)
theorem pstep_done (j i v : Nat) {st : RfSt} (h : st.2 = true) : pstep j i v st = st := by unfold pstep; rw [if_pos h]
theorem foldl_done {α : Type} {f : RfSt → α → RfSt} (hf : ∀ st a, st.2 = true → f st a = st) : ∀ (l : List α) (st : RfSt), st.2 = true → l.foldl f st = st
  | [], _, _ => rfl
  | a :: l, st, h => by rw [List.foldl_cons, hf st a h]; exact foldl_done hf l st h
theorem remV_done (j i k : Nat) {st : RfSt} (h : st.2 = true) : remV j i k st = st := foldl_done (fun _ a h => pstep_done j i a h) _ _ h
theorem remI_done (j k : Nat) {st : RfSt} (h : st.2 = true) : remI j k st = st := foldl_done (fun _ a h => remV_done j a 0 h) _ _ h
theorem remJ_done (n j : Nat) {st : RfSt} (h : st.2 = true) : remJ n j st = st := by
  cases n with
  | zero => rfl
  | succ n => rw [remJ, h]; rfl
theorem remV_step {j i k : Nat} (hk : k < 6) (st : RfSt) : remV j i k st = remV j i (k + 1) (pstep j i k st) := by
  unfold remV
  rw [show 6 - k = (6 - (k + 1)) + 1 by omega, List.range'_succ, List.foldl_cons]
theorem remI_step {j k : Nat} (hk : k < j) (st : RfSt) : remI j k st = remI j (k + 1) (remV j k 0 st) := by
  unfold remI
  rw [show j - k = (j - (k + 1)) + 1 by omega, List.range'_succ, List.foldl_cons]
theorem remI_end (j : Nat) (st : RfSt) : remI j j st = st := by unfold remI; rw [Nat.sub_self]; rfl
/-- Facts that hold all along: clauses, none twice; the empty one only at the end. -/
structure RInv (st : RfSt) : Prop where
  ok : ∀ s ∈ st.1, ClOk s.c
  nd : (st.1.map Rs.c).Nodup
  em : st.2 = decide ([] ∈ st.1.map Rs.c)
  la : ∀ k, k + 1 < st.1.length → ¬ (st.1.getD k default).c = []
theorem RInv.add {st : RfSt} (h : RInv st) (h2 : st.2 = false) {s : Rs} (hs : ClOk s.c) : RInv (addS st s) := by
  unfold addS
  split
  · exact h
  · rename_i hn
    have he : [] ∉ st.1.map Rs.c := by have := h.em; rw [h2] at this; exact of_decide_eq_false this.symm
    refine ⟨fun x hx => ?_, ?_, ?_, fun k hk => ?_⟩
    · rcases List.mem_append.1 hx with hx | hx
      · exact h.ok x hx
      · simp at hx; subst hx; exact hs
    · rw [List.map_append, List.nodup_append]
      refine ⟨h.nd, by simp, fun a ha b hb => ?_⟩
      simp at hb; subst hb
      exact fun e => hn (e ▸ ha)
    · show s.c.isEmpty = _
      rw [List.map_append, Bool.eq_iff_iff, List.isEmpty_iff, decide_eq_true_eq, List.mem_append]
      constructor
      · intro e; exact .inr (by simp [e])
      · rintro (e | e)
        · exact absurd e he
        · simp at e; exact e
    · simp only [List.length_append, List.length_cons, List.length_nil] at hk
      have hk' : k < st.1.length := by omega
      intro e
      refine he (List.mem_map.2 ⟨st.1[k], List.getElem_mem hk', ?_⟩)
      simpa [List.getD_eq_getElem?_getD, List.getElem?_append_left hk', hk'] using e
end Go.Vc

/- Plain law of the search for refutations, second part: codes and keys of clauses, the bound on steps, the start, the steps that are used. No program in sight. Conditions: none. -/
namespace Go.Vc
/-- The digit of a variable in a clause's code. -/
def dig (c : List Int) (v : Nat) : Nat := (if 2 * (v : Int) ∈ c then 1 else 0) + (if 2 * (v : Int) + 1 ∈ c then 2 else 0)
def codeK (c : List Int) : Nat → Nat
  | 0 => 0
  | k + 1 => codeK c k * 3 + dig c k
theorem ClOk.not_both {c : List Int} (h : ClOk c) {v : Int} (h1 : 2 * v ∈ c) (h2 : 2 * v + 1 ∈ c) : False := by
  obtain ⟨i, hi, e1⟩ := List.getElem_of_mem h1
  obtain ⟨j, hj, e2⟩ := List.getElem_of_mem h2
  rcases Nat.lt_trichotomy i j with hij | hij | hij
  · have := (List.pairwise_iff_getElem.1 h.2) i j hi hj hij
    omega
  · subst hij; omega
  · have := (List.pairwise_iff_getElem.1 h.2) j i hj hi hij
    omega
theorem dig_lt {c : List Int} (h : ClOk c) (v : Nat) : dig c v < 3 := by
  unfold dig
  split
  · rename_i h1
    rw [if_neg fun h2 => h.not_both h1 h2]; omega
  · split <;> omega
theorem codeK_lt {c : List Int} (h : ClOk c) : ∀ k, codeK c k < 3 ^ k
  | 0 => by simp [codeK]
  | k + 1 => by
    have := codeK_lt h k
    have := dig_lt h k
    rw [codeK, Nat.pow_succ]; omega
theorem codeK_inj {c d : List Int} (hc : ClOk c) (hd : ClOk d) : ∀ k, codeK c k = codeK d k → ∀ v, v < k → dig c v = dig d v
  | 0, _, _, hv => by omega
  | k + 1, h, v, hv => by
    rw [codeK, codeK] at h
    have h1 := dig_lt hc k
    have h2 := dig_lt hd k
    have h3 : codeK c k = codeK d k := by omega
    rcases Nat.lt_or_ge v k with hk | hk
    · exact codeK_inj hc hd k h3 v hk
    · obtain rfl : v = k := by omega
      omega
theorem dig_mem {c d : List Int} (hc : ClOk c) (hd : ClOk d) {v : Nat} (h : dig c v = dig d v) : (2 * (v : Int) ∈ c ↔ 2 * (v : Int) ∈ d) ∧ (2 * (v : Int) + 1 ∈ c ↔ 2 * (v : Int) + 1 ∈ d) := by
  have h1 := fun a b => hc.not_both (v := (v : Int)) a b
  have h2 := fun a b => hd.not_both (v := (v : Int)) a b
  unfold dig at h
  by_cases a1 : 2 * (v : Int) ∈ c <;> by_cases a2 : 2 * (v : Int) + 1 ∈ c <;> by_cases b1 : 2 * (v : Int) ∈ d <;> by_cases b2 : 2 * (v : Int) + 1 ∈ d <;> simp_all
def code3 (c : List Int) : Nat := codeK c 6
theorem code3_inj {c d : List Int} (hc : ClOk c) (hd : ClOk d) (h : code3 c = code3 d) : c = d := by
  refine ClOk.ext hc hd fun l => ?_
  have key : ∀ l, 0 ≤ l → l ≤ 11 → (l ∈ c ↔ l ∈ d) := by
    intro l h0 h1
    obtain ⟨g1, g2⟩ := dig_mem hc hd (codeK_inj hc hd 6 h (l / 2).toNat (by omega))
    rw [Int.toNat_of_nonneg (by omega)] at g1 g2
    rcases (show l % 2 = 0 ∨ l % 2 = 1 by omega) with e | e
    · rwa [show 2 * (l / 2) = l by omega] at g1
    · rwa [show 2 * (l / 2) + 1 = l by omega] at g2
  constructor
  · intro hl; exact (key l (hc.1 l hl).1 (hc.1 l hl).2).1 hl
  · intro hl; exact (key l (hd.1 l hl).1 (hd.1 l hl).2).2 hl
theorem code3_lt {c : List Int} (h : ClOk c) : code3 c < 729 := codeK_lt h 6
/-- A clause's key. -/
def keyC (c : List Int) : Nat := setOf (c.map Int.toNat)
theorem keyC_inj {c d : List Int} (hc : ClOk c) (hd : ClOk d) (h : keyC c = keyC d) : c = d := by
  refine ClOk.ext hc hd fun l => ?_
  have e : ∀ i, (c.map Int.toNat).contains i = (d.map Int.toNat).contains i := fun i => by
    rw [← setOf_testBit, ← setOf_testBit]; exact congrArg (fun m : Nat => m.testBit i) h
  have aux : ∀ {a b : List Int}, ClOk a → ClOk b → (∀ i, (a.map Int.toNat).contains i = (b.map Int.toNat).contains i) → ∀ l, l ∈ a → l ∈ b := by
    intro a b ha hb e l hl
    have h1 : (a.map Int.toNat).contains l.toNat = true := by
      rw [List.contains_iff_mem]; exact List.mem_map_of_mem hl
    rw [e, List.contains_iff_mem] at h1
    obtain ⟨x, hx, hxl⟩ := List.mem_map.1 h1
    have := (ha.1 l hl).1
    have := (hb.1 x hx).1
    obtain rfl : x = l := by omega
    exact hx
  exact ⟨aux hc hd e l, aux hd hc (fun i => (e i).symm) l⟩
theorem nodup_bound : ∀ (n : Nat) (l : List Nat), l.Nodup → (∀ x ∈ l, x < n) → l.length ≤ n
  | 0, [], _, _ => Nat.le_refl _
  | 0, x :: l, _, h => by have := h x List.mem_cons_self; omega
  | n + 1, l, hn, h => by
    have h1 := nodup_bound n (l.filter fun x => decide (x < n)) (hn.sublist List.filter_sublist) fun x hx => by simpa using (List.mem_filter.1 hx).2
    by_cases hm : n ∈ l
    · have he : l.Perm (n :: l.erase n) := List.perm_cons_erase hm
      have hne := hn.erase n
      have h2 := nodup_bound n (l.erase n) hne fun x hx => by
        have := h x (List.mem_of_mem_erase hx)
        have : x ≠ n := fun e => by
          subst e
          exact (List.Nodup.not_mem_erase hn) hx
        omega
      rw [he.length_eq, List.length_cons]; omega
    · exact Nat.le_succ_of_le (nodup_bound n l hn fun x hx => by
        have := h x hx
        have : x ≠ n := fun e => hm (e ▸ hx)
        omega)
theorem RInv.len {st : RfSt} (h : RInv st) : st.1.length ≤ 729 := by
  have := nodup_bound 729 ((st.1.map Rs.c).map code3) (by
    rw [List.nodup_iff_pairwise_ne, List.pairwise_map]
    refine List.Pairwise.imp_of_mem ?_ (List.nodup_iff_pairwise_ne.1 h.nd)
    intro a b ha hb hne e
    obtain ⟨x, hx, rfl⟩ := List.mem_map.1 ha
    obtain ⟨y, hy, rfl⟩ := List.mem_map.1 hb
    exact hne (code3_inj (h.ok x hx) (h.ok y hy) e)) (by
    intro x hx
    obtain ⟨c, hc, rfl⟩ := List.mem_map.1 hx
    obtain ⟨s, hs, rfl⟩ := List.mem_map.1 hc
    exact code3_lt (h.ok s hs))
  simpa using this
end Go.Vc

/- Plain law of the search for refutations, third part: the facts hold all along; the start; the steps that are used, numbered anew. No program in sight. Conditions: none. -/
namespace Go.Vc
theorem RInv.pstep {st : RfSt} (h : RInv st) (j i v : Nat) : RInv (pstep j i v st) := by
  unfold Go.Vc.pstep
  split
  · exact h
  · rename_i h2
    have h2 : st.2 = false := by simpa using h2
    split
    · rename_i r hr
      exact h.add h2 (resC_ok hr)
    · split
      · rename_i r hr
        exact h.add h2 (resC_ok hr)
      · exact h
theorem foldl_inv {α : Type} {Q : RfSt → Prop} {f : RfSt → α → RfSt} (hf : ∀ st a, Q st → Q (f st a)) : ∀ (l : List α) (st : RfSt), Q st → Q (l.foldl f st)
  | [], _, h => h
  | a :: l, st, h => foldl_inv hf l (f st a) (hf st a h)
theorem RInv.remV {st : RfSt} (h : RInv st) (j i k : Nat) : RInv (remV j i k st) := foldl_inv (fun _ v h => h.pstep j i v) _ _ h
theorem RInv.remI {st : RfSt} (h : RInv st) (j k : Nat) : RInv (remI j k st) := foldl_inv (fun _ i h => h.remV j i 0) _ _ h
/-- Steps are only laid behind. -/
def Grew (a b : RfSt) : Prop := ∃ t, b.1 = a.1 ++ t
theorem Grew.refl (a : RfSt) : Grew a a := ⟨[], by simp⟩
theorem Grew.trans {a b c : RfSt} : Grew a b → Grew b c → Grew a c := fun ⟨s, h⟩ ⟨t, k⟩ => ⟨s ++ t, by rw [k, h]; simp⟩
theorem grew_add (st : RfSt) (s : Rs) : Grew st (addS st s) := by
  unfold addS
  split
  · exact .refl _
  · exact ⟨[s], rfl⟩
theorem grew_pstep (j i v : Nat) (st : RfSt) : Grew st (pstep j i v st) := by
  unfold pstep
  split
  · exact .refl _
  · split
    · exact grew_add _ _
    · split
      · exact grew_add _ _
      · exact .refl _
theorem foldl_grew {α : Type} {f : RfSt → α → RfSt} (hf : ∀ st a, Grew st (f st a)) : ∀ (l : List α) (st : RfSt), Grew st (l.foldl f st)
  | [], st => .refl st
  | a :: l, st => (hf st a).trans (foldl_grew hf l _)
theorem grew_remV (j i k : Nat) (st : RfSt) : Grew st (remV j i k st) := foldl_grew (fun st v => grew_pstep j i v st) _ _
theorem Grew.len {a b : RfSt} : Grew a b → a.1.length ≤ b.1.length := fun ⟨t, h⟩ => by rw [h, List.length_append]; omega
theorem Grew.get {a b : RfSt} : Grew a b → ∀ k, k < a.1.length → b.1.getD k default = a.1.getD k default := fun ⟨t, h⟩ k hk => by
  simp [h, List.getD_eq_getElem?_getD, List.getElem?_append_left hk]
theorem RInv.remJ {st : RfSt} (h : RInv st) : ∀ (n j : Nat), RInv (remJ n j st) := by
  intro n
  induction n generalizing st with
  | zero => intro _; exact h
  | succ n ih =>
    intro j
    unfold Go.Vc.remJ
    split
    · exact h
    · exact ih (h.remI j 0) (j + 1)
theorem remJ_step {n j : Nat} {st : RfSt} (h2 : st.2 = false) (hj : j < st.1.length) : remJ (n + 1) j st = remJ n (j + 1) (remI j 0 st) := by
  rw [remJ, h2, if_neg (by simp; omega)]
theorem remJ_end {n j : Nat} {st : RfSt} (hj : st.1.length ≤ j) : remJ n j st = st := by
  cases n with
  | zero => rfl
  | succ n => rw [remJ, if_pos (by simp [hj])]
/-- Enough steps are granted: past the bound nothing is left to do. -/
theorem remJ_fuel {st : RfSt} (h : RInv st) {n j : Nat} (hn : 729 ≤ n + j) (hj : j < st.1.length) : ∃ m, n = m + 1 ∧ 729 ≤ m + (j + 1) := by
  have := h.len
  exact ⟨n - 1, by omega, by omega⟩
/-- The steps of the clauses that are given: until the empty one. -/
def startP : List (List Int) → RfSt → RfSt
  | [], st => st
  | c :: l, st => if st.2 then st else startP l (addS st ⟨c, -1, -1, -1⟩)
theorem startP_noE : ∀ (L : List (List Int)) (st : RfSt), st.2 = false → (st.1.map Rs.c ++ L).Nodup → [] ∉ L → startP L st = (st.1 ++ L.map (fun c => ⟨c, -1, -1, -1⟩), false)
  | [], st, h2, _, _ => by
    obtain ⟨a, b⟩ := st
    simp only at h2
    subst h2
    simp [startP]
  | c :: l, st, h2, hn, he => by
    have hc : c ∉ st.1.map Rs.c := fun hm => by
      rw [List.nodup_append] at hn
      exact hn.2.2 c hm c List.mem_cons_self rfl
    rw [List.mem_cons, not_or] at he
    have hce : c.isEmpty = false := by
      cases c with
      | nil => exact absurd rfl he.1
      | cons => rfl
    rw [startP, h2, if_neg (by simp)]
    have hadd : addS st ⟨c, -1, -1, -1⟩ = (st.1 ++ [⟨c, -1, -1, -1⟩], false) := by unfold addS; rw [if_neg hc]; simp [hce]
    rw [hadd, startP_noE l _ rfl (by simpa using hn) he.2]
    simp
theorem startP_E (L : List (List Int)) : startP ([] :: L) ([], false) = ([⟨[], -1, -1, -1⟩], true) := by
  have : ∀ (l : List (List Int)) (st : RfSt), st.2 = true → startP l st = st := fun l st h => by
    cases l with
    | nil => rfl
    | cons c l => rw [startP, if_pos h]
  rw [startP, if_neg (by simp)]
  exact this L _ rfl
/-- In a row in order the empty clause stands first. -/
theorem setA_nil {L : List (List Int)} (h : [] ∈ setA lessB L) : ∃ M, setA lessB L = [] :: M := by
  have O : OrdA lessB := ⟨⟨fun {a b} h => lessB_asymm a b h, fun {a b c} h k => lessB_trans a b c h k⟩, fun {a b} h k => lessB_anti a b h k⟩
  have hs := inc_setA O L
  generalize setA lessB L = S at *
  cases S with
  | nil => cases h
  | cons x S =>
    rcases List.mem_cons.1 h with e | h'
    · exact ⟨S, by rw [e]⟩
    · have := (List.pairwise_cons.1 hs).1 [] h'
      cases x <;> simp [lessB] at this
/-- Which steps are needed, from behind. -/
def needK (st : List Rs) : Nat → List Bool → List Bool
  | 0, n => n
  | k + 1, n => needK st k (if n.getD k false && decide (0 ≤ (st.getD k default).f) then (n.set (st.getD k default).f.toNat true).set (st.getD k default).s.toNat true else n)
def needed (st : List Rs) : List Bool := needK st st.length ((List.replicate st.length false).set (st.length - 1) true)
/-- The needed steps, numbered anew. -/
def numK (st : List Rs) (nd : List Bool) : Nat → List Int × List Rs
  | 0 => (List.replicate st.length 0, [])
  | k + 1 =>
    let p := numK st nd k
    if nd.getD k false then
      let x := st.getD k default
      (p.1.set k p.2.length, p.2 ++ [if 0 ≤ x.f then ⟨x.c, p.1.getD x.f.toNat 0, p.1.getD x.s.toNat 0, x.v⟩ else x])
    else p
def usedR (st : List Rs) : List Rs := (numK st (needed st) st.length).2
end Go.Vc

/- Plain law of the search for refutations, fourth part: two clauses merged are their resolvent. No program in sight. Conditions: none. -/
namespace Go.Vc
theorem lt_ext {A B : List Int} (hA : A.Pairwise fun a b => a < b) (hB : B.Pairwise fun a b => a < b) (h : ∀ l, l ∈ A ↔ l ∈ B) : A = B := by
  have O : OrdA (fun a b : Int => decide (a < b)) := ⟨⟨fun {a b} h => by simp at h ⊢; omega, fun {a b c} h k => by simp at h k ⊢; omega⟩, fun {a b} h k => by simp at h k; omega⟩
  exact incA_ext O (hA.imp fun h => decide_eq_true h) (hB.imp fun h => decide_eq_true h) h
theorem ClOk.other {c : List Int} (hc : ClOk c) {l m : Int} (hl : l ∈ c) (hm : m ∈ c) (h : l / 2 = m / 2) : l = m := by
  rcases (show l % 2 = 0 ∨ l % 2 = 1 by omega) with e | e <;> rcases (show m % 2 = 0 ∨ m % 2 = 1 by omega) with e' | e'
  · omega
  · exact (hc.not_both (v := l / 2) (by rwa [show 2 * (l / 2) = l by omega]) (by rwa [show 2 * (l / 2) + 1 = m by omega])).elim
  · exact (hc.not_both (v := l / 2) (by rwa [show 2 * (l / 2) = m by omega]) (by rwa [show 2 * (l / 2) + 1 = l by omega])).elim
  · omega
theorem res_merge {c d M : List Int} {v : Int} (hc : ClOk c) (hd : ClOk d) (h1 : 2 * v ∈ c) (h2 : 2 * v + 1 ∈ d) (hM : M.Pairwise fun a b => a < b) (hm : ∀ l, l ∈ M ↔ (l ∈ c ∧ l ≠ 2 * v) ∨ (l ∈ d ∧ l ≠ 2 * v + 1)) : M = resL c d v := by
  refine lt_ext hM (resL_lt c d v) fun l => ?_
  rw [hm, mem_resL]
  constructor
  · rintro (⟨h, hn⟩ | ⟨h, hn⟩)
    · exact ⟨hc.1 l h, fun e => hn (hc.other h h1 (by omega)), .inl h⟩
    · exact ⟨hd.1 l h, fun e => hn (hd.other h h2 (by omega)), .inr h⟩
  · rintro ⟨_, hv, h | h⟩
    · exact .inl ⟨h, by omega⟩
    · exact .inr ⟨h, by omega⟩
/-- Steps that the reference goes through up to a place. -/
def usedS (st : List Rs) (last : Nat) : List Rs := (numK st (needK st (last + 1) ((List.replicate st.length false).set last true)) (last + 1)).2
theorem usedS_last {st : List Rs} (h : 0 < st.length) : usedS st (st.length - 1) = usedR st := by
  unfold usedS usedR needed
  rw [show st.length - 1 + 1 = st.length by omega]
end Go.Vc

/- Contracts: what a clause is, in the program and in the reference; codes, keys, resolvents in the reference. Conditions: none. -/
namespace Go.Vc
instance (c : List Int) (i : Nat) : Decidable (ClAt c i) := inferInstanceAs (Decidable (_ ∧ _))
theorem iJnPQ {F : (List Value → World → Prop) → Prop} {K : List Value → World → Prop} (C : List Value → World → Prop) (h : ∀ J : List Value → World → Prop, (∀ xs w, C xs w → J xs w) → F J) (hK : ∀ xs w, C xs w → K xs w) : jn F K := h K hK
end Go.Vc
namespace Go.Proofs.YtfadcafacpaldaaGreatDoor
open Go.Vc
theorem ok_impl_isClause {v : Value} {w : World} {c : List Int} (hs : SlI w v c) : Ret Tryz.prog f_impl_isClause #[v] w (.bool (decide (ClOk c))) := by
  have hl := hs.len
  apply c_impl_isClause; unfold S_impl_isClause
  refine iLenI hs ?_
  refine iLp (fun k : Nat => [.int .i64 (k : Int)]) (fun k w' => k ≤ c.length ∧ Ext w w' ∧ ∀ i, i < k → ClAt c i) (fun k => c.length - k) 0 rfl ⟨Nat.zero_le _, Ext.refl _, fun i hi => by omega⟩ ?_
  rintro k w2 Kn ⟨hk, h2, hall⟩ hKn
  have hs2 := hs.ext h2
  intro _
  simp only [gx]
  refine iLt ?_
  refine iCndP (fun h3 => ?_) (fun h3 => ?_)
  rotate_left
  · rw [decide_eq_true (clOk_of fun i hi => hall i (by omega))]
    exact ⟨rfl, h2⟩
  have hk1 : k < c.length := by omega
  refine iIaI hs2 (by omega) (by omega) fun p hp => ?_
  refine iLd hp ?_
  rw [show c.getD (k : Int).toNat 0 = c.getD k 0 by rw [Int.toNat_natCast]]
  refine iJnB (!decide (ClAt c k)) w2 (fun J hJ => ?_) (fun w4 h4 => ?_)
  · refine iRet (ok_impl_inRange _ _ _ w2) fun w5 h5 => ?_
    have hs5 := hs2.ext h5
    refine iNot ?_
    refine iCnd (fun h6 => ?_) (fun h6 => ?_)
    · have h6 : ¬ (0 ≤ c.getD k 0 ∧ c.getD k 0 ≤ 11) := by rw [Bool.not_eq_true', decide_eq_false_iff_not] at h6; exact h6
      rw [decide_eq_false (fun h => h6 h.1)] at hJ
      exact hJ w5 h5
    · have h6 : 0 ≤ c.getD k 0 ∧ c.getD k 0 ≤ 11 := by rw [Bool.not_eq_false', decide_eq_true_eq] at h6; exact h6
      refine iLt ?_
      refine iCndP (fun h7 => ?_) (fun h7 => ?_)
      · refine iSub (by omega) ?_
        rw [show (k : Int) - 1 = ((k - 1 : Nat) : Int) by omega]
        refine iIaI hs5 (by omega) (by omega) fun p2 hp2 => ?_
        refine iLd hp2 ?_
        rw [show c.getD ((k - 1 : Nat) : Int).toNat 0 = c.getD (k - 1) 0 by rw [Int.toNat_natCast]]
        have hb := (hall (k - 1) (by omega)).1
        refine iLe ?_
        refine iCndP (fun h8 => ?_) (fun h8 => ?_)
        · rw [decide_eq_false (fun h : ClAt c k => by have := h.2 (by omega); omega)] at hJ
          exact hJ w5 h5
        · refine iSub (by omega) ?_
          rw [show (k : Int) - 1 = ((k - 1 : Nat) : Int) by omega]
          refine iIaI hs5 (by omega) (by omega) fun p3 hp3 => ?_
          refine iLd hp3 ?_
          rw [show c.getD ((k - 1 : Nat) : Int).toNat 0 = c.getD (k - 1) 0 by rw [Int.toNat_natCast]]
          refine iQuo (by omega) ?_
          refine iQuo (by omega) ?_
          refine iEq ?_
          have := hJ w5 h5
          rwa [show (!decide (ClAt c k)) = decide (c.getD (k - 1) 0 / 2 = c.getD k 0 / 2) by
            rw [← decide_not]
            refine decide_eq_decide.2 ⟨fun h => ?_, fun h h' => ?_⟩
            · refine Classical.byContradiction fun hne => h ⟨h6, fun _ => by omega⟩
            · have := h'.2 (by omega); omega] at this
      · rw [decide_eq_true (show ClAt c k from ⟨h6, fun h => absurd h (by omega)⟩)] at hJ
        exact hJ w5 h5
  intro _
  simp only [gx]
  cases hc : decide (ClAt c k)
  · refine iCndT rfl ?_
    rw [decide_eq_false (fun h : ClOk c => absurd (h.at hk1) (of_decide_eq_false hc))]
    exact ⟨rfl, h2.trans h4⟩
  · refine iCndF rfl ?_
    refine iAdd (by omega) ?_
    refine hKn (k + 1) _ ⟨by omega, h2.trans h4, fun i hi => ?_⟩ (by omega)
    by_cases hik : i = k
    · subst hik; exact of_decide_eq_true hc
    · exact hall i (by omega)
theorem ok_spec_IsClause {v : Value} {w : World} {c : List Int} (hs : SlI w v c) : Ret Tryz.prog f_spec_IsClause #[v] w (.bool (decide (ClOk c))) := by
  have hl := hs.len
  apply c_spec_IsClause; unfold S_spec_IsClause
  refine iLp (fun k : Nat => [.int .i64 (k : Int)]) (fun k w' => k ≤ c.length ∧ Ext w w' ∧ ∀ i, i < k → ClAt c i) (fun k => c.length - k) 0 rfl ⟨Nat.zero_le _, Ext.refl _, fun i hi => by omega⟩ ?_
  rintro k w2 Kn ⟨hk, h2, hall⟩ hKn
  have hs2 := hs.ext h2
  intro _
  simp only [gx]
  refine iLenI hs2 ?_
  refine iLt ?_
  refine iCndP (fun h3 => ?_) (fun h3 => ?_)
  rotate_left
  · rw [decide_eq_true (clOk_of fun i hi => hall i (by omega))]
    exact ⟨rfl, h2⟩
  have hk1 : k < c.length := by omega
  refine iJnB (!decide (ClAt c k)) w2 (fun J hJ => ?_) (fun w4 h4 => ?_)
  · refine iIaI hs2 (by omega) (by omega) fun p hp => ?_
    refine iLd hp ?_
    rw [show c.getD (k : Int).toNat 0 = c.getD k 0 by rw [Int.toNat_natCast]]
    refine iRetQ (fun w' _ => ok_spec_l01In _ _ _ w') ?_
    refine iNot ?_
    refine iCnd (fun h6 => ?_) (fun h6 => ?_)
    · have h6 : ¬ (0 ≤ c.getD k 0 ∧ c.getD k 0 ≤ 11) := by rw [Bool.not_eq_true', decide_eq_false_iff_not] at h6; exact h6
      rw [decide_eq_false (fun h => h6 h.1)] at hJ
      exact hJ
    · have h6 : 0 ≤ c.getD k 0 ∧ c.getD k 0 ≤ 11 := by rw [Bool.not_eq_false', decide_eq_true_eq] at h6; exact h6
      refine iLt ?_
      refine iCndP (fun h7 => ?_) (fun h7 => ?_)
      · have hb := (hall (k - 1) (by omega)).1
        refine iIaI hs2 (by omega) (by omega) fun p3 hp3 => ?_
        refine iLd hp3 ?_
        rw [show c.getD (k : Int).toNat 0 = c.getD k 0 by rw [Int.toNat_natCast]]
        refine iQuo (by omega) ?_
        refine iSub (by omega) ?_
        rw [show (k : Int) - 1 = ((k - 1 : Nat) : Int) by omega]
        refine iIaI hs2 (by omega) (by omega) fun p2 hp2 => ?_
        refine iLd hp2 ?_
        rw [show c.getD ((k - 1 : Nat) : Int).toNat 0 = c.getD (k - 1) 0 by rw [Int.toNat_natCast]]
        refine iQuo (by omega) ?_
        refine iLe ?_
        rwa [show (!decide (ClAt c k)) = decide (c.getD k 0 / 2 ≤ c.getD (k - 1) 0 / 2) by
          rw [← decide_not]
          refine decide_eq_decide.2 ⟨fun h => ?_, fun h h' => ?_⟩
          · refine Classical.byContradiction fun hne => h ⟨h6, fun _ => by omega⟩
          · have := h'.2 (by omega); omega] at hJ
      · rw [decide_eq_true (show ClAt c k from ⟨h6, fun h => absurd h (by omega)⟩)] at hJ
        exact hJ
  intro _
  simp only [gx]
  cases hc : decide (ClAt c k)
  · refine iCndT rfl ?_
    rw [decide_eq_false (fun h : ClOk c => absurd (h.at hk1) (of_decide_eq_false hc))]
    exact ⟨rfl, h2.trans h4⟩
  · refine iCndF rfl ?_
    refine iAdd (by omega) ?_
    refine hKn (k + 1) _ ⟨by omega, h2.trans h4, fun i hi => ?_⟩ (by omega)
    by_cases hik : i = k
    · subst hik; exact of_decide_eq_true hc
    · exact hall i (by omega)
end Go.Proofs.YtfadcafacpaldaaGreatDoor

/- Contracts: membership, codes, keys and resolvents of clauses in the reference. Conditions: none. -/
namespace Go.Proofs.YtfadcafacpaldaaGreatDoor
open Go.Vc
theorem ok_spec_l01HasI {v : Value} {w : World} {c : List Int} (hs : SlI w v c) (x : Int) : Ret Tryz.prog f_spec_l01Has #[v, .int .i64 x] w (.bool (decide (x ∈ c))) := by
  have hl := hs.len
  apply c_spec_l01Has; unfold S_spec_l01Has
  refine iLp (fun k : Nat => [.int .i64 (k : Int)]) (fun k w' => k ≤ c.length ∧ Ext w w' ∧ ∀ i, i < k → ¬ c.getD i 0 = x) (fun k => c.length - k) 0 rfl ⟨Nat.zero_le _, Ext.refl _, fun i hi => by omega⟩ ?_
  rintro k w2 Kn ⟨hk, h2, hall⟩ hKn
  have hs2 := hs.ext h2
  intro _
  simp only [gx]
  refine iLenI hs2 ?_
  refine iLt ?_
  refine iCndP (fun h3 => ?_) (fun h3 => ?_)
  · refine iIaI hs2 (by omega) (by omega) fun p hp => ?_
    refine iLd hp ?_
    rw [show c.getD (k : Int).toNat 0 = c.getD k 0 by rw [Int.toNat_natCast]]
    refine iEq ?_
    have hk1 : k < c.length := by omega
    have e : c.getD k 0 = c[k] := by simp [List.getD_eq_getElem?_getD, hk1]
    refine iCndP (fun h4 => ?_) (fun h4 => ?_)
    · rw [decide_eq_true (show x ∈ c by rw [← h4, e]; exact List.getElem_mem hk1)]
      exact ⟨rfl, h2⟩
    · refine iAdd (by omega) ?_
      refine hKn (k + 1) _ ⟨by omega, h2, fun i hi => ?_⟩ (by omega)
      by_cases hik : i = k
      · subst hik; exact h4
      · exact hall i (by omega)
  · rw [decide_eq_false (fun hx => ?_)]
    · exact ⟨rfl, h2⟩
    · obtain ⟨i, hi, e⟩ := List.getElem_of_mem hx
      refine hall i (by omega) ?_
      simp [List.getD_eq_getElem?_getD, hi, e]
theorem ok_spec_l04Code3 {v : Value} {w : World} {c : List Int} (hs : SlI w v c) (hc : ClOk c) : Ret Tryz.prog f_spec_l04Code3 #[v] w (.int .i64 ((code3 c : Nat) : Int)) := by
  apply c_spec_l04Code3; unfold S_spec_l04Code3
  refine iLp (fun k : Nat => [.int .i64 ((codeK c k : Nat) : Int), .int .i64 (k : Int)]) (fun k w' => k ≤ 6 ∧ Ext w w') (fun k => 6 - k) 0 rfl ⟨Nat.zero_le _, Ext.refl _⟩ ?_
  rintro k w2 Kn ⟨hk, h2⟩ hKn
  have hs2 := hs.ext h2
  have hlt := Nat.lt_of_lt_of_le (codeK_lt hc k) (Nat.pow_le_pow_right (i := k) (j := 6) (by omega) hk)
  intro _
  simp only [gx]
  refine iLt ?_
  refine iCndP (fun h3 => ?_) (fun h3 => ?_)
  · refine iMul (by omega) ?_
    refine iMul (by omega) ?_
    refine iRet (ok_spec_l01HasI hs2 _) fun w3 h3' => ?_
    refine iJnPQ (fun xs w' => xs = [.int .i64 ((codeK c k : Nat) * 3 + (if 2 * (k : Int) ∈ c then 1 else 0))] ∧ Ext w3 w') (fun J hJ => ?_) (fun xs w4 hC => ?_)
    · refine iCnd (fun h4 => ?_) (fun h4 => ?_)
      · refine iAdd (by omega) ?_
        refine hJ _ _ ⟨?_, Ext.refl _⟩
        rw [if_pos (of_decide_eq_true h4)]
      · refine hJ _ _ ⟨?_, Ext.refl _⟩
        rw [if_neg (of_decide_eq_false h4), Int.add_zero]
    · obtain ⟨rfl, h34⟩ := hC
      have hX := (h2.trans h3').trans h34
      intro _
      simp only [gx]
      refine iMul (by omega) ?_
      refine iAdd (by omega) ?_
      refine iRet (ok_spec_l01HasI (hs.ext hX) _) fun w5 h5 => ?_
      have hd : ((codeK c (k + 1) : Nat) : Int) = (codeK c k : Nat) * 3 + (if 2 * (k : Int) ∈ c then 1 else 0) + (if 2 * (k : Int) + 1 ∈ c then 2 else 0) := by
        rw [codeK, dig]
        split <;> split <;> simp <;> omega
      have hb1 : (0 : Int) ≤ (if 2 * (k : Int) ∈ c then 1 else 0) ∧ (if 2 * (k : Int) ∈ c then 1 else 0) ≤ (1 : Int) := by split <;> omega
      generalize (if 2 * (k : Int) ∈ c then (1 : Int) else 0) = a1 at *
      refine iCnd (fun h4 => ?_) (fun h4 => ?_)
      · rw [if_pos (of_decide_eq_true h4)] at hd
        refine iAdd (by omega) ?_
        refine iAdd (by omega) ?_
        rw [← hd]
        exact hKn (k + 1) _ ⟨by omega, hX.trans h5⟩ (by omega)
      · rw [if_neg (of_decide_eq_false h4), Int.add_zero] at hd
        refine iAdd (by omega) ?_
        rw [← hd]
        exact hKn (k + 1) _ ⟨by omega, hX.trans h5⟩ (by omega)
  · obtain rfl : k = 6 := by omega
    exact ⟨rfl, h2⟩
theorem ok_impl_clauseKey {v : Value} {w : World} {c : List Int} (hs : SlI w v c) (hc : ∀ l ∈ c, 0 ≤ l ∧ l ≤ 11) : Ret Tryz.prog f_impl_clauseKey #[v] w (.int .i64 ((keyC c : Nat) : Int)) := by
  have hl := hs.len
  apply c_impl_clauseKey; unfold S_impl_clauseKey
  refine iLenI hs ?_
  refine iLp (fun k : Nat => [.int .i64 ((setOf ((c.map Int.toNat).take k) : Nat) : Int), .int .i64 (k : Int)]) (fun k w' => k ≤ c.length ∧ Ext w w') (fun k => c.length - k) 0 rfl ⟨Nat.zero_le _, Ext.refl _⟩ ?_
  rintro k w2 Kn ⟨hk, h2⟩ hKn
  have hs2 := hs.ext h2
  intro _
  simp only [gx]
  refine iLt ?_
  refine iCndP (fun h3 => ?_) (fun h3 => ?_)
  · have hk1 : k < c.length := by omega
    have hb := hc c[k] (List.getElem_mem hk1)
    have e : c.getD k 0 = ((c[k].toNat : Nat) : Int) := by simp [List.getD_eq_getElem?_getD, hk1]; omega
    refine iIaI hs2 (by omega) (by omega) fun p hp => ?_
    refine iLd hp ?_
    rw [show c.getD (k : Int).toNat 0 = c.getD k 0 by rw [Int.toNat_natCast], e]
    refine iShlOne (by omega) ?_
    have h1 : setOf ((c.map Int.toNat).take k) < 2 ^ 12 := setOf_lt fun y hy => by
      obtain ⟨x, hx, rfl⟩ := List.mem_map.1 (List.mem_of_mem_take hy)
      have := hc x hx; omega
    have h4 : 2 ^ c[k].toNat < 2 ^ 12 := Nat.pow_lt_pow_right (by omega) (by omega)
    refine iBOr (by omega) (by omega) ?_
    refine iAdd (by omega) ?_
    have : setOf ((c.map Int.toNat).take k) ||| 2 ^ c[k].toNat = setOf ((c.map Int.toNat).take (k + 1)) := by
      rw [List.take_succ_eq_append_getElem (by simpa using hk1), setOf_snoc, List.getElem_map]
    rw [this]
    exact hKn (k + 1) _ ⟨by omega, h2⟩ (by omega)
  · obtain rfl : k = c.length := by omega
    rw [List.take_of_length_le (by simp)]
    exact ⟨rfl, h2⟩
end Go.Proofs.YtfadcafacpaldaaGreatDoor

/- Contracts on lists of lists of int64; all maps between two frames. Conditions: none. -/
namespace Go.Vc
section
variable {w : World}
theorem iIaV {v : Value} {xs : List Value} {j : Nat} {k : IntKind} {K : Value → Prop} (hs : Sl w v xs) (h1 : j < xs.length) (h : ∀ p, w.cell? p = some xs[j] → K (.pointer (some p))) : xIa 1 v (.int k (j : Int)) K :=
  iIa hs (by omega) (by omega) fun p hp => h p (by rw [hp, Int.toNat_natCast, List.getElem?_eq_getElem h1])
end
theorem OwL.at {lo : Nat} {e : TypeId} {w : World} {vs : List Value} {ls : List (List Value)} (h : OwL lo e w vs ls) {i : Nat} (hi : i < vs.length) (hi' : i < ls.length) : Ow lo e w vs[i] ls[i] :=
  h.2.1 i _ _ (List.getElem?_eq_getElem hi) (List.getElem?_eq_getElem hi')
end Go.Vc
namespace Go.Proofs.YtfadcafacpaldaaGreatDoor
open Go.Vc
/-- A slice of slices of int64 of the call's own. -/
def RdLL (lo : Nat) (w : World) (v : Value) (x : List (List Int)) : Prop := ∃ vs, Ow lo t_Si64 w v vs ∧ OwL lo t_i64 w vs (x.map ints)
theorem RdLL.mono {lo lo' : Nat} {w : World} {v : Value} {x : List (List Int)} (h : RdLL lo w v x) (hl : lo' ≤ lo) : RdLL lo' w v x := let ⟨vs, h1, h2⟩ := h; ⟨vs, h1.mono hl, h2.mono hl⟩
end Go.Proofs.YtfadcafacpaldaaGreatDoor

/- Contracts: all maps between two frames. Conditions: none. -/
namespace Go.Proofs.YtfadcafacpaldaaGreatDoor
open Go.Vc
end Go.Proofs.YtfadcafacpaldaaGreatDoor

/- Contracts: two posets. Conditions: none. -/
namespace Go.Vc
end Go.Vc
namespace Go.Proofs.YtfadcafacpaldaaGreatDoor
open Go.Vc
end Go.Proofs.YtfadcafacpaldaaGreatDoor

/- Contracts: the reference's search for p-morphisms. Conditions: none. -/
namespace Go.Proofs.YtfadcafacpaldaaGreatDoor
open Go.Vc
end Go.Proofs.YtfadcafacpaldaaGreatDoor

/- Contracts: the reference's search for p-morphisms, the recursion. Conditions: none. -/
namespace Go.Vc
end Go.Vc
namespace Go.Proofs.YtfadcafacpaldaaGreatDoor
open Go.Vc
end Go.Proofs.YtfadcafacpaldaaGreatDoor

/- Contracts: depths in posets, and the reference's search for p-morphisms from its start. Conditions: none. -/
namespace Go.Vc
end Go.Vc
namespace Go.Proofs.YtfadcafacpaldaaGreatDoor
open Go.Vc
end Go.Proofs.YtfadcafacpaldaaGreatDoor

/- Contracts: the reference's search for p-morphisms from its start (l21Find). Conditions: none. -/
namespace Go.Vc
end Go.Vc
namespace Go.Proofs.YtfadcafacpaldaaGreatDoor
open Go.Vc
end Go.Proofs.YtfadcafacpaldaaGreatDoor

/- Contracts: the first p-morphism onto a poset in the reference (l21Onto, FindImage). Conditions: none. -/
namespace Go.Vc
end Go.Vc
namespace Go.Proofs.YtfadcafacpaldaaGreatDoor
open Go.Vc
end Go.Proofs.YtfadcafacpaldaaGreatDoor

/- Contracts: all p-morphisms between posets in the reference (l01Less, l21All, AllPosetMorphisms). Conditions: none. -/
namespace Go.Vc
/-- Rows with what they hold: the order does not matter. -/
def OwP (lo : Nat) (e : TypeId) (w : World) (P : List (Value × List Int)) : Prop := (∀ p ∈ P, Ow lo e w p.1 (ints p.2)) ∧ P.Pairwise fun a b => ∀ c, a.1.ownBlock = some c → b.1.ownBlock ≠ some c
theorem OwP.perm {lo : Nat} {e : TypeId} {w : World} {P Q : List (Value × List Int)} (h : OwP lo e w P) (hp : P.Perm Q) : OwP lo e w Q :=
  ⟨fun p hq => h.1 p (hp.mem_iff.2 hq), (hp.pairwise_iff (fun hxy c hc hc' => hxy c hc' hc)).1 h.2⟩
theorem OwP.ext {lo : Nat} {e : TypeId} {w w' : World} {P : List (Value × List Int)} (h : OwP lo e w P) (he : Ext w w') : OwP lo e w' P := ⟨fun p hp => (h.1 p hp).ext he, h.2⟩
theorem OwP.upd {lo : Nat} {e : TypeId} {w w' : World} {b : Nat} {P : List (Value × List Int)} (h : OwP lo e w P) (hu : Upd b w w') (hn : ∀ p ∈ P, p.1.ownBlock ≠ some b) : OwP lo e w' P := ⟨fun p hp => (h.1 p hp).upd hu (hn p hp), h.2⟩
theorem OwP.to {lo : Nat} {e : TypeId} {w : World} {P : List (Value × List Int)} (h : OwP lo e w P) : OwL lo e w (P.map Prod.fst) ((P.map Prod.snd).map ints) := by
  refine ⟨by simp, fun i v l hv hl => ?_, ?_⟩
  · rw [List.getElem?_map] at hv
    rw [List.getElem?_map, List.getElem?_map] at hl
    cases hp : P[i]? with
    | none => rw [hp] at hv; cases hv
    | some p =>
      rw [hp] at hv hl
      simp at hv hl
      subst hv; subst hl
      exact h.1 p (List.mem_of_getElem? hp)
  · rw [List.pairwise_map]; exact h.2
theorem lessB_upto : ∀ (a b : List Int) (k : Nat), (∀ i, i < k → a[i]? = b[i]?) → k ≤ a.length → k ≤ b.length → lessB a b = lessB (a.drop k) (b.drop k)
  | _, _, 0, _, _, _ => rfl
  | [], _, _ + 1, _, h, _ => by simp at h
  | _ :: _, [], _ + 1, _, _, h => by simp at h
  | x :: a, y :: b, k + 1, h, h1, h2 => by
    have e : x = y := by have := h 0 (by omega); simpa using this
    subst e
    simp only [lessB, if_true, List.drop_succ_cons]
    exact lessB_upto a b k (fun i hi => by have := h (i + 1) (by omega); simpa using this) (by simpa using h1) (by simpa using h2)
end Go.Vc
namespace Go.Proofs.YtfadcafacpaldaaGreatDoor
open Go.Vc
theorem ok_spec_l01Less {va vb : Value} {w : World} {a b : List Int} (ha : SlI w va a) (hb : SlI w vb b) : Ret Tryz.prog f_spec_l01Less #[va, vb] w (.bool (lessB a b)) := by
  apply c_spec_l01Less; unfold S_spec_l01Less
  have hal := ha.len
  have hbl := hb.len
  refine iLp (fun k : Nat => [.int .i64 (k : Int)]) (fun k w' => k ≤ a.length ∧ k ≤ b.length ∧ Ext w w' ∧ ∀ i, i < k → a[i]? = b[i]?) (fun k => a.length - k) 0 rfl ⟨Nat.zero_le _, Nat.zero_le _, Ext.refl _, fun i hi => by omega⟩ ?_
  rintro k w2 Kn ⟨hka, hkb, h2, heq⟩ hKn
  have ha2 := ha.ext h2
  have hb2 := hb.ext h2
  have hup := lessB_upto a b k heq hka hkb
  (intro _; (try simp only [gx]))
  refine iJnB (decide (k < a.length) && decide (k < b.length)) w2 (fun J hJ => ?_) (fun w4 h4 => ?_)
  · ((with_reducible refine iLenI (by assumption) ?_; refine iLt ?_))
    refine iCndP (fun h5 => ?_) (fun h5 => ?_)
    · ((with_reducible refine iLenI (by assumption) ?_; refine iLt ?_))
      have := hJ w2 (Ext.refl _)
      rw [decide_eq_true (show k < a.length by omega), Bool.true_and] at this
      have e : decide ((k : Int) < (b.length : Nat)) = decide (k < b.length) := decide_eq_decide.2 (by omega)
      rw [e]; exact this
    · have := hJ w2 (Ext.refl _)
      rw [decide_eq_false (show ¬ k < a.length by omega), Bool.false_and] at this
      exact this
  · have ha4 := ha2.ext h4
    have hb4 := hb2.ext h4
    (intro _; (try simp only [gx]))
    refine iCnd (fun h5 => ?_) (fun h5 => ?_)
    · rw [Bool.and_eq_true, decide_eq_true_eq, decide_eq_true_eq] at h5
      have h5a := h5.1
      have h5b := h5.2
      have ea : a.getD k 0 = a[k] := by simp [List.getD_eq_getElem?_getD, h5a]
      have eb : b.getD k 0 = b[k] := by simp [List.getD_eq_getElem?_getD, h5b]
      rw [List.drop_eq_getElem_cons h5a, List.drop_eq_getElem_cons h5b] at hup
      simp only [lessB] at hup
      ((with_reducible refine iIaN (by assumption) ?_ (fun pa_ hpa_ => ?_)); omega; (with_reducible refine iLd (by assumption) ?_); (with_reducible refine iIaN (by assumption) ?_ (fun pa_ hpa_ => ?_)); omega; (with_reducible refine iLd (by assumption) ?_; refine iNe ?_))
      rw [ea, eb]
      intro w5 h6
      have ha5 := ha4.ext h6
      have hb5 := hb4.ext h6
      refine iCndP (fun h7 => ?_) (fun h7 => ?_)
      · rw [if_neg h7] at hup
        ((with_reducible refine iIaN (by assumption) ?_ (fun pa_ hpa_ => ?_)); omega; (with_reducible refine iLd (by assumption) ?_); (with_reducible refine iIaN (by assumption) ?_ (fun pa_ hpa_ => ?_)); omega; (with_reducible refine iLd (by assumption) ?_; refine iLt ?_))
        rw [ea, eb]
        intro w6 h8
        exact ⟨by rw [hup], h2.trans (h4.trans (h6.trans h8))⟩
      · (refine iAdd (by omega) ?_)
        refine hKn (k + 1) _ ⟨by omega, by omega, h2.trans (h4.trans h6), fun i hi => ?_⟩ (by omega)
        by_cases hik : i = k
        · subst hik
          rw [List.getElem?_eq_getElem h5a, List.getElem?_eq_getElem h5b, Classical.not_not.1 h7]
        · exact heq i (by omega)
    · rw [Bool.and_eq_false_iff, decide_eq_false_iff_not, decide_eq_false_iff_not] at h5
      ((with_reducible refine iLenI (by assumption) ?_; refine iLenI (by assumption) ?_; refine iLt ?_))
      refine ⟨?_, h2.trans h4⟩
      rw [hup]
      rcases Nat.lt_or_ge k a.length with h6 | h6
      · obtain rfl : k = b.length := by omega
        rw [List.drop_eq_nil_of_le (Nat.le_refl _), List.drop_eq_getElem_cons h6, decide_eq_false (by omega)]; rfl
      · obtain rfl : k = a.length := by omega
        rw [List.drop_eq_nil_of_le (Nat.le_refl _)]
        rcases Nat.lt_or_ge a.length b.length with h7 | h7
        · rw [List.drop_eq_getElem_cons h7, decide_eq_true (by omega)]; rfl
        · rw [List.drop_eq_nil_of_le h7, decide_eq_false (by omega)]; rfl
end Go.Proofs.YtfadcafacpaldaaGreatDoor

/- Contracts: cmp.Compare and slices.Compare on int64. Conditions: none. -/
namespace Go.Vc
/-- What slices.Compare answers. -/
def cmpI (a b : List Int) : Int := if lessB a b = true then -1 else if lessB b a = true then 1 else 0
theorem cmpI_neg {a b : List Int} : cmpI a b < 0 ↔ lessB a b = true := by
  unfold cmpI
  split
  · rename_i h; simp [h]
  · rename_i h
    split <;> simp [h]
end Go.Vc
namespace Go.Proofs.YtfadcafacpaldaaGreatDoor
open Go.Vc
theorem ok_cmp_isNaN_i64 (x : Int) (w : World) : Ret Tryz.prog f_cmp_isNaN_i64 #[.int .i64 x] w (.bool false) := by
  apply c_cmp_isNaN_i64; unfold S_cmp_isNaN_i64
  refine iNe ?_
  rw [decide_eq_false (fun h => h rfl)]
  exact ⟨rfl, Ext.refl _⟩
theorem ok_cmp_Compare_i64 (x y : Int) (w : World) : Ret Tryz.prog f_cmp_Compare_i64 #[.int .i64 x, .int .i64 y] w (.int .i64 (if x < y then -1 else if y < x then 1 else 0)) := by
  apply c_cmp_Compare_i64; unfold S_cmp_Compare_i64
  refine iRet (ok_cmp_isNaN_i64 x w) fun w1 h1 => ?_
  refine iRet (ok_cmp_isNaN_i64 y w1) fun w2 h2 => ?_
  refine iCndF rfl (iCndF rfl ?_)
  refine iLt ?_
  refine iCndP (fun h => ?_) (fun h => ?_)
  · rw [if_pos h]; exact ⟨rfl, h1.trans h2⟩
  · rw [if_neg h]
    refine iLt ?_
    refine iCndP (fun h => ?_) (fun h => ?_)
    · rw [if_pos h]; exact ⟨rfl, h1.trans h2⟩
    · rw [if_neg h]; exact ⟨rfl, h1.trans h2⟩
theorem ok_slices_CompareX {va vb : Value} {w : World} {a b : List Int} (ha : SlI w va a) (hb : SlI w vb b) : Ret Tryz.prog f_slices_Compare_Si64_i64 #[va, vb] w (.int .i64 (cmpI a b)) := by
  apply c_slices_Compare_Si64_i64; unfold S_slices_Compare_Si64_i64
  have hal := ha.len
  have hbl := hb.len
  ((with_reducible refine iLenI (by assumption) ?_))
  refine iLp (fun k : Nat => [.int .i64 (k : Int)]) (fun k w' => k ≤ a.length ∧ k ≤ b.length ∧ Ext w w' ∧ ∀ i, i < k → a[i]? = b[i]?) (fun k => a.length - k) 0 rfl ⟨Nat.zero_le _, Nat.zero_le _, Ext.refl _, fun i hi => by omega⟩ ?_
  rintro k w2 Kn ⟨hka, hkb, h2, heq⟩ hKn
  have ha2 := ha.ext h2
  have hb2 := hb.ext h2
  have hup := lessB_upto a b k heq hka hkb
  have hup2 := lessB_upto b a k (fun i hi => (heq i hi).symm) hkb hka
  (intro _; (try simp only [gx]); (with_reducible refine iLt ?_))
  refine iCndP (fun h5 => ?_) (fun h5 => ?_)
  · have h5a : k < a.length := by omega
    have ea : a.getD k 0 = a[k] := by simp [List.getD_eq_getElem?_getD, h5a]
    ((with_reducible refine iIaN (by assumption) ?_ (fun pa_ hpa_ => ?_)); omega; (with_reducible refine iLd (by assumption) ?_; refine iLenI (by assumption) ?_; refine iLe ?_))
    rw [ea]
    refine iCndP (fun h6 => ?_) (fun h6 => ?_)
    · obtain rfl : k = b.length := by omega
      rw [List.drop_eq_nil_of_le (Nat.le_refl _), List.drop_eq_getElem_cons h5a] at hup hup2
      refine ⟨?_, h2⟩
      unfold cmpI
      rw [hup, hup2]
      simp [lessB]
    · have h5b : k < b.length := by omega
      have eb : b.getD k 0 = b[k] := by simp [List.getD_eq_getElem?_getD, h5b]
      rw [List.drop_eq_getElem_cons h5a, List.drop_eq_getElem_cons h5b] at hup hup2
      simp only [lessB] at hup hup2
      ((with_reducible refine iIaN (by assumption) ?_ (fun pa_ hpa_ => ?_)); omega; (with_reducible refine iLd (by assumption) ?_))
      rw [eb]
      refine iRet (ok_cmp_Compare_i64 a[k] b[k] w2) fun w3 h3 => ?_
      refine iNe ?_
      refine iCndP (fun h7 => ?_) (fun h7 => ?_)
      · refine ⟨?_, h2.trans h3⟩
        have hne : ¬ a[k] = b[k] := fun e => h7 (by rw [e]; simp)
        unfold cmpI
        rw [hup, hup2, if_neg hne, if_neg (show ¬ b[k] = a[k] from fun e => hne e.symm)]
        by_cases hlt : a[k] < b[k]
        · rw [if_pos hlt, if_pos (by simpa using hlt)]
        · rw [if_neg hlt, if_pos (by omega), if_neg (by simpa using hlt), if_pos (by rw [decide_eq_true_eq]; omega)]
      · have he : a[k] = b[k] := by
          rcases Int.lt_trichotomy a[k] b[k] with h | h | h
          · exact absurd (by rw [if_pos h]; decide) h7
          · exact h
          · exact absurd (by rw [if_neg (by omega), if_pos h]; decide) h7
        (refine iAdd (by omega) ?_)
        refine hKn (k + 1) _ ⟨by omega, by omega, h2.trans h3, fun i hi => ?_⟩ (by omega)
        by_cases hik : i = k
        · subst hik
          rw [List.getElem?_eq_getElem h5a, List.getElem?_eq_getElem h5b, he]
        · exact heq i (by omega)
  · obtain rfl : k = a.length := by omega
    rw [List.drop_eq_nil_of_le (Nat.le_refl _)] at hup hup2
    ((with_reducible refine iLenI (by assumption) ?_; refine iLenI (by assumption) ?_; refine iLt ?_))
    refine iCndP (fun h6 => ?_) (fun h6 => ?_)
    · have h7 : a.length < b.length := by omega
      refine ⟨?_, h2⟩
      unfold cmpI
      rw [hup, hup2, List.drop_eq_getElem_cons h7]
      simp [lessB]
    · refine ⟨?_, h2⟩
      unfold cmpI
      rw [hup, hup2, List.drop_eq_nil_of_le (by omega)]
      simp [lessB]
end Go.Proofs.YtfadcafacpaldaaGreatDoor

/- Contracts: sorting slices of slices of int64 in place by slices.Compare (the parts of pdqsort). Conditions: none. -/
namespace Go.Vc
section
universe u
variable {α : Type u} {enc : α → Value} {P : Program}
/-- The call's own slice v holds L', and nothing else has turned. -/
structure Turn (lo : Nat) (e : TypeId) (enc : α → Value) (v : Value) (w w' : World) (L' : List α) : Prop where
  ow : Ow lo e w' v (L'.map enc)
  ch : Ch (fun c => v.ownBlock = some c) w w'
theorem Turn.refl {lo : Nat} {e : TypeId} {v : Value} {w : World} {L : List α} (h : Ow lo e w v (L.map enc)) : Turn lo e enc v w w L := ⟨h, (Ext.refl w).ch⟩
theorem Turn.ext {lo : Nat} {e : TypeId} {v : Value} {w w' w'' : World} {L : List α} (h : Turn lo e enc v w w' L) (k : Ext w' w'') : Turn lo e enc v w w'' L :=
  ⟨h.ow.ext k, h.ch.trans (k.ch (S := fun _ => False)) fun _ e => e.elim⟩
theorem Turn.trans {lo : Nat} {e : TypeId} {v : Value} {w w' w'' : World} {L L' : List α} (h : Turn lo e enc v w w' L) (k : Turn lo e enc v w' w'' L') : Turn lo e enc v w w'' L' :=
  ⟨k.ow, h.ch.trans k.ch fun _ e => .inl e⟩
theorem iRdO [Inhabited α] {lo : Nat} {e : TypeId} {w : World} {v : Value} {L : List α} {z : Int} {j : Nat} {k : IntKind} {K : Value → Prop} (hs : Ow lo e w v (L.map enc)) (hz : z = (j : Int)) (hj : j < L.length) (h : K (enc (gt L j))) : xIa 1 v (.int k z) fun p => xLd w p K := by
  subst hz
  refine iIaOw hs (by omega) (by rw [List.length_map]; omega) fun b o _ _ _ hc _ _ => iLd (hc.trans ?_) h
  rw [Int.toNat_natCast, gt_eq hj]
  simp [hj]
theorem iWr2 {lo : Nat} {e : TypeId} {w : World} {v : Value} {L : List α} {z z' : Int} {i j : Nat} {k k' : IntKind} {x y : α} {K : World → Prop} (hE : ∀ x, isCell (enc x) = true) (hs : Ow lo e w v (L.map enc)) (hz : z = (i : Int)) (hz' : z' = (j : Int)) (hi : i < L.length) (hj : j < L.length)
    (h : ∀ w', Turn lo e enc v w w' ((L.set i x).set j y) → K w') :
    xIa 1 v (.int k z) fun p => ∀ w1, Ext w w1 → xSt w1 p (enc x) fun w2 => xIa 1 v (.int k' z') fun q => ∀ w3, Ext w2 w3 → xSt w3 q (enc y) fun w4 => ∀ w5, Ext w4 w5 → K w5 := by
  subst hz
  subst hz'
  refine iIaOwE hs (by rw [List.length_map]; exact hi) fun b hb H => ?_
  intro w1 h1
  obtain ⟨hc, hf, hset⟩ := H w1 _ rfl (hs.ext h1)
  refine iSt (hc.trans (List.getElem?_eq_getElem (by rw [List.length_map]; exact hi))) hf (hE x) ?_
  have hs2 := hset (enc x)
  have hc2 : Ch (fun c => v.ownBlock = some c) w (w1.setCell ⟨b, i, none⟩ (enc x)) := (h1.ch (S := fun c => v.ownBlock = some c)).trans ((Upd.setCell w1 b i _).ch (S := fun c => v.ownBlock = some c) hb) fun _ e => .inl e
  refine iIaOwE hs2 (by rw [List.length_set, List.length_map]; exact hj) fun b' hb' H' => ?_
  intro w3 h3
  obtain ⟨hc3, hf3, hset3⟩ := H' w3 _ rfl (hs2.ext h3)
  refine iSt (hc3.trans (List.getElem?_eq_getElem (by rw [List.length_set, List.length_map]; exact hj))) hf3 (hE y) ?_
  intro w5 h5
  refine h w5 (Turn.ext ⟨?_, ?_⟩ h5)
  · have := hset3 (enc y)
    rwa [← List.map_set, ← List.map_set] at this
  · exact (hc2.trans (h3.ch (S := fun c => v.ownBlock = some c)) fun _ e => .inl e).trans ((Upd.setCell w3 b' j _).ch (S := fun c => v.ownBlock = some c) hb') fun _ e => .inl e
end
/-- An element: a slice, and what it holds. -/
abbrev VL := Value × List Int
instance : Inhabited VL := ⟨(.slice none 0 0, [])⟩
def encV (x : VL) : Value := if isCell x.1 = true then x.1 else .slice none 0 0
theorem encV_cell (x : VL) : isCell (encV x) = true := by
  unfold encV
  split
  · assumption
  · rfl
theorem encV_eq {x : VL} (h : isCell x.1 = true) : encV x = x.1 := if_pos h
abbrev evL (L : List VL) : List Value := L.map encV
theorem evs_len (L : List VL) : (evL L).length = L.length := List.length_map ..
def ltV (a b : VL) : Bool := lessB a.2 b.2
theorem ordrV : Ordr ltV := ⟨fun {a b} h => lessB_asymm a.2 b.2 h, fun {a b c} h k => lessB_trans a.2 b.2 c.2 h k⟩
/-- The rows of the elements can be read. -/
def RowsV (e : TypeId) (w : World) (L : List VL) : Prop := ∀ x ∈ L, Ow 0 e w (encV x) (ints x.2)
theorem RowsV.ext {e : TypeId} {w w' : World} {L : List VL} (h : RowsV e w L) (x : Ext w w') : RowsV e w' L := fun y hy => (h y hy).ext x
theorem RowsV.ch {e e' : TypeId} {w w' : World} {L : List VL} {c : Nat} {cs : List Value} (h : RowsV e w L) (hB : Blk e' w c cs) (hne : e ≠ e') (x : Ch (fun k => k = c) w w') : RowsV e w' L := fun y hy => (h y hy).ch x fun _ hk e => (h y hy).ne_blk hB hne (by rw [← e]; exact hk)
theorem RowsV.turn {lo : Nat} {e e' : TypeId} {v : Value} {w w' : World} {L L' : List VL} (h : RowsV e w L) (hs : Ow lo e' w v (evL L)) (hne : e ≠ e') (ht : Turn lo e' encV v w w' L') (hp : List.Perm L' L) : RowsV e w' L' := fun y hy =>
  (h y (hp.mem_iff.1 hy)).ch ht.ch fun _ hk hk' => (h y (hp.mem_iff.1 hy)).ne_ow hs hne hk hk'
end Go.Vc
namespace Go.Proofs.YtfadcafacpaldaaGreatDoor
open Go.Vc
abbrev cmpV : Value := .func (.func f_slices_Compare_Si64_i64) #[] #[]
theorem cmp_call {w : World} {L : List VL} {i j : Nat} {K : Value → World → Prop} (hr : RowsV t_i64 w L) (hi : i < L.length) (hj : j < L.length) (h : ∀ w', Ext w w' → K (.bool (ltV (gt L i) (gt L j))) w') : callV Tryz.prog cmpV [encV (gt L i), encV (gt L j)] w fun r w2 => xLt .i64 r (.int .i64 0) fun b => K b w2 := by
  have h1 := (hr (gt L i) (by rw [gt_eq hi]; exact List.getElem_mem _)).sl
  have h2 := (hr (gt L j) (by rw [gt_eq hj]; exact List.getElem_mem _)).sl
  refine iRet (ok_slices_CompareX h1 h2) fun w' x => ?_
  refine iLt ?_
  have e : decide (cmpI (gt L i).2 (gt L j).2 < 0) = ltV (gt L i) (gt L j) := by
    rw [Bool.eq_iff_iff, decide_eq_true_eq, cmpI_neg]; rfl
  rw [e]
  exact h w' x
theorem iCm {w : World} {L : List VL} {i j : Nat} {G : Value → World → Prop} (hr : RowsV t_i64 w L) (hi : i < L.length) (hj : j < L.length) (h : ∀ w', Ext w w' → G (.bool (ltV (gt L i) (gt L j))) w') : ∀ w1, Ext w w1 → callV Tryz.prog cmpV [encV (gt L i), encV (gt L j)] w1 fun r w2 => xLt .i64 r (.int .i64 0) fun b => ∀ w3, Ext w2 w3 → G b w3 :=
  fun _ x1 => cmp_call (hr.ext x1) hi hj fun _ x2 _ x3 => h _ ((x1.trans x2).trans x3)
theorem iCmN {w : World} {L : List VL} {i j : Nat} {G : Value → World → Prop} (hr : RowsV t_i64 w L) (hi : i < L.length) (hj : j < L.length) (h : ∀ w', Ext w w' → G (.bool (!ltV (gt L i) (gt L j))) w') : ∀ w1, Ext w w1 → callV Tryz.prog cmpV [encV (gt L i), encV (gt L j)] w1 fun r w2 => xLt .i64 r (.int .i64 0) fun b => xNot b fun c => ∀ w3, Ext w2 w3 → G c w3 :=
  fun _ x1 => cmp_call (hr.ext x1) hi hj fun _ x2 => iNot fun _ x3 => h _ ((x1.trans x2).trans x3)
theorem ok_slices_insertionSortV {lo : Nat} {w : World} {v : Value} {L : List VL} {a b : Nat} (hs : Ow lo t_Si64 w v (evL L)) (hrw : RowsV t_i64 w L) (hab : a ≤ b) (hb : b ≤ L.length) (hL : L.length ≤ 1152921504606846976) :
    Cal Tryz.prog f_slices_insertionSortCmpFunc_Si64 #[v, .int .i64 (a : Int), .int .i64 (b : Int), cmpV] w fun _ w' => ∃ L', Turn lo t_Si64 encV v w w' L' ∧ SwR a b L L' ∧ Srt ltV a b L' := by
  apply c_slices_insertionSortCmpFunc_Si64; unfold S_slices_insertionSortCmpFunc_Si64
  (refine iAdd (by omega) ?_)
  refine iLp (fun i : Nat => [.int .i64 (i : Int)]) (fun i w' => a + 1 ≤ i ∧ i ≤ b + 1 ∧ ∃ L', Turn lo t_Si64 encV v w w' L' ∧ SwR a b L L' ∧ Srt ltV a i L') (fun i => b + 1 - i) (a + 1) (by simp) ⟨Nat.le_refl _, by omega, L, Turn.refl hs, .refl, Srt.short (Nat.le_refl _)⟩ ?_
  rintro i w2 Kn ⟨hi, hib, L1, ht1, hw1, hs1⟩ hKn
  intro _
  simp only [gx]
  refine iLt ?_
  refine iCndP (fun h => ?_) (fun h => ?_)
  · have hl1 := hw1.len
    refine iLp (fun j : Nat => [.int .i64 (j : Int)]) (fun j w' => a ≤ j ∧ j ≤ i ∧ ∃ L', Turn lo t_Si64 encV v w w' L' ∧ SwR a b L L' ∧ Ins ltV a i j L') (fun j => j) i rfl ⟨by omega, Nat.le_refl _, L1, ht1, hw1, Ins.init hs1⟩ ?_
    rintro j w4 Kn2 ⟨haj, hji, L2, ht2, hw2, hin⟩ hKn2
    have hl2 := hw2.len
    intro _
    simp only [gx]
    refine iJnB (decide (a < j) && ltV (gt L2 j) (gt L2 (j - 1))) w4 (fun J hJ => ?_) (fun w6 h6 => ?_)
    · refine iLt ?_
      refine iCndP (fun h5 => ?_) (fun h5 => ?_)
      · rw [decide_eq_true (show a < j by omega), Bool.true_and] at hJ
        refine iRdO (j := j) ht2.ow rfl (by omega) ?_
        (refine iSub (by omega) ?_)
        refine iRdO (j := j - 1) ht2.ow (by omega) (by omega) ?_
        exact iCm (hrw.turn hs (by decide) ht2 hw2.perm) (by omega) (by omega) hJ
      · rw [decide_eq_false (show ¬ a < j by omega), Bool.false_and] at hJ
        exact fun _ x8 _ x9 => hJ _ (x8.trans x9)
    · intro _
      simp only [gx]
      have ht6 := ht2.ext h6
      cases hc : decide (a < j) && ltV (gt L2 j) (gt L2 (j - 1))
      · refine iCndF rfl ?_
        (refine iAdd (by omega) ?_)
        refine hKn (i + 1) _ ⟨by omega, by omega, L2, ht6, hw2, hin.done ordrV ?_ hji⟩ (by omega)
        rw [Bool.and_eq_false_iff, decide_eq_false_iff_not] at hc
        rcases hc with hc | hc
        · exact .inl (by omega)
        · rcases Nat.lt_or_ge a j with h' | h'
          · exact .inr ⟨h', hc⟩
          · exact .inl h'
      · rw [Bool.and_eq_true, decide_eq_true_eq] at hc
        refine iCndT rfl ?_
        (refine iSub (by omega) ?_; refine iSub (by omega) ?_)
        refine iRdO (j := j - 1) ht6.ow (by omega) (by omega) ?_
        refine iRdO (j := j) ht6.ow rfl (by omega) ?_
        refine iWr2 (i := j) (j := j - 1) encV_cell ht6.ow rfl (by omega) (by omega) (by omega) fun w13 h13 => ?_
        (refine iSub (by omega) ?_)
        rw [show (j : Int) - 1 = ((j - 1 : Nat) : Int) by omega]
        exact hKn2 (j - 1) _ ⟨by omega, by omega, sw L2 j (j - 1), ht6.trans h13, .step hw2 (by omega) (by omega) (by omega) (by omega) hb, hin.swap ordrV hc.1 hji (by omega) hc.2⟩ (by omega)
  · exact ⟨L1, ht1, hw1, hs1.mono (Nat.le_refl _) (by omega)⟩
theorem ok_slices_reverseRangeCmpFunc_Si64 {lo : Nat} {w : World} {v : Value} {L : List VL} {a b : Nat} (hs : Ow lo t_Si64 w v (evL L)) (hab : a ≤ b) (hb : b ≤ L.length) (hL : L.length ≤ 1152921504606846976) :
    Cal Tryz.prog f_slices_reverseRangeCmpFunc_Si64 #[v, .int .i64 (a : Int), .int .i64 (b : Int), cmpV] w fun _ w' => ∃ L', Turn lo t_Si64 encV v w w' L' ∧ SwR a b L L' := by
  apply c_slices_reverseRangeCmpFunc_Si64; unfold S_slices_reverseRangeCmpFunc_Si64
  (refine iSub (by omega) ?_)
  refine iLp (fun s : Nat × Int => [.int .i64 (s.1 : Int), .int .i64 s.2]) (fun s w' => a ≤ s.1 ∧ s.1 ≤ b ∧ -1 ≤ s.2 ∧ s.2 < b ∧ (b : Int) - s.2 ≤ s.1 - a + 1 ∧ ∃ L', Turn lo t_Si64 encV v w w' L' ∧ SwR a b L L') (fun s => b - s.1) (a, (b : Int) - 1) rfl ⟨Nat.le_refl _, hab, by show -1 ≤ (b : Int) - 1; omega, by show (b : Int) - 1 < b; omega, by show (b : Int) - ((b : Int) - 1) ≤ a - a + 1; omega, L, Turn.refl hs, .refl⟩ ?_
  rintro ⟨i, j⟩ w2 Kn ⟨hi, hib, hj, hjb, hij, L1, ht1, hw1⟩ hKn
  have hi : a ≤ i := hi
  have hib : i ≤ b := hib
  have hj : -1 ≤ j := hj
  have hjb : j < b := hjb
  have hij : (b : Int) - j ≤ i - a + 1 := hij
  have hl1 := hw1.len
  intro _
  simp only [gx]
  refine iLt ?_
  refine iCndP (fun h => ?_) (fun h => ?_)
  · refine iRdO (j := j.toNat) ht1.ow (by omega) (by omega) ?_
    refine iRdO (j := i) ht1.ow rfl (by omega) ?_
    refine iWr2 (i := i) (j := j.toNat) encV_cell ht1.ow rfl (by omega) (by omega) (by omega) fun w7 h7 => ?_
    (refine iAdd (by omega) ?_; refine iSub (by omega) ?_)
    exact hKn (i + 1, j - 1) _ ⟨by show a ≤ i + 1; omega, by show i + 1 ≤ b; omega, by show -1 ≤ j - 1; omega, by show j - 1 < b; omega, by show (b : Int) - (j - 1) ≤ ((i + 1 : Nat) : Int) - a + 1; omega, sw L1 i j.toNat, ht1.trans h7, .step hw1 hi (by omega) (by omega) (by omega) hb⟩ (by show b - (i + 1) < b - i; omega)
  · exact ⟨L1, ht1, hw1⟩
theorem ok_slices_siftDownCmpFunc_Si64 {lo0 : Nat} {w : World} {v : Value} {L : List VL} {lo hi first : Nat} (hs : Ow lo0 t_Si64 w v (evL L)) (hrw : RowsV t_i64 w L) (hlo : lo ≤ hi) (hb : first + hi ≤ L.length) (hL : L.length ≤ 1152921504606846976) (hh : Heap ltV first (lo + 1) hi L) :
    Cal Tryz.prog f_slices_siftDownCmpFunc_Si64 #[v, .int .i64 (lo : Int), .int .i64 (hi : Int), .int .i64 (first : Int), cmpV] w fun _ w' => ∃ L', Turn lo0 t_Si64 encV v w w' L' ∧ SwR (first + lo) (first + hi) L L' ∧ Heap ltV first lo hi L' := by
  apply c_slices_siftDownCmpFunc_Si64; unfold S_slices_siftDownCmpFunc_Si64
  refine iLp (fun r : Nat => [.int .i64 (r : Int)]) (fun r w' => lo ≤ r ∧ r ≤ hi ∧ ∃ L', Turn lo0 t_Si64 encV v w w' L' ∧ SwR (first + lo) (first + hi) L L' ∧ Sift ltV first lo hi r L') (fun r => hi - r) lo rfl ⟨Nat.le_refl _, hlo, L, Turn.refl hs, .refl, Sift.init hh⟩ ?_
  rintro r w2 Kn ⟨hr, hrh, L1, ht1, hw1, hsf⟩ hKn
  have hl1 := hw1.len
  intro _
  simp only [gx]
  refine iMul (by omega) ?_
  (refine iAdd (by omega) ?_; (with_reducible refine iLe ?_))
  refine iCndP (fun h => ?_) (fun h => ?_)
  · exact ⟨L1, ht1, hw1, hsf.done fun c hc hch => by omega⟩
  · have hlr : r < hi := by omega
    refine iJnB (decide (2 * r + 2 < hi) && ltV (gt L1 (first + (2 * r + 1))) (gt L1 (first + (2 * r + 2)))) w2 (fun J hJ => ?_) (fun w4 h4 => ?_)
    · (refine iAdd (by omega) ?_; (with_reducible refine iLt ?_))
      refine iCndP (fun h5 => ?_) (fun h5 => ?_)
      · rw [decide_eq_true (show 2 * r + 2 < hi by omega), Bool.true_and] at hJ
        (refine iAdd (by omega) ?_)
        refine iRdO (j := first + (2 * r + 1)) ht1.ow (by omega) (by omega) ?_
        (refine iAdd (by omega) ?_; refine iAdd (by omega) ?_)
        refine iRdO (j := first + (2 * r + 2)) ht1.ow (by omega) (by omega) ?_
        exact iCm (hrw.turn hs (by decide) ht1 hw1.perm) (by omega) (by omega) hJ
      · rw [decide_eq_false (show ¬ 2 * r + 2 < hi by omega), Bool.false_and] at hJ
        exact fun _ x8 _ x9 => hJ _ (x8.trans x9)
    · intro _
      simp only [gx]
      have ht4 := ht1.ext h4
      refine iJnX (fun xs w8 => Ext w4 w8 ∧ ∃ c : Nat, xs = [.int .i64 (c : Int)] ∧ (c = 2 * r + 1 ∨ c = 2 * r + 2) ∧ c < hi ∧ ∀ d, (d = 2 * r + 1 ∨ d = 2 * r + 2) → d < hi → ltV (gt L1 (first + c)) (gt L1 (first + d)) = false) (fun J hJ => ?_) ?_
      · cases hc : decide (2 * r + 2 < hi) && ltV (gt L1 (first + (2 * r + 1))) (gt L1 (first + (2 * r + 2)))
        · refine iCndF rfl ?_
          refine hJ _ _ ⟨Ext.refl _, 2 * r + 1, rfl, .inl rfl, by omega, fun d hd hdh => ?_⟩
          rcases hd with hd | hd
          · subst hd; exact ordrV.rfl _
          · subst hd; rw [decide_eq_true hdh, Bool.true_and] at hc; exact hc
        · rw [Bool.and_eq_true, decide_eq_true_eq] at hc
          refine iCndT rfl ?_
          (refine iAdd (by omega) ?_)
          refine hJ _ _ ⟨Ext.refl _, 2 * r + 2, rfl, .inr rfl, hc.1, fun d hd hdh => ?_⟩
          rcases hd with hd | hd
          · subst hd; exact ordrV.asym hc.2
          · subst hd; exact ordrV.rfl _
      · rintro xs w8 ⟨h8, c, rfl, hc, hch, hmax⟩
        intro _
        simp only [gx]
        have ht8 := ht4.ext h8
        (refine iAdd (by omega) ?_)
        refine iRdO (j := first + r) ht8.ow (by omega) (by omega) ?_
        (refine iAdd (by omega) ?_)
        refine iRdO (j := first + c) ht8.ow (by omega) (by omega) ?_
        refine iCmN (hrw.turn hs (by decide) ht8 hw1.perm) (by omega) (by omega) fun w9 h9 => ?_
        have ht9 := ht8.ext h9
        refine iCnd (fun h5 => ?_) (fun h5 => ?_)
        · refine ⟨L1, ht9, hw1, hsf.done fun d hd hdh => ?_⟩
          have h5 : ltV (gt L1 (first + r)) (gt L1 (first + c)) = false := by simpa using h5
          exact ordrV.tr (hmax d hd hdh) h5
        · have h5 : ltV (gt L1 (first + r)) (gt L1 (first + c)) = true := by simpa using h5
          (refine iAdd (by omega) ?_; refine iAdd (by omega) ?_; refine iAdd (by omega) ?_)
          refine iRdO (j := first + c) ht9.ow (by omega) (by omega) ?_
          (refine iAdd (by omega) ?_)
          refine iRdO (j := first + r) ht9.ow (by omega) (by omega) ?_
          refine iWr2 (i := first + r) (j := first + c) encV_cell ht9.ow (by omega) (by omega) (by omega) (by omega) fun w14 h14 => ?_
          exact hKn c _ ⟨by omega, by omega, sw L1 (first + r) (first + c), ht9.trans h14, .step hw1 (by omega) (by omega) (by omega) (by omega) (by omega), hsf.swap ordrV hr hc hch (by omega) h5 hmax⟩ (by omega)
theorem ok_slices_heapSortCmpFunc_Si64 {lo : Nat} {w : World} {v : Value} {L : List VL} {a b : Nat} (hs : Ow lo t_Si64 w v (evL L)) (hrw : RowsV t_i64 w L) (hab : a < b) (hb : b ≤ L.length) (hL : L.length ≤ 1152921504606846976) :
    Cal Tryz.prog f_slices_heapSortCmpFunc_Si64 #[v, .int .i64 (a : Int), .int .i64 (b : Int), cmpV] w fun _ w' => ∃ L', Turn lo t_Si64 encV v w w' L' ∧ SwR a b L L' ∧ Srt ltV a b L' := by
  apply c_slices_heapSortCmpFunc_Si64; unfold S_slices_heapSortCmpFunc_Si64
  obtain ⟨n, rfl⟩ : ∃ n, b = a + n := ⟨b - a, by omega⟩
  (refine iSub (by omega) ?_; refine iSub (by omega) ?_)
  refine iQuo (by omega) ?_
  refine iLp (fun s : Nat => [.int .i64 ((s : Int) - 1)]) (fun s w' => s ≤ n ∧ ∃ L', Turn lo t_Si64 encV v w w' L' ∧ SwR a (a + n) L L' ∧ Heap ltV a s n L') (fun s => s) ((n - 1) / 2 + 1) (by congr 2; omega) ⟨by omega, L, Turn.refl hs, .refl, fun p c h1 h2 h3 => by omega⟩ ?_
  rintro s w2 Kn ⟨hsn, L1, ht1, hw1, hh⟩ hKn
  have hl1 := hw1.len
  intro _
  simp only [gx]
  refine iLe ?_
  refine iCndP (fun h => ?_) (fun h => ?_)
  · rw [show (s : Int) - 1 = ((s - 1 : Nat) : Int) by omega, show ((a + n : Nat) : Int) - a = (n : Int) by omega]
    refine iCall ?_
    refine (ok_slices_siftDownCmpFunc_Si64 (lo := s - 1) (hi := n) (first := a) ht1.ow (hrw.turn hs (by decide) ht1 hw1.perm) (by omega) (by omega) (by omega) (by rw [show s - 1 + 1 = s by omega]; exact hh)).mono fun _ w3 h3 => ?_
    obtain ⟨L2, ht2, hw2, hh2⟩ := h3
    (refine iSub (by omega) ?_)
    exact hKn (s - 1) _ ⟨by omega, L2, ht1.trans ht2, hw1.trans (hw2.mono (by omega) (Nat.le_refl _) (by omega)), hh2⟩ (by omega)
  · (refine iSub (by omega) ?_)
    have hs0 : s = 0 := by omega
    subst hs0
    refine iLp (fun s : Nat => [.int .i64 ((s : Int) - 1)]) (fun s w' => s ≤ n ∧ ∃ L', Turn lo t_Si64 encV v w w' L' ∧ SwR a (a + n) L L' ∧ Heap ltV a 0 s L' ∧ (∀ p q, a ≤ p → p < q → a + s ≤ q → q < a + n → ltV (gt L' q) (gt L' p) = false)) (fun s => s) n (by congr 2; omega) ⟨Nat.le_refl _, L1, ht1, hw1, hh, fun p q h1 h2 h3 h4 => by omega⟩ ?_
    rintro s w5 Kn5 ⟨hsn, L2, ht2, hw2, hh2, hpr⟩ hKn5
    have hl2 := hw2.len
    intro _
    simp only [gx]
    refine iLe ?_
    refine iCndP (fun h5 => ?_) (fun h5 => ?_)
    · (refine iAdd (by omega) ?_; refine iAdd (by omega) ?_)
      refine iRdO (j := a + (s - 1)) ht2.ow (by omega) (by omega) ?_
      refine iRdO (j := a) ht2.ow rfl (by omega) ?_
      refine iWr2 (i := a) (j := a + (s - 1)) encV_cell ht2.ow rfl (by omega) (by omega) (by omega) fun w10 h10 => ?_
      rw [show (s : Int) - 1 = ((s - 1 : Nat) : Int) by omega]
      have e : ∀ k, gt (sw L2 a (a + (s - 1))) k = if k = a + (s - 1) then gt L2 a else if k = a then gt L2 (a + (s - 1)) else gt L2 k := gt_sw (by omega) (by omega)
      have hw3 : SwR a (a + n) L2 (sw L2 a (a + (s - 1))) := .one (by omega) (by omega) (by omega) (by omega) (by omega)
      have htop := Heap.top ordrV hh2
      refine iCall ?_
      refine (ok_slices_siftDownCmpFunc_Si64 (L := sw L2 a (a + (s - 1))) (lo := 0) (hi := s - 1) (first := a) h10.ow (hrw.turn hs (by decide) (ht2.trans h10) (hw2.trans hw3).perm) (by omega) (by rw [hw3.len]; omega) (by rw [hw3.len]; omega) (fun p c h1 h2 h3 => by
        rw [e, e, if_neg (by omega), if_neg (by omega), if_neg (by omega), if_neg (by omega)]
        exact hh2 p c (by omega) h2 (by omega))).mono fun _ w11 h11 => ?_
      obtain ⟨L4, ht4, hw4, hh4⟩ := h11
      (refine iSub (by omega) ?_)
      refine hKn5 (s - 1) _ ⟨by omega, L4, (ht2.trans h10).trans ht4, (hw2.trans hw3).trans (hw4.mono (by omega) (by omega) (by rw [hw3.len]; omega)), hh4, fun p q h1 h2 h3 h4 => ?_⟩ (by omega)
      rw [hw4.out (k := q) (by omega)]
      have main : ∀ p, a ≤ p → p < q → ltV (gt (sw L2 a (a + (s - 1))) q) (gt (sw L2 a (a + (s - 1))) p) = false := fun p h1 h2 => by
        rw [e, e]
        by_cases hq : q = a + (s - 1)
        · rw [if_pos hq, if_neg (by omega)]
          split
          · exact htop _ (by omega)
          · obtain ⟨k, rfl⟩ : ∃ k, p = a + k := ⟨p - a, by omega⟩
            exact htop _ (by omega)
        · rw [if_neg hq, if_neg (by omega)]
          split
          · exact hpr a q (by omega) (by omega) (by omega) h4
          · split
            · exact hpr _ q (by omega) (by omega) (by omega) h4
            · exact hpr p q h1 h2 (by omega) h4
      rcases Nat.lt_or_ge p (a + (s - 1)) with hp | hp
      · exact hw4.all (p := fun x => ltV (gt (sw L2 a (a + (s - 1))) q) x = false) (fun k hk hk' => main k (by omega) (by omega)) p (by omega) hp
      · rw [hw4.out (k := p) (by omega)]; exact main p h1 h2
    · exact ⟨L2, ht2, hw2, fun p q h1 h2 h3 => hpr p q h1 h2 (by omega) h3⟩
end Go.Proofs.YtfadcafacpaldaaGreatDoor

/- Contracts: lengths of numbers in bits. Conditions: none. -/
namespace Go.Vc
def len8 : Str := [0, 1, 2, 2, 3, 3, 3, 3, 4, 4, 4, 4, 4, 4, 4, 4, 5, 5, 5, 5, 5, 5, 5, 5, 5, 5, 5, 5, 5, 5, 5, 5, 6, 6, 6, 6, 6, 6, 6, 6, 6, 6, 6, 6, 6, 6, 6, 6, 6, 6, 6, 6, 6, 6, 6, 6, 6, 6, 6, 6, 6, 6, 6, 6,
  7, 7, 7, 7, 7, 7, 7, 7, 7, 7, 7, 7, 7, 7, 7, 7, 7, 7, 7, 7, 7, 7, 7, 7, 7, 7, 7, 7, 7, 7, 7, 7, 7, 7, 7, 7, 7, 7, 7, 7, 7, 7, 7, 7, 7, 7, 7, 7, 7, 7, 7, 7, 7, 7, 7, 7, 7, 7, 7, 7, 7, 7, 7, 7,
  8, 8, 8, 8, 8, 8, 8, 8, 8, 8, 8, 8, 8, 8, 8, 8, 8, 8, 8, 8, 8, 8, 8, 8, 8, 8, 8, 8, 8, 8, 8, 8, 8, 8, 8, 8, 8, 8, 8, 8, 8, 8, 8, 8, 8, 8, 8, 8, 8, 8, 8, 8, 8, 8, 8, 8, 8, 8, 8, 8, 8, 8, 8, 8,
  8, 8, 8, 8, 8, 8, 8, 8, 8, 8, 8, 8, 8, 8, 8, 8, 8, 8, 8, 8, 8, 8, 8, 8, 8, 8, 8, 8, 8, 8, 8, 8, 8, 8, 8, 8, 8, 8, 8, 8, 8, 8, 8, 8, 8, 8, 8, 8, 8, 8, 8, 8, 8, 8, 8, 8, 8, 8, 8, 8, 8, 8, 8, 8]
theorem len8_ok : ∀ x : Fin 256, x.val < 2 ^ (len8.getD x.val 0).toNat ∧ (1 ≤ x.val → 2 ^ (len8.getD x.val 0).toNat ≤ 2 * x.val) ∧ (len8.getD x.val 0).toNat ≤ 8 := by decide +kernel
theorem iShrV {a j : Nat} {K : Value → Prop} (hj : j ≤ 64) (h : K (.int .u64 ((a / 2 ^ j : Nat) : Int))) : xSh iShr .u64 (.int .u64 (a : Int)) (.int .u64 (j : Int)) K := by
  refine ⟨_, _, _, rfl, rfl, by omega, ?_⟩
  rw [show iShr .u64 (a : Int) (j : Int) = ((a / 2 ^ j : Nat) : Int) by
    unfold iShr
    rw [Int.toNat_natCast, show IntKind.u64.bits = 64 from rfl, Nat.min_eq_left hj, Int.fdiv_eq_ediv_of_nonneg _ (Int.le_of_lt (Int.pow_pos (by omega)))]
    push_cast
    rfl]
  exact h
end Go.Vc
namespace Go.Proofs.YtfadcafacpaldaaGreatDoor
open Go.Vc
set_option maxRecDepth 20000 in
theorem ok_math_bits_Len64 {n : Nat} (hn : n < 2 ^ 63) (w : World) : Cal Tryz.prog f_math_bits_Len64 #[.int .u64 (n : Int)] w fun r w' => Ext w w' ∧ ∃ k : Nat, r = .int .i64 (k : Int) ∧ n < 2 ^ k ∧ (1 ≤ n → 2 ^ k ≤ 2 * n) ∧ k ≤ 64 := by
  apply c_math_bits_Len64; unfold S_math_bits_Len64
  -- at each join: what is left of n, and by how many bits it was shifted
  have stage : ∀ {x m s : Nat}, x = n / 2 ^ m → x / 2 ^ s = n / 2 ^ (m + s) := fun {x m s} h => by rw [h, Nat.div_div_eq_div_mul, ← Nat.pow_add]
  ((with_reducible refine iLe ?_))
  refine iJnX (fun xs w' => Ext w w' ∧ ∃ x m : Nat, xs = [.int .u64 (x : Int), .int .i64 (m : Int)] ∧ x = n / 2 ^ m ∧ x < 2 ^ 32 ∧ (1 ≤ m → 1 ≤ x) ∧ m ≤ 32) (fun J hJ => ?_) ?_
  · refine iCndP (fun h => ?_) (fun h => ?_)
    · refine iShrV (j := 32) (by omega) ?_
      exact hJ _ _ ⟨Ext.refl _, _, 32, rfl, rfl, by omega, by omega, by omega⟩
    · exact hJ _ _ ⟨Ext.refl _, n, 0, rfl, by simp, by omega, by omega, by omega⟩
  rintro xs w2 ⟨h2, x, m, rfl, hx, hx32, hm1, hm⟩
  intro _
  simp only [gx]
  ((with_reducible refine iLe ?_))
  refine iJnX (fun xs w' => Ext w w' ∧ ∃ x m : Nat, xs = [.int .u64 (x : Int), .int .i64 (m : Int)] ∧ x = n / 2 ^ m ∧ x < 2 ^ 16 ∧ (1 ≤ m → 1 ≤ x) ∧ m ≤ 48) (fun J hJ => ?_) ?_
  · refine iCndP (fun h => ?_) (fun h => ?_)
    · refine iShrV (j := 16) (by omega) ?_
      (refine iAdd (by omega) ?_)
      exact hJ _ _ ⟨h2, _, m + 16, rfl, stage hx, by omega, by omega, by omega⟩
    · exact hJ _ _ ⟨h2, x, m, rfl, hx, by omega, hm1, by omega⟩
  rintro xs w4 ⟨h4, x, m, rfl, hx, hx16, hm1, hm⟩
  intro _
  simp only [gx]
  ((with_reducible refine iLe ?_))
  refine iJnX (fun xs w' => Ext w w' ∧ ∃ x m : Nat, xs = [.int .u64 (x : Int), .int .i64 (m : Int)] ∧ x = n / 2 ^ m ∧ x < 2 ^ 8 ∧ (1 ≤ m → 1 ≤ x) ∧ m ≤ 56) (fun J hJ => ?_) ?_
  · refine iCndP (fun h => ?_) (fun h => ?_)
    · refine iShrV (j := 8) (by omega) ?_
      (refine iAdd (by omega) ?_)
      exact hJ _ _ ⟨h4, _, m + 8, rfl, stage hx, by omega, by omega, by omega⟩
    · exact hJ _ _ ⟨h4, x, m, rfl, hx, by omega, hm1, by omega⟩
  rintro xs w6 ⟨h6, x, m, rfl, hx, hx8, hm1, hm⟩
  intro _
  simp only [gx]
  obtain ⟨t1, t2, t3⟩ : x < 2 ^ (len8.getD x 0).toNat ∧ (1 ≤ x → 2 ^ (len8.getD x 0).toNat ≤ 2 * x) ∧ (len8.getD x 0).toNat ≤ 8 := len8_ok ⟨x, hx8⟩
  refine ⟨_, _, rfl, ?_⟩
  rw [IntWalk.u8_in _ (by omega)]
  refine iIs (l := len8) (j := x) (by show x < 256; omega) ?_
  refine iConv64 (by omega) ?_
  refine iAdd (by omega) ?_
  refine ⟨h6, m + (len8.getD x 0).toNat, by first | rfl | (push_cast; rfl), ?_, fun h1 => ?_, by omega⟩
  · have := Nat.lt_div_mul_add (a := n) (b := 2 ^ m) (Nat.two_pow_pos m)
    rw [← hx] at this
    have h3 : (x + 1) * 2 ^ m ≤ 2 ^ (len8.getD x 0).toNat * 2 ^ m := Nat.mul_le_mul_right _ t1
    rw [Nat.pow_add, Nat.mul_comm (2 ^ m)]
    rw [Nat.add_mul] at h3
    omega
  · rcases Nat.eq_zero_or_pos x with h0 | h0
    · have hm0 : m = 0 := by omega
      subst hm0
      simp at hx
      omega
    · have h3 := Nat.mul_le_mul_left (2 ^ m) (t2 h0)
      have h4 : 2 ^ m * x ≤ n := by rw [hx]; exact Nat.mul_div_le n (2 ^ m)
      rw [Nat.pow_add]
      rw [Nat.mul_left_comm] at h3
      omega
theorem ok_math_bits_Len {n : Nat} (hn : n < 2 ^ 63) (w : World) : Cal Tryz.prog f_math_bits_Len #[.int .u64 (n : Int)] w fun r w' => Ext w w' ∧ ∃ k : Nat, r = .int .i64 (k : Int) ∧ n < 2 ^ k ∧ (1 ≤ n → 2 ^ k ≤ 2 * n) ∧ k ≤ 64 := by
  apply c_math_bits_Len; unfold S_math_bits_Len
  exact iCall (ok_math_bits_Len64 hn w)
end Go.Proofs.YtfadcafacpaldaaGreatDoor

/- Contracts: the helpers of pdqsort that draw places. Conditions: none. -/
namespace Go.Vc
theorem iAndV {a : Int} {m : Nat} {K : Value → Prop} (hm : m < 2 ^ 64) (h : ∀ x : Nat, x ≤ m → K (.int .u64 (x : Int))) : xBits iAnd .u64 (.int .u64 a) (.int .u64 (m : Int)) K := by
  refine ⟨_, _, rfl, rfl, ?_⟩
  have e : iAnd .u64 a (m : Int) = (((BitVec.ofInt 64 a &&& BitVec.ofInt 64 (m : Int)).toNat : Nat) : Int) := by
    rw [show iAnd .u64 a (m : Int) = IntKind.u64.wrap ((BitVec.ofInt 64 a &&& BitVec.ofInt 64 (m : Int)).toNat : Nat) from rfl]
    exact IntWalk.u64_in _ (by have := (BitVec.ofInt 64 a &&& BitVec.ofInt 64 (m : Int)).isLt; omega)
  rw [e]
  refine h _ ?_
  rw [BitVec.toNat_and, ofInt_nat, BitVec.toNat_ofNat, Nat.mod_eq_of_lt (a := m) (by omega)]
  exact Nat.and_le_right
theorem iStC {e : TypeId} {w : World} {b : Nat} {old v : Value} {K : World → Prop} (hb : Blk e w b [old]) (hv : isCell v = true) (h : ∀ w', Blk e w' b [v] → Ch (fun c => c = b) w w' → K w') : xSt w (.pointer (some ⟨b, 0, none⟩)) v K :=
  iStB hb (by simp) hv fun h2 => h _ h2 ((Upd.setCell w b 0 v).ch rfl)
end Go.Vc
namespace Go.Proofs.YtfadcafacpaldaaGreatDoor
open Go.Vc
theorem ok_slices_nextPowerOfTwo {n : Nat} (h1 : 1 ≤ n) (hn : n ≤ 1152921504606846976) (w : World) : Cal Tryz.prog f_slices_nextPowerOfTwo #[.int .i64 (n : Int)] w fun r w' => Ext w w' ∧ ∃ m : Nat, r = .int .u64 (m : Int) ∧ 1 ≤ m ∧ m ≤ 2 * n := by
  apply c_slices_nextPowerOfTwo; unfold S_slices_nextPowerOfTwo
  refine iConvU (by omega) ?_
  refine iCall ?_
  refine (ok_math_bits_Len (by omega) w).mono fun r w1 h => ?_
  obtain ⟨h1', k, rfl, hk1, hk2, hk3⟩ := h
  have hk := hk2 h1
  refine ⟨_, _, _, rfl, rfl, by omega, ?_⟩
  have e : iShl .u64 1 (k : Int) = ((2 ^ k : Nat) : Int) := by
    rw [show iShl .u64 1 (k : Int) = IntKind.u64.wrap (1 * 2 ^ min (k : Int).toNat 64) from rfl, Int.toNat_natCast, Nat.min_eq_left hk3, Int.one_mul, show ((2 : Int) ^ k) = ((2 ^ k : Nat) : Int) by push_cast; rfl]
    exact IntWalk.u64_in _ (by omega)
  rw [e]
  exact ⟨h1', 2 ^ k, rfl, Nat.two_pow_pos k, hk⟩
theorem ok_slices_xorshift_Next {e : TypeId} {w : World} {b : Nat} {x : Int} (hb : Blk e w b [.int .u64 x]) : Cal Tryz.prog f_slices_xorshift_Next #[.pointer (some ⟨b, 0, none⟩)] w fun r w' => ∃ y : Int, r = .int .u64 y ∧ Blk e w' b [.int .u64 y] ∧ Ch (fun c => c = b) w w' := by
  apply c_slices_xorshift_Next; unfold S_slices_xorshift_Next
  ((with_reducible refine iNil ?_); refine iLdB (by assumption) (by first | rfl | simp) ?_; (with_reducible refine iNil ?_); refine iLdB (by assumption) (by first | rfl | simp) ?_)
  refine ⟨_, _, _, rfl, rfl, by omega, ?_⟩
  refine ⟨_, _, rfl, rfl, ?_⟩
  ((with_reducible refine iNil ?_))
  intro w1 h1
  refine iStC (hb.ext h1) rfl fun w2 hb2 h2 => ?_
  intro w3 h3
  have hb3 := hb2.ext h3
  have c3 := ch_ext ((h1.ch.trans h2 fun _ e => .inl e)) h3
  clear hb2 h2
  ((with_reducible refine iNil ?_); refine iLdB (by assumption) (by first | rfl | simp) ?_; (with_reducible refine iNil ?_); refine iLdB (by assumption) (by first | rfl | simp) ?_)
  refine ⟨_, _, _, rfl, rfl, by omega, ?_⟩
  refine ⟨_, _, rfl, rfl, ?_⟩
  ((with_reducible refine iNil ?_))
  intro w4 h4
  refine iStC (hb3.ext h4) rfl fun w5 hb5 h5 => ?_
  intro w6 h6
  have hb6 := hb5.ext h6
  have c6 := ch_ext (ch_self (ch_ext c3 h4) h5) h6
  clear hb5 hb3 hb c3
  ((with_reducible refine iNil ?_); refine iLdB (by assumption) (by first | rfl | simp) ?_; (with_reducible refine iNil ?_); refine iLdB (by assumption) (by first | rfl | simp) ?_)
  refine ⟨_, _, _, rfl, rfl, by omega, ?_⟩
  refine ⟨_, _, rfl, rfl, ?_⟩
  ((with_reducible refine iNil ?_))
  intro w7 h7
  refine iStC (hb6.ext h7) rfl fun w8 hb8 h8 => ?_
  intro w9 h9
  have hb9 := hb8.ext h9
  have c9 := ch_ext (ch_self (ch_ext c6 h7) h8) h9
  clear hb8 hb6 c6
  ((with_reducible refine iNil ?_); refine iLdB (by assumption) (by first | rfl | simp) ?_)
  exact ⟨_, rfl, hb9, c9⟩
theorem ok_slices_breakPatternsCmpFunc_Si64 {lo : Nat} {w : World} {v : Value} {L : List VL} {a b : Nat} (hs : Ow lo t_Si64 w v (evL L)) (hab : a ≤ b) (hb : b ≤ L.length) (hL : L.length ≤ 1152921504606846976) :
    Cal Tryz.prog f_slices_breakPatternsCmpFunc_Si64 #[v, .int .i64 (a : Int), .int .i64 (b : Int), cmpV] w fun _ w' => ∃ L', Turn lo t_Si64 encV v w w' L' ∧ SwR a b L L' := by
  apply c_slices_breakPatternsCmpFunc_Si64; unfold S_slices_breakPatternsCmpFunc_Si64
  obtain ⟨n, rfl⟩ : ∃ n, b = a + n := ⟨b - a, by omega⟩
  refine iSub (by omega) ?_
  rw [show ((a + n : Nat) : Int) - a = (n : Int) by omega]
  refine iLe ?_
  refine iCndP (fun h => ?_) (fun h => ?_)
  · refine iConvU (by omega) ?_
    refine iNew fun c w1 hc1 h1 hb1 => ?_
    refine iStB hb1 (by simp [Value.cells]) rfl fun hb2 => ?_
    have x2 : Ext w (w1.setCell ⟨c, 0, none⟩ (.int .u64 (n : Int))) := ext_set h1 (by show w.heap.size ≤ c; omega) _
    refine iCall ?_
    refine (ok_slices_nextPowerOfTwo (by omega) (by omega) _).mono fun r w3 h3 => ?_
    obtain ⟨h3, m, rfl, hm1, hm2⟩ := h3
    have hb3 := hb2.ext h3
    have hs3 := (hs.ext x2).ext h3
    have hne : v.ownBlock ≠ some c := hs.lt (by omega)
    refine iQuo (by omega) ?_
    refine iMul (by omega) ?_
    refine iAdd (by omega) ?_
    refine iSub (by omega) ?_
    refine iLp (fun i : Nat => [.int .i64 (i : Int)]) (fun i w' => a + n / 4 * 2 - 1 ≤ i ∧ (∃ x, Blk 129 w' c [.int .u64 x]) ∧ ∃ L', Turn lo t_Si64 encV v w w' L' ∧ SwR a (a + n) L L') (fun i => a + n - i) (a + n / 4 * 2 - 1) (by congr 2; omega)
      ⟨Nat.le_refl _, ⟨_, hb3⟩, L, ⟨hs3, ((x2.trans h3).ch)⟩, .refl⟩ ?_
    rintro i w5 Kn ⟨hi, ⟨x, hb5⟩, L1, ht1, hw1⟩ hKn
    have hl1 := hw1.len
    intro _
    simp only [gx]
    refine iQuo (by omega) ?_
    refine iMul (by omega) ?_
    refine iAdd (by omega) ?_
    refine iAdd (by omega) ?_
    refine iLe ?_
    refine iCndP (fun h5 => ?_) (fun h5 => ?_)
    · refine iCall ?_
      refine (ok_slices_xorshift_Next hb5).mono fun r w6 h6 => ?_
      obtain ⟨y, rfl, hb6, hc6⟩ := h6
      have hs6 := ht1.ow.ch hc6 fun c' hc' e => hne (e ▸ hc')
      refine ⟨_, _, rfl, rfl, ?_⟩
      rw [show IntKind.u64.wrap ((m : Int) - 1) = ((m - 1 : Nat) : Int) by rw [IntWalk.u64_in _ (by omega)]; omega]
      refine iAndV (by omega) fun x hx => ?_
      refine iConv64 (by omega) ?_
      refine iLe ?_
      refine iJnX (fun xs w8 => Ext w6 w8 ∧ ∃ z : Nat, xs = [.int .i64 (z : Int)] ∧ z < n) (fun J hJ => ?_) ?_
      · refine iCndP (fun h7 => ?_) (fun h7 => ?_)
        · refine iSub (by omega) ?_
          rw [show (x : Int) - n = ((x - n : Nat) : Int) by omega]
          exact hJ _ _ ⟨Ext.refl _, x - n, rfl, by omega⟩
        · exact hJ _ _ ⟨Ext.refl _, x, rfl, by omega⟩
      rintro xs w8 ⟨h8, z, rfl, hz⟩
      intro _
      simp only [gx]
      have hs8 := hs6.ext h8
      have hb8 := hb6.ext h8
      have hc8 := ch_ext hc6 h8
      refine iAdd (by omega) ?_
      refine iAdd (by omega) ?_
      refine iRdO (j := a + z) hs8 (by omega) (by omega) ?_
      refine iRdO (j := i) hs8 rfl (by omega) ?_
      refine iWr2 (i := i) (j := a + z) encV_cell hs8 rfl (by omega) (by omega) (by omega) fun w13 h13 => ?_
      refine iAdd (by omega) ?_
      refine hKn (i + 1) _ ⟨by omega, ⟨_, hb8.ch h13.ch fun e => hne e⟩, sw L1 i (a + z), ⟨h13.ow, ?_⟩, .step hw1 (by omega) (by omega) (by omega) (by omega) hb⟩ (by omega)
      refine (ht1.ch.trans hc8 fun c' e => .inr ?_).trans h13.ch fun _ e => .inl e
      omega
    · exact ⟨L1, ht1, hw1⟩
  · exact ⟨L, Turn.refl hs, .refl⟩
end Go.Proofs.YtfadcafacpaldaaGreatDoor

/- Contracts: pivots, partitions and the trial of insertion of pdqsort. Conditions: none. -/
namespace Go.Proofs.YtfadcafacpaldaaGreatDoor
open Go.Vc
theorem ok_slices_order2CmpFunc_Si64 {lo : Nat} {e : TypeId} {w : World} {v : Value} {L : List VL} {i j c n : Nat} (hs : Ow lo t_Si64 w v (evL L)) (hrw : RowsV t_i64 w L) (hi : i < L.length) (hj : j < L.length) (_hte : t_i64 ≠ e) (hb : Blk e w c [.int .i64 (n : Int)]) (hn : n ≤ 1000) :
    Cal Tryz.prog f_slices_order2CmpFunc_Si64 #[v, .int .i64 (i : Int), .int .i64 (j : Int), .pointer (some ⟨c, 0, none⟩), cmpV] w fun r w' => ∃ i' j' m : Nat, r = .tuple #[.int .i64 (i' : Int), .int .i64 (j' : Int)] ∧ ((i' = i ∧ j' = j) ∨ (i' = j ∧ j' = i)) ∧ m ≤ n + 1 ∧ Blk e w' c [.int .i64 (m : Int)] ∧ Ch (fun d => d = c) w w' := by
  apply c_slices_order2CmpFunc_Si64; unfold S_slices_order2CmpFunc_Si64
  refine iRdO (j := j) hs rfl hj ?_
  refine iRdO (j := i) hs rfl hi ?_
  refine iCm hrw (by omega) (by omega) fun w1 h1 => ?_
  have hb1 := hb.ext h1
  refine iCnd (fun h => ?_) (fun h => ?_)
  · ((with_reducible refine iNil ?_); refine iLdB (by assumption) (by first | rfl | simp) ?_; refine iAdd (by omega) ?_; (with_reducible refine iNil ?_))
    refine iStC hb1 rfl fun w2 hb2 hc2 => ?_
    exact ⟨j, i, n + 1, rfl, .inr ⟨rfl, rfl⟩, Nat.le_refl _, hb2, (h1.ch.trans hc2 fun _ e => .inl e)⟩
  · exact ⟨i, j, n, rfl, .inl ⟨rfl, rfl⟩, by omega, hb1, h1.ch⟩
theorem ok_slices_medianCmpFunc_Si64 {lo : Nat} {e : TypeId} {w : World} {v : Value} {L : List VL} {i j k c n : Nat} (hs : Ow lo t_Si64 w v (evL L)) (hrw : RowsV t_i64 w L) (hne : v.ownBlock ≠ some c) (hi : i < L.length) (hj : j < L.length) (hk : k < L.length) (hte : t_i64 ≠ e) (hb : Blk e w c [.int .i64 (n : Int)]) (hn : n ≤ 900) :
    Cal Tryz.prog f_slices_medianCmpFunc_Si64 #[v, .int .i64 (i : Int), .int .i64 (j : Int), .int .i64 (k : Int), .pointer (some ⟨c, 0, none⟩), cmpV] w fun r w' => ∃ t m : Nat, r = .int .i64 (t : Int) ∧ (t = i ∨ t = j ∨ t = k) ∧ m ≤ n + 3 ∧ Blk e w' c [.int .i64 (m : Int)] ∧ Ch (fun d => d = c) w w' := by
  apply c_slices_medianCmpFunc_Si64; unfold S_slices_medianCmpFunc_Si64
  refine iCall ?_
  refine (ok_slices_order2CmpFunc_Si64 hs hrw hi hj hte hb (by omega)).mono fun r w1 h1 => ?_
  obtain ⟨i1, j1, n1, rfl, h1, hn1, hb1, hc1⟩ := h1
  have hs1 := hs.ch hc1 fun d hd e => hne (e ▸ hd)
  have hrw1 := hrw.ch hb hte hc1
  ((with_reducible refine iE20 ?_; refine iE21 ?_))
  refine iCall ?_
  refine (ok_slices_order2CmpFunc_Si64 (i := j1) hs1 hrw1 (by rcases h1 with h | h <;> omega) hk hte hb1 (by omega)).mono fun r w2 h2 => ?_
  obtain ⟨j2, k2, n2, rfl, h2, hn2, hb2, hc2⟩ := h2
  have hs2 := hs1.ch hc2 fun d hd e => hne (e ▸ hd)
  have hrw2 := hrw1.ch hb1 hte hc2
  ((with_reducible refine iE20 ?_; refine iE21 ?_))
  refine iCall ?_
  refine (ok_slices_order2CmpFunc_Si64 (i := i1) (j := j2) hs2 hrw2 (by rcases h1 with h | h <;> omega) (by rcases h1 with h | h <;> rcases h2 with h' | h' <;> omega) hte hb2 (by omega)).mono fun r w3 h3 => ?_
  obtain ⟨i3, j3, n3, rfl, h3, hn3, hb3, hc3⟩ := h3
  ((with_reducible refine iE20 ?_; refine iE21 ?_))
  exact ⟨j3, n3, rfl, by rcases h1 with h | h <;> rcases h2 with h' | h' <;> rcases h3 with h'' | h'' <;> omega, by omega, hb3, ch_self (ch_self hc1 hc2) hc3⟩
theorem ok_slices_medianAdjacentCmpFunc_Si64 {lo : Nat} {e : TypeId} {w : World} {v : Value} {L : List VL} {i c n : Nat} (hs : Ow lo t_Si64 w v (evL L)) (hrw : RowsV t_i64 w L) (hne : v.ownBlock ≠ some c) (h1 : 1 ≤ i) (hi : i + 1 < L.length) (hL : L.length ≤ 1152921504606846976) (hte : t_i64 ≠ e) (hb : Blk e w c [.int .i64 (n : Int)]) (hn : n ≤ 900) :
    Cal Tryz.prog f_slices_medianAdjacentCmpFunc_Si64 #[v, .int .i64 (i : Int), .pointer (some ⟨c, 0, none⟩), cmpV] w fun r w' => ∃ t m : Nat, r = .int .i64 (t : Int) ∧ (t = i - 1 ∨ t = i ∨ t = i + 1) ∧ m ≤ n + 3 ∧ Blk e w' c [.int .i64 (m : Int)] ∧ Ch (fun d => d = c) w w' := by
  apply c_slices_medianAdjacentCmpFunc_Si64; unfold S_slices_medianAdjacentCmpFunc_Si64
  (refine iSub (by omega) ?_; refine iAdd (by omega) ?_)
  rw [show (i : Int) - 1 = ((i - 1 : Nat) : Int) by omega]
  refine iCall ?_
  exact ok_slices_medianCmpFunc_Si64 (i := i - 1) (j := i) (k := i + 1) hs hrw hne (by omega) (by omega) hi hte hb hn
theorem ok_slices_choosePivotCmpFunc_Si64 {lo : Nat} {w : World} {v : Value} {L : List VL} {a b : Nat} (hs : Ow lo t_Si64 w v (evL L)) (hrw : RowsV t_i64 w L) (hab : a + 8 ≤ b) (hb : b ≤ L.length) (hL : L.length ≤ 1152921504606846976) :
    Cal Tryz.prog f_slices_choosePivotCmpFunc_Si64 #[v, .int .i64 (a : Int), .int .i64 (b : Int), cmpV] w fun r w' => Ext w w' ∧ ∃ t : Nat, ∃ x : Int, r = .tuple #[.int .i64 (t : Int), .int .i64 x] ∧ a ≤ t ∧ t < b := by
  apply c_slices_choosePivotCmpFunc_Si64; unfold S_slices_choosePivotCmpFunc_Si64
  obtain ⟨n, rfl⟩ : ∃ n, b = a + n := ⟨b - a, by omega⟩
  refine iSub (by omega) ?_
  rw [show ((a + n : Nat) : Int) - a = (n : Int) by omega]
  refine iNew fun c w1 hc1 h1 hb1 => ?_
  have hne : v.ownBlock ≠ some c := hs.lt (by omega)
  have hs1 := hs.ext h1
  have hrw1 := hrw.ext h1
  have new : ∀ {w' : World}, Ch (fun d => d = c) w1 w' → Ext w w' := fun {w'} h => h1.thenCh h fun d e => by omega
  refine iQuo (by omega) ?_
  refine iMul (by omega) ?_
  refine iAdd (by omega) ?_
  refine iQuo (by omega) ?_
  refine iMul (by omega) ?_
  refine iAdd (by omega) ?_
  refine iQuo (by omega) ?_
  refine iMul (by omega) ?_
  refine iAdd (by omega) ?_
  refine iLe ?_
  rw [show (a : Int) + (n : Int) / 4 * 1 = ((a + n / 4 * 1 : Nat) : Int) by omega, show (a : Int) + (n : Int) / 4 * 2 = ((a + n / 4 * 2 : Nat) : Int) by omega, show (a : Int) + (n : Int) / 4 * 3 = ((a + n / 4 * 3 : Nat) : Int) by omega]
  refine iJnX (fun xs w' => ∃ t m : Nat, xs = [.int .i64 (t : Int)] ∧ a ≤ t ∧ t < a + n ∧ Blk 3 w' c [.int .i64 (m : Int)] ∧ Ch (fun d => d = c) w1 w') (fun J hJ => ?_) ?_
  · refine iCndP (fun h => ?_) (fun h => ?_)
    · refine iLe ?_
      refine iJnX (fun xs w' => ∃ i j k m : Nat, xs = [.int .i64 (i : Int), .int .i64 (j : Int), .int .i64 (k : Int)] ∧ a ≤ i ∧ i < a + n ∧ a ≤ j ∧ j < a + n ∧ a ≤ k ∧ k < a + n ∧ m ≤ 9 ∧ Blk 3 w' c [.int .i64 (m : Int)] ∧ Ch (fun d => d = c) w1 w') (fun J' hJ' => ?_) ?_
      · refine iCndP (fun h5 => ?_) (fun h5 => ?_)
        · refine iCall ?_
          refine (ok_slices_medianAdjacentCmpFunc_Si64 (n := 0) hs1 hrw1 hne (by omega) (by omega) hL (by decide) hb1 (by omega)).mono fun r w2 h2 => ?_
          obtain ⟨i, m1, rfl, hi, hm1, hb2, hc2⟩ := h2
          have hs2 := hs1.ch hc2 fun d hd e => hne (e ▸ hd)
          have hrw2 := hrw1.ch hb1 (by decide) hc2
          refine iCall ?_
          refine (ok_slices_medianAdjacentCmpFunc_Si64 hs2 hrw2 hne (by omega) (by omega) hL (by decide) hb2 (by omega)).mono fun r w3 h3 => ?_
          obtain ⟨j, m2, rfl, hj, hm2, hb3, hc3⟩ := h3
          have hs3 := hs2.ch hc3 fun d hd e => hne (e ▸ hd)
          have hrw3 := hrw2.ch hb2 (by decide) hc3
          refine iCall ?_
          refine (ok_slices_medianAdjacentCmpFunc_Si64 hs3 hrw3 hne (by omega) (by omega) hL (by decide) hb3 (by omega)).mono fun r w4 h4 => ?_
          obtain ⟨k, m3, rfl, hk, hm3, hb4, hc4⟩ := h4
          exact hJ' _ _ ⟨i, j, k, m3, rfl, by omega, by omega, by omega, by omega, by omega, by omega, by omega, hb4, ch_self (ch_self hc2 hc3) hc4⟩
        · exact hJ' _ _ ⟨_, _, _, 0, rfl, by omega, by omega, by omega, by omega, by omega, by omega, by omega, hb1, (Ext.refl _).ch⟩
      rintro xs w5 ⟨i, j, k, m, rfl, h11, h12, h21, h22, h31, h32, hm, hb5, hc5⟩
      intro _
      simp only [gx]
      have hs5 := hs1.ch hc5 fun d hd e => hne (e ▸ hd)
      have hrw5 := hrw1.ch hb1 (by decide) hc5
      refine iCall ?_
      refine (ok_slices_medianCmpFunc_Si64 hs5 hrw5 hne (i := i) (j := j) (k := k) (by omega) (by omega) (by omega) (by decide) hb5 (by omega)).mono fun r w6 h6 => ?_
      obtain ⟨t, m', rfl, ht, hm', hb6, hc6⟩ := h6
      exact hJ _ _ ⟨t, m', rfl, by omega, by omega, hb6, ch_self hc5 hc6⟩
    · omega
  rintro xs w3 ⟨t, m, rfl, ht1, ht2, hb3, hc3⟩
  intro _
  simp only [gx]
  (refine iLdB (by assumption) (by first | rfl | simp) ?_; (with_reducible refine iEq ?_))
  refine iCndP (fun h => ?_) (fun h => ?_)
  · exact ⟨new hc3, t, 1, rfl, ht1, ht2⟩
  · ((with_reducible refine iEq ?_))
    refine iCndP (fun h => ?_) (fun h => ?_)
    · exact ⟨new hc3, t, 2, rfl, ht1, ht2⟩
    · exact ⟨new hc3, t, 0, rfl, ht1, ht2⟩
theorem ok_slices_partitionEqualCmpFunc_Si64 {lo : Nat} {w : World} {v : Value} {L : List VL} {a b t : Nat} (hs : Ow lo t_Si64 w v (evL L)) (hrw : RowsV t_i64 w L) (hat : a ≤ t) (htb : t < b) (hb : b ≤ L.length) (hL : L.length ≤ 1152921504606846976) :
    Cal Tryz.prog f_slices_partitionEqualCmpFunc_Si64 #[v, .int .i64 (a : Int), .int .i64 (b : Int), .int .i64 (t : Int), cmpV] w fun r w' => ∃ L' : List VL, ∃ m : Nat, r = .int .i64 (m : Int) ∧ Turn lo t_Si64 encV v w w' L' ∧ SwR a b L L' ∧ a < m ∧ m ≤ b ∧ (∀ k, a ≤ k → k < m → ltV (gt L t) (gt L' k) = false) := by
  apply c_slices_partitionEqualCmpFunc_Si64; unfold S_slices_partitionEqualCmpFunc_Si64
  refine iRdO (j := t) hs rfl (by omega) ?_
  refine iRdO (j := a) hs rfl (by omega) ?_
  refine iWr2 (i := a) (j := t) encV_cell hs rfl rfl (by omega) (by omega) fun w5 h5 => ?_
  have e0 : gt (sw L a t) a = gt L t := by rw [gt_sw (by omega) (by omega)]; split <;> simp_all
  (refine iAdd (by omega) ?_; refine iSub (by omega) ?_)
  refine iLp (fun s : Nat × Int => [.int .i64 (s.1 : Int), .int .i64 s.2]) (fun s w' => a + 1 ≤ s.1 ∧ s.1 ≤ b ∧ (s.1 : Int) - 1 ≤ s.2 + 1 ∧ s.2 < b ∧ ∃ L', Turn lo t_Si64 encV v w w' L' ∧ SwR a b L L' ∧ gt L' a = gt L t ∧ ∀ k, a ≤ k → k < s.1 → ltV (gt L t) (gt L' k) = false) (fun s => b - s.1) (a + 1, (b : Int) - 1) rfl
    ⟨Nat.le_refl _, by show a + 1 ≤ b; omega, by show ((a + 1 : Nat) : Int) - 1 ≤ (b : Int) - 1 + 1; omega, by show (b : Int) - 1 < b; omega, sw L a t, h5, .one (Nat.le_refl _) (by omega) hat htb hb, e0, fun k h1 h2 => by have h2 : k < a + 1 := h2; rw [show k = a by omega, e0]; exact ordrV.rfl _⟩ ?_
  rintro ⟨i0, j0⟩ w7 Kn ⟨hi0, hib0, hij0, hjb0, L1, ht1, hw1, he1, hq1⟩ hKn
  have hi0 : a + 1 ≤ i0 := hi0
  have hib0 : i0 ≤ b := hib0
  have hij0 : (i0 : Int) - 1 ≤ j0 + 1 := hij0
  have hjb0 : j0 < b := hjb0
  have hq1 : ∀ k, a ≤ k → k < i0 → ltV (gt L t) (gt L1 k) = false := hq1
  have hl1 := hw1.len
  intro _
  simp only [gx]
  refine iLp (fun i : Nat => [.int .i64 (i : Int)]) (fun i w' => i0 ≤ i ∧ i ≤ b ∧ (i : Int) - 1 ≤ j0 + 1 ∧ Ext w7 w' ∧ ∀ k, a ≤ k → k < i → ltV (gt L t) (gt L1 k) = false) (fun i => b - i) i0 rfl ⟨Nat.le_refl _, hib0, hij0, Ext.refl _, hq1⟩ ?_
  rintro i w9 Kn9 ⟨hi, hib, hij, h9, hq⟩ hKn9
  intro _
  simp only [gx]
  have ht9 := ht1.ext h9
  refine iJnB (decide ((i : Int) ≤ j0) && !ltV (gt L1 a) (gt L1 i)) w9 (fun J hJ => ?_) (fun w11 h11 => ?_)
  · refine iLe ?_
    refine iCndP (fun h => ?_) (fun h => ?_)
    · rw [decide_eq_true h, Bool.true_and] at hJ
      refine iRdO (j := a) ht9.ow rfl (by omega) ?_
      refine iRdO (j := i) ht9.ow rfl (by omega) ?_
      exact iCmN (hrw.turn hs (by decide) ht9 hw1.perm) (by omega) (by omega) hJ
    · rw [decide_eq_false h, Bool.false_and] at hJ
      exact fun _ x8 _ x9 => hJ _ (x8.trans x9)
  intro _
  simp only [gx]
  have h9' := h9.trans h11
  cases hc : decide ((i : Int) ≤ j0) && !ltV (gt L1 a) (gt L1 i)
  rotate_left
  · rw [Bool.and_eq_true, decide_eq_true_eq, Bool.not_eq_true'] at hc
    refine iCndT rfl ?_
    (refine iAdd (by omega) ?_)
    refine hKn9 (i + 1) _ ⟨by omega, by omega, by omega, h9', fun k h1 h2 => ?_⟩ (by omega)
    by_cases hk : k = i
    · rw [hk, ← he1]; exact hc.2
    · exact hq k h1 (by omega)
  refine iCndF rfl ?_
  refine iLp (fun j : Int => [.int .i64 j]) (fun j w' => j ≤ j0 ∧ (i : Int) - 1 ≤ j + 1 ∧ Ext w7 w' ∧ (j < j0 → (i : Int) - 1 ≤ j)) (fun j => (j + 2).toNat) j0 rfl ⟨Int.le_refl _, hij, h9', fun h => by omega⟩ ?_
  rintro j w15 Kn15 ⟨hjj, hij2, h15, hij3⟩ hKn15
  intro _
  simp only [gx]
  have ht15 := ht1.ext h15
  refine iJnB (decide ((i : Int) ≤ j) && ltV (gt L1 a) (gt L1 j.toNat)) w15 (fun J hJ => ?_) (fun w17 h17 => ?_)
  · refine iLe ?_
    refine iCndP (fun h => ?_) (fun h => ?_)
    · rw [decide_eq_true h, Bool.true_and] at hJ
      refine iRdO (j := a) ht15.ow rfl (by omega) ?_
      refine iRdO (j := j.toNat) ht15.ow (by omega) (by omega) ?_
      exact iCm (hrw.turn hs (by decide) ht15 hw1.perm) (by omega) (by omega) hJ
    · rw [decide_eq_false h, Bool.false_and] at hJ
      exact fun _ x8 _ x9 => hJ _ (x8.trans x9)
  intro _
  simp only [gx]
  have ht17 := ht15.ext h17
  cases hc2 : decide ((i : Int) ≤ j) && ltV (gt L1 a) (gt L1 j.toNat)
  rotate_left
  · rw [Bool.and_eq_true, decide_eq_true_eq] at hc2
    refine iCndT rfl ?_
    refine iSub (by omega) ?_
    exact hKn15 (j - 1) _ ⟨by omega, by omega, h15.trans h17, fun _ => by omega⟩ (by omega)
  refine iCndF rfl ?_
  refine iLt ?_
  refine iCndP (fun h => ?_) (fun h => ?_)
  · exact ⟨L1, i, rfl, ht17, hw1, by omega, hib, hq⟩
  · have hlt : ltV (gt L1 a) (gt L1 j.toNat) = false := by
      rw [decide_eq_true (show (i : Int) ≤ j by omega), Bool.true_and] at hc2; exact hc2
    refine iRdO (j := j.toNat) ht17.ow (by omega) (by omega) ?_
    refine iRdO (j := i) ht17.ow rfl (by omega) ?_
    refine iWr2 (i := i) (j := j.toNat) encV_cell ht17.ow rfl (by omega) (by omega) (by omega) fun w24 h24 => ?_
    refine iAdd (by omega) ?_
    refine iSub (by omega) ?_
    have eS : ∀ k, gt (sw L1 i j.toNat) k = if k = j.toNat then gt L1 i else if k = i then gt L1 j.toNat else gt L1 k := gt_sw (by omega) (by omega)
    refine hKn (i + 1, j - 1) _ ⟨by show a + 1 ≤ i + 1; omega, by show i + 1 ≤ b; omega, by show ((i + 1 : Nat) : Int) - 1 ≤ j - 1 + 1; omega, by show j - 1 < b; omega, sw L1 i j.toNat, ht17.trans h24, .step hw1 (by omega) (by omega) (by omega) (by omega) hb, by rw [eS, if_neg (by omega), if_neg (by omega)]; exact he1, fun k h1 h2 => ?_⟩ (by show b - (i + 1) < b - i0; omega)
    have h2 : k < i + 1 := h2
    rw [eS]
    by_cases hk : k = i
    · subst hk
      split
      · rename_i hkj; rw [← hkj, he1] at hlt; exact hlt
      · rw [if_pos rfl, ← he1]; exact hlt
    · rw [if_neg (by omega), if_neg hk]; exact hq k h1 (by omega)
end Go.Proofs.YtfadcafacpaldaaGreatDoor

/- Contracts: partition, the trial of insertion and pdqsort itself, on strings. Conditions: none. -/
namespace Go.Vc
theorem part_end {L : List VL} {a b j : Nat} {pv : VL} (haj : a ≤ j) (hjb : j < b) (hb : b ≤ L.length) (he : gt L a = pv) (h1 : ∀ k, a + 1 ≤ k → k ≤ j → ltV (gt L k) pv = true) (h2 : ∀ k, j < k → k < b → ltV (gt L k) pv = false) : Parted ltV a b j (sw L j a) := by
  have e : ∀ k, gt (sw L j a) k = if k = a then gt L j else if k = j then gt L a else gt L k := gt_sw (by omega) (by omega)
  have ej : gt (sw L j a) j = pv := by
    rw [e]
    split
    · rename_i h; rw [h]; exact he
    · rw [if_pos rfl]; exact he
  refine ⟨fun k hk hk' => ?_, fun k hk hk' => ?_⟩
  · rw [ej, e]
    by_cases hka : k = a
    · rw [if_pos hka]; exact h1 j (by omega) (Nat.le_refl _)
    · rw [if_neg hka, if_neg (by omega)]; exact h1 k (by omega) (by omega)
  · rw [ej, e, if_neg (by omega), if_neg (by omega)]; exact h2 k hk hk'
end Go.Vc
namespace Go.Proofs.YtfadcafacpaldaaGreatDoor
open Go.Vc
theorem ok_slices_partitionCmpFunc_Si64 {lo : Nat} {w : World} {v : Value} {L : List VL} {a b t : Nat} (hs : Ow lo t_Si64 w v (evL L)) (hrw : RowsV t_i64 w L) (hat : a ≤ t) (htb : t < b) (hb : b ≤ L.length) (hL : L.length ≤ 1152921504606846976) :
    Cal Tryz.prog f_slices_partitionCmpFunc_Si64 #[v, .int .i64 (a : Int), .int .i64 (b : Int), .int .i64 (t : Int), cmpV] w fun r w' => ∃ L' : List VL, ∃ m : Nat, ∃ y : Bool, r = .tuple #[.int .i64 (m : Int), .bool y] ∧ Turn lo t_Si64 encV v w w' L' ∧ SwR a b L L' ∧ a ≤ m ∧ m < b ∧ Parted ltV a b m L' := by
  apply c_slices_partitionCmpFunc_Si64; unfold S_slices_partitionCmpFunc_Si64
  refine iRdO (j := t) hs rfl (by omega) ?_
  refine iRdO (j := a) hs rfl (by omega) ?_
  refine iWr2 (i := a) (j := t) encV_cell hs rfl rfl (by omega) (by omega) fun w7 h5 => ?_
  have h5 : Turn lo t_Si64 encV v w w7 (sw L a t) := h5
  have e0 : gt (sw L a t) a = gt L t := by rw [gt_sw (by omega) (by omega)]; split <;> simp_all
  have hw0 : SwR a b L (sw L a t) := .one (Nat.le_refl _) (by omega) hat htb hb
  have hl0 := hw0.len
  generalize sw L a t = L0 at h5 e0 hw0 hl0
  (refine iAdd (by omega) ?_; refine iSub (by omega) ?_)
  obtain ⟨i0, hi0⟩ : ∃ i0, i0 = a + 1 := ⟨_, rfl⟩
  obtain ⟨j0, hj0⟩ : ∃ j0 : Int, j0 = (b : Int) - 1 := ⟨_, rfl⟩
  rw [show (a : Int) + 1 = (i0 : Int) by omega, ← hj0]
  refine iLp (fun i : Nat => [.int .i64 (i : Int)]) (fun i w' => i0 ≤ i ∧ (i : Int) ≤ j0 + 1 ∧ Ext w7 w' ∧ ∀ k, a + 1 ≤ k → k < i → ltV (gt L0 k) (gt L t) = true) (fun i => b - i) i0 rfl ⟨Nat.le_refl _, by omega, Ext.refl _, fun k h1 h2 => by omega⟩ ?_
  rintro i w9 Kn9 ⟨hi, hij, h9, hq⟩ hKn9
  intro _
  simp only [gx]
  have ht9 := h5.ext h9
  refine iJnB (decide ((i : Int) ≤ j0) && ltV (gt L0 i) (gt L0 a)) w9 (fun J hJ => ?_) (fun w11 h11 => ?_)
  · refine iLe ?_
    refine iCndP (fun h => ?_) (fun h => ?_)
    · rw [decide_eq_true h, Bool.true_and] at hJ
      refine iRdO (j := i) ht9.ow rfl (by omega) ?_
      refine iRdO (j := a) ht9.ow rfl (by omega) ?_
      exact iCm (hrw.turn hs (by decide) ht9 hw0.perm) (by omega) (by omega) hJ
    · rw [decide_eq_false h, Bool.false_and] at hJ
      exact fun _ x8 _ x9 => hJ _ (x8.trans x9)
  intro _
  simp only [gx]
  have h9' := h9.trans h11
  cases hc : decide ((i : Int) ≤ j0) && ltV (gt L0 i) (gt L0 a)
  rotate_left
  · rw [Bool.and_eq_true, decide_eq_true_eq] at hc
    refine iCndT rfl ?_
    (refine iAdd (by omega) ?_)
    refine hKn9 (i + 1) _ ⟨by omega, by omega, h9', fun k h1 h2 => ?_⟩ (by omega)
    by_cases hk : k = i
    · rw [hk, ← e0]; exact hc.2
    · exact hq k h1 (by omega)
  refine iCndF rfl ?_
  refine iLp (fun j : Int => [.int .i64 j]) (fun j w' => j ≤ j0 ∧ (i : Int) ≤ j + 1 ∧ Ext w7 w' ∧ ∀ k : Nat, j < k → k < b → ltV (gt L0 k) (gt L t) = false) (fun j => (j + 2).toNat) j0 rfl ⟨Int.le_refl _, hij, h9', fun k h1 h2 => by omega⟩ ?_
  rintro j w15 Kn15 ⟨hjj, hij2, h15, hq2⟩ hKn15
  intro _
  simp only [gx]
  have ht15 := h5.ext h15
  refine iJnB (decide ((i : Int) ≤ j) && !ltV (gt L0 j.toNat) (gt L0 a)) w15 (fun J hJ => ?_) (fun w17 h17 => ?_)
  · refine iLe ?_
    refine iCndP (fun h => ?_) (fun h => ?_)
    · rw [decide_eq_true h, Bool.true_and] at hJ
      refine iRdO (j := j.toNat) ht15.ow (by omega) (by omega) ?_
      refine iRdO (j := a) ht15.ow rfl (by omega) ?_
      exact iCmN (hrw.turn hs (by decide) ht15 hw0.perm) (by omega) (by omega) hJ
    · rw [decide_eq_false h, Bool.false_and] at hJ
      exact fun _ x8 _ x9 => hJ _ (x8.trans x9)
  intro _
  simp only [gx]
  have ht17 := ht15.ext h17
  cases hc2 : decide ((i : Int) ≤ j) && !ltV (gt L0 j.toNat) (gt L0 a)
  rotate_left
  · rw [Bool.and_eq_true, decide_eq_true_eq, Bool.not_eq_true'] at hc2
    refine iCndT rfl ?_
    refine iSub (by omega) ?_
    refine hKn15 (j - 1) _ ⟨by omega, by omega, h15.trans h17, fun k h1 h2 => ?_⟩ (by omega)
    by_cases hk : (k : Int) = j
    · rw [show k = j.toNat by omega, ← e0]; exact hc2.2
    · exact hq2 k (by omega) h2
  refine iCndF rfl ?_
  refine iLt ?_
  refine iCndP (fun h => ?_) (fun h => ?_)
  · refine iRdO (j := a) ht17.ow rfl (by omega) ?_
    refine iRdO (j := j.toNat) ht17.ow (by omega) (by omega) ?_
    refine iWr2 (i := j.toNat) (j := a) encV_cell ht17.ow (by omega) rfl (by omega) (by omega) fun w22 h22 => ?_
    exact ⟨sw L0 j.toNat a, j.toNat, true, by rw [Int.toNat_of_nonneg (by omega)], ht17.trans h22, .step hw0 (by omega) (by omega) (Nat.le_refl _) (by omega) hb, by omega, by omega, part_end (by omega) (by omega) (by omega) e0 (fun k h1 h2 => hq k h1 (by omega)) (fun k h1 h2 => hq2 k (by omega) h2)⟩
  have hlt1 : ltV (gt L0 i) (gt L t) = false := by
    rw [decide_eq_true (show (i : Int) ≤ j0 by omega), Bool.true_and, e0] at hc; exact hc
  have hlt2 : ltV (gt L0 j.toNat) (gt L t) = true := by
    rw [decide_eq_true (show (i : Int) ≤ j by omega), Bool.true_and, Bool.not_eq_false', e0] at hc2; exact hc2
  have hne : i ≠ j.toNat := fun e => by rw [e, hlt2] at hlt1; cases hlt1
  refine iRdO (j := j.toNat) ht17.ow (by omega) (by omega) ?_
  refine iRdO (j := i) ht17.ow rfl (by omega) ?_
  refine iWr2 (i := i) (j := j.toNat) encV_cell ht17.ow rfl (by omega) (by omega) (by omega) fun w24 h24 => ?_
  refine iAdd (by omega) ?_
  refine iSub (by omega) ?_
  have eS : ∀ k, gt (sw L0 i j.toNat) k = if k = j.toNat then gt L0 i else if k = i then gt L0 j.toNat else gt L0 k := gt_sw (by omega) (by omega)
  have nx1 : ∀ k, a + 1 ≤ k → k < i + 1 → ltV (gt (sw L0 i j.toNat) k) (gt L t) = true := fun k h1 h2 => by
    rw [eS, if_neg (by omega)]
    by_cases hk : k = i
    · rw [if_pos hk]; exact hlt2
    · rw [if_neg hk]; exact hq k h1 (by omega)
  have nx2 : ∀ k : Nat, j - 1 < k → k < b → ltV (gt (sw L0 i j.toNat) k) (gt L t) = false := fun k h1 h2 => by
    rw [eS]
    by_cases hk : k = j.toNat
    · rw [if_pos hk]; exact hlt1
    · rw [if_neg hk, if_neg (by omega)]; exact hq2 k (by omega) h2
  have nxe : gt (sw L0 i j.toNat) a = gt L t := by rw [eS, if_neg (by omega), if_neg (by omega)]; exact e0
  refine iLp (fun s : Nat × Int => [.int .i64 (s.1 : Int), .int .i64 s.2]) (fun s w' => a + 1 ≤ s.1 ∧ (s.1 : Int) ≤ s.2 + 1 ∧ s.2 < b ∧ ∃ L', Turn lo t_Si64 encV v w w' L' ∧ SwR a b L L' ∧ gt L' a = gt L t ∧ (∀ k, a + 1 ≤ k → k < s.1 → ltV (gt L' k) (gt L t) = true) ∧ ∀ k : Nat, s.2 < k → k < b → ltV (gt L' k) (gt L t) = false) (fun s => b - s.1) (i + 1, j - 1) rfl
    ⟨by show a + 1 ≤ i + 1; omega, by show ((i + 1 : Nat) : Int) ≤ j - 1 + 1; omega, by show j - 1 < b; omega, sw L0 i j.toNat, ht17.trans h24, .step hw0 (by omega) (by omega) (by omega) (by omega) hb, nxe, nx1, nx2⟩ ?_
  clear hKn9 hKn15 nxe nx1 nx2 eS hq hq2
  rintro ⟨i1, j1⟩ w29 Kn ⟨hi1, hij1, hjb1, L1, ht1, hw1, he1, hq1, hq21⟩ hKn
  have hi1 : a + 1 ≤ i1 := hi1
  have hij1 : (i1 : Int) ≤ j1 + 1 := hij1
  have hjb1 : j1 < b := hjb1
  have hl1 := hw1.len
  intro _
  simp only [gx]
  refine iLp (fun i : Nat => [.int .i64 (i : Int)]) (fun i w' => i1 ≤ i ∧ (i : Int) ≤ j1 + 1 ∧ Ext w29 w' ∧ ∀ k, a + 1 ≤ k → k < i → ltV (gt L1 k) (gt L t) = true) (fun i => b - i) i1 rfl ⟨Nat.le_refl _, by omega, Ext.refl _, hq1⟩ ?_
  rintro i w9 Kn9 ⟨hi, hij, h9, hq⟩ hKn9
  intro _
  simp only [gx]
  have ht9 := ht1.ext h9
  refine iJnB (decide ((i : Int) ≤ j1) && ltV (gt L1 i) (gt L1 a)) w9 (fun J hJ => ?_) (fun w11 h11 => ?_)
  · refine iLe ?_
    refine iCndP (fun h => ?_) (fun h => ?_)
    · rw [decide_eq_true h, Bool.true_and] at hJ
      refine iRdO (j := i) ht9.ow rfl (by omega) ?_
      refine iRdO (j := a) ht9.ow rfl (by omega) ?_
      exact iCm (hrw.turn hs (by decide) ht9 hw1.perm) (by omega) (by omega) hJ
    · rw [decide_eq_false h, Bool.false_and] at hJ
      exact fun _ x8 _ x9 => hJ _ (x8.trans x9)
  intro _
  simp only [gx]
  have h9' := h9.trans h11
  cases hc : decide ((i : Int) ≤ j1) && ltV (gt L1 i) (gt L1 a)
  rotate_left
  · rw [Bool.and_eq_true, decide_eq_true_eq] at hc
    refine iCndT rfl ?_
    (refine iAdd (by omega) ?_)
    refine hKn9 (i + 1) _ ⟨by omega, by omega, h9', fun k h1 h2 => ?_⟩ (by omega)
    by_cases hk : k = i
    · rw [hk, ← he1]; exact hc.2
    · exact hq k h1 (by omega)
  refine iCndF rfl ?_
  refine iLp (fun j : Int => [.int .i64 j]) (fun j w' => j ≤ j1 ∧ (i : Int) ≤ j + 1 ∧ Ext w29 w' ∧ ∀ k : Nat, j < k → k < b → ltV (gt L1 k) (gt L t) = false) (fun j => (j + 2).toNat) j1 rfl ⟨Int.le_refl _, hij, h9', hq21⟩ ?_
  rintro j w15 Kn15 ⟨hjj, hij2, h15, hq2⟩ hKn15
  intro _
  simp only [gx]
  have ht15 := ht1.ext h15
  refine iJnB (decide ((i : Int) ≤ j) && !ltV (gt L1 j.toNat) (gt L1 a)) w15 (fun J hJ => ?_) (fun w17 h17 => ?_)
  · refine iLe ?_
    refine iCndP (fun h => ?_) (fun h => ?_)
    · rw [decide_eq_true h, Bool.true_and] at hJ
      refine iRdO (j := j.toNat) ht15.ow (by omega) (by omega) ?_
      refine iRdO (j := a) ht15.ow rfl (by omega) ?_
      exact iCmN (hrw.turn hs (by decide) ht15 hw1.perm) (by omega) (by omega) hJ
    · rw [decide_eq_false h, Bool.false_and] at hJ
      exact fun _ x8 _ x9 => hJ _ (x8.trans x9)
  intro _
  simp only [gx]
  have ht17 := ht15.ext h17
  cases hc2 : decide ((i : Int) ≤ j) && !ltV (gt L1 j.toNat) (gt L1 a)
  rotate_left
  · rw [Bool.and_eq_true, decide_eq_true_eq, Bool.not_eq_true'] at hc2
    refine iCndT rfl ?_
    refine iSub (by omega) ?_
    refine hKn15 (j - 1) _ ⟨by omega, by omega, h15.trans h17, fun k h1 h2 => ?_⟩ (by omega)
    by_cases hk : (k : Int) = j
    · rw [show k = j.toNat by omega, ← he1]; exact hc2.2
    · exact hq2 k (by omega) h2
  refine iCndF rfl ?_
  refine iLt ?_
  refine iCndP (fun h => ?_) (fun h => ?_)
  · refine iRdO (j := a) ht17.ow rfl (by omega) ?_
    refine iRdO (j := j.toNat) ht17.ow (by omega) (by omega) ?_
    refine iWr2 (i := j.toNat) (j := a) encV_cell ht17.ow (by omega) rfl (by omega) (by omega) fun w22 h22 => ?_
    exact ⟨sw L1 j.toNat a, j.toNat, false, by rw [Int.toNat_of_nonneg (by omega)], ht17.trans h22, .step hw1 (by omega) (by omega) (Nat.le_refl _) (by omega) hb, by omega, by omega, part_end (by omega) (by omega) (by omega) he1 (fun k h1 h2 => hq k h1 (by omega)) (fun k h1 h2 => hq2 k (by omega) h2)⟩
  have hlt1 : ltV (gt L1 i) (gt L t) = false := by
    rw [decide_eq_true (show (i : Int) ≤ j1 by omega), Bool.true_and, he1] at hc; exact hc
  have hlt2 : ltV (gt L1 j.toNat) (gt L t) = true := by
    rw [decide_eq_true (show (i : Int) ≤ j by omega), Bool.true_and, Bool.not_eq_false', he1] at hc2; exact hc2
  have hne : i ≠ j.toNat := fun e => by rw [e, hlt2] at hlt1; cases hlt1
  refine iRdO (j := j.toNat) ht17.ow (by omega) (by omega) ?_
  refine iRdO (j := i) ht17.ow rfl (by omega) ?_
  refine iWr2 (i := i) (j := j.toNat) encV_cell ht17.ow rfl (by omega) (by omega) (by omega) fun w24 h24 => ?_
  refine iAdd (by omega) ?_
  refine iSub (by omega) ?_
  have eS : ∀ k, gt (sw L1 i j.toNat) k = if k = j.toNat then gt L1 i else if k = i then gt L1 j.toNat else gt L1 k := gt_sw (by omega) (by omega)
  have nx1 : ∀ k, a + 1 ≤ k → k < i + 1 → ltV (gt (sw L1 i j.toNat) k) (gt L t) = true := fun k h1 h2 => by
    rw [eS, if_neg (by omega)]
    by_cases hk : k = i
    · rw [if_pos hk]; exact hlt2
    · rw [if_neg hk]; exact hq k h1 (by omega)
  have nx2 : ∀ k : Nat, j - 1 < k → k < b → ltV (gt (sw L1 i j.toNat) k) (gt L t) = false := fun k h1 h2 => by
    rw [eS]
    by_cases hk : k = j.toNat
    · rw [if_pos hk]; exact hlt1
    · rw [if_neg hk, if_neg (by omega)]; exact hq2 k (by omega) h2
  have nxe : gt (sw L1 i j.toNat) a = gt L t := by rw [eS, if_neg (by omega), if_neg (by omega)]; exact he1
  exact hKn (i + 1, j - 1) _ ⟨by show a + 1 ≤ i + 1; omega, by show ((i + 1 : Nat) : Int) ≤ j - 1 + 1; omega, by show j - 1 < b; omega, sw L1 i j.toNat, ht17.trans h24, .step hw1 (by omega) (by omega) (by omega) (by omega) hb, nxe, nx1, nx2⟩ (by show b - (i + 1) < b - i1; omega)
theorem ok_slices_partialInsertionSortCmpFunc_Si64 {lo : Nat} {w : World} {v : Value} {L : List VL} {a b : Nat} (hs : Ow lo t_Si64 w v (evL L)) (hrw : RowsV t_i64 w L) (hab : a < b) (hb : b ≤ L.length) (hL : L.length ≤ 1152921504606846976) (hbl : Blw ltV a b L) :
    Cal Tryz.prog f_slices_partialInsertionSortCmpFunc_Si64 #[v, .int .i64 (a : Int), .int .i64 (b : Int), cmpV] w fun r w' => ∃ y : Bool, ∃ L' : List VL, r = .bool y ∧ Turn lo t_Si64 encV v w w' L' ∧ SwR a b L L' ∧ (y = true → Srt ltV a b L') := by
  apply c_slices_partialInsertionSortCmpFunc_Si64; unfold S_slices_partialInsertionSortCmpFunc_Si64
  (refine iAdd (by omega) ?_)
  refine iLp (fun s : Nat × Nat => [.int .i64 (s.1 : Int), .int .i64 (s.2 : Int)]) (fun s w' => a + 1 ≤ s.1 ∧ s.1 ≤ b ∧ s.2 ≤ 5 ∧ ∃ L', Turn lo t_Si64 encV v w w' L' ∧ SwR a b L L' ∧ Srt ltV a s.1 L') (fun s => 5 - s.2) (a + 1, 0) rfl ⟨Nat.le_refl _, by show a + 1 ≤ b; omega, Nat.zero_le _, L, Turn.refl hs, .refl, Srt.short (Nat.le_refl _)⟩ ?_
  rintro ⟨i0, r⟩ w2 Kn ⟨hi0, hib0, hr, L1, ht1, hw1, hs1⟩ hKn
  have hi0 : a + 1 ≤ i0 := hi0
  have hib0 : i0 ≤ b := hib0
  have hr : r ≤ 5 := hr
  have hs1 : Srt ltV a i0 L1 := hs1
  have hl1 := hw1.len
  intro _
  simp only [gx]
  refine iLt ?_
  refine iCndP (fun h5 => ?_) (fun h5 => ?_)
  rotate_left
  · exact ⟨false, L1, rfl, ht1, hw1, fun h => by cases h⟩
  refine iLp (fun i : Nat => [.int .i64 (i : Int)]) (fun i w' => i0 ≤ i ∧ i ≤ b ∧ Ext w2 w' ∧ Srt ltV a i L1) (fun i => b - i) i0 rfl ⟨Nat.le_refl _, hib0, Ext.refl _, hs1⟩ ?_
  rintro i w4 Kn4 ⟨hi, hib, h4, hsi⟩ hKn4
  intro _
  simp only [gx]
  have ht4 := ht1.ext h4
  refine iJnB (decide (i < b) && !ltV (gt L1 i) (gt L1 (i - 1))) w4 (fun J hJ => ?_) (fun w6 h6 => ?_)
  · refine iLt ?_
    refine iCndP (fun h => ?_) (fun h => ?_)
    · rw [decide_eq_true (show i < b by omega), Bool.true_and] at hJ
      refine iRdO (j := i) ht4.ow rfl (by omega) ?_
      refine iSub (by omega) ?_
      refine iRdO (j := i - 1) ht4.ow (by omega) (by omega) ?_
      exact iCmN (hrw.turn hs (by decide) ht4 hw1.perm) (by omega) (by omega) hJ
    · rw [decide_eq_false (show ¬ i < b by omega), Bool.false_and] at hJ
      exact fun _ x8 _ x9 => hJ _ (x8.trans x9)
  intro _
  simp only [gx]
  have ht6 := ht4.ext h6
  cases hc : decide (i < b) && !ltV (gt L1 i) (gt L1 (i - 1))
  rotate_left
  · rw [Bool.and_eq_true, decide_eq_true_eq, Bool.not_eq_true'] at hc
    refine iCndT rfl ?_
    refine iAdd (by omega) ?_
    refine hKn4 (i + 1) _ ⟨by omega, by omega, h4.trans h6, fun p q g1 g2 g3 => ?_⟩ (by omega)
    by_cases hq : q = i
    · subst hq
      by_cases hp : p = q - 1
      · rw [hp]; exact hc.2
      · exact ordrV.tr (hsi p (q - 1) g1 (by omega) (by omega)) hc.2
    · exact hsi p q g1 g2 (by omega)
  refine iCndF rfl ?_
  refine iEq ?_
  refine iCndP (fun h => ?_) (fun h => ?_)
  · have : i = b := by omega
    subst this
    exact ⟨true, L1, rfl, ht6, hw1, fun _ => hsi⟩
  have hlt : ltV (gt L1 i) (gt L1 (i - 1)) = true := by
    rw [decide_eq_true (show i < b by omega), Bool.true_and, Bool.not_eq_false'] at hc; exact hc
  refine iSub (by omega) ?_
  refine iLt ?_
  refine iCndP (fun h7 => ?_) (fun h7 => ?_)
  · exact ⟨false, L1, rfl, ht6, hw1, fun h => by cases h⟩
  refine iSub (by omega) ?_
  refine iSub (by omega) ?_
  refine iRdO (j := i - 1) ht6.ow (by omega) (by omega) ?_
  refine iRdO (j := i) ht6.ow rfl (by omega) ?_
  refine iWr2 (i := i) (j := i - 1) encV_cell ht6.ow rfl (by omega) (by omega) (by omega) fun w13 h13 => ?_
  have h13 : Turn lo t_Si64 encV v w6 w13 (sw L1 i (i - 1)) := h13
  have hw2 : SwR a b L1 (sw L1 i (i - 1)) := .one (by omega) (by omega) (by omega) (by omega) (by omega)
  have hs2 : Srt ltV a (i - 1) (sw L1 i (i - 1)) := (hsi.mono (Nat.le_refl _) (by omega)).out (SwR.one (a := i - 1) (b := b) (by omega) (by omega) (by omega) (by omega) (by omega)) (.inr (Nat.le_refl _))
  have ht13 := ht6.trans h13
  have hw13 := hw1.trans hw2
  generalize sw L1 i (i - 1) = L2 at h13 hw2 hs2 ht13 hw13
  have hl2 := hw13.len
  have hbl2 : Blw ltV a b L2 := hbl.keep hw13 (Nat.le_refl _) (Nat.le_refl _)
  refine iSub (by omega) ?_
  refine iLe ?_
  refine iJnX (fun _ w' => ∃ L', Turn lo t_Si64 encV v w w' L' ∧ SwR a b L L' ∧ Srt ltV a i L') (fun J hJ => ?_) ?_
  · refine iCndP (fun h8 => ?_) (fun h8 => ?_)
    · refine iSub (by omega) ?_
      refine iLp (fun j : Nat => [.int .i64 (j : Int)]) (fun j w' => a ≤ j ∧ j ≤ i - 1 ∧ ∃ L', Turn lo t_Si64 encV v w w' L' ∧ SwR a b L L' ∧ Blw ltV a b L' ∧ Ins ltV a (i - 1) j L') (fun j => j) (i - 1) (by congr 2; omega) ⟨by omega, Nat.le_refl _, L2, ht13, hw13, hbl2, Ins.init hs2⟩ ?_
      rintro j w17 Kn17 ⟨haj, hji, L3, ht3, hw3, hbl3, hin⟩ hKn17
      have hl3 := hw3.len
      intro _
      simp only [gx]
      refine iLe ?_
      refine iCndP (fun h9 => ?_) (fun h9 => ?_)
      · refine iRdO (j := j) ht3.ow rfl (by omega) ?_
        refine iSub (by omega) ?_
        refine iRdO (j := j - 1) ht3.ow (by omega) (by omega) ?_
        refine iCmN (hrw.turn hs (by decide) ht3 hw3.perm) (by omega) (by omega) fun w18 h18 => ?_
        have ht18 := ht3.ext h18
        refine iCnd (fun h10 => ?_) (fun h10 => ?_)
        · have h10 : ltV (gt L3 j) (gt L3 (j - 1)) = false := by simpa using h10
          refine hJ _ _ ⟨L3, ht18, hw3, ?_⟩
          have := hin.done ordrV (by rcases Nat.lt_or_ge a j with h' | h'; exact .inr ⟨h', h10⟩; exact .inl h') hji
          rwa [show i - 1 + 1 = i by omega] at this
        · have h10 : ltV (gt L3 j) (gt L3 (j - 1)) = true := by simpa using h10
          have haj' : a < j := by
            rcases Nat.lt_or_ge a j with h' | h'
            · exact h'
            · have e : j = a := by omega
              subst e
              have := hbl3 j (Nat.le_refl _) (by omega) (by omega)
              rw [h10] at this; cases this
          refine iSub (by omega) ?_
          refine iSub (by omega) ?_
          refine iRdO (j := j - 1) ht18.ow (by omega) (by omega) ?_
          refine iRdO (j := j) ht18.ow rfl (by omega) ?_
          refine iWr2 (i := j) (j := j - 1) encV_cell ht18.ow rfl (by omega) (by omega) (by omega) fun w23 h23 => ?_
          refine iSub (by omega) ?_
          rw [show (j : Int) - 1 = ((j - 1 : Nat) : Int) by omega]
          have hw4 : SwR a b L3 (sw L3 j (j - 1)) := .one (by omega) (by omega) (by omega) (by omega) (by omega)
          exact hKn17 (j - 1) _ ⟨by omega, by omega, sw L3 j (j - 1), ht18.trans h23, hw3.trans hw4, hbl3.keep hw4 (Nat.le_refl _) (Nat.le_refl _), hin.swap ordrV haj' hji (by omega) h10⟩ (by omega)
      · refine hJ _ _ ⟨L3, ht3, hw3, ?_⟩
        have := hin.done ordrV (.inl (by omega)) hji
        rwa [show i - 1 + 1 = i by omega] at this
    · exact hJ _ _ ⟨L2, ht13, hw13, Srt.short (by omega)⟩
  rintro xs w15 ⟨L3, ht3, hw3, hs3⟩
  have hl3 := hw3.len
  intro _
  refine iSub (by omega) ?_
  refine iLe ?_
  refine iCndP (fun h8 => ?_) (fun h8 => ?_)
  · refine iAdd (by omega) ?_
    refine iLp (fun j : Nat => [.int .i64 (j : Int)]) (fun j w' => i + 1 ≤ j ∧ j ≤ b ∧ ∃ L', Turn lo t_Si64 encV v w w' L' ∧ SwR a b L L' ∧ Srt ltV a i L') (fun j => b - j) (i + 1) rfl ⟨Nat.le_refl _, by omega, L3, ht3, hw3, hs3⟩ ?_
    rintro j w25 Kn25 ⟨hij, hjb, L4, ht4, hw4, hs4⟩ hKn25
    have hl4 := hw4.len
    intro _
    simp only [gx]
    refine iLt ?_
    refine iCndP (fun h9 => ?_) (fun h9 => ?_)
    · refine iRdO (j := j) ht4.ow rfl (by omega) ?_
      refine iSub (by omega) ?_
      refine iRdO (j := j - 1) ht4.ow (by omega) (by omega) ?_
      refine iCmN (hrw.turn hs (by decide) ht4 hw4.perm) (by omega) (by omega) fun w26 h26 => ?_
      have ht26 := ht4.ext h26
      refine iCnd (fun h10 => ?_) (fun h10 => ?_)
      · refine iAdd (by omega) ?_
        exact hKn (i, r + 1) _ ⟨by show a + 1 ≤ i; omega, hib, by show r + 1 ≤ 5; omega, L4, ht26, hw4, hs4⟩ (by show 5 - (r + 1) < 5 - r; omega)
      · refine iSub (by omega) ?_
        refine iSub (by omega) ?_
        refine iRdO (j := j - 1) ht26.ow (by omega) (by omega) ?_
        refine iRdO (j := j) ht26.ow rfl (by omega) ?_
        refine iWr2 (i := j) (j := j - 1) encV_cell ht26.ow rfl (by omega) (by omega) (by omega) fun w31 h31 => ?_
        refine iAdd (by omega) ?_
        exact hKn25 (j + 1) _ ⟨by omega, by omega, sw L4 j (j - 1), ht26.trans h31, .step hw4 (by omega) (by omega) (by omega) (by omega) hb, hs4.out (SwR.one (a := i) (b := b) (by omega) (by omega) (by omega) (by omega) (by omega)) (.inr (Nat.le_refl _))⟩ (by omega)
    · refine iAdd (by omega) ?_
      exact hKn (i, r + 1) _ ⟨by show a + 1 ≤ i; omega, hib, by show r + 1 ≤ 5; omega, L4, ht4, hw4, hs4⟩ (by show 5 - (r + 1) < 5 - r; omega)
  · refine iAdd (by omega) ?_
    exact hKn (i, r + 1) _ ⟨by show a + 1 ≤ i; omega, hib, by show r + 1 ≤ 5; omega, L3, ht3, hw3, hs3⟩ (by show 5 - (r + 1) < 5 - r; omega)
theorem ok_slices_pdqsortCmpFunc_Si64 {lo : Nat} {v : Value} : ∀ (n : Nat) {w : World} {L : List VL} {a b : Nat} {lim : Int}, b - a ≤ n → Ow lo t_Si64 w v (evL L) → RowsV t_i64 w L → a ≤ b → b ≤ L.length → L.length ≤ 1152921504606846976 → Blw ltV a b L → 0 ≤ lim ∧ lim ≤ 64 →
    Cal Tryz.prog f_slices_pdqsortCmpFunc_Si64 #[v, .int .i64 (a : Int), .int .i64 (b : Int), .int .i64 lim, cmpV] w fun _ w' => ∃ L', Turn lo t_Si64 encV v w w' L' ∧ SwR a b L L' ∧ Srt ltV a b L' := by
  intro n
  induction n using Nat.strongRecOn with
  | ind n ih =>
  intro w L a0 b0 lim0 hn hs hrw hab hb hL hbl hlim
  apply c_slices_pdqsortCmpFunc_Si64; unfold S_slices_pdqsortCmpFunc_Si64
  refine iLp (fun s : Nat × Nat × Int × Bool × Bool => [.int .i64 (s.1 : Int), .int .i64 (s.2.1 : Int), .int .i64 s.2.2.1, .bool s.2.2.2.1, .bool s.2.2.2.2]) (fun s w' => a0 ≤ s.1 ∧ s.1 ≤ s.2.1 ∧ s.2.1 ≤ b0 ∧ (0 ≤ s.2.2.1 ∧ s.2.2.1 ≤ 64) ∧ ∃ L', Turn lo t_Si64 encV v w w' L' ∧ SwR a0 b0 L L' ∧ Blw ltV s.1 s.2.1 L' ∧ Crs ltV a0 b0 s.1 s.2.1 L') (fun s => s.2.1 - s.1) (a0, b0, lim0, true, true) rfl
    ⟨Nat.le_refl _, hab, Nat.le_refl _, hlim, L, Turn.refl hs, .refl, hbl, Crs.all⟩ ?_
  rintro ⟨a, b, lim, bal, par⟩ w2 Kn ⟨ha, hab, hbb, hlim, L1, ht1, hw1, hbl1, hcr1⟩ hKn
  have ha : a0 ≤ a := ha
  have hab : a ≤ b := hab
  have hbb : b ≤ b0 := hbb
  have hlim : 0 ≤ lim ∧ lim ≤ 64 := hlim
  have hbl1 : Blw ltV a b L1 := hbl1
  have hcr1 : Crs ltV a0 b0 a b L1 := hcr1
  have hl1 := hw1.len
  intro _
  simp only [gx]
  -- a sorted window closes the work
  have fin : ∀ {L' L'' : List VL} {w' : World} {a b : Nat}, Turn lo t_Si64 encV v w w' L'' → SwR a0 b0 L L' → SwR a b L' L'' → a0 ≤ a → b ≤ b0 → Crs ltV a0 b0 a b L' → Srt ltV a b L'' → ∃ L', Turn lo t_Si64 encV v w w' L' ∧ SwR a0 b0 L L' ∧ Srt ltV a0 b0 L' :=
    fun {L' L'' w' a b} h1 h2 h3 h4 h5 h6 h7 => ⟨L'', h1, h2.trans (h3.mono h4 h5 (by rw [h2.len]; exact hb)), h6.done h3 h4 h5 h7⟩
  refine iSub (by omega) ?_
  refine iLe ?_
  refine iCndP (fun h => ?_) (fun h => ?_)
  · refine iCall ?_
    refine (ok_slices_insertionSortV ht1.ow (hrw.turn hs (by decide) ht1 hw1.perm) hab (by omega) (by omega)).mono fun _ w3 h3 => ?_
    obtain ⟨L2, ht2, hw2, hs2⟩ := h3
    exact fin (ht1.trans ht2) hw1 hw2 ha hbb hcr1 hs2
  refine iEq ?_
  refine iCndP (fun h0 => ?_) (fun h0 => ?_)
  · refine iCall ?_
    refine (ok_slices_heapSortCmpFunc_Si64 ht1.ow (hrw.turn hs (by decide) ht1 hw1.perm) (by omega) (by omega) (by omega)).mono fun _ w3 h3 => ?_
    obtain ⟨L2, ht2, hw2, hs2⟩ := h3
    exact fin (ht1.trans ht2) hw1 hw2 ha hbb hcr1 hs2
  refine iNot ?_
  refine iJnX (fun xs w' => ∃ l2 : Int, ∃ L', xs = [.int .i64 l2] ∧ (0 ≤ l2 ∧ l2 ≤ 64) ∧ Turn lo t_Si64 encV v w w' L' ∧ SwR a b L1 L') (fun J hJ => ?_) ?_
  · refine iCnd (fun _ => ?_) (fun _ => ?_)
    · refine iCall ?_
      refine (ok_slices_breakPatternsCmpFunc_Si64 ht1.ow hab (by omega) (by omega)).mono fun _ w3 h3 => ?_
      obtain ⟨L2, ht2, hw2⟩ := h3
      refine iSub (by omega) ?_
      exact hJ _ _ ⟨lim - 1, L2, rfl, by omega, ht1.trans ht2, hw2⟩
    · exact hJ _ _ ⟨lim, L1, rfl, hlim, ht1, .refl⟩
  rintro xs w6 ⟨lim, L2, rfl, hlim, ht2, hw2⟩
  have hl2 := hw2.len
  intro _
  simp only [gx]
  refine iCall ?_
  refine (ok_slices_choosePivotCmpFunc_Si64 ht2.ow (hrw.turn hs (by decide) ht2 (hw2.perm.trans hw1.perm)) (by omega) (by omega) (by omega)).mono fun r w8 h8 => ?_
  obtain ⟨h8, t, x, rfl, hat, htb⟩ := h8
  have ht8 := ht2.ext h8
  refine iE20 ?_
  refine iE21 ?_
  refine iEq ?_
  refine iJnX (fun xs w' => ∃ t : Nat, ∃ x : Int, ∃ L', xs = [.int .i64 (t : Int), .int .i64 x] ∧ a ≤ t ∧ t < b ∧ Turn lo t_Si64 encV v w w' L' ∧ SwR a b L1 L') (fun J hJ => ?_) ?_
  · refine iCndP (fun _ => ?_) (fun _ => ?_)
    · refine iCall ?_
      refine (ok_slices_reverseRangeCmpFunc_Si64 ht8.ow hab (by omega) (by omega)).mono fun _ w3 h3 => ?_
      obtain ⟨L3, ht3, hw3⟩ := h3
      refine iSub (by omega) ?_
      refine iSub (by omega) ?_
      refine iSub (by omega) ?_
      exact hJ _ _ ⟨b - 1 - (t - a), 1, L3, by congr 2; omega, by omega, by omega, ht8.trans ht3, hw2.trans hw3⟩
    · exact hJ _ _ ⟨t, x, L2, rfl, hat, htb, ht8, hw2⟩
  clear hat htb
  rintro xs w10 ⟨t, x, L3, rfl, hat, htb, ht3, hw3⟩
  intro _
  simp only [gx]
  refine iJnX (fun xs w' => ∃ y : Bool, xs = [.bool y] ∧ Ext w10 w') (fun J hJ => ?_) ?_
  · refine iCnd (fun _ => ?_) (fun _ => ?_)
    · refine iCnd (fun _ => ?_) (fun _ => ?_)
      · refine iEq ?_
        exact hJ _ _ ⟨_, rfl, Ext.refl _⟩
      · exact hJ _ _ ⟨false, rfl, Ext.refl _⟩
    · exact hJ _ _ ⟨false, rfl, Ext.refl _⟩
  rintro xs w13 ⟨y, rfl, h13⟩
  intro _
  simp only [gx]
  have ht13 := ht3.ext h13
  have hl3 := hw3.len
  refine iJnX (fun _ w' => ∃ L', Turn lo t_Si64 encV v w w' L' ∧ SwR a b L1 L') (fun J hJ => ?_) ?_
  · refine iCnd (fun _ => ?_) (fun _ => ?_)
    · refine iCall ?_
      refine (ok_slices_partialInsertionSortCmpFunc_Si64 ht13.ow (hrw.turn hs (by decide) ht13 (hw3.perm.trans hw1.perm)) (by omega) (by omega) (by omega) (hbl1.keep hw3 (Nat.le_refl _) (Nat.le_refl _))).mono fun r w3 h3 => ?_
      obtain ⟨y', L4, rfl, ht4, hw4, hs4⟩ := h3
      refine iCnd (fun hy => ?_) (fun hy => ?_)
      · exact fin (ht13.trans ht4) hw1 (hw3.trans hw4) ha hbb hcr1 (hs4 hy)
      · exact hJ _ _ ⟨L4, ht13.trans ht4, hw3.trans hw4⟩
    · exact hJ _ _ ⟨L3, ht13, hw3⟩
  clear ht3 hw3 ht13 ht8 ht2 hw2 hl2 hl3
  rintro xs w15 ⟨L3, ht3, hw3⟩
  have hl3 := hw3.len
  have hw3' : SwR a0 b0 L L3 := hw1.trans (hw3.mono ha hbb (by omega))
  have hbl3 : Blw ltV a b L3 := hbl1.keep hw3 (Nat.le_refl _) (Nat.le_refl _)
  have hcr3 : Crs ltV a0 b0 a b L3 := hcr1.keep hw3 ha hbb
  intro _
  refine iJnB (decide (0 < a) && !ltV (gt L3 (a - 1)) (gt L3 t)) w15 (fun J hJ => ?_) (fun w18 h18 => ?_)
  · refine iLt ?_
    refine iCndP (fun h5 => ?_) (fun h5 => ?_)
    · rw [decide_eq_true (show 0 < a by omega), Bool.true_and] at hJ
      refine iSub (by omega) ?_
      refine iRdO (j := a - 1) ht3.ow (by omega) (by omega) ?_
      refine iRdO (j := t) ht3.ow rfl (by omega) ?_
      exact iCmN (hrw.turn hs (by decide) ht3 hw3'.perm) (by omega) (by omega) hJ
    · rw [decide_eq_false (show ¬ 0 < a by omega), Bool.false_and] at hJ
      exact fun _ x8 _ x9 => hJ _ (x8.trans x9)
  intro _
  simp only [gx]
  have ht18 := ht3.ext h18
  cases hc : decide (0 < a) && !ltV (gt L3 (a - 1)) (gt L3 t)
  rotate_left
  · rw [Bool.and_eq_true, decide_eq_true_eq, Bool.not_eq_true'] at hc
    refine iCndT rfl ?_
    refine iCall ?_
    refine (ok_slices_partitionEqualCmpFunc_Si64 ht18.ow (hrw.turn hs (by decide) ht18 hw3'.perm) hat htb (by omega) (by omega)).mono fun r w21 h21 => ?_
    obtain ⟨L4, m, rfl, ht4, hw4, ham, hmb, hle⟩ := h21
    have hge : ∀ k, a ≤ k → k < b → ltV (gt L4 k) (gt L3 t) = false := hw4.all (p := fun z => ltV z (gt L3 t) = false) fun k hk hk' => ordrV.tr hc.2 (hbl3 k hk hk' (by omega))
    refine hKn (m, b, lim, bal, par) _ ⟨by show a0 ≤ m; omega, hmb, hbb, hlim, L4, ht18.trans ht4, hw3'.trans (hw4.mono ha hbb (by rw [hw3'.len]; omega)), equal_blw ordrV hge hle ham, equal_up ordrV (hcr3.keep hw4 ha hbb) hge hle hmb⟩ (by show b - m < b - a; omega)
  refine iCndF rfl ?_
  refine iCall ?_
  refine (ok_slices_partitionCmpFunc_Si64 ht18.ow (hrw.turn hs (by decide) ht18 hw3'.perm) hat htb (by omega) (by omega)).mono fun r w22 h22 => ?_
  obtain ⟨L4, m, y', rfl, ht4, hw4, ham, hmb, hpt⟩ := h22
  have hl4 := hw4.len
  have ht22 := ht18.trans ht4
  have hw4' : SwR a0 b0 L L4 := hw3'.trans (hw4.mono ha hbb (by rw [hw3'.len]; omega))
  have hbl4 : Blw ltV a b L4 := hbl3.keep hw4 (Nat.le_refl _) (Nat.le_refl _)
  have hcr4 : Crs ltV a0 b0 a b L4 := hcr3.keep hw4 ha hbb
  refine iE20 ?_
  refine iE21 ?_
  refine iSub (by omega) ?_
  refine iSub (by omega) ?_
  refine iQuo (by omega) ?_
  refine iLt ?_
  refine iCndP (fun h5 => ?_) (fun h5 => ?_)
  · refine iLe ?_
    refine iCall ?_
    refine (ih (m - a) (by omega) (Nat.le_refl _) ht22.ow (hrw.turn hs (by decide) ht22 hw4'.perm) ham (by omega) (by omega) (hbl4.low (by omega)) hlim).mono fun _ w23 h23 => ?_
    obtain ⟨L5, ht5, hw5, hs5⟩ := h23
    have hw5' : SwR a b L4 L5 := hw5.mono (Nat.le_refl _) (by omega) (by omega)
    have hpt5 := hpt.lowS hw5
    refine iAdd (by omega) ?_
    exact hKn (m + 1, b, lim, _, y') _ ⟨by show a0 ≤ m + 1; omega, by show m + 1 ≤ b; omega, hbb, hlim, L5, ht22.trans ht5, hw4'.trans (hw5'.mono ha hbb (by rw [hw4'.len]; omega)), hpt5.blw, hpt5.up ordrV (hcr4.keep hw5' ha hbb) hs5⟩ (by show b - (m + 1) < b - a; omega)
  · refine iLe ?_
    refine iAdd (by omega) ?_
    refine iCall ?_
    refine (ih (b - (m + 1)) (by omega) (a := m + 1) (Nat.le_refl _) ht22.ow (hrw.turn hs (by decide) ht22 hw4'.perm) (by omega) (by omega) (by omega) hpt.blw hlim).mono fun _ w23 h23 => ?_
    obtain ⟨L5, ht5, hw5, hs5⟩ := h23
    have hw5' : SwR a b L4 L5 := hw5.mono (by omega) (Nat.le_refl _) (by omega)
    have hpt5 := hpt.highS hw5
    exact hKn (a, m, lim, _, y') _ ⟨ha, ham, by show m ≤ b0; omega, hlim, L5, ht22.trans ht5, hw4'.trans (hw5'.mono ha hbb (by rw [hw4'.len]; omega)), (hbl4.keep hw5' (Nat.le_refl _) (Nat.le_refl _)).low (Nat.le_of_lt hmb), hpt5.down ordrV (hcr4.keep hw5' ha hbb) hs5⟩ (by show m - a < b - a; omega)
theorem ok_slices_SortFunc_SSi64_Si64 {lo : Nat} {w : World} {v : Value} {L : List VL} (hs : Ow lo t_Si64 w v (evL L)) (hrw : RowsV t_i64 w L) (hL : L.length ≤ 1152921504606846976) :
    Cal Tryz.prog f_slices_SortFunc_SSi64_Si64 #[v, cmpV] w fun _ w' => ∃ L' : List VL, Ow lo t_Si64 w' v (evL L') ∧ Ch (fun c => v.ownBlock = some c) w w' ∧ List.Perm L' L ∧ L'.Pairwise fun x y => ltV y x = false := by
  apply c_slices_SortFunc_SSi64_Si64; unfold S_slices_SortFunc_SSi64_Si64
  refine iLenS hs.sl ?_
  rw [evs_len]
  refine iConvU (by omega) ?_
  refine iCall ?_
  refine (ok_math_bits_Len (by omega) w).mono fun r w1 h1 => ?_
  obtain ⟨h1, k, rfl, -, -, hk⟩ := h1
  refine iCall ?_
  refine (ok_slices_pdqsortCmpFunc_Si64 (a := 0) (b := L.length) (lim := (k : Int)) L.length (by omega) (hs.ext h1) (hrw.ext h1) (Nat.zero_le _) (Nat.le_refl _) hL (fun k _ _ h => by omega) (by omega)).mono fun _ w2 h2 => ?_
  obtain ⟨L', ht, hw, hst⟩ := h2
  rw [← hw.len] at hst
  exact ⟨L', ht.ow, (h1.ch (S := fun c => v.ownBlock = some c)).trans ht.ch fun _ e => .inl e, hw.perm, hst.pairwise⟩
end Go.Proofs.YtfadcafacpaldaaGreatDoor

/- Contracts: equal neighbours dropped from slices of slices, sorted lists without doubles. Conditions: none. -/
namespace Go.Vc
section
variable {P : Program} {w : World} {lo : Nat} {e : TypeId}
theorem Ow.openV {v : Value} {xs : List Value} (hs : Ow lo e w v xs) (hne : xs ≠ []) : ∃ g cap, v = .slice (some ⟨g, 0, none⟩) xs.length cap ∧ xs.length ≤ cap ∧ cap ≤ 9223372036854775807 := by
  obtain ⟨_, ⟨_, h0⟩ | ⟨g, cap, cur, hv, _, _, h1, h2, _⟩⟩ := hs
  · exact absurd (List.length_eq_zero_iff.1 h0) hne
  · exact ⟨g, cap, hv, h1, h2⟩
theorem Ow.atV {g n cap : Nat} {xs : List Value} (hs : Ow lo e w (.slice (some ⟨g, 0, none⟩) n cap) xs) (hn : xs.length = n) {j : Nat} (hj : j < n) : w.cell? ⟨g, j, none⟩ = xs[j]? := by
  have h : w.ownsRow lo e 1 (.slice (some ⟨g, 0, none⟩) n cap) n xs := by unfold Ow at hs; rw [hn] at hs; exact hs
  exact h.cellAt j (by omega)
theorem iSlTailV {g n cap k : Nat} {ki : IntKind} {K : Value → Prop} (hk : k < n) (hc : n ≤ cap) (h : K (.slice (some ⟨g, k, none⟩) (n - k) (cap - k))) : xSl 1 (.slice (some ⟨g, 0, none⟩) n cap) (some (.int ki (k : Int))) none K := by
  refine ⟨_, _, _, k, n, rfl, rfl, ⟨ki, rfl⟩, by omega, hc, ?_⟩
  rw [if_neg (by omega), Option.map_some, addr_add, Nat.zero_add, Nat.mul_one]
  exact h
theorem iSlHeadV {g n cap k : Nat} {ki : IntKind} {K : Value → Prop} (hk : k ≤ n) (hc : n ≤ cap) (h : K (.slice (some ⟨g, 0, none⟩) k cap)) : xSl 1 (.slice (some ⟨g, 0, none⟩) n cap) none (some (.int ki (k : Int))) K := by
  refine ⟨_, _, _, 0, k, rfl, ⟨ki, rfl⟩, rfl, Nat.zero_le _, by omega, ?_⟩
  have e : (if cap = 0 then some (⟨g, 0, none⟩ : Addr) else (some (⟨g, 0, none⟩ : Addr)).map (·.add (0 * 1))) = some ⟨g, 0, none⟩ := by
    split
    · rfl
    · simp [Addr.add]
  rw [e, Nat.sub_zero, Nat.sub_zero]
  exact h
theorem iClrV {t ty : TypeId} {z : Value} {bytes g n cap k : Nat} {xs : List Value} {K : Value → World → Prop} (ht : P.underlying t = some (.slice e)) (hi : (P.info? e).map (fun i => (i.zero, i.size, i.bytes)) = some (some z, 1, bytes)) (hz : isCell z = true)
    (hs : Ow lo e w (.slice (some ⟨g, 0, none⟩) n cap) xs) (hn : xs.length = n) (hk : k < n) (h : ∀ w', Ow lo e w' (.slice (some ⟨g, 0, none⟩) k cap) (xs.take k) → Ch (fun c => c = g) w w' → K (.tuple #[]) w') :
    xOp P (Builtin.clear_ #[t] ty #[.slice (some ⟨g, k, none⟩) (n - k) (cap - k)]) w K := by
  obtain ⟨i, hi, h3⟩ := Option.map_eq_some_iff.1 hi
  simp only [Prod.mk.injEq] at h3
  obtain ⟨hz0, -, -⟩ := h3
  obtain ⟨-, ⟨hv, -⟩ | ⟨g', cap', cur, hv, hg, hh, h1, h2, h3, h4⟩⟩ := hs
  · cases hv
  · injection hv with e1 e2 e3
    injection e1 with e1
    injection e1 with e1
    subst e1
    subst e3
    rw [hn] at h1 h4
    rw [Nat.mul_one] at h3 h4
    have hzc : (Builtin.zeroCells z.cells (n - k)).toList = List.replicate (n - k) z := by
      rw [isCell_cells hz]
      simp [Builtin.zeroCells]
      apply List.ext_getElem
      · simp
      · intro i h1 h2
        simp [Nat.mod_one]
    have hrun := run_storeCells_at P g k e (List.replicate (n - k) z) 0 cur w hh (by rw [List.length_replicate]; omega) (fun v hv => isCell_one (by rw [List.eq_of_mem_replicate hv]; exact hz))
    refine ⟨_, _, ?_, h (w.setRow g (cur.toList.take (k + 0) ++ List.replicate (n - k) z ++ cur.toList.drop (k + 0 + (List.replicate (n - k) z).length)).toArray) ?_ ?_⟩
    · obtain ⟨m, hm⟩ : ∃ m, n - k = m + 1 := ⟨n - k - 1, by omega⟩
      rw [hm] at hrun hzc ⊢
      simp [Builtin.clear_, run_underlying ht, zeroValue, run_info hi, hz0, hzc, hrun]
    · refine ⟨by simp, .inr ⟨g, cap, _, ?_, hg, setRow_heap w g cur _ e (0, 0) hh, by rw [List.length_take]; omega, h2, ?_, ?_⟩⟩
      · rw [List.length_take, hn, Nat.min_eq_left (by omega)]
      · simp; omega
      · rw [List.length_take, hn, Nat.min_eq_left (by omega), Nat.mul_one, Nat.add_zero, List.take_append_of_le_length (by simp; omega), List.take_append_of_le_length (by simp; omega), List.take_take, Nat.min_self, ← h4, List.take_take, Nat.min_eq_left (by omega)]
    · exact ⟨rfl, rfl, rfl, by rw [setRow_size]; exact Nat.le_refl _, fun c _ hc => setRow_other w g c _ hc⟩
end
theorem ordL : OrdA lessB where
  o := ⟨fun {a b} h => lessB_asymm a b h, fun {a b c} h k => lessB_trans a b c h k⟩
  anti := fun {a b} h k => lessB_anti a b h k
theorem ltL_ne {a b : List Int} : (lessB a b || lessB b a) = decide (¬ a = b) := by
  rw [Bool.eq_iff_iff, Bool.or_eq_true, decide_eq_true_eq]
  constructor
  · rintro (h | h) e
    · subst e; rw [lessB_irr] at h; cases h
    · subst e; rw [lessB_irr] at h; cases h
  · intro h
    rcases ordL.tot a b with h1 | h1 | h1
    · exact .inl h1
    · exact absurd h1 h
    · exact .inr h1
abbrev ddV (L : List VL) : List VL := ddA lessB Prod.snd L
theorem ddV_take {L : List VL} {i : Nat} (h0 : 1 ≤ i) (hi : i < L.length) : ddV (L.take (i + 1)) = if (gt L i).2 = (gt L (i - 1)).2 then ddV (L.take i) else ddV (L.take i) ++ [gt L i] := by
  rw [ddV, ddA_take h0 hi, ltL_ne]
  by_cases h : (gt L i).2 = (gt L (i - 1)).2
  · rw [if_pos h, if_neg (by simp [h])]
  · rw [if_neg h, if_pos (by simpa using fun e => h e.symm)]
theorem ddV_idk {L : List VL} : ∀ k, k ≤ L.length → (∀ i, 1 ≤ i → i < k → ¬ (gt L i).2 = (gt L (i - 1)).2) → ddV (L.take k) = L.take k := by
  intro k
  induction k with
  | zero => intro _ _; rfl
  | succ k ih =>
    intro hk h
    rcases Nat.eq_zero_or_pos k with h0 | h0
    · subst h0
      rw [ddV, ddA_one (by omega), List.take_succ_eq_append_getElem (by omega), gt_eq (by omega)]; rfl
    · rw [ddV_take h0 (by omega), if_neg (h k h0 (by omega)), ih (by omega) fun i h1 h2 => h i h1 (by omega), List.take_succ_eq_append_getElem (by omega), gt_eq (by omega)]
theorem ddV_id {L : List VL} (h : ∀ i, 1 ≤ i → i < L.length → ¬ (gt L i).2 = (gt L (i - 1)).2) : ddV L = L := by
  have := ddV_idk L.length (Nat.le_refl _) h
  rwa [List.take_length] at this
theorem evs_get (L : List VL) {j : Nat} (hj : j < L.length) : (evL L)[j]? = some (encV (gt L j)) := by rw [gt_eq hj]; simp [evL, hj]
theorem evs_take (L : List VL) (k : Nat) : (evL L).take k = evL (L.take k) := by simp [evL, List.map_take]
theorem RowsV.at {e : TypeId} {w : World} {L : List VL} (h : RowsV e w L) {i : Nat} (hi : i < L.length) : SlI w (encV (gt L i)) (gt L i).2 := (h _ (by rw [gt_eq hi]; exact List.getElem_mem _)).sl
end Go.Vc
namespace Go.Proofs.YtfadcafacpaldaaGreatDoor
open Go.Vc
theorem iEqV {w : World} {x y : VL} {G : Value → World → Prop} (hx : SlI w (encV x) x.2) (hy : SlI w (encV y) y.2) (h : ∀ w', Ext w w' → G (.bool (decide (x.2 = y.2))) w') : ∀ w1, Ext w w1 → callV Tryz.prog (.func (.func f_slices_Equal_Si64_i64) #[] #[]) [encV x, encV y] w1 fun r w2 => ∀ w3, Ext w2 w3 → G r w3 :=
  fun _ x1 => iRet (ok_slices_Equal_Si64_i64 (hx.ext x1) (hy.ext x1)) fun _ x2 _ x3 => h _ ((x1.trans x2).trans x3)
theorem iNeV {w : World} {x y : VL} {G : Value → World → Prop} (hx : SlI w (encV x) x.2) (hy : SlI w (encV y) y.2) (h : ∀ w', Ext w w' → G (.bool (decide (¬ x.2 = y.2))) w') : ∀ w1, Ext w w1 → callV Tryz.prog (.func (.func f_slices_Equal_Si64_i64) #[] #[]) [encV x, encV y] w1 fun r w2 => xNot r fun c => ∀ w3, Ext w2 w3 → G c w3 :=
  fun _ x1 => iRet (ok_slices_Equal_Si64_i64 (hx.ext x1) (hy.ext x1)) fun _ x2 => iNot fun _ x3 => by
    have := h _ ((x1.trans x2).trans x3)
    rwa [decide_not] at this
theorem ok_slices_CompactFunc_SSi64_Si64 {lo : Nat} {w : World} {v : Value} {L : List VL} (hs : Ow lo t_Si64 w v (evL L)) (hrw : RowsV t_i64 w L) (hL : L.length ≤ 1152921504606846976) :
    Cal Tryz.prog f_slices_CompactFunc_SSi64_Si64 #[v, .func (.func f_slices_Equal_Si64_i64) #[] #[]] w fun r w' => Ow lo t_Si64 w' r (evL (ddV L)) ∧ Ch (fun c => v.ownBlock = some c) w w' ∧ r.ownBlock = v.ownBlock := by
  apply c_slices_CompactFunc_SSi64_Si64; unfold S_slices_CompactFunc_SSi64_Si64
  refine iLenS hs.sl ?_
  rw [evs_len]
  refine iLt ?_
  refine iCndP (fun h => ?_) (fun h => ?_)
  · rw [ddV_id (fun i h1 h2 => by omega)]
    exact ⟨hs, (Ext.refl w).ch, by first | trivial | rfl⟩
  obtain ⟨g, cap, hv, hcap, hcm⟩ := hs.openV (by intro e; have := evs_len L; rw [e] at this; simp at this; omega)
  rw [evs_len] at hv hcap
  refine iLp (fun k : Nat => [.int .i64 (k : Int)]) (fun k w' => 1 ≤ k ∧ k ≤ L.length ∧ Ext w w' ∧ ∀ i, 1 ≤ i → i < k → ¬ (gt L i).2 = (gt L (i - 1)).2) (fun k => L.length - k) 1 rfl ⟨Nat.le_refl _, by omega, Ext.refl _, fun i h1 h2 => by omega⟩ ?_
  rintro k w2 Kn ⟨hk1, hkn, h2, hne⟩ hKn
  have hs2 := hs.ext h2
  intro _
  simp only [gx]
  refine iLenS hs2.sl ?_
  rw [evs_len]
  refine iLt ?_
  refine iCndP (fun h3 => ?_) (fun h3 => ?_)
  rotate_left
  · rw [ddV_id (fun i h1 h2 => hne i h1 (by omega))]
    exact ⟨hs2, h2.ch, by first | trivial | rfl⟩
  refine iRdO (j := k) hs2 rfl (by omega) ?_
  refine iSub (by omega) ?_
  refine iRdO (j := k - 1) hs2 (by omega) (by omega) ?_
  have hr2 := hrw.ext h2
  refine iEqV (hr2.at (by omega)) (hr2.at (by omega)) fun w3 h23 => ?_
  have hs3 := hs2.ext h23
  refine iCndP (fun h4 => ?_) (fun h4 => ?_)
  rotate_left
  · refine iAdd (by omega) ?_
    refine hKn (k + 1) _ ⟨by omega, by omega, h2.trans h23, fun i h1 h5 => ?_⟩ (by omega)
    by_cases hi : i = k
    · subst hi; exact h4
    · exact hne i h1 (by omega)
  subst hv
  refine iSlTailV (k := k) (by omega) hcap ?_
  refine iLp (fun s : Nat × Nat => [.int .i64 (s.1 : Int), .int .i64 (s.2 : Int)]) (fun s w' => k ≤ s.1 ∧ s.1 + 1 ≤ k + s.2 ∧ k + s.2 ≤ L.length ∧ ∃ M, Turn lo t_Si64 encV (.slice (some ⟨g, 0, none⟩) L.length cap) w w' M ∧ M.length = L.length ∧ M.take s.1 = ddV (L.take (k + s.2)) ∧ ∀ j, k + s.2 ≤ j + 1 → gt M j = gt L j) (fun s => L.length - s.2) (k, 1) rfl
    ⟨Nat.le_refl _, Nat.le_refl _, by show k + 1 ≤ L.length; omega, L, ⟨hs3, (h2.trans h23).ch⟩, rfl, by show L.take k = ddV (L.take (k + 1)); rw [ddV_take hk1 (by omega), if_pos h4, ddV_idk k (by omega) hne], fun _ _ => rfl⟩ ?_
  rintro ⟨kk, k2⟩ w5 Kn5 ⟨hkk, hkk2, hk2, M, ht, hM, hMt, hMe⟩ hKn5
  have hkk : k ≤ kk := hkk
  have hkk2 : kk + 1 ≤ k + k2 := hkk2
  have hk2 : k + k2 ≤ L.length := hk2
  have hMt : M.take kk = ddV (L.take (k + k2)) := hMt
  have hMe : ∀ j, k + k2 ≤ j + 1 → gt M j = gt L j := hMe
  intro _
  simp only [gx]
  refine iLenL ?_
  refine iLt ?_
  refine iCndP (fun h5 => ?_) (fun h5 => ?_)
  · refine iIaL (j := k2) (by omega) ?_
    refine iLd (ht.ow.atV (by rw [List.length_map]; exact hM) (j := k + k2) (by omega) |>.trans (evs_get M (by omega))) ?_
    refine iSub (by omega) ?_
    rw [show (k2 : Int) - 1 = ((k2 - 1 : Nat) : Int) by omega]
    refine iIaL (j := k2 - 1) (by omega) ?_
    refine iLd (ht.ow.atV (by rw [List.length_map]; exact hM) (j := k + (k2 - 1)) (by omega) |>.trans (evs_get M (by omega))) ?_
    have e1 := hMe (k + k2) (by omega)
    have e2 := hMe (k + (k2 - 1)) (by omega)
    have hr5 : RowsV t_i64 w5 L := fun y hy => (hrw y hy).ch ht.ch fun c hc hc' => (hrw y hy).ne_ow hs (by decide) hc hc'
    refine iNeV (by rw [e1]; exact hr5.at (by omega)) (by rw [e2]; exact hr5.at (by omega)) fun w6 h56 => ?_
    have ht6 := ht.ext h56
    have edd := ddV_take (L := L) (i := k + k2) (by omega) (by omega)
    rw [← e1, show k + k2 - 1 = k + (k2 - 1) by omega, ← e2] at edd
    refine iCndP (fun h6 => ?_) (fun h6 => ?_)
    · rw [if_neg h6, ← hMt] at edd
      refine iIaL (j := k2) (by omega) ?_
      refine iLd (ht6.ow.atV (by rw [List.length_map]; exact hM) (j := k + k2) (by omega) |>.trans (evs_get M (by omega))) ?_
      refine iIaOw ht6.ow (by omega) (by rw [List.length_map]; omega) fun b o hb _ _ hc hf hset => ?_
      refine iSt (hc.trans (List.getElem?_eq_getElem (by rw [List.length_map]; omega))) hf (encV_cell _) ?_
      have hset := hset (encV (gt M (k + k2)))
      rw [Int.toNat_natCast, ← List.map_set] at hset
      refine iAdd (by omega) ?_
      refine iAdd (by omega) ?_
      refine hKn5 (kk + 1, k2 + 1) _ ⟨by show k ≤ kk + 1; omega, by show kk + 1 + 1 ≤ k + (k2 + 1); omega, by show k + (k2 + 1) ≤ L.length; omega, M.set kk (gt M (k + k2)), ⟨hset, ht6.ch.trans ((Upd.setCell w6 b o _).ch (S := fun c => Value.ownBlock (.slice (some ⟨g, 0, none⟩) L.length cap) = some c) hb) fun _ e => .inl e⟩, by rw [List.length_set]; exact hM, ?_, fun j hj => ?_⟩ (by show L.length - (k2 + 1) < L.length - k2; omega)
      · show (M.set kk (gt M (k + k2))).take (kk + 1) = ddV (L.take (k + (k2 + 1)))
        rw [show k + (k2 + 1) = k + k2 + 1 by omega, edd, List.take_succ_eq_append_getElem (by rw [List.length_set]; omega), List.getElem_set_self, List.take_set_of_le (Nat.le_refl _)]
      · have hj : k + (k2 + 1) ≤ j + 1 := hj
        rw [gt_set _ (by omega), if_neg (by omega)]
        exact hMe j (by omega)
    · rw [if_pos (Classical.not_not.1 h6), ← hMt] at edd
      refine iAdd (by omega) ?_
      exact hKn5 (kk, k2 + 1) _ ⟨hkk, by show kk + 1 ≤ k + (k2 + 1); omega, by show k + (k2 + 1) ≤ L.length; omega, M, ht6, hM, edd.symm, fun j hj => hMe j (by have hj : k + (k2 + 1) ≤ j + 1 := hj; omega)⟩ (by show L.length - (k2 + 1) < L.length - k2; omega)
  · have hend : k + k2 = L.length := by omega
    rw [hend, List.take_length] at hMt
    refine iSlTailV (k := kk) (by omega) hcap ?_
    refine iClrV u_SSi64 i_SSi64 rfl ht.ow (by rw [List.length_map]; exact hM) (by omega) fun w8 h8 hc8 => ?_
    refine iSlHeadV (k := kk) (by omega) hcap ?_
    rw [show (List.map encV M).take kk = evL (M.take kk) from evs_take M kk, hMt] at h8
    exact ⟨h8, ht.ch.trans hc8 fun c hc => .inl (by rw [hc]; rfl), rfl⟩
theorem ok_impl_sortedLists {lo : Nat} {w : World} {v : Value} {L : List VL} (hs : Ow lo t_Si64 w v (evL L)) (hrw : RowsV t_i64 w L) (hL : L.length ≤ 1152921504606846976) :
    Cal Tryz.prog f_impl_sortedLists #[v] w fun r w' => ∃ M : List VL, Ow lo t_Si64 w' r (evL M) ∧ Ch (fun c => v.ownBlock = some c) w w' ∧ M.map Prod.snd = setA lessB (L.map Prod.snd) ∧ (∃ L', List.Perm L' L ∧ List.Sublist M L') := by
  apply c_impl_sortedLists; unfold S_impl_sortedLists
  refine iCall ((ok_slices_SortFunc_SSi64_Si64 hs hrw hL).mono ?_)
  rintro _ w1 ⟨L', ho, hch, hp, hpw⟩
  have hr1 : RowsV t_i64 w1 L' := fun y hy => (hrw y (hp.mem_iff.1 hy)).ch hch fun c hc hc' => (hrw y (hp.mem_iff.1 hy)).ne_ow hs (by decide) hc hc'
  refine iCall ((ok_slices_CompactFunc_SSi64_Si64 ho hr1 (by rw [hp.length_eq]; exact hL)).mono ?_)
  rintro r w2 ⟨h1, h2, h3⟩
  have hsp := (ddA_spec (key := Prod.snd) ordL hpw L'.length (Nat.le_refl _)).1
  rw [List.take_length] at hsp
  exact ⟨_, h1, hch.trans h2 fun c hc => .inl hc, ddA_set ordL hpw (fun a => (hp.map Prod.snd).mem_iff), L', hp, hsp⟩
end Go.Proofs.YtfadcafacpaldaaGreatDoor

/- Contracts: resolvents in the reference; are all clauses. Conditions: none. -/
namespace Go.Vc
def resLK (c d : List Int) (v : Int) (k : Nat) : List Int := ((List.range k).map fun k : Nat => (k : Int)).filter fun l => decide (¬ l / 2 = v) && (decide (l ∈ c) || decide (l ∈ d))
theorem resLK_succ (c d : List Int) (v : Int) (k : Nat) : resLK c d v (k + 1) = if (decide (¬ (k : Int) / 2 = v) && (decide ((k : Int) ∈ c) || decide ((k : Int) ∈ d))) = true then resLK c d v k ++ [(k : Int)] else resLK c d v k := by
  unfold resLK
  rw [List.range_succ, List.map_append, List.filter_append]
  simp only [List.map_cons, List.map_nil, List.filter_cons, List.filter_nil]
  split
  · rfl
  · simp
theorem resLK_len (c d : List Int) (v : Int) (k : Nat) : (resLK c d v k).length ≤ k := by
  have := List.length_filter_le (fun l => decide (¬ l / 2 = v) && (decide (l ∈ c) || decide (l ∈ d))) ((List.range k).map fun k : Nat => (k : Int))
  rw [List.length_map, List.length_range] at this
  exact this
end Go.Vc
namespace Go.Proofs.YtfadcafacpaldaaGreatDoor
open Go.Vc
theorem ok_spec_l04Resolve {va vb : Value} {w : World} {c d : List Int} (hs : SlI w va c) (hd : SlI w vb d) (v : Nat) (hv : v < 6) :
    Cal Tryz.prog f_spec_l04Resolve #[va, vb, .int .i64 (v : Int)] w fun r w' => Ext w w' ∧ ∃ u, r = .tuple #[u, .bool (resC c d v).isSome] ∧ ∀ x, resC c d v = some x → Ow w.heap.size t_i64 w' u (ints x) := by
  apply c_spec_l04Resolve; unfold S_spec_l04Resolve
  refine iJnB (!(decide (2 * (v : Int) ∈ c) && decide (2 * (v : Int) + 1 ∈ d))) w (fun J hJ => ?_) (fun w2 h2 => ?_)
  · refine iMul (by omega) ?_
    refine iRet (ok_spec_l01HasI hs _) fun w3 h3 => ?_
    refine iNot ?_
    cases h : decide (2 * (v : Int) ∈ c)
    · refine iCndT rfl ?_
      have := hJ w3 h3
      rwa [h] at this
    · refine iCndF rfl ?_
      refine iMul (by omega) ?_
      refine iAdd (by omega) ?_
      refine iRet (ok_spec_l01HasI (hd.ext h3) _) fun w4 h4 => ?_
      refine iNot ?_
      have := hJ w4 (h3.trans h4)
      rwa [h, Bool.true_and] at this
  intro _
  simp only [gx]
  cases hc : decide (2 * (v : Int) ∈ c) && decide (2 * (v : Int) + 1 ∈ d)
  · refine iCndT rfl ?_
    have hn : resC c d v = none := by
      unfold resC
      rw [if_neg]
      rintro ⟨a, b, _⟩
      rw [decide_eq_true a, decide_eq_true b] at hc
      cases hc
    rw [hn]
    exact ⟨h2, _, rfl, fun x h => by cases h⟩
  rw [Bool.and_eq_true, decide_eq_true_eq, decide_eq_true_eq] at hc
  refine iCndF rfl ?_
  refine iBs0 fun u0 w3 _ h3 hu0 => ?_
  have h23 := h2.trans h3
  refine iLp (fun s : Nat × Value => [s.2, .int .i64 (s.1 : Int)]) (fun s w' => s.1 ≤ 12 ∧ Ext w w' ∧ Ow w.heap.size t_i64 w' s.2 (ints (resLK c d v s.1))) (fun s => 12 - s.1) (0, u0) rfl ⟨Nat.zero_le _, h23, hu0.mono h2.size⟩ ?_
  rintro ⟨k, u⟩ w4 Kn ⟨hk, h4, ho⟩ hKn
  have hk : k ≤ 12 := hk
  have h4 : Ext w w4 := h4
  have ho : Ow w.heap.size t_i64 w4 u (ints (resLK c d v k)) := ho
  have hs4 := hs.ext h4
  have hd4 := hd.ext h4
  intro _
  simp only [gx]
  refine iLt ?_
  refine iCndP (fun h5 => ?_) (fun h5 => ?_)
  · have hk1 : k < 12 := by omega
    have hsu := resLK_succ c d v k
    have hll := resLK_len c d v k
    refine iJnB (decide (¬ (k : Int) / 2 = v) && (decide ((k : Int) ∈ c) || decide ((k : Int) ∈ d))) w4 (fun J hJ => ?_) (fun w6 h6 => ?_)
    · refine iQuo (by omega) ?_
      refine iNe ?_
      refine iCndP (fun h => ?_) (fun h => ?_)
      · rw [decide_eq_true h, Bool.true_and] at hJ
        refine iRet (ok_spec_l01HasI hs4 _) fun w7 h7 => ?_
        refine iCnd (fun h8 => ?_) (fun h8 => ?_)
        · rw [h8, Bool.true_or] at hJ
          exact hJ w7 h7
        · rw [h8, Bool.false_or] at hJ
          refine iRet (ok_spec_l01HasI (hd4.ext h7) _) fun w8 h8 => ?_
          exact hJ w8 (h7.trans h8)
      · rw [decide_eq_false h, Bool.false_and] at hJ
        exact hJ w4 (Ext.refl _)
    intro _
    simp only [gx]
    have ho6 := ho.ext h6
    have h46 := h4.trans h6
    refine iCnd (fun h => ?_) (fun h => ?_)
    · rw [if_pos h] at hsu
      refine iApp1 u_Si64 i_Si64 rfl ho6 rfl (by rw [ints_length]; omega) (by rw [ints_length]; omega) h46.size fun v' w8 ho' hg => ?_
      refine iAdd (by omega) ?_
      refine hKn (k + 1, v') _ ⟨by show k + 1 ≤ 12; omega, h46.grown hg (fun b hb => (ho6.blk b hb).1), ?_⟩ (by show 12 - (k + 1) < 12 - k; omega)
      show Ow _ _ _ v' (ints (resLK c d v (k + 1)))
      rw [hsu]
      simpa [ints] using ho'
    · rw [if_neg (by rw [h]; decide)] at hsu
      refine iAdd (by omega) ?_
      refine hKn (k + 1, u) _ ⟨by show k + 1 ≤ 12; omega, h46, ?_⟩ (by show 12 - (k + 1) < 12 - k; omega)
      show Ow _ _ _ u (ints (resLK c d v (k + 1)))
      rw [hsu]
      exact ho6
  · obtain rfl : k = 12 := by omega
    have ho : Ow w.heap.size t_i64 w4 u (ints (resL c d v)) := ho
    refine iRet (ok_spec_IsClause ho.sl) fun w5 h5 => ?_
    refine ⟨h4.trans h5, u, ?_, fun x hx => ?_⟩
    · unfold resC
      by_cases hok : ClOk (resL c d v)
      · rw [if_pos ⟨hc.1, hc.2, hok⟩, decide_eq_true hok]; rfl
      · rw [if_neg fun h => hok h.2.2, decide_eq_false hok]; rfl
    · unfold resC at hx
      split at hx
      · cases hx; exact ho.ext h5
      · cases hx
/-- Rows that can be read. -/
def RdRows (w : World) (v : Value) (P : List VL) : Prop := Sl w v (P.map Prod.fst) ∧ ∀ p ∈ P, SlI w p.1 p.2
theorem RdRows.ext {w w' : World} {v : Value} {P : List VL} (h : RdRows w v P) (x : Ext w w') : RdRows w' v P := ⟨h.1.ext x, fun p hp => (h.2 p hp).ext x⟩
theorem ok_spec_l04All {v : Value} {w : World} {P : List VL} (hs : RdRows w v P) : Ret Tryz.prog f_spec_l04All #[v] w (.bool (decide (∀ p ∈ P, ClOk p.2))) := by
  have hl := hs.1.len
  rw [List.length_map] at hl
  apply c_spec_l04All; unfold S_spec_l04All
  refine iLp (fun k : Nat => [.int .i64 (k : Int)]) (fun k w' => k ≤ P.length ∧ Ext w w' ∧ ∀ i, i < k → ClOk (gt P i).2) (fun k => P.length - k) 0 rfl ⟨Nat.zero_le _, Ext.refl _, fun i hi => by omega⟩ ?_
  rintro k w2 Kn ⟨hk, h2, hall⟩ hKn
  have hs2 := hs.ext h2
  intro _
  simp only [gx]
  refine iLenS hs2.1 ?_
  rw [List.length_map]
  refine iLt ?_
  refine iCndP (fun h3 => ?_) (fun h3 => ?_)
  · have hk1 : k < P.length := by omega
    have hm : gt P k ∈ P := by rw [gt_eq hk1]; exact List.getElem_mem hk1
    refine iIaV hs2.1 (by rw [List.length_map]; exact hk1) fun p hp => ?_
    refine iLd hp ?_
    rw [List.getElem_map, ← gt_eq hk1]
    refine iRet (ok_spec_IsClause (hs2.2 _ hm)) fun w3 h4 => ?_
    refine iNot ?_
    cases hc : decide (ClOk (gt P k).2)
    · refine iCndT rfl ?_
      rw [decide_eq_false fun h => of_decide_eq_false hc (h _ hm)]
      exact ⟨rfl, h2.trans h4⟩
    · refine iCndF rfl ?_
      refine iAdd (by omega) ?_
      refine hKn (k + 1) _ ⟨by omega, h2.trans h4, fun i hi => ?_⟩ (by omega)
      by_cases hik : i = k
      · subst hik; exact of_decide_eq_true hc
      · exact hall i (by omega)
  · rw [decide_eq_true fun p hp => ?_]
    · exact ⟨rfl, h2⟩
    · obtain ⟨i, hi, rfl⟩ := List.getElem_of_mem hp
      rw [← gt_eq hi]; exact hall i (by omega)
end Go.Proofs.YtfadcafacpaldaaGreatDoor

/- Contracts: rows of rows measured, and copied. Conditions: none. -/
namespace Go.Proofs.YtfadcafacpaldaaGreatDoor
open Go.Vc
theorem ok_impl_copyLists {v : Value} {w : World} {P : List VL} (hs : RdRows w v P) (hlen : P.length ≤ 1048576) (hPl : ∀ p ∈ P, p.2.length ≤ 1048576) :
    Cal Tryz.prog f_impl_copyLists #[v] w fun r w' => Ext w w' ∧ ∃ Q : List VL, Ow w.heap.size t_Si64 w' r (Q.map Prod.fst) ∧ OwP w.heap.size t_i64 w' Q ∧ Q.map Prod.snd = P.map Prod.snd := by
  apply c_impl_copyLists; unfold S_impl_copyLists
  refine iLenS hs.1 ?_
  rw [List.length_map]
  refine iMk (by omega) (by omega) rfl fun b w1 hb h1 hB => ?_
  have ho1 : Ow w.heap.size t_Si64 w1 (.slice (some ⟨b, 0, none⟩) P.length P.length) (([] : List VL).map Prod.fst ++ List.replicate P.length (.slice none 0 0)) := Ow.ofBlk hB (by omega) (by simp) (by omega)
  try refine iLenS hs.1 ?_
  try rw [List.length_map]
  refine iLp (fun k : Nat => [.int .i64 (k : Int)]) (fun k w' => k ≤ P.length ∧ Ext w w' ∧ ∃ Q : List VL, Q.length = k ∧ Ow w.heap.size t_Si64 w' (.slice (some ⟨b, 0, none⟩) P.length P.length) (Q.map Prod.fst ++ List.replicate (P.length - k) (.slice none 0 0)) ∧ OwP w.heap.size t_i64 w' Q ∧ Q.map Prod.snd = (P.map Prod.snd).take k) (fun k => P.length - k) 0 rfl ⟨Nat.zero_le _, h1, [], rfl, ho1, ⟨fun p hp => (by cases hp), List.Pairwise.nil⟩, rfl⟩ ?_
  rintro k w2 Kn ⟨hk, h2, Q, hQl, ho, hQ, hQs⟩ hKn
  have hs2 := hs.ext h2
  intro _
  simp only [gx]
  try refine iLenS hs2.1 ?_
  try rw [List.length_map]
  refine iLt ?_
  refine iCndP (fun h3 => ?_) (fun h3 => ?_)
  · have hk1 : k < P.length := by omega
    have hm : gt P k ∈ P := by rw [gt_eq hk1]; exact List.getElem_mem hk1
    refine iIaV hs2.1 (by rw [List.length_map]; exact hk1) fun p hp => ?_
    refine iLd hp ?_
    rw [List.getElem_map, ← gt_eq hk1]
    refine iCall ((ok_slices_Clone_Si64_i64 (hs2.2 _ hm) (by have := hPl _ hm; omega)).mono ?_)
    rintro nr w3 ⟨h4, hnr⟩
    have ho3 := ho.ext h4
    have hQ3 := hQ.ext h4
    have hX := h2.trans h4
    have hll : (Q.map Prod.fst ++ List.replicate (P.length - k) (Value.slice none 0 0)).length = P.length := by simp [hQl]; omega
    refine iIaOwE ho3 (by rw [hll]; exact hk1) fun bv hbv hwr => ?_
    obtain ⟨hc1, hc2, hc3⟩ := hwr w3 _ rfl ho3
    rw [List.getElem?_eq_getElem (by rw [hll]; exact hk1)] at hc1
    refine iSt hc1 hc2 hnr.cell ?_
    have ho4 := hc3 nr
    have hu := Upd.setCell w3 bv k nr
    have hX4 := hX.upd hu (ho3.blk bv hbv).1
    have hQ4 := hQ3.upd hu fun q hq e => (hQ3.1 q hq).ne_ow ho3 (by decide) e hbv
    have hnr4 := hnr.upd hu fun e => hnr.ne_ow ho3 (by decide) e hbv
    have hnew : ∀ q ∈ Q, ∀ c, q.1.ownBlock = some c → nr.ownBlock ≠ some c := fun q hq c hc hc' => by have := ((hQ.1 q hq).blk c hc).2; have := (hnr.blk c hc').1; omega
    have hset : (Q.map Prod.fst ++ List.replicate (P.length - k) (Value.slice none 0 0)).set k nr = (Q ++ [(nr, (gt P k).2)]).map Prod.fst ++ List.replicate (P.length - (k + 1)) (Value.slice none 0 0) := by
      have e1 : P.length - k = (P.length - (k + 1)) + 1 := by omega
      rw [List.set_append_right _ _ (by simp [hQl]), e1, List.replicate_succ]
      simp [hQl]
    rw [hset] at ho4
    refine iAdd (by omega) ?_
    refine hKn (k + 1) _ ⟨by omega, hX4, Q ++ [(nr, (gt P k).2)], by simp [hQl], ho4, ⟨fun q hq => ?_, List.pairwise_append.2 ⟨hQ4.2, List.pairwise_singleton _ _, fun q hq q' hq' c hc hc' => ?_⟩⟩, ?_⟩ (by omega)
    · rcases List.mem_append.1 hq with hq | hq
      · exact hQ4.1 q hq
      · simp at hq; subst hq
        exact hnr4.mono (by have := h2.size; omega)
    · simp at hq'; subst hq'
      exact hnew q hq c hc hc'
    · rw [List.map_append, hQs, List.take_succ_eq_append_getElem (by simpa using hk1), List.getElem_map, ← gt_eq hk1]; rfl
  · obtain rfl : k = P.length := by omega
    rw [Nat.sub_self, List.replicate_zero, List.append_nil] at ho
    rw [List.take_of_length_le (by simp)] at hQs
    exact ⟨h2, Q, ho, hQ, hQs⟩
end Go.Proofs.YtfadcafacpaldaaGreatDoor

/- Contracts: short rows of int64 in order (insertion sort, slices.Sort up to twelve); clauses of a row of rows. Conditions: none. -/
namespace Go.Vc
def encI (x : Int) : Value := .int .i64 x
def ltI (a b : Int) : Bool := decide (a < b)
theorem ordrI : Ordr ltI := ⟨fun {a b} h => by unfold ltI at *; simp at h ⊢; omega, fun {a b c} h k => by unfold ltI at *; simp at h k ⊢; omega⟩
end Go.Vc
namespace Go.Proofs.YtfadcafacpaldaaGreatDoor
open Go.Vc
theorem ok_cmp_Less_i64 (a b : Int) (w : World) : Ret Tryz.prog f_cmp_Less_i64 #[encI a, encI b] w (.bool (ltI a b)) := by
  apply c_cmp_Less_i64; unfold S_cmp_Less_i64
  refine iJnB (ltI a b) w (fun J hJ => ?_) (fun w4 h4 => ?_)
  · refine iRet (ok_cmp_isNaN_i64 a w) fun w3 h3 => ?_
    refine iCndF rfl ?_
    refine iLt ?_
    exact hJ w3 h3
  · intro _
    simp only [gx]
    exact ⟨by first | trivial | rfl, h4⟩
theorem ok_slices_insertionSortOrdered_i64 {lo : Nat} {w : World} {v : Value} {L : List Int} {a b : Nat} (hs : Ow lo t_i64 w v (L.map encI)) (hab : a ≤ b) (hb : b ≤ L.length) (hL : L.length ≤ 1152921504606846976) :
    Cal Tryz.prog f_slices_insertionSortOrdered_i64 #[v, .int .i64 (a : Int), .int .i64 (b : Int)] w fun _ w' => ∃ L', Turn lo t_i64 encI v w w' L' ∧ SwR a b L L' ∧ Srt ltI a b L' := by
  apply c_slices_insertionSortOrdered_i64; unfold S_slices_insertionSortOrdered_i64
  (refine iAdd (by omega) ?_)
  refine iLp (fun i : Nat => [.int .i64 (i : Int)]) (fun i w' => a + 1 ≤ i ∧ i ≤ b + 1 ∧ ∃ L', Turn lo t_i64 encI v w w' L' ∧ SwR a b L L' ∧ Srt ltI a i L') (fun i => b + 1 - i) (a + 1) (by simp) ⟨Nat.le_refl _, by omega, L, Turn.refl hs, .refl, Srt.short (Nat.le_refl _)⟩ ?_
  rintro i w2 Kn ⟨hi, hib, L1, ht1, hw1, hs1⟩ hKn
  intro _
  simp only [gx]
  refine iLt ?_
  refine iCndP (fun h => ?_) (fun h => ?_)
  · have hl1 := hw1.len
    refine iLp (fun j : Nat => [.int .i64 (j : Int)]) (fun j w' => a ≤ j ∧ j ≤ i ∧ ∃ L', Turn lo t_i64 encI v w w' L' ∧ SwR a b L L' ∧ Ins ltI a i j L') (fun j => j) i rfl ⟨by omega, Nat.le_refl _, L1, ht1, hw1, Ins.init hs1⟩ ?_
    rintro j w4 Kn2 ⟨haj, hji, L2, ht2, hw2, hin⟩ hKn2
    have hl2 := hw2.len
    intro _
    simp only [gx]
    refine iJnB (decide (a < j) && ltI (gt L2 j) (gt L2 (j - 1))) w4 (fun J hJ => ?_) (fun w6 h6 => ?_)
    · refine iLt ?_
      refine iCndP (fun h5 => ?_) (fun h5 => ?_)
      · rw [decide_eq_true (show a < j by omega), Bool.true_and] at hJ
        refine iRdO (j := j) ht2.ow rfl (by omega) ?_
        (refine iSub (by omega) ?_)
        refine iRdO (j := j - 1) ht2.ow (by omega) (by omega) ?_
        exact iRetQ (fun w' _ => ok_cmp_Less_i64 _ _ w') hJ
      · rw [decide_eq_false (show ¬ a < j by omega), Bool.false_and] at hJ
        exact hJ
    · intro _
      simp only [gx]
      have ht6 := ht2.ext h6
      cases hc : decide (a < j) && ltI (gt L2 j) (gt L2 (j - 1))
      · refine iCndF rfl ?_
        (refine iAdd (by omega) ?_)
        refine hKn (i + 1) _ ⟨by omega, by omega, L2, ht6, hw2, hin.done ordrI ?_ hji⟩ (by omega)
        rw [Bool.and_eq_false_iff, decide_eq_false_iff_not] at hc
        rcases hc with hc | hc
        · exact .inl (by omega)
        · rcases Nat.lt_or_ge a j with h' | h'
          · exact .inr ⟨h', hc⟩
          · exact .inl h'
      · rw [Bool.and_eq_true, decide_eq_true_eq] at hc
        refine iCndT rfl ?_
        (refine iSub (by omega) ?_; refine iSub (by omega) ?_)
        refine iRdO (j := j - 1) ht6.ow (by omega) (by omega) ?_
        refine iRdO (j := j) ht6.ow rfl (by omega) ?_
        refine iWr2 (i := j) (j := j - 1) (fun _ => rfl) ht6.ow rfl (by omega) (by omega) (by omega) fun w13 h13 => ?_
        (refine iSub (by omega) ?_)
        rw [show (j : Int) - 1 = ((j - 1 : Nat) : Int) by omega]
        exact hKn2 (j - 1) _ ⟨by omega, by omega, sw L2 j (j - 1), ht6.trans h13, .step hw2 (by omega) (by omega) (by omega) (by omega) hb, hin.swap ordrI hc.1 hji (by omega) hc.2⟩ (by omega)
  · exact ⟨L1, ht1, hw1, hs1.mono (Nat.le_refl _) (by omega)⟩
theorem ok_slices_SortI {lo : Nat} {w : World} {v : Value} {L : List Int} (hs : Ow lo t_i64 w v (L.map encI)) (hL : L.length ≤ 12) :
    Cal Tryz.prog f_slices_Sort_Si64_i64 #[v] w fun _ w' => ∃ L', Turn lo t_i64 encI v w w' L' ∧ List.Perm L' L ∧ L'.Pairwise fun x y => ltI y x = false := by
  apply c_slices_Sort_Si64_i64; unfold S_slices_Sort_Si64_i64
  refine iLenS hs.sl ?_
  rw [List.length_map]
  refine iConvU (by omega) ?_
  refine iCall ((ok_math_bits_Len (n := L.length) (by omega) w).mono ?_)
  rintro _ w1 ⟨x1, k, rfl, _, _, _⟩
  have hsort : Cal Tryz.prog f_slices_pdqsortOrdered_i64 #[v, .int .i64 0, .int .i64 (L.length : Int), .int .i64 (k : Int)] w1 fun _ w' => ∃ L', Turn lo t_i64 encI v w1 w' L' ∧ SwR 0 L.length L L' ∧ Srt ltI 0 L.length L' := by
    apply c_slices_pdqsortOrdered_i64; unfold S_slices_pdqsortOrdered_i64
    refine iLp (fun _ : Unit => [.int .i64 0, .int .i64 (L.length : Int), .int .i64 (k : Int), .bool true, .bool true]) (fun _ w' => w' = w1) (fun _ => 0) () rfl rfl ?_
    rintro _ w2 Kn rfl _
    intro _
    simp only [gx]
    refine iSub (by omega) ?_
    refine iLe (iCndT (by simp; omega) ?_)
    exact iCall ((ok_slices_insertionSortOrdered_i64 (a := 0) (hs.ext x1) (Nat.zero_le _) (Nat.le_refl _) (by omega)).mono fun _ w' h => h)
  refine iCall (hsort.mono ?_)
  rintro _ w2 ⟨L', ht, hw, hst⟩
  refine ⟨L', ⟨ht.ow, (x1.ch (S := fun c => v.ownBlock = some c)).trans ht.ch fun _ e => .inl e⟩, hw.perm, ?_⟩
  have hl := hw.len
  rw [← hl] at hst
  exact hst.pairwise
theorem ok_impl_areClauses {v : Value} {w : World} {P : List VL} (hs : RdRows w v P) : Ret Tryz.prog f_impl_areClauses #[v] w (.bool (decide (∀ p ∈ P, ClOk p.2))) := by
  have hl := hs.1.len
  rw [List.length_map] at hl
  have hone : ∀ {w' : World} {u : Value} {c : List Int}, SlI w' u c → Ret Tryz.prog f_impl_areClauses_1 #[u] w' (.bool (!decide (ClOk c))) := fun {w' u c} hu => by
    apply c_impl_areClauses_1; unfold S_impl_areClauses_1
    refine iRet (ok_impl_isClause hu) fun w1 h1 => ?_
    exact iNot ⟨rfl, h1⟩
  have hidx : Cal Tryz.prog f_slices_IndexFunc_SSi64_Si64 #[v, .func (.func f_impl_areClauses_1) #[] #[]] w fun r w' => Ext w w' ∧ ∃ z : Int, r = .int .i64 z ∧ (0 ≤ z ↔ ¬ ∀ p ∈ P, ClOk p.2) := by
    apply c_slices_IndexFunc_SSi64_Si64; unfold S_slices_IndexFunc_SSi64_Si64
    refine iLenS hs.1 ?_
    rw [List.length_map]
    refine iLp (fun k : Nat => [.int .i64 (k : Int)]) (fun k w' => k ≤ P.length ∧ Ext w w' ∧ ∀ i, i < k → ClOk (gt P i).2) (fun k => P.length - k) 0 rfl ⟨Nat.zero_le _, Ext.refl _, fun i hi => by omega⟩ ?_
    rintro k w2 Kn ⟨hk, h2, hall⟩ hKn
    have hs2 := hs.ext h2
    intro _
    simp only [gx]
    refine iLt ?_
    refine iCndP (fun h3 => ?_) (fun h3 => ?_)
    · have hk1 : k < P.length := by omega
      have hm : gt P k ∈ P := by rw [gt_eq hk1]; exact List.getElem_mem hk1
      refine iIaV hs2.1 (by rw [List.length_map]; exact hk1) fun p hp => ?_
      refine iLd hp ?_
      rw [List.getElem_map, ← gt_eq hk1]
      refine iRet (hone (hs2.2 _ hm)) fun w3 h4 => ?_
      cases hc : decide (ClOk (gt P k).2)
      · refine iCndT rfl ⟨h2.trans h4, (k : Int), rfl, fun _ h => of_decide_eq_false hc (h _ hm), fun _ => by omega⟩
      · refine iCndF rfl ?_
        refine iAdd (by omega) ?_
        refine hKn (k + 1) _ ⟨by omega, h2.trans h4, fun i hi => ?_⟩ (by omega)
        by_cases hik : i = k
        · subst hik; exact of_decide_eq_true hc
        · exact hall i (by omega)
    · refine ⟨h2, -1, rfl, fun h => by omega, fun h => absurd (fun p hp => ?_) h⟩
      obtain ⟨i, hi, rfl⟩ := List.getElem_of_mem hp
      rw [← gt_eq hi]; exact hall i (by omega)
  apply c_impl_areClauses; unfold S_impl_areClauses
  have hcon : Ret Tryz.prog f_slices_ContainsFunc_SSi64_Si64 #[v, .func (.func f_impl_areClauses_1) #[] #[]] w (.bool (!decide (∀ p ∈ P, ClOk p.2))) := by
    apply c_slices_ContainsFunc_SSi64_Si64; unfold S_slices_ContainsFunc_SSi64_Si64
    refine iCall (hidx.mono ?_)
    rintro _ w1 ⟨h1, z, rfl, hz⟩
    refine iLe ?_
    refine ⟨congrArg Value.bool ?_, h1⟩
    rw [← decide_not]
    exact decide_eq_decide.2 hz
  refine iRet hcon fun w1 h1 => ?_
  refine iNot ?_
  rw [Bool.not_not]
  exact ⟨rfl, h1⟩
end Go.Proofs.YtfadcafacpaldaaGreatDoor

/- Plain maths of formulas and of the grammar of their texts. Conditions: none; no program in sight. -/
namespace Go.Vc
/-- A formula. -/
inductive Fm : Type
  | var (v : Nat) : Fm
  | fls : Fm
  | and (a b : Fm) : Fm
  | or (a b : Fm) : Fm
  | imp (a b : Fm) : Fm
  | box (a : Fm) : Fm
  | dia (a : Fm) : Fm
abbrev nd (k s : Nat) : List Value := [.int .i64 (k : Int), .int .i64 (s : Int)]
def Fm.cells : Fm → List Value
  | .var v => nd 0 v
  | .fls => nd 1 0
  | .and a b => nd 2 0 ++ a.cells ++ b.cells
  | .or a b => nd 3 0 ++ a.cells ++ b.cells
  | .imp a b => nd 4 0 ++ a.cells ++ b.cells
  | .box a => nd 5 0 ++ a.cells
  | .dia a => nd 6 0 ++ a.cells
def Fm.size : Fm → Nat
  | .var _ => 1
  | .fls => 1
  | .and a b => 1 + a.size + b.size
  | .or a b => 1 + a.size + b.size
  | .imp a b => 1 + a.size + b.size
  | .box a => 1 + a.size
  | .dia a => 1 + a.size
theorem Fm.size_pos (a : Fm) : 1 ≤ a.size := by cases a <;> simp only [Fm.size] <;> omega
theorem Fm.cells_len : ∀ a : Fm, a.cells.length = a.size * 2
  | .var _ => rfl
  | .fls => rfl
  | .and a b => by have := a.cells_len; have := b.cells_len; simp only [Fm.cells, Fm.size, nd, List.length_append, List.length_cons, List.length_nil]; omega
  | .or a b => by have := a.cells_len; have := b.cells_len; simp only [Fm.cells, Fm.size, nd, List.length_append, List.length_cons, List.length_nil]; omega
  | .imp a b => by have := a.cells_len; have := b.cells_len; simp only [Fm.cells, Fm.size, nd, List.length_append, List.length_cons, List.length_nil]; omega
  | .box a => by have := a.cells_len; simp only [Fm.cells, Fm.size, nd, List.length_append, List.length_cons, List.length_nil]; omega
  | .dia a => by have := a.cells_len; simp only [Fm.cells, Fm.size, nd, List.length_append, List.length_cons, List.length_nil]; omega
theorem Fm.cells_cell : ∀ (a : Fm), ∀ u ∈ a.cells, isCell u = true
  | .var _ => by simp [Fm.cells, nd, isCell]
  | .fls => by simp [Fm.cells, nd, isCell]
  | .and a b => by have h1 := a.cells_cell; have h2 := b.cells_cell; intro u hu; simp only [Fm.cells, nd, List.mem_append, List.mem_cons, List.not_mem_nil, or_false] at hu; rcases hu with ((rfl | rfl) | h) | h <;> first | rfl | exact h1 _ h | exact h2 _ h
  | .or a b => by have h1 := a.cells_cell; have h2 := b.cells_cell; intro u hu; simp only [Fm.cells, nd, List.mem_append, List.mem_cons, List.not_mem_nil, or_false] at hu; rcases hu with ((rfl | rfl) | h) | h <;> first | rfl | exact h1 _ h | exact h2 _ h
  | .imp a b => by have h1 := a.cells_cell; have h2 := b.cells_cell; intro u hu; simp only [Fm.cells, nd, List.mem_append, List.mem_cons, List.not_mem_nil, or_false] at hu; rcases hu with ((rfl | rfl) | h) | h <;> first | rfl | exact h1 _ h | exact h2 _ h
  | .box a => by have h1 := a.cells_cell; intro u hu; simp only [Fm.cells, nd, List.mem_append, List.mem_cons, List.not_mem_nil, or_false] at hu; rcases hu with (rfl | rfl) | h <;> first | rfl | exact h1 _ h
  | .dia a => by have h1 := a.cells_cell; intro u hu; simp only [Fm.cells, nd, List.mem_append, List.mem_cons, List.not_mem_nil, or_false] at hu; rcases hu with (rfl | rfl) | h <;> first | rfl | exact h1 _ h

/-! ### The reader -/
end Go.Vc

/- Contracts: slices.Concat and slices.Grow; formulas as lists of nodes. Conditions: none. -/
namespace Go.Vc
section
variable {P : Program} {w : World}
/-- 'append(nil, make([]T, n)...)'. -/
theorem iAppZ {k n bytes : Nat} {t ti ty e : TypeId} {z : Value} {K : Value → World → Prop} (ht : P.underlying t = some (.slice e)) (hti : P.underlying ti = some (.int .i64)) (hi : (P.info? e).map (fun i => (i.zero, i.size, i.bytes)) = some (some z, k, bytes)) (hz : z.cells.size = k)
    (h0 : 0 < n) (hb : n * bytes ≤ 140737488355328) (hm : n ≤ 9223372036854775807)
    (h : ∀ b c w' cs, n ≤ c → c ≤ 9223372036854775807 → cs.length = c * k → Ext w w' → b = w.heap.size → Blk e w' b cs → K (.slice (some ⟨b, 0, none⟩) n c) w') : xOp P (Builtin.append_ #[t, ti] ty #[.slice none 0 0, .int .i64 (n : Int)]) w K := by
  obtain ⟨i, hi', h3⟩ := Option.map_eq_some_iff.1 hi
  clear hi
  simp only [Prod.mk.injEq] at h3
  obtain ⟨hz0, hsz, hby⟩ := h3
  subst hsz
  subst hby
  have hn : n ≠ 0 := by omega
  have hw : IntKind.i64.wrap (n : Int) = (n : Int) := IntWalk.i64_in _ (by omega)
  have h63' : ¬ (9223372036854775807 < (n : Int)) := by omega
  have h48 : ¬ ((281474976710656 : Int) < (n : Int) * (i.bytes : Int)) := by
    have : (n : Int) * (i.bytes : Int) = ((n * i.bytes : Nat) : Int) := by simp
    rw [this]; omega
  have h48' : ¬ (281474976710656 < Builtin.nextslicecap n 0 * i.bytes) := by rw [nextslicecap_zero h0]; omega
  have hneg : ¬ ((n : Int) < 0) := by omega
  have hge := grownCap_ge w n 0 e
  have hcm := grownCap_le_maxLen w n 0 e (by simpa [maxLen] using hm)
  have hrun : (Builtin.append_ #[t, ti] ty #[.slice none 0 0, .int .i64 (n : Int)]).run P w =
      .ok (.slice (some ⟨w.heap.size, 0, none⟩) n (grownCap w n 0 e)) (w.drew.alloc (.cells ((if n * i.size = 0 then #[] else Builtin.zeroCells z.cells n) ++ Builtin.zeroCells z.cells (grownCap w n 0 e - n)) e)) := by
    by_cases hk : n * i.size = 0
    · simp [Builtin.append_, run_underlying ht, run_underlying hti, sizeOf, typeInfo, zeroValue, hi', hz0, asInt, asIntOf, hw, hneg, hn, h63', h48, h48', hk, Question.forced, run_firstCells_none, newRow, grownCap]
    · simp [Builtin.append_, run_underlying ht, run_underlying hti, sizeOf, typeInfo, zeroValue, hi', hz0, asInt, asIntOf, hw, hneg, hn, h63', h48, h48', hk, Question.forced, run_firstCells_none, newRow, grownCap]
  refine ⟨_, _, hrun, ?_⟩
  have hB := Blk.new w.drew ((if n * i.size = 0 then #[] else Builtin.zeroCells z.cells n) ++ Builtin.zeroCells z.cells (grownCap w n 0 e - n)) e
  refine h _ _ _ _ hge (by simpa [maxLen] using hcm) ?_ ((Ext.drew w).trans (Ext.alloc _ _)) rfl hB
  rw [Array.length_toList, Array.size_append, size_zeroCells, hz]
  by_cases hk : n * i.size = 0
  · rw [if_pos hk]
    have : i.size = 0 := by
      rcases Nat.mul_eq_zero.1 hk with h | h
      · omega
      · exact h
    rw [this]; simp
  · rw [if_neg hk, size_zeroCells, hz, ← Nat.add_mul]
    congr 1; omega
theorem iCapL {t ty : TypeId} {e : TypeId} {a : Option Addr} {n c : Nat} {K : Value → Prop} (ht : P.underlying t = some (.slice e)) (h : K (.int .i64 (c : Int))) : xR P w (Builtin.cap_ #[t] ty #[.slice a n c]) K :=
  ⟨_, fun w' _ => by simp [Builtin.cap_, run_underlying ht, goInt], h⟩
theorem sum_take_succ (l : List Nat) {i : Nat} (h : i < l.length) : (l.take (i + 1)).sum = (l.take i).sum + l[i] := by
  rw [List.take_succ_eq_append_getElem h, List.sum_append]; simp
theorem sum_take_le (l : List Nat) (i : Nat) : (l.take i).sum ≤ l.sum := by
  have := congrArg List.sum (List.take_append_drop i l)
  rw [List.sum_append] at this; omega
end
end Go.Vc
namespace Go.Proofs.YtfadcafacpaldaaGreatDoor
open Go.Vc
abbrev kk_Simpl_Node_impl_Node : Nat := 2
abbrev ts_Simpl_Node_impl_Node := t_Simpl_Node
abbrev te_Simpl_Node_impl_Node := t_impl_Node
theorem uu_Simpl_Node_impl_Node : Tryz.prog.underlying ts_Simpl_Node_impl_Node = some (.slice te_Simpl_Node_impl_Node) := u_Simpl_Node
theorem ii_Simpl_Node_impl_Node : (Tryz.prog.info? te_Simpl_Node_impl_Node).map (fun i => (i.zero, i.size, i.bytes)) = some (some (.agg #[.int .i64 0, .int .i64 0]), kk_Simpl_Node_impl_Node, 16) := i_Simpl_Node
abbrev kk_Si64_i64 : Nat := 1
abbrev ts_Si64_i64 := t_Si64
abbrev te_Si64_i64 := t_i64
theorem uu_Si64_i64 : Tryz.prog.underlying ts_Si64_i64 = some (.slice te_Si64_i64) := u_Si64
theorem ii_Si64_i64 : (Tryz.prog.info? te_Si64_i64).map (fun i => (i.zero, i.size, i.bytes)) = some (some (.int .i64 0), kk_Si64_i64, 8) := i_Si64
abbrev kk_SSi64_Si64 : Nat := 1
abbrev ts_SSi64_Si64 := t_SSi64
abbrev te_SSi64_Si64 := t_Si64
theorem uu_SSi64_Si64 : Tryz.prog.underlying ts_SSi64_Si64 = some (.slice te_SSi64_Si64) := u_SSi64
theorem ii_SSi64_Si64 : (Tryz.prog.info? te_SSi64_Si64).map (fun i => (i.zero, i.size, i.bytes)) = some (some (.slice none 0 0), kk_SSi64_Si64, 24) := i_SSi64
theorem ok_Grow_Simpl_Node_impl_Node (n : Nat) (hn : n ≤ 1099511627776) (w : World) : Cal Tryz.prog f_slices_Grow_Simpl_Node_impl_Node #[.slice none 0 0, .int .i64 (n : Int)] w fun r w' => Ext w w' ∧ OwK kk_Simpl_Node_impl_Node w.heap.size te_Simpl_Node_impl_Node w' r 0 [] := by
  apply c_slices_Grow_Simpl_Node_impl_Node; unfold S_slices_Grow_Simpl_Node_impl_Node
  ((with_reducible refine iLt ?_; refine iJn ?_))
  refine iCndP (fun h => by omega) (fun _ => ?_)
  intro _
  refine iCapL (e := te_Simpl_Node_impl_Node) uu_Simpl_Node_impl_Node ?_
  ((with_reducible refine iLenL ?_); refine iSub (by omega) ?_; refine iSub (by omega) ?_; (with_reducible refine iLt ?_))
  refine iCndP (fun h => ?_) (fun _ => ⟨Ext.refl w, OwK.nil _ _ _ _⟩)
  refine iCapL (e := te_Simpl_Node_impl_Node) uu_Simpl_Node_impl_Node ?_
  refine ⟨none, 0, 0, 0, 0, rfl, ⟨_, rfl⟩, rfl, Nat.le_refl _, Nat.le_refl _, ?_⟩
  have e1 : (n : Int) - (((0 : Nat) : Int) - ((0 : Nat) : Int)) = (n : Int) := by omega
  rw [e1]
  refine iAppZ (k := kk_Simpl_Node_impl_Node) uu_Simpl_Node_impl_Node (by kernel_rfl) ii_Simpl_Node_impl_Node rfl (by omega) (by omega) (by omega) fun b c w' cs hnc hcm hcl hX hb hB => ?_
  ((with_reducible refine iLenL ?_))
  refine ⟨some ⟨b, 0, none⟩, n, c, 0, 0, rfl, ⟨_, rfl⟩, rfl, Nat.le_refl _, Nat.zero_le _, ?_⟩
  rw [if_neg (by omega)]
  refine ⟨hX, ?_⟩
  have e2 : (some (⟨b, 0, none⟩ : Addr)).map (·.add (0 * kk_Simpl_Node_impl_Node)) = some ⟨b, 0, none⟩ := by simp [Addr.add]
  rw [e2]
  exact ⟨rfl, .inr ⟨b, c, cs.toArray, rfl, by omega, hB, Nat.zero_le _, hcm, by simpa using hcl, by simp⟩⟩
theorem ok_Concat_Simpl_Node_impl_Node {v : Value} {w : World} {vs : List Value} {ps : List (Nat × List Value)} (hs : Sl w v vs) (hl : vs.length = ps.length) (hp : ∀ (i : Nat) (h1 : i < vs.length) (h2 : i < ps.length), SlK kk_Simpl_Node_impl_Node w vs[i] ps[i].1 ps[i].2) (hc : ∀ p ∈ ps, ∀ u ∈ p.2, isCell u = true) (hb : (ps.map Prod.fst).sum ≤ 1099511627776) :
    Cal Tryz.prog f_slices_Concat_Simpl_Node_impl_Node #[v] w fun r w' => Ext w w' ∧ OwK kk_Simpl_Node_impl_Node w.heap.size te_Simpl_Node_impl_Node w' r (ps.map Prod.fst).sum (ps.flatMap Prod.snd) := by
  apply c_slices_Concat_Simpl_Node_impl_Node; unfold S_slices_Concat_Simpl_Node_impl_Node
  have hlen := hs.len
  have hpl : (ps.map Prod.fst).length = ps.length := List.length_map _
  refine iLenS hs ?_
  refine iLp (fun s : Nat × Nat => [.int .i64 (s.1 : Int), .int .i64 (s.2 : Int)]) (fun s w' => s.2 ≤ vs.length ∧ w' = w ∧ s.1 = ((ps.map Prod.fst).take s.2).sum) (fun s => vs.length - s.2) (0, 0) rfl ⟨Nat.zero_le _, rfl, rfl⟩ ?_
  rintro ⟨m, i⟩ w2 Kn ⟨hi, rfl, hm⟩ hKn
  have hi : i ≤ vs.length := hi
  have hm : m = ((ps.map Prod.fst).take i).sum := hm
  have hmle := sum_take_le (ps.map Prod.fst) i
  (intro _; (try simp only [gx]); (with_reducible refine iLt ?_))
  refine iCndP (fun h1 => ?_) (fun h1 => ?_)
  · have hi1 : i < vs.length := by omega
    have hsi := hp i hi1 (by omega)
    have hst := sum_take_succ (ps.map Prod.fst) (i := i) (by omega)
    rw [List.getElem_map] at hst
    have hmle1 := sum_take_le (ps.map Prod.fst) (i + 1)
    refine iIa hs (by omega) (by omega) fun p hpc => ?_
    rw [Int.toNat_natCast, List.getElem?_eq_getElem hi1] at hpc
    refine iLd hpc ?_
    refine iLenK hsi ?_
    (refine iAdd (by omega) ?_; (with_reducible refine iLt ?_))
    refine iCndP (fun h2 => by omega) (fun _ => ?_)
    (refine iAdd (by omega) ?_)
    have e1 : (m : Int) + ((ps[i].1 : Nat) : Int) = ((m + ps[i].1 : Nat) : Int) := by omega
    rw [e1]
    exact hKn (m + ps[i].1, i + 1) _ ⟨by show i + 1 ≤ _; omega, rfl, by show m + ps[i].1 = ((ps.map Prod.fst).take (i + 1)).sum; omega⟩ (by show vs.length - (i + 1) < vs.length - i; omega)
  · have e : i = vs.length := by omega
    have hm2 : m = (ps.map Prod.fst).sum := by rw [hm, List.take_of_length_le (by omega)]
    refine iCall ((ok_Grow_Simpl_Node_impl_Node m (by omega) w2).mono ?_)
    rintro r w4 ⟨h4, ho4⟩
    refine iLenS hs ?_
    refine iLp (fun s : Value × Nat => [s.1, .int .i64 (s.2 : Int)]) (fun s w' => s.2 ≤ vs.length ∧ Ext w2 w' ∧ OwK kk_Simpl_Node_impl_Node w2.heap.size te_Simpl_Node_impl_Node w' s.1 ((ps.map Prod.fst).take s.2).sum ((ps.take s.2).flatMap Prod.snd)) (fun s => vs.length - s.2) (r, 0) rfl ⟨Nat.zero_le _, h4, ho4⟩ ?_
    rintro ⟨z, j⟩ w6 Kn6 ⟨hj, h6, ho6⟩ hKn6
    have hj : j ≤ vs.length := hj
    have ho6 : OwK kk_Simpl_Node_impl_Node w2.heap.size te_Simpl_Node_impl_Node w6 z ((ps.map Prod.fst).take j).sum ((ps.take j).flatMap Prod.snd) := ho6
    (intro _; (try simp only [gx]); (with_reducible refine iLt ?_))
    refine iCndP (fun h7 => ?_) (fun h7 => ?_)
    · have hj1 : j < vs.length := by omega
      have hsj := (hp j hj1 (by omega)).ext h6
      have hst := sum_take_succ (ps.map Prod.fst) (i := j) (by omega)
      rw [List.getElem_map] at hst
      have hmle1 := sum_take_le (ps.map Prod.fst) (j + 1)
      have hs6 := hs.ext h6
      refine iIa hs6 (by omega) (by omega) fun p hpc => ?_
      rw [Int.toNat_natCast, List.getElem?_eq_getElem hj1] at hpc
      refine iLd hpc ?_
      refine iAppK uu_Simpl_Node_impl_Node ii_Simpl_Node_impl_Node rfl (by decide) ho6 hsj (hc _ (List.getElem_mem _)) (by omega) (by omega) h6.size fun v' w8 ho8 hg8 _ => ?_
      (refine iAdd (by omega) ?_)
      have ef : (ps.take (j + 1)).flatMap Prod.snd = (ps.take j).flatMap Prod.snd ++ ps[j].2 := by
        rw [List.take_succ_eq_append_getElem (by omega), List.flatMap_append]; simp
      rw [← hst, ← ef] at ho8
      exact hKn6 (v', j + 1) _ ⟨by show j + 1 ≤ _; omega, h6.grown hg8 (fun c hc => (ho6.blk c hc).1), ho8⟩ (by show vs.length - (j + 1) < vs.length - j; omega)
    · have e : j = vs.length := by omega
      rw [List.take_of_length_le (by omega), List.take_of_length_le (by omega)] at ho6
      exact ⟨h6, ho6⟩
theorem ok_Grow_Si64_i64 (n : Nat) (hn : n ≤ 1099511627776) (w : World) : Cal Tryz.prog f_slices_Grow_Si64_i64 #[.slice none 0 0, .int .i64 (n : Int)] w fun r w' => Ext w w' ∧ OwK kk_Si64_i64 w.heap.size te_Si64_i64 w' r 0 [] := by
  apply c_slices_Grow_Si64_i64; unfold S_slices_Grow_Si64_i64
  ((with_reducible refine iLt ?_; refine iJn ?_))
  refine iCndP (fun h => by omega) (fun _ => ?_)
  intro _
  refine iCapL (e := te_Si64_i64) uu_Si64_i64 ?_
  ((with_reducible refine iLenL ?_); refine iSub (by omega) ?_; refine iSub (by omega) ?_; (with_reducible refine iLt ?_))
  refine iCndP (fun h => ?_) (fun _ => ⟨Ext.refl w, OwK.nil _ _ _ _⟩)
  refine iCapL (e := te_Si64_i64) uu_Si64_i64 ?_
  refine ⟨none, 0, 0, 0, 0, rfl, ⟨_, rfl⟩, rfl, Nat.le_refl _, Nat.le_refl _, ?_⟩
  have e1 : (n : Int) - (((0 : Nat) : Int) - ((0 : Nat) : Int)) = (n : Int) := by omega
  rw [e1]
  refine iAppZ (k := kk_Si64_i64) uu_Si64_i64 (by kernel_rfl) ii_Si64_i64 rfl (by omega) (by omega) (by omega) fun b c w' cs hnc hcm hcl hX hb hB => ?_
  ((with_reducible refine iLenL ?_))
  refine ⟨some ⟨b, 0, none⟩, n, c, 0, 0, rfl, ⟨_, rfl⟩, rfl, Nat.le_refl _, Nat.zero_le _, ?_⟩
  rw [if_neg (by omega)]
  refine ⟨hX, ?_⟩
  have e2 : (some (⟨b, 0, none⟩ : Addr)).map (·.add (0 * kk_Si64_i64)) = some ⟨b, 0, none⟩ := by simp [Addr.add]
  rw [e2]
  exact ⟨rfl, .inr ⟨b, c, cs.toArray, rfl, by omega, hB, Nat.zero_le _, hcm, by simpa using hcl, by simp⟩⟩
theorem ok_Concat_Si64_i64 {v : Value} {w : World} {vs : List Value} {ps : List (Nat × List Value)} (hs : Sl w v vs) (hl : vs.length = ps.length) (hp : ∀ (i : Nat) (h1 : i < vs.length) (h2 : i < ps.length), SlK kk_Si64_i64 w vs[i] ps[i].1 ps[i].2) (hc : ∀ p ∈ ps, ∀ u ∈ p.2, isCell u = true) (hb : (ps.map Prod.fst).sum ≤ 1099511627776) :
    Cal Tryz.prog f_slices_Concat_Si64_i64 #[v] w fun r w' => Ext w w' ∧ OwK kk_Si64_i64 w.heap.size te_Si64_i64 w' r (ps.map Prod.fst).sum (ps.flatMap Prod.snd) := by
  apply c_slices_Concat_Si64_i64; unfold S_slices_Concat_Si64_i64
  have hlen := hs.len
  have hpl : (ps.map Prod.fst).length = ps.length := List.length_map _
  refine iLenS hs ?_
  refine iLp (fun s : Nat × Nat => [.int .i64 (s.1 : Int), .int .i64 (s.2 : Int)]) (fun s w' => s.2 ≤ vs.length ∧ w' = w ∧ s.1 = ((ps.map Prod.fst).take s.2).sum) (fun s => vs.length - s.2) (0, 0) rfl ⟨Nat.zero_le _, rfl, rfl⟩ ?_
  rintro ⟨m, i⟩ w2 Kn ⟨hi, rfl, hm⟩ hKn
  have hi : i ≤ vs.length := hi
  have hm : m = ((ps.map Prod.fst).take i).sum := hm
  have hmle := sum_take_le (ps.map Prod.fst) i
  (intro _; (try simp only [gx]); (with_reducible refine iLt ?_))
  refine iCndP (fun h1 => ?_) (fun h1 => ?_)
  · have hi1 : i < vs.length := by omega
    have hsi := hp i hi1 (by omega)
    have hst := sum_take_succ (ps.map Prod.fst) (i := i) (by omega)
    rw [List.getElem_map] at hst
    have hmle1 := sum_take_le (ps.map Prod.fst) (i + 1)
    refine iIa hs (by omega) (by omega) fun p hpc => ?_
    rw [Int.toNat_natCast, List.getElem?_eq_getElem hi1] at hpc
    refine iLd hpc ?_
    refine iLenK hsi ?_
    (refine iAdd (by omega) ?_; (with_reducible refine iLt ?_))
    refine iCndP (fun h2 => by omega) (fun _ => ?_)
    (refine iAdd (by omega) ?_)
    have e1 : (m : Int) + ((ps[i].1 : Nat) : Int) = ((m + ps[i].1 : Nat) : Int) := by omega
    rw [e1]
    exact hKn (m + ps[i].1, i + 1) _ ⟨by show i + 1 ≤ _; omega, rfl, by show m + ps[i].1 = ((ps.map Prod.fst).take (i + 1)).sum; omega⟩ (by show vs.length - (i + 1) < vs.length - i; omega)
  · have e : i = vs.length := by omega
    have hm2 : m = (ps.map Prod.fst).sum := by rw [hm, List.take_of_length_le (by omega)]
    refine iCall ((ok_Grow_Si64_i64 m (by omega) w2).mono ?_)
    rintro r w4 ⟨h4, ho4⟩
    refine iLenS hs ?_
    refine iLp (fun s : Value × Nat => [s.1, .int .i64 (s.2 : Int)]) (fun s w' => s.2 ≤ vs.length ∧ Ext w2 w' ∧ OwK kk_Si64_i64 w2.heap.size te_Si64_i64 w' s.1 ((ps.map Prod.fst).take s.2).sum ((ps.take s.2).flatMap Prod.snd)) (fun s => vs.length - s.2) (r, 0) rfl ⟨Nat.zero_le _, h4, ho4⟩ ?_
    rintro ⟨z, j⟩ w6 Kn6 ⟨hj, h6, ho6⟩ hKn6
    have hj : j ≤ vs.length := hj
    have ho6 : OwK kk_Si64_i64 w2.heap.size te_Si64_i64 w6 z ((ps.map Prod.fst).take j).sum ((ps.take j).flatMap Prod.snd) := ho6
    (intro _; (try simp only [gx]); (with_reducible refine iLt ?_))
    refine iCndP (fun h7 => ?_) (fun h7 => ?_)
    · have hj1 : j < vs.length := by omega
      have hsj := (hp j hj1 (by omega)).ext h6
      have hst := sum_take_succ (ps.map Prod.fst) (i := j) (by omega)
      rw [List.getElem_map] at hst
      have hmle1 := sum_take_le (ps.map Prod.fst) (j + 1)
      have hs6 := hs.ext h6
      refine iIa hs6 (by omega) (by omega) fun p hpc => ?_
      rw [Int.toNat_natCast, List.getElem?_eq_getElem hj1] at hpc
      refine iLd hpc ?_
      refine iAppK uu_Si64_i64 ii_Si64_i64 rfl (by decide) ho6 hsj (hc _ (List.getElem_mem _)) (by omega) (by omega) h6.size fun v' w8 ho8 hg8 _ => ?_
      (refine iAdd (by omega) ?_)
      have ef : (ps.take (j + 1)).flatMap Prod.snd = (ps.take j).flatMap Prod.snd ++ ps[j].2 := by
        rw [List.take_succ_eq_append_getElem (by omega), List.flatMap_append]; simp
      rw [← hst, ← ef] at ho8
      exact hKn6 (v', j + 1) _ ⟨by show j + 1 ≤ _; omega, h6.grown hg8 (fun c hc => (ho6.blk c hc).1), ho8⟩ (by show vs.length - (j + 1) < vs.length - j; omega)
    · have e : j = vs.length := by omega
      rw [List.take_of_length_le (by omega), List.take_of_length_le (by omega)] at ho6
      exact ⟨h6, ho6⟩
theorem ok_Grow_SSi64_Si64 (n : Nat) (hn : n ≤ 1099511627776) (w : World) : Cal Tryz.prog f_slices_Grow_SSi64_Si64 #[.slice none 0 0, .int .i64 (n : Int)] w fun r w' => Ext w w' ∧ OwK kk_SSi64_Si64 w.heap.size te_SSi64_Si64 w' r 0 [] := by
  apply c_slices_Grow_SSi64_Si64; unfold S_slices_Grow_SSi64_Si64
  ((with_reducible refine iLt ?_; refine iJn ?_))
  refine iCndP (fun h => by omega) (fun _ => ?_)
  intro _
  refine iCapL (e := te_SSi64_Si64) uu_SSi64_Si64 ?_
  ((with_reducible refine iLenL ?_); refine iSub (by omega) ?_; refine iSub (by omega) ?_; (with_reducible refine iLt ?_))
  refine iCndP (fun h => ?_) (fun _ => ⟨Ext.refl w, OwK.nil _ _ _ _⟩)
  refine iCapL (e := te_SSi64_Si64) uu_SSi64_Si64 ?_
  refine ⟨none, 0, 0, 0, 0, rfl, ⟨_, rfl⟩, rfl, Nat.le_refl _, Nat.le_refl _, ?_⟩
  have e1 : (n : Int) - (((0 : Nat) : Int) - ((0 : Nat) : Int)) = (n : Int) := by omega
  rw [e1]
  refine iAppZ (k := kk_SSi64_Si64) uu_SSi64_Si64 (by kernel_rfl) ii_SSi64_Si64 rfl (by omega) (by omega) (by omega) fun b c w' cs hnc hcm hcl hX hb hB => ?_
  ((with_reducible refine iLenL ?_))
  refine ⟨some ⟨b, 0, none⟩, n, c, 0, 0, rfl, ⟨_, rfl⟩, rfl, Nat.le_refl _, Nat.zero_le _, ?_⟩
  rw [if_neg (by omega)]
  refine ⟨hX, ?_⟩
  have e2 : (some (⟨b, 0, none⟩ : Addr)).map (·.add (0 * kk_SSi64_Si64)) = some ⟨b, 0, none⟩ := by simp [Addr.add]
  rw [e2]
  exact ⟨rfl, .inr ⟨b, c, cs.toArray, rfl, by omega, hB, Nat.zero_le _, hcm, by simpa using hcl, by simp⟩⟩
theorem ok_Concat_SSi64_Si64 {v : Value} {w : World} {vs : List Value} {ps : List (Nat × List Value)} (hs : Sl w v vs) (hl : vs.length = ps.length) (hp : ∀ (i : Nat) (h1 : i < vs.length) (h2 : i < ps.length), SlK kk_SSi64_Si64 w vs[i] ps[i].1 ps[i].2) (hc : ∀ p ∈ ps, ∀ u ∈ p.2, isCell u = true) (hb : (ps.map Prod.fst).sum ≤ 1099511627776) :
    Cal Tryz.prog f_slices_Concat_SSi64_Si64 #[v] w fun r w' => Ext w w' ∧ OwK kk_SSi64_Si64 w.heap.size te_SSi64_Si64 w' r (ps.map Prod.fst).sum (ps.flatMap Prod.snd) := by
  apply c_slices_Concat_SSi64_Si64; unfold S_slices_Concat_SSi64_Si64
  have hlen := hs.len
  have hpl : (ps.map Prod.fst).length = ps.length := List.length_map _
  refine iLenS hs ?_
  refine iLp (fun s : Nat × Nat => [.int .i64 (s.1 : Int), .int .i64 (s.2 : Int)]) (fun s w' => s.2 ≤ vs.length ∧ w' = w ∧ s.1 = ((ps.map Prod.fst).take s.2).sum) (fun s => vs.length - s.2) (0, 0) rfl ⟨Nat.zero_le _, rfl, rfl⟩ ?_
  rintro ⟨m, i⟩ w2 Kn ⟨hi, rfl, hm⟩ hKn
  have hi : i ≤ vs.length := hi
  have hm : m = ((ps.map Prod.fst).take i).sum := hm
  have hmle := sum_take_le (ps.map Prod.fst) i
  (intro _; (try simp only [gx]); (with_reducible refine iLt ?_))
  refine iCndP (fun h1 => ?_) (fun h1 => ?_)
  · have hi1 : i < vs.length := by omega
    have hsi := hp i hi1 (by omega)
    have hst := sum_take_succ (ps.map Prod.fst) (i := i) (by omega)
    rw [List.getElem_map] at hst
    have hmle1 := sum_take_le (ps.map Prod.fst) (i + 1)
    refine iIa hs (by omega) (by omega) fun p hpc => ?_
    rw [Int.toNat_natCast, List.getElem?_eq_getElem hi1] at hpc
    refine iLd hpc ?_
    refine iLenK hsi ?_
    (refine iAdd (by omega) ?_; (with_reducible refine iLt ?_))
    refine iCndP (fun h2 => by omega) (fun _ => ?_)
    (refine iAdd (by omega) ?_)
    have e1 : (m : Int) + ((ps[i].1 : Nat) : Int) = ((m + ps[i].1 : Nat) : Int) := by omega
    rw [e1]
    exact hKn (m + ps[i].1, i + 1) _ ⟨by show i + 1 ≤ _; omega, rfl, by show m + ps[i].1 = ((ps.map Prod.fst).take (i + 1)).sum; omega⟩ (by show vs.length - (i + 1) < vs.length - i; omega)
  · have e : i = vs.length := by omega
    have hm2 : m = (ps.map Prod.fst).sum := by rw [hm, List.take_of_length_le (by omega)]
    refine iCall ((ok_Grow_SSi64_Si64 m (by omega) w2).mono ?_)
    rintro r w4 ⟨h4, ho4⟩
    refine iLenS hs ?_
    refine iLp (fun s : Value × Nat => [s.1, .int .i64 (s.2 : Int)]) (fun s w' => s.2 ≤ vs.length ∧ Ext w2 w' ∧ OwK kk_SSi64_Si64 w2.heap.size te_SSi64_Si64 w' s.1 ((ps.map Prod.fst).take s.2).sum ((ps.take s.2).flatMap Prod.snd)) (fun s => vs.length - s.2) (r, 0) rfl ⟨Nat.zero_le _, h4, ho4⟩ ?_
    rintro ⟨z, j⟩ w6 Kn6 ⟨hj, h6, ho6⟩ hKn6
    have hj : j ≤ vs.length := hj
    have ho6 : OwK kk_SSi64_Si64 w2.heap.size te_SSi64_Si64 w6 z ((ps.map Prod.fst).take j).sum ((ps.take j).flatMap Prod.snd) := ho6
    (intro _; (try simp only [gx]); (with_reducible refine iLt ?_))
    refine iCndP (fun h7 => ?_) (fun h7 => ?_)
    · have hj1 : j < vs.length := by omega
      have hsj := (hp j hj1 (by omega)).ext h6
      have hst := sum_take_succ (ps.map Prod.fst) (i := j) (by omega)
      rw [List.getElem_map] at hst
      have hmle1 := sum_take_le (ps.map Prod.fst) (j + 1)
      have hs6 := hs.ext h6
      refine iIa hs6 (by omega) (by omega) fun p hpc => ?_
      rw [Int.toNat_natCast, List.getElem?_eq_getElem hj1] at hpc
      refine iLd hpc ?_
      refine iAppK uu_SSi64_Si64 ii_SSi64_Si64 rfl (by decide) ho6 hsj (hc _ (List.getElem_mem _)) (by omega) (by omega) h6.size fun v' w8 ho8 hg8 _ => ?_
      (refine iAdd (by omega) ?_)
      have ef : (ps.take (j + 1)).flatMap Prod.snd = (ps.take j).flatMap Prod.snd ++ ps[j].2 := by
        rw [List.take_succ_eq_append_getElem (by omega), List.flatMap_append]; simp
      rw [← hst, ← ef] at ho8
      exact hKn6 (v', j + 1) _ ⟨by show j + 1 ≤ _; omega, h6.grown hg8 (fun c hc => (ho6.blk c hc).1), ho8⟩ (by show vs.length - (j + 1) < vs.length - j; omega)
    · have e : j = vs.length := by omega
      rw [List.take_of_length_le (by omega), List.take_of_length_le (by omega)] at ho6
      exact ⟨h6, ho6⟩
end Go.Proofs.YtfadcafacpaldaaGreatDoor

/- Contracts: equal neighbours dropped from rows of int64, places in rows, a place dropped. Conditions: none. -/
namespace Go.Vc
theorem encI_get (L : List Int) {j : Nat} (hj : j < L.length) : (L.map encI)[j]? = some (encI (gt L j)) := by rw [gt_eq hj]; simp [hj]
def ddI (L : List Int) : List Int := ddA ltI id L
theorem ltI_ne (a b : Int) : (ltI a b || ltI b a) = decide (¬ a = b) := by
  unfold ltI
  rw [Bool.eq_iff_iff, Bool.or_eq_true, decide_eq_true_eq, decide_eq_true_eq, decide_eq_true_eq]
  omega
theorem ddI_take {L : List Int} {i : Nat} (h0 : 1 ≤ i) (hi : i < L.length) : ddI (L.take (i + 1)) = if gt L i = gt L (i - 1) then ddI (L.take i) else ddI (L.take i) ++ [gt L i] := by
  rw [ddI, ddA_take h0 hi, id, id, ltI_ne]
  by_cases h : gt L i = gt L (i - 1)
  · rw [if_pos h, if_neg (by simp [h])]; rfl
  · rw [if_neg h, if_pos (by simpa using fun e => h e.symm)]; rfl
theorem ddI_idk {L : List Int} : ∀ k, k ≤ L.length → (∀ i, 1 ≤ i → i < k → ¬ gt L i = gt L (i - 1)) → ddI (L.take k) = L.take k := by
  intro k
  induction k with
  | zero => intro _ _; rfl
  | succ k ih =>
    intro hk h
    rcases Nat.eq_zero_or_pos k with h0 | h0
    · subst h0
      rw [ddI, ddA_one (by omega), List.take_succ_eq_append_getElem (by omega), gt_eq (by omega)]; rfl
    · rw [ddI_take h0 (by omega), if_neg (h k h0 (by omega)), ih (by omega) fun i h1 h2 => h i h1 (by omega), List.take_succ_eq_append_getElem (by omega), gt_eq (by omega)]
theorem ddI_id {L : List Int} (h : ∀ i, 1 ≤ i → i < L.length → ¬ gt L i = gt L (i - 1)) : ddI L = L := by
  have := ddI_idk L.length (Nat.le_refl _) h
  rwa [List.take_length] at this
/-- What is in order comes out strictly in order, with the same members. -/
theorem ddI_spec {L : List Int} (h : L.Pairwise fun x y => ltI y x = false) : (ddI L).Pairwise (fun a b => a < b) ∧ ∀ a, a ∈ ddI L ↔ a ∈ L := by
  have O : OrdA ltI := ⟨ordrI, fun {a b} h k => by unfold ltI at h k; simp at h k; omega⟩
  obtain ⟨h1, h2, h3⟩ := ddA_spec (key := id) O h L.length (Nat.le_refl _)
  rw [List.take_length] at h1 h2 h3
  rw [List.map_id] at h2
  refine ⟨h2.imp fun h => by unfold ltI at h; exact of_decide_eq_true h, fun a => ⟨fun ha => h1.subset ha, fun ha => ?_⟩⟩
  have := h3 a (by rw [List.map_id]; exact ha)
  rwa [List.map_id] at this
theorem Sl.toKQ {w : World} {v : Value} {xs : List Value} (h : Sl w v xs) {n : Nat} (hn : xs.length = n) : SlK 1 w v n xs := by
  subst hn
  obtain ⟨a, c, hv, h2, h3, h4⟩ := h
  refine ⟨(Nat.mul_one _).symm, a, c, hv, h2, h3, ?_⟩
  rcases h4 with rfl | ⟨b, o, ha, hc⟩
  · exact .inl rfl
  · exact .inr ⟨b, o, ha, fun i hi => hc i (by omega)⟩
theorem Sl.cellQ0 {w : World} {v : Value} {xs : List Value} (h : Sl w v xs) : isCell v = true := by
  obtain ⟨_, _, hv, _⟩ := h
  rw [hv]; rfl
end Go.Vc
namespace Go.Proofs.YtfadcafacpaldaaGreatDoor
open Go.Vc
theorem ok_slices_Compact_Si64_i64 {lo : Nat} {w : World} {v : Value} {L : List Int} (hs : Ow lo t_i64 w v (L.map encI)) (hL : L.length ≤ 1152921504606846976) :
    Cal Tryz.prog f_slices_Compact_Si64_i64 #[v] w fun r w' => Ow lo t_i64 w' r ((ddI L).map encI) ∧ Ch (fun c => v.ownBlock = some c) w w' ∧ r.ownBlock = v.ownBlock := by
  apply c_slices_Compact_Si64_i64; unfold S_slices_Compact_Si64_i64
  refine iLenS hs.sl ?_
  rw [List.length_map]
  refine iLt ?_
  refine iCndP (fun h => ?_) (fun h => ?_)
  · rw [ddI_id (fun i h1 h2 => by omega)]
    exact ⟨hs, (Ext.refl w).ch, by first | trivial | rfl⟩
  obtain ⟨g, cap, hv, hcap, hcm⟩ := hs.openV (by intro e; have := congrArg List.length e; rw [List.length_map, List.length_nil] at this; omega)
  rw [List.length_map] at hv hcap
  refine iLp (fun k : Nat => [.int .i64 (k : Int)]) (fun k w' => 1 ≤ k ∧ k ≤ L.length ∧ Ext w w' ∧ ∀ i, 1 ≤ i → i < k → ¬ gt L i = gt L (i - 1)) (fun k => L.length - k) 1 rfl ⟨Nat.le_refl _, by omega, Ext.refl _, fun i h1 h2 => by omega⟩ ?_
  rintro k w2 Kn ⟨hk1, hkn, h2, hne⟩ hKn
  have hs2 := hs.ext h2
  intro _
  simp only [gx]
  refine iLenS hs2.sl ?_
  rw [List.length_map]
  refine iLt ?_
  refine iCndP (fun h3 => ?_) (fun h3 => ?_)
  rotate_left
  · rw [ddI_id (fun i h1 h2 => hne i h1 (by omega))]
    exact ⟨hs2, h2.ch, by first | trivial | rfl⟩
  refine iRdO (j := k) hs2 rfl (by omega) ?_
  refine iSub (by omega) ?_
  refine iRdO (j := k - 1) hs2 (by omega) (by omega) ?_
  refine iEq ?_
  intro w3 h23
  have hs3 := hs2.ext h23
  refine iCndP (fun h4 => ?_) (fun h4 => ?_)
  rotate_left
  · refine iAdd (by omega) ?_
    refine hKn (k + 1) _ ⟨by omega, by omega, h2.trans h23, fun i h1 h5 => ?_⟩ (by omega)
    by_cases hi : i = k
    · subst hi; exact h4
    · exact hne i h1 (by omega)
  subst hv
  refine iSlTailV (k := k) (by omega) hcap ?_
  refine iLp (fun s : Nat × Nat => [.int .i64 (s.1 : Int), .int .i64 (s.2 : Int)]) (fun s w' => k ≤ s.1 ∧ s.1 + 1 ≤ k + s.2 ∧ k + s.2 ≤ L.length ∧ ∃ M, Turn lo t_i64 encI (.slice (some ⟨g, 0, none⟩) L.length cap) w w' M ∧ M.length = L.length ∧ M.take s.1 = ddI (L.take (k + s.2)) ∧ ∀ j, k + s.2 ≤ j + 1 → gt M j = gt L j) (fun s => L.length - s.2) (k, 1) rfl
    ⟨Nat.le_refl _, Nat.le_refl _, by show k + 1 ≤ L.length; omega, L, ⟨hs3, (h2.trans h23).ch⟩, rfl, by show L.take k = ddI (L.take (k + 1)); rw [ddI_take hk1 (by omega), if_pos h4, ddI_idk k (by omega) hne], fun _ _ => rfl⟩ ?_
  rintro ⟨kk, k2⟩ w5 Kn5 ⟨hkk, hkk2, hk2, M, ht, hM, hMt, hMe⟩ hKn5
  have hkk : k ≤ kk := hkk
  have hkk2 : kk + 1 ≤ k + k2 := hkk2
  have hk2 : k + k2 ≤ L.length := hk2
  have hMt : M.take kk = ddI (L.take (k + k2)) := hMt
  have hMe : ∀ j, k + k2 ≤ j + 1 → gt M j = gt L j := hMe
  intro _
  simp only [gx]
  refine iLenL ?_
  refine iLt ?_
  refine iCndP (fun h5 => ?_) (fun h5 => ?_)
  · refine iIaL (j := k2) (by omega) ?_
    refine iLd (ht.ow.atV (by rw [List.length_map]; exact hM) (j := k + k2) (by omega) |>.trans (encI_get M (by omega))) ?_
    refine iSub (by omega) ?_
    rw [show (k2 : Int) - 1 = ((k2 - 1 : Nat) : Int) by omega]
    refine iIaL (j := k2 - 1) (by omega) ?_
    refine iLd (ht.ow.atV (by rw [List.length_map]; exact hM) (j := k + (k2 - 1)) (by omega) |>.trans (encI_get M (by omega))) ?_
    refine iNe ?_
    intro w6 h56
    have ht6 := ht.ext h56
    have e1 := hMe (k + k2) (by omega)
    have e2 := hMe (k + (k2 - 1)) (by omega)
    have edd := ddI_take (L := L) (i := k + k2) (by omega) (by omega)
    rw [← e1, show k + k2 - 1 = k + (k2 - 1) by omega, ← e2] at edd
    refine iCndP (fun h6 => ?_) (fun h6 => ?_)
    · rw [if_neg h6, ← hMt] at edd
      refine iIaL (j := k2) (by omega) ?_
      refine iLd (ht6.ow.atV (by rw [List.length_map]; exact hM) (j := k + k2) (by omega) |>.trans (encI_get M (by omega))) ?_
      refine iIaOw ht6.ow (by omega) (by rw [List.length_map]; omega) fun b o hb _ _ hc hf hset => ?_
      refine iSt (hc.trans (List.getElem?_eq_getElem (by rw [List.length_map]; omega))) hf rfl ?_
      have hset := hset (encI (gt M (k + k2)))
      rw [Int.toNat_natCast, ← List.map_set] at hset
      refine iAdd (by omega) ?_
      refine iAdd (by omega) ?_
      refine hKn5 (kk + 1, k2 + 1) _ ⟨by show k ≤ kk + 1; omega, by show kk + 1 + 1 ≤ k + (k2 + 1); omega, by show k + (k2 + 1) ≤ L.length; omega, M.set kk (gt M (k + k2)), ⟨hset, ht6.ch.trans ((Upd.setCell w6 b o _).ch (S := fun c => Value.ownBlock (.slice (some ⟨g, 0, none⟩) L.length cap) = some c) hb) fun _ e => .inl e⟩, by rw [List.length_set]; exact hM, ?_, fun j hj => ?_⟩ (by show L.length - (k2 + 1) < L.length - k2; omega)
      · show (M.set kk (gt M (k + k2))).take (kk + 1) = ddI (L.take (k + (k2 + 1)))
        rw [show k + (k2 + 1) = k + k2 + 1 by omega, edd, List.take_succ_eq_append_getElem (by rw [List.length_set]; omega), List.getElem_set_self, List.take_set_of_le (Nat.le_refl _)]
      · have hj : k + (k2 + 1) ≤ j + 1 := hj
        rw [gt_set _ (by omega), if_neg (by omega)]
        exact hMe j (by omega)
    · rw [if_pos (Classical.not_not.1 h6), ← hMt] at edd
      refine iAdd (by omega) ?_
      exact hKn5 (kk, k2 + 1) _ ⟨hkk, by show kk + 1 ≤ k + (k2 + 1); omega, by show k + (k2 + 1) ≤ L.length; omega, M, ht6, hM, edd.symm, fun j hj => hMe j (by have hj : k + (k2 + 1) ≤ j + 1 := hj; omega)⟩ (by show L.length - (k2 + 1) < L.length - k2; omega)
  · have hend : k + k2 = L.length := by omega
    rw [hend, List.take_length] at hMt
    refine iSlTailV (k := kk) (by omega) hcap ?_
    refine iClrV u_Si64 i_Si64 rfl ht.ow (by rw [List.length_map]; exact hM) (by omega) fun w8 h8 hc8 => ?_
    refine iSlHeadV (k := kk) (by omega) hcap ?_
    rw [show (List.map encI M).take kk = (M.take kk).map encI from (List.map_take ..).symm, hMt] at h8
    exact ⟨h8, ht.ch.trans hc8 fun c hc => .inl (by rw [hc]; rfl), rfl⟩
theorem ok_slices_IndexI {v : Value} {w : World} {c : List Int} (hs : SlI w v c) (x : Int) : Cal Tryz.prog f_slices_Index_Si64_i64 #[v, .int .i64 x] w fun r w' => Ext w w' ∧ ∃ z : Int, r = .int .i64 z ∧ ((z = -1 ∧ x ∉ c) ∨ ∃ i : Nat, z = (i : Int) ∧ i < c.length ∧ c.getD i 0 = x) := by
  have hl := hs.len
  apply c_slices_Index_Si64_i64; unfold S_slices_Index_Si64_i64
  refine iLenI hs ?_
  refine iLp (fun k : Nat => [.int .i64 (k : Int)]) (fun k w' => k ≤ c.length ∧ Ext w w' ∧ ∀ i, i < k → ¬ c.getD i 0 = x) (fun k => c.length - k) 0 rfl ⟨Nat.zero_le _, Ext.refl _, fun i hi => by omega⟩ ?_
  rintro k w2 Kn ⟨hk, h2, hall⟩ hKn
  have hs2 := hs.ext h2
  intro _
  simp only [gx]
  refine iLt ?_
  refine iCndP (fun h3 => ?_) (fun h3 => ?_)
  · refine iIaI hs2 (by omega) (by omega) fun p hp => ?_
    refine iLd hp ?_
    rw [show c.getD (k : Int).toNat 0 = c.getD k 0 by rw [Int.toNat_natCast]]
    refine iEq ?_
    refine iCndP (fun h4 => ?_) (fun h4 => ?_)
    · exact ⟨h2, k, rfl, .inr ⟨k, rfl, by omega, h4.symm⟩⟩
    · refine iAdd (by omega) ?_
      refine hKn (k + 1) _ ⟨by omega, h2, fun i hi => ?_⟩ (by omega)
      by_cases hik : i = k
      · subst hik; exact fun e => h4 e.symm
      · exact hall i (by omega)
  · refine ⟨h2, -1, rfl, .inl ⟨rfl, fun hx => ?_⟩⟩
    obtain ⟨i, hi, e⟩ := List.getElem_of_mem hx
    refine hall i (by omega) ?_
    simp [List.getD_eq_getElem?_getD, hi, e]
end Go.Proofs.YtfadcafacpaldaaGreatDoor

/- Contracts: resolvents in the program. Conditions: none. -/
namespace Go.Vc
theorem mem_dropped {c : List Int} (hc : c.Pairwise fun a b => a < b) {i : Nat} (hi : i < c.length) (l : Int) : l ∈ c.take i ++ c.drop (i + 1) ↔ l ∈ c ∧ l ≠ c[i] := by
  have hp := List.pairwise_iff_getElem.1 hc
  rw [List.mem_append, List.mem_take_iff_getElem, List.mem_drop_iff_getElem]
  constructor
  · rintro (⟨k, hk, rfl⟩ | ⟨k, hk, rfl⟩)
    · exact ⟨List.getElem_mem _, fun e => by have := hp k i (by omega) hi (by omega); omega⟩
    · exact ⟨List.getElem_mem _, fun e => by have := hp i (i + 1 + k) hi (by omega) (by omega); omega⟩
  · rintro ⟨h, hn⟩
    obtain ⟨k, hk, rfl⟩ := List.getElem_of_mem h
    rcases Nat.lt_trichotomy k i with h | h | h
    · exact .inl ⟨k, by omega, rfl⟩
    · subst h; exact absurd rfl hn
    · exact .inr ⟨k - (i + 1), by omega, by congr 1; omega⟩
theorem ClOk.len {c : List Int} (h : ClOk c) : c.length ≤ 6 := by
  have := nodup_bound 6 (c.map fun l => (l / 2).toNat) (by
    rw [List.nodup_iff_pairwise_ne, List.pairwise_map]
    refine List.Pairwise.imp_of_mem ?_ h.2
    intro a b ha hb hlt e
    have := (h.1 a ha).1
    have := (h.1 b hb).1
    omega) (by
    intro x hx
    obtain ⟨l, hl, rfl⟩ := List.mem_map.1 hx
    have := h.1 l hl
    omega)
  simpa using this
theorem dropped_len (c : List Int) {i : Nat} (hi : i < c.length) : (c.take i ++ c.drop (i + 1)).length + 1 = c.length := by
  rw [List.length_append, List.length_take, List.length_drop]; omega
end Go.Vc
namespace Go.Proofs.YtfadcafacpaldaaGreatDoor
open Go.Vc
theorem ok_impl_dropped {v : Value} {w : World} {c : List Int} {i : Nat} (hs : SlI w v c) (hi : i < c.length) (hl : c.length ≤ 1000) :
    Cal Tryz.prog f_impl_dropped #[v, .int .i64 (i : Int)] w fun r w' => Ext w w' ∧ Ow w.heap.size t_i64 w' r ((c.take i ++ c.drop (i + 1)).map encI) := by
  apply c_impl_dropped; unfold S_impl_dropped
  have hll : (ints c).length = c.length := ints_length c
  refine iSlTo hs (by omega) fun x hx => ?_
  refine iAdd (by omega) ?_
  rw [show (i : Int) + 1 = ((i + 1 : Nat) : Int) by omega]
  refine iSlFrom hs (by omega) fun y hy => ?_
  intro w1 h1
  refine iBs2 rfl hx.cellQ0 hy.cellQ0 fun b w2 hb h2 hB => ?_
  have hx2 := (hx.ext h1).ext h2
  have hy2 := (hy.ext h1).ext h2
  intro w3 h3
  have hX := (h1.trans h2).trans h3
  refine iCall ((ok_Concat_Si64_i64 (vs := [x, y]) (ps := [(i, (ints c).take i), (c.length - (i + 1), (ints c).drop (i + 1))]) (Sl.ofBlk (n := 2) (hB.ext h3) rfl (by decide)) rfl (fun k g1 g2 => ?_) (fun p hp u hu => ?_) (by simp; omega)).mono ?_)
  · rcases k with _ | _ | k
    · exact (hx2.ext h3).toKQ (by show ((ints c).take i).length = i; rw [List.length_take]; omega)
    · exact (hy2.ext h3).toKQ (by show ((ints c).drop (i + 1)).length = c.length - (i + 1); rw [List.length_drop]; omega)
    · simp at g1; omega
  · simp only [List.mem_cons, List.not_mem_nil, or_false] at hp
    have hcell : ∀ u ∈ ints c, isCell u = true := fun u hu => by
      obtain ⟨z, _, rfl⟩ := List.mem_map.1 hu
      rfl
    rcases hp with rfl | rfl
    · exact hcell _ (List.mem_of_mem_take hu)
    · exact hcell _ (List.mem_of_mem_drop hu)
  · rintro r w4 ⟨h4, ho⟩
    intro w5 h5
    refine ⟨(hX.trans h4).trans h5, ?_⟩
    have := (ho.toOw.ext h5).mono (show w.heap.size ≤ _ from hX.size)
    rw [List.map_append, List.map_take, List.map_drop]
    have h9 : Ow w.heap.size t_i64 w5 r (List.take i (ints c) ++ List.drop (i + 1) (ints c)) := by simpa using this
    exact h9
theorem ok_impl_resolve {va vb : Value} {w : World} {c d : List Int} (hs : SlI w va c) (hd : SlI w vb d) (hc : ClOk c) (hdd : ClOk d) (v : Nat) (hv : v < 6) :
    Cal Tryz.prog f_impl_resolve #[va, vb, .int .i64 (v : Int)] w fun r w' => Ext w w' ∧ ∃ u, r = .tuple #[u, .bool (resC c d v).isSome] ∧ ∀ x, resC c d v = some x → Ow w.heap.size t_i64 w' u (ints x) := by
  apply c_impl_resolve; unfold S_impl_resolve
  have hcl := hc.len
  have hdl := hdd.len
  refine iMul (by omega) ?_
  refine iCall ((ok_slices_IndexI hs (2 * (v : Int))).mono ?_)
  rintro _ w1 ⟨h1, z1, rfl, hz1⟩
  refine iMul (by omega) ?_
  refine iAdd (by omega) ?_
  refine iCall ((ok_slices_IndexI (hd.ext h1) (2 * (v : Int) + 1)).mono ?_)
  rintro _ w2 ⟨h2, z2, rfl, hz2⟩
  have hX := h1.trans h2
  refine iJnB (decide (z1 < 0) || decide (z2 < 0)) w2 (fun J hJ => ?_) (fun w4 h4 => ?_)
  · refine iLt ?_
    refine iCndP (fun h => ?_) (fun h => ?_)
    · rw [decide_eq_true h, Bool.true_or] at hJ
      exact hJ w2 (Ext.refl _)
    · rw [decide_eq_false h, Bool.false_or] at hJ
      refine iLt ?_
      exact hJ w2 (Ext.refl _)
  intro _
  simp only [gx]
  have hX := hX.trans h4
  cases hb : decide (z1 < 0) || decide (z2 < 0)
  rotate_left
  · refine iCndT rfl ⟨hX, .slice none 0 0, ?_, fun x hx => ?_⟩
    · have : resC c d v = none := by
        unfold resC
        rw [if_neg]
        rintro ⟨a, b, _⟩
        rw [Bool.or_eq_true, decide_eq_true_eq, decide_eq_true_eq] at hb
        rcases hz1 with ⟨_, e⟩ | ⟨i, e, _⟩
        · exact e a
        · rcases hz2 with ⟨_, e'⟩ | ⟨j, e', _⟩
          · exact e' b
          · omega
      rw [this]; rfl
    · have : resC c d v = none := by
        unfold resC
        rw [if_neg]
        rintro ⟨a, b, _⟩
        rw [Bool.or_eq_true, decide_eq_true_eq, decide_eq_true_eq] at hb
        rcases hz1 with ⟨_, e⟩ | ⟨i, e, _⟩
        · exact e a
        · rcases hz2 with ⟨_, e'⟩ | ⟨j, e', _⟩
          · exact e' b
          · omega
      rw [this] at hx; cases hx
  rw [Bool.or_eq_false_iff, decide_eq_false_iff_not, decide_eq_false_iff_not] at hb
  obtain ⟨i, rfl, hi, ei⟩ : ∃ i : Nat, z1 = (i : Int) ∧ i < c.length ∧ c.getD i 0 = 2 * (v : Int) := by
    rcases hz1 with ⟨e, _⟩ | h
    · omega
    · exact h
  obtain ⟨j, rfl, hj, ej⟩ : ∃ j : Nat, z2 = (j : Int) ∧ j < d.length ∧ d.getD j 0 = 2 * (v : Int) + 1 := by
    rcases hz2 with ⟨e, _⟩ | h
    · omega
    · exact h
  have ei' : c[i] = 2 * (v : Int) := by rw [← ei]; simp [List.getD_eq_getElem?_getD, hi]
  have ej' : d[j] = 2 * (v : Int) + 1 := by rw [← ej]; simp [List.getD_eq_getElem?_getD, hj]
  refine iCndF rfl ?_
  refine iCall ((ok_impl_dropped (hs.ext hX) hi (by omega)).mono ?_)
  rintro x w5 ⟨h5, hx⟩
  have hlo4 := hX.size
  have hX5 := hX.trans h5
  refine iCall ((ok_impl_dropped (hd.ext hX5) hj (by omega)).mono ?_)
  rintro y w6 ⟨h6, hy⟩
  have hx6 := (hx.ext h6).mono hlo4
  have hX6 := hX5.trans h6
  have hl1 := dropped_len c hi
  have hl2 := dropped_len d hj
  refine iAppA u_Si64 i_Si64 rfl hx6 hy.sl (fun u hu => by obtain ⟨z, _, rfl⟩ := List.mem_map.1 hu; rfl) (by rw [List.length_map, List.length_map]; omega) (by rw [List.length_map, List.length_map]; omega) hX6.size fun o w7 ho hg _ => ?_
  have hX7 := hX6.grown hg fun b hb => (hx6.blk b hb).1
  rw [← List.map_append] at ho
  have hl3 : ((c.take i ++ c.drop (i + 1)) ++ (d.take j ++ d.drop (j + 1))).length ≤ 12 := by rw [List.length_append]; omega
  refine iCall ((ok_slices_SortI ho hl3).mono ?_)
  rintro _ w8 ⟨L', ht, hp, hpw⟩
  have hX8 := hX7.thenCh ht.ch fun b hb => (ho.blk b hb).1
  refine iCall ((ok_slices_Compact_Si64_i64 ht.ow (by rw [hp.length_eq]; omega)).mono ?_)
  rintro r w9 ⟨ho9, hch9, _⟩
  have hX9 := hX8.thenCh hch9 fun b hb => (ht.ow.blk b hb).1
  obtain ⟨hs1, hs2⟩ := ddI_spec hpw
  have hM : ddI L' = resL c d v := res_merge hc hdd (by rw [← ei']; exact List.getElem_mem hi) (by rw [← ej']; exact List.getElem_mem hj) hs1 fun l => by
    rw [hs2, hp.mem_iff, List.mem_append, mem_dropped hc.lt hi, mem_dropped hdd.lt hj, ei', ej']
  rw [hM] at ho9
  have ho9 : Ow w.heap.size t_i64 w9 r (ints (resL c d v)) := ho9
  refine iRet (ok_impl_isClause ho9.sl) fun w10 h10 => ?_
  refine ⟨hX9.trans h10, r, ?_, fun x hx => ?_⟩
  · unfold resC
    have m1 : 2 * (v : Int) ∈ c := by rw [← ei']; exact List.getElem_mem hi
    have m2 : 2 * (v : Int) + 1 ∈ d := by rw [← ej']; exact List.getElem_mem hj
    by_cases hok : ClOk (resL c d v)
    · rw [if_pos ⟨m1, m2, hok⟩, decide_eq_true hok]; rfl
    · rw [if_neg fun h => hok h.2.2, decide_eq_false hok]; rfl
  · unfold resC at hx
    split at hx
    · cases hx; exact ho9.ext h10
    · cases hx
end Go.Proofs.YtfadcafacpaldaaGreatDoor

/- Contracts: rows of steps (structs of four cells), equal steps. Conditions: none. -/
namespace Go.Vc
instance : DecidableEq Rs := fun a b => decidable_of_iff (a.c = b.c ∧ a.f = b.f ∧ a.s = b.s ∧ a.v = b.v) (by cases a; cases b; simp)
/-- A step: its clause's slice, and what it is. -/
abbrev RV := Value × Rs
instance : Inhabited RV := ⟨(.slice none 0 0, default)⟩
def csQ (x : RV) : List Value := [x.1, .int .i64 x.2.f, .int .i64 x.2.s, .int .i64 x.2.v]
def valQ (x : RV) : Value := .agg #[x.1, .int .i64 x.2.f, .int .i64 x.2.s, .int .i64 x.2.v]
def cellsQ (L : List RV) : List Value := L.flatMap csQ
theorem cellsQ_at : ∀ {L : List RV} {j : Nat}, j < L.length → ∀ i, i < 4 → (cellsQ L)[j * 4 + i]? = (csQ (gt L j))[i]?
  | [], j, h, _, _ => by simp at h
  | x :: L, 0, _, i, hi => by
    show (csQ x ++ cellsQ L)[0 * 4 + i]? = (csQ x)[i]?
    rw [Nat.zero_mul, Nat.zero_add, List.getElem?_append_left (by show i < 4; exact hi)]
  | x :: L, j + 1, h, i, hi => by
    show (csQ x ++ cellsQ L)[(j + 1) * 4 + i]? = (csQ (gt L j))[i]?
    rw [List.getElem?_append_right (by show 4 ≤ (j + 1) * 4 + i; omega), ← cellsQ_at (L := L) (j := j) (by simpa using h) i hi]
    congr 1
    show (j + 1) * 4 + i - 4 = j * 4 + i
    omega
/-- Steps that can be read. -/
def RdQ (w : World) (v : Value) (L : List RV) : Prop := SlK 4 w v L.length (cellsQ L) ∧ ∀ x ∈ L, SlI w x.1 x.2.c
theorem RdQ.ext {w w' : World} {v : Value} {L : List RV} (h : RdQ w v L) (x : Ext w w') : RdQ w' v L := ⟨h.1.ext x, fun y hy => (h.2 y hy).ext x⟩
theorem iRdQ4 {w : World} {v : Value} {L : List RV} {j : Nat} {k : IntKind} {K : Value → Prop} (hs : SlK 4 w v L.length (cellsQ L)) (hj : j < L.length) (h : K (valQ (gt L j))) : xIa 4 v (.int k (j : Int)) fun p => xLdA w 4 p K := by
  refine iIaK hs hj fun b o hc => ?_
  refine ⟨_, (csQ (gt L j)).toArray, rfl, rfl, fun i hi => ?_, h⟩
  have e : (⟨b, o, none⟩ : Addr).add i = ⟨b, o + i, none⟩ := by
    simp only [Addr.add]; split
    · rename_i e; simp [e]
    · rfl
  rw [e, hc i hi, cellsQ_at hj i hi]
  simp
end Go.Vc
namespace Go.Proofs.YtfadcafacpaldaaGreatDoor
open Go.Vc
end Go.Proofs.YtfadcafacpaldaaGreatDoor

/- Contracts: steps that hold the marks laid in them. Conditions: none. -/
namespace Go.Vc
theorem iFldQ {sz f : Nat} {w : World} {v x : Value} {n : Nat} {xs : List Value} {j : Nat} {k : IntKind} {K : Value → Prop} (hs : SlK sz w v n xs) (h1 : j < n) (hf : f < sz) (hx : xs[j * sz + f]? = some x) (h : K x) : xIa sz v (.int k (j : Int)) fun p => xFa f p fun q => xLd w q K := by
  refine iIaK hs h1 fun b o hc => ?_
  exact iFa (iLd ((hc f hf).trans hx) h)
end Go.Vc
namespace Go.Proofs.YtfadcafacpaldaaGreatDoor
open Go.Vc
end Go.Proofs.YtfadcafacpaldaaGreatDoor

/- Maps from int64 to true: sets of numbers. No function in sight. Conditions: none. -/
namespace Go.Vc
/-- The map holds 'true' at these keys and nothing else. -/
def MapS (w : World) (b : Nat) (S : Int → Prop) : Prop := ∃ es clock, w.heap[b]? = some (.map es clock) ∧ (∀ x ∈ es.toList, ∃ k : Int, x.key = .int .i64 k ∧ x.val = .bool true ∧ S k) ∧ ∀ k, S k → ∃ x ∈ es.toList, x.key = .int .i64 k
theorem MapS.ext {w w' : World} {b : Nat} {S : Int → Prop} (h : MapS w b S) (x : Ext w w') : MapS w' b S := by
  obtain ⟨es, clock, hb, h⟩ := h
  exact ⟨es, clock, by rw [Go.RowKit.Below.block x b (heap_lt hb)]; exact hb, h⟩
theorem MapS.ch {D : Nat → Prop} {w w' : World} {b : Nat} {S : Int → Prop} (h : MapS w b S) (x : Ch D w w') (hn : ¬ D b) : MapS w' b S := by
  obtain ⟨es, clock, hb, h⟩ := h
  exact ⟨es, clock, by rw [x.block b (heap_lt hb) hn]; exact hb, h⟩
theorem MapS.ne_ow {w : World} {b lo k n : Nat} {S : Int → Prop} {e : TypeId} {v : Value} {xs : List Value} (h : MapS w b S) (ho : OwK k lo e w v n xs) : ∀ c, v.ownBlock = some c → ¬ c = b := by
  obtain ⟨es, clock, hb, h⟩ := h
  rintro c hc rfl
  obtain ⟨cur, h1⟩ := ho.ty hc
  rw [h1] at hb; cases hb
theorem MapS.ne_blk {w : World} {b q : Nat} {S : Int → Prop} {e : TypeId} {cs : List Value} (h : MapS w b S) (hq : Blk e w q cs) : ¬ q = b := by
  obtain ⟨es, clock, hb, h⟩ := h
  rintro rfl
  unfold Blk at hq
  rw [hq] at hb; cases hb
theorem MapS.keys {S : Int → Prop} {es : Array MapEntry} (h : ∀ x ∈ es.toList, ∃ k : Int, x.key = .int .i64 k ∧ x.val = .bool true ∧ S k) : ∀ x ∈ es.toList, MapKept.IsKey (.int .i64) x.key := fun x hx => by
  obtain ⟨t, e, _⟩ := h x hx
  rw [e]; exact rfl
section
variable {P : Program} {t k e : TypeId} {S : Int → Prop}
theorem zeroBool {t : TypeId} (h : (P.info? t).map (fun i => i.zero) = some (some (.bool false))) : ∀ w, (zeroValue t).run P w = .ok (.bool false) w := by
  obtain ⟨i, hi', hz⟩ := Option.map_eq_some_iff.1 h
  intro w
  simp [zeroValue, run_info hi', hz]
theorem iSetMade {w : World} {K : Value → World → Prop} (h : ∀ b w', b = w.heap.size → Ext w w' → MapS w' b (fun _ => False) → K (.map (some b)) w') : xOp P (Instr.makeMap t none) w K :=
  ⟨_, _, rfl, h _ _ rfl (Ext.alloc w _) ⟨#[], 0, heap_alloc_new w _, by simp, fun _ h => h.elim⟩⟩
theorem iSetLook {w : World} {b : Nat} {s : Int} {K : Value → Prop} (h : MapS w b S) (ht : P.underlying t = some (.map k e)) (hk : P.underlying k = some (.int .i64)) (hz : ∀ w, (zeroValue e).run P w = .ok (.bool false) w)
    (h0 : ¬ S s → K (.bool false)) (h1 : S s → K (.bool true)) : xR P w (Instr.lookup t (.map (some b)) (.int .i64 s) false) K := by
  obtain ⟨es, clock, hb, hm, hc⟩ := h
  have hb' : ∀ w', Ext w w' → w'.heap[b]? = some (.map es clock) := fun w' x => by rw [Go.RowKit.Below.block x b (heap_lt hb)]; exact hb
  rcases MapKept.findNow_spec (k := .int .i64 s) (d := .int .i64) rfl es.toList 0 (MapS.keys hm) with ⟨f1, f2⟩ | ⟨j, e0, f1, f2, f3⟩
  · refine ⟨_, fun w' x => ?_, h0 fun hs => ?_⟩
    · simp [Instr.lookup, run_underlying ht, MapKept.run_getObj_map (hb' w' x), MapKept.run_checkKey (k := .int .i64 s) hk rfl, MapKept.run_findKey hk f1, hz, Result.andThen]
    · obtain ⟨x, hx, e⟩ := hc s hs
      exact f2 x hx e
  · obtain ⟨u, e1, e2, hq⟩ := hm e0 (List.mem_of_getElem? f2)
    rw [f3] at e1
    have e1 : s = u := by injection e1
    subst e1
    refine ⟨_, fun w' x => ?_, h1 hq⟩
    simp [Instr.lookup, run_underlying ht, MapKept.run_getObj_map (hb' w' x), MapKept.run_checkKey (k := .int .i64 s) hk rfl, MapKept.run_findKey hk f1, Result.andThen, e2]
theorem iSetPut {w : World} {b : Nat} {s : Int} {K : World → Prop} (h : MapS w b S) (ht : P.underlying t = some (.map k e)) (hk : P.underlying k = some (.int .i64))
    (h1 : ∀ w', MapS w' b (fun x => S x ∨ x = s) → Ch (fun c => c = b) w w' → K w') : xOpU P (Instr.mapUpdate t (.map (some b)) (.int .i64 s) (.bool true)) w K := by
  obtain ⟨es, clock, hb, hm, hc⟩ := h
  have hset : ∀ o, ({ w with heap := w.heap.setIfInBounds b o } : World).heap[b]? = some o ∧ Ch (fun c => c = b) w { w with heap := w.heap.setIfInBounds b o } := fun o =>
    ⟨(MapKept.heap_set hb).1, rfl, rfl, rfl, by simp, fun i _ hi => (MapKept.heap_set hb).2 i hi⟩
  rcases MapKept.findNow_spec (k := .int .i64 s) (d := .int .i64) rfl es.toList 0 (MapS.keys hm) with ⟨f1, f2⟩ | ⟨j, e0, f1, f2, f3⟩
  · refine ⟨_, ?_, h1 { w with heap := w.heap.setIfInBounds b (.map (es.push ⟨.int .i64 s, .bool true, clock⟩) (clock + 1)) } ⟨_, _, (hset _).1, fun x hx => ?_, fun q hq => ?_⟩ (hset _).2⟩
    · simp [Instr.mapUpdate, run_underlying ht, MapKept.run_getObj_map hb, MapKept.run_checkKey (k := .int .i64 s) hk rfl, MapKept.run_findKey hk f1, MapKept.run_setObj_map _ hb, Result.andThen]
    · simp only [Array.toList_push, List.mem_append, List.mem_singleton] at hx
      rcases hx with hx | rfl
      · obtain ⟨q, a1, a2, a3⟩ := hm x hx
        exact ⟨q, a1, a2, .inl a3⟩
      · exact ⟨s, rfl, rfl, .inr rfl⟩
    · simp only [Array.toList_push, List.mem_append, List.mem_singleton]
      rcases hq with hq | rfl
      · obtain ⟨x, hx, e⟩ := hc q hq
        exact ⟨x, .inl hx, e⟩
      · exact ⟨_, .inr rfl, rfl⟩
  · have hj : j < es.size := by have := (List.getElem?_eq_some_iff.1 f2).1; simpa using this
    have hkey : ((es[j]?).map (·.key)).getD (.int .i64 s) = .int .i64 s := by
      have : es[j]? = some e0 := by simpa using f2
      rw [this]; exact f3
    obtain ⟨u, e1, e2, hq⟩ := hm e0 (List.mem_of_getElem? f2)
    have hu : s = u := by rw [f3] at e1; injection e1
    subst hu
    refine ⟨_, ?_, h1 { w with heap := w.heap.setIfInBounds b (.map (es.modify j fun e => { e with key := .int .i64 s, val := .bool true }) clock) } ⟨_, _, (hset _).1, fun x hx => ?_, fun q hq' => ?_⟩ (hset _).2⟩
    · simp only [Nat.zero_add] at f1
      simp [Instr.mapUpdate, run_underlying ht, MapKept.run_getObj_map hb, MapKept.run_checkKey (k := .int .i64 s) hk rfl, MapKept.run_findKey hk f1, MapKept.run_setObj_map _ hb, Result.andThen, hkey, MapKept.run_keyThatStays (k := .int .i64 s) (d := .int .i64) rfl]
    · rw [Array.toList_modify] at hx
      obtain ⟨i, hi, rfl⟩ := List.getElem_of_mem hx
      rw [List.getElem_modify]
      split
      · exact ⟨s, rfl, rfl, .inr rfl⟩
      · obtain ⟨q, a1, a2, a3⟩ := hm _ (List.getElem_mem (by simpa using hi))
        exact ⟨q, a1, a2, .inl a3⟩
    · have hq2 : S q := by
        rcases hq' with h | h
        · exact h
        · subst h; exact hq
      obtain ⟨x, hx, e⟩ := hc q hq2
      obtain ⟨i, hi, rfl⟩ := List.getElem_of_mem hx
      rw [Array.toList_modify]
      refine ⟨(es.toList.modify j fun e => { e with key := .int .i64 s, val := .bool true })[i]'(by simpa using hi), List.getElem_mem _, ?_⟩
      rw [List.getElem_modify]
      split
      · rename_i hij
        subst hij
        have : es.toList[j] = e0 := by
          have := List.getElem?_eq_getElem hi
          rw [f2] at this
          exact (Option.some.inj this).symm
        rw [this, f3] at e
        exact e
      · exact e
end
end Go.Vc

/- Contracts: a step is added to the program's refuter. Conditions: none. -/
namespace Go.Vc
theorem iBsQ {w : World} {e : TypeId} {a b c d z1 z2 z3 z4 : Value} {K : Value → World → Prop} (h : ∀ bb w', bb = w.heap.size ∧ w'.heap.size = bb + 1 → Ext w w' → Blk e w' bb [a, b, c, d] → K (.slice (some ⟨bb, 0, none⟩) 1 1) w') :
    xBs e (Value.cells (.agg #[z1, z2, z3, z4])) 4 1 [(0, .agg #[a, b, c, d])] w K := by
  refine ⟨#[a, b, c, d], ?_, h _ _ ⟨rfl, by simp⟩ (Ext.alloc w _) (Blk.new w #[a, b, c, d] e)⟩
  simp [Instr.fill, Value.cells, show Array.range 4 = #[0, 1, 2, 3] from rfl]
theorem OwP.chQ {S : Nat → Prop} {lo : Nat} {e : TypeId} {w w' : World} {P : List (Value × List Int)} (h : OwP lo e w P) (k : Ch S w w') (hn : ∀ p ∈ P, ∀ c, p.1.ownBlock = some c → ¬ S c) : OwP lo e w' P := ⟨fun p hp => (h.1 p hp).ch k (hn p hp), h.2⟩
theorem MapS.ne_owI {w : World} {b lo : Nat} {S : Int → Prop} {e : TypeId} {v : Value} {xs : List Value} (h : MapS w b S) (ho : Ow lo e w v xs) : ∀ c, v.ownBlock = some c → ¬ c = b := by
  obtain ⟨es, clock, hb, h⟩ := h
  rintro c hc rfl
  obtain ⟨cur, h1⟩ := ho.ty hc
  rw [h1] at hb; cases hb
theorem ne_owK {w : World} {lo lo' k n : Nat} {e e' : TypeId} {v v' : Value} {xs xs' : List Value} (h : Ow lo e w v xs) (h' : OwK k lo' e' w v' n xs') (hne : e ≠ e') : ∀ c, v.ownBlock = some c → v'.ownBlock ≠ some c := by
  intro c hc hc'
  obtain ⟨cur, h1⟩ := h.ty hc
  obtain ⟨cur', h2⟩ := h'.ty hc'
  rw [h1] at h2
  cases h2
  exact hne rfl
theorem SlK.cellQ {k n : Nat} {w : World} {v : Value} {xs : List Value} (h : SlK k w v n xs) : isCell v = true := by
  obtain ⟨_, _, _, hv, _⟩ := h
  rw [hv]; rfl
theorem cellsQ_app (L M : List RV) : cellsQ (L ++ M) = cellsQ L ++ cellsQ M := by simp [cellsQ]
end Go.Vc
namespace Go.Proofs.YtfadcafacpaldaaGreatDoor
open Go.Vc
/-- The program's refuter holds these steps. -/
structure RfW (lo : Nat) (eR : TypeId) (w : World) (b bm : Nat) (u : Value) (st : List RV) : Prop where
  blk : Blk eR w b [u, .map (some bm)]
  row : OwK 4 lo t_impl_Resolvent w u st.length (cellsQ st)
  set : MapS w bm (fun k => ∃ x ∈ st, k = ((keyC x.2.c : Nat) : Int))
  own : OwP lo t_i64 w (st.map fun x => (x.1, x.2.c))
  lob : lo ≤ b
  lom : lo ≤ bm
theorem RfW.ext {lo : Nat} {eR : TypeId} {w w' : World} {b bm : Nat} {u : Value} {st : List RV} (h : RfW lo eR w b bm u st) (x : Ext w w') : RfW lo eR w' b bm u st :=
  ⟨h.blk.ext x, h.row.ext x, h.set.ext x, h.own.ext x, h.lob, h.lom⟩
theorem ok_impl_refuter_add {lo : Nat} {eR : TypeId} {w : World} {b bm : Nat} {u : Value} {st : List RV} {x : RV} (he1 : t_i64 ≠ eR) (he2 : t_impl_Resolvent ≠ eR) (h : RfW lo eR w b bm u st) (hx : Ow lo t_i64 w x.1 (ints x.2.c)) (hne : ∀ p ∈ st, ∀ c, p.1.ownBlock = some c → x.1.ownBlock ≠ some c) (hc : ClOk x.2.c) (hst : ∀ y ∈ st, ClOk y.2.c) (hn : st.length ≤ 1000) (hlo : lo ≤ w.heap.size) :
    Cal Tryz.prog f_impl_refuter_add #[.pointer (some ⟨b, 0, none⟩), valQ x] w fun r w' =>
      (x.2.c ∈ st.map (fun y => y.2.c) ∧ r = .bool false ∧ Ext w w') ∨ (x.2.c ∉ st.map (fun y => y.2.c) ∧ r = .bool x.2.c.isEmpty ∧ Ch (fun k => k = b ∨ k = bm ∨ u.ownBlock = some k) w w' ∧ ∃ u', RfW lo eR w' b bm u' (st ++ [x])) := by
  apply c_impl_refuter_add; unfold S_impl_refuter_add
  obtain ⟨xv, xc, xf, xs, xu⟩ := x
  have hx : Ow lo t_i64 w xv (ints xc) := hx
  have hc : ClOk xc := hc
  have hne : ∀ p ∈ st, ∀ c, p.1.ownBlock = some c → xv.ownBlock ≠ some c := hne
  refine iNew fun bx w1 e1 h1 BX => ?_
  have BX : Blk _ w1 bx [xv, .int .i64 xf, .int .i64 xs, .int .i64 xu] := BX
  have g := h.ext h1
  have hx1 := hx.ext h1
  refine iNil ?_
  refine iFa (iLdB g.blk (v := .map (some bm)) rfl ?_)
  refine iFa (iLdB BX (v := xv) rfl ?_)
  refine iRetQ (fun w' k => ok_impl_clauseKey (SlI.ext hx1.sl k) hc.1) ?_
  have hmem : (∃ y ∈ st, ((keyC xc : Nat) : Int) = ((keyC y.2.c : Nat) : Int)) ↔ xc ∈ st.map (fun y => y.2.c) := by
    rw [List.mem_map]
    constructor
    · rintro ⟨y, hy, e⟩
      exact ⟨y, hy, (keyC_inj hc (hst y hy) (by omega)).symm⟩
    · rintro ⟨y, hy, e⟩
      exact ⟨y, hy, by rw [e]⟩
  refine iSetLook (k := t_i64) (e := 4) g.set (by kernel_rfl) (by kernel_rfl) (zeroBool (by kernel_rfl)) (fun hno => ?_) (fun hyes => ?_)
  rotate_left
  · intro w2 h2
    exact iCndT rfl (.inl ⟨hmem.1 hyes, rfl, h1.trans h2⟩)
  intro w2 h2
  have g := g.ext h2
  have BX := BX.ext h2
  have hx2 := hx1.ext h2
  refine iCndF rfl ?_
  have hX2 := h1.trans h2
  refine iNil ?_
  refine iFa (iLdB g.blk (v := .map (some bm)) rfl ?_)
  refine iFa (iLdB BX (v := xv) rfl ?_)
  refine iRetQ (fun w' k => ok_impl_clauseKey (SlI.ext hx2.sl k) hc.1) ?_
  intro w3 h3
  have g := g.ext h3
  have BX := BX.ext h3
  have hx3 := hx2.ext h3
  have hX3 := hX2.trans h3
  refine iSetPut (k := t_i64) (e := 4) g.set (by kernel_rfl) (by kernel_rfl) fun w4 hm4 hch4 => ?_
  have hb4 : ¬ b = bm := fun e => g.set.ne_blk g.blk e
  have hbx4 : ¬ bx = bm := fun e => g.set.ne_blk BX e
  have blk4 := g.blk.ch hch4 hb4
  have BX4 := BX.ch hch4 hbx4
  have row4 := g.row.ch hch4 fun c hc' => g.set.ne_ow g.row c hc'
  have own4 := OwP.chQ g.own hch4 fun p hp c hc' e => g.set.ne_owI (g.own.1 p hp) c hc' e
  have hx4 := hx3.ch hch4 fun c hc' e => g.set.ne_owI hx3 c hc' e
  intro w5 h5
  have blk5 := blk4.ext h5
  have BX5 := BX4.ext h5
  have row5 := row4.ext h5
  have own5 := own4.ext h5
  have hx5 := hx4.ext h5
  have hm5 := hm4.ext h5
  refine iNil ?_
  refine iFa (iLdB blk5 (v := u) rfl ?_)
  refine iLdA BX5 rfl ?_
  intro w6 h6
  refine iBsQ fun bb w7 hbb h7 hB => ?_
  refine ⟨h7, ?_⟩
  intro w8 h8
  have h58 := (h6.trans h7).trans h8
  have blk8 := blk5.ext h58
  have BX8 := BX5.ext h58
  have row8 := row5.ext h58
  have own8 := own5.ext h58
  have hx8 := hx5.ext h58
  have hm8 := hm5.ext h58
  have hsl : SlK 4 w8 (.slice (some ⟨bb, 0, none⟩) 1 1) 1 [xv, .int .i64 xf, .int .i64 xs, .int .i64 xu] := (OwK.ofBlk (k := 4) (lo := 0) (n := 1) (hB.ext h8) (Nat.zero_le _) rfl (by omega)).sl
  have hsz : w.heap.size ≤ w8.heap.size := Nat.le_trans (Nat.le_trans hX3.size hch4.size) (Nat.le_trans h5.size h58.size)
  refine iAppK u_Simpl_Resolvent i_Simpl_Resolvent rfl (by decide) row8 hsl (fun y hy => by
    simp only [List.mem_cons, List.not_mem_nil, or_false] at hy
    rcases hy with rfl | rfl | rfl | rfl
    · exact hx8.cell
    · rfl
    · rfl
    · rfl) (by omega) (by omega) (by omega) fun u' w9 ho' hg hat => ?_
  have hg9 := grown_ch (S := fun k => u.ownBlock = some k) hg fun k hk => hk
  have hubx : u.ownBlock ≠ some bx := fun e => by have := (h.row.blk bx e).2; omega
  have blk9 := blk8.grown hg (row8.ne_blk blk8 he2)
  have BX9 := BX8.grown hg hubx
  have own9 := OwP.chQ own8 hg9 fun p hp c hc' hS => ne_owK (own8.1 p hp) row8 (by decide) c hc' hS
  have hx9 := hx8.ch hg9 fun c hc' hS => ne_owK hx8 row8 (by decide) c hc' hS
  have hm9 := hm8.ch hg9 fun hS => hm8.ne_ow row8 _ hS rfl
  refine iNil ?_
  refine iFa ?_
  intro w10 h10
  have blk10 := blk9.ext h10
  have BX10 := BX9.ext h10
  have own10 := own9.ext h10
  have hx10 := hx9.ext h10
  have hm10 := hm9.ext h10
  have ho10 := ho'.ext h10
  refine iStB blk10 (by simp) ho10.sl.cellQ fun hB11 => ?_
  have hu := Upd.setCell w10 b 0 u'
  have hch11 := hu.ch (S := fun k => k = b) rfl
  have hbx : bx ≠ b := fun e => by have := h.blk.lt; omega
  have BX11 := BX10.upd hu hbx
  have own11 := OwP.chQ own10 hch11 fun p hp c hc' hS => (own10.1 p hp).ne_blk blk10 he1 (by rw [hc', hS])
  have hx11 := hx10.ch hch11 fun c hc' hS => hx10.ne_blk blk10 he1 (by rw [hc', hS])
  have hm11 := hm10.ch hch11 fun hS => hb4 hS.symm
  have ho11 := ho10.ch hch11 fun c hc' hS => ho10.ne_blk blk10 he2 (by rw [hc', hS])
  intro w12 h12
  have BX12 := BX11.ext h12
  have hx12 := hx11.ext h12
  refine iFa (iLdB BX12 (v := xv) rfl ?_)
  refine iLenI (SlI.ext hx11.sl h12) ?_
  refine iEq ?_
  refine .inr ⟨fun hm => hno (hmem.2 hm), ?_, ?_, u', hB11.ext h12, ?_, ?_, ?_, h.lob, h.lom⟩
  · show Value.bool _ = Value.bool xc.isEmpty
    congr 1
    cases xc with
    | nil => rfl
    | cons a l => simp; omega
  · have c4 := (hX3.ch (S := fun k => k = b ∨ k = bm ∨ u.ownBlock = some k)).trans hch4 fun k e => .inl (.inr (.inl e))
    have c8 := (c4.trans (h5.ch (S := fun _ => False)) fun _ e => e.elim).trans (h58.ch (S := fun _ => False)) fun _ e => e.elim
    have c9 := c8.trans hg9 fun k e => .inl (.inr (.inr e))
    have c10 := c9.trans (h10.ch (S := fun _ => False)) fun _ e => e.elim
    have c11 := c10.trans hch11 fun k e => .inl (.inl e)
    exact c11.trans (h12.ch (S := fun _ => False)) fun _ e => e.elim
  · have := ho11.ext h12
    rw [cellsQ_app, List.length_append]
    exact this
  · obtain ⟨es, clock, q1, q2, q3⟩ := hm11.ext h12
    refine ⟨es, clock, q1, fun y hy => ?_, fun k hk => ?_⟩
    · obtain ⟨k, r1, r2, r3⟩ := q2 y hy
      refine ⟨k, r1, r2, ?_⟩
      rcases r3 with ⟨z, hz, e⟩ | e
      · exact ⟨z, List.mem_append_left _ hz, e⟩
      · exact ⟨(xv, ⟨xc, xf, xs, xu⟩), by simp, e⟩
    · obtain ⟨z, hz, e⟩ := hk
      refine q3 k ?_
      rcases List.mem_append.1 hz with hz | hz
      · exact .inl ⟨z, hz, e⟩
      · simp at hz; subst hz
        exact .inr e
  · rw [List.map_append]
    refine ⟨fun p hp => ?_, List.pairwise_append.2 ⟨own11.2, List.pairwise_singleton _ _, fun p hp q hq c hc' hc2 => ?_⟩⟩
    · rcases List.mem_append.1 hp with hp | hp
      · exact ((own11.ext h12).1 p hp)
      · simp at hp; subst hp
        exact hx12
    · simp at hq; subst hq
      obtain ⟨y, hy, rfl⟩ := List.mem_map.1 hp
      exact hne y hy c hc' hc2
end Go.Proofs.YtfadcafacpaldaaGreatDoor

/- Steps for pairs of numbers laid out as arrays. No function in sight. Conditions: none. -/
namespace Go.Vc
/-- An array of two numbers. -/
theorem iArr2 {P : Program} {w : World} {t t' : TypeId} {a b : Int} {K : Value → Prop} (hu : P.underlying t = some (.array 2 t')) (hi : (P.info? t).map (fun i => i.zero) = some (some (.agg #[.int .i64 0, .int .i64 0]))) (hs : (P.info? t').map (fun i => i.size) = some 1)
    (h : K (.agg #[.int .i64 a, .int .i64 b])) : xR P w (Instr.build t #[(0, .int .i64 a), (1, .int .i64 b)]) K := by
  obtain ⟨i, hi', hz⟩ := Option.map_eq_some_iff.1 hi
  obtain ⟨i2, hi2, hz2⟩ := Option.map_eq_some_iff.1 hs
  refine ⟨_, fun w' _ => ?_, h⟩
  simp [Instr.build, zeroValue, run_info hi', hz, run_underlying hu, run_size hi2, hz2, Instr.fill, Value.cells]
end Go.Vc

/- Plain law of the search for refutations, fifth part: one pair in both orders, one order after the other. No program in sight. Conditions: none. -/
namespace Go.Vc
/-- One pair in one order. -/
def hstep (a b v : Nat) (st : RfSt) : RfSt :=
  if st.2 then st else
  match resC (st.1.getD a default).c (st.1.getD b default).c v with
  | some r => addS st ⟨r, a, b, v⟩
  | none => st
theorem grew_hstep (a b v : Nat) (st : RfSt) : Grew st (hstep a b v st) := by
  unfold hstep
  split
  · exact .refl _
  · split
    · exact grew_add _ _
    · exact .refl _
theorem RInv.hstep {st : RfSt} (h : RInv st) (a b v : Nat) : RInv (hstep a b v st) := by
  unfold Go.Vc.hstep
  split
  · exact h
  · rename_i h2
    have h2 : st.2 = false := by simpa using h2
    split
    · rename_i r hr
      exact h.add h2 (resC_ok hr)
    · exact h
theorem pstep_two {st : RfSt} (h : RInv st) {i j : Nat} (hi : i < st.1.length) (hj : j < st.1.length) (v : Nat) : pstep j i v st = hstep j i v (hstep i j v st) := by
  cases h2 : st.2
  · have hci : ClOk (st.1.getD i default).c := by
      have := h.ok st.1[i] (List.getElem_mem hi)
      simpa [List.getD_eq_getElem?_getD, hi] using this
    have g := grew_hstep i j v st
    have gi := g.get i hi
    have gj := g.get j hj
    cases hr : resC (st.1.getD i default).c (st.1.getD j default).c v with
    | none =>
      have e : hstep i j v st = st := by unfold hstep; rw [h2, hr]; rfl
      rw [e]
      unfold pstep hstep
      rw [h2, hr]
      first | done | rfl
    | some r =>
      have hn := resC_one hci (show resC (st.1.getD i default).c (st.1.getD j default).c v ≠ none by rw [hr]; simp)
      have e : pstep j i v st = hstep i j v st := by
        unfold pstep hstep
        rw [h2, hr]
      rw [e]
      generalize hh : hstep i j v st = st' at *
      unfold hstep
      rw [gi, gj, hn]
      split <;> rfl
  · have e : hstep i j v st = st := by unfold hstep; rw [h2]; rfl
    rw [e]
    unfold pstep hstep
    rw [h2]; rfl
end Go.Vc

/- Contracts: the program's refuter resolves a pair of steps on every variable, in both orders. Conditions: none. -/
namespace Go.Vc
theorem iBsP2 {w : World} {e : TypeId} {a b c d z1 z2 : Value} {K : Value → World → Prop} (h : ∀ bb w', bb = w.heap.size ∧ w'.heap.size = bb + 1 → Ext w w' → Blk e w' bb [a, b, c, d] → K (.slice (some ⟨bb, 0, none⟩) 2 2) w') :
    xBs e (Value.cells (.agg #[z1, z2])) 2 2 [(0, .agg #[a, b]), (1, .agg #[c, d])] w K := by
  refine ⟨#[a, b, c, d], ?_, h _ _ ⟨rfl, by simp⟩ (Ext.alloc w _) (Blk.new w #[a, b, c, d] e)⟩
  simp [Instr.fill, Value.cells, show Array.range 4 = #[0, 1, 2, 3] from rfl]
theorem iIaAQ {len b j : Nat} {k : IntKind} {K : Value → Prop} (hj : j < len) (h : K (.pointer (some ⟨b, j, none⟩))) : xIaA len 1 (.pointer (some ⟨b, 0, none⟩)) (.int k (j : Int)) K := by
  refine ⟨_, _, _, rfl, rfl, by omega, by omega, ?_⟩
  have : (⟨b, 0, none⟩ : Addr).add ((j : Int).toNat * 1) = ⟨b, j, none⟩ := by
    simp only [Addr.add, Int.toNat_natCast, Nat.mul_one]; split
    · rename_i e; simp [e]
    · simp
  rw [this]; exact h
/-- A whole element of k cells. -/
theorem iRdAgg {sz n j : Nat} {w : World} {v : Value} {xs ys : List Value} {k : IntKind} {K : Value → Prop} (hs : SlK sz w v n xs) (hj : j < n) (hl : ys.length = sz) (hy : ∀ i, i < sz → xs[j * sz + i]? = ys[i]?) (h : K (.agg ys.toArray)) : xIa sz v (.int k (j : Int)) fun p => xLdA w sz p K := by
  refine iIaK hs hj fun b o hc => ?_
  refine ⟨_, ys.toArray, rfl, by simpa using hl, fun i hi => ?_, h⟩
  have e : (⟨b, o, none⟩ : Addr).add i = ⟨b, o + i, none⟩ := by
    simp only [Addr.add]; split
    · rename_i e; simp [e]
    · rfl
  rw [e, hc i hi, hy i hi]
  simp
theorem fillQ4 {a b c d z1 z2 z3 z4 : Value} (ha : isCell a = true) (hb : isCell b = true) (hc : isCell c = true) (hd : isCell d = true) : Instr.fill ((#[(0, 1), (1, 1), (2, 1), (3, 1)] : Array (Nat × Nat))[·]?) #[z1, z2, z3, z4] [(0, a), (1, b), (2, c), (3, d)] = some #[a, b, c, d] := by
  simp [Instr.fill, isCell_cells ha, isCell_cells hb, isCell_cells hc, isCell_cells hd]
theorem snd_getD (st : List RV) {i : Nat} (hi : i < st.length) : (st.map Prod.snd).getD i default = (gt st i).2 := by
  rw [gt_eq hi]; simp [List.getD_eq_getElem?_getD, hi]
/-- The two orders, one after the other. -/
def ord2 (i j v : Nat) (S : RfSt) : Nat → RfSt
  | 0 => S
  | 1 => hstep i j v S
  | _ => hstep j i v (hstep i j v S)
theorem ord2_next {i j v : Nat} {S : RfSt} {k : Nat} (hk : k < 2) : ord2 i j v S (k + 1) = hstep (if k = 0 then i else j) (if k = 0 then j else i) v (ord2 i j v S k) := by
  rcases k with _ | _ | k
  · rfl
  · rfl
  · omega
theorem ord2_done {i j v : Nat} {S : RfSt} {k : Nat} (hk : k < 2) (h : (ord2 i j v S (k + 1)).2 = true) : ord2 i j v S 2 = ord2 i j v S (k + 1) := by
  rcases k with _ | _ | k
  · show hstep j i v (hstep i j v S) = hstep i j v S
    have h : (hstep i j v S).2 = true := h
    generalize hstep i j v S = T at *
    unfold hstep
    rw [if_pos h]
  · rfl
  · omega
theorem ord2_inv {i j v : Nat} {S : RfSt} (h : RInv S) : ∀ k, RInv (ord2 i j v S k)
  | 0 => h
  | 1 => h.hstep i j v
  | _ + 2 => (h.hstep i j v).hstep j i v
theorem ord2_grew (i j v : Nat) (S : RfSt) : ∀ k, Grew S (ord2 i j v S k)
  | 0 => .refl S
  | 1 => grew_hstep i j v S
  | _ + 2 => (grew_hstep i j v S).trans (grew_hstep j i v _)
end Go.Vc
namespace Go.Proofs.YtfadcafacpaldaaGreatDoor
open Go.Vc
theorem RfW.at {lo : Nat} {eR : TypeId} {w : World} {b bm : Nat} {u : Value} {st : List RV} (h : RfW lo eR w b bm u st) {i : Nat} (hi : i < st.length) : Ow lo t_i64 w (gt st i).1 (ints (gt st i).2.c) := by
  have hm : gt st i ∈ st := by rw [gt_eq hi]; exact List.getElem_mem hi
  exact h.own.1 ((gt st i).1, (gt st i).2.c) (List.mem_map.2 ⟨_, hm, rfl⟩)
theorem ok_impl_refuter_resolvePair {lo : Nat} {eR : TypeId} {w : World} {b bm : Nat} {u : Value} {st : List RV} {i j : Nat} (he1 : t_i64 ≠ eR) (he2 : t_impl_Resolvent ≠ eR) (he3 : 100 ≠ eR) (h : RfW lo eR w b bm u st) (hI : RInv (st.map Prod.snd, false)) (hi : i < st.length) (hj : j < st.length) (hlo : lo ≤ w.heap.size) :
    Cal Tryz.prog f_impl_refuter_resolvePair #[.pointer (some ⟨b, 0, none⟩), .int .i64 (i : Int), .int .i64 (j : Int)] w fun r w' => ∃ u' st' t, RfW lo eR w' b bm u' st' ∧ Ch (fun k => lo ≤ k) w w' ∧ remV j i 0 (st.map Prod.snd, false) = (st'.map Prod.snd, t) ∧ r = .bool t := by
  apply c_impl_refuter_resolvePair; unfold S_impl_refuter_resolvePair
  have hgl : ∀ {A : List RV} {t : Bool} {S : RfSt}, Grew (st.map Prod.snd, false) S → S = (A.map Prod.snd, t) → st.length ≤ A.length := fun g e => by
    have := g.len
    rw [e] at this
    simpa using this
  refine iLp (fun v : Nat => [.int .i64 (v : Int)]) (fun v w' => v ≤ 6 ∧ ∃ u' st', RfW lo eR w' b bm u' st' ∧ Ch (fun k => lo ≤ k) w w' ∧ remV j i 0 (st.map Prod.snd, false) = remV j i v (st'.map Prod.snd, false) ∧ RInv (st'.map Prod.snd, false) ∧ st.length ≤ st'.length) (fun v => 6 - v) 0 rfl ⟨Nat.zero_le _, u, st, h, (Ext.refl _).ch, rfl, hI, Nat.le_refl _⟩ ?_
  rintro v w2 Kn ⟨hv, u1, st1, h1, hc1, hr1, hI1, hl1⟩ hKn
  have hlo2 : lo ≤ w2.heap.size := Nat.le_trans hlo hc1.size
  intro _
  simp only [gx]
  refine iLt (iCndP (fun h3 => ?_) (fun h3 => ?_))
  rotate_left
  · obtain rfl : v = 6 := by omega
    exact ⟨u1, st1, false, h1, hc1, hr1, rfl⟩
  have hv6 : v < 6 := by omega
  refine iArr2 (t' := t_i64) (by kernel_rfl) (by kernel_rfl) (by kernel_rfl) ?_
  refine iArr2 (t' := t_i64) (by kernel_rfl) (by kernel_rfl) (by kernel_rfl) ?_
  refine iBsP2 fun bb w3 hbb h3x hB => ?_
  refine iLenL ?_
  have h2 := h1.ext h3x
  refine iLp (fun k : Nat => [.int .i64 (k : Int)]) (fun k w' => k ≤ 2 ∧ Blk 100 w' bb [.int .i64 (i : Int), .int .i64 (j : Int), .int .i64 (j : Int), .int .i64 (i : Int)] ∧ ∃ u' st', RfW lo eR w' b bm u' st' ∧ Ch (fun k => lo ≤ k) w w' ∧ ord2 i j v (st1.map Prod.snd, false) k = (st'.map Prod.snd, false)) (fun k => 2 - k) 0 rfl ⟨Nat.zero_le _, hB, u1, st1, h2, hc1.trans (h3x.ch (S := fun _ => False)) (fun _ e => e.elim), rfl⟩ ?_
  rintro k w4 Kn2 ⟨hk, hB4, u2, st2, h4, hc4, hr4⟩ hKn2
  have hlo4 : lo ≤ w4.heap.size := Nat.le_trans hlo hc4.size
  have hI4 : RInv (st2.map Prod.snd, false) := by rw [← hr4]; exact ord2_inv hI1 k
  have hl4 : st1.length ≤ st2.length := by
    have := (ord2_grew i j v (st1.map Prod.snd, false) k).len
    rw [hr4] at this
    simpa using this
  intro _
  simp only [gx]
  refine iLt (iCndP (fun h5 => ?_) (fun h5 => ?_))
  rotate_left
  · obtain rfl : k = 2 := by omega
    refine iAdd (by omega) ?_
    refine hKn (v + 1) _ ⟨by omega, u2, st2, h4, hc4, ?_, hI4, by omega⟩ (by omega)
    rw [hr1, remV_step hv6, pstep_two hI1 (by simp; omega) (by simp; omega), ← hr4]
    rfl
  have hk2 : k < 2 := by omega
  -- which order
  generalize hA : (if k = 0 then i else j) = A at *
  generalize hC : (if k = 0 then j else i) = C at *
  have hord := ord2_next (i := i) (j := j) (v := v) (S := (st1.map Prod.snd, false)) hk2
  rw [hA, hC, hr4] at hord
  have hAl : A < st2.length := by subst hA; split <;> omega
  have hCl : C < st2.length := by subst hC; split <;> omega
  refine iRdAgg (OwK.ofBlk (k := 2) (lo := 0) (n := 2) hB4 (Nat.zero_le _) rfl (by decide)).sl (by omega) (ys := [.int .i64 (A : Int), .int .i64 (C : Int)]) rfl (fun q hq => ?_) ?_
  · rcases k with _ | _ | k
    · subst hA; subst hC
      rcases q with _ | _ | q
      · rfl
      · rfl
      · omega
    · subst hA; subst hC
      rcases q with _ | _ | q
      · rfl
      · rfl
      · omega
    · omega
  refine iNew fun bx w5 hbx h5' BX => ?_
  have hB5 := hB4.ext h5'
  have g5 := h4.ext h5'
  refine iStAB BX rfl rfl (by intro y hy; simp at hy; rcases hy with rfl | rfl <;> rfl) fun w6 hu6 BX6 => ?_
  have hbxn : bx ≠ bb := by have := hB4.lt; omega
  have hX6 : Ext w4 w6 := h5'.upd hu6 (by omega)
  have g6 := h4.ext hX6
  have hB6 := hB4.ext hX6
  have BX6 : Blk _ w6 bx [.int .i64 (A : Int), .int .i64 (C : Int)] := BX6
  refine iNil (iFa (iLdB g6.blk (v := u2) rfl ?_))
  refine iIaAQ (j := 0) (by decide) (iLdB BX6 (v := .int .i64 (A : Int)) rfl ?_)
  refine iFldQ (f := 0) (x := (gt st2 A).1) g6.row.sl hAl (by decide) (by rw [cellsQ_at hAl 0 (by decide)]; rfl) ?_
  refine iNil (iFa (iLdB g6.blk (v := u2) rfl ?_))
  refine iIaAQ (j := 1) (by decide) (iLdB BX6 (v := .int .i64 (C : Int)) rfl ?_)
  refine iFldQ (f := 0) (x := (gt st2 C).1) g6.row.sl hCl (by decide) (by rw [cellsQ_at hCl 0 (by decide)]; rfl) ?_
  intro w7 h7
  have g7 := g6.ext h7
  have hokA : ClOk (gt st2 A).2.c := hI4.ok _ (List.mem_map.2 ⟨_, by rw [gt_eq hAl]; exact List.getElem_mem hAl, rfl⟩)
  have hokC : ClOk (gt st2 C).2.c := hI4.ok _ (List.mem_map.2 ⟨_, by rw [gt_eq hCl]; exact List.getElem_mem hCl, rfl⟩)
  refine iCall ((ok_impl_resolve (g7.at hAl).sl (g7.at hCl).sl hokA hokC v hv6).mono ?_)
  rintro _ w8 ⟨h8, uv, rfl, hres⟩
  refine iE20 (iE21 ?_)
  intro w9 h9
  have hX9 := ((hX6.trans h7).trans h8).trans h9
  have g9 := h4.ext hX9
  have hB9 := hB4.ext hX9
  have BX9 := BX6.ext ((h7.trans h8).trans h9)
  have hc9 : Ch (fun k => lo ≤ k) w w9 := hc4.trans (hX9.ch (S := fun _ => False)) fun _ e => e.elim
  have hlo9 : lo ≤ w9.heap.size := Nat.le_trans hlo hc9.size
  refine iJnPQ (fun xs w' => ∃ u' st' t, xs = [.bool t] ∧ RfW lo eR w' b bm u' st' ∧ Ch (fun k => lo ≤ k) w w' ∧ Blk 100 w' bb [.int .i64 (i : Int), .int .i64 (j : Int), .int .i64 (j : Int), .int .i64 (i : Int)] ∧ ord2 i j v (st1.map Prod.snd, false) (k + 1) = (st'.map Prod.snd, t)) (fun J hJ => ?_) (fun xs w10 hCx => ?_)
  · have hst : hstep A C v (st2.map Prod.snd, false) = match resC (gt st2 A).2.c (gt st2 C).2.c v with
      | some r => addS (st2.map Prod.snd, false) ⟨r, A, C, v⟩
      | none => (st2.map Prod.snd, false) := by
      unfold hstep
      rw [snd_getD _ hAl, snd_getD _ hCl]
      rfl
    cases hrc : resC (gt st2 A).2.c (gt st2 C).2.c v with
    | none =>
      refine iCndF rfl ?_
      refine hJ _ _ ⟨u2, st2, false, rfl, g9, hc9, hB9, ?_⟩
      rw [hord, hst, hrc]
    | some r =>
      rw [hrc] at hres
      have hres := hres r rfl
      refine iCndT rfl ?_
      refine iIaAQ (j := 0) (by decide) (iLdB BX9 (v := .int .i64 (A : Int)) rfl ?_)
      refine iIaAQ (j := 1) (by decide) (iLdB BX9 (v := .int .i64 (C : Int)) rfl ?_)
      have huo := hres.ext h9
      refine iBuild (cs := #[uv, .int .i64 (A : Int), .int .i64 (C : Int), .int .i64 (v : Int)]) (fillQ4 huo.cell rfl rfl rfl) ?_
      have hrok : ClOk r := resC_ok hrc
      have hlen2 : st2.length ≤ 729 := by have := hI4.len; simpa using this
      refine iCall ((ok_impl_refuter_add (x := (uv, ⟨r, A, C, v⟩)) he1 he2 g9 (huo.mono (by have := hX6.size; have := h7.size; omega)) (fun p hp c hc hc' => ?_) hrok (fun y hy => hI4.ok _ (List.mem_map_of_mem hy)) (by omega) hlo9).mono ?_)
      · have g := (g7.own.1 (p.1, p.2.c) (List.mem_map.2 ⟨p, hp, rfl⟩)).blk c hc
        have := (huo.blk c hc').1
        omega
      · intro z w11 hz
        rcases hz with ⟨hm, rfl, hX⟩ | ⟨hm, rfl, hch, u', g'⟩
        · refine hJ _ _ ⟨u2, st2, false, rfl, g9.ext hX, hc9.trans (hX.ch (S := fun _ => False)) (fun _ e => e.elim), hB9.ext hX, ?_⟩
          rw [hord, hst, hrc]
          show addS (st2.map Prod.snd, false) _ = _
          unfold addS
          rw [if_pos (by rw [List.map_map]; exact hm)]
        · refine hJ _ _ ⟨u', _, r.isEmpty, rfl, g', hc9.trans hch (fun c hc => ?_), hB9.ch hch (fun hc => ?_), ?_⟩
          · rcases hc with rfl | rfl | hc
            · exact .inl g9.lob
            · exact .inl g9.lom
            · exact .inl (g9.row.blk c hc).1
          · rcases hc with rfl | rfl | hc
            · exact hB9.ne_blk g9.blk he3 rfl
            · exact g9.set.ne_blk hB9 rfl
            · exact OwK.ne_blk g9.row hB9 (by decide) hc
          · rw [hord, hst, hrc]
            show addS (st2.map Prod.snd, false) _ = _
            unfold addS
            rw [if_neg (by rw [List.map_map]; exact hm), List.map_append]
            rfl
  · obtain ⟨u', st', t, rfl, g', hc', hB', hr'⟩ := hCx
    intro _
    simp only [gx]
    cases t with
    | true =>
      refine iCndT rfl ⟨u', st', true, g', hc', ?_, rfl⟩
      have hd := ord2_done (i := i) (j := j) (v := v) (S := (st1.map Prod.snd, false)) hk2 (by rw [hr'])
      rw [hr1, remV_step hv6, pstep_two hI1 (by simp; omega) (by simp; omega)]
      have : hstep j i v (hstep i j v (st1.map Prod.snd, false)) = (st'.map Prod.snd, true) := by rw [← hr', ← hd]; rfl
      rw [this]
      exact remV_done j i (v + 1) rfl
    | false =>
      refine iCndF rfl ?_
      refine iAdd (by omega) ?_
      exact hKn2 (k + 1) _ ⟨by omega, hB', u', st', g', hc', hr'⟩ (by omega)
end Go.Proofs.YtfadcafacpaldaaGreatDoor

/- Plain law of the search for refutations, sixth part: each step is given or is a resolvent of two steps before it. No program in sight. Conditions: none. -/
namespace Go.Vc
def StepOk (L : List (List Int)) (st : List Rs) (k : Nat) : Prop :=
  ((st.getD k default).f = -1 ∧ (st.getD k default).s = -1 ∧ (st.getD k default).v = -1 ∧ (st.getD k default).c ∈ L) ∨
  ∃ a b v : Nat, (st.getD k default).f = (a : Int) ∧ (st.getD k default).s = (b : Int) ∧ (st.getD k default).v = (v : Int) ∧ a < k ∧ b < k ∧ v < 6 ∧ resC (st.getD a default).c (st.getD b default).c v = some (st.getD k default).c
def RGood (L : List (List Int)) (st : RfSt) : Prop := ∀ k, k < st.1.length → StepOk L st.1 k
theorem StepOk.grew {L : List (List Int)} {a b : RfSt} (g : Grew a b) {k : Nat} (hk : k < a.1.length) (h : StepOk L a.1 k) : StepOk L b.1 k := by
  unfold StepOk at *
  rw [g.get k hk]
  refine h.imp id ?_
  rintro ⟨x, y, v, h1, h2, h3, h4, h5, h6, h7⟩
  exact ⟨x, y, v, h1, h2, h3, h4, h5, h6, by rw [g.get x (by omega), g.get y (by omega)]; exact h7⟩
theorem RGood.add {L : List (List Int)} {st : RfSt} (h : RGood L st) {s : Rs} (hs : (s.f = -1 ∧ s.s = -1 ∧ s.v = -1 ∧ s.c ∈ L) ∨ ∃ a b v : Nat, s.f = (a : Int) ∧ s.s = (b : Int) ∧ s.v = (v : Int) ∧ a < st.1.length ∧ b < st.1.length ∧ v < 6 ∧ resC (st.1.getD a default).c (st.1.getD b default).c v = some s.c) : RGood L (addS st s) := by
  intro k hk
  have g := grew_add st s
  by_cases hl : k < st.1.length
  · exact StepOk.grew g hl (h k hl)
  · unfold addS at hk ⊢
    split at hk
    · omega
    · rename_i hn
      rw [if_neg hn]
      simp only [List.length_append, List.length_cons, List.length_nil] at hk
      obtain rfl : k = st.1.length := by omega
      have e : (st.1 ++ [s]).getD st.1.length default = s := by simp [List.getD_eq_getElem?_getD]
      have e2 : ∀ a, a < st.1.length → (st.1 ++ [s]).getD a default = st.1.getD a default := fun a ha => by simp [List.getD_eq_getElem?_getD, List.getElem?_append_left ha]
      unfold StepOk
      simp only [e]
      refine hs.imp id ?_
      rintro ⟨a, b, v, h1, h2, h3, h4, h5, h6, h7⟩
      exact ⟨a, b, v, h1, h2, h3, h4, h5, h6, by rw [e2 a h4, e2 b h5]; exact h7⟩
theorem RGood.pstep {L : List (List Int)} {st : RfSt} (h : RGood L st) {j i v : Nat} (hi : i < st.1.length) (hj : j < st.1.length) (hv : v < 6) : RGood L (pstep j i v st) := by
  unfold Go.Vc.pstep
  split
  · exact h
  · split
    · rename_i r hr
      exact h.add (.inr ⟨i, j, v, rfl, rfl, rfl, hi, hj, hv, hr⟩)
    · split
      · rename_i r hr
        exact h.add (.inr ⟨j, i, v, rfl, rfl, rfl, hj, hi, hv, hr⟩)
      · exact h
theorem RGood.remV {L : List (List Int)} {j i : Nat} : ∀ (n k : Nat) {st : RfSt}, RGood L st → i < st.1.length → j < st.1.length → k + n = 6 → RGood L (remV j i k st)
  | 0, k, st, h, _, _, e => by
    obtain rfl : k = 6 := by omega
    exact h
  | n + 1, k, st, h, hi, hj, e => by
    rw [remV_step (by omega)]
    have g := (grew_pstep j i k st).len
    exact RGood.remV n (k + 1) (h.pstep hi hj (by omega)) (by omega) (by omega) (by omega)
theorem RGood.remI {L : List (List Int)} {j : Nat} : ∀ (n k : Nat) {st : RfSt}, RGood L st → j < st.1.length → k + n = j → RGood L (remI j k st)
  | 0, k, st, h, _, e => by
    obtain rfl : k = j := by omega
    rw [remI_end]; exact h
  | n + 1, k, st, h, hj, e => by
    rw [remI_step (by omega)]
    have g := (grew_remV j k 0 st).len
    exact RGood.remI n (k + 1) (RGood.remV 6 0 h (by omega) hj (by omega)) (by omega) (by omega)
theorem RGood.remJ {L : List (List Int)} : ∀ (n j : Nat) {st : RfSt}, RGood L st → RGood L (remJ n j st)
  | 0, _, _, h => h
  | n + 1, j, st, h => by
    unfold Go.Vc.remJ
    split
    · exact h
    · rename_i hc
      rw [Bool.or_eq_true, decide_eq_true_eq, not_or] at hc
      exact RGood.remJ n (j + 1) (RGood.remI j 0 h (by omega) (by omega))
theorem RGood.startP {L : List (List Int)} : ∀ (M : List (List Int)) {st : RfSt}, RGood L st → (∀ c ∈ M, c ∈ L) → RGood L (startP M st)
  | [], _, h, _ => h
  | c :: M, st, h, hM => by
    unfold Go.Vc.startP
    split
    · exact h
    · exact RGood.startP M (h.add (.inl ⟨rfl, rfl, rfl, hM c List.mem_cons_self⟩)) fun d hd => hM d (List.mem_cons_of_mem _ hd)
theorem RInv.startP : ∀ (M : List (List Int)) {st : RfSt}, RInv st → (∀ c ∈ M, ClOk c) → RInv (startP M st)
  | [], _, h, _ => h
  | c :: M, st, h, hM => by
    unfold Go.Vc.startP
    split
    · exact h
    · rename_i h2
      exact RInv.startP M (h.add (by simpa using h2) (hM c List.mem_cons_self)) fun d hd => hM d (List.mem_cons_of_mem _ hd)
theorem RInv.nil : RInv ([], false) := ⟨fun _ h => (by cases h), List.nodup_nil, rfl, fun k h => by simp at h⟩
theorem RGood.nil (L : List (List Int)) : RGood L ([], false) := fun k h => by simp at h
/-- The end of the program's search. -/
def endP (L : List (List Int)) : RfSt := remJ 800 0 (startP (setA lessB L) ([], false))
theorem endP_inv {L : List (List Int)} (h : ∀ c ∈ L, ClOk c) : RInv (endP L) := by
  have O : OrdA lessB := ⟨⟨fun {a b} h => lessB_asymm a b h, fun {a b c} h k => lessB_trans a b c h k⟩, fun {a b} h k => lessB_anti a b h k⟩
  exact RInv.remJ (RInv.startP _ RInv.nil fun c hc => h c ((mem_setA O).1 hc)) 800 0
theorem endP_good (L : List (List Int)) : RGood L (endP L) := by
  have O : OrdA lessB := ⟨⟨fun {a b} h => lessB_asymm a b h, fun {a b c} h k => lessB_trans a b c h k⟩, fun {a b} h k => lessB_anti a b h k⟩
  exact RGood.remJ 800 0 (RGood.startP _ (RGood.nil L) fun c hc => (mem_setA O).1 hc)
/-- At the end nothing is left to do. -/
theorem endP_empty {L : List (List Int)} (h : ∀ c ∈ L, ClOk c) (h2 : (endP L).2 = true) : 0 < (endP L).1.length ∧ ((endP L).1.getD ((endP L).1.length - 1) default).c = [] := by
  have hI := endP_inv h
  have he := hI.em
  rw [h2] at he
  have he := of_decide_eq_true he.symm
  obtain ⟨x, hx, e⟩ := List.mem_map.1 he
  obtain ⟨i, hi, rfl⟩ := List.getElem_of_mem hx
  refine ⟨by omega, ?_⟩
  by_cases hl : i + 1 < (endP L).1.length
  · exact absurd (by simpa [List.getD_eq_getElem?_getD, hi] using e) (hI.la i hl)
  · rw [show (endP L).1.length - 1 = i by omega]
    simpa [List.getD_eq_getElem?_getD, hi] using e
end Go.Vc

/- Contracts: the program's refuter runs. Conditions: none. -/
namespace Go.Vc
theorem startP_done {L : List (List Int)} {st : RfSt} (h : st.2 = true) : startP L st = st := by
  cases L with
  | nil => rfl
  | cons c l => unfold startP; rw [if_pos h]
theorem startP_step {c : List Int} {L : List (List Int)} {st : RfSt} (h : st.2 = false) : startP (c :: L) st = startP L (addS st ⟨c, -1, -1, -1⟩) := by
  show (if st.2 then st else _) = _
  rw [h]; rfl
theorem drop_gt {α : Type} [Inhabited α] {L : List α} {k : Nat} (h : k < L.length) : L.drop k = gt L k :: L.drop (k + 1) := by
  rw [gt_eq h]; exact List.drop_eq_getElem_cons h
end Go.Vc
namespace Go.Proofs.YtfadcafacpaldaaGreatDoor
open Go.Vc
theorem ok_impl_refuter_run {lo : Nat} {eR : TypeId} {w : World} {b bm : Nat} {u v : Value} {P : List VL} (he1 : t_i64 ≠ eR) (he2 : t_impl_Resolvent ≠ eR) (he3 : 100 ≠ eR) (he4 : t_Si64 ≠ eR) (h : RfW lo eR w b bm u []) (hs : RdRows w v P) (hlen : P.length ≤ 1048576) (hok : ∀ p ∈ P, ClOk p.2) (hlo : lo ≤ w.heap.size) :
    Cal Tryz.prog f_impl_refuter_run #[.pointer (some ⟨b, 0, none⟩), v] w fun r w' => ∃ u' st' t, RfW lo eR w' b bm u' st' ∧ Ch (fun k => lo ≤ k) w w' ∧ endP (P.map Prod.snd) = (st'.map Prod.snd, t) ∧ r = .bool t := by
  apply c_impl_refuter_run; unfold S_impl_refuter_run
  refine iCall ((ok_impl_copyLists hs hlen fun p hp => by have := (hok p hp).len; omega).mono ?_)
  rintro r1 w1 ⟨h1, Q, hQ, hQr, hQs⟩
  have hQe : evL Q = Q.map Prod.fst := List.map_congr_left fun p hp => encV_eq (hQr.1 p hp).cell
  have hQl : Q.length = P.length := by have := congrArg List.length hQs; simpa using this
  refine iCall ((ok_impl_sortedLists (L := Q) (by rw [hQe]; exact hQ) (fun p hp => by rw [encV_eq (hQr.1 p hp).cell]; exact (hQr.1 p hp).mono (Nat.zero_le _)) (by omega)).mono ?_)
  rintro r2 w2 ⟨M, hM, hch, hMs, L', hp, hsub⟩
  have hQr2 : OwP w.heap.size t_i64 w2 Q := OwP.chQ hQr hch fun p hp c hc hc' => (hQr.1 p hp).ne_ow hQ (by decide) hc hc'
  have hMr : OwP w.heap.size t_i64 w2 M := by
    have := hQr2.perm hp.symm
    exact ⟨fun p hp => this.1 p (hsub.subset hp), this.2.sublist hsub⟩
  have hMe : evL M = M.map Prod.fst := List.map_congr_left fun p hp => encV_eq (hMr.1 p hp).cell
  rw [hMe] at hM
  have hMl : M.length ≤ P.length := by
    have := hsub.length_le
    rw [hp.length_eq] at this; omega
  have hMok : ∀ p ∈ M, ClOk p.2 := fun p hp' => by
    have h1 : p.2 ∈ Q.map Prod.snd := List.mem_map_of_mem (hp.subset (hsub.subset hp'))
    rw [hQs] at h1
    obtain ⟨q, hq, e⟩ := List.mem_map.1 h1
    rw [← e]; exact hok q hq
  have hX2 : Ext w w2 := h1.thenCh hch fun c hc => (hQ.blk c hc).1
  rw [hQs] at hMs
  refine iLenS hM.sl ?_
  rw [List.length_map]
  refine iLp (fun k : Nat => [.int .i64 (k : Int)]) (fun k w' => k ≤ M.length ∧ ∃ u' st', RfW lo eR w' b bm u' st' ∧ Ch (fun k => lo ≤ k) w w' ∧ startP (M.map Prod.snd) ([], false) = startP ((M.drop k).map Prod.snd) (st'.map Prod.snd, false) ∧ RInv (st'.map Prod.snd, false) ∧ Ow w.heap.size t_Si64 w' r2 (M.map Prod.fst) ∧ (∀ p ∈ M.drop k, Ow w.heap.size t_i64 w' p.1 (ints p.2)) ∧ ∀ x ∈ st', (x.1, x.2.c) ∈ M.take k) (fun k => M.length - k) 0 rfl
    ⟨Nat.zero_le _, u, [], h.ext hX2, hX2.ch, by rw [List.drop_zero]; rfl, RInv.nil, hM, fun p hp => hMr.1 p (by simpa using hp), fun x hx => by cases hx⟩ ?_
  rintro k w3 Kn ⟨hk, u1, st1, g1, hc1, hs1, hI1, ho1, hr1, hm1⟩ hKn
  have hlo3 : lo ≤ w3.heap.size := Nat.le_trans hlo hc1.size
  intro _
  simp only [gx]
  refine iLt (iCndP (fun h3 => ?_) (fun h3 => ?_))
  · have hk1 : k < M.length := by omega
    refine iIaV ho1.sl (by rw [List.length_map]; exact hk1) fun p hp => ?_
    refine iLd hp ?_
    rw [List.getElem_map, ← gt_eq hk1]
    have hd := drop_gt hk1
    have hxr := hr1 (gt M k) (by rw [hd]; exact List.mem_cons_self)
    refine iBuild (fillQ4 hxr.cell rfl rfl rfl) ?_
    have hxm : gt M k ∈ M := by rw [gt_eq hk1]; exact List.getElem_mem hk1
    have hpw : ∀ q ∈ M.take k, ∀ c, q.1.ownBlock = some c → (gt M k).1.ownBlock ≠ some c := fun q hq => by
      have e : M = M.take k ++ M.drop k := (List.take_append_drop k M).symm
      have := hMr.2
      rw [e, List.pairwise_append] at this
      exact this.2.2 q hq _ (by rw [hd]; exact List.mem_cons_self)
    refine iCall ((ok_impl_refuter_add (x := ((gt M k).1, (⟨(gt M k).2, -1, -1, -1⟩ : Rs))) he1 he2 g1 (hxr.mono hlo) (fun p hp c hc => hpw _ (hm1 p hp) c hc) (hMok _ hxm) (fun y hy => hI1.ok _ (List.mem_map_of_mem hy)) (by have := hI1.len; simp at this; omega) hlo3).mono ?_)
    intro z w4 hz
    have hst : startP (M.map Prod.snd) ([], false) = startP ((M.drop (k + 1)).map Prod.snd) (addS (st1.map Prod.snd, false) ⟨(gt M k).2, -1, -1, -1⟩) := by
      rw [hs1, hd, List.map_cons, startP_step rfl]
    have hI' := hI1.add rfl (s := (⟨(gt M k).2, -1, -1, -1⟩ : Rs)) (hMok _ hxm)
    have hnot : ∀ c, (c = b ∨ c = bm ∨ u1.ownBlock = some c) → r2.ownBlock ≠ some c ∧ ∀ p ∈ M.drop (k + 1), p.1.ownBlock ≠ some c := by
      intro c hc
      have hmem : ∀ p ∈ M.drop (k + 1), p ∈ M.drop k := fun p hp => by rw [hd]; exact List.mem_cons_of_mem _ hp
      rcases hc with rfl | rfl | hc
      · exact ⟨fun e => ho1.ne_blk g1.blk he4 e, fun p hp e => (hr1 p (hmem p hp)).ne_blk g1.blk he1 e⟩
      · exact ⟨fun e => g1.set.ne_owI ho1 _ e rfl, fun p hp e => g1.set.ne_owI (hr1 p (hmem p hp)) _ e rfl⟩
      · exact ⟨fun e => ne_owK ho1 g1.row (by decide) _ e hc, fun p hp e => ne_owK (hr1 p (hmem p hp)) g1.row (by decide) _ e hc⟩
    rcases hz with ⟨hmm, rfl, hX⟩ | ⟨hmm, rfl, hch', u', g'⟩
    · refine iCndF rfl ?_
      refine iAdd (by omega) ?_
      have e : addS (st1.map Prod.snd, false) ⟨(gt M k).2, -1, -1, -1⟩ = (st1.map Prod.snd, false) := by
        unfold addS
        rw [if_pos (by rw [List.map_map]; exact hmm)]
      rw [e] at hst
      refine hKn (k + 1) _ ⟨by omega, u1, st1, g1.ext hX, hc1.trans (hX.ch (S := fun _ => False)) (fun _ e => e.elim), hst, hI1, ho1.ext hX, fun p hp => (hr1 p (by rw [hd]; exact List.mem_cons_of_mem _ hp)).ext hX, fun x hx => ?_⟩ (by omega)
      rw [List.take_succ_eq_append_getElem hk1]
      exact List.mem_append_left _ (hm1 x hx)
    · have e : addS (st1.map Prod.snd, false) ⟨(gt M k).2, -1, -1, -1⟩ = ((st1 ++ [((gt M k).1, (⟨(gt M k).2, -1, -1, -1⟩ : Rs))]).map Prod.snd, (gt M k).2.isEmpty) := by
        unfold addS
        rw [if_neg (by rw [List.map_map]; exact hmm), List.map_append]
        rfl
      rw [e] at hst hI'
      have hc' : Ch (fun k => lo ≤ k) w w4 := hc1.trans hch' fun c hc => by
        rcases hc with rfl | rfl | hc
        · exact .inl g1.lob
        · exact .inl g1.lom
        · exact .inl (g1.row.blk c hc).1
      cases hem : (gt M k).2.isEmpty with
      | true =>
        refine iCndT (by first | rfl | exact hem) ?_
        rw [hem] at hst
        refine ⟨u', _, true, g', hc', ?_, rfl⟩
        unfold endP
        rw [← hMs, hst, startP_done (st := (_, true)) rfl]
        exact remJ_done 800 0 (st := (_, true)) rfl
      | false =>
        refine iCndF (by first | rfl | exact hem) ?_
        refine iAdd (by omega) ?_
        rw [hem] at hst hI'
        refine hKn (k + 1) _ ⟨by omega, u', _, g', hc', hst, hI', ho1.ch hch' fun c hc hS => (hnot c hS).1 hc, fun p hp => (hr1 p (by rw [hd]; exact List.mem_cons_of_mem _ hp)).ch hch' fun c hc hS => (hnot c hS).2 p hp hc, fun x hx => ?_⟩ (by omega)
        rw [List.take_succ_eq_append_getElem hk1]
        rcases List.mem_append.1 hx with hx | hx
        · exact List.mem_append_left _ (hm1 x hx)
        · simp only [List.mem_singleton] at hx
          subst hx
          exact List.mem_append_right _ (by rw [gt_eq hk1]; simp)
  · obtain rfl : k = M.length := by omega
    rw [List.drop_length] at hs1
    have hend : endP (P.map Prod.snd) = remJ 800 0 (st1.map Prod.snd, false) := by
      unfold endP
      rw [← hMs, hs1]; rfl
    clear hKn
    refine iLp (fun j : Nat => [.int .i64 (j : Int)]) (fun j w' => ∃ u' st' n, RfW lo eR w' b bm u' st' ∧ Ch (fun k => lo ≤ k) w w' ∧ endP (P.map Prod.snd) = remJ n j (st'.map Prod.snd, false) ∧ RInv (st'.map Prod.snd, false) ∧ 729 ≤ n + j ∧ j ≤ st'.length) (fun j => 729 - j) 0 rfl ⟨u1, st1, 800, g1, hc1, hend, hI1, by omega, Nat.zero_le _⟩ ?_
    rintro j w4 Kn ⟨u2, st2, n, g2, hc2, hr2, hI2, hn2, hj2⟩ hKn
    have hl2 : st2.length ≤ 729 := by have := hI2.len; simpa using this
    intro _
    simp only [gx]
    refine iNil (iFa (iLdB g2.blk (v := u2) rfl ?_))
    refine iLenK g2.row.sl ?_
    refine iLt (iCndP (fun h4 => ?_) (fun h4 => ?_))
    rotate_left
    · refine ⟨u2, st2, false, g2, hc2, ?_, rfl⟩
      rw [hr2]
      exact remJ_end (by simp; omega)
    have hjl : j < st2.length := by omega
    obtain ⟨m, rfl, hm⟩ := remJ_fuel hI2 hn2 (by simpa using hjl)
    rw [remJ_step rfl (by simpa using hjl)] at hr2
    refine iLp (fun i : Nat => [.int .i64 (i : Int)]) (fun i w' => i ≤ j ∧ ∃ u' st', RfW lo eR w' b bm u' st' ∧ Ch (fun k => lo ≤ k) w w' ∧ endP (P.map Prod.snd) = remJ m (j + 1) (remI j i (st'.map Prod.snd, false)) ∧ RInv (st'.map Prod.snd, false) ∧ j < st'.length) (fun i => j - i) 0 rfl ⟨Nat.zero_le _, u2, st2, g2, hc2, hr2, hI2, hjl⟩ ?_
    rintro i w5 Kn2 ⟨hi, u3, st3, g3, hc3, hr3, hI3, hj3⟩ hKn2
    have hlo5 : lo ≤ w5.heap.size := Nat.le_trans hlo hc3.size
    intro _
    simp only [gx]
    refine iLt (iCndP (fun h5 => ?_) (fun h5 => ?_))
    · refine iCall ((ok_impl_refuter_resolvePair (i := i) (j := j) he1 he2 he3 g3 hI3 (by omega) hj3 hlo5).mono ?_)
      rintro _ w6 ⟨u4, st4, t, g4, hc4, hr4, rfl⟩
      have hc4' := hc3.trans hc4 fun c hc => .inl hc
      rw [remI_step (by omega), hr4] at hr3
      cases t with
      | true =>
        refine iCndT rfl ⟨u4, st4, true, g4, hc4', ?_, rfl⟩
        rw [hr3, remI_done j (i + 1) rfl]
        exact remJ_done m (j + 1) rfl
      | false =>
        refine iCndF rfl ?_
        refine iAdd (by omega) ?_
        have hI4 := hI3.remV j i 0
        have hg4 := (grew_remV j i 0 (st3.map Prod.snd, false)).len
        rw [hr4] at hI4 hg4
        simp only [List.length_map] at hg4
        exact hKn2 (i + 1) _ ⟨by omega, u4, st4, g4, hc4', hr3, hI4, by omega⟩ (by omega)
    · obtain rfl : i = j := by omega
      rw [remI_end] at hr3
      refine iAdd (by omega) ?_
      have hl3 : st3.length ≤ 729 := by have := hI3.len; simpa using this
      exact hKn (i + 1) _ ⟨u3, st3, m, g3, hc3, hr3, hI3, hm, by omega⟩ (by omega)
end Go.Proofs.YtfadcafacpaldaaGreatDoor
