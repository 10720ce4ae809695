/- The proof of FnCrashesCard, part 5 of 7. Conditions: none. -/
import Derived.Test.YtapdkkijoflcpaaGreatDoorKR51d
import Derived.Maps.Own
import Derived.Shelf.Strings.Count
import Derived.Lib.ItoaNum
import Derived.Lib.AppendZerosOnto
import Derived.Lib.Overlaps
import Derived.Lib.ConvBytes
import Derived.Lib.AppendIntMem
/- Plain maths: a measure that the premises of both searches make smaller; sets of texts of formulas. No program in sight. Conditions: none. -/
namespace Go.Vc
def Fm.w2 (a : Fm) : Nat := 2 ^ a.wt
theorem Fm.w2_ge (a : Fm) : 2 ≤ a.w2 := by
  have := Nat.pow_le_pow_right (n := 2) (by omega) a.wt_pos
  simpa [Fm.w2] using this
theorem mul_ge2 {x y : Nat} (hx : 2 ≤ x) (hy : 2 ≤ y) : x + y ≤ x * y := by
  obtain ⟨a, rfl⟩ := Nat.exists_eq_add_of_le hx
  obtain ⟨b, rfl⟩ := Nat.exists_eq_add_of_le hy
  rw [Nat.add_mul, Nat.mul_add, Nat.mul_add]
  omega
theorem w2_and (a b : Fm) : (Fm.and a b).w2 = 4 * (a.w2 * b.w2) := by
  simp only [Fm.w2, Fm.wt, Nat.pow_add]; omega
theorem w2_or (a b : Fm) : (Fm.or a b).w2 = 2 * (a.w2 * b.w2) := by
  simp only [Fm.w2, Fm.wt, Nat.pow_add]; omega
theorem w2_imp (a b : Fm) : (Fm.imp a b).w2 = 2 * (a.w2 * b.w2) := by
  simp only [Fm.w2, Fm.wt, Nat.pow_add]; omega
theorem lt_and (a b : Fm) : a.w2 + b.w2 < (Fm.and a b).w2 := by
  rw [w2_and]
  have := mul_ge2 a.w2_ge b.w2_ge
  have := a.w2_ge
  omega
theorem lt_or (a b : Fm) : a.w2 + b.w2 < (Fm.or a b).w2 := by
  rw [w2_or]
  have := mul_ge2 a.w2_ge b.w2_ge
  have := a.w2_ge
  omega
theorem lt_imp (a b : Fm) : a.w2 + b.w2 < (Fm.imp a b).w2 := by
  rw [w2_imp]
  have := mul_ge2 a.w2_ge b.w2_ge
  have := a.w2_ge
  omega
theorem lt_imp_and (a b y : Fm) : (Fm.imp a (.imp b y)).w2 < (Fm.imp (.and a b) y).w2 := by
  rw [w2_imp, w2_imp, w2_imp, w2_and]
  have e : 2 * (4 * (a.w2 * b.w2) * y.w2) = 8 * (a.w2 * (b.w2 * y.w2)) := by rw [Nat.mul_assoc 4, Nat.mul_assoc a.w2]; omega
  have e2 : 2 * (a.w2 * (2 * (b.w2 * y.w2))) = 4 * (a.w2 * (b.w2 * y.w2)) := by rw [Nat.mul_left_comm a.w2]; omega
  rw [e, e2]
  have : 0 < a.w2 * (b.w2 * y.w2) := Nat.mul_pos (by have := a.w2_ge; omega) (Nat.mul_pos (by have := b.w2_ge; omega) (by have := y.w2_ge; omega))
  omega
theorem lt_imp_or (a b y : Fm) : (Fm.imp a y).w2 + (Fm.imp b y).w2 < (Fm.imp (.or a b) y).w2 := by
  rw [w2_imp, w2_imp, w2_imp, w2_or]
  have h1 := mul_ge2 a.w2_ge b.w2_ge
  have h2 : (a.w2 + b.w2) * y.w2 ≤ a.w2 * b.w2 * y.w2 := Nat.mul_le_mul_right _ h1
  rw [Nat.add_mul] at h2
  have e : 2 * (2 * (a.w2 * b.w2) * y.w2) = 4 * (a.w2 * b.w2 * y.w2) := by rw [Nat.mul_assoc 2]; omega
  rw [e]
  have : 0 < a.w2 * y.w2 := Nat.mul_pos (by have := a.w2_ge; omega) (by have := y.w2_ge; omega)
  omega
theorem lt_nest (x y z : Fm) : (Fm.imp y z).w2 + (Fm.imp x y).w2 < (Fm.imp (.imp x y) z).w2 := by
  rw [w2_imp, w2_imp, w2_imp, w2_imp]
  have h1 := mul_ge2 x.w2_ge z.w2_ge
  have h2 : (x.w2 + z.w2) * y.w2 ≤ x.w2 * z.w2 * y.w2 := Nat.mul_le_mul_right _ h1
  rw [Nat.add_mul] at h2
  have e : 2 * (2 * (x.w2 * y.w2) * z.w2) = 4 * (x.w2 * z.w2 * y.w2) := by rw [Nat.mul_assoc 2, Nat.mul_right_comm x.w2]; omega
  have e2 : z.w2 * y.w2 = y.w2 * z.w2 := Nat.mul_comm _ _
  rw [e]
  have : 0 < x.w2 * y.w2 := Nat.mul_pos (by have := x.w2_ge; omega) (by have := y.w2_ge; omega)
  omega
theorem Fm.wt_size : ∀ {a : Fm}, a.plain = true → a.size ≤ a.wt ∧ a.wt ≤ 2 * a.size
  | .var _, _ => by simp [Fm.size, Fm.wt]
  | .fls, _ => by simp [Fm.size, Fm.wt]
  | .and a b, h => by
    simp only [Fm.plain, Bool.and_eq_true] at h
    have h1 := Fm.wt_size h.1
    have h2 := Fm.wt_size h.2
    simp only [Fm.size, Fm.wt]; omega
  | .or a b, h => by
    simp only [Fm.plain, Bool.and_eq_true] at h
    have h1 := Fm.wt_size h.1
    have h2 := Fm.wt_size h.2
    simp only [Fm.size, Fm.wt]; omega
  | .imp a b, h => by
    simp only [Fm.plain, Bool.and_eq_true] at h
    have h1 := Fm.wt_size h.1
    have h2 := Fm.wt_size h.2
    simp only [Fm.size, Fm.wt]; omega
theorem par_len (b : Bool) (s : Str) : (par b s).length ≤ s.length + 2 := by cases b <;> simp [par]
theorem Fm.body_len : ∀ {a : Fm}, a.plain = true → a.body.length ≤ 5 * a.wt
  | .var _, _ => by simp [Fm.body, Fm.wt]
  | .fls, _ => by simp [Fm.body, Fm.wt]
  | .and a b, h => by
    simp only [Fm.plain, Bool.and_eq_true] at h
    have h1 := Fm.body_len h.1
    have h2 := Fm.body_len h.2
    have p1 := par_len (decide (a.own < 2)) a.body
    have p2 := par_len (decide (b.own < 3)) b.body
    simp only [Fm.body, Fm.wt, List.length_append, List.length_cons]; omega
  | .or a b, h => by
    simp only [Fm.plain, Bool.and_eq_true] at h
    have h1 := Fm.body_len h.1
    have h2 := Fm.body_len h.2
    have p1 := par_len (decide (a.own < 1)) a.body
    have p2 := par_len (decide (b.own < 2)) b.body
    simp only [Fm.body, Fm.wt, List.length_append, List.length_cons]; omega
  | .imp a b, h => by
    simp only [Fm.plain, Bool.and_eq_true] at h
    have h1 := Fm.body_len h.1
    have h2 := Fm.body_len h.2
    have p1 := par_len (decide (a.own < 1)) a.body
    have p3 := par_len (decide (a.own < 3)) a.body
    have := b.wt_pos
    simp only [Fm.body, Fm.wt]
    split
    · split
      · simp only [List.length_cons, List.length_nil]; omega
      · simp only [List.length_cons]; omega
    · simp only [List.length_append, List.length_cons]; omega
theorem lt_two_pow' (n : Nat) : n < 2 ^ n := Nat.lt_two_pow_self
theorem par_mem {b : Bool} {s : Str} {c : UInt8} (h : c ∈ par b s) : c = 40 ∨ c = 41 ∨ c ∈ s := by
  cases b
  · exact .inr (.inr h)
  · simp only [par, if_true, List.mem_cons, List.mem_append, List.not_mem_nil, or_false] at h
    rcases h with h | h | h
    · exact .inl h
    · exact .inr (.inr h)
    · exact .inr (.inl h)
theorem Fm.body_mem : ∀ {a : Fm}, a.good → ∀ c ∈ a.body, c ≠ 47 ∧ c ≠ 59
  | .var v, h, c, hc => by
    simp only [Fm.body, List.mem_singleton] at hc
    subst hc
    have h : v < 6 := h
    exact ⟨vl_ne h (by decide), vl_ne h (by decide)⟩
  | .fls, _, c, hc => by
    simp only [Fm.body, List.mem_singleton] at hc
    subst hc; decide
  | .and a b, h, c, hc => by
    simp only [Fm.body, List.mem_append, List.mem_cons] at hc
    rcases hc with hc | rfl | hc
    · rcases par_mem hc with rfl | rfl | hc
      · decide
      · decide
      · exact Fm.body_mem h.1 c hc
    · decide
    · rcases par_mem hc with rfl | rfl | hc
      · decide
      · decide
      · exact Fm.body_mem h.2 c hc
  | .or a b, h, c, hc => by
    simp only [Fm.body, List.mem_append, List.mem_cons] at hc
    rcases hc with hc | rfl | hc
    · rcases par_mem hc with rfl | rfl | hc
      · decide
      · decide
      · exact Fm.body_mem h.1 c hc
    · decide
    · rcases par_mem hc with rfl | rfl | hc
      · decide
      · decide
      · exact Fm.body_mem h.2 c hc
  | .imp a b, h, c, hc => by
    simp only [Fm.body] at hc
    split at hc
    · split at hc
      · simp only [List.mem_singleton] at hc; subst hc; decide
      · simp only [List.mem_cons] at hc
        rcases hc with rfl | hc
        · decide
        · rcases par_mem hc with rfl | rfl | hc
          · decide
          · decide
          · exact Fm.body_mem h.1 c hc
    · simp only [List.mem_append, List.mem_cons] at hc
      rcases hc with hc | rfl | hc
      · rcases par_mem hc with rfl | rfl | hc
        · decide
        · decide
        · exact Fm.body_mem h.1 c hc
      · decide
      · exact Fm.body_mem h.2 c hc
  | .box a, h, c, hc => by
    simp only [Fm.body, List.mem_cons] at hc
    rcases hc with rfl | rfl | hc
    · decide
    · decide
    · rcases par_mem hc with rfl | rfl | hc
      · decide
      · decide
      · exact Fm.body_mem (a := a) h c hc
  | .dia a, h, c, hc => by
    simp only [Fm.body, List.mem_cons] at hc
    rcases hc with rfl | rfl | hc
    · decide
    · decide
    · rcases par_mem hc with rfl | rfl | hc
      · decide
      · decide
      · exact Fm.body_mem (a := a) h c hc
/-! ### Texts of plain formulas -/
def fT (t : Str) : Fm := (rd t).1
def GT (t : Str) : Prop := ∃ a : Fm, a.good ∧ a.plain = true ∧ t = a.body
theorem fT_body {a : Fm} (h : a.good) : fT a.body = a := by rw [fT, rd_text h]
theorem GT.at {t : Str} (h : GT t) : (fT t).good ∧ (fT t).plain = true ∧ (fT t).body = t := by
  obtain ⟨a, h1, h2, rfl⟩ := h
  rw [fT_body h1]
  exact ⟨h1, h2, rfl⟩
theorem GT.inj {t u : Str} (h : GT t) (k : GT u) (e : fT t = fT u) : t = u := by rw [← h.at.2.2, ← k.at.2.2, e]
theorem GT.of {a : Fm} (h : a.good) (k : a.plain = true) : GT a.body := ⟨a, h, k, rfl⟩
def wT (t : Str) : Nat := (fT t).w2
def mT (L : List Str) : Nat := (L.map wT).sum
theorem wT_ge (t : Str) : 2 ≤ wT t := (fT t).w2_ge
theorem mT_app (A B : List Str) : mT (A ++ B) = mT A + mT B := by simp [mT]
theorem mT_cons (t : Str) (B : List Str) : mT (t :: B) = wT t + mT B := by simp [mT]
theorem mT_len (L : List Str) : 2 * L.length ≤ mT L := by
  induction L with
  | nil => simp
  | cons t L ih => rw [mT_cons, List.length_cons]; have := wT_ge t; omega
theorem mT_mem {t : Str} : ∀ {L : List Str}, t ∈ L → wT t ≤ mT L
  | [], h => by simp at h
  | u :: L, h => by
    rw [mT_cons]
    rcases List.mem_cons.1 h with rfl | h
    · omega
    · have := mT_mem h; omega
theorem mT_filter_le (p : Str → Bool) : ∀ L : List Str, mT (L.filter p) ≤ mT L
  | [] => Nat.le_refl _
  | u :: L => by
    have := mT_filter_le p L
    rw [List.filter_cons]
    split
    · rw [mT_cons, mT_cons]; omega
    · rw [mT_cons]; omega
theorem mT_drop {t : Str} : ∀ {L : List Str}, t ∈ L → mT (L.filter fun u => !decide (u = t)) + wT t ≤ mT L
  | [], h => by simp at h
  | u :: L, h => by
    rw [mT_cons, List.filter_cons]
    by_cases e : u = t
    · subst e
      rw [if_neg (by simp)]
      have := mT_filter_le (fun x => !decide (x = u)) L
      omega
    · rcases List.mem_cons.1 h with h | h
      · exact absurd h.symm e
      · rw [if_pos (by simp [e]), mT_cons]
        have := mT_drop h
        omega
theorem mT_insT (x : Str) : ∀ l : List Str, mT (insT x l) ≤ mT l + wT x
  | [] => by rw [insT, mT_cons]; omega
  | y :: l => by
    rw [insT]
    split
    · rw [mT_cons, mT_cons]; have := mT_insT x l; omega
    · split
      · rw [mT_cons]; omega
      · rw [mT_cons, mT_cons]; omega
theorem mT_setT (l : List Str) : mT (setT l) ≤ mT l := by
  have : ∀ (l a : List Str), mT (l.foldl (fun a x => insT x a) a) ≤ mT a + mT l := by
    intro l
    induction l with
    | nil => intro a; simp [mT]
    | cons x l ih => intro a; rw [List.foldl_cons, mT_cons]; have := ih (insT x a); have := mT_insT x a; omega
  have := this l []
  simpa [setT, mT] using this
theorem wT_len {t : Str} (h : GT t) : t.length ≤ 5 * (fT t).wt := by
  have := Fm.body_len h.at.2.1
  rwa [h.at.2.2] at this
theorem wT_len' {t : Str} (h : GT t) : t.length ≤ 5 * wT t := by
  have := wT_len h
  have : (fT t).wt < wT t := lt_two_pow' _
  omega
theorem wt_of_w2 {a : Fm} {n : Nat} (h : a.w2 ≤ 2 ^ n) : a.wt ≤ n := by
  rcases Nat.lt_or_ge n a.wt with h1 | h1
  · have := Nat.pow_lt_pow_right (a := 2) (by omega) h1
    unfold Fm.w2 at h
    omega
  · exact h1
/-- A sequent of texts that is small enough. -/
structure SqT (L : List Str) (r : Str) : Prop where
  left : ∀ t ∈ L, GT t
  right : GT r
  small : mT L + wT r ≤ 1099511627776
def VT (L : List Str) (r : Str) : Prop := Vld (L.map fT) (fT r)
theorem SqT.wt_left {L : List Str} {r t : Str} (h : SqT L r) (ht : t ∈ L) : (fT t).wt ≤ 40 := by
  have := mT_mem ht
  have := h.small
  exact wt_of_w2 (n := 40) (by show wT t ≤ _; omega)
theorem SqT.wt_right {L : List Str} {r : Str} (h : SqT L r) : (fT r).wt ≤ 40 := by
  have := h.small
  exact wt_of_w2 (n := 40) (by show wT r ≤ _; omega)
/-- The key of a sequent. -/
def keyT (L : List Str) (r : Str) : Str := L.flatMap (fun t => t ++ [47]) ++ 59 :: (r ++ [47])
theorem split47 : ∀ {a b r s : Str}, (∀ c ∈ a, c ≠ 47) → (∀ c ∈ b, c ≠ 47) → a ++ 47 :: r = b ++ 47 :: s → a = b ∧ r = s
  | [], [], _, _, _, _, h => by simp at h; exact ⟨rfl, h⟩
  | [], x :: b, _, _, _, hb, h => by simp at h; exact absurd h.1.symm (hb x (by simp))
  | x :: a, [], _, _, ha, _, h => by simp at h; exact absurd h.1 (ha x (by simp))
  | x :: a, y :: b, _, _, ha, hb, h => by
    simp only [List.cons_append, List.cons.injEq] at h
    have := split47 (fun c hc => ha c (by simp [hc])) (fun c hc => hb c (by simp [hc])) h.2
    exact ⟨by rw [h.1, this.1], this.2⟩
theorem GT.mem {t : Str} (h : GT t) : ∀ c ∈ t, c ≠ 47 ∧ c ≠ 59 := by
  obtain ⟨a, h1, _, rfl⟩ := h
  exact Fm.body_mem h1
theorem keyT_inj : ∀ {L L' : List Str} {r r' : Str}, (∀ t ∈ L, GT t) → (∀ t ∈ L', GT t) → GT r → GT r' → keyT L r = keyT L' r' → L = L' ∧ r = r'
  | [], [], r, r', _, _, h1, h2, h => by
    simp only [keyT, List.flatMap_nil, List.nil_append, List.cons.injEq, true_and] at h
    exact ⟨rfl, (split47 (fun c hc => (h1.mem c hc).1) (fun c hc => (h2.mem c hc).1) h).1⟩
  | [], t :: L', _, _, _, h2, _, _, h => by
    simp only [keyT, List.flatMap_nil, List.nil_append, List.flatMap_cons, List.append_assoc] at h
    have ht := (h2 t (by simp)).mem
    cases t with
    | nil => simp at h
    | cons c t => simp only [List.cons_append, List.cons.injEq] at h; exact absurd h.1.symm (ht c (by simp)).2
  | t :: L, [], _, _, h1, _, _, _, h => by
    simp only [keyT, List.flatMap_nil, List.nil_append, List.flatMap_cons, List.append_assoc] at h
    have ht := (h1 t (by simp)).mem
    cases t with
    | nil => simp at h
    | cons c t => simp only [List.cons_append, List.cons.injEq] at h; exact absurd h.1 (ht c (by simp)).2
  | t :: L, t' :: L', r, r', h1, h2, h3, h4, h => by
    simp only [keyT, List.flatMap_cons, List.append_assoc, List.singleton_append] at h
    obtain ⟨e1, e2⟩ := split47 (fun c hc => ((h1 t (by simp)).mem c hc).1) (fun c hc => ((h2 t' (by simp)).mem c hc).1) h
    have := keyT_inj (fun u hu => h1 u (by simp [hu])) (fun u hu => h2 u (by simp [hu])) h3 h4 e2
    exact ⟨by rw [e1, this.1], this.2⟩
theorem key_len : ∀ {L : List Str}, (∀ t ∈ L, GT t) → (L.flatMap (fun t => t ++ [47])).length ≤ 6 * mT L
  | [], _ => by simp
  | t :: L, h => by
    have := key_len (fun u hu => h u (by simp [hu]) : ∀ u ∈ L, GT u)
    have := wT_len' (h t (by simp))
    have := wT_ge t
    rw [List.flatMap_cons, mT_cons, List.length_append, List.length_append, List.length_singleton]
    omega
end Go.Vc

/- Plain maths: what the program's search for intuitionistic proofs does with texts, and that each step keeps what holds. No program in sight. Conditions: none. -/
namespace Go.Vc
abbrev Sq := List Str × Str
/-- The left side without a text. -/
def dropT (t : Str) (L : List Str) : List Str := L.filter fun u => !decide (u = t)
/-- The left side with other texts in place of one. -/
def ins (L : List Str) (t : Str) (ts : List Str) : List Str := setT (dropT t L ++ ts)
theorem mem_ins {L : List Str} {t : Str} {ts : List Str} {u : Fm} : u ∈ (ins L t ts).map fT ↔ u ∈ ts.map fT ∨ u ∈ (dropT t L).map fT := by
  simp only [ins, List.mem_map, mem_setT, List.mem_append]
  constructor
  · rintro ⟨a, h | h, rfl⟩
    · exact .inr ⟨a, h, rfl⟩
    · exact .inl ⟨a, h, rfl⟩
  · rintro (⟨a, h, rfl⟩ | ⟨a, h, rfl⟩)
    · exact ⟨a, .inr h, rfl⟩
    · exact ⟨a, .inl h, rfl⟩
theorem mem_split {L : List Str} {t : Str} (ht : t ∈ L) (u : Fm) : u ∈ L.map fT ↔ u = fT t ∨ u ∈ (dropT t L).map fT := by
  simp only [dropT, List.mem_map, List.mem_filter]
  constructor
  · rintro ⟨a, h, rfl⟩
    by_cases e : a = t
    · exact .inl (by rw [e])
    · exact .inr ⟨a, ⟨h, by simp [e]⟩, rfl⟩
  · rintro (rfl | ⟨a, ⟨h, _⟩, rfl⟩)
    · exact ⟨t, ht, rfl⟩
    · exact ⟨a, h, rfl⟩
/-- Texts that may stand on the left. -/
theorem SqT.ins {L : List Str} {r t r' : Str} {ts : List Str} (h : SqT L r) (ht : t ∈ L) (hg : ∀ u ∈ ts, GT u) (hr : GT r') (hm : mT ts + wT r' < wT t + wT r) : SqT (ins L t ts) r' ∧ mT (ins L t ts) + wT r' < mT L + wT r := by
  have h1 := mT_setT (dropT t L ++ ts)
  have h2 : mT (dropT t L) + wT t ≤ mT L := mT_drop ht
  rw [mT_app] at h1
  have h3 := h.small
  have h4 : mT (Go.Vc.ins L t ts) + wT r' < mT L + wT r := by unfold Go.Vc.ins; omega
  refine ⟨⟨fun u hu => ?_, hr, by omega⟩, h4⟩
  rcases List.mem_append.1 (mem_setT.1 hu) with hu | hu
  · exact h.left u (List.mem_filter.1 hu).1
  · exact hg u hu
/-- Premises: all smaller, and together they hold exactly if the sequent does. -/
structure Prem (L : List Str) (r : Str) (ps : List Sq) : Prop where
  iff : VT L r ↔ ∀ p ∈ ps, VT p.1 p.2
  sq : ∀ p ∈ ps, SqT p.1 p.2
  lt : ∀ p ∈ ps, mT p.1 + wT p.2 < mT L + wT r
def takenOf (L : List Str) (r t : Str) : List Sq × Bool :=
  match fT t with
  | .and a b => ([(ins L t [a.body, b.body], r)], true)
  | .or a b => ([(ins L t [a.body], r), (ins L t [b.body], r)], true)
  | .imp .fls _ => ([(ins L t [], r)], true)
  | .imp (.var p) b => ([(ins L t [b.body], r)], decide ((Fm.var p).body ∈ L))
  | .imp (.and x y) b => ([(ins L t [(Fm.imp x (.imp y b)).body], r)], true)
  | .imp (.or x y) b => ([(ins L t [(Fm.imp x b).body, (Fm.imp y b).body], r)], true)
  | _ => ([], false)
theorem wT_of {t : Str} {a : Fm} (h : fT t = a) : wT t = a.w2 := by rw [wT, h]
theorem wT_body {a : Fm} (h : a.good) : wT a.body = a.w2 := wT_of (fT_body h)
theorem mT_one (t : Str) : mT [t] = wT t := by simp [mT]
theorem mT_two (t u : Str) : mT [t, u] = wT t + wT u := by simp [mT]
theorem two_all {a b : Str} (h : GT a) (k : GT b) : ∀ u ∈ [a, b], GT u := fun u hu => by
  simp only [List.mem_cons, List.not_mem_nil, or_false] at hu
  rcases hu with rfl | rfl
  · exact h
  · exact k
theorem one_all {a : Str} (h : GT a) : ∀ u ∈ [a], GT u := fun u hu => by rw [List.mem_singleton.1 hu]; exact h
theorem Prem.one {L A : List Str} {r q : Str} (h : VT L r ↔ VT A q) (hs : SqT A q ∧ mT A + wT q < mT L + wT r) : Prem L r [(A, q)] :=
  ⟨by simpa using h, by simpa using hs.1, by simpa using hs.2⟩
theorem Prem.two {L A B : List Str} {r q s : Str} (h : VT L r ↔ VT A q ∧ VT B s) (hs : SqT A q ∧ mT A + wT q < mT L + wT r) (ht : SqT B s ∧ mT B + wT s < mT L + wT r) : Prem L r [(A, q), (B, s)] :=
  ⟨by simpa using h, by simpa using ⟨hs.1, ht.1⟩, by simpa using ⟨hs.2, ht.2⟩⟩
theorem plain_imp {a b : Fm} (h : (Fm.imp a b).plain = true) : a.plain = true ∧ b.plain = true := by simpa [Fm.plain] using h
theorem plain_and {a b : Fm} (h : (Fm.and a b).plain = true) : a.plain = true ∧ b.plain = true := by simpa [Fm.plain] using h
theorem plain_or {a b : Fm} (h : (Fm.or a b).plain = true) : a.plain = true ∧ b.plain = true := by simpa [Fm.plain] using h
theorem imp_plain {a b : Fm} (h : a.plain = true) (k : b.plain = true) : (Fm.imp a b).plain = true := by simp [Fm.plain, h, k]
theorem taken_ok {L : List Str} {r t : Str} (h : SqT L r) (ht : t ∈ L) (hk : (takenOf L r t).2 = true) : Prem L r (takenOf L r t).1 := by
  obtain ⟨hg, hp, -⟩ := (h.left t ht).at
  have hS := mem_split ht
  have r2 := wT_ge r
  have hw : wT t = (fT t).w2 := rfl
  unfold takenOf at hk ⊢
  split at hk
  · rename_i a b e
    rw [e] at hg hp hS hw
    have g1 := GT.of hg.1 (plain_and hp).1
    have g2 := GT.of hg.2 (plain_and hp).2
    refine Prem.one (r_and hS (fun u => ?_)).symm (h.ins ht (two_all g1 g2) h.right ?_)
    · rw [mem_ins]; simp only [List.map_cons, List.map_nil, fT_body hg.1, fT_body hg.2, List.mem_cons, List.not_mem_nil, or_false, or_assoc]
    · rw [mT_two, wT_body hg.1, wT_body hg.2, hw]; have := lt_and a b; omega
  · rename_i a b e
    rw [e] at hg hp hS hw
    have g1 := GT.of hg.1 (plain_or hp).1
    have g2 := GT.of hg.2 (plain_or hp).2
    have := lt_or a b
    have := a.w2_ge
    have := b.w2_ge
    refine Prem.two (r_or hS (fun u => ?_) (fun u => ?_)) (h.ins ht (one_all g1) h.right ?_) (h.ins ht (one_all g2) h.right ?_)
    · rw [mem_ins]; simp only [List.map_cons, List.map_nil, fT_body hg.1, List.mem_cons, List.not_mem_nil, or_false]
    · rw [mem_ins]; simp only [List.map_cons, List.map_nil, fT_body hg.2, List.mem_cons, List.not_mem_nil, or_false]
    · rw [mT_one, wT_body hg.1, hw]; omega
    · rw [mT_one, wT_body hg.2, hw]; omega
  · rename_i b e
    rw [e] at hg hp hS hw
    refine Prem.one ?_ (h.ins ht (by simp) h.right ?_)
    · have := r_useless_fls (c := fT r) hS
      have e2 : Vld ((dropT t L).map fT) (fT r) ↔ VT (ins L t []) r := Vld.congr fun M w => by
        constructor
        · intro k u hu; rw [mem_ins] at hu; exact k u (by simpa using hu)
        · intro k u hu; exact k u (mem_ins.2 (.inr hu))
      exact this.symm.trans e2
    · rw [show mT [] = 0 from rfl, hw]; have := (Fm.imp .fls b).w2_ge; omega
  · rename_i p b e
    rw [e] at hg hp hS hw
    have hk := of_decide_eq_true hk
    have g2 := GT.of hg.2 (plain_imp hp).2
    refine Prem.one (r_imp_mp (x := .var p) hS (fun u => ?_) ?_).symm (h.ins ht (one_all g2) h.right ?_)
    · rw [mem_ins]; simp only [List.map_cons, List.map_nil, fT_body hg.2, List.mem_cons, List.not_mem_nil, or_false]
    · refine List.mem_map.2 ⟨_, List.mem_filter.2 ⟨hk, ?_⟩, fT_body hg.1⟩
      have : ¬ (Fm.var p).body = t := fun e2 => by rw [← e2, fT_body hg.1] at e; cases e
      simp [this]
    · rw [mT_one, wT_body hg.2, hw]; have := lt_imp (.var p) b; omega
  · rename_i x y b e
    rw [e] at hg hp hS hw
    have hp1 := plain_and (plain_imp hp).1
    have hgg : (Fm.imp x (.imp y b)).good := ⟨hg.1.1, hg.1.2, hg.2⟩
    have g2 := GT.of hgg (imp_plain hp1.1 (imp_plain hp1.2 (plain_imp hp).2))
    refine Prem.one (r_imp_and hS (fun u => ?_)).symm (h.ins ht (one_all g2) h.right ?_)
    · rw [mem_ins]; simp only [List.map_cons, List.map_nil, fT_body hgg, List.mem_cons, List.not_mem_nil, or_false]
    · rw [mT_one, wT_body hgg, hw]; have := lt_imp_and x y b; omega
  · rename_i x y b e
    rw [e] at hg hp hS hw
    have hp1 := plain_or (plain_imp hp).1
    have hg1 : (Fm.imp x b).good := ⟨hg.1.1, hg.2⟩
    have hg2 : (Fm.imp y b).good := ⟨hg.1.2, hg.2⟩
    have g1 := GT.of hg1 (imp_plain hp1.1 (plain_imp hp).2)
    have g2 := GT.of hg2 (imp_plain hp1.2 (plain_imp hp).2)
    refine Prem.one (r_imp_or hS (fun u => ?_)).symm (h.ins ht (two_all g1 g2) h.right ?_)
    · rw [mem_ins]; simp only [List.map_cons, List.map_nil, fT_body hg1, fT_body hg2, List.mem_cons, List.not_mem_nil, or_false, or_assoc]
    · rw [mT_two, wT_body hg1, wT_body hg2, hw]; have := lt_imp_or x y b; omega
  · cases hk
/-- The rules of the right side. -/
theorem right_and {L : List Str} {r : Str} {a b : Fm} (h : SqT L r) (e : fT r = .and a b) : Prem L r [(L, a.body), (L, b.body)] := by
  obtain ⟨hg, hp, -⟩ := h.right.at
  have hw : wT r = (fT r).w2 := rfl
  rw [e] at hg hp hw
  have := lt_and a b
  have := h.small
  have := a.w2_ge
  have := b.w2_ge
  have e1 := wT_body hg.1
  have e2 := wT_body hg.2
  refine Prem.two ?_ ⟨⟨h.left, GT.of hg.1 (plain_and hp).1, by omega⟩, by omega⟩ ⟨⟨h.left, GT.of hg.2 (plain_and hp).2, by omega⟩, by omega⟩
  unfold VT
  rw [e, fT_body hg.1, fT_body hg.2]
  exact Vld.and
theorem right_imp {L : List Str} {r : Str} {a b : Fm} (h : SqT L r) (e : fT r = .imp a b) : Prem L r [(setT (L ++ [a.body]), b.body)] := by
  obtain ⟨hg, hp, -⟩ := h.right.at
  have hw : wT r = (fT r).w2 := rfl
  rw [e] at hg hp hw
  have := lt_imp a b
  have := h.small
  have e1 := wT_body hg.1
  have e2 := wT_body hg.2
  have h1 := mT_setT (L ++ [a.body])
  rw [mT_app, mT_one] at h1
  refine Prem.one ?_ ⟨⟨fun u hu => ?_, GT.of hg.2 (plain_imp hp).2, by omega⟩, by omega⟩
  · unfold VT
    rw [e, fT_body hg.2]
    refine Vld.imp fun x => ?_
    simp only [List.mem_map, mem_setT, List.mem_append, List.mem_singleton]
    constructor
    · rintro ⟨y, hy | rfl, rfl⟩
      · exact .inr ⟨y, hy, rfl⟩
      · exact .inl (fT_body hg.1)
    · rintro (rfl | ⟨y, hy, rfl⟩)
      · exact ⟨_, .inr rfl, fT_body hg.1⟩
      · exact ⟨y, .inl hy, rfl⟩
  · rcases List.mem_append.1 (mem_setT.1 hu) with hu | hu
    · exact h.left u hu
    · rw [List.mem_singleton.1 hu]; exact GT.of hg.1 (plain_imp hp).1
/-- (x > y) > z on the left: the two premises. -/
def nestOf (L : List Str) (r t : Str) : Option (Sq × Sq) :=
  match fT t with
  | .imp (.imp x y) z => some ((ins L t [(Fm.imp y z).body], (Fm.imp x y).body), (ins L t [z.body], r))
  | _ => none
theorem nest_ok {L : List Str} {r t : Str} (h : SqT L r) (ht : t ∈ L) {p q : Sq} (hn : nestOf L r t = some (p, q)) :
    (SqT p.1 p.2 ∧ mT p.1 + wT p.2 < mT L + wT r) ∧ (SqT q.1 q.2 ∧ mT q.1 + wT q.2 < mT L + wT r) ∧ (VT p.1 p.2 → (VT q.1 q.2 ↔ VT L r)) ∧ ∃ x z, fT t = .imp x z ∧ (VT p.1 p.2 ↔ Vld (L.map fT) x) := by
  obtain ⟨hg, hp, -⟩ := (h.left t ht).at
  have hS := mem_split ht
  have r2 := wT_ge r
  have hw : wT t = (fT t).w2 := rfl
  unfold nestOf at hn
  split at hn
  · rename_i x y z e
    rw [e] at hg hp hS hw
    have hp1 := plain_imp (plain_imp hp).1
    have hg1 : (Fm.imp y z).good := ⟨hg.1.2, hg.2⟩
    have g1 := GT.of hg1 (imp_plain hp1.2 (plain_imp hp).2)
    have g2 := GT.of hg.1 (plain_imp hp).1
    have g3 := GT.of hg.2 (plain_imp hp).2
    simp only [Option.some.injEq, Prod.mk.injEq] at hn
    obtain ⟨rfl, rfl⟩ := hn
    have h1 : ∀ a, a ∈ (ins L t [(Fm.imp y z).body]).map fT ↔ a = .imp y z ∨ a ∈ (dropT t L).map fT := fun a => by
      rw [mem_ins]; simp only [List.map_cons, List.map_nil, fT_body hg1, List.mem_cons, List.not_mem_nil, or_false]
    have h3 : ∀ a, a ∈ (ins L t [z.body]).map fT ↔ a = z ∨ a ∈ (dropT t L).map fT := fun a => by
      rw [mem_ins]; simp only [List.map_cons, List.map_nil, fT_body hg.2, List.mem_cons, List.not_mem_nil, or_false]
    have hA : VT (ins L t [(Fm.imp y z).body]) (Fm.imp x y).body ↔ Vld (L.map fT) (.imp x y) := by
      unfold VT
      rw [fT_body hg.1]
      exact nest_one hS h1
    refine ⟨h.ins ht (one_all g1) g2 ?_, h.ins ht (one_all g3) h.right ?_, fun k => nest_three hS h3 (hA.1 k), _, _, e, hA⟩
    · rw [mT_one, wT_body hg1, wT_body hg.1, hw]; have := lt_nest x y z; omega
    · show mT [z.body] + wT r < wT t + wT r
      rw [mT_one, wT_body hg.2, hw]; have := lt_imp (.imp x y) z; omega
  · cases hn
/-- Where no rule serves, the sequent does not hold. -/
theorem stuckT {L : List Str} {r : Str} (h : SqT L r) (hr : ¬ r ∈ L) (hf : ¬ Fm.fls.body ∈ L) (hno : ∀ t ∈ L, (takenOf L r t).2 = false)
    (hr2 : ∀ a b, fT r ≠ .and a b ∧ fT r ≠ .imp a b) (hor : ∀ a b, fT r = .or a b → ¬ VT L a.body ∧ ¬ VT L b.body)
    (hn : ∀ t ∈ L, ∀ p q, nestOf L r t = some (p, q) → ¬ (VT p.1 p.2 ∧ VT q.1 q.2)) : ¬ VT L r := by
  by_cases hA : ∃ t ∈ L, ∃ p q, nestOf L r t = some (p, q) ∧ VT p.1 p.2
  · obtain ⟨t, ht, p, q, e, hp⟩ := hA
    obtain ⟨-, -, k, -⟩ := nest_ok h ht e
    exact fun hv => hn t ht p q e ⟨hp, (k hp).2 hv⟩
  refine stuck (fun a ha => ?_) ?_
  · obtain ⟨t, ht, rfl⟩ := List.mem_map.1 ha
    have h1 := hno t ht
    obtain ⟨hg, hpl, hb⟩ := (h.left t ht).at
    unfold takenOf at h1
    split at h1
    · cases h1
    · cases h1
    · cases h1
    · rename_i p b e
      refine .inr ⟨_, _, e, .inl ⟨p, rfl, fun hm => ?_⟩⟩
      obtain ⟨u, hu, e2⟩ := List.mem_map.1 hm
      have := (h.left u hu).at.2.2
      rw [e2] at this
      rw [this] at h1
      exact absurd hu (of_decide_eq_false h1)
    · cases h1
    · cases h1
    · rename_i q1 q2 q3 q4 q5 q6
      cases e : fT t with
      | var p => exact .inl ⟨p, rfl⟩
      | fls => rw [e] at hb; rw [← hb] at ht; exact absurd ht hf
      | and a b => exact absurd e (q1 a b)
      | or a b => exact absurd e (q2 a b)
      | box a => rw [e] at hpl; cases hpl
      | dia a => rw [e] at hpl; cases hpl
      | imp x z =>
        refine .inr ⟨x, z, rfl, .inr fun hv => ?_⟩
        cases x with
        | var p => exact q4 p z e
        | fls => exact q3 z e
        | and a b => exact q5 a b z e
        | or a b => exact q6 a b z e
        | box a => rw [e] at hpl; cases hpl
        | dia a => rw [e] at hpl; cases hpl
        | imp x y =>
          have hne : nestOf L r t = some ((ins L t [(Fm.imp y z).body], (Fm.imp x y).body), (ins L t [z.body], r)) := by unfold nestOf; rw [e]
          obtain ⟨-, -, -, x', z', e', k⟩ := nest_ok h ht hne
          rw [e] at e'
          cases e'
          exact hA ⟨t, ht, _, _, hne, k.2 hv⟩
  · obtain ⟨hg, hpl, hb⟩ := h.right.at
    cases e : fT r with
    | var p =>
      refine .inl ⟨p, rfl, fun hm => hr ?_⟩
      obtain ⟨u, hu, e2⟩ := List.mem_map.1 hm
      have := (h.left u hu).inj h.right (e2.trans e.symm)
      rwa [← this]
    | fls => exact .inr (.inl rfl)
    | and a b => exact absurd e (hr2 a b).1
    | imp a b => exact absurd e (hr2 a b).2
    | box a => rw [e] at hpl; cases hpl
    | dia a => rw [e] at hpl; cases hpl
    | or a b =>
      rw [e] at hg
      have := hor a b e
      unfold VT at this
      rw [fT_body hg.1, fT_body hg.2] at this
      exact .inr (.inr ⟨a, b, rfl, this.1, this.2⟩)
theorem VT.or {L : List Str} {r : Str} {a b : Fm} (h : GT r) (e : fT r = .or a b) (k : VT L a.body ∨ VT L b.body) : VT L r := by
  have hg := h.at.1
  rw [e] at hg
  unfold VT at k ⊢
  rw [fT_body hg.1, fT_body hg.2] at k
  rw [e]
  exact fun M w hw => k.imp (fun k => k M w hw) (fun k => k M w hw)
theorem VT.ax {L : List Str} {r : Str} (k : r ∈ L ∨ Fm.fls.body ∈ L) : VT L r := by
  rcases k with k | k
  · exact Vld.mem (List.mem_map.2 ⟨r, k, rfl⟩)
  · exact Vld.fls (List.mem_map.2 ⟨_, k, fT_body trivial⟩)
open Classical in
noncomputable def vB (L : List Str) (r : Str) : Bool := decide (VT L r)
theorem vB_true {L : List Str} {r : Str} : vB L r = true ↔ VT L r := by unfold vB; exact @decide_eq_true_iff _ (Classical.propDecidable _)
theorem vB_false {L : List Str} {r : Str} : vB L r = false ↔ ¬ VT L r := by unfold vB; exact @decide_eq_false_iff_not _ (Classical.propDecidable _)
end Go.Vc

/- Contracts: maps from texts; parts and texts for the program's search for intuitionistic proofs. Conditions: none. -/
namespace Go.Vc
theorem iNilOw {lo : Nat} {e : TypeId} {w : World} {v : Value} {xs : List Value} {K : Value → Prop} (hs : Ow lo e w v xs) (h0 : v = .slice none 0 0 → K (.bool true)) (h1 : K (.bool false)) : xNilS true v (.slice none 0 0) K := by
  obtain ⟨_, h | ⟨g, cap, cur, hv, _⟩⟩ := hs
  · obtain ⟨rfl, _⟩ := h
    exact ⟨trivial, rfl, h0 rfl⟩
  · subst hv
    exact ⟨trivial, rfl, h1⟩
theorem sv_inj {a b : Str} (h : sv a = sv b) : a = b := by
  simp only [sv, Value.string.injEq, ByteArray.mk.injEq] at h
  exact Array.toList_inj.2 h |> fun e => by simpa using e
/-- A plain map from texts: each entry is right. -/
def MapB (Q : Str → Value → Prop) (w : World) (b : Nat) : Prop := ∃ es clock, w.heap[b]? = some (.map es clock) ∧ ∀ x ∈ es.toList, ∃ t : Str, x.key = sv t ∧ Q t x.val
theorem MapB.ext {Q : Str → Value → Prop} {w w' : World} {b : Nat} (h : MapB Q w b) (x : Ext w w') : MapB Q w' b := by
  obtain ⟨es, clock, hb, h⟩ := h
  exact ⟨es, clock, by rw [Go.RowKit.Below.block x b (heap_lt hb)]; exact hb, h⟩
theorem MapB.ne_ow {Q : Str → Value → Prop} {w : World} {b lo k n : Nat} {e : TypeId} {v : Value} {xs : List Value} (h : MapB Q w b) (ho : OwK k lo e w v n xs) : ∀ c, v.ownBlock = some c → ¬ c = b := by
  obtain ⟨es, clock, hb, h⟩ := h
  rintro c hc rfl
  obtain ⟨cur, h1⟩ := ho.ty hc
  rw [h1] at hb; cases hb
theorem MapB.ne_blk {Q : Str → Value → Prop} {w : World} {b q : Nat} {e : TypeId} {cs : List Value} (h : MapB Q w b) (hq : Blk e w q cs) : ¬ q = b := by
  obtain ⟨es, clock, hb, h⟩ := h
  rintro rfl
  unfold Blk at hq
  rw [hq] at hb; cases hb
theorem MapB.keys {Q : Str → Value → Prop} {es : Array MapEntry} (h : ∀ x ∈ es.toList, ∃ t : Str, x.key = sv t ∧ Q t x.val) : ∀ x ∈ es.toList, MapKept.IsKey .string x.key := fun x hx => by
  obtain ⟨t, e, _⟩ := h x hx
  rw [e]; trivial
section
variable {P : Program} {t k e : TypeId} {Q : Str → Value → Prop}
theorem iMapMade {w : World} {K : Value → World → Prop} (h : ∀ b w', b = w.heap.size → Ext w w' → MapB Q w' b → K (.map (some b)) w') : xOp P (Instr.makeMap t none) w K :=
  ⟨_, _, rfl, h _ _ rfl (Ext.alloc w _) ⟨#[], 0, heap_alloc_new w _, by simp⟩⟩
theorem iMapLook {w : World} {b : Nat} {s : Str} {z : Value} {K : Value → Prop} (h : MapB Q w b) (ht : P.underlying t = some (.map k e)) (hk : P.underlying k = some .string) (hz : ∀ w, (zeroValue e).run P w = .ok z w)
    (h0 : K (.tuple #[z, .bool false])) (h1 : ∀ v, Q s v → K (.tuple #[v, .bool true])) : xR P w (Instr.lookup t (.map (some b)) (sv s) true) K := by
  obtain ⟨es, clock, hb, hm⟩ := h
  have hb' : ∀ w', Ext w w' → w'.heap[b]? = some (.map es clock) := fun w' x => by rw [Go.RowKit.Below.block x b (heap_lt hb)]; exact hb
  rcases MapKept.findNow_spec (k := sv s) (d := .string) trivial es.toList 0 (MapB.keys hm) with ⟨f1, f2⟩ | ⟨j, e0, f1, f2, f3⟩
  · refine ⟨_, fun w' x => ?_, h0⟩
    simp [Instr.lookup, run_underlying ht, MapKept.run_getObj_map (hb' w' x), MapKept.run_checkKey (k := sv s) hk trivial, MapKept.run_findKey hk f1, hz, Result.andThen]
  · obtain ⟨u, e1, hq⟩ := hm e0 (List.mem_of_getElem? f2)
    rw [f3] at e1
    have e1 := sv_inj e1
    subst e1
    refine ⟨_, fun w' x => ?_, h1 _ hq⟩
    simp [Instr.lookup, run_underlying ht, MapKept.run_getObj_map (hb' w' x), MapKept.run_checkKey (k := sv s) hk trivial, MapKept.run_findKey hk f1, Result.andThen]
theorem iMapPut {w : World} {b : Nat} {s : Str} {v : Value} {K : World → Prop} (h : MapB Q w b) (ht : P.underlying t = some (.map k e)) (hk : P.underlying k = some .string) (hv : Q s v)
    (h1 : ∀ w', MapB Q w' b → Ch (fun c => c = b) w w' → K w') : xOpU P (Instr.mapUpdate t (.map (some b)) (sv s) v) w K := by
  obtain ⟨es, clock, hb, hm⟩ := h
  have hset : ∀ o, ({ w with heap := w.heap.setIfInBounds b o } : World).heap[b]? = some o ∧ Ch (fun c => c = b) w { w with heap := w.heap.setIfInBounds b o } := fun o =>
    ⟨(MapKept.heap_set hb).1, rfl, rfl, rfl, by simp, fun i _ hi => (MapKept.heap_set hb).2 i hi⟩
  rcases MapKept.findNow_spec (k := sv s) (d := .string) trivial es.toList 0 (MapB.keys hm) with ⟨f1, f2⟩ | ⟨j, e0, f1, f2, f3⟩
  · refine ⟨_, ?_, h1 { w with heap := w.heap.setIfInBounds b (.map (es.push ⟨sv s, v, clock⟩) (clock + 1)) } ⟨_, _, (hset _).1, fun x hx => ?_⟩ (hset _).2⟩
    · simp [Instr.mapUpdate, run_underlying ht, MapKept.run_getObj_map hb, MapKept.run_checkKey (k := sv s) hk trivial, MapKept.run_findKey hk f1, MapKept.run_setObj_map _ hb, Result.andThen]
    · simp only [Array.toList_push, List.mem_append, List.mem_singleton] at hx
      rcases hx with hx | rfl
      · exact hm x hx
      · exact ⟨s, rfl, hv⟩
  · have hj : j < es.size := by have := (List.getElem?_eq_some_iff.1 f2).1; simpa using this
    have hkey : ((es[j]?).map (·.key)).getD (sv s) = sv s := by
      have : es[j]? = some e0 := by simpa using f2
      rw [this]; exact f3
    refine ⟨_, ?_, h1 { w with heap := w.heap.setIfInBounds b (.map (es.modify j fun e => { e with key := sv s, val := v }) clock) } ⟨_, _, (hset _).1, fun x hx => ?_⟩ (hset _).2⟩
    · simp only [Nat.zero_add] at f1
      simp [Instr.mapUpdate, run_underlying ht, MapKept.run_getObj_map hb, MapKept.run_checkKey (k := sv s) hk trivial, MapKept.run_findKey hk f1, MapKept.run_setObj_map _ hb, Result.andThen, hkey, MapKept.run_keyThatStays (k := sv s) (d := .string) trivial]
    · rw [Array.toList_modify] at hx
      obtain ⟨i, hi, rfl⟩ := List.getElem_of_mem hx
      rw [List.getElem_modify]
      split
      · exact ⟨s, rfl, hv⟩
      · exact hm _ (List.getElem_mem _)
end
end Go.Vc
namespace Go.Proofs.YtapdkkijoflcpaaGreatDoor
open Go.Vc
theorem ok_slices_IndexFuncT {v fv : Value} {L : List Str} {p : Str → Bool} {w0 w : World} (h0 : Ext w0 w) (hs : SlT w v L) (hf : ∀ x ∈ L, ∀ w', Ext w0 w' → callV Tryz.prog fv [sv x] w' fun u w'' => u = .bool (p x) ∧ Ext w' w'') :
    Cal Tryz.prog f_slices_IndexFunc_Sstring_string #[v, fv] w fun r w' => Ext w w' ∧ ((r = .int .i64 (-1) ∧ ∀ j, j < L.length → p (gt L j) = false) ∨ ∃ i : Nat, r = .int .i64 (i : Int) ∧ i < L.length ∧ p (gt L i) = true ∧ ∀ j, j < i → p (gt L j) = false) := by
  apply c_slices_IndexFunc_Sstring_string; unfold S_slices_IndexFunc_Sstring_string
  have hln := hs.len
  rw [strs_len] at hln
  refine iLenStr hs ?_
  refine iLp (fun i : Nat => [.int .i64 (i : Int)]) (fun i w' => i ≤ L.length ∧ Ext w w' ∧ ∀ j, j < i → p (gt L j) = false) (fun i => L.length - i) 0 rfl ⟨Nat.zero_le _, Ext.refl _, fun j hj => by omega⟩ ?_
  rintro i w2 Kn ⟨hi, h2, hno⟩ hKn
  intro _
  simp only [gx]
  refine iLt ?_
  refine iCndP (fun h => ?_) (fun h => ?_)
  · refine iIaG (hs.ext h2) rfl (by omega) ?_
    refine (hf (gt L i) (by rw [gt_eq (show i < L.length by omega)]; exact List.getElem_mem _) w2 (h0.trans h2)).mono ?_
    rintro u w3 ⟨rfl, h23⟩
    refine iCnd (fun h3 => ?_) (fun h3 => ?_)
    · exact ⟨h2.trans h23, .inr ⟨i, rfl, by omega, h3, hno⟩⟩
    · refine iAdd (by omega) ?_
      refine hKn (i + 1) _ ⟨by omega, h2.trans h23, fun j hj => ?_⟩ (by omega)
      by_cases hji : j = i
      · subst hji; exact h3
      · exact hno j (by omega)
  · exact ⟨h2, .inl ⟨by first | trivial | rfl, fun j hj => hno j (by omega)⟩⟩
theorem ok_slices_CloneT {lo : Nat} {v : Value} {L : List Str} {w : World} (hs : Ow lo t_string w v (strs L)) (hL : L.length ≤ 1099511627776) :
    Cal Tryz.prog f_slices_Clone_Sstring_string #[v] w fun r w' => Ext w w' ∧ Ow w.heap.size t_string w' r (strs L) := by
  apply c_slices_Clone_Sstring_string; unfold S_slices_Clone_Sstring_string
  refine iNilOw hs (fun e => ?_) ?_
  · refine iCndT rfl ⟨Ext.refl _, ?_⟩
    have : strs L = [] := by
      obtain ⟨_, h | ⟨g, cap, cur, hv, _⟩⟩ := hs
      · exact List.length_eq_zero_iff.1 h.2
      · rw [e] at hv; cases hv
    rw [this]; exact Ow.nil _ _ _
  · refine iCndF rfl ?_
    refine iBs0 fun u w1 hw1 x1 ho => ?_
    have hll := strs_len L
    refine iApp u_Sstring i_Sstring rfl ho (hs.ext x1).sl (strs_cell L) (by simp only [List.length_nil]; omega) (by simp only [List.length_nil]; omega) (by omega) fun u' w2 ho2 hg => ?_
    refine ⟨x1.grown hg fun b hb => (ho.blk b hb).1, by simpa using ho2⟩
theorem filter_none {p : Str → Bool} {L : List Str} (h : ∀ j, j < L.length → p (gt L j) = false) : L.filter (fun x => !p x) = L := by
  rw [List.filter_eq_self]
  intro x hx
  obtain ⟨j, hj, rfl⟩ := List.getElem_of_mem hx
  rw [← gt_eq hj, h j hj]; rfl
theorem ok_slices_DeleteFuncT {v fv : Value} {L : List Str} {p : Str → Bool} {w0 w : World} (h0 : Ext w0 w) (hs : Ow w0.heap.size t_string w v (strs L)) (hL : L.length ≤ 1099511627776) (hf : ∀ x ∈ L, ∀ w', Ext w0 w' → callV Tryz.prog fv [sv x] w' fun u w'' => u = .bool (p x) ∧ Ext w' w'') :
    Cal Tryz.prog f_slices_DeleteFunc_Sstring_string #[v, fv] w fun r w' => Ext w0 w' ∧ Ow w0.heap.size t_string w' r (strs (L.filter fun x => !p x)) := by
  apply c_slices_DeleteFunc_Sstring_string; unfold S_slices_DeleteFunc_Sstring_string
  refine iCall ((ok_slices_IndexFuncT h0 hs.sl hf).mono ?_)
  rintro r w1 ⟨x1, ⟨rfl, hno⟩ | ⟨i0, rfl, hi0, hp0, hno⟩⟩
  · refine iEq (iCndT (by decide) ⟨h0.trans x1, ?_⟩)
    rw [filter_none hno]; exact hs.ext x1
  refine iEq (iCndF (by simp) ?_)
  refine iAdd (by omega) ?_
  have hs1 := hs.ext x1
  have X1 := h0.trans x1
  obtain ⟨g, cap, hv, hcap, hcm⟩ := hs1.open (by intro e; have := strs_len L; rw [e] at this; simp at this; omega)
  rw [strs_len] at hv hcap
  have hg : v.ownBlock = some g := by rw [hv]; rfl
  have hglo := (hs1.blk g hg).1
  have hfl : ∀ j, L.take (j + 1) = L.take j ++ (if j < L.length then [gt L j] else []) := fun j => by
    split
    · rename_i h; rw [List.take_succ_eq_append_getElem h, gt_eq h]
    · rename_i h; rw [List.append_nil, List.take_of_length_le (by omega), List.take_of_length_le (by omega)]
  refine iLp (fun s : Nat × Nat => [.int .i64 (s.1 : Int), .int .i64 (s.2 : Int)]) (fun s w' => s.1 < s.2 ∧ s.2 ≤ L.length ∧ ∃ M, Turn w0.heap.size t_string sv v w1 w' M ∧ M.length = L.length ∧ M.take s.1 = (L.take s.2).filter (fun x => !p x) ∧ ∀ j, s.2 ≤ j → gt M j = gt L j) (fun s => L.length - s.2) (i0, i0 + 1) rfl
    ⟨by show i0 < i0 + 1; omega, by show i0 + 1 ≤ _; omega, L, Turn.refl hs1, rfl, ?_, fun _ _ => rfl⟩ ?_
  · show L.take i0 = (L.take (i0 + 1)).filter fun x => !p x
    rw [hfl, if_pos hi0, List.filter_append, List.filter_cons, hp0]
    have : (L.take i0).filter (fun x => !p x) = L.take i0 := filter_none fun j hj => by
      rw [List.length_take] at hj
      rw [gt_take (by omega)]; exact hno j (by omega)
    rw [this]; simp
  rintro ⟨i, j⟩ w3 Kn ⟨hij, hj, M, ht, hM, hMt, hMe⟩ hKn
  have hij : i < j := hij
  have hj : j ≤ L.length := hj
  have hMt : M.take i = (L.take j).filter (fun x => !p x) := hMt
  have hMe : ∀ k, j ≤ k → gt M k = gt L k := hMe
  have X3 : Ext w0 w3 := X1.thenCh ht.ch fun b hb => by rw [hg] at hb; cases hb; exact hglo
  intro _
  simp only [gx]
  have hlenv : ∀ {K : Value → Prop}, K (.int .i64 (L.length : Nat)) → xLenS v K := fun h => by rw [hv]; exact iLenL h
  refine hlenv ?_
  refine iLt ?_
  refine iCndP (fun h3 => ?_) (fun h3 => ?_)
  · have hjl : j < L.length := by omega
    have hsl : SlT w3 v M := ht.ow.sl
    refine iIaG hsl rfl (by omega) ?_
    rw [hMe j (Nat.le_refl _)]
    refine (hf (gt L j) (by rw [gt_eq hjl]; exact List.getElem_mem _) w3 X3).mono ?_
    rintro u w4 ⟨rfl, x4⟩
    have ht4 := ht.ext x4
    refine iNot ?_
    have hfj : (L.take (j + 1)).filter (fun x => !p x) = (L.take j).filter (fun x => !p x) ++ if p (gt L j) then [] else [gt L j] := by
      rw [hfl, if_pos hjl, List.filter_append, List.filter_cons]
      cases p (gt L j) <;> simp
    refine iCnd (fun h4 => ?_) (fun h4 => ?_)
    · rw [show p (gt L j) = false by simpa using h4] at hfj
      refine iIaOw ht4.ow (by omega) (by rw [List.length_map]; omega) fun b o hb _ _ hc hfz hset => ?_
      refine iSt (hc.trans (List.getElem?_eq_getElem (by rw [List.length_map]; omega))) hfz rfl ?_
      have hset := hset (sv (gt L j))
      rw [Int.toNat_natCast, ← List.map_set] at hset
      refine iAdd (by omega) ?_
      refine iAdd (by omega) ?_
      refine hKn (i + 1, j + 1) _ ⟨by show i + 1 < j + 1; omega, hjl, M.set i (gt L j), ⟨hset, ht4.ch.trans ((Upd.setCell w4 b o _).ch (S := fun c => v.ownBlock = some c) hb) fun _ e => .inl e⟩, by rw [List.length_set]; exact hM, ?_, fun k hk => ?_⟩ (by show L.length - (j + 1) < L.length - j; omega)
      · show (M.set i (gt L j)).take (i + 1) = (L.take (j + 1)).filter fun x => !p x
        rw [hfj, List.take_succ_eq_append_getElem (by rw [List.length_set]; omega), List.getElem_set_self, List.take_set_of_le (Nat.le_refl _), hMt]
        rfl
      · have hk : j + 1 ≤ k := hk
        rw [gt_set _ (by omega), if_neg (by omega)]
        exact hMe k (by omega)
    · rw [show p (gt L j) = true by simpa using h4] at hfj
      refine iAdd (by omega) ?_
      refine hKn (i, j + 1) _ ⟨by show i < j + 1; omega, hjl, M, ht4, hM, ?_, fun k hk => hMe k (by have hk : j + 1 ≤ k := hk; omega)⟩ (by show L.length - (j + 1) < L.length - j; omega)
      show M.take i = _
      rw [hfj, hMt]; simp
  · have hend : j = L.length := by omega
    subst hend
    rw [List.take_length] at hMt
    have ho := ht.ow
    rw [hv] at ho ⊢
    refine iSlTail (k := i) (by omega) hcap ?_
    refine iClr u_Sstring i_Sstring rfl ho (by rw [List.length_map]; exact hM) (by omega) fun w8 h8 hc8 => ?_
    refine iSlHead (k := i) (by omega) hcap ?_
    rw [show (List.map sv M).take i = strs (M.take i) from strs_take M i, hMt] at h8
    exact ⟨X3.thenCh hc8 fun b hb => by rw [hb]; exact hglo, h8⟩
theorem ok_impl_drop {lo : Nat} {v : Value} {L : List Str} {t : Str} {w : World} (hs : Ow lo t_string w v (strs L)) (hL : L.length ≤ 1099511627776) :
    Cal Tryz.prog f_impl_drop #[v, sv t] w fun r w' => Ext w w' ∧ Ow w.heap.size t_string w' r (strs (dropT t L)) := by
  apply c_impl_drop; unfold S_impl_drop
  refine iNew fun q w1 hq x1 hB => ?_
  refine iCall ((ok_slices_CloneT (hs.ext x1) hL).mono ?_)
  rintro u w2 ⟨x2, ho⟩
  refine iCall ((ok_slices_DeleteFuncT (w0 := w1) (p := fun u => decide (u = t)) x2 ho hL fun x hx w' hw' => (iClo rfl ?_)).mono ?_)
  · show Cal Tryz.prog f_impl_drop_1 #[sv x, .pointer (some ⟨q, 0, none⟩)] w' _
    apply c_impl_drop_1; unfold S_impl_drop_1
    refine iLdB (hB.ext hw') rfl ?_
    exact iEqT ⟨rfl, Ext.refl _⟩
  · rintro r w3 ⟨x3, ho3⟩
    exact ⟨x1.trans x3, ho3.mono x1.size⟩
end Go.Proofs.YtapdkkijoflcpaaGreatDoor

/- Contracts: parts, texts of parts, arrows, goals, keys of goals. Conditions: none. -/
namespace Go.Vc
theorem SlK.cellOk {k : Nat} {w : World} {v : Value} {n : Nat} {xs : List Value} (h : SlK k w v n xs) : isCell v = true := by
  obtain ⟨_, a, c, rfl, _⟩ := h
  rfl
theorem gtD_eq {fs : List Fm} {j : Nat} (h : j < fs.length) : fs.getD j .fls = fs[j] := by simp [List.getD_eq_getElem?_getD, h]
theorem size_kid {f : Fm} : ∀ g ∈ f.kids, g.size < f.size := fun g hg => by
  have := f.size_kids
  have h2 : ∀ (l : List Fm), g ∈ l → g.size ≤ sizeL l := by
    intro l
    induction l with
    | nil => intro h; simp at h
    | cons a l ih =>
      intro h
      simp only [sizeL, List.map_cons, List.sum_cons] at ih ⊢
      rcases List.mem_cons.1 h with rfl | h
      · omega
      · have := ih h; omega
  have := h2 _ hg
  omega
theorem good_kid : ∀ {f : Fm}, f.good → ∀ g ∈ f.kids, g.good
  | .and a b, h, g, hg => by simp only [Fm.kids, List.mem_cons, List.not_mem_nil, or_false] at hg; rcases hg with rfl | rfl; exact h.1; exact h.2
  | .or a b, h, g, hg => by simp only [Fm.kids, List.mem_cons, List.not_mem_nil, or_false] at hg; rcases hg with rfl | rfl; exact h.1; exact h.2
  | .imp a b, h, g, hg => by simp only [Fm.kids, List.mem_cons, List.not_mem_nil, or_false] at hg; rcases hg with rfl | rfl; exact h.1; exact h.2
  | .box a, h, g, hg => by simp only [Fm.kids, List.mem_cons, List.not_mem_nil, or_false] at hg; subst hg; exact h
  | .dia a, h, g, hg => by simp only [Fm.kids, List.mem_cons, List.not_mem_nil, or_false] at hg; subst hg; exact h
end Go.Vc
namespace Go.Proofs.YtapdkkijoflcpaaGreatDoor
open Go.Vc
abbrev TxW (lo : Nat) (w : World) (v : Value) (L : List Str) : Prop := Ow lo t_string w v (strs L)
theorem ok_impl_parts {v : Value} {f : Fm} {w : World} (hs : FmS w v f) (hn : f.size ≤ 1099511627776) : Cal Tryz.prog f_impl_parts #[v] w fun r w' => Ext w w' ∧ ∃ vs, Sl w' r vs ∧ FmsS w' vs f.kids := by
  apply c_impl_parts; unfold S_impl_parts
  refine iFld (j := 0) hs rfl f.size_pos (by decide) (kind_fst hs).1 ?_
  refine iRet (ok_impl_partsOf f.kind w) fun w1 x1 => ?_
  have har := f.arity_kids
  refine iEq ?_
  refine iCndP (fun h => ?_) (fun h => ?_)
  · obtain ⟨g, hg⟩ : ∃ g, f.kids = [g] := List.length_eq_one_iff.1 (by omega)
    refine iCall ((ok_impl_first (hs.ext x1) hg hn).mono ?_)
    rintro u w2 ⟨x2, hu⟩
    refine iBs1 rfl (SlK.cellOk hu) fun b w3 hb x3 hB => ?_
    refine ⟨(x1.trans x2).trans x3, _, Sl.ofBlk (n := 1) hB rfl (by decide), by rw [hg]; rfl, fun i hi => ?_⟩
    rw [hg] at hi ⊢
    have : i = 0 := by simp at hi; omega
    subst this
    exact ⟨u, rfl, hu.ext x3⟩
  · refine iEq ?_
    refine iCndP (fun h2 => ?_) (fun h2 => ?_)
    · obtain ⟨g, k, hg⟩ : ∃ g k, f.kids = [g, k] := by
        have : f.kids.length = 2 := by omega
        match hk : f.kids, this with
        | [g, k], _ => exact ⟨g, k, rfl⟩
      refine iCall ((ok_impl_first (hs.ext x1) hg hn).mono ?_)
      rintro u w2 ⟨x2, hu⟩
      refine iCall ((ok_impl_second ((hs.ext x1).ext x2) hg hn).mono ?_)
      rintro u' w3 ⟨x3, hu'⟩
      refine iBs2 rfl (SlK.cellOk hu) (SlK.cellOk hu') fun b w4 hb x4 hB => ?_
      refine ⟨((x1.trans x2).trans x3).trans x4, _, Sl.ofBlk (n := 2) hB rfl (by decide), by rw [hg]; rfl, fun i hi => ?_⟩
      rw [hg] at hi ⊢
      rcases i with _ | _ | i
      · exact ⟨u, rfl, (hu.ext x3).ext x4⟩
      · exact ⟨u', rfl, hu'.ext x4⟩
      · simp at hi; omega
    · refine ⟨x1, [], Sl.nil _, ?_, fun i hi => ?_⟩
      · have : f.kids.length ≤ 2 := by cases f <;> simp [Fm.kids]
        simp; omega
      · have : f.kids.length ≤ 2 := by cases f <;> simp [Fm.kids]
        omega
theorem ok_impl_partTexts {v : Value} {f : Fm} {w : World} (hs : FmS w v f) (hg : f.good) (hn : f.size ≤ 1099511627776) : Cal Tryz.prog f_impl_partTexts #[v] w fun r w' => Ext w w' ∧ TxW w.heap.size w' r (f.kids.map Fm.body) := by
  apply c_impl_partTexts; unfold S_impl_partTexts
  refine iCall ((ok_impl_parts hs hn).mono ?_)
  rintro u w1 ⟨x1, vs, hsl, hf⟩
  refine iLenS hsl ?_
  have hkl : f.kids.length ≤ 2 := by cases f <;> simp [Fm.kids]
  have hvl := hf.1
  refine iLp (fun s : Value × Nat => [s.1, .int .i64 (s.2 : Int)]) (fun s w' => s.2 ≤ f.kids.length ∧ Ext w1 w' ∧ TxW w1.heap.size w' s.1 ((f.kids.take s.2).map Fm.body)) (fun s => f.kids.length - s.2) (.slice none 0 0, 0) rfl ⟨Nat.zero_le _, Ext.refl _, Ow.nil _ _ _⟩ ?_
  rintro ⟨r, k⟩ w2 Kn ⟨hk, x2, ho⟩ hKn
  have hk : k ≤ f.kids.length := hk
  have ho : TxW w1.heap.size w2 r ((f.kids.take k).map Fm.body) := ho
  intro _
  simp only [gx]
  refine iLt ?_
  refine iCndP (fun h => ?_) (fun h => ?_)
  · have hkk : k < f.kids.length := by omega
    obtain ⟨a, ha1, ha2⟩ := hf.2 k hkk
    rw [gtD_eq hkk] at ha2
    refine iIa (j := (k : Int)) (hsl.ext x2) (by omega) (by omega) fun p hp => ?_
    have hp : w2.cell? p = some a := hp.trans (by rw [Int.toNat_natCast]; exact ha1)
    refine iLd hp ?_
    have hm : f.kids[k] ∈ f.kids := List.getElem_mem _
    have := size_kid _ hm
    refine iRet (ok_impl_text (ha2.ext x2) (good_kid hg _ hm) (by omega)) fun w3 x3 => ?_
    have ho3 := ho.ext x3
    refine iApp1 u_Sstring i_Sstring rfl ho3 rfl (by rw [strs_len, List.length_map, List.length_take]; omega) (by rw [strs_len, List.length_map, List.length_take]; omega) (x2.trans x3).size fun r' w5 ho5 hg5 => ?_
    refine iAdd (by omega) ?_
    refine hKn (r', k + 1) _ ⟨hkk, (x2.trans x3).grown hg5 fun b hb => (ho3.blk b hb).1, ?_⟩ (by show f.kids.length - (k + 1) < f.kids.length - k; omega)
    show TxW _ _ _ _
    rw [List.take_succ_eq_append_getElem hkk, List.map_append, List.map_singleton]
    rw [strs_snoc] at ho5
    exact ho5
  · have : k = f.kids.length := by omega
    subst this
    rw [List.take_length] at ho
    exact ⟨x1.trans x2, ho.mono x1.size⟩
/-- a > b, from a row of two formulas. -/
theorem ok_impl_arrow2 {v va vb : Value} {a b : Fm} {w : World} (hs : Sl w v [va, vb]) (ha : FmS w va a) (hb : FmS w vb b) (hsz : (Fm.imp a b).size ≤ 1099511627776) : Cal Tryz.prog f_impl_arrow #[v] w fun r w' => Ext w w' ∧ FmW w.heap.size w' r (.imp a b) := by
  apply c_impl_arrow; unfold S_impl_arrow
  refine iLenS hs ?_
  refine iSub (by simp) ?_
  refine iIa (j := 1) hs (by omega) (by simp) fun p hp => ?_
  have hp : w.cell? p = some vb := hp
  refine iLd hp ?_
  refine iLenS hs ?_
  refine iSub (by simp) ?_
  refine iLp (fun s : Value × Nat => [s.1, .int .i64 ((s.2 : Int) - 1)]) (fun s w' => (s.2 = 1 ∧ s.1 = vb ∧ w' = w) ∨ (s.2 = 0 ∧ Ext w w' ∧ FmW w.heap.size w' s.1 (.imp a b))) (fun s => s.2) (vb, 1) rfl (.inl ⟨rfl, rfl, rfl⟩) ?_
  rintro ⟨u, s⟩ w2 Kn (⟨h1, h2, h3⟩ | ⟨h1, x2, ho⟩) hKn
  · have h1 : s = 1 := h1
    have h2 : u = vb := h2
    subst h1; subst h2; subst h3
    intro _
    simp only [gx]
    refine iLe (iCndT (by decide) ?_)
    refine iIa (j := 0) hs (by omega) (by simp) fun p hp => ?_
    have hp : w2.cell? p = some va := hp
    refine iLd hp ?_
    refine iCall ((ok_impl_join (k := 4) (c := .imp a b) rfl rfl ha hb hsz).mono ?_)
    rintro r w3 ⟨x3, ho⟩
    refine iSub (by simp) ?_
    exact hKn (r, 0) _ (.inr ⟨rfl, x3, ho⟩) (by simp)
  · have h1 : s = 0 := h1
    subst h1
    intro _
    simp only [gx]
    refine iLe (iCndF (by decide) ?_)
    exact ⟨x2, ho⟩
/-- a > (b > c), from a row of three formulas. -/
theorem ok_impl_arrow3 {v va vb vc : Value} {a b c : Fm} {w : World} (hs : Sl w v [va, vb, vc]) (ha : FmS w va a) (hb : FmS w vb b) (hc : FmS w vc c) (hsz : (Fm.imp a (.imp b c)).size ≤ 1099511627776) : Cal Tryz.prog f_impl_arrow #[v] w fun r w' => Ext w w' ∧ FmW w.heap.size w' r (.imp a (.imp b c)) := by
  apply c_impl_arrow; unfold S_impl_arrow
  refine iLenS hs ?_
  refine iSub (by simp) ?_
  refine iIa (j := 2) hs (by omega) (by simp) fun p hp => ?_
  have hp : w.cell? p = some vc := hp
  refine iLd hp ?_
  refine iLenS hs ?_
  refine iSub (by simp) ?_
  refine iLp (fun s : Value × Nat => [s.1, .int .i64 ((s.2 : Int) - 1)]) (fun s w' => (s.2 = 2 ∧ s.1 = vc ∧ w' = w) ∨ (s.2 = 1 ∧ Ext w w' ∧ FmW w.heap.size w' s.1 (.imp b c)) ∨ (s.2 = 0 ∧ Ext w w' ∧ FmW w.heap.size w' s.1 (.imp a (.imp b c)))) (fun s => s.2) (vc, 2) rfl (.inl ⟨rfl, rfl, rfl⟩) ?_
  have hsz2 : (Fm.imp b c).size ≤ 1099511627776 := by simp only [Fm.size] at hsz ⊢; omega
  rintro ⟨u, s⟩ w2 Kn (⟨h1, h2, h3⟩ | ⟨h1, x2, ho⟩ | ⟨h1, x2, ho⟩) hKn
  · have h1 : s = 2 := h1
    have h2 : u = vc := h2
    subst h1; subst h2; subst h3
    intro _
    simp only [gx]
    refine iLe (iCndT (by decide) ?_)
    refine iIa (j := 1) hs (by omega) (by simp) fun p hp => ?_
    have hp : w2.cell? p = some vb := hp
    refine iLd hp ?_
    refine iCall ((ok_impl_join (k := 4) (c := .imp b c) rfl rfl hb hc hsz2).mono ?_)
    rintro r w3 ⟨x3, ho⟩
    refine iSub (by simp) ?_
    exact hKn (r, 1) _ (.inr (.inl ⟨rfl, x3, ho⟩)) (by simp)
  · have h1 : s = 1 := h1
    subst h1
    intro _
    simp only [gx]
    refine iLe (iCndT (by decide) ?_)
    refine iIa (j := 0) (hs.ext x2) (by omega) (by simp) fun p hp => ?_
    have hp : w2.cell? p = some va := hp
    refine iLd hp ?_
    refine iCall ((ok_impl_join (k := 4) (c := .imp a (.imp b c)) rfl rfl (ha.ext x2) ho.sl hsz).mono ?_)
    rintro r w3 ⟨x3, ho3⟩
    refine iSub (by simp) ?_
    exact hKn (r, 0) _ (.inr (.inr ⟨rfl, x2.trans x3, ho3.mono x2.size⟩)) (by simp)
  · have h1 : s = 0 := h1
    subst h1
    intro _
    simp only [gx]
    refine iLe (iCndF (by decide) ?_)
    exact ⟨x2, ho⟩
end Go.Proofs.YtapdkkijoflcpaaGreatDoor

/- Contracts: goals of the program's search, their keys and their premises. Conditions: none. -/
namespace Go.Vc
theorem iNew2 {w : World} {e : TypeId} {a b : Value} {K : Value → World → Prop} (h : ∀ q w', q = w.heap.size ∧ w'.heap.size = q + 1 → Ext w w' → Blk e w' q [a, b] → K (.pointer (some ⟨q, 0, none⟩)) w') : xNew (Value.cells (.agg #[a, b])) e w K :=
  iNew fun q w' h1 h2 h3 => h q w' h1 h2 (by simpa [Value.cells] using h3)
theorem iLd2 {w : World} {e : TypeId} {q : Nat} {a b : Value} {K : Value → Prop} (hB : Blk e w q [a, b]) (h : K (.agg #[a, b])) : xLdA w 2 (.pointer (some ⟨q, 0, none⟩)) K := iLdA hB rfl (by simpa using h)
theorem iSt2 {P : Program} {w : World} {e : TypeId} {q : Nat} {cs : List Value} {a b : Value} {K : World → Prop} (hB : Blk e w q cs) (hl : cs.length = 2) (ha : isCell a = true) (hb : isCell b = true)
    (h : ∀ w', Blk e w' q [a, b] → Ch (fun d => d = q) w w' → K w') : xStA P w 2 (.pointer (some ⟨q, 0, none⟩)) (.agg #[a, b]) K := by
  obtain ⟨w', h1, h2, h3⟩ := storeCells_run (P := P) [a, b] 0 w cs hB (by simp [hl]) (fun v hv => by simp at hv; rcases hv with rfl | rfl <;> assumption)
  refine ⟨_, w', rfl, rfl, ?_, h w' ?_ (h2.ch rfl)⟩
  · simpa [Value.cells] using h1
  · rw [List.take_zero, List.nil_append, List.drop_of_length_le (by simp [hl]), List.append_nil] at h3; exact h3
/-- Two elements of two cells. -/
theorem iBsA2 {w : World} {e : TypeId} {z0 z1 x y x' y' : Value} {K : Value → World → Prop} (h : ∀ b w', b = w.heap.size ∧ w'.heap.size = b + 1 → Ext w w' → Blk e w' b [x, y, x', y'] → K (.slice (some ⟨b, 0, none⟩) 2 2) w') :
    xBs e (Value.cells (.agg #[z0, z1])) 2 2 [(0, .agg #[x, y]), (1, .agg #[x', y'])] w K := by
  refine ⟨#[x, y, x', y'], ?_, h _ _ ⟨rfl, by simp⟩ (Ext.alloc w _) (Blk.new w #[x, y, x', y'] e)⟩
  simp [Instr.fill, Value.cells, show Array.range 4 = #[0, 1, 2, 3] from rfl]
theorem SlK.ofBlk {k : Nat} {e : TypeId} {w : World} {b n : Nat} {cs : List Value} (h : Blk e w b cs) (hn : cs.length = n * k) (hm : n ≤ 9223372036854775807) : SlK k w (.slice (some ⟨b, 0, none⟩) n n) n cs := (OwK.ofBlk (lo := 0) h (Nat.zero_le _) hn hm).sl
theorem flat_take {L : List Str} {k : Nat} (h : k < L.length) (f : Str → Str) : (L.take (k + 1)).flatMap f = (L.take k).flatMap f ++ f (gt L k) := by
  rw [List.take_succ_eq_append_getElem h, List.flatMap_append, gt_eq h]; simp
theorem flat_le (L : List Str) (k : Nat) (f : Str → Str) : ((L.take k).flatMap f).length ≤ (L.flatMap f).length := by
  have : L.flatMap f = (L.take k).flatMap f ++ (L.drop k).flatMap f := by rw [← List.flatMap_append, List.take_append_drop]
  rw [this, List.length_append]; omega
end Go.Vc
namespace Go.Proofs.YtapdkkijoflcpaaGreatDoor
open Go.Vc
theorem ok_impl_goal_instead {lo lo' : Nat} {v vt : Value} {L ts : List Str} {r t : Str} {w : World} (hv : TxW lo w v L) (ht : TxW lo' w vt ts) (hl : L.length + ts.length ≤ 1099511627776) :
    Cal Tryz.prog f_impl_goal_instead #[.agg #[v, sv r], sv t, vt] w fun u w' => Ext w w' ∧ ∃ v', u = .agg #[v', sv r] ∧ TxW w.heap.size w' v' (ins L t ts) := by
  apply c_impl_goal_instead; unfold S_impl_goal_instead
  refine iNew2 fun q1 w1 hq1 x1 hB1 => ?_
  refine iNew2 fun q2 w2 hq2 x2 hB2 => ?_
  have hB1 := hB1.ext x2
  refine iFa (iLdB hB1 rfl ?_)
  refine iFa (iLdB hB1 rfl ?_)
  intro w3 x3
  have X3 := (x1.trans x2).trans x3
  have hd : (dropT t L).length ≤ L.length := List.length_filter_le _ _
  refine iCall ((ok_impl_drop (hv.ext X3) (by omega)).mono ?_)
  rintro u w4 ⟨x4, ho4⟩
  refine ⟨x4, fun w5 x5 => ?_⟩
  refine iCall ((ok_impl_put (A := dropT t L) (B := ts) (ho4.ext x5).sl (ht.ext ((X3.trans x4).trans x5)).sl ho4.cell ht.cell (by omega)).mono ?_)
  rintro u' w6 ⟨x6, ho6⟩
  refine ⟨x6, ?_⟩
  refine iBuild2 ho6.cell rfl ?_
  intro w7 x7
  have X7 := ((x3.trans x4).trans (x5.trans x6)).trans x7
  have hB7 := hB2.ext X7
  refine iSt2 hB7 rfl ho6.cell rfl fun w8 hB8 hc8 => ?_
  intro w9 x9
  refine iLd2 (hB8.ext x9) ?_
  have ho8 : TxW w5.heap.size w8 u' (ins L t ts) := (ho6.ext x7).ch hc8 fun c hc e => by
    have h1 := (ho6.blk c hc).1
    have h2 := x5.size
    have h3 := x4.size
    have h4 := x3.size
    omega
  have hX : Ext w w8 := ((x1.trans x2).trans X7).thenCh hc8 fun c hc => by have := x1.size; omega
  refine ⟨hX.trans x9, u', rfl, (ho8.ext x9).mono ?_⟩
  have h2 := x5.size
  have h3 := x4.size
  have h4 := X3.size
  omega
theorem ok_impl_goal_with {lo lo' : Nat} {v vt : Value} {L ts : List Str} {r : Str} {w : World} (hv : TxW lo w v L) (ht : TxW lo' w vt ts) (hl : L.length + ts.length ≤ 1099511627776) :
    Cal Tryz.prog f_impl_goal_with #[.agg #[v, sv r], vt] w fun u w' => Ext w w' ∧ ∃ v', u = .agg #[v', sv r] ∧ TxW w.heap.size w' v' (setT (L ++ ts)) := by
  apply c_impl_goal_with; unfold S_impl_goal_with
  refine iNew2 fun q1 w1 hq1 x1 hB1 => ?_
  refine iNew2 fun q2 w2 hq2 x2 hB2 => ?_
  have hB1 := hB1.ext x2
  refine iFa (iLdB hB1 rfl ?_)
  refine iFa (iLdB hB1 rfl ?_)
  intro w3 x3
  have X3 := (x1.trans x2).trans x3
  refine iCall ((ok_impl_put (A := L) (B := ts) (hv.ext X3).sl (ht.ext X3).sl hv.cell ht.cell (by omega)).mono ?_)
  rintro u' w6 ⟨x6, ho6⟩
  refine ⟨x6, ?_⟩
  refine iBuild2 ho6.cell rfl ?_
  intro w7 x7
  have X7 := (x3.trans x6).trans x7
  have hB7 := hB2.ext X7
  refine iSt2 hB7 rfl ho6.cell rfl fun w8 hB8 hc8 => ?_
  intro w9 x9
  refine iLd2 (hB8.ext x9) ?_
  have ho8 : TxW w3.heap.size w8 u' (setT (L ++ ts)) := (ho6.ext x7).ch hc8 fun c hc e => by
    have h1 := (ho6.blk c hc).1
    have h4 := x3.size
    omega
  have hX : Ext w w8 := ((x1.trans x2).trans X7).thenCh hc8 fun c hc => by have := x1.size; omega
  exact ⟨hX.trans x9, u', rfl, (ho8.ext x9).mono X3.size⟩
theorem ok_impl_goal_proving {v : Value} {r r' : Str} {w : World} (hc : isCell v = true) : Ret Tryz.prog f_impl_goal_proving #[.agg #[v, sv r], sv r'] w (.agg #[v, sv r']) := by
  apply c_impl_goal_proving; unfold S_impl_goal_proving
  refine iNew2 fun q1 w1 hq1 x1 hB1 => ?_
  refine iNew2 fun q2 w2 hq2 x2 hB2 => ?_
  have hB1 := hB1.ext x2
  refine iFa (iLdB hB1 rfl ?_)
  refine iBuild2 hc rfl ?_
  refine iSt2 hB2 rfl hc rfl fun w8 hB8 hc8 => ?_
  refine iLd2 hB8 ⟨rfl, (x1.trans x2).thenCh hc8 fun c hc => by have := x1.size; omega⟩
theorem ok_impl_sequentKey {v u : Value} {L : List Str} {r : Str} {w : World} (hv : SlT w v L) (hu : SlT w u [r]) (hl : (L.flatMap (fun t => t ++ [47])).length + r.length ≤ 1152921504606846976) :
    Ret Tryz.prog f_impl_sequentKey #[.agg #[v, u]] w (sv (keyT L r)) := by
  apply c_impl_sequentKey; unfold S_impl_sequentKey
  refine iNew2 fun q w1 hq x1 hB => ?_
  refine iFa (iLdB hB rfl ?_)
  refine iLenStr (hv.ext x1) ?_
  have hln := hv.len
  rw [strs_len] at hln
  refine iLp (fun k : Nat => [sv ((L.take k).flatMap fun t => t ++ [47]), .int .i64 (k : Int)]) (fun k w' => k ≤ L.length ∧ w' = w1) (fun k => L.length - k) 0 rfl ⟨Nat.zero_le _, rfl⟩ ?_
  rintro k w2 Kn ⟨hk, rfl⟩ hKn
  intro _
  simp only [gx]
  refine iLt ?_
  refine iCndP (fun h => ?_) (fun h => ?_)
  · have hk' : k < L.length := by omega
    have e := flat_take hk' fun t => t ++ [47]
    have hle := flat_le L (k + 1) fun t => t ++ [47]
    rw [e, List.length_append, List.length_append, List.length_singleton] at hle
    refine iIaG (hv.ext x1) rfl hk' ?_
    refine iCat (b := [47]) (by simp only [List.length_singleton]; omega) ?_
    refine iCat (by rw [List.length_append, List.length_singleton]; omega) ?_
    refine iAdd (by omega) ?_
    rw [← e]
    exact hKn (k + 1) _ ⟨hk', rfl⟩ (by omega)
  · have : k = L.length := by omega
    subst this
    rw [List.take_length]
    refine iCat (b := [59]) (by simp only [List.length_singleton]; omega) ?_
    refine iFa (iLdB hB rfl ?_)
    refine iLenStr (hu.ext x1) ?_
    refine iLp (fun k : Nat => [sv (if k = 0 then (L.flatMap fun t => t ++ [47]) ++ [59] else keyT L r), .int .i64 (k : Int)]) (fun k w' => k ≤ 1 ∧ w' = w2) (fun k => 1 - k) 0 rfl ⟨Nat.zero_le _, rfl⟩ ?_
    rintro k w3 Kn ⟨hk, rfl⟩ hKn
    intro _
    simp only [gx]
    refine iLt ?_
    refine iCndP (fun h => ?_) (fun h => ?_)
    · have hk0 : k = 0 := by simp at h; omega
      subst hk0
      rw [if_pos rfl]
      refine iIaG (hu.ext x1) rfl (by simp) ?_
      refine iCat (b := [47]) (by show r.length + 1 ≤ _; omega) ?_
      refine iCat (by show ((L.flatMap fun t => t ++ [47]) ++ [59]).length + (r ++ [47]).length ≤ _; simp only [List.length_append, List.length_singleton]; omega) ?_
      refine iAdd (by omega) ?_
      refine cast ?_ (hKn 1 w3 ⟨Nat.le_refl _, rfl⟩ (by omega))
      rw [if_neg (by omega)]
      simp [keyT, gt]
    · have hk1 : k = 1 := by simp at h; omega
      subst hk1
      rw [if_neg (by omega)]
      exact ⟨rfl, x1⟩
/-- A row of goals. -/
def GlR (w : World) (x : Value) (ps : List Sq) : Prop := ∃ xs, SlK 2 w x ps.length xs ∧ ∀ i p, ps[i]? = some p → ∃ v, xs[i * 2 + 0]? = some v ∧ xs[i * 2 + 1]? = some (sv p.2) ∧ TxW 0 w v p.1
theorem GlR.ext {w w' : World} {x : Value} {ps : List Sq} (h : GlR w x ps) (k : Ext w w') : GlR w' x ps := by
  obtain ⟨xs, h1, h2⟩ := h
  exact ⟨xs, h1.ext k, fun i p hp => by obtain ⟨v, a, b, c⟩ := h2 i p hp; exact ⟨v, a, b, c.ext k⟩⟩
theorem GlR.one {w : World} {e : TypeId} {b lo : Nat} {v : Value} {p : Sq} (hB : Blk e w b [v, sv p.2]) (hv : TxW lo w v p.1) : GlR w (.slice (some ⟨b, 0, none⟩) 1 1) [p] :=
  ⟨_, SlK.ofBlk (n := 1) hB rfl (by decide), fun i q hq => by
    rcases i with _ | i
    · simp only [List.getElem?_cons_zero, Option.some.injEq] at hq
      subst hq
      exact ⟨v, rfl, rfl, hv.mono (Nat.zero_le _)⟩
    · simp at hq⟩
theorem GlR.two {w : World} {e : TypeId} {b lo lo' : Nat} {v u : Value} {p q : Sq} (hB : Blk e w b [v, sv p.2, u, sv q.2]) (hv : TxW lo w v p.1) (hu : TxW lo' w u q.1) : GlR w (.slice (some ⟨b, 0, none⟩) 2 2) [p, q] :=
  ⟨_, SlK.ofBlk (n := 2) hB rfl (by decide), fun i s hs => by
    rcases i with _ | _ | i
    · simp only [List.getElem?_cons_zero, Option.some.injEq] at hs
      subst hs
      exact ⟨v, rfl, rfl, hv.mono (Nat.zero_le _)⟩
    · simp only [Nat.zero_add, List.getElem?_cons_succ, List.getElem?_cons_zero, Option.some.injEq] at hs
      subst hs
      exact ⟨u, rfl, rfl, hu.mono (Nat.zero_le _)⟩
    · simp at hs⟩
end Go.Proofs.YtapdkkijoflcpaaGreatDoor

/- Contracts: the premises that the program's search takes from the left side. Conditions: none. -/
namespace Go.Proofs.YtapdkkijoflcpaaGreatDoor
open Go.Vc
theorem ok_impl_goal_implied {lo : Nat} {v va vb : Value} {L : List Str} {r t : Str} {a b : Fm} {w : World} (hv : TxW lo w v L) (ha : FmS w va a) (hb : FmS w vb b) (e : fT t = .imp a b) (hga : a.good) (hgb : b.good) (hp : a.plain = true) (hn : (Fm.imp a b).size ≤ 1000000) (hl : L.length ≤ 549755813888) :
    Cal Tryz.prog f_impl_goal_implied #[.agg #[v, sv r], sv t, va, vb] w fun u w' => Ext w w' ∧ ∃ x, u = .tuple #[x, .bool (takenOf L r t).2] ∧ ((takenOf L r t).2 = true → GlR w' x (takenOf L r t).1) := by
  apply c_impl_goal_implied; unfold S_impl_goal_implied
  refine iNew2 fun q w1 hq x1 hB => ?_
  refine iFld (j := 0) (ha.ext x1) rfl a.size_pos (by decide) (kind_fst ha).1 ?_
  have hba := a.size_pos
  have hbb := b.size_pos
  have one : ∀ {w' : World} {u : Value} {c : Fm} {bb : Nat} {e : TypeId}, Blk e w' bb [u, sv r] → TxW 0 w' u (ins L t [c.body]) → GlR w' (.slice (some ⟨bb, 0, none⟩) 1 1) [(ins L t [c.body], r)] := fun h k => GlR.one (p := (_, r)) h k
  cases a with
  | box a => cases hp
  | dia a => cases hp
  | imp a c =>
    refine iEq (iCndF rfl (iEq (iCndF rfl (iEq (iCndF rfl (iEq (iCndF rfl ?_)))))))
    have hT : takenOf L r t = ([], false) := by unfold takenOf; rw [e]
    rw [hT]
    exact ⟨x1, _, rfl, fun h => by cases h⟩
  | fls =>
    refine iEq (iCndT rfl ?_)
    have hT : takenOf L r t = ([(ins L t [], r)], true) := by unfold takenOf; rw [e]
    rw [hT]
    refine iLd2 hB ?_
    refine iCall ((ok_impl_goal_instead (lo' := 0) (ts := []) (hv.ext x1) (Ow.nil _ _ _) (by simp only [List.length_nil]; omega)).mono ?_)
    rintro u w2 ⟨x2, v', rfl, ho⟩
    refine iBsA fun bb w3 hb3 x3 hB3 => ?_
    exact ⟨(x1.trans x2).trans x3, _, rfl, fun _ => GlR.one (p := (ins L t [], r)) hB3 (ho.ext x3)⟩
  | var p =>
    refine iEq (iCndF rfl (iEq (iCndT rfl ?_)))
    have hT : takenOf L r t = ([(ins L t [b.body], r)], decide ((Fm.var p).body ∈ L)) := by unfold takenOf; rw [e]
    rw [hT]
    refine iLd2 hB ?_
    simp only [Fm.size] at hn
    refine iRetQ (fun w' x' => ok_impl_text ((hb.ext x1).ext x') hgb (by omega)) ?_
    refine iFa (iLdB hB rfl ?_)
    intro w4 x4
    refine iBs1 rfl rfl fun bb w5 hb5 x5 hB5 => ⟨x5, fun w6 x6 => ?_⟩
    have X6 := x1.trans (x4.trans (x5.trans x6))
    refine iCall ((ok_impl_goal_instead (ts := [b.body]) (hv.ext X6) (Ow.ofBlk (n := 1) (hB5.ext x6) (Nat.zero_le _) rfl (by decide)) (by simp only [List.length_singleton]; omega)).mono ?_)
    rintro u w7 ⟨x7, v', rfl, ho⟩
    refine ⟨x7, ?_⟩
    have X7 := X6.trans x7
    refine iRetQ (fun w' x' => ok_impl_text (f := .var p) ((ha.ext X7).ext x') hga (by simp [Fm.size])) ?_
    refine iRetQ (fun w' x' => ok_slices_ContainsT ((hv.ext X7).ext x').sl) ?_
    intro w8 x8
    refine iBsA fun b2 w9 hb9 x9 hB9 => ⟨x9, fun w10 x10 => ?_⟩
    have y := (x8.trans x9).trans x10
    exact ⟨X7.trans y, _, rfl, fun _ => one (hB9.ext x10) ((ho.ext y).mono (Nat.zero_le _))⟩
  | and c d =>
    refine iEq (iCndF rfl (iEq (iCndF rfl (iEq (iCndT rfl ?_)))))
    have hT : takenOf L r t = ([(ins L t [(Fm.imp c (.imp d b)).body], r)], true) := by unfold takenOf; rw [e]
    rw [hT]
    refine iLd2 hB ?_
    simp only [Fm.size] at hn
    intro w11 x11
    have X11 := x1.trans x11
    refine iCall ((ok_impl_first (f := .and c d) (ha.ext X11) rfl (by simp only [Fm.size]; omega)).mono ?_)
    rintro u1 w12 ⟨x12, hu1⟩
    refine ⟨x12, fun w13 x13 => ?_⟩
    have X13 := (X11.trans x12).trans x13
    refine iCall ((ok_impl_second (f := .and c d) (ha.ext X13) rfl (by simp only [Fm.size]; omega)).mono ?_)
    rintro u2 w14 ⟨x14, hu2⟩
    refine ⟨x14, fun w15 x15 => ?_⟩
    have X15 := (X13.trans x14).trans x15
    refine iBs3 rfl (SlK.cellOk hu1) (SlK.cellOk hu2) (SlK.cellOk hb) fun b1 w16 hb16 x16 hB16 => ⟨x16, fun w17 x17 => ?_⟩
    have y17 := x16.trans x17
    have X17 := X15.trans y17
    refine iCall ((ok_impl_arrow3 (Sl.ofBlk (n := 3) (hB16.ext x17) rfl (by decide)) (hu1.ext ((x13.trans (x14.trans x15)).trans y17)) (hu2.ext (x15.trans y17)) (hb.ext X17) (by simp only [Fm.size]; omega)).mono ?_)
    rintro u3 w18 ⟨x18, ho3⟩
    refine ⟨x18, ?_⟩
    refine iRetQ (fun w' x' => ok_impl_text (f := .imp c (.imp d b)) (OwK.sl (OwK.ext ho3 x')) ⟨hga.1, hga.2, hgb⟩ (by simp only [Fm.size]; omega)) ?_
    intro w19 x19
    refine iBs1 rfl rfl fun b2 w20 hb20 x20 hB20 => ⟨x20, fun w21 x21 => ?_⟩
    have X21 := (X17.trans x18).trans (x19.trans (x20.trans x21))
    refine iCall ((ok_impl_goal_instead (ts := [(Fm.imp c (.imp d b)).body]) (hv.ext X21) (Ow.ofBlk (n := 1) (hB20.ext x21) (Nat.zero_le _) rfl (by decide)) (by simp only [List.length_singleton]; omega)).mono ?_)
    rintro u w22 ⟨x22, v', rfl, ho⟩
    intro w23 x23
    refine iBsA fun b3 w24 hb24 x24 hB24 => fun w25 x25 => ?_
    have y := (x23.trans x24).trans x25
    exact ⟨(X21.trans x22).trans y, _, rfl, fun _ => one (hB24.ext x25) ((ho.ext y).mono (Nat.zero_le _))⟩
  | or c d =>
    refine iEq (iCndF rfl (iEq (iCndF rfl (iEq (iCndF rfl (iEq (iCndT rfl ?_)))))))
    have hT : takenOf L r t = ([(ins L t [(Fm.imp c b).body, (Fm.imp d b).body], r)], true) := by unfold takenOf; rw [e]
    rw [hT]
    refine iLd2 hB ?_
    simp only [Fm.size] at hn
    intro w11 x11
    have X11 := x1.trans x11
    refine iCall ((ok_impl_first (f := .or c d) (ha.ext X11) rfl (by simp only [Fm.size]; omega)).mono ?_)
    rintro u1 w12 ⟨x12, hu1⟩
    refine ⟨x12, fun w13 x13 => ?_⟩
    have X13 := (X11.trans x12).trans x13
    refine iBs2 rfl (SlK.cellOk hu1) (SlK.cellOk hb) fun b1 w14 hb14 x14 hB14 => ⟨x14, fun w15 x15 => ?_⟩
    have y15 := x14.trans x15
    have X15 := X13.trans y15
    refine iCall ((ok_impl_arrow2 (a := c) (b := b) (Sl.ofBlk (n := 2) (hB14.ext x15) rfl (by decide)) (hu1.ext (x13.trans y15)) (hb.ext X15) (by simp only [Fm.size]; omega)).mono ?_)
    rintro u3 w16 ⟨x16, ho3⟩
    refine ⟨x16, ?_⟩
    refine iRetQ (fun w' x' => ok_impl_text (f := .imp c b) (OwK.sl (OwK.ext ho3 x')) ⟨hga.1, hgb⟩ (by simp only [Fm.size]; omega)) ?_
    intro w17 x17
    have X17 := X15.trans (x16.trans x17)
    refine iCall ((ok_impl_second (f := .or c d) (ha.ext X17) rfl (by simp only [Fm.size]; omega)).mono ?_)
    rintro u2 w18 ⟨x18, hu2⟩
    refine ⟨x18, fun w19 x19 => ?_⟩
    have X19 := (X17.trans x18).trans x19
    refine iBs2 rfl (SlK.cellOk hu2) (SlK.cellOk hb) fun b2 w20 hb20 x20 hB20 => ⟨x20, fun w21 x21 => ?_⟩
    have y21 := x20.trans x21
    have X21 := X19.trans y21
    refine iCall ((ok_impl_arrow2 (a := d) (b := b) (Sl.ofBlk (n := 2) (hB20.ext x21) rfl (by decide)) (hu2.ext (x19.trans y21)) (hb.ext X21) (by simp only [Fm.size]; omega)).mono ?_)
    rintro u4 w22 ⟨x22, ho4⟩
    refine ⟨x22, ?_⟩
    refine iRetQ (fun w' x' => ok_impl_text (f := .imp d b) (OwK.sl (OwK.ext ho4 x')) ⟨hga.2, hgb⟩ (by simp only [Fm.size]; omega)) ?_
    intro w23 x23
    refine iBs2 rfl rfl rfl fun b3 w24 hb24 x24 hB24 => ⟨x24, fun w25 x25 => ?_⟩
    have X25 := (X21.trans x22).trans (x23.trans (x24.trans x25))
    refine iCall ((ok_impl_goal_instead (ts := [(Fm.imp c b).body, (Fm.imp d b).body]) (hv.ext X25) (Ow.ofBlk (n := 2) (hB24.ext x25) (Nat.zero_le _) rfl (by decide)) (by simp only [List.length_cons, List.length_nil]; omega)).mono ?_)
    rintro u w26 ⟨x26, v', rfl, ho⟩
    intro w27 x27
    refine iBsA fun b4 w28 hb28 x28 hB28 => fun w29 x29 => ?_
    have y := (x27.trans x28).trans x29
    exact ⟨(X25.trans x26).trans y, _, rfl, fun _ => GlR.one (p := (_, r)) (hB28.ext x29) ((ho.ext y).mono (Nat.zero_le _))⟩
theorem ok_impl_goal_taken {lo : Nat} {v va : Value} {L : List Str} {r t : Str} {w : World} (hv : TxW lo w v L) (ha : FmS w va (fT t)) (hg : (fT t).good) (hp : (fT t).plain = true) (hn : (fT t).size ≤ 1000000) (hl : L.length ≤ 549755813888) :
    Cal Tryz.prog f_impl_goal_taken #[.agg #[v, sv r], sv t, va] w fun u w' => Ext w w' ∧ ∃ x, u = .tuple #[x, .bool (takenOf L r t).2] ∧ ((takenOf L r t).2 = true → GlR w' x (takenOf L r t).1) := by
  apply c_impl_goal_taken; unfold S_impl_goal_taken
  refine iNew2 fun q w1 hq x1 hB => ?_
  refine iCall ((ok_impl_partTexts (ha.ext x1) hg (by omega)).mono ?_)
  rintro u w2 ⟨x2, ho⟩
  have X2 := x1.trans x2
  have hB := hB.ext x2
  refine iFld (j := 0) (ha.ext X2) rfl (fT t).size_pos (by decide) (kind_fst ha).1 ?_
  cases e : fT t with
  | box a => rw [e] at hp; cases hp
  | dia a => rw [e] at hp; cases hp
  | var p =>
    refine iEq (iCndF rfl (iEq (iCndF rfl (iEq (iCndF rfl ?_)))))
    have hT : takenOf L r t = ([], false) := by unfold takenOf; rw [e]
    rw [hT]
    exact ⟨X2, _, rfl, fun h => by cases h⟩
  | fls =>
    refine iEq (iCndF rfl (iEq (iCndF rfl (iEq (iCndF rfl ?_)))))
    have hT : takenOf L r t = ([], false) := by unfold takenOf; rw [e]
    rw [hT]
    exact ⟨X2, _, rfl, fun h => by cases h⟩
  | and a b =>
    rw [e] at ho
    refine iEq (iCndT rfl ?_)
    have hT : takenOf L r t = ([(ins L t [a.body, b.body], r)], true) := by unfold takenOf; rw [e]
    rw [hT]
    refine iLd2 hB ?_
    refine iCall ((ok_impl_goal_instead (ts := [a.body, b.body]) (hv.ext X2) ho (by simp only [List.length_cons, List.length_nil]; omega)).mono ?_)
    rintro u w3 ⟨x3, v', rfl, ho3⟩
    refine iBsA fun b4 w4 hb4 x4 hB4 => ?_
    exact ⟨(X2.trans x3).trans x4, _, rfl, fun _ => GlR.one (p := (_, r)) hB4 (ho3.ext x4)⟩
  | imp a b =>
    refine iEq (iCndF rfl (iEq (iCndF rfl (iEq (iCndT rfl ?_)))))
    refine iLd2 hB ?_
    rw [e] at hg hp hn ha
    intro w3 x3
    have X3 := X2.trans x3
    refine iCall ((ok_impl_first (f := .imp a b) (ha.ext X3) rfl (by omega)).mono ?_)
    rintro u1 w4 ⟨x4, hu1⟩
    refine ⟨x4, fun w5 x5 => ?_⟩
    have X5 := (X3.trans x4).trans x5
    refine iCall ((ok_impl_second (f := .imp a b) (ha.ext X5) rfl (by omega)).mono ?_)
    rintro u2 w6 ⟨x6, hu2⟩
    refine ⟨x6, fun w7 x7 => ?_⟩
    have X7 := (X5.trans x6).trans x7
    refine iCall ((ok_impl_goal_implied (hv.ext X7) (hu1.ext ((x5.trans x6).trans x7)) (hu2.ext x7) e hg.1 hg.2 (plain_imp hp).1 hn hl).mono ?_)
    rintro u3 w8 ⟨x8, x, rfl, hx⟩
    refine iE20 (iE21 ?_)
    intro w9 x9
    exact ⟨(X7.trans x8).trans x9, x, rfl, fun h => (hx h).ext x9⟩
  | or a b =>
    rw [e] at ho
    refine iEq (iCndF rfl (iEq (iCndT rfl ?_)))
    have hT : takenOf L r t = ([(ins L t [a.body], r), (ins L t [b.body], r)], true) := by unfold takenOf; rw [e]
    rw [hT]
    refine iLd2 hB ?_
    refine iIaG (L := [a.body, b.body]) ho.sl (j := 0) rfl (by simp) ?_
    refine iLd2 hB ?_
    refine iIaG (L := [a.body, b.body]) ho.sl (j := 1) rfl (by simp) ?_
    show ∀ w5, Ext w2 w5 → _
    have fin : ∀ {w' : World} {u1 u2 : Value} {bb : Nat} {e : TypeId}, Blk e w' bb [u1, sv r, u2, sv r] → TxW 0 w' u1 (ins L t [a.body]) → TxW 0 w' u2 (ins L t [b.body]) → GlR w' (.slice (some ⟨bb, 0, none⟩) 2 2) [(ins L t [a.body], r), (ins L t [b.body], r)] := fun h k l => GlR.two (p := (_, r)) (q := (_, r)) h k l
    have row : ∀ {w' : World} {e : Nat} {s : Str}, Blk t_string w' e [sv s] → TxW 0 w' (.slice (some ⟨e, 0, none⟩) 1 1) [s] := fun h => Ow.ofBlk (n := 1) h (Nat.zero_le _) rfl (by decide)
    have hl1 : ∀ s : Str, L.length + [s].length ≤ 1099511627776 := fun s => by simp only [List.length_singleton]; omega
    intro w5 x5
    have X5 := X2.trans x5
    refine ⟨?_, ?_⟩
    · refine iBs1 rfl rfl fun b1 w6 hb6 x6 hB6 => ⟨x6, fun w7 x7 => ⟨?_, ?_⟩⟩
      · have X7 := X5.trans (x6.trans x7)
        refine iCall ((ok_impl_goal_instead (ts := [a.body]) (hv.ext X7) (row (hB6.ext x7)) (hl1 _)).mono ?_)
        rintro u w8 ⟨x8, v', rfl, ho8⟩
        refine ⟨x8, fun w9 x9 => ?_⟩
        refine iBs1 rfl rfl fun b2 w10 hb10 x10 hB10 => ⟨x10, fun w11 x11 => ?_⟩
        have y11 := (x9.trans x10).trans x11
        have X11 := (X7.trans x8).trans y11
        refine iCall ((ok_impl_goal_instead (ts := [b.body]) (hv.ext X11) (row (hB10.ext x11)) (hl1 _)).mono ?_)
        rintro u w12 ⟨x12, v'', rfl, ho12⟩
        intro w13 x13
        refine iBsA2 fun b3 w14 hb14 x14 hB14 => fun w15 x15 => ?_
        have y15 := (x13.trans x14).trans x15
        exact ⟨(X11.trans x12).trans y15, _, rfl, fun _ => fin (hB14.ext x15) ((ho8.ext ((y11.trans x12).trans y15)).mono (Nat.zero_le _)) ((ho12.ext y15).mono (Nat.zero_le _))⟩
      · refine iBs1 rfl rfl fun b2 w8 hb8 x8 hB8 => ⟨x8, fun w9 x9 => ?_⟩
        have X9 := (X5.trans (x6.trans x7)).trans (x8.trans x9)
        refine iCall ((ok_impl_goal_instead (ts := [a.body]) (hv.ext X9) (row (hB6.ext (x7.trans (x8.trans x9)))) (hl1 _)).mono ?_)
        rintro u w10 ⟨x10, v', rfl, ho10⟩
        refine ⟨x10, fun w11 x11 => ?_⟩
        have X11 := (X9.trans x10).trans x11
        refine iCall ((ok_impl_goal_instead (ts := [b.body]) (hv.ext X11) (row (hB8.ext (x9.trans (x10.trans x11)))) (hl1 _)).mono ?_)
        rintro u w12 ⟨x12, v'', rfl, ho12⟩
        intro w13 x13
        refine iBsA2 fun b3 w14 hb14 x14 hB14 => fun w15 x15 => ?_
        have y15 := (x13.trans x14).trans x15
        exact ⟨(X11.trans x12).trans y15, _, rfl, fun _ => fin (hB14.ext x15) ((ho10.ext ((x11.trans x12).trans y15)).mono (Nat.zero_le _)) ((ho12.ext y15).mono (Nat.zero_le _))⟩
    · refine iBs1 rfl rfl fun b1 w6 hb6 x6 hB6 => ⟨x6, fun w7 x7 => ?_⟩
      refine iBs1 rfl rfl fun b2 w8 hb8 x8 hB8 => ⟨x8, fun w9 x9 => ?_⟩
      have X9 := (X5.trans (x6.trans x7)).trans (x8.trans x9)
      refine iCall ((ok_impl_goal_instead (ts := [a.body]) (hv.ext X9) (row (hB8.ext x9)) (hl1 _)).mono ?_)
      rintro u w10 ⟨x10, v', rfl, ho10⟩
      refine ⟨x10, fun w11 x11 => ?_⟩
      have X11 := (X9.trans x10).trans x11
      refine iCall ((ok_impl_goal_instead (ts := [b.body]) (hv.ext X11) (row (hB6.ext (x7.trans ((x8.trans x9).trans (x10.trans x11))))) (hl1 _)).mono ?_)
      rintro u w12 ⟨x12, v'', rfl, ho12⟩
      intro w13 x13
      refine iBsA2 fun b3 w14 hb14 x14 hB14 => fun w15 x15 => ?_
      have y15 := (x13.trans x14).trans x15
      exact ⟨(X11.trans x12).trans y15, _, rfl, fun _ => fin (hB14.ext x15) ((ho10.ext ((x11.trans x12).trans y15)).mono (Nat.zero_le _)) ((ho12.ext y15).mono (Nat.zero_le _))⟩
end Go.Proofs.YtapdkkijoflcpaaGreatDoor

/- Contracts: the program's search for intuitionistic proofs says what holds. Conditions: none. -/
namespace Go.Vc
theorem SlK.tr {Q : Str → Value → Prop} {k mb : Nat} {w w' : World} {v : Value} {n : Nat} {xs : List Value} (h : SlK k w v n xs) (hm : MapB Q w mb) (hc : Ch (fun c => c = mb) w w') : SlK k w' v n xs := by
  obtain ⟨h0, a, c, hv, h2, h3, h4⟩ := h
  obtain ⟨es, clock, hb, _⟩ := hm
  refine ⟨h0, a, c, hv, h2, h3, ?_⟩
  rcases h4 with rfl | ⟨b, o, ha, hcell⟩
  · exact .inl rfl
  · refine .inr ⟨b, o, ha, fun i hi => ?_⟩
    have h5 := hcell i hi
    rw [List.getElem?_eq_getElem (by omega)] at h5 ⊢
    have hne : b ≠ mb := by
      rintro rfl
      simp only [World.cell?, hb] at h5
      cases h5
    have hlt : b < w.heap.size := by
      rcases Nat.lt_or_ge b w.heap.size with h | h
      · exact h
      · simp only [World.cell?, Array.getElem?_eq_none h] at h5
        cases h5
    simp only [World.cell?] at h5 ⊢
    rw [hc.block b hlt hne]
    exact h5
/-- What a call that may turn the map of what is known leaves. -/
def DQ (Q : Str → Value → Prop) (mb : Nat) (w : World) (b : Bool) (v : Value) (w' : World) : Prop := v = .bool b ∧ MapB Q w' mb ∧ Ch (fun c => c = mb) w w'
theorem DQ.ext {Q : Str → Value → Prop} {mb : Nat} {w0 w w1 w2 : World} {b : Bool} {v : Value} (h : DQ Q mb w b v w1) (x : Ext w0 w) (y : Ext w1 w2) : DQ Q mb w0 b v w2 :=
  ⟨h.1, h.2.1.ext y, ((x.ch (S := fun c => c = mb)).trans h.2.2 fun _ e => .inl e).trans (y.ch (S := fun _ => False)) fun _ e => e.elim⟩
theorem DQ.thenCh {Q : Str → Value → Prop} {mb : Nat} {w0 w w1 : World} {b : Bool} {v : Value} (h : DQ Q mb w b v w1) (x : Ch (fun c => c = mb) w0 w) : DQ Q mb w0 b v w1 :=
  ⟨h.1, h.2.1, x.trans h.2.2 fun _ e => .inl e⟩
theorem DQ.val {Q : Str → Value → Prop} {mb : Nat} {w w1 : World} {b b' : Bool} {v : Value} (h : DQ Q mb w b v w1) (e : b = b') : DQ Q mb w b' v w1 := e ▸ h
theorem ch_cons {mb : Nat} {w0 w w1 : World} (x : Ext w0 w) (h : Ch (fun c => c = mb) w w1) : Ch (fun c => c = mb) w0 w1 := (x.ch (S := fun c => c = mb)).trans h fun _ e => .inl e
/-- What is known: keys of sequents, with what holds. -/
def KnQ (k : Str) (v : Value) : Prop := ∃ L r, k = keyT L r ∧ (∀ t ∈ L, GT t) ∧ GT r ∧ v = .bool (vB L r)
end Go.Vc
namespace Go.Proofs.YtapdkkijoflcpaaGreatDoor
open Go.Vc
theorem TxW.tr {Q : Str → Value → Prop} {lo mb : Nat} {w w' : World} {v : Value} {L : List Str} (h : TxW lo w v L) (hm : MapB Q w mb) (hc : Ch (fun c => c = mb) w w') : TxW lo w' v L := h.ch hc (hm.ne_ow h.toK)
theorem ok_ContainsFuncG {Q : Str → Value → Prop} {x fv : Value} {ps : List Sq} {mb : Nat} {w : World} (B : Nat → Bool) (hm : MapB Q w mb) (hx : GlR w x ps)
    (hf : ∀ i p, ps[i]? = some p → ∀ w', MapB Q w' mb → Ch (fun c => c = mb) w w' → ∀ v, TxW 0 w' v p.1 → callV Tryz.prog fv [.agg #[v, sv p.2]] w' (DQ Q mb w' (B i))) :
    Cal Tryz.prog f_slices_ContainsFunc_Simpl_goal_impl_goal #[x, fv] w fun u w' => ∃ b, DQ Q mb w b u w' ∧ (b = true ↔ ∃ i, i < ps.length ∧ B i = true) := by
  apply c_slices_ContainsFunc_Simpl_goal_impl_goal; unfold S_slices_ContainsFunc_Simpl_goal_impl_goal
  have hx0 := hx
  obtain ⟨xs, hs, hps⟩ := hx
  have hln := hs.len
  refine iCall (Cal.mono (R := fun r w' => ∃ z : Int, r = .int .i64 z ∧ (0 ≤ z ↔ ∃ i, i < ps.length ∧ B i = true) ∧ MapB Q w' mb ∧ Ch (fun c => c = mb) w w') ?_ ?_)
  · apply c_slices_IndexFunc_Simpl_goal_impl_goal; unfold S_slices_IndexFunc_Simpl_goal_impl_goal
    refine iLenK hs ?_
    refine iLp (fun i : Nat => [.int .i64 (i : Int)]) (fun i w' => i ≤ ps.length ∧ MapB Q w' mb ∧ Ch (fun c => c = mb) w w' ∧ ∀ j, j < i → B j = false) (fun i => ps.length - i) 0 rfl ⟨Nat.zero_le _, hm, (Ext.refl w).ch, fun j hj => by omega⟩ ?_
    rintro i w2 Kn ⟨hi, hm2, hc2, hno⟩ hKn
    intro _
    simp only [gx]
    refine iLt ?_
    refine iCndP (fun h => ?_) (fun h => ?_)
    · have hil : i < ps.length := by omega
      obtain ⟨v, h1, h2, h3⟩ := hps i ps[i] (List.getElem?_eq_getElem hil)
      refine iLdK (cs := #[v, sv (ps[i]).2]) (hs.tr hm hc2) rfl hil rfl (fun j hj => ?_) ?_
      · rcases j with _ | _ | j
        · exact h1
        · exact h2
        · omega
      refine (hf i ps[i] (List.getElem?_eq_getElem hil) w2 hm2 hc2 v (TxW.tr h3 hm hc2)).mono ?_
      rintro u w3 ⟨rfl, hm3, hc3⟩
      have hc3 := hc2.trans hc3 fun _ e => .inl e
      refine iCnd (fun h3 => ?_) (fun h3 => ?_)
      · exact ⟨_, rfl, ⟨fun _ => ⟨i, hil, h3⟩, fun _ => by omega⟩, hm3, hc3⟩
      · refine iAdd (by omega) ?_
        refine hKn (i + 1) _ ⟨by omega, hm3, hc3, fun j hj => ?_⟩ (by omega)
        by_cases hji : j = i
        · subst hji; exact h3
        · exact hno j (by omega)
    · refine ⟨-1, by first | trivial | rfl, ⟨fun h => by omega, fun ⟨j, hj, hB⟩ => ?_⟩, hm2, hc2⟩
      rw [hno j (by omega)] at hB; cases hB
  · rintro r w1 ⟨z, rfl, hz, hm1, hc1⟩
    refine iLe ?_
    exact ⟨_, ⟨rfl, hm1, hc1⟩, by rw [decide_eq_true_eq]; exact hz⟩
theorem ok_ContainsFuncTM {Q : Str → Value → Prop} {x fv : Value} {L : List Str} {mb lo : Nat} {w : World} (B : Nat → Bool) (hm : MapB Q w mb) (hx : TxW lo w x L)
    (hf : ∀ i, i < L.length → ∀ w', MapB Q w' mb → Ch (fun c => c = mb) w w' → callV Tryz.prog fv [sv (gt L i)] w' (DQ Q mb w' (B i))) :
    Cal Tryz.prog f_slices_ContainsFunc_Sstring_string #[x, fv] w fun u w' => ∃ b, DQ Q mb w b u w' ∧ (b = true ↔ ∃ i, i < L.length ∧ B i = true) := by
  apply c_slices_ContainsFunc_Sstring_string; unfold S_slices_ContainsFunc_Sstring_string
  have hln := hx.sl.len
  rw [strs_len] at hln
  refine iCall (Cal.mono (R := fun r w' => ∃ z : Int, r = .int .i64 z ∧ (0 ≤ z ↔ ∃ i, i < L.length ∧ B i = true) ∧ MapB Q w' mb ∧ Ch (fun c => c = mb) w w') ?_ ?_)
  · apply c_slices_IndexFunc_Sstring_string; unfold S_slices_IndexFunc_Sstring_string
    refine iLenStr hx.sl ?_
    refine iLp (fun i : Nat => [.int .i64 (i : Int)]) (fun i w' => i ≤ L.length ∧ MapB Q w' mb ∧ Ch (fun c => c = mb) w w' ∧ ∀ j, j < i → B j = false) (fun i => L.length - i) 0 rfl ⟨Nat.zero_le _, hm, (Ext.refl w).ch, fun j hj => by omega⟩ ?_
    rintro i w2 Kn ⟨hi, hm2, hc2, hno⟩ hKn
    intro _
    simp only [gx]
    refine iLt ?_
    refine iCndP (fun h => ?_) (fun h => ?_)
    · have hil : i < L.length := by omega
      refine iIaG (TxW.tr hx hm hc2).sl rfl hil ?_
      refine (hf i hil w2 hm2 hc2).mono ?_
      rintro u w3 ⟨rfl, hm3, hc3⟩
      have hc3 := hc2.trans hc3 fun _ e => .inl e
      refine iCnd (fun h3 => ?_) (fun h3 => ?_)
      · exact ⟨_, rfl, ⟨fun _ => ⟨i, hil, h3⟩, fun _ => by omega⟩, hm3, hc3⟩
      · refine iAdd (by omega) ?_
        refine hKn (i + 1) _ ⟨by omega, hm3, hc3, fun j hj => ?_⟩ (by omega)
        by_cases hji : j = i
        · subst hji; exact h3
        · exact hno j (by omega)
    · refine ⟨-1, by first | trivial | rfl, ⟨fun h => by omega, fun ⟨j, hj, hB⟩ => ?_⟩, hm2, hc2⟩
      rw [hno j (by omega)] at hB; cases hB
  · rintro r w1 ⟨z, rfl, hz, hm1, hc1⟩
    refine iLe ?_
    exact ⟨_, ⟨rfl, hm1, hc1⟩, by rw [decide_eq_true_eq]; exact hz⟩
/-- The program's decider, its map at mb. -/
structure Dec (w : World) (db mb : Nat) : Prop where
  blk : Blk 179 w db [.map (some mb)]
  map : MapB KnQ w mb
theorem Dec.ext {w w' : World} {db mb : Nat} (h : Dec w db mb) (x : Ext w w') : Dec w' db mb := ⟨h.blk.ext x, h.map.ext x⟩
theorem Dec.tr {w w' : World} {db mb : Nat} (h : Dec w db mb) (hm : MapB KnQ w' mb) (hc : Ch (fun c => c = mb) w w') : Dec w' db mb := ⟨h.blk.ch hc (h.map.ne_blk h.blk), hm⟩
abbrev dp (db : Nat) : Value := .pointer (some ⟨db, 0, none⟩)
def Pv (db mb : Nat) (L : List Str) (r : Str) : Prop := ∀ (w : World) (v : Value), Dec w db mb → TxW 0 w v L → Cal Tryz.prog f_impl_decider_proves #[dp db, .agg #[v, sv r]] w (DQ KnQ mb w (vB L r))
theorem u_kn : Tryz.prog.underlying 177 = some (.map 9 4) := by kernel_rfl
theorem u_kns : Tryz.prog.underlying 9 = some .string := by kernel_rfl
theorem z_kn : (Tryz.prog.info? 4).map (fun i => i.zero) = some (some (.bool false)) := by kernel_rfl
theorem zero_kn (w : World) : (zeroValue 4).run Tryz.prog w = .ok (.bool false) w := by
  obtain ⟨i, hi, hz⟩ := Option.map_eq_some_iff.1 z_kn
  simp [zeroValue, run_info hi, hz]
theorem ok_impl_decider_all {db mb : Nat} {x : Value} {ps : List Sq} {w : World} (hD : Dec w db mb) (hx : GlR w x ps) (IH : ∀ p ∈ ps, Pv db mb p.1 p.2) :
    Cal Tryz.prog f_impl_decider_all #[dp db, x] w fun u w' => ∃ b, DQ KnQ mb w b u w' ∧ (b = true ↔ ∀ p ∈ ps, VT p.1 p.2) := by
  apply c_impl_decider_all; unfold S_impl_decider_all
  refine iNew fun q w1 hq x1 hB => ?_
  have hD1 := hD.ext x1
  refine iCall ((ok_ContainsFuncG (B := fun i => !(match ps[i]? with | some p => vB p.1 p.2 | none => true)) hD1.map (hx.ext x1) fun i p hp w' hm' hc' v hv => (iClo rfl ?_)).mono ?_)
  · show Cal Tryz.prog f_impl_decider_all_1 #[.agg #[v, sv p.2], .pointer (some ⟨q, 0, none⟩)] w' _
    apply c_impl_decider_all_1; unfold S_impl_decider_all_1
    refine iNew2 fun q2 w2 hq2 x2 hB2 => ?_
    have hB' : Blk 169 w2 q [dp db] := (hB.ch hc' (hD1.map.ne_blk hB)).ext x2
    refine iLdB hB' rfl ?_
    refine iLd2 hB2 ?_
    refine iCall ((IH p (List.mem_of_getElem? hp) w2 v ((hD1.tr hm' hc').ext x2) (hv.ext x2)).mono ?_)
    rintro u w3 h3
    obtain ⟨rfl, -, -⟩ := id h3
    refine iNot ?_
    rw [hp]
    exact ⟨rfl, (h3.ext x2 (Ext.refl _)).2⟩
  · rintro u w2 ⟨b, h2, hb⟩
    obtain ⟨rfl, -, -⟩ := id h2
    refine iNot ⟨!b, ⟨rfl, (h2.ext x1 (Ext.refl _)).2⟩, ?_⟩
    rw [Bool.not_eq_true', Bool.eq_false_iff, Ne, hb]
    constructor
    · intro h p hp
      obtain ⟨i, hi, rfl⟩ := List.getElem_of_mem hp
      refine Classical.byContradiction fun hn => h ⟨i, hi, ?_⟩
      rw [List.getElem?_eq_getElem hi]
      simp only [Bool.not_eq_true']
      exact vB_false.2 hn
    · rintro h ⟨i, hi, hB⟩
      rw [List.getElem?_eq_getElem hi] at hB
      simp only [Bool.not_eq_true'] at hB
      exact vB_false.1 hB (h _ (List.getElem_mem _))
theorem ok_impl_decider_tries {db mb : Nat} {v vc : Value} {L : List Str} {r : Str} {w : World} (hD : Dec w db mb) (hv : TxW 0 w v L) (hc : FmS w vc (fT r)) (h : SqT L r) (IH : ∀ L' r', SqT L' r' → mT L' + wT r' < mT L + wT r → Pv db mb L' r')
    (hr : ¬ r ∈ L) (hf : ¬ Fm.fls.body ∈ L) (hno : ∀ t ∈ L, (takenOf L r t).2 = false) (hr2 : ∀ a b, fT r ≠ .and a b ∧ fT r ≠ .imp a b) :
    Cal Tryz.prog f_impl_decider_tries #[dp db, .agg #[v, sv r], vc] w (DQ KnQ mb w (vB L r)) := by
  apply c_impl_decider_tries; unfold S_impl_decider_tries
  refine iNew fun q w1 hq x1 hB => ?_
  refine iNew2 fun q2 w2 hq2 x2 hB2 => ?_
  have X2 := x1.trans x2
  have hB : Blk 169 w2 q [dp db] := hB.ext x2
  have hD2 := hD.ext X2
  have hv2 : TxW 0 w2 v L := hv.ext X2
  obtain ⟨hrg, hrp, hrb⟩ := h.right.at
  have hsz := Fm.wt_size hrp
  have hwr := h.wt_right
  have hll := mT_len L
  have hsm := h.small
  refine iJnX (fun xs w' => ∃ b, xs = [.bool b] ∧ MapB KnQ w' mb ∧ Ch (fun c => c = mb) w2 w' ∧ (b = true ↔ ∃ a c, fT r = .or a c ∧ (VT L a.body ∨ VT L c.body))) (fun J hJ => ?_) ?_
  · refine iFld (j := 0) (hc.ext X2) rfl (fT r).size_pos (by decide) (kind_fst hc).1 ?_
    refine iEq ?_
    refine iCndP (fun hk => ?_) (fun hk => ?_)
    · obtain ⟨a, c, e⟩ : ∃ a c, fT r = .or a c := by
        cases e : fT r <;> rw [e] at hk <;> simp [Fm.kind] at hk
        exact ⟨_, _, rfl⟩
      refine iCall ((ok_impl_partTexts (hc.ext X2) hrg (by omega)).mono ?_)
      rintro u w5 ⟨x5, ho⟩
      rw [e] at ho
      have hD5 := hD2.ext x5
      have hw := wT_of e
      have hlo := lt_or a c
      have hga : a.good ∧ c.good := by rw [e] at hrg; exact hrg
      have hpa := plain_or (by rw [e] at hrp; exact hrp)
      have wa := wT_body hga.1
      have wc := wT_body hga.2
      have a2 := a.w2_ge
      have c2 := c.w2_ge
      refine iCall ((ok_ContainsFuncTM (L := [a.body, c.body]) (B := fun i => vB L (gt [a.body, c.body] i)) hD5.map ho fun i hi w' hm' hc' => (iClo rfl ?_)).mono ?_)
      · show Cal Tryz.prog f_impl_decider_tries_1 #[sv (gt [a.body, c.body] i), .pointer (some ⟨q, 0, none⟩), .pointer (some ⟨q2, 0, none⟩)] w' _
        apply c_impl_decider_tries_1; unfold S_impl_decider_tries_1
        have hB' : Blk 169 w' q [dp db] := (hB.ext x5).ch hc' (hD5.map.ne_blk (hB.ext x5))
        have hB2' : Blk 183 w' q2 [v, sv r] := (hB2.ext x5).ch hc' (hD5.map.ne_blk (hB2.ext x5))
        refine iLdB hB' rfl ?_
        refine iLd2 hB2' ?_
        intro w6 x6
        refine iRet (ok_impl_goal_proving hv.cell) fun w7 x7 => ⟨x7, fun w8 x8 => ?_⟩
        have y := x6.trans (x7.trans x8)
        have hsq : SqT L (gt [a.body, c.body] i) ∧ mT L + wT (gt [a.body, c.body] i) < mT L + wT r := by
          have : i = 0 ∨ i = 1 := by simp at hi; omega
          rcases this with rfl | rfl
          · exact ⟨⟨h.left, GT.of hga.1 hpa.1, by show mT L + wT a.body ≤ _; omega⟩, by show mT L + wT a.body < _; omega⟩
          · exact ⟨⟨h.left, GT.of hga.2 hpa.2, by show mT L + wT c.body ≤ _; omega⟩, by show mT L + wT c.body < _; omega⟩
        refine iCall ((IH L _ hsq.1 hsq.2 w8 v ((hD5.tr hm' hc').ext y) ((TxW.tr (hv2.ext x5) hD5.map hc').ext y)).mono ?_)
        rintro u w9 h9
        intro w10 x10
        exact h9.ext y x10
      · rintro u w6 ⟨b, h6, hb⟩
        obtain ⟨rfl, hm6, hc6⟩ := h6
        refine hJ _ _ ⟨b, rfl, hm6, ch_cons x5 hc6, ?_⟩
        rw [hb]
        constructor
        · rintro ⟨i, hi, hB⟩
          have : i = 0 ∨ i = 1 := by simp at hi; omega
          rcases this with rfl | rfl
          · exact ⟨a, c, e, .inl (vB_true.1 hB)⟩
          · exact ⟨a, c, e, .inr (vB_true.1 hB)⟩
        · rintro ⟨a', c', e', hV⟩
          rw [e] at e'
          cases e'
          rcases hV with hV | hV
          · exact ⟨0, by simp, vB_true.2 hV⟩
          · exact ⟨1, by simp, vB_true.2 hV⟩
    · refine hJ _ _ ⟨false, rfl, hD2.map, (Ext.refl _).ch, ⟨fun h => (by cases h), fun ⟨a, c, e, _⟩ => ?_⟩⟩
      rw [e] at hk
      exact absurd rfl hk
  · rintro xs w4 ⟨b, rfl, hm4, hc4, hb⟩
    intro _
    simp only [gx]
    have hD4 := hD2.tr hm4 hc4
    cases b
    rotate_left
    · refine iCndT rfl ⟨?_, hm4, ch_cons X2 hc4⟩
      obtain ⟨a, c, e, hV⟩ := hb.1 rfl
      rw [vB_true.2 (VT.or h.right e hV)]
    refine iCndF rfl ?_
    have hB4 : Blk 169 w4 q [dp db] := hB.ch hc4 (hD2.map.ne_blk hB)
    have hB24 : Blk 183 w4 q2 [v, sv r] := hB2.ch hc4 (hD2.map.ne_blk hB2)
    have hv4 := TxW.tr hv2 hD2.map hc4
    refine iFa (iLdB hB24 rfl ?_)
    refine iCall ((ok_ContainsFuncTM (B := fun i => match nestOf L r (gt L i) with | some (p, q) => vB p.1 p.2 && vB q.1 q.2 | none => false) hm4 hv4 fun i hi w' hm' hc' => (iClo rfl ?_)).mono ?_)
    · show Cal Tryz.prog f_impl_decider_tries_2 #[sv (gt L i), .pointer (some ⟨q, 0, none⟩), .pointer (some ⟨q2, 0, none⟩)] w' _
      apply c_impl_decider_tries_2; unfold S_impl_decider_tries_2
      have hti : gt L i ∈ L := by rw [gt_eq hi]; exact List.getElem_mem _
      obtain ⟨htg, htp, htb⟩ := (h.left _ hti).at
      have htw := h.wt_left hti
      have hts := Fm.wt_size htp
      have htl := wT_len (h.left _ hti)
      refine iCall ((ok_impl_treeOf (by omega) w').mono ?_)
      rintro u w5 ⟨x5, ho5⟩
      have ho5 : FmW w'.heap.size w5 u (fT (gt L i)) := ho5
      have hD' := hD4.tr hm' hc'
      have hB' : Blk 169 w' q [dp db] := hB4.ch hc' (hD4.map.ne_blk hB4)
      have hB2' : Blk 183 w' q2 [v, sv r] := hB24.ch hc' (hD4.map.ne_blk hB24)
      have hv' := TxW.tr hv4 hD4.map hc'
      cases hn : nestOf L r (gt L i) with
      | none =>
        have hnx : ¬ ∃ x y z, fT (gt L i) = .imp (.imp x y) z := by
          rintro ⟨x, y, z, e⟩
          unfold nestOf at hn
          rw [e] at hn
          cases hn
        refine iJnB true w5 (fun J hJ => ?_) (fun w6 x6 => ?_)
        · refine iFld (j := 0) ho5.sl rfl (fT (gt L i)).size_pos (by decide) (kind_fst ho5.sl).1 ?_
          refine iNe ?_
          refine iCndP (fun _ => hJ _ (Ext.refl _)) (fun hk => ?_)
          obtain ⟨x, z, e⟩ : ∃ x z, fT (gt L i) = .imp x z := by
            cases e : fT (gt L i) <;> rw [e] at hk <;> simp [Fm.kind] at hk
            exact ⟨_, _, rfl⟩
          refine iCall ((ok_impl_first (f := fT (gt L i)) (g := x) (gs := [z]) ho5.sl (by rw [e]; rfl) (by omega)).mono ?_)
          rintro u2 w6 ⟨x6, hu2⟩
          refine iFld (j := 0) hu2 rfl x.size_pos (by decide) (kind_fst hu2).1 ?_
          refine iNe ?_
          rw [decide_eq_true (p := ¬ ((x.kind : Int) = 4)) (fun hk2 => ?_)]
          · exact hJ _ x6
          · cases x <;> simp [Fm.kind] at hk2
            exact hnx ⟨_, _, _, e⟩
        · intro _
          simp only [gx]
          refine iCndT rfl ⟨rfl, hm'.ext (x5.trans x6), (x5.trans x6).ch⟩
      | some pq =>
        obtain ⟨p, s⟩ := pq
        obtain ⟨⟨sp, lp⟩, ⟨ss, ls⟩, -, -⟩ := nest_ok h hti hn
        obtain ⟨x, y, z, e, hpq⟩ : ∃ x y z, fT (gt L i) = .imp (.imp x y) z ∧ ((ins L (gt L i) [(Fm.imp y z).body], (Fm.imp x y).body), (ins L (gt L i) [z.body], r)) = (p, s) := by
          unfold nestOf at hn
          split at hn
          · rename_i x y z e
            exact ⟨x, y, z, e, Option.some.inj hn⟩
          · cases hn
        simp only [Prod.mk.injEq] at hpq
        obtain ⟨rfl, rfl⟩ := hpq
        rw [e] at htg htp hts htw
        simp only [Fm.size] at hts
        refine iJnB false w5 (fun J hJ => ?_) (fun w6 x6 => ?_)
        · refine iFld (j := 0) ho5.sl rfl (fT (gt L i)).size_pos (by decide) (kind_fst ho5.sl).1 ?_
          rw [e]
          refine iNe (iCndF rfl ?_)
          refine iCall ((ok_impl_first (f := fT (gt L i)) (g := .imp x y) (gs := [z]) ho5.sl (by rw [e]; rfl) (by rw [e]; simp only [Fm.size]; omega)).mono ?_)
          rintro u2 w6 ⟨x6, hu2⟩
          refine iFld (j := 0) hu2 rfl (Fm.imp x y).size_pos (by decide) (kind_fst hu2).1 ?_
          refine iNe ?_
          exact hJ _ x6
        intro _
        simp only [gx]
        refine iCndF rfl ?_
        rw [e] at ho5
        refine iCall ((ok_impl_first (f := .imp (.imp x y) z) (OwK.sl (OwK.ext ho5 x6)) rfl (by simp only [Fm.size]; omega)).mono ?_)
        rintro ux w7 ⟨x7, hux⟩
        refine iCall ((ok_impl_second (f := .imp (.imp x y) z) (OwK.sl (OwK.ext ho5 (x6.trans x7))) rfl (by simp only [Fm.size]; omega)).mono ?_)
        rintro uz w8 ⟨x8, huz⟩
        have hux := hux.ext x8
        have X8 : Ext w' w8 := x5.trans ((x6.trans x7).trans x8)
        refine iJnX (fun xs w9 => ∃ b, xs = [.bool b] ∧ b = (vB (ins L (gt L i) [(Fm.imp y z).body]) (Fm.imp x y).body && vB (ins L (gt L i) [z.body]) r) ∧ MapB KnQ w9 mb ∧ Ch (fun c => c = mb) w' w9) (fun J hJ => ?_) ?_
        · refine iLdB (hB'.ext X8) rfl ?_
          refine iLd2 (hB2'.ext X8) ?_
          intro w9 x9
          refine iCall ((ok_impl_second (f := .imp x y) (hux.ext x9) rfl (by simp only [Fm.size]; omega)).mono ?_)
          rintro uy w10 ⟨x10, huy⟩
          refine ⟨x10, fun w11 x11 => ?_⟩
          have y11 := x9.trans (x10.trans x11)
          refine iBs2 rfl (SlK.cellOk huy) (SlK.cellOk huz) fun b1 w12 hb12 x12 hB12 => ⟨x12, fun w13 x13 => ?_⟩
          have y13 := y11.trans (x12.trans x13)
          refine iCall ((ok_impl_arrow2 (a := y) (b := z) (Sl.ofBlk (n := 2) (hB12.ext x13) rfl (by decide)) (huy.ext (x11.trans (x12.trans x13))) (huz.ext y13) (by simp only [Fm.size]; omega)).mono ?_)
          rintro u3 w14 ⟨x14, ho14⟩
          refine ⟨x14, ?_⟩
          refine iRetQ (fun w'' x' => ok_impl_text (f := .imp y z) (OwK.sl (OwK.ext ho14 x')) ⟨htg.1.2, htg.2⟩ (by simp only [Fm.size]; omega)) ?_
          intro w15 x15
          refine iBs1 rfl rfl fun b2 w16 hb16 x16 hB16 => ⟨x16, fun w17 x17 => ?_⟩
          have y17 := y13.trans (x14.trans (x15.trans (x16.trans x17)))
          have X17 := X8.trans y17
          refine iCall ((ok_impl_goal_instead (ts := [(Fm.imp y z).body]) (hv'.ext X17) (Ow.ofBlk (lo := 0) (n := 1) (hB16.ext x17) (Nat.zero_le _) rfl (by decide)) (by simp only [List.length_singleton]; omega)).mono ?_)
          rintro u4 w18 ⟨x18, v4, rfl, ho18⟩
          refine ⟨x18, ?_⟩
          refine iRetQ (fun w'' x' => ok_impl_text (f := .imp x y) ((hux.ext (y17.trans x18)).ext x') htg.1 (by simp only [Fm.size]; omega)) ?_
          intro w19 x19
          refine iRet (ok_impl_goal_proving ho18.cell) fun w20 x20 => ⟨x20, fun w21 x21 => ?_⟩
          have y21 := x19.trans (x20.trans x21)
          have X21 := (X17.trans x18).trans y21
          refine iCall ((IH _ _ sp lp w21 v4 (hD'.ext X21) ((ho18.ext y21).mono (Nat.zero_le _))).mono ?_)
          rintro u5 w22 h22
          obtain ⟨rfl, hm22, hc22⟩ := id h22
          have hD22 := (hD'.ext X21).tr hm22 hc22
          have hm21 := hm'.ext X21
          have tb : ∀ {e : TypeId} {q : Nat} {cs : List Value}, Blk e w' q cs → Blk e w22 q cs := fun hq => (hq.ext X21).ch hc22 (hm21.ne_blk (hq.ext X21))
          refine iCnd (fun hb => ?_) (fun hb => ?_)
          · refine iLdB (tb hB') rfl ?_
            refine iLd2 (tb hB2') ?_
            have huz22 : FmS w22 uz z := SlK.tr (huz.ext ((y17.trans x18).trans y21)) hm21 hc22
            refine iRetQ (fun w'' x' => ok_impl_text (f := z) (huz22.ext x') htg.2 (by omega)) ?_
            intro w23 x23
            refine iBs1 rfl rfl fun b3 w24 hb24 x24 hB24 => ⟨x24, fun w25 x25 => ?_⟩
            have y25 := x23.trans (x24.trans x25)
            have hv25 := (TxW.tr (hv'.ext X21) hm21 hc22).ext y25
            refine iCall ((ok_impl_goal_instead (ts := [z.body]) hv25 (Ow.ofBlk (lo := 0) (n := 1) (hB24.ext x25) (Nat.zero_le _) rfl (by decide)) (by simp only [List.length_singleton]; omega)).mono ?_)
            rintro u6 w26 ⟨x26, v6, rfl, ho26⟩
            refine ⟨x26, fun w27 x27 => ?_⟩
            have y27 := y25.trans (x26.trans x27)
            refine iCall ((IH _ _ ss ls w27 v6 (hD22.ext y27) ((ho26.ext x27).mono (Nat.zero_le _))).mono ?_)
            rintro u7 w28 h28
            intro w29 x29
            obtain ⟨rfl, hm29, hc29⟩ := (h28.ext y27 x29).thenCh (h22.ext X21 (Ext.refl _)).2.2
            exact hJ _ _ ⟨_, rfl, by rw [hb, Bool.true_and], hm29, hc29⟩
          · intro w23 x23 w24 x24 w25 x25 w26 x26
            have h26 := h22.ext X21 (x23.trans (x24.trans (x25.trans x26)))
            exact hJ _ _ ⟨false, rfl, by rw [hb, Bool.false_and], h26.2.1, h26.2.2⟩
        · rintro xs w9 ⟨b, rfl, hb, hm9, hc9⟩
          intro _
          simp only [gx]
          exact ⟨by rw [hb], hm9, hc9⟩
    · rintro u w5 ⟨b, h5, hb5⟩
      refine (h5.thenCh (ch_cons X2 hc4)).val ?_
      cases b
      · refine (vB_false.2 (stuckT h hr hf hno hr2 (fun a c e => ?_) (fun t ht p s hn hV => ?_))).symm
        · have hbb := mt hb.2 (by decide)
          exact ⟨fun k => hbb ⟨a, c, e, .inl k⟩, fun k => hbb ⟨a, c, e, .inr k⟩⟩
        · have hb5 := mt hb5.2 (by decide)
          obtain ⟨i, hi, rfl⟩ := List.getElem_of_mem ht
          refine hb5 ⟨i, hi, ?_⟩
          rw [gt_eq hi, hn]
          simp only [Bool.and_eq_true]
          exact ⟨vB_true.2 hV.1, vB_true.2 hV.2⟩
      · obtain ⟨i, hi, hBi⟩ := hb5.1 rfl
        have hti : gt L i ∈ L := by rw [gt_eq hi]; exact List.getElem_mem _
        split at hBi
        · rename_i p s hn
          rw [Bool.and_eq_true] at hBi
          exact (vB_true.2 (((nest_ok h hti hn).2.2.1 (vB_true.1 hBi.1)).1 (vB_true.1 hBi.2))).symm
        · cases hBi
end Go.Proofs.YtapdkkijoflcpaaGreatDoor

/- Contracts: the program decides what holds in all intuitionistic models. Conditions: none. -/
namespace Go.Vc
theorem vB_of {b : Bool} {L : List Str} {r : Str} {ps : List Sq} (P : Prem L r ps) (hb : b = true ↔ ∀ p ∈ ps, VT p.1 p.2) : b = vB L r :=
  Bool.eq_iff_iff.2 (hb.trans (P.iff.symm.trans vB_true.symm))
end Go.Vc
namespace Go.Proofs.YtapdkkijoflcpaaGreatDoor
open Go.Vc
theorem ok_impl_decider_decide {db mb : Nat} {v : Value} {L : List Str} {r : Str} {w : World} (hD : Dec w db mb) (hv : TxW 0 w v L) (h : SqT L r) (IH : ∀ L' r', SqT L' r' → mT L' + wT r' < mT L + wT r → Pv db mb L' r') :
    Cal Tryz.prog f_impl_decider_decide #[dp db, .agg #[v, sv r]] w (DQ KnQ mb w (vB L r)) := by
  apply c_impl_decider_decide; unfold S_impl_decider_decide
  refine iNew2 fun q w1 hq x1 hB => ?_
  have hv1 : TxW 0 w1 v L := hv.ext x1
  obtain ⟨hrg, hrp, hrb⟩ := h.right.at
  have hrs := Fm.wt_size hrp
  have hrw := h.wt_right
  have hrl := wT_len h.right
  have hll := mT_len L
  have hsm := h.small
  refine iJnB (decide (r ∈ L) || decide (Fm.fls.body ∈ L)) w1 (fun J hJ => ?_) (fun w3 x3 => ?_)
  · refine iFa (iLdB hB rfl ?_)
    refine iFa (iLdB hB rfl ?_)
    refine iRet (ok_slices_ContainsT hv1.sl) fun w4 x4 => ?_
    refine iCndP (fun hk => ?_) (fun hk => ?_)
    · rw [decide_eq_true hk, Bool.true_or] at hJ; exact hJ _ x4
    · rw [decide_eq_false hk, Bool.false_or] at hJ
      refine iFa (iLdB (hB.ext x4) rfl ?_)
      refine iRet (ok_slices_ContainsT (t := [70]) (hv1.ext x4).sl) fun w5 x5 => ?_
      exact hJ _ (x4.trans x5)
  intro _
  simp only [gx]
  have X3 := x1.trans x3
  cases hb : decide (r ∈ L) || decide (Fm.fls.body ∈ L)
  rotate_left
  · refine iCndT rfl ⟨?_, (hD.ext X3).map, X3.ch⟩
    rw [Bool.or_eq_true, decide_eq_true_eq, decide_eq_true_eq] at hb
    rw [vB_true.2 (VT.ax hb)]
  rw [Bool.or_eq_false_iff, decide_eq_false_iff_not, decide_eq_false_iff_not] at hb
  refine iCndF rfl ?_
  refine iFa (iLdB (hB.ext x3) rfl ?_)
  refine iCall ((ok_impl_treeOf (by omega) w3).mono ?_)
  rintro vc w6 ⟨x6, hc⟩
  have hc : FmW w3.heap.size w6 vc (fT r) := hc
  refine iCall ((ok_impl_partTexts hc.sl hrg (by omega)).mono ?_)
  rintro vt w7 ⟨x7, ht⟩
  have X7 := X3.trans (x6.trans x7)
  have hB7 : Blk 183 w7 q [v, sv r] := hB.ext (x3.trans (x6.trans x7))
  have hv7 : TxW 0 w7 v L := hv.ext X7
  have hD7 := hD.ext X7
  have hc7 : FmS w7 vc (fT r) := hc.sl.ext x7
  refine iFld (j := 0) hc7 rfl (fT r).size_pos (by decide) (kind_fst hc7).1 ?_
  refine iEq (iCndP (fun hk => ?_) (fun hk => ?_))
  · obtain ⟨a, b, e⟩ : ∃ a b, fT r = .and a b := by
      cases e : fT r <;> rw [e] at hk <;> simp [Fm.kind] at hk
      exact ⟨_, _, rfl⟩
    rw [e] at ht
    have P := right_and h e
    refine iLd2 hB7 ?_
    refine iIaG (L := [a.body, b.body]) ht.sl (j := 0) rfl (by simp) ?_
    refine iLd2 hB7 ?_
    refine iIaG (L := [a.body, b.body]) ht.sl (j := 1) rfl (by simp) ?_
    show ∀ w8, Ext w7 w8 → _
    intro w8 x8
    refine iRet (ok_impl_goal_proving (r' := a.body) hv.cell) fun w9 x9 => ⟨x9, fun w10 x10 => ?_⟩
    refine iRet (ok_impl_goal_proving (r' := b.body) hv.cell) fun w11 x11 => ?_
    intro w12 x12
    refine iBsA2 fun bb w13 hb13 x13 hB13 => fun w14 x14 => ?_
    have y := ((x8.trans x9).trans (x10.trans x11)).trans (x12.trans (x13.trans x14))
    refine iCall ((ok_impl_decider_all (hD7.ext y) (ps := [(L, a.body), (L, b.body)]) (GlR.two (p := (L, a.body)) (q := (L, b.body)) (hB13.ext x14) (hv7.ext y) (hv7.ext y)) fun p hp => IH _ _ (P.sq p hp) (P.lt p hp)).mono ?_)
    rintro u w15 ⟨b, h15, hb15⟩
    intro w16 x16
    exact (h15.ext (X7.trans y) x16).val (vB_of P hb15)
  refine iEq (iCndP (fun hk2 => ?_) (fun hk2 => ?_))
  · obtain ⟨a, b, e⟩ : ∃ a b, fT r = .imp a b := by
      cases e : fT r <;> rw [e] at hk2 <;> simp [Fm.kind] at hk2
      exact ⟨_, _, rfl⟩
    rw [e] at ht
    have P := right_imp h e
    refine iLd2 hB7 ?_
    refine iIaG (L := [a.body, b.body]) ht.sl (j := 0) rfl (by simp) ?_
    refine iIaG (L := [a.body, b.body]) ht.sl (j := 1) rfl (by simp) ?_
    show ∀ w17, Ext w7 w17 → _
    intro w17 x17
    refine iBs1 rfl rfl fun bb w18 hb18 x18 hB18 => ⟨x18, fun w19 x19 => ?_⟩
    have y19 := x17.trans (x18.trans x19)
    refine iCall ((ok_impl_goal_with (ts := [a.body]) (hv7.ext y19) (Ow.ofBlk (lo := 0) (n := 1) (hB18.ext x19) (Nat.zero_le _) rfl (by decide)) (by simp only [List.length_singleton]; omega)).mono ?_)
    rintro u w20 ⟨x20, v', rfl, ho⟩
    refine ⟨x20, fun w21 x21 => ?_⟩
    refine iRet (ok_impl_goal_proving (r' := b.body) ho.cell) fun w22 x22 => ?_
    intro w23 x23
    have y23 := x21.trans (x22.trans x23)
    have Y := (X7.trans y19).trans (x20.trans y23)
    have psq : SqT (setT (L ++ [a.body])) b.body := P.sq _ (List.mem_singleton_self _)
    have plt : mT (setT (L ++ [a.body])) + wT b.body < mT L + wT r := P.lt _ (List.mem_singleton_self _)
    refine iCall ((IH _ _ psq plt w23 v' (hD.ext Y) ((ho.ext y23).mono (Nat.zero_le _))).mono ?_)
    rintro u w24 h24
    intro w25 x25
    refine (h24.ext Y x25).val (vB_of P ?_)
    simp only [List.mem_singleton, forall_eq]
    exact vB_true
  · have hr2 : ∀ a b, fT r ≠ .and a b ∧ fT r ≠ .imp a b := fun a b => ⟨fun e => hk (by rw [e]; rfl), fun e => hk2 (by rw [e]; rfl)⟩
    refine iFa (iLdB hB7 rfl ?_)
    refine iLenStr hv7.sl ?_
    refine iLp (fun i : Nat => [.int .i64 (i : Int)]) (fun i w' => i ≤ L.length ∧ Ext w7 w' ∧ ∀ j, j < i → (takenOf L r (gt L j)).2 = false) (fun i => L.length - i) 0 rfl ⟨Nat.zero_le _, Ext.refl _, fun j hj => by omega⟩ ?_
    rintro i w8 Kn ⟨hi, x8, hno⟩ hKn
    intro _
    simp only [gx]
    have hv8 : TxW 0 w8 v L := hv7.ext x8
    have hB8 := hB7.ext x8
    refine iLt ?_
    refine iCndP (fun hlt => ?_) (fun hlt => ?_)
    · have hil : i < L.length := by omega
      have hti : gt L i ∈ L := by rw [gt_eq hil]; exact List.getElem_mem _
      obtain ⟨htg, htp, htb⟩ := (h.left _ hti).at
      have htw := h.wt_left hti
      have hts := Fm.wt_size htp
      have htl := wT_len (h.left _ hti)
      refine iIaG hv8.sl rfl hil ?_
      refine iLd2 hB8 ?_
      intro w9 x9
      refine iCall ((ok_impl_treeOf (t := gt L i) (by omega) w9).mono ?_)
      rintro va w10 ⟨x10, ha⟩
      have ha : FmW w9.heap.size w10 va (fT (gt L i)) := ha
      refine ⟨x10, fun w11 x11 => ?_⟩
      have y11 := x8.trans (x9.trans (x10.trans x11))
      refine iCall ((ok_impl_goal_taken (hv7.ext y11) (ha.sl.ext x11) htg htp (by omega) (by omega)).mono ?_)
      rintro u w12 ⟨x12, x, rfl, hx⟩
      refine iE20 (iE21 ?_)
      intro w13 x13
      have y13 := y11.trans (x12.trans x13)
      refine iCnd (fun hk => ?_) (fun hk => ?_)
      · have P := taken_ok h hti hk
        refine iCall ((ok_impl_decider_all (hD7.ext y13) ((hx hk).ext x13) fun p hp => IH _ _ (P.sq p hp) (P.lt p hp)).mono ?_)
        rintro u w14 ⟨b, h14, hb14⟩
        exact (h14.ext (X7.trans y13) (Ext.refl _)).val (vB_of P hb14)
      · refine iAdd (by omega) ?_
        refine hKn (i + 1) _ ⟨hil, y13, fun j hj => ?_⟩ (by omega)
        by_cases hji : j = i
        · subst hji; exact hk
        · exact hno j (by omega)
    · refine iLd2 hB8 ?_
      refine iCall ((ok_impl_decider_tries (hD7.ext x8) hv8 (hc7.ext x8) h IH hb.1 hb.2 (fun t ht => ?_) hr2).mono ?_)
      · obtain ⟨j, hj, rfl⟩ := List.getElem_of_mem ht
        rw [← gt_eq hj]
        exact hno j (by omega)
      · rintro u w9 h9
        exact h9.ext (X7.trans x8) (Ext.refl _)
theorem ok_impl_decider_proves {db mb : Nat} {L : List Str} {r : Str} (h : SqT L r) (hd : ∀ (w : World) (v : Value), Dec w db mb → TxW 0 w v L → Cal Tryz.prog f_impl_decider_decide #[dp db, .agg #[v, sv r]] w (DQ KnQ mb w (vB L r))) : Pv db mb L r := by
  intro w v hD hv
  apply c_impl_decider_proves; unfold S_impl_decider_proves
  have hkl := key_len h.left
  have hrl := wT_len' h.right
  have hsm := h.small
  refine iNew2 fun q w1 hq x1 hB => ?_
  refine iFa (iLdB hB rfl ?_)
  refine iFa (iLdB hB rfl ?_)
  refine iBs1 rfl rfl fun b w2 hb x2 hB2 => ?_
  refine iBuild2 hv.cell rfl ?_
  have X2 := x1.trans x2
  refine iRet (ok_impl_sequentKey (r := r) (hv.ext X2).sl (Sl.ofBlk (n := 1) hB2 rfl (by decide)) (by omega)) fun w3 x3 => ?_
  have X3 := X2.trans x3
  have hD3 := hD.ext X3
  refine iNil ?_
  refine iFa (iLdB hD3.blk rfl ?_)
  refine iMapLook hD3.map u_kn u_kns zero_kn ?_ ?_
  · refine iE20 (iE21 (iCndF rfl ?_))
    refine iLd2 (hB.ext (x2.trans x3)) ?_
    refine iCall ((hd w3 v hD3 (hv.ext X3)).mono ?_)
    rintro u w4 h4
    obtain ⟨rfl, hm4, hc4⟩ := id h4
    have hD4 := hD3.tr hm4 hc4
    refine iNil ?_
    refine iFa (iLdB hD4.blk rfl ?_)
    refine iMapPut hm4 u_kn u_kns ⟨L, r, rfl, h.left, h.right, rfl⟩ fun w5 hm5 hc5 => ?_
    exact ⟨rfl, hm5, (ch_cons X3 hc4).trans hc5 fun _ e => .inl e⟩
  · rintro u ⟨L', r', e, g1, g2, rfl⟩
    obtain ⟨rfl, rfl⟩ := keyT_inj h.left g1 h.right g2 e
    exact iE20 (iE21 (iCndT rfl ⟨rfl, hD3.map, X3.ch⟩))
theorem ok_Pv {db mb : Nat} : ∀ (n : Nat) (L : List Str) (r : Str), SqT L r → mT L + wT r < n → Pv db mb L r := by
  intro n
  induction n with
  | zero => intro L r _ h; omega
  | succ n ih =>
    intro L r h hn
    exact ok_impl_decider_proves h fun w v hD hv => ok_impl_decider_decide hD hv h fun L' r' h' hlt => ih L' r' h' (by omega)
theorem ok_impl_newDecider (w : World) : Cal Tryz.prog f_impl_newDecider #[] w fun v w' => Ext w w' ∧ ∃ db mb, v = dp db ∧ Dec w' db mb ∧ w.heap.size ≤ mb := by
  apply c_impl_newDecider; unfold S_impl_newDecider
  refine iMapMade (Q := KnQ) fun b w1 hb x1 hm => ?_
  refine iBuild (cs := #[.map (some b)]) (by simp [Instr.fill, Value.cells]) ?_
  refine iNew fun q w2 hq x2 hB => ?_
  exact ⟨x1.trans x2, q, b, rfl, ⟨by simpa [Value.cells] using hB, hm.ext x2⟩, by omega⟩
theorem ok_impl_provable {v : Value} {L : List Str} {r : Str} {w : World} (hv : TxW 0 w v L) (h : SqT (setT L) r) (hl : L.length ≤ 549755813888) : Ret Tryz.prog f_impl_provable #[v, sv r] w (.bool (vB (setT L) r)) := by
  apply c_impl_provable; unfold S_impl_provable
  refine iCall ((ok_impl_newDecider w).mono ?_)
  rintro d w1 ⟨x1, db, mb, rfl, hD, hmb⟩
  refine iCall (Cal.mono (R := DQ KnQ mb w1 (vB (setT L) r)) ?_ ?_)
  · show Cal Tryz.prog f_impl_decider_provable #[dp db, v, sv r] w1 _
    apply c_impl_decider_provable; unfold S_impl_decider_provable
    refine iCall ((ok_impl_put (A := L) (B := []) (hv.ext x1).sl (Sl.nil w1) hv.cell rfl (by simp only [List.length_nil]; omega)).mono ?_)
    rintro u w2 ⟨x2, ho⟩
    rw [List.append_nil] at ho
    refine iBuild2 ho.cell rfl ?_
    refine iCall ((ok_Pv _ _ _ h (Nat.lt_succ_self _) w2 u (hD.ext x2) (ho.mono (Nat.zero_le _))).mono ?_)
    rintro u w3 h3
    exact h3.ext x2 (Ext.refl _)
  · rintro u w2 ⟨rfl, _, hc⟩
    exact ⟨rfl, x1.thenCh hc fun c e => by omega⟩
end Go.Proofs.YtapdkkijoflcpaaGreatDoor

/- Plain maths: what the reference's search for intuitionistic proofs does with formulas, and that each step keeps what holds. No program in sight. Conditions: none. -/
namespace Go.Vc
def msF (G : List Fm) : Nat := (G.map Fm.w2).sum
theorem msF_cons (a : Fm) (G : List Fm) : msF (a :: G) = a.w2 + msF G := by simp [msF]
theorem msF_app (A B : List Fm) : msF (A ++ B) = msF A + msF B := by simp [msF]
theorem msF_one (a : Fm) : msF [a] = a.w2 := by simp [msF]
theorem msF_two (a b : Fm) : msF [a, b] = a.w2 + b.w2 := by simp [msF]
theorem msF_len (G : List Fm) : 2 * G.length ≤ msF G := by
  induction G with
  | nil => simp
  | cons a G ih => rw [msF_cons, List.length_cons]; have := a.w2_ge; omega
theorem msF_mem {a : Fm} : ∀ {G : List Fm}, a ∈ G → a.w2 ≤ msF G
  | [], h => by simp at h
  | b :: G, h => by
    rw [msF_cons]
    rcases List.mem_cons.1 h with rfl | h
    · omega
    · have := msF_mem h; omega
/-- The others. -/
def restF (fs : List Fm) (i : Nat) : List Fm := fs.take i ++ fs.drop (i + 1)
theorem restF_split {fs : List Fm} {i : Nat} (hi : i < fs.length) : fs = fs.take i ++ fs[i] :: fs.drop (i + 1) := by
  have := List.take_append_drop i fs
  rw [List.drop_eq_getElem_cons hi] at this
  exact this.symm
theorem msF_rest {fs : List Fm} {i : Nat} (hi : i < fs.length) : msF (restF fs i) + fs[i].w2 = msF fs := by
  have h := congrArg msF (restF_split hi)
  rw [msF_app, msF_cons] at h
  rw [restF, msF_app]; omega
theorem mem_rest {fs : List Fm} {i : Nat} (hi : i < fs.length) (u : Fm) : u ∈ fs ↔ u = fs[i] ∨ u ∈ restF fs i := by
  have h := restF_split hi
  rw [restF, List.mem_append]
  constructor
  · intro hu
    rw [h, List.mem_append, List.mem_cons] at hu
    rcases hu with hu | hu | hu
    · exact .inr (.inl hu)
    · exact .inl hu
    · exact .inr (.inr hu)
  · rintro (rfl | hu | hu)
    · exact List.getElem_mem _
    · exact List.mem_of_mem_take hu
    · exact List.mem_of_mem_drop hu
/-- With more formulas, those that are there already left out. -/
def withF (fs more : List Fm) : List Fm := more.foldl (fun acc x => if x ∈ acc then acc else acc ++ [x]) fs
theorem mem_withF {u : Fm} : ∀ {more fs : List Fm}, u ∈ withF fs more ↔ u ∈ more ∨ u ∈ fs
  | [], fs => by simp [withF]
  | x :: more, fs => by
    rw [show withF fs (x :: more) = withF (if x ∈ fs then fs else fs ++ [x]) more from rfl, mem_withF, List.mem_cons]
    split
    · rename_i h
      constructor
      · rintro (h1 | h1)
        · exact .inl (.inr h1)
        · exact .inr h1
      · rintro ((rfl | h1) | h1)
        · exact .inr h
        · exact .inl h1
        · exact .inr h1
    · rw [List.mem_append, List.mem_singleton]
      constructor
      · rintro (h1 | h1 | h1)
        · exact .inl (.inr h1)
        · exact .inr h1
        · exact .inl (.inl h1)
      · rintro ((h1 | h1) | h1)
        · exact .inr (.inr h1)
        · exact .inl h1
        · exact .inr (.inl h1)
theorem msF_with : ∀ (more fs : List Fm), msF (withF fs more) ≤ msF fs + msF more
  | [], fs => by simp [withF]
  | x :: more, fs => by
    rw [show withF fs (x :: more) = withF (if x ∈ fs then fs else fs ++ [x]) more from rfl, msF_cons]
    have := msF_with more (if x ∈ fs then fs else fs ++ [x])
    split at this
    · rename_i h; rw [if_pos h]; omega
    · rename_i h; rw [if_neg h]; rw [msF_app, msF_one] at this; omega
theorem withF_snoc (fs l : List Fm) (x : Fm) : withF fs (l ++ [x]) = if x ∈ withF fs l then withF fs l else withF fs l ++ [x] := by unfold withF; rw [List.foldl_append]; rfl
/-- A sequent of formulas that is small enough. -/
structure SqF (G : List Fm) (c : Fm) : Prop where
  left : ∀ a ∈ G, a.plain = true
  right : c.plain = true
  small : msF G + c.w2 ≤ 1099511627776
theorem SqF.wt_left {G : List Fm} {c a : Fm} (h : SqF G c) (ha : a ∈ G) : a.wt ≤ 40 := by
  have := msF_mem ha
  have := h.small
  exact wt_of_w2 (n := 40) (by omega)
theorem SqF.wt_right {G : List Fm} {c : Fm} (h : SqF G c) : c.wt ≤ 40 := by
  have := h.small
  exact wt_of_w2 (n := 40) (by omega)
theorem SqF.sz_left {G : List Fm} {c a : Fm} (h : SqF G c) (ha : a ∈ G) : a.size ≤ 40 := by
  have := h.wt_left ha
  have := Fm.wt_size (h.left a ha)
  omega
theorem SqF.sz_right {G : List Fm} {c : Fm} (h : SqF G c) : c.size ≤ 40 := by
  have := h.wt_right
  have := Fm.wt_size h.right
  omega
abbrev LtF (G : List Fm) (c : Fm) (G' : List Fm) (c' : Fm) : Prop := SqF G c ∧ msF G + c.w2 < msF G' + c'.w2
theorem SqF.inst {fs : List Fm} {c c' : Fm} {i : Nat} (h : SqF fs c) (hi : i < fs.length) {ts : List Fm} (hg : ∀ u ∈ ts, u.plain = true) (hr : c'.plain = true) (hm : msF ts + c'.w2 < fs[i].w2 + c.w2) : LtF (withF (restF fs i) ts) c' fs c := by
  have h1 := msF_with ts (restF fs i)
  have h2 := msF_rest hi
  have h3 := h.small
  refine ⟨⟨fun u hu => ?_, hr, by omega⟩, by omega⟩
  rcases mem_withF.1 hu with hu | hu
  · exact hg u hu
  · exact h.left u ((mem_rest hi u).2 (.inr hu))
theorem SqF.rest {fs : List Fm} {c : Fm} {i : Nat} (h : SqF fs c) (hi : i < fs.length) : LtF (restF fs i) c fs c := by
  have h2 := msF_rest hi
  have h3 := h.small
  have := fs[i].w2_ge
  exact ⟨⟨fun u hu => h.left u ((mem_rest hi u).2 (.inr hu)), h.right, by omega⟩, by omega⟩
theorem all1 {a : Fm} (h : a.plain = true) : ∀ u ∈ [a], u.plain = true := fun u hu => by rw [List.mem_singleton.1 hu]; exact h
theorem all2 {a b : Fm} (h : a.plain = true) (k : b.plain = true) : ∀ u ∈ [a, b], u.plain = true := fun u hu => by
  simp only [List.mem_cons, List.not_mem_nil, or_false] at hu
  rcases hu with rfl | rfl
  · exact h
  · exact k
theorem pl_imp {a b : Fm} (h : (Fm.imp a b).plain = true) : a.plain = true ∧ b.plain = true := by simpa [Fm.plain] using h
theorem pl_and {a b : Fm} (h : (Fm.and a b).plain = true) : a.plain = true ∧ b.plain = true := by simpa [Fm.plain] using h
theorem pl_or {a b : Fm} (h : (Fm.or a b).plain = true) : a.plain = true ∧ b.plain = true := by simpa [Fm.plain] using h
theorem imp_pl {a b : Fm} (h : a.plain = true) (k : b.plain = true) : (Fm.imp a b).plain = true := by simp [Fm.plain, h, k]
theorem mem_with1 {G : List Fm} {a u : Fm} : u ∈ withF G [a] ↔ u = a ∨ u ∈ G := by rw [mem_withF, List.mem_singleton]
theorem mem_with2 {G : List Fm} {a b u : Fm} : u ∈ withF G [a, b] ↔ u = a ∨ u = b ∨ u ∈ G := by rw [mem_withF]; simp only [List.mem_cons, List.not_mem_nil, or_false, or_assoc]
/-- What is of no use. -/
def uselessB (rest : List Fm) (a : Fm) : Bool :=
  match a with
  | .or x y => decide (x ∈ rest) || decide (y ∈ rest)
  | .imp x y => decide (x = .fls) || decide (y ∈ rest)
  | _ => false
section
variable {fs : List Fm} {c : Fm} {i : Nat} (h : SqF fs c) (hi : i < fs.length)
 include h hi
theorem f_useless (hu : uselessB (restF fs i) fs[i] = true) : LtF (restF fs i) c fs c ∧ (Vld (restF fs i) c ↔ Vld fs c) := by
  refine ⟨h.rest hi, ?_⟩
  have hS := mem_rest hi
  unfold uselessB at hu
  split at hu
  · rename_i x y e
    rw [e] at hS
    rw [Bool.or_eq_true, decide_eq_true_eq, decide_eq_true_eq] at hu
    exact r_useless_or hS hu
  · rename_i x y e
    rw [e] at hS
    rw [Bool.or_eq_true, decide_eq_true_eq, decide_eq_true_eq] at hu
    rcases hu with rfl | hu
    · exact r_useless_fls hS
    · exact r_useless_imp hS hu
  · cases hu
theorem f_and2 {a b : Fm} (e : fs[i] = .and a b) : LtF (withF (restF fs i) [a, b]) c fs c ∧ (Vld (withF (restF fs i) [a, b]) c ↔ Vld fs c) := by
  have hp := h.left _ (List.getElem_mem hi)
  have hS := mem_rest hi
  rw [e] at hp hS
  refine ⟨h.inst hi (all2 (pl_and hp).1 (pl_and hp).2) h.right ?_, r_and hS fun u => mem_with2⟩
  rw [msF_two, e]; have := lt_and a b; omega
theorem f_or2 {a b : Fm} (e : fs[i] = .or a b) : LtF (withF (restF fs i) [a]) c fs c ∧ LtF (withF (restF fs i) [b]) c fs c ∧ (Vld fs c ↔ Vld (withF (restF fs i) [a]) c ∧ Vld (withF (restF fs i) [b]) c) := by
  have hp := h.left _ (List.getElem_mem hi)
  have hS := mem_rest hi
  rw [e] at hp hS
  have := lt_or a b
  have := a.w2_ge
  have := b.w2_ge
  refine ⟨h.inst hi (all1 (pl_or hp).1) h.right ?_, h.inst hi (all1 (pl_or hp).2) h.right ?_, r_or hS (fun u => mem_with1) (fun u => mem_with1)⟩
  · rw [msF_one, e]; omega
  · rw [msF_one, e]; omega
theorem f_imp_and2 {x y b : Fm} (e : fs[i] = .imp (.and x y) b) : LtF (withF (restF fs i) [.imp x (.imp y b)]) c fs c ∧ (Vld (withF (restF fs i) [.imp x (.imp y b)]) c ↔ Vld fs c) := by
  have hp := h.left _ (List.getElem_mem hi)
  have hS := mem_rest hi
  rw [e] at hp hS
  have hp1 := pl_and (pl_imp hp).1
  refine ⟨h.inst hi (all1 (imp_pl hp1.1 (imp_pl hp1.2 (pl_imp hp).2))) h.right ?_, r_imp_and hS fun u => mem_with1⟩
  rw [msF_one, e]; have := lt_imp_and x y b; omega
theorem f_imp_or2 {x y b : Fm} (e : fs[i] = .imp (.or x y) b) : LtF (withF (restF fs i) [.imp x b, .imp y b]) c fs c ∧ (Vld (withF (restF fs i) [.imp x b, .imp y b]) c ↔ Vld fs c) := by
  have hp := h.left _ (List.getElem_mem hi)
  have hS := mem_rest hi
  rw [e] at hp hS
  have hp1 := pl_or (pl_imp hp).1
  refine ⟨h.inst hi (all2 (imp_pl hp1.1 (pl_imp hp).2) (imp_pl hp1.2 (pl_imp hp).2)) h.right ?_, r_imp_or hS fun u => mem_with2⟩
  rw [msF_two, e]; have := lt_imp_or x y b; omega
theorem f_imp_mp2 {x b : Fm} (e : fs[i] = .imp x b) (hx : x ∈ restF fs i) : LtF (withF (restF fs i) [b]) c fs c ∧ (Vld (withF (restF fs i) [b]) c ↔ Vld fs c) := by
  have hp := h.left _ (List.getElem_mem hi)
  have hS := mem_rest hi
  rw [e] at hp hS
  refine ⟨h.inst hi (all1 (pl_imp hp).2) h.right ?_, r_imp_mp hS (fun u => mem_with1) hx⟩
  rw [msF_one, e]; have := lt_imp x b; omega
theorem f_nest2 {x y z : Fm} (e : fs[i] = .imp (.imp x y) z) : LtF (withF (restF fs i) [.imp y z, x]) y fs c ∧ LtF (withF (restF fs i) [z]) c fs c ∧ (Vld (withF (restF fs i) [.imp y z, x]) y ↔ Vld fs (.imp x y)) ∧ (Vld fs (.imp x y) → (Vld (withF (restF fs i) [z]) c ↔ Vld fs c)) := by
  have hp := h.left _ (List.getElem_mem hi)
  have hS := mem_rest hi
  rw [e] at hp hS
  have hp1 := pl_imp (pl_imp hp).1
  refine ⟨h.inst hi (all2 (imp_pl hp1.2 (pl_imp hp).2) hp1.1) hp1.2 ?_, h.inst hi (all1 (pl_imp hp).2) h.right ?_, nest_two hS fun u => mem_with2, fun k => nest_three hS (fun u => mem_with1) k⟩
  · rw [msF_two, e]; have := lt_nest x y z; have := lt_imp x y; omega
  · rw [msF_one, e]; have := lt_imp (.imp x y) z; omega
end
section
variable {fs : List Fm} {c : Fm} (h : SqF fs c)
 include h
theorem f_right_and {a b : Fm} (e : c = .and a b) : LtF fs a fs c ∧ LtF fs b fs c ∧ (Vld fs c ↔ Vld fs a ∧ Vld fs b) := by
  subst e
  have := lt_and a b
  have := a.w2_ge
  have := b.w2_ge
  have := h.small
  have hp := pl_and h.right
  exact ⟨⟨⟨h.left, hp.1, by omega⟩, by omega⟩, ⟨⟨h.left, hp.2, by omega⟩, by omega⟩, Vld.and⟩
theorem f_right_or {a b : Fm} (e : c = .or a b) : LtF fs a fs c ∧ LtF fs b fs c ∧ (Vld fs a ∨ Vld fs b → Vld fs c) := by
  subst e
  have := lt_or a b
  have := a.w2_ge
  have := b.w2_ge
  have := h.small
  have hp := pl_or h.right
  exact ⟨⟨⟨h.left, hp.1, by omega⟩, by omega⟩, ⟨⟨h.left, hp.2, by omega⟩, by omega⟩, fun k M w hw => k.imp (fun k => k M w hw) (fun k => k M w hw)⟩
theorem f_right_imp {a b : Fm} (e : c = .imp a b) : LtF (withF fs [a]) b fs c ∧ (Vld fs c ↔ Vld (withF fs [a]) b) := by
  subst e
  have := lt_imp a b
  have h1 := msF_with [a] fs
  rw [msF_one] at h1
  have := h.small
  have hp := pl_imp h.right
  refine ⟨⟨⟨fun u hu => ?_, hp.2, by omega⟩, by omega⟩, Vld.imp fun u => mem_with1⟩
  rcases mem_with1.1 hu with rfl | hu
  · exact hp.1
  · exact h.left u hu
/-- Where no rule for the left side serves. -/
def Inert (fs : List Fm) (a : Fm) : Prop := (∃ p, a = .var p) ∨ ∃ x y, a = .imp x y ∧ ((∃ p, x = .var p ∧ Fm.var p ∉ fs) ∨ ∃ x1 x2, x = .imp x1 x2)
theorem stuckF (hc : ¬ c ∈ fs) (hin : ∀ i (hi : i < fs.length), Inert fs fs[i]) (hr2 : ∀ a b, c ≠ .and a b ∧ c ≠ .imp a b) (hor : ∀ a b, c = .or a b → ¬ Vld fs a ∧ ¬ Vld fs b)
    (hn : ∀ i (hi : i < fs.length) x y z, fs[i] = .imp (.imp x y) z → ¬ (Vld (withF (restF fs i) [.imp y z, x]) y ∧ Vld (withF (restF fs i) [z]) c)) : ¬ Vld fs c := by
  by_cases hA : ∃ i, ∃ hi : i < fs.length, ∃ x y z, fs[i] = .imp (.imp x y) z ∧ Vld fs (.imp x y)
  · obtain ⟨i, hi, x, y, z, e, hp⟩ := hA
    obtain ⟨-, -, k1, k2⟩ := f_nest2 h hi e
    exact fun hv => hn i hi x y z e ⟨k1.2 hp, (k2 hp).2 hv⟩
  · refine stuck (fun a ha => ?_) ?_
    · obtain ⟨i, hi, rfl⟩ := List.getElem_of_mem ha
      rcases hin i hi with hv | ⟨x, y, e, hx⟩
      · exact .inl hv
      · refine .inr ⟨x, y, e, hx.imp id ?_⟩
        rintro ⟨x1, x2, rfl⟩ hv
        exact hA ⟨i, hi, x1, x2, y, e, hv⟩
    · have hp := h.right
      cases c with
      | var p => exact .inl ⟨p, rfl, hc⟩
      | fls => exact .inr (.inl rfl)
      | and a b => exact absurd rfl (hr2 a b).1
      | imp a b => exact absurd rfl (hr2 a b).2
      | box a => cases hp
      | dia a => cases hp
      | or a b => exact .inr (.inr ⟨a, b, rfl, hor a b rfl⟩)
end
theorem inert_of {fs : List Fm} {c : Fm} {i : Nat} (h : SqF fs c) (hi : i < fs.length) (hf : Fm.fls ∉ fs) (hu : uselessB (restF fs i) fs[i] = false) (h1 : ∀ a b, fs[i] ≠ .and a b) (h2 : ∀ a b, fs[i] ≠ .or a b)
    (h3 : ∀ x y, fs[i] = .imp x y → (∀ a b, x ≠ .and a b) ∧ (∀ a b, x ≠ .or a b) ∧ x ∉ restF fs i) : Inert fs fs[i] := by
  have hp := h.left _ (List.getElem_mem hi)
  cases e : fs[i] with
  | var p => exact .inl ⟨p, rfl⟩
  | fls => exact absurd (e ▸ List.getElem_mem hi) hf
  | and a b => exact absurd e (h1 a b)
  | or a b => exact absurd e (h2 a b)
  | box a => rw [e] at hp; cases hp
  | dia a => rw [e] at hp; cases hp
  | imp x y =>
    obtain ⟨k1, k2, k3⟩ := h3 x y e
    refine .inr ⟨x, y, rfl, ?_⟩
    cases x with
    | var p =>
      refine .inl ⟨p, rfl, fun hm => ?_⟩
      rcases (mem_rest hi _).1 hm with h | h
      · rw [e] at h; cases h
      · exact k3 h
    | fls => rw [e] at hu; simp [uselessB] at hu
    | and a b => exact absurd rfl (k1 a b)
    | or a b => exact absurd rfl (k2 a b)
    | imp a b => exact .inr ⟨a, b, rfl⟩
    | box a => rw [e] at hp; cases hp
    | dia a => rw [e] at hp; cases hp
open Classical in
noncomputable def vF (G : List Fm) (c : Fm) : Bool := decide (Vld G c)
theorem vF_true {G : List Fm} {c : Fm} : vF G c = true ↔ Vld G c := by unfold vF; exact @decide_eq_true_iff _ (Classical.propDecidable _)
theorem vF_false {G : List Fm} {c : Fm} : vF G c = false ↔ ¬ Vld G c := by unfold vF; exact @decide_eq_false_iff_not _ (Classical.propDecidable _)
theorem vF_eq {G G' : List Fm} {c c' : Fm} (h : Vld G c ↔ Vld G' c') : vF G c = vF G' c' := Bool.eq_iff_iff.2 (vF_true.trans (h.trans vF_true.symm))
theorem vF_and {G A B : List Fm} {c a b : Fm} (h : Vld G c ↔ Vld A a ∧ Vld B b) : vF G c = (vF A a && vF B b) := Bool.eq_iff_iff.2 (vF_true.trans (h.trans (by rw [Bool.and_eq_true, vF_true, vF_true])))
end Go.Vc

/- Contracts: rows of formulas in the reference's search for intuitionistic proofs. Conditions: none. -/
namespace Go.Vc
theorem SlK.cellOk' {k : Nat} {w : World} {v : Value} {n : Nat} {xs : List Value} (h : SlK k w v n xs) : isCell v = true := by
  obtain ⟨_, a, c, rfl, _⟩ := h
  rfl
section
variable {P : Program} {w : World}
/-- An empty row of the call's own, laid out. -/
theorem iBs00 {e : TypeId} {z : Value} {K : Value → World → Prop} (h : ∀ b w', b = w.heap.size → w'.heap.size = b + 1 → Ext w w' → Blk e w' b [] → K (.slice (some ⟨b, 0, none⟩) 0 0) w') : xBs e (Value.cells z) 1 0 [] w K :=
  ⟨_, rfl, h _ _ rfl (by simp) (Ext.alloc w _) (by simpa [show Array.range 0 = #[] from rfl] using Blk.new w (Array.range 0 |>.map fun _ => z) e)⟩
/-- 'append(s, x...)', s empty and without room: old memory stands. -/
theorem iAppF {t ty e : TypeId} {z x : Value} {bytes b : Nat} {ys : List Value} {K : Value → World → Prop} (ht : P.underlying t = some (.slice e)) (hi : (P.info? e).map (fun i => (i.zero, i.size, i.bytes)) = some (some z, 1, bytes)) (hz : isCell z = true)
    (hB : Blk e w b []) (hs : Sl w x ys) (hb : ys.length * bytes ≤ 140737488355328) (hm : ys.length ≤ 9223372036854775807)
    (h : ∀ v' w', Ext w w' → Ow b e w' v' ys → K v' w') : xOp P (Builtin.append_ #[t, t] ty #[.slice (some ⟨b, 0, none⟩) 0 0, x]) w K := by
  obtain ⟨i, hi, h3⟩ := Option.map_eq_some_iff.1 hi
  simp only [Prod.mk.injEq] at h3
  obtain ⟨hz0, hsz, hby⟩ := h3
  obtain ⟨a, c, rfl, hlc, hcm, hcells⟩ := hs
  have hlt := hB.lt
  by_cases hy : ys = []
  · subst hy
    refine ⟨.slice (some ⟨b, 0, none⟩) 0 0, w, ?_, h _ _ (Ext.refl _) (Ow.ofBlk (n := 0) hB (Nat.le_refl _) rfl (by decide))⟩
    cases a with
    | none => simp [Builtin.append_, run_underlying ht, sizeOf, typeInfo, hi, Builtin.lenOf, Builtin.firstCells, storeCells]
    | some ad => simp [Builtin.append_, run_underlying ht, sizeOf, typeInfo, hi, Builtin.lenOf, Builtin.firstCells, storeCells, loadCells, loadCellsFrom]
  · have hlen : 0 < ys.length := List.length_pos_iff.2 hy
    rcases hcells with rfl | ⟨bb, o, rfl, hc⟩
    · exact absurd rfl hy
    have hnews : ∀ j u, ys[j]? = some u → w.cell? ((⟨bb, o, none⟩ : Addr).add j) = some u := fun j u hu => by
      have hj : j < ys.length := (List.getElem?_eq_some_iff.1 hu).1
      rw [addr_add, hc j hj, hu]
    have hr := run_append_grow (P := P) w t ty e i z ht hi hz0 ⟨b, 0, none⟩ 0 0 [] (by simp) (by simp) ⟨bb, o, none⟩ ys.length c ys (by rw [hsz, Nat.mul_one]) hnews (by omega) (by omega) (by rw [hby]; exact growslice_fits (by omega) (by simpa using hb))
    have hge := grownCap_ge w (0 + ys.length) 0 e
    have hgm := grownCap_le_maxLen w (0 + ys.length) 0 e (by simpa [maxLen] using hm)
    refine ⟨_, _, hr, h _ _ (grown_none ⟨rfl, rfl, rfl, by simp, fun k hk _ => heap_alloc_old w.drew _ hk⟩) ?_⟩
    rw [Nat.zero_add] at hge hgm ⊢
    refine ⟨(Nat.mul_one _).symm, .inr ⟨w.heap.size, _, _, rfl, Nat.le_of_lt hlt, heap_alloc_new w.drew _, hge, hgm, ?_, ?_⟩⟩
    · simp only [Array.size_append, List.size_toArray, List.length_nil, size_zeroCells, isCell_cells hz]
      simp
      omega
    · simp
end
end Go.Vc
namespace Go.Proofs.YtapdkkijoflcpaaGreatDoor
open Go.Vc
theorem FmsS.mk' {w : World} {vs : List Value} {fs : List Fm} (hl : vs.length = fs.length) (h : ∀ (i : Nat) (a : Fm), fs[i]? = some a → ∃ v, vs[i]? = some v ∧ FmS w v a) : FmsS w vs fs :=
  ⟨hl, fun i hi => by
    obtain ⟨v, h1, h2⟩ := h i fs[i] (List.getElem?_eq_getElem hi)
    exact ⟨v, h1, by simpa [List.getD_eq_getElem?_getD, hi] using h2⟩⟩
theorem FmsS.at {w : World} {vs : List Value} {fs : List Fm} (h : FmsS w vs fs) {i : Nat} {a : Fm} (hi : fs[i]? = some a) : ∃ v, vs[i]? = some v ∧ FmS w v a := by
  obtain ⟨hlt, rfl⟩ := List.getElem?_eq_some_iff.1 hi
  obtain ⟨v, h1, h2⟩ := h.2 i hlt
  exact ⟨v, h1, by simpa [List.getD_eq_getElem?_getD, hlt] using h2⟩
theorem FmsS.app {w : World} {vs us : List Value} {fs gs : List Fm} (h : FmsS w vs fs) (k : FmsS w us gs) : FmsS w (vs ++ us) (fs ++ gs) :=
  FmsS.mk' (by rw [List.length_append, List.length_append, h.1, k.1]) fun i a hi => by
    rcases Nat.lt_or_ge i fs.length with hl | hl
    · rw [List.getElem?_append_left hl] at hi
      rw [List.getElem?_append_left (by have := h.1; omega)]
      exact h.at hi
    · rw [List.getElem?_append_right hl] at hi
      rw [List.getElem?_append_right (by have := h.1; omega), h.1]
      exact k.at hi
theorem FmsS.take {w : World} {vs : List Value} {fs : List Fm} (h : FmsS w vs fs) (n : Nat) : FmsS w (vs.take n) (fs.take n) :=
  FmsS.mk' (by rw [List.length_take, List.length_take, h.1]) fun i a hi => by
    rw [List.getElem?_take] at hi ⊢
    split at hi
    · rw [if_pos ‹_›]; exact h.at hi
    · cases hi
theorem FmsS.drop {w : World} {vs : List Value} {fs : List Fm} (h : FmsS w vs fs) (n : Nat) : FmsS w (vs.drop n) (fs.drop n) :=
  FmsS.mk' (by rw [List.length_drop, List.length_drop, h.1]) fun i a hi => by
    rw [List.getElem?_drop] at hi ⊢
    exact h.at hi
theorem FmsS.cells {w : World} {vs : List Value} {fs : List Fm} (h : FmsS w vs fs) : ∀ u ∈ vs, isCell u = true := fun u hu => by
  obtain ⟨i, hi, rfl⟩ := List.getElem_of_mem hu
  obtain ⟨v, h1, h2⟩ := h.2 i (by have := h.1; omega)
  rw [List.getElem?_eq_getElem hi] at h1
  cases h1
  exact h2.cellOk'
theorem FmsS.nil (w : World) : FmsS w [] [] := ⟨rfl, fun i hi => by simp at hi⟩
theorem FmsS.one {w : World} {v : Value} {a : Fm} (h : FmS w v a) : FmsS w [v] [a] := FmsS.mk' rfl fun i b hi => by
  rcases i with _ | i
  · simp only [List.getElem?_cons_zero, Option.some.injEq] at hi
    subst hi
    exact ⟨v, rfl, h⟩
  · simp at hi
theorem FmsS.two {w : World} {v u : Value} {a b : Fm} (h : FmS w v a) (k : FmS w u b) : FmsS w [v, u] [a, b] := (FmsS.one h).app (FmsS.one k)
/-- A row of formulas, to be read. -/
def FsR (w : World) (v : Value) (fs : List Fm) : Prop := ∃ vs, Sl w v vs ∧ FmsS w vs fs
theorem FsR.ext {w w' : World} {v : Value} {fs : List Fm} (h : FsR w v fs) (x : Ext w w') : FsR w' v fs := by
  obtain ⟨vs, h1, h2⟩ := h
  exact ⟨vs, h1.ext x, h2.ext x⟩
theorem FsR.blk1 {w : World} {e : TypeId} {b : Nat} {v : Value} {a : Fm} (hB : Blk e w b [v]) (h : FmS w v a) : FsR w (.slice (some ⟨b, 0, none⟩) 1 1) [a] := ⟨_, Sl.ofBlk (n := 1) hB rfl (by decide), FmsS.one h⟩
theorem FsR.blk2 {w : World} {e : TypeId} {b : Nat} {v u : Value} {a c : Fm} (hB : Blk e w b [v, u]) (h : FmS w v a) (k : FmS w u c) : FsR w (.slice (some ⟨b, 0, none⟩) 2 2) [a, c] := ⟨_, Sl.ofBlk (n := 2) hB rfl (by decide), FmsS.two h k⟩
theorem iLenF {w : World} {v : Value} {fs : List Fm} {K : Value → Prop} (hs : FsR w v fs) (h : K (.int .i64 (fs.length : Nat))) : xLenS v K := by
  obtain ⟨vs, h1, h2⟩ := hs
  exact iLenS h1 (by rw [h2.1]; exact h)
theorem FsR.len {w : World} {v : Value} {fs : List Fm} (hs : FsR w v fs) : fs.length ≤ 9223372036854775807 := by
  obtain ⟨vs, h1, h2⟩ := hs
  rw [← h2.1]; exact h1.len
theorem iFsAt {w0 w : World} {v : Value} {fs : List Fm} {z : Int} {j : Nat} {k : IntKind} {K : Value → Prop} (hs : FsR w0 v fs) (x : Ext w0 w) (hz : z = (j : Int)) (hj : j < fs.length) (h : ∀ u, FmS w0 u fs[j] → K u) : xIa 1 v (.int k z) fun p => xLd w p K := by
  obtain ⟨vs, h1, h2⟩ := hs
  obtain ⟨u, e1, e2⟩ := h2.at (List.getElem?_eq_getElem hj)
  subst hz
  refine iIa (j := (j : Int)) (h1.ext x) (by omega) (by have := h2.1; omega) fun p hp => ?_
  exact iLd (hp.trans (by rw [Int.toNat_natCast]; exact e1)) (h u e2)
theorem ok_spec_l23Has {v va : Value} {fs : List Fm} {f : Fm} {w : World} (hs : FsR w v fs) (ha : FmS w va f) (hn : ∀ x ∈ fs, x.size ≤ 1000000) : Ret Tryz.prog f_spec_l23Has #[v, va] w (.bool (decide (f ∈ fs))) := by
  apply c_spec_l23Has; unfold S_spec_l23Has
  have hln := hs.len
  refine iLp (fun i : Nat => [.int .i64 (i : Int)]) (fun i w' => i ≤ fs.length ∧ Ext w w' ∧ ∀ j, j < i → fs[j]? ≠ some f) (fun i => fs.length - i) 0 rfl ⟨Nat.zero_le _, Ext.refl _, fun j hj => by omega⟩ ?_
  rintro i w2 Kn ⟨hi, h2, hno⟩ hKn
  intro _
  simp only [gx]
  refine iLenF (hs.ext h2) ?_
  refine iLt ?_
  refine iCndP (fun h => ?_) (fun h => ?_)
  · have hil : i < fs.length := by omega
    refine iFsAt hs h2 rfl hil fun u hu => ?_
    have := hn _ (List.getElem_mem hil)
    refine iRet (ok_spec_l02Equal (hu.ext h2) (ha.ext h2) (by omega)) fun w3 h3 => ?_
    refine iCndP (fun h4 => ?_) (fun h4 => ?_)
    · rw [decide_eq_true (show f ∈ fs by rw [← h4]; exact List.getElem_mem _)]
      exact ⟨by first | trivial | rfl, h2.trans h3⟩
    · refine iAdd (by omega) ?_
      refine hKn (i + 1) _ ⟨hil, h2.trans h3, fun j hj => ?_⟩ (by omega)
      by_cases hji : j = i
      · subst hji
        rw [List.getElem?_eq_getElem hil]
        exact fun e => h4 (Option.some.inj e)
      · exact hno j (by omega)
  · rw [decide_eq_false (show ¬ f ∈ fs from fun hm => by
      obtain ⟨j, hj, e⟩ := List.getElem_of_mem hm
      exact hno j (by omega) (by rw [List.getElem?_eq_getElem hj, e]))]
    exact ⟨by first | trivial | rfl, h2⟩
theorem ok_spec_l23With {v vm : Value} {fs more : List Fm} {w : World} (hs : FsR w v fs) (hm : FsR w vm more) (hn : ∀ x ∈ fs, x.size ≤ 1000000) (hn2 : ∀ x ∈ more, x.size ≤ 1000000) (hl : fs.length + more.length ≤ 1099511627776) :
    Cal Tryz.prog f_spec_l23With #[v, vm] w fun r w' => Ext w w' ∧ FsR w' r (withF fs more) := by
  apply c_spec_l23With; unfold S_spec_l23With
  refine iBs00 fun b w1 hb hb1 x1 hB => ?_
  obtain ⟨vs, hsl, hf⟩ := hs
  have hvl := hf.1
  refine iAppF u_SSimpl_Node i_SSimpl_Node rfl hB (hsl.ext x1) (by omega) (by omega) fun v1 w2 x2 ho => ?_
  have X2 := x1.trans x2
  refine iLp (fun s : Value × Nat => [s.1, .int .i64 (s.2 : Int)]) (fun s w' => s.2 ≤ more.length ∧ Ext w w' ∧ ∃ us, Ow b t_Simpl_Node w' s.1 us ∧ FmsS w us (withF fs (more.take s.2)) ∧ us.length ≤ fs.length + s.2) (fun s => more.length - s.2) (v1, 0) rfl ⟨Nat.zero_le _, X2, vs, ho, hf, by show vs.length ≤ fs.length + 0; omega⟩ ?_
  rintro ⟨u, k⟩ w3 Kn ⟨hk, X3, us, ho, hfu, hul⟩ hKn
  have hk : k ≤ more.length := hk
  have ho : Ow b t_Simpl_Node w3 u us := ho
  have hfu : FmsS w us (withF fs (more.take k)) := hfu
  have hul : us.length ≤ fs.length + k := hul
  intro _
  simp only [gx]
  refine iLenF (hm.ext X3) ?_
  refine iLt ?_
  refine iCndP (fun h => ?_) (fun h => ?_)
  · have hkl : k < more.length := by omega
    have hw : withF fs (more.take (k + 1)) = if more[k] ∈ withF fs (more.take k) then withF fs (more.take k) else withF fs (more.take k) ++ [more[k]] := by
      rw [List.take_succ_eq_append_getElem hkl, withF_snoc]
    refine iFsAt hm X3 rfl hkl fun a ha => ?_
    refine iRet (ok_spec_l23Has ⟨us, ho.sl, hfu.ext X3⟩ (ha.ext X3) (fun x hx => ?_)) fun w4 x4 => ?_
    · rcases mem_withF.1 hx with hx | hx
      · exact hn2 x (List.mem_of_mem_take hx)
      · exact hn x hx
    have X4 := X3.trans x4
    have ho4 := ho.ext x4
    refine iNot ?_
    by_cases hin : more[k] ∈ withF fs (more.take k)
    · rw [if_pos hin] at hw
      refine iCndF (by simp [hin]) ?_
      refine iAdd (by omega) ?_
      exact hKn (u, k + 1) _ ⟨hkl, X4, us, ho4, by show FmsS _ _ (withF fs (more.take (k + 1))); rw [hw]; exact hfu, by show us.length ≤ fs.length + (k + 1); omega⟩ (by show more.length - (k + 1) < more.length - k; omega)
    · rw [if_neg hin] at hw
      refine iCndT (by simp [hin]) ?_
      refine iFsAt hm X4 rfl hkl fun a' ha' => ?_
      refine iApp1 u_SSimpl_Node i_SSimpl_Node rfl ho4 ha'.cellOk' (by omega) (by omega) (by have := X4.size; omega) fun u' w5 ho5 hg5 => ?_
      have hX5 : Ext w w5 := X4.grown hg5 fun c hc => by have := (ho4.blk c hc).1; omega
      refine iAdd (by omega) ?_
      refine hKn (u', k + 1) _ ⟨hkl, hX5, us ++ [a'], ho5, ?_, by show (us ++ [a']).length ≤ fs.length + (k + 1); rw [List.length_append, List.length_singleton]; omega⟩ (by show more.length - (k + 1) < more.length - k; omega)
      show FmsS _ _ (withF fs (more.take (k + 1)))
      rw [hw]
      exact hfu.app (FmsS.one ha')
  · have : k = more.length := by omega
    subst this
    rw [List.take_length] at hfu
    exact ⟨X3, us, ho.sl, hfu.ext X3⟩
end Go.Proofs.YtapdkkijoflcpaaGreatDoor

/- Contracts: the reference's search for intuitionistic proofs says what holds. Conditions: none. -/
namespace Go.Proofs.YtapdkkijoflcpaaGreatDoor
open Go.Vc
/-- A row without one of its elements. -/
theorem iRest {w0 w : World} {v : Value} {fs : List Fm} {i : Nat} {K : Value → World → Prop} (hs : FsR w0 v fs) (x : Ext w0 w) (hi : i < fs.length) (hl : fs.length ≤ 1099511627776) (h : ∀ v' w', Ext w w' → FsR w' v' (restF fs i) → K v' w') :
    xSl 1 v none (some (.int .i64 (i : Int))) fun v36 => xAdd .i64 (.int .i64 (i : Int)) (.int .i64 1) fun v40 => xSl 1 v (some v40) none fun v41 =>
    ∀ w8, Ext w w8 → xBs t_Simpl_Node (Value.cells (.slice none 0 0)) 1 0 [] w8 fun v33 w9 => Ext w8 w9 ∧ ∀ w10, Ext w9 w10 → xOp Tryz.prog (Builtin.append_ #[t_SSimpl_Node, t_SSimpl_Node] t_SSimpl_Node #[v33, v36]) w10 fun v37 w11 =>
    Ext w10 w11 ∧ ∀ w12, Ext w11 w12 → xOp Tryz.prog (Builtin.append_ #[t_SSimpl_Node, t_SSimpl_Node] t_SSimpl_Node #[v37, v41]) w12 fun v42 w13 => ∀ w14, Ext w13 w14 → K v42 w14 := by
  obtain ⟨vs, hsl, hf⟩ := hs
  have hvl := hf.1
  have hcl := hf.cells
  refine iSlTo (hsl.ext x) (by omega) fun v36 h36 => ?_
  refine iAdd (by omega) ?_
  rw [show (i : Int) + 1 = ((i + 1 : Nat) : Int) by omega]
  refine iSlFrom (hsl.ext x) (by omega) fun v41 h41 => ?_
  intro w8 x8
  refine iBs00 fun b w9 hb hb9 x9 hB => ⟨x9, fun w10 x10 => ?_⟩
  have hl1 : (vs.take i).length = i := by rw [List.length_take]; omega
  have hl2 : (vs.drop (i + 1)).length = vs.length - (i + 1) := List.length_drop
  refine iAppF u_SSimpl_Node i_SSimpl_Node rfl (hB.ext x10) (h36.ext (x8.trans (x9.trans x10))) (by omega) (by omega) fun v37 w11 x11 ho => ⟨x11, fun w12 x12 => ?_⟩
  have X12 := (x8.trans x9).trans (x10.trans (x11.trans x12))
  have s8 := x8.size
  have s12 := (x10.trans (x11.trans x12)).size
  refine iApp u_SSimpl_Node i_SSimpl_Node rfl (ho.ext x12) (h41.ext X12) (fun u hu => hcl u (List.mem_of_mem_drop hu)) (by omega) (by omega) (by omega) fun v42 w13 ho13 hg => ?_
  intro w14 x14
  have X13 : Ext w w13 := X12.grown hg fun c hc => by have := ((ho.ext x12).blk c hc).1; omega
  exact h v42 w14 (X13.trans x14) ⟨_, (ho13.ext x14).sl, ((hf.take i).app (hf.drop (i + 1))).ext (x.trans (X13.trans x14))⟩
theorem ok_spec_l23Useless {v va : Value} {fs : List Fm} {a : Fm} {w : World} (hs : FsR w v fs) (ha : FmS w va a) (hn : ∀ x ∈ fs, x.size ≤ 1000000) (hna : a.size ≤ 1000000) : Ret Tryz.prog f_spec_l23Useless #[v, va] w (.bool (uselessB fs a)) := by
  apply c_spec_l23Useless; unfold S_spec_l23Useless
  refine iFld (j := 0) ha rfl a.size_pos (by decide) (kind_fst ha).1 ?_
  cases a with
  | var p => exact iEq (iCndF rfl (iEq (iCndF rfl ⟨rfl, Ext.refl _⟩)))
  | fls => exact iEq (iCndF rfl (iEq (iCndF rfl ⟨rfl, Ext.refl _⟩)))
  | and a b => exact iEq (iCndF rfl (iEq (iCndF rfl ⟨rfl, Ext.refl _⟩)))
  | box a => exact iEq (iCndF rfl (iEq (iCndF rfl ⟨rfl, Ext.refl _⟩)))
  | dia a => exact iEq (iCndF rfl (iEq (iCndF rfl ⟨rfl, Ext.refl _⟩)))
  | or a b =>
    refine iEq (iCndT rfl ?_)
    refine iJnB (uselessB fs (.or a b)) w (fun J hJ => ?_) (fun w2 x2 => fun _ => ⟨by first | trivial | rfl, x2⟩)
    refine iCall ((ok_spec_l02Left (f := .or a b) ha rfl (by omega)).mono ?_)
    rintro u w3 ⟨x3, hu⟩
    refine iRet (ok_spec_l23Has (hs.ext x3) hu hn) fun w4 x4 => ?_
    refine iCndP (fun h => ?_) (fun h => ?_)
    · refine cast ?_ (hJ w4 (x3.trans x4)); rw [show uselessB fs (.or a b) = true by simp [uselessB, h]]
    · have X4 := x3.trans x4
      refine iCall ((ok_spec_l02Right (f := .or a b) (ha.ext X4) rfl (by omega)).mono ?_)
      rintro u2 w5 ⟨x5, hu2⟩
      refine iRet (ok_spec_l23Has (hs.ext (X4.trans x5)) hu2 hn) fun w6 x6 => ?_
      refine cast ?_ (hJ w6 ((X4.trans x5).trans x6)); rw [show uselessB fs (.or a b) = decide (b ∈ fs) by simp [uselessB, h]]
  | imp a b =>
    refine iEq (iCndF rfl (iEq (iCndT rfl ?_)))
    refine iJnB (uselessB fs (.imp a b)) w (fun J hJ => ?_) (fun w2 x2 => fun _ => ⟨by first | trivial | rfl, x2⟩)
    refine iCall ((ok_spec_l02Left (f := .imp a b) ha rfl (by omega)).mono ?_)
    rintro u w3 ⟨x3, hu⟩
    refine iFld (j := 0) hu rfl a.size_pos (by decide) (kind_fst hu).1 ?_
    refine iEq ?_
    refine iCndP (fun h => ?_) (fun h => ?_)
    · have : a = .fls := by cases a <;> simp [Fm.kind] at h; rfl
      subst this
      refine cast ?_ (hJ w3 x3); rw [show uselessB fs (.imp .fls b) = true by simp [uselessB]]
    · refine iCall ((ok_spec_l02Right (f := .imp a b) (ha.ext x3) rfl (by omega)).mono ?_)
      rintro u2 w5 ⟨x5, hu2⟩
      refine iRet (ok_spec_l23Has (hs.ext (x3.trans x5)) hu2 hn) fun w6 x6 => ?_
      have : a ≠ .fls := fun e => h (by rw [e]; rfl)
      refine cast ?_ (hJ w6 ((x3.trans x5).trans x6)); rw [show uselessB fs (.imp a b) = decide (b ∈ fs) by simp [uselessB, this]]
theorem ok_spec_l23Search : ∀ (n : Nat) {v vc : Value} {fs : List Fm} {c : Fm} {w : World}, msF fs + c.w2 < n → SqF fs c → FsR w v fs → FmS w vc c → Ret Tryz.prog f_spec_l23Search #[v, vc] w (.bool (vF fs c)) := by
  intro n
  induction n with
  | zero => intro v vc fs c w h; omega
  | succ n ih =>
    intro v vc fs c w hn h hs hc
    have IH : ∀ {fs' : List Fm} {c' : Fm} {w' : World} {v' vc' : Value}, LtF fs' c' fs c → FsR w' v' fs' → FmS w' vc' c' → Ret Tryz.prog f_spec_l23Search #[v', vc'] w' (.bool (vF fs' c')) := fun l => ih (by have := l.2; omega) l.1
    have hsz : ∀ x ∈ fs, x.size ≤ 1000000 := fun x hx => by have := h.sz_left hx; omega
    have hcz := h.sz_right
    have hll := msF_len fs
    have hsm := h.small
    have hrz : ∀ i, i < fs.length → ∀ x ∈ restF fs i, x.size ≤ 1000000 := fun i hi x hx => hsz x ((mem_rest hi x).2 (.inr hx))
    have hrl : ∀ i, i < fs.length → (restF fs i).length ≤ fs.length := fun i hi => by rw [restF, List.length_append, List.length_take, List.length_drop]; omega
    have goW : ∀ {w' : World} {v' vm : Value} {more : List Fm} {i : Nat}, i < fs.length → FsR w' v' (restF fs i) → FsR w' vm more → (∀ x ∈ more, x.size ≤ 1000000) → more.length ≤ 2 → Cal Tryz.prog f_spec_l23With #[v', vm] w' fun r w'' => Ext w' w'' ∧ FsR w'' r (withF (restF fs i) more) :=
      fun hi a b c d => ok_spec_l23With a b (hrz _ hi) c (by have := hrl _ hi; omega)
    apply c_spec_l23Search; unfold S_spec_l23Search
    refine iJnB (decide (c ∈ fs) || decide (Fm.fls ∈ fs)) w (fun J hJ => ?_) (fun w2 x2 => ?_)
    · refine iRet (ok_spec_l23Has hs hc hsz) fun w3 x3 => ?_
      refine iCndP (fun hk => ?_) (fun hk => ?_)
      · rw [decide_eq_true hk, Bool.true_or] at hJ; exact hJ _ x3
      · rw [decide_eq_false hk, Bool.false_or] at hJ
        refine iCall ((ok_spec_l02False w3).mono ?_)
        rintro u w4 ⟨x4, hu⟩
        refine iRet (ok_spec_l23Has (hs.ext (x3.trans x4)) hu.sl hsz) fun w5 x5 => hJ _ ((x3.trans x4).trans x5)
    intro _
    simp only [gx]
    cases hb : decide (c ∈ fs) || decide (Fm.fls ∈ fs)
    rotate_left
    · refine iCndT rfl ⟨?_, x2⟩
      rw [Bool.or_eq_true, decide_eq_true_eq, decide_eq_true_eq] at hb
      rw [vF_true.2 (hb.elim Vld.mem Vld.fls)]
    rw [Bool.or_eq_false_iff, decide_eq_false_iff_not, decide_eq_false_iff_not] at hb
    refine iCndF rfl ?_
    refine iLp (fun i : Nat => [.int .i64 (i : Int)]) (fun i w' => i ≤ fs.length ∧ Ext w w' ∧ ∀ j (hj : j < fs.length), j < i → Inert fs fs[j]) (fun i => fs.length - i) 0 rfl ⟨Nat.zero_le _, x2, fun j hj h => by omega⟩ ?_
    rintro i w7 Kn ⟨hi, X7, hin⟩ hKn
    intro _
    simp only [gx]
    refine iLenF (hs.ext X7) ?_
    refine iLt ?_
    refine iCndP (fun hlt => ?_) (fun hlt => ?_)
    · have hil : i < fs.length := by omega
      refine iFsAt hs X7 rfl hil fun va ha => ?_
      have hza := h.sz_left (List.getElem_mem hil)
      have hpa := h.left _ (List.getElem_mem hil)
      refine iRest hs X7 hil (by omega) fun vr w14 x14 hr => ?_
      have X14 := X7.trans x14
      refine iRet (ok_spec_l23Useless hr (ha.ext X14) (hrz i hil) (by omega)) fun w15 x15 => ?_
      have X15 := X14.trans x15
      have hr15 := hr.ext x15
      refine iCnd (fun hu => ?_) (fun hu => ?_)
      · obtain ⟨l, k⟩ := f_useless h hil hu
        refine iRet (IH l hr15 (hc.ext X15)) fun w16 x16 => ⟨by rw [vF_eq k], X15.trans x16⟩
      have cont : Inert fs fs[i] → ∀ w', Ext w w' → Kn [.int .i64 ((i : Int) + 1)] w' := fun hI w' x' => hKn (i + 1) w' ⟨hil, x', fun j hj hji => by
        by_cases e : j = i
        · subst e; exact hI
        · exact hin j hj (by omega)⟩ (by omega)
      have kd := (kind_fst ha).1
      cases e : fs[i] with
      | box a => rw [e] at hpa; cases hpa
      | dia a => rw [e] at hpa; cases hpa
      | var p =>
        rw [e] at ha kd
        refine iFld (j := 0) (ha.ext X15) rfl (Fm.size_pos _) (by decide) kd (iEq (iCndF rfl ?_))
        refine iFld (j := 0) (ha.ext X15) rfl (Fm.size_pos _) (by decide) kd (iEq (iCndF rfl ?_))
        refine iFld (j := 0) (ha.ext X15) rfl (Fm.size_pos _) (by decide) kd (iNe (iCndT rfl ?_))
        exact iAdd (by omega) (cont (by rw [e]; exact .inl ⟨p, rfl⟩) _ X15)
      | fls => exact absurd (e ▸ List.getElem_mem hil) hb.2
      | and a b =>
        rw [e] at ha kd hza
        obtain ⟨l, k⟩ := f_and2 h hil e
        simp only [Fm.size] at hza
        refine iFld (j := 0) (ha.ext X15) rfl (Fm.size_pos _) (by decide) kd (iEq (iCndT rfl ?_))
        refine iCall ((ok_spec_l02Left (f := .and a b) (ha.ext X15) rfl (by simp only [Fm.size]; omega)).mono ?_)
        rintro u1 w17 ⟨x17, hu1⟩
        refine iCall ((ok_spec_l02Right (f := .and a b) (ha.ext (X15.trans x17)) rfl (by simp only [Fm.size]; omega)).mono ?_)
        rintro u2 w18 ⟨x18, hu2⟩
        refine iBs2 rfl hu1.cellOk' hu2.cellOk' fun bb w19 hbb x19 hB => ?_
        have y := x17.trans (x18.trans x19)
        refine iCall ((goW hil (hr15.ext y) (FsR.blk2 hB (hu1.ext (x18.trans x19)) (hu2.ext x19)) (by simp only [List.mem_cons, List.not_mem_nil, or_false]; rintro x (rfl | rfl) <;> omega) (by simp)).mono ?_)
        rintro u3 w20 ⟨x20, hr20⟩
        refine iRet (IH l hr20 (hc.ext ((X15.trans y).trans x20))) fun w21 x21 => ⟨by rw [vF_eq k], ((X15.trans y).trans x20).trans x21⟩
      | or a b =>
        rw [e] at ha kd hza
        obtain ⟨l1, l2, k⟩ := f_or2 h hil e
        simp only [Fm.size] at hza
        refine iFld (j := 0) (ha.ext X15) rfl (Fm.size_pos _) (by decide) kd (iEq (iCndF rfl ?_))
        refine iFld (j := 0) (ha.ext X15) rfl (Fm.size_pos _) (by decide) kd (iEq (iCndT rfl ?_))
        refine iJnB (vF fs c) w15 (fun J hJ => ?_) (fun w2 x2 => fun _ => ⟨by first | trivial | rfl, X15.trans x2⟩)
        rw [vF_and k] at hJ
        refine iCall ((ok_spec_l02Left (f := .or a b) (ha.ext X15) rfl (by simp only [Fm.size]; omega)).mono ?_)
        rintro u1 w17 ⟨x17, hu1⟩
        refine iBs1 rfl hu1.cellOk' fun bb w19 hbb x19 hB => ?_
        have y := x17.trans x19
        refine iCall ((goW hil (hr15.ext y) (FsR.blk1 hB (hu1.ext x19)) (by simp only [List.mem_singleton]; rintro x rfl; omega) (by simp)).mono ?_)
        rintro u3 w20 ⟨x20, hr20⟩
        refine iRet (IH l1 hr20 (hc.ext ((X15.trans y).trans x20))) fun w21 x21 => ?_
        have Y := (y.trans x20).trans x21
        refine iCnd (fun hT => ?_) (fun hT => ?_)
        · rw [hT, Bool.true_and] at hJ
          refine iCall ((ok_spec_l02Right (f := .or a b) (ha.ext (X15.trans Y)) rfl (by simp only [Fm.size]; omega)).mono ?_)
          rintro u4 w22 ⟨x22, hu4⟩
          refine iBs1 rfl hu4.cellOk' fun bb w23 hbb x23 hB2 => ?_
          have y2 := Y.trans (x22.trans x23)
          refine iCall ((goW hil (hr15.ext y2) (FsR.blk1 hB2 (hu4.ext x23)) (by simp only [List.mem_singleton]; rintro x rfl; omega) (by simp)).mono ?_)
          rintro u5 w24 ⟨x24, hr24⟩
          refine iRet (IH l2 hr24 (hc.ext ((X15.trans y2).trans x24))) fun w25 x25 => hJ _ ((y2.trans x24).trans x25)
        · rw [hT, Bool.false_and] at hJ
          exact hJ _ Y
      | imp x y =>
        rw [e] at ha kd hza hu hpa
        simp only [Fm.size] at hza
        refine iFld (j := 0) (ha.ext X15) rfl (Fm.size_pos _) (by decide) kd (iEq (iCndF rfl ?_))
        refine iFld (j := 0) (ha.ext X15) rfl (Fm.size_pos _) (by decide) kd (iEq (iCndF rfl ?_))
        refine iFld (j := 0) (ha.ext X15) rfl (Fm.size_pos _) (by decide) kd (iNe (iCndF rfl ?_))
        refine iCall ((ok_spec_l02Left (f := .imp x y) (ha.ext X15) rfl (by simp only [Fm.size]; omega)).mono ?_)
        rintro ux w32 ⟨x32, hux⟩
        refine iCall ((ok_spec_l02Right (f := .imp x y) (ha.ext (X15.trans x32)) rfl (by simp only [Fm.size]; omega)).mono ?_)
        rintro uy w33 ⟨x33, huy⟩
        have y33 := x32.trans x33
        have X33 := X15.trans y33
        have hux : FmS w33 ux x := hux.ext x33
        have hr33 := hr15.ext y33
        have kx := (kind_fst hux).1
        have last : (∀ a b, x ≠ .and a b) → (∀ a b, x ≠ .or a b) → callV Tryz.prog (.func (.func f_spec_l23Has) #[] #[]) [vr, ux] w33 fun v137 w48 => cnd v137 (xBs t_Simpl_Node (Value.cells (.slice none 0 0)) 1 1 [(0, uy)] w48 fun v140 w49 =>
            callV Tryz.prog (.func (.func f_spec_l23With) #[] #[]) [vr, v140] w49 fun v141 w50 => callV Tryz.prog (.func (.func f_spec_l23Search) #[] #[]) [v141, vc] w50 fun v143 w51 => v143 = .bool (vF fs c) ∧ Ext w w51)
            (xAdd .i64 (.int .i64 (i : Int)) (.int .i64 1) fun v28 => Kn [v28] w48) := fun q1 q2 => by
          refine iRet (ok_spec_l23Has hr33 hux (hrz i hil)) fun w48 x48 => ?_
          refine iCndP (fun hx => ?_) (fun hx => ?_)
          · obtain ⟨l, k⟩ := f_imp_mp2 h hil e hx
            refine iBs1 rfl huy.cellOk' fun bb w49 hbb x49 hB => ?_
            refine iCall ((goW hil (hr33.ext (x48.trans x49)) (FsR.blk1 hB (huy.ext (x48.trans x49))) (by simp only [List.mem_singleton]; rintro x rfl; omega) (by simp)).mono ?_)
            rintro u3 w50 ⟨x50, hr50⟩
            have Y := (x48.trans x49).trans x50
            refine iRet (IH l hr50 (hc.ext (X33.trans Y))) fun w51 x51 => ⟨by rw [vF_eq k], (X33.trans Y).trans x51⟩
          · refine iAdd (by omega) (cont ?_ _ (X33.trans x48))
            refine inert_of h hil hb.2 (by rw [e]; exact hu) (fun a b e' => by rw [e] at e'; cases e') (fun a b e' => by rw [e] at e'; cases e') fun x' y' e' => ?_
            rw [e] at e'
            cases e'
            exact ⟨q1, q2, hx⟩
        cases x with
        | box a => cases hpa
        | dia a => cases hpa
        | and a b =>
          obtain ⟨l, k⟩ := f_imp_and2 h hil e
          simp only [Fm.size] at hza
          refine iFld (j := 0) hux rfl (Fm.size_pos _) (by decide) kx (iEq (iCndT rfl ?_))
          refine iCall ((ok_spec_l02Left (f := .and a b) hux rfl (by simp only [Fm.size]; omega)).mono ?_)
          rintro u1 w34 ⟨x34, hu1⟩
          refine iCall ((ok_spec_l02Right (f := .and a b) (hux.ext x34) rfl (by simp only [Fm.size]; omega)).mono ?_)
          rintro u2 w35 ⟨x35, hu2⟩
          refine iCall ((ok_spec_l02Pair (k := 4) (c := .imp b y) rfl rfl hu2 (huy.ext (x34.trans x35)) (by simp only [Fm.size]; omega)).mono ?_)
          rintro u3 w36 ⟨x36, hu3⟩
          refine iCall ((ok_spec_l02Pair (k := 4) (c := .imp a (.imp b y)) rfl rfl (hu1.ext (x35.trans x36)) hu3.sl (by simp only [Fm.size]; omega)).mono ?_)
          rintro u4 w37 ⟨x37, hu4⟩
          refine iBs1 rfl hu4.cell fun bb w38 hbb x38 hB => ?_
          have Y := (x34.trans x35).trans (x36.trans (x37.trans x38))
          refine iCall ((goW hil (hr33.ext Y) (FsR.blk1 hB (hu4.sl.ext x38)) (by simp only [List.mem_singleton]; rintro x rfl; simp only [Fm.size]; omega) (by simp)).mono ?_)
          rintro u5 w39 ⟨x39, hr39⟩
          refine iRet (IH l hr39 (hc.ext ((X33.trans Y).trans x39))) fun w40 x40 => ⟨by rw [vF_eq k], ((X33.trans Y).trans x39).trans x40⟩
        | or a b =>
          obtain ⟨l, k⟩ := f_imp_or2 h hil e
          simp only [Fm.size] at hza
          refine iFld (j := 0) hux rfl (Fm.size_pos _) (by decide) kx (iEq (iCndF rfl ?_))
          refine iFld (j := 0) hux rfl (Fm.size_pos _) (by decide) kx (iEq (iCndT rfl ?_))
          refine iCall ((ok_spec_l02Left (f := .or a b) hux rfl (by simp only [Fm.size]; omega)).mono ?_)
          rintro u1 w34 ⟨x34, hu1⟩
          refine iCall ((ok_spec_l02Pair (k := 4) (c := .imp a y) rfl rfl hu1 (huy.ext x34) (by simp only [Fm.size]; omega)).mono ?_)
          rintro u2 w35 ⟨x35, hu2⟩
          refine iCall ((ok_spec_l02Right (f := .or a b) (hux.ext (x34.trans x35)) rfl (by simp only [Fm.size]; omega)).mono ?_)
          rintro u3 w36 ⟨x36, hu3⟩
          refine iCall ((ok_spec_l02Pair (k := 4) (c := .imp b y) rfl rfl hu3 (huy.ext (x34.trans (x35.trans x36))) (by simp only [Fm.size]; omega)).mono ?_)
          rintro u4 w37 ⟨x37, hu4⟩
          refine iBs2 rfl hu2.cell hu4.cell fun bb w38 hbb x38 hB => ?_
          have Y := (x34.trans x35).trans (x36.trans (x37.trans x38))
          refine iCall ((goW hil (hr33.ext Y) (FsR.blk2 hB (hu2.sl.ext (x36.trans (x37.trans x38))) (hu4.sl.ext x38)) (by simp only [List.mem_cons, List.not_mem_nil, or_false]; rintro x (rfl | rfl) <;> simp only [Fm.size] <;> omega) (by simp)).mono ?_)
          rintro u5 w39 ⟨x39, hr39⟩
          refine iRet (IH l hr39 (hc.ext ((X33.trans Y).trans x39))) fun w40 x40 => ⟨by rw [vF_eq k], ((X33.trans Y).trans x39).trans x40⟩
        | var p =>
          refine iFld (j := 0) hux rfl (Fm.size_pos _) (by decide) kx (iEq (iCndF rfl ?_))
          refine iFld (j := 0) hux rfl (Fm.size_pos _) (by decide) kx (iEq (iCndF rfl ?_))
          exact last (fun a b e => by cases e) (fun a b e => by cases e)
        | fls =>
          refine iFld (j := 0) hux rfl (Fm.size_pos _) (by decide) kx (iEq (iCndF rfl ?_))
          refine iFld (j := 0) hux rfl (Fm.size_pos _) (by decide) kx (iEq (iCndF rfl ?_))
          exact last (fun a b e => by cases e) (fun a b e => by cases e)
        | imp a b =>
          refine iFld (j := 0) hux rfl (Fm.size_pos _) (by decide) kx (iEq (iCndF rfl ?_))
          refine iFld (j := 0) hux rfl (Fm.size_pos _) (by decide) kx (iEq (iCndF rfl ?_))
          exact last (fun a b e => by cases e) (fun a b e => by cases e)
    have hin : ∀ j (hj : j < fs.length), Inert fs fs[j] := fun j hj => hin j hj (by omega)
    have hc7 : FmS w7 vc c := hc.ext X7
    have hs7 := hs.ext X7
    refine iFld (j := 0) hc7 rfl (Fm.size_pos _) (by decide) (kind_fst hc).1 ?_
    refine iEq (iCndP (fun hk => ?_) (fun hk => ?_))
    · obtain ⟨a, b, rfl⟩ : ∃ a b, c = .and a b := by
        cases c <;> simp [Fm.kind] at hk
        exact ⟨_, _, rfl⟩
      obtain ⟨l1, l2, k⟩ := f_right_and h rfl
      refine iJnB (vF fs (.and a b)) w7 (fun J hJ => ?_) (fun w2 x2 => fun _ => ⟨by first | trivial | rfl, X7.trans x2⟩)
      rw [vF_and k] at hJ
      refine iCall ((ok_spec_l02Left (f := .and a b) hc7 rfl (by omega)).mono ?_)
      rintro u1 w8 ⟨x8, hu1⟩
      refine iRet (IH l1 (hs7.ext x8) hu1) fun w9 x9 => ?_
      refine iCnd (fun hT => ?_) (fun hT => ?_)
      · rw [hT, Bool.true_and] at hJ
        refine iCall ((ok_spec_l02Right (f := .and a b) (hc7.ext (x8.trans x9)) rfl (by omega)).mono ?_)
        rintro u2 w10 ⟨x10, hu2⟩
        have y := x8.trans (x9.trans x10)
        refine iRet (IH l2 (hs7.ext y) hu2) fun w11 x11 => hJ _ (y.trans x11)
      · rw [hT, Bool.false_and] at hJ
        exact hJ _ (x8.trans x9)
    refine iEq (iCndP (fun hk2 => ?_) (fun hk2 => ?_))
    · obtain ⟨a, b, rfl⟩ : ∃ a b, c = .imp a b := by
        cases c <;> simp [Fm.kind] at hk2
        exact ⟨_, _, rfl⟩
      obtain ⟨l, k⟩ := f_right_imp h rfl
      simp only [Fm.size] at hcz
      refine iCall ((ok_spec_l02Left (f := .imp a b) hc7 rfl (by simp only [Fm.size]; omega)).mono ?_)
      rintro u1 w8 ⟨x8, hu1⟩
      refine iBs1 rfl hu1.cellOk' fun bb w9 hbb x9 hB => ?_
      have y9 := x8.trans x9
      refine iCall ((ok_spec_l23With (hs7.ext y9) (FsR.blk1 hB (hu1.ext x9)) hsz (by simp only [List.mem_singleton]; rintro x rfl; omega) (by simp only [List.length_singleton]; omega)).mono ?_)
      rintro u2 w10 ⟨x10, hr10⟩
      have y10 := y9.trans x10
      refine iCall ((ok_spec_l02Right (f := .imp a b) (hc7.ext y10) rfl (by simp only [Fm.size]; omega)).mono ?_)
      rintro u3 w11 ⟨x11, hu3⟩
      refine iRet (IH l (hr10.ext x11) hu3) fun w12 x12 => ⟨by rw [vF_eq k], (X7.trans (y10.trans x11)).trans x12⟩
    have hr2 : ∀ a b, c ≠ .and a b ∧ c ≠ .imp a b := fun a b => ⟨fun e => hk (by rw [e]; rfl), fun e => hk2 (by rw [e]; rfl)⟩
    refine iEq ?_
    refine iJnX (fun xs w' => xs = [] ∧ Ext w7 w' ∧ ∀ a b, c = .or a b → ¬ Vld fs a ∧ ¬ Vld fs b) (fun J hJ => ?_) ?_
    · refine iCndP (fun hk3 => ?_) (fun hk3 => ?_)
      · obtain ⟨a, b, rfl⟩ : ∃ a b, c = .or a b := by
          cases c <;> simp [Fm.kind] at hk3
          exact ⟨_, _, rfl⟩
        obtain ⟨l1, l2, k⟩ := f_right_or h rfl
        refine iJnB (vF fs a || vF fs b) w7 (fun J2 hJ2 => ?_) (fun w8 x8 => ?_)
        · refine iCall ((ok_spec_l02Left (f := .or a b) hc7 rfl (by omega)).mono ?_)
          rintro u1 w8 ⟨x8, hu1⟩
          refine iRet (IH l1 (hs7.ext x8) hu1) fun w9 x9 => ?_
          refine iCnd (fun hT => ?_) (fun hT => ?_)
          · rw [hT, Bool.true_or] at hJ2
            exact hJ2 _ (x8.trans x9)
          · rw [hT, Bool.false_or] at hJ2
            refine iCall ((ok_spec_l02Right (f := .or a b) (hc7.ext (x8.trans x9)) rfl (by omega)).mono ?_)
            rintro u2 w10 ⟨x10, hu2⟩
            have y := x8.trans (x9.trans x10)
            refine iRet (IH l2 (hs7.ext y) hu2) fun w11 x11 => hJ2 _ (y.trans x11)
        · intro _
          simp only [gx]
          refine iCnd (fun hT => ?_) (fun hT => ?_)
          · rw [Bool.or_eq_true, vF_true, vF_true] at hT
            exact ⟨by rw [vF_true.2 (k hT)], X7.trans x8⟩
          · rw [Bool.or_eq_false_iff, vF_false, vF_false] at hT
            refine hJ _ _ ⟨rfl, x8, fun a' b' e => ?_⟩
            cases e
            exact hT
      · exact hJ _ _ ⟨rfl, Ext.refl _, fun a b e => absurd (by rw [e]; rfl) hk3⟩
    rintro xs w64 ⟨rfl, x64, hor⟩
    intro _
    have X64 := X7.trans x64
    refine iLp (fun i : Nat => [.int .i64 (i : Int)]) (fun i w' => i ≤ fs.length ∧ Ext w w' ∧ ∀ j (hj : j < fs.length), j < i → ∀ x y z, fs[j] = .imp (.imp x y) z → ¬ (Vld (withF (restF fs j) [.imp y z, x]) y ∧ Vld (withF (restF fs j) [z]) c)) (fun i => fs.length - i) 0 rfl ⟨Nat.zero_le _, X64, fun j hj h => by omega⟩ ?_
    rintro i w72 Kn2 ⟨hi, X72, hno⟩ hKn2
    intro _
    simp only [gx]
    refine iLenF (hs.ext X72) ?_
    refine iLt ?_
    refine iCndP (fun hlt => ?_) (fun hlt => ?_)
    · have hil : i < fs.length := by omega
      refine iFsAt hs X72 rfl hil fun va ha => ?_
      have hza := h.sz_left (List.getElem_mem hil)
      have kd := (kind_fst ha).1
      have cont : (∀ x y z, fs[i] = .imp (.imp x y) z → ¬ (Vld (withF (restF fs i) [.imp y z, x]) y ∧ Vld (withF (restF fs i) [z]) c)) → ∀ w', Ext w w' → Kn2 [.int .i64 ((i : Int) + 1)] w' := fun hI w' x' => hKn2 (i + 1) w' ⟨hil, x', fun j hj hji => by
        by_cases e : j = i
        · subst e; exact hI
        · exact hno j hj (by omega)⟩ (by omega)
      by_cases hnest : ∃ x y z, fs[i] = .imp (.imp x y) z
      · obtain ⟨x, y, z, e⟩ := hnest
        rw [e] at ha kd hza
        obtain ⟨l1, l2, k1, k2⟩ := f_nest2 h hil e
        simp only [Fm.size] at hza
        refine iJnB false w72 (fun J hJ => ?_) (fun w74 x74 => ?_)
        · refine iFld (j := 0) (ha.ext X72) rfl (Fm.size_pos _) (by decide) kd (iNe (iCndF rfl ?_))
          refine iCall ((ok_spec_l02Left (f := .imp (.imp x y) z) (ha.ext X72) rfl (by simp only [Fm.size]; omega)).mono ?_)
          rintro u1 w75 ⟨x75, hu1⟩
          refine iFld (j := 0) hu1 rfl (Fm.size_pos _) (by decide) (kind_fst hu1).1 (iNe ?_)
          exact hJ _ x75
        intro _
        simp only [gx]
        refine iCndF rfl ?_
        have X74 := X72.trans x74
        refine iRest hs X74 hil (by omega) fun vr w82 x82 hr => ?_
        have X82 := X74.trans x82
        refine iCall ((ok_spec_l02Left (f := .imp (.imp x y) z) (ha.ext X82) rfl (by simp only [Fm.size]; omega)).mono ?_)
        rintro ux w83 ⟨x83, hux⟩
        refine iCall ((ok_spec_l02Right (f := .imp (.imp x y) z) (ha.ext (X82.trans x83)) rfl (by simp only [Fm.size]; omega)).mono ?_)
        rintro uz w84 ⟨x84, huz⟩
        have y84 := x83.trans x84
        have X84 := X82.trans y84
        have hux : FmS w84 ux (.imp x y) := hux.ext x84
        have hr84 := hr.ext y84
        refine iJnB (vF (withF (restF fs i) [.imp y z, x]) y && vF (withF (restF fs i) [z]) c) w84 (fun J hJ => ?_) (fun w86 x86 => ?_)
        · refine iCall ((ok_spec_l02Right (f := .imp x y) hux rfl (by simp only [Fm.size]; omega)).mono ?_)
          rintro u1 w87 ⟨x87, hu1⟩
          refine iCall ((ok_spec_l02Pair (k := 4) (c := .imp y z) rfl rfl hu1 (huz.ext x87) (by simp only [Fm.size]; omega)).mono ?_)
          rintro u2 w88 ⟨x88, hu2⟩
          refine iCall ((ok_spec_l02Left (f := .imp x y) (hux.ext (x87.trans x88)) rfl (by simp only [Fm.size]; omega)).mono ?_)
          rintro u3 w89 ⟨x89, hu3⟩
          refine iBs2 rfl hu2.cell hu3.cellOk' fun bb w90 hbb x90 hB => ?_
          have Y := (x87.trans x88).trans (x89.trans x90)
          refine iCall ((goW hil (hr84.ext Y) (FsR.blk2 hB (hu2.sl.ext (x89.trans x90)) (hu3.ext x90)) (by simp only [List.mem_cons, List.not_mem_nil, or_false]; rintro x (rfl | rfl) <;> (try simp only [Fm.size]) <;> omega) (by simp)).mono ?_)
          rintro u4 w91 ⟨x91, hr91⟩
          have Y91 := Y.trans x91
          refine iCall ((ok_spec_l02Right (f := .imp x y) (hux.ext Y91) rfl (by simp only [Fm.size]; omega)).mono ?_)
          rintro u5 w92 ⟨x92, hu5⟩
          refine iRet (IH l1 (hr91.ext x92) hu5) fun w93 x93 => ?_
          have Y93 := (Y91.trans x92).trans x93
          refine iCnd (fun hT => ?_) (fun hT => ?_)
          · rw [hT, Bool.true_and] at hJ
            refine iBs1 rfl huz.cellOk' fun bb w94 hbb x94 hB2 => ?_
            have Y94 := Y93.trans x94
            refine iCall ((goW hil (hr84.ext Y94) (FsR.blk1 hB2 (huz.ext Y94)) (by simp only [List.mem_singleton]; rintro x rfl; omega) (by simp)).mono ?_)
            rintro u6 w95 ⟨x95, hr95⟩
            refine iRet (IH l2 hr95 (hc.ext ((X84.trans Y94).trans x95))) fun w96 x96 => hJ _ ((Y94.trans x95).trans x96)
          · rw [hT, Bool.false_and] at hJ
            exact hJ _ Y93
        intro _
        simp only [gx]
        refine iCnd (fun hT => ?_) (fun hT => ?_)
        · rw [Bool.and_eq_true, vF_true, vF_true] at hT
          exact ⟨by rw [vF_true.2 ((k2 (k1.1 hT.1)).1 hT.2)], X84.trans x86⟩
        · refine iAdd (by omega) (cont (fun x' y' z' e' hV => ?_) _ (X84.trans x86))
          rw [e] at e'
          cases e'
          rw [vF_true.2 hV.1, vF_true.2 hV.2] at hT
          cases hT
      · refine iJnB true w72 (fun J hJ => ?_) (fun w74 x74 => ?_)
        · refine iFld (j := 0) (ha.ext X72) rfl (Fm.size_pos _) (by decide) kd ?_
          refine iNe (iCndP (fun _ => hJ _ (Ext.refl _)) (fun hk4 => ?_))
          obtain ⟨x, z, e⟩ : ∃ x z, fs[i] = .imp x z := by
            cases e : fs[i] <;> rw [e] at hk4 <;> simp [Fm.kind] at hk4
            exact ⟨_, _, rfl⟩
          refine iCall ((ok_spec_l02Left (f := fs[i]) (g := x) (gs := [z]) (ha.ext X72) (by rw [e]; rfl) (by omega)).mono ?_)
          rintro u1 w75 ⟨x75, hu1⟩
          refine iFld (j := 0) hu1 rfl (Fm.size_pos _) (by decide) (kind_fst hu1).1 (iNe ?_)
          rw [decide_eq_true (p := ¬ ((x.kind : Int) = 4)) (fun hk5 => ?_)]
          · exact hJ _ x75
          · cases x <;> simp [Fm.kind] at hk5
            exact hnest ⟨_, _, _, e⟩
        intro _
        simp only [gx]
        refine iCndT rfl (iAdd (by omega) (cont (fun x y z e => absurd ⟨x, y, z, e⟩ hnest) _ (X72.trans x74)))
    · refine ⟨?_, X72⟩
      rw [vF_false.2 (stuckF h hb.1 hin hr2 hor fun j hj x y z e => hno j hj (by omega) x y z e)]
end Go.Proofs.YtapdkkijoflcpaaGreatDoor

/- Contracts: what can be claimed; OpenClaims in the program and the reference. Conditions: none. -/
namespace Go.Vc
/-- The nodes of a formula in order: kinds and signs. -/
def Fm.ks : Fm → List (Nat × Nat)
  | .var v => [(0, v)]
  | .fls => [(1, 0)]
  | .and a b => (2, 0) :: (a.ks ++ b.ks)
  | .or a b => (3, 0) :: (a.ks ++ b.ks)
  | .imp a b => (4, 0) :: (a.ks ++ b.ks)
  | .box a => (5, 0) :: a.ks
  | .dia a => (6, 0) :: a.ks
def nds (l : List (Nat × Nat)) : List Value := l.flatMap fun p => nd p.1 p.2
theorem nds_cons (p : Nat × Nat) (l : List (Nat × Nat)) : nds (p :: l) = nd p.1 p.2 ++ nds l := by simp [nds]
theorem nds_app (l m : List (Nat × Nat)) : nds (l ++ m) = nds l ++ nds m := by simp [nds]
theorem Fm.cells_ks : ∀ f : Fm, f.cells = nds f.ks
  | .var v => rfl
  | .fls => rfl
  | .and a b => by rw [Fm.ks, nds_cons, nds_app, ← a.cells_ks, ← b.cells_ks]; simp [Fm.cells]
  | .or a b => by rw [Fm.ks, nds_cons, nds_app, ← a.cells_ks, ← b.cells_ks]; simp [Fm.cells]
  | .imp a b => by rw [Fm.ks, nds_cons, nds_app, ← a.cells_ks, ← b.cells_ks]; simp [Fm.cells]
  | .box a => by rw [Fm.ks, nds_cons, ← a.cells_ks]; simp [Fm.cells]
  | .dia a => by rw [Fm.ks, nds_cons, ← a.cells_ks]; simp [Fm.cells]
theorem Fm.ks_len : ∀ f : Fm, f.ks.length = f.size
  | .var _ => rfl
  | .fls => rfl
  | .and a b => by simp only [Fm.ks, Fm.size, List.length_cons, List.length_append, a.ks_len, b.ks_len]; omega
  | .or a b => by simp only [Fm.ks, Fm.size, List.length_cons, List.length_append, a.ks_len, b.ks_len]; omega
  | .imp a b => by simp only [Fm.ks, Fm.size, List.length_cons, List.length_append, a.ks_len, b.ks_len]; omega
  | .box a => by simp only [Fm.ks, Fm.size, List.length_cons, a.ks_len]; omega
  | .dia a => by simp only [Fm.ks, Fm.size, List.length_cons, a.ks_len]; omega
theorem nds_at : ∀ {l : List (Nat × Nat)} {i : Nat} (h : i < l.length), (nds l)[i * 2 + 0]? = some (.int .i64 (l[i].1 : Int)) ∧ (nds l)[i * 2 + 1]? = some (.int .i64 (l[i].2 : Int))
  | [], _, h => by simp at h
  | p :: l, 0, _ => ⟨rfl, rfl⟩
  | p :: l, i + 1, h => by
    have := nds_at (l := l) (i := i) (by simpa using h)
    have e : ∀ f, (nds (p :: l))[(i + 1) * 2 + f]? = (nds l)[i * 2 + f]? := fun f => by
      rw [nds_cons, List.getElem?_append_right (by simp [nd]; omega)]
      congr 1
      simp [nd]; omega
    rw [e, e]
    simpa using this
def modal (p : Nat × Nat) : Bool := decide (p.1 = 5) || decide (p.1 = 6)
theorem Fm.plain_ks : ∀ f : Fm, f.ks.any modal = !f.plain
  | .var _ => rfl
  | .fls => rfl
  | .and a b => by simp only [Fm.ks, List.any_cons, List.any_append, a.plain_ks, b.plain_ks, Fm.plain]; simp [modal]
  | .or a b => by simp only [Fm.ks, List.any_cons, List.any_append, a.plain_ks, b.plain_ks, Fm.plain]; simp [modal]
  | .imp a b => by simp only [Fm.ks, List.any_cons, List.any_append, a.plain_ks, b.plain_ks, Fm.plain]; simp [modal]
  | .box a => by simp only [Fm.ks, List.any_cons, Fm.plain]; simp [modal]
  | .dia a => by simp only [Fm.ks, List.any_cons, Fm.plain]; simp [modal]
theorem any_get {α : Type} {l : List α} {p : α → Bool} {i : Nat} (hi : i < l.length) (h : p l[i] = true) : l.any p = true := List.any_eq_true.2 ⟨l[i], List.getElem_mem _, h⟩
theorem any_not {α : Type} {l : List α} {p : α → Bool} (h : ∀ i (hi : i < l.length), p l[i] = false) : l.any p = false := by
  rw [List.any_eq_false]
  intro x hx
  obtain ⟨i, hi, rfl⟩ := List.getElem_of_mem hx
  rw [h i hi]; exact Bool.false_ne_true
/-- What holds, said by either search. -/
theorem vB_vF {f : Fm} (h : f.good) : vB [] f.body = vF [] f := Bool.eq_iff_iff.2 (vB_true.trans ((by unfold VT; rw [fT_body h]; exact Iff.rfl : VT [] f.body ↔ Vld [] f).trans vF_true.symm))
noncomputable def claimB (t : Str) : Bool := (fT t).plain && (decide ((fT t).size ≤ 20) && vF [] (fT t))
theorem w2_small {f : Fm} (hp : f.plain = true) (hs : f.size ≤ 20) : f.w2 ≤ 1099511627776 := by
  have := (Fm.wt_size hp).2
  have h2 : f.wt ≤ 40 := by omega
  have := Nat.pow_le_pow_right (n := 2) (by omega) h2
  simpa [Fm.w2] using this
end Go.Vc
namespace Go.Proofs.YtapdkkijoflcpaaGreatDoor
open Go.Vc
theorem ok_impl_isModal (k : Nat) (w : World) : Ret Tryz.prog f_impl_isModal #[.int .i64 (k : Int)] w (.bool (decide (k = 5) || decide (k = 6))) := by
  apply c_impl_isModal; unfold S_impl_isModal
  refine iJnB (decide (k = 5) || decide (k = 6)) w (fun J hJ => ?_) (fun w2 x2 => fun _ => ⟨by first | trivial | rfl, x2⟩)
  refine iEq (iCndP (fun h => ?_) (fun h => ?_))
  · rw [decide_eq_true (show k = 5 by omega), Bool.true_or] at hJ
    exact hJ _ (Ext.refl _)
  · rw [decide_eq_false (show ¬ k = 5 by omega), Bool.false_or] at hJ
    refine iEq ?_
    rw [show decide ((k : Int) = 6) = decide (k = 6) from decide_eq_decide.2 (by omega)]
    exact hJ _ (Ext.refl _)
theorem ok_impl_isPlain {v : Value} {f : Fm} {w : World} (hs : FmS w v f) : Ret Tryz.prog f_impl_isPlain #[v] w (.bool f.plain) := by
  apply c_impl_isPlain; unfold S_impl_isPlain
  have hln := hs.len
  have hkl := f.ks_len
  refine iRet (v := .bool (f.ks.any modal)) ?_ fun w1 x1 => iNot ⟨by rw [f.plain_ks, Bool.not_not], x1⟩
  apply c_slices_ContainsFunc_Simpl_Node_impl_Node; unfold S_slices_ContainsFunc_Simpl_Node_impl_Node
  refine iCall (Cal.mono (R := fun r w' => Ext w w' ∧ ∃ z : Int, r = .int .i64 z ∧ (decide (0 ≤ z) = f.ks.any modal)) ?_ ?_)
  · apply c_slices_IndexFunc_Simpl_Node_impl_Node; unfold S_slices_IndexFunc_Simpl_Node_impl_Node
    refine iLenK hs ?_
    refine iLp (fun i : Nat => [.int .i64 (i : Int)]) (fun i w' => i ≤ f.size ∧ Ext w w' ∧ ∀ j (hj : j < f.ks.length), j < i → modal f.ks[j] = false) (fun i => f.size - i) 0 rfl ⟨Nat.zero_le _, Ext.refl _, fun j hj h => by omega⟩ ?_
    rintro i w2 Kn ⟨hi, h2, hno⟩ hKn
    intro _
    simp only [gx]
    refine iLt ?_
    refine iCndP (fun h => ?_) (fun h => ?_)
    · have hil : i < f.ks.length := by omega
      have hat := nds_at hil
      rw [← f.cells_ks] at hat
      refine iLdK (cs := #[.int .i64 (f.ks[i].1 : Int), .int .i64 (f.ks[i].2 : Int)]) (hs.ext h2) rfl (by omega) rfl (fun j hj => ?_) ?_
      · rcases j with _ | _ | j
        · exact hat.1
        · exact hat.2
        · omega
      refine iRet (v := .bool (modal f.ks[i])) ?_ fun w3 x3 => ?_
      · apply c_impl_isPlain_1; unfold S_impl_isPlain_1
        refine iNew2 fun q w3 hq x3 hB => ?_
        refine iFa (iLdB hB rfl ?_)
        refine iRet (ok_impl_isModal _ _) fun w4 x4 => ⟨rfl, x3.trans x4⟩
      · refine iCnd (fun h3 => ?_) (fun h3 => ?_)
        · exact ⟨h2.trans x3, _, rfl, by rw [any_get hil h3]; simp⟩
        · refine iAdd (by omega) ?_
          refine hKn (i + 1) _ ⟨by omega, h2.trans x3, fun j hj hji => ?_⟩ (by omega)
          by_cases e : j = i
          · subst e; exact h3
          · exact hno j hj (by omega)
    · exact ⟨h2, -1, rfl, by rw [any_not fun j hj => hno j hj (by omega)]; rfl⟩
  · rintro r w1 ⟨h1, z, rfl, hz⟩
    refine iLe ?_
    rw [hz]
    exact ⟨by first | trivial | rfl, h1⟩
theorem ok_impl_haveSmall1 {v va : Value} {f : Fm} {w : World} (hs : Sl w v [va]) (ha : FmS w va f) : Ret Tryz.prog f_impl_haveSmall #[v] w (.bool (decide (f.size ≤ 20))) := by
  apply c_impl_haveSmall; unfold S_impl_haveSmall
  refine iRet (v := .bool (decide (20 < f.size))) ?_ fun w1 x1 => iNot ⟨by congr 1; rw [← decide_not]; exact decide_eq_decide.2 (by omega), x1⟩
  apply c_slices_ContainsFunc_SSimpl_Node_Simpl_Node; unfold S_slices_ContainsFunc_SSimpl_Node_Simpl_Node
  refine iCall (Cal.mono (R := fun r w' => Ext w w' ∧ ∃ z : Int, r = .int .i64 z ∧ (decide (0 ≤ z) = decide (20 < f.size))) ?_ ?_)
  · apply c_slices_IndexFunc_SSimpl_Node_Simpl_Node; unfold S_slices_IndexFunc_SSimpl_Node_Simpl_Node
    refine iLenS hs ?_
    refine iLp (fun i : Nat => [.int .i64 (i : Int)]) (fun i w' => i ≤ 1 ∧ Ext w w' ∧ (i = 1 → ¬ 20 < f.size)) (fun i => 1 - i) 0 rfl ⟨Nat.zero_le _, Ext.refl _, fun h => by omega⟩ ?_
    rintro i w2 Kn ⟨hi, h2, hno⟩ hKn
    intro _
    simp only [gx]
    refine iLt ?_
    refine iCndP (fun h => ?_) (fun h => ?_)
    · have hi0 : i = 0 := by simp at h; omega
      subst hi0
      refine iIa (j := 0) (hs.ext h2) (by omega) (by simp) fun p hp => ?_
      have hp : w2.cell? p = some va := hp
      refine iLd hp ?_
      refine iRet (v := .bool (decide (20 < f.size))) ?_ fun w3 x3 => ?_
      · apply c_impl_haveSmall_1; unfold S_impl_haveSmall_1
        refine iLenK (ha.ext h2) (iLt ⟨by congr 1; exact decide_eq_decide.2 (by omega), Ext.refl _⟩)
      · refine iCnd (fun h3 => ?_) (fun h3 => ?_)
        · exact ⟨h2.trans x3, _, rfl, by rw [h3]; rfl⟩
        · refine iAdd (by omega) ?_
          exact hKn 1 _ ⟨Nat.le_refl _, h2.trans x3, fun _ => of_decide_eq_false h3⟩ (by omega)
    · have hi1 : i = 1 := by simp at h; omega
      exact ⟨h2, -1, rfl, by rw [decide_eq_false (hno hi1)]; rfl⟩
  · rintro r w1 ⟨h1, z, rfl, hz⟩
    refine iLe ?_
    rw [hz]
    exact ⟨by first | trivial | rfl, h1⟩
theorem ok_impl_isTheorem {v : Value} {f : Fm} {w : World} (hs : FmS w v f) (hg : f.good) (hp : f.plain = true) (hn : f.size ≤ 20) : Ret Tryz.prog f_impl_isTheorem #[v] w (.bool (vF [] f)) := by
  apply c_impl_isTheorem; unfold S_impl_isTheorem
  refine iRet (ok_impl_text hs hg (by omega)) fun w1 x1 => ?_
  have h : SqT (setT []) f.body := ⟨fun t ht => by simp [setT] at ht, GT.of hg hp, by
    have := w2_small hp hn
    rw [wT_body hg]
    show 0 + _ ≤ _
    omega⟩
  refine iRet (ok_impl_provable (L := []) (Ow.nil _ _ _) h (by simp)) fun w2 x2 => ⟨?_, x1.trans x2⟩
  rw [show setT [] = [] from rfl, vB_vF hg]
theorem ok_impl_isClaimable {t : Str} (hg : goodT t = true) (w : World) : Ret Tryz.prog f_impl_isClaimable #[sv t] w (.bool (claimB t)) := by
  apply c_impl_isClaimable; unfold S_impl_isClaimable
  have hpc : pCode t = 0 := by unfold goodT at hg; rw [Bool.and_eq_true, decide_eq_true_eq] at hg; exact hg.1
  refine iCall ((ok_impl_parsed t w).mono ?_)
  rintro v w1 ⟨x1, hv, -⟩
  have hv : FmW w.heap.size w1 v (fT t) := hv hpc
  refine iJnB (claimB t) w1 (fun J hJ => ?_) (fun w2 x2 => fun _ => ⟨by first | trivial | rfl, x1.trans x2⟩)
  refine iRet (ok_impl_isPlain hv.sl) fun w4 x4 => ?_
  unfold claimB at hJ
  refine iCnd (fun hp => ?_) (fun hp => ?_)
  · rw [hp, Bool.true_and] at hJ
    refine iBs1 rfl hv.cell fun b w5 hb x5 hB => ?_
    have y := x4.trans x5
    refine iRet (ok_impl_haveSmall1 (Sl.ofBlk (n := 1) hB rfl (by decide)) (hv.sl.ext y)) fun w6 x6 => ?_
    refine iCndP (fun hs => ?_) (fun hs => ?_)
    · rw [decide_eq_true hs, Bool.true_and] at hJ
      refine iRet (ok_impl_isTheorem (hv.sl.ext (y.trans x6)) (rd_good t) hp hs) fun w7 x7 => hJ _ ((y.trans x6).trans x7)
    · rw [decide_eq_false hs, Bool.false_and] at hJ
      exact hJ _ (y.trans x6)
  · rw [hp, Bool.false_and] at hJ
    exact hJ _ x4
theorem ok_spec_l02Plain {v : Value} {f : Fm} {w : World} (hs : FmS w v f) : Ret Tryz.prog f_spec_l02Plain #[v] w (.bool f.plain) := by
  apply c_spec_l02Plain; unfold S_spec_l02Plain
  have hln := hs.len
  have hkl := f.ks_len
  refine iLp (fun i : Nat => [.int .i64 (i : Int)]) (fun i w' => i ≤ f.size ∧ Ext w w' ∧ ∀ j (hj : j < f.ks.length), j < i → modal f.ks[j] = false) (fun i => f.size - i) 0 rfl ⟨Nat.zero_le _, Ext.refl _, fun j hj h => by omega⟩ ?_
  rintro i w2 Kn ⟨hi, h2, hno⟩ hKn
  intro _
  simp only [gx]
  refine iLenK (hs.ext h2) ?_
  refine iLt ?_
  refine iCndP (fun h => ?_) (fun h => ?_)
  · have hil : i < f.ks.length := by omega
    have hat := nds_at hil
    rw [← f.cells_ks] at hat
    refine iJnB (modal f.ks[i]) w2 (fun J hJ => ?_) (fun w4 x4 => ?_)
    · refine iFld (j := i) (hs.ext h2) rfl (by omega) (by decide) hat.1 ?_
      unfold modal at hJ
      refine iEq (iCndP (fun h5 => ?_) (fun h5 => ?_))
      · rw [decide_eq_true (show f.ks[i].1 = 5 by omega), Bool.true_or] at hJ
        exact hJ _ (Ext.refl _)
      · rw [decide_eq_false (show ¬ f.ks[i].1 = 5 by omega), Bool.false_or] at hJ
        refine iFld (j := i) (hs.ext h2) rfl (by omega) (by decide) hat.1 ?_
        refine iEq ?_
        rw [show decide ((f.ks[i].1 : Int) = 6) = decide (f.ks[i].1 = 6) from decide_eq_decide.2 (by omega)]
        exact hJ _ (Ext.refl _)
    · intro _
      simp only [gx]
      refine iCnd (fun h3 => ?_) (fun h3 => ?_)
      · have hp := f.plain_ks
        rw [any_get hil h3] at hp
        exact ⟨by rw [show f.plain = false by simpa using hp.symm], h2.trans x4⟩
      · refine iAdd (by omega) ?_
        refine hKn (i + 1) _ ⟨by omega, h2.trans x4, fun j hj hji => ?_⟩ (by omega)
        by_cases e : j = i
        · subst e; exact h3
        · exact hno j hj (by omega)
  · have hp := f.plain_ks
    rw [any_not fun j hj => hno j hj (by omega)] at hp
    exact ⟨by rw [show f.plain = true by simpa using hp.symm], h2⟩
end Go.Proofs.YtapdkkijoflcpaaGreatDoor

/- Contracts: texts split at a byte (strings.Split, l01Split). Conditions: none. -/
namespace Go.Vc
/-- The pieces of a text between a byte. -/
def splitT (c : UInt8) : Str → List Str
  | [] => [[]]
  | x :: t => if x = c then [] :: splitT c t else (x :: (splitT c t).head!) :: (splitT c t).tail
theorem splitT_miss {c : UInt8} : ∀ {t : Str}, (∀ x ∈ t, x ≠ c) → splitT c t = [t]
  | [], _ => rfl
  | x :: t, h => by
    rw [splitT, if_neg (h x (by simp)), splitT_miss (fun y hy => h y (by simp [hy]))]; rfl
theorem splitT_hit {c : UInt8} {r : Str} : ∀ {a : Str}, (∀ x ∈ a, x ≠ c) → splitT c (a ++ c :: r) = a :: splitT c r
  | [], _ => by rw [List.nil_append, splitT, if_pos rfl]
  | x :: a, h => by
    rw [List.cons_append, splitT, if_neg (h x (by simp)), splitT_hit (fun y hy => h y (by simp [hy]))]; rfl
theorem count_miss {c : UInt8} {t : Str} (h : ∀ x ∈ t, x ≠ c) : t.count c = 0 := List.count_eq_zero.2 fun hm => h c hm rfl
theorem count_hit {c : UInt8} {a r : Str} (h : ∀ x ∈ a, x ≠ c) : (a ++ c :: r).count c = r.count c + 1 := by
  rw [List.count_append, count_miss h, List.count_cons_self]; omega
/-- Every text: without the byte, or a piece, the byte and the rest. -/
theorem split_ind (c : UInt8) {Q : Str → Prop} (h0 : ∀ t, (∀ x ∈ t, x ≠ c) → Q t) (h1 : ∀ a r, (∀ x ∈ a, x ≠ c) → Q r → Q (a ++ c :: r)) : ∀ t, Q t := by
  suffices H : ∀ n, ∀ t : Str, t.length ≤ n → Q t from fun t => H t.length t (Nat.le_refl _)
  intro n
  induction n with
  | zero => intro t ht; exact h0 t (by have : t = [] := List.length_eq_zero_iff.1 (by omega); subst this; simp)
  | succ n ih =>
    intro t ht
    rcases indexByte_cases t c with ⟨h, _⟩ | ⟨a, r, rfl, h, _⟩
    · exact h0 t h
    · refine h1 a r h (ih r ?_)
      rw [List.length_append, List.length_cons] at ht
      omega
theorem splitT_len (c : UInt8) (t : Str) : (splitT c t).length = t.count c + 1 := by
  induction t using split_ind c with
  | h0 t h => rw [splitT_miss h, count_miss h]; rfl
  | h1 a r h ih => rw [splitT_hit h, count_hit h, List.length_cons, ih]
theorem splitT_mem (c : UInt8) (t : Str) : ∀ s ∈ splitT c t, s.length ≤ t.length := by
  induction t using split_ind c with
  | h0 t h => rw [splitT_miss h]; intro s hs; rw [List.mem_singleton.1 hs]; exact Nat.le_refl _
  | h1 a r h ih =>
    rw [splitT_hit h]
    intro s hs
    rw [List.length_append, List.length_cons]
    rcases List.mem_cons.1 hs with rfl | hs
    · omega
    · have := ih s hs; omega
theorem drop_hit {c : UInt8} {t : Str} {p i : Nat} (hp : p ≤ i) (hi : i < t.length) (hc : t.getD i 0 = c) : t.drop p = (t.drop p).take (i - p) ++ c :: t.drop (i + 1) := by
  have h1 := List.take_append_drop (i - p) (t.drop p)
  rw [List.drop_drop, show p + (i - p) = i by omega, List.drop_eq_getElem_cons hi] at h1
  have : t[i] = c := by rw [← hc]; simp [List.getD_eq_getElem?_getD, hi]
  rw [this] at h1
  exact h1.symm
theorem take_mem {t : Str} {p i : Nat} {Q : UInt8 → Prop} (h : ∀ j, p ≤ j → j < i → Q (t.getD j 0)) : ∀ x ∈ (t.drop p).take (i - p), Q x := by
  intro x hx
  obtain ⟨j, hj, rfl⟩ := List.getElem_of_mem hx
  rw [List.length_take, List.length_drop] at hj
  have := h (p + j) (by omega) (by omega)
  rw [List.getElem_take, List.getElem_drop]
  rwa [List.getD_eq_getElem?_getD, List.getElem?_eq_getElem (by omega), Option.getD_some] at this
end Go.Vc
namespace Go.Proofs.YtapdkkijoflcpaaGreatDoor
open Go.Vc
theorem ok_spec_l01Split {t : Str} (c : UInt8) {z : Int} (hz : z = ((c.toNat : Nat) : Int)) (ht : t.length ≤ 4194304) (w : World) : Cal Tryz.prog f_spec_l01Split #[sv t, .int .u8 z] w fun r w' => Ext w w' ∧ Ow w.heap.size t_string w' r (strs (splitT c t)) := by
  subst hz
  apply c_spec_l01Split; unfold S_spec_l01Split
  refine iBs0 fun v0 w1 hw1 x1 ho1 => ?_
  refine iLp (fun s : Value × Nat × Nat => [s.1, .int .i64 (s.2.1 : Int), .int .i64 (s.2.2 : Int)]) (fun s w' => s.2.1 ≤ s.2.2 ∧ s.2.2 ≤ t.length ∧ Ext w w' ∧ ∃ L, Ow w.heap.size t_string w' s.1 (strs L) ∧ L.length ≤ s.2.1 ∧ splitT c t = L ++ splitT c (t.drop s.2.1) ∧ ∀ j, s.2.1 ≤ j → j < s.2.2 → t.getD j 0 ≠ c) (fun s => t.length - s.2.2) (v0, 0, 0) rfl
    ⟨Nat.le_refl _, Nat.zero_le _, x1, [], ho1, Nat.le_refl _, rfl, fun j h1 h2 => absurd h2 (Nat.not_lt_zero j)⟩ ?_
  rintro ⟨u, p, i⟩ w2 Kn ⟨hpi, hi, x2, L, ho, hL, hsp, hno⟩ hKn
  have hpi : p ≤ i := hpi
  have hi : i ≤ t.length := hi
  have ho : Ow w.heap.size t_string w2 u (strs L) := ho
  have hL : L.length ≤ p := hL
  have hsp : splitT c t = L ++ splitT c (t.drop p) := hsp
  have hno : ∀ j, p ≤ j → j < i → t.getD j 0 ≠ c := hno
  have hll := strs_len L
  intro _
  simp only [gx]
  refine iLenT (iLt ?_)
  refine iCndP (fun h => ?_) (fun h => ?_)
  · have hil : i < t.length := by omega
    refine iIs hil ?_
    refine iEq (iCndP (fun hc => ?_) (fun hc => ?_))
    · have hc : t.getD i 0 = c := UInt8.toNat_inj.1 (by exact_mod_cast hc)
      refine iTxSub hpi (by omega) ?_
      refine iApp1 u_Sstring i_Sstring rfl ho rfl (by omega) (by omega) x2.size fun u' w3 ho3 hg3 => ?_
      refine iAdd (by omega) ?_
      refine iAdd (by omega) ?_
      rw [strs_snoc] at ho3
      refine hKn (u', i + 1, i + 1) _ ⟨Nat.le_refl _, hil, x2.grown hg3 fun b hb => (ho.blk b hb).1, _, ho3, ?_, ?_, fun j h1 h2 => ?_⟩ (by show t.length - (i + 1) < t.length - i; omega)
      · show (L ++ [(t.drop p).take (i - p)]).length ≤ i + 1
        rw [List.length_append, List.length_singleton]; omega
      · show splitT c t = L ++ [(t.drop p).take (i - p)] ++ splitT c (t.drop (i + 1))
        have e := splitT_hit (r := t.drop (i + 1)) (take_mem (Q := fun x => x ≠ c) hno)
        rw [← drop_hit hpi hil hc] at e
        rw [hsp, e]
        simp
      · have h1 : i + 1 ≤ j := h1
        have h2 : j < i + 1 := h2
        omega
    · refine iAdd (by omega) ?_
      refine hKn (u, p, i + 1) _ ⟨by show p ≤ i + 1; omega, hil, x2, L, ho, hL, hsp, fun j h1 h2 => ?_⟩ (by show t.length - (i + 1) < t.length - i; omega)
      have h2 : j < i + 1 := h2
      by_cases e : j = i
      · subst e
        intro e2
        exact hc (by rw [e2])
      · exact hno j h1 (by omega)
  · have hil : i = t.length := by omega
    refine iTxFrom (by omega) ?_
    refine iApp1 u_Sstring i_Sstring rfl ho rfl (by omega) (by omega) x2.size fun u' w3 ho3 hg3 => ?_
    rw [strs_snoc] at ho3
    refine ⟨x2.grown hg3 fun b hb => (ho.blk b hb).1, ?_⟩
    have hm := take_mem (Q := fun x => x ≠ c) hno
    rw [List.take_of_length_le (by rw [List.length_drop]; omega)] at hm
    rw [hsp, splitT_miss hm]
    exact ho3
theorem ok_strings_Count1 (t : Str) (c : UInt8) (w : World) : Ret Tryz.prog f_strings_Count #[sv t, sv [c]] w (.int .i64 ((t.count c : Nat) : Int)) := by
  refine ⟨⟨_, Tryz.func87, by kernel_rfl, by kernel_rfl⟩, ?_⟩
  refine (Any.strings_Count_one lays138 ⟨t.toArray⟩ c w).mono ?_
  rintro e w' ⟨rfl, rfl⟩
  exact ⟨_, rfl, rfl, Ext.refl _⟩
theorem ok_strings_Index1 (t : Str) (c : UInt8) (w : World) : Ret Tryz.prog f_strings_Index #[sv t, sv [c]] w (.int .i64 (Lib.indexByte t c)) := by
  apply c_strings_Index; unfold S_strings_Index
  exact iRet (ok_Index_one t c w) fun w1 x1 => ⟨by first | trivial | rfl, x1⟩
theorem iMinI {a b : Int} {K : Value → Prop} (h : K (.int .i64 (min a b))) : xMin (.int .i64 a) (.int .i64 b) K := by
  refine ⟨_, _, _, _, rfl, rfl, ?_⟩
  have e : (if b < a then b else a) = min a b := by split <;> omega
  rw [e]; exact h
theorem ok_strings_Split1 {t : Str} (c : UInt8) (ht : t.length ≤ 4194304) (w : World) : Cal Tryz.prog f_strings_Split #[sv t, sv [c]] w fun r w' => Ext w w' ∧ Ow w.heap.size t_string w' r (strs (splitT c t)) := by
  apply c_strings_Split; unfold S_strings_Split
  refine iCall (Cal.mono (R := fun r w' => Ext w w' ∧ Ow w.heap.size t_string w' r (strs (splitT c t))) ?_ fun r w' h => h)
  apply c_strings_genSplit; unfold S_strings_genSplit
  have hsl := splitT_len c t
  have hcl := List.count_le_length (a := c) (l := t)
  refine iEq (iCndF rfl ?_)
  refine iEqT (b := []) (iCndF (by simp) ?_)
  refine iLt ?_
  refine iJnX (fun xs w' => xs = [.int .i64 ((t.count c + 1 : Nat) : Int)] ∧ Ext w w') (fun J hJ => ?_) ?_
  · refine iCndT rfl ?_
    refine iRet (ok_strings_Count1 t c w) fun w1 x1 => ?_
    refine iAdd (by omega) (hJ _ _ ⟨?_, x1⟩)
    simp
  rintro xs w3 ⟨rfl, x3⟩
  intro _
  simp only [gx]
  refine iLenT (iAdd (by omega) (iMinI ?_))
  rw [show min ((t.count c + 1 : Nat) : Int) ((t.length : Int) + 1) = ((t.count c + 1 : Nat) : Int) by omega]
  refine iMk (z := sv []) (by omega) (by omega) rfl fun g w5 hg x5 hB => ?_
  refine iSub (by omega) ?_
  have X5 := x3.trans x5
  have s5 := x3.size
  have ho5 : Ow w.heap.size t_string w5 (.slice (some ⟨g, 0, none⟩) (t.count c + 1) (t.count c + 1)) (strs (List.replicate (t.count c + 1) [])) := by
    refine Ow.ofBlk (n := t.count c + 1) ?_ (by omega) (by simp [strs]) (by omega)
    simpa [strs] using hB
  refine iLp (fun s : Str × Nat => [sv s.1, .int .i64 (s.2 : Int)]) (fun s w' => s.2 ≤ t.count c ∧ s.1.length ≤ t.length ∧ ∃ M, Turn w.heap.size t_string sv (.slice (some ⟨g, 0, none⟩) (t.count c + 1) (t.count c + 1)) w5 w' M ∧ M.length = t.count c + 1 ∧ splitT c t = M.take s.2 ++ splitT c s.1) (fun s => s.1.length) (t, 0) rfl
    ⟨Nat.zero_le _, Nat.le_refl _, List.replicate (t.count c + 1) [], Turn.refl ho5, by simp, by simp⟩ ?_
  rintro ⟨r, i⟩ w7 Kn ⟨hi, hr, M, hT, hM, hsp⟩ hKn
  have hi : i ≤ t.count c := hi
  have hr : r.length ≤ t.length := hr
  have hsp : splitT c t = M.take i ++ splitT c r := hsp
  have X7 : Ext w w7 := X5.thenCh hT.ch fun b hb => by cases hb; exact (show w.heap.size ≤ g by omega)
  intro _
  simp only [gx]
  -- what both ends do: the rest goes into the row, whose first i + 1 places are handed back
  have fin : ∀ w8, Ext w7 w8 → (∀ x ∈ r, x ≠ c) → xIa 1 (.slice (some ⟨g, 0, none⟩) (t.count c + 1) (t.count c + 1)) (.int .i64 (i : Int)) fun v61 => xSt w8 v61 (sv r) fun w9 => xAdd .i64 (.int .i64 (i : Int)) (.int .i64 1) fun v64 => xSl 1 (.slice (some ⟨g, 0, none⟩) (t.count c + 1) (t.count c + 1)) none (some v64) fun v65 =>
      Ext w w9 ∧ Ow w.heap.size t_string w9 v65 (strs (splitT c t)) := fun w8 x8 hno => by
    have hT8 := hT.ext x8
    refine iIaOw hT8.ow (by omega) (by rw [List.length_map]; omega) fun b o hb _ _ hc hf hset => ?_
    refine iSt (hc.trans (List.getElem?_eq_getElem (by rw [List.length_map]; omega))) hf rfl ?_
    have hset := hset (sv r)
    rw [Int.toNat_natCast, ← List.map_set] at hset
    refine iAdd (by omega) ?_
    rw [show (i : Int) + 1 = ((i + 1 : Nat) : Int) by omega]
    refine iSlHead (k := i + 1) (by omega) (Nat.le_refl _) ?_
    have hl : (splitT c t).length = i + 1 := by rw [hsp, splitT_miss hno, List.length_append, List.length_take, List.length_singleton]; omega
    have hi2 : i = t.count c := by omega
    refine ⟨(X7.trans x8).thenCh ((Upd.setCell w8 b o _).ch (S := fun q => Value.ownBlock (.slice (some ⟨g, 0, none⟩) (t.count c + 1) (t.count c + 1)) = some q) hb) fun b hb => by cases hb; exact (show w.heap.size ≤ g by omega), ?_⟩
    have e2 : M.set i r = splitT c t := by
      rw [hsp, splitT_miss hno]
      apply List.ext_getElem
      · rw [List.length_set, List.length_append, List.length_take, List.length_singleton]; omega
      · intro j h1 h2
        rw [List.getElem_set]
        split
        · rename_i e; subst e
          rw [List.getElem_append_right (by rw [List.length_take]; omega)]
          simp
        · rw [List.getElem_append_left (by rw [List.length_take]; rw [List.length_set] at h1; omega), List.getElem_take]
    rw [← e2]
    have : i + 1 = t.count c + 1 := by omega
    rw [this]
    exact hset
  refine iLt (iCndP (fun h => ?_) (fun h => ?_))
  · refine iRet (ok_strings_Index1 r c w7) fun w8 x8 => ?_
    refine iLt ?_
    rcases indexByte_cases r c with ⟨hno, e⟩ | ⟨a, q, rfl, hno, e⟩
    · rw [e]
      exact iCndT rfl (fin w8 x8 hno)
    · rw [e]
      refine iCndF (by simp) ?_
      have hal : a.length ≤ (a ++ c :: q).length := by simp
      rw [List.length_append, List.length_cons] at hr
      refine iAdd (by omega) ?_
      rw [Int.add_zero]
      refine iTxTo hal ?_
      rw [List.take_left]
      have hT8 := hT.ext x8
      refine iIaOw hT8.ow (by omega) (by rw [List.length_map]; omega) fun b o hb _ _ hc hf hset => ?_
      refine iSt (hc.trans (List.getElem?_eq_getElem (by rw [List.length_map]; omega))) hf rfl ?_
      have hset := hset (sv a)
      rw [Int.toNat_natCast, ← List.map_set] at hset
      refine iLenT ?_
      refine iAdd (by simp; omega) ?_
      rw [show (a.length : Int) + (([c] : Str).length : Nat) = ((a.length + 1 : Nat) : Int) by simp]
      refine iTxFrom (by simp) ?_
      refine iAdd (by omega) ?_
      have e3 : (a ++ c :: q).drop (a.length + 1) = q := by rw [List.drop_append]; simp
      rw [e3]
      refine hKn (q, i + 1) _ ⟨by show i + 1 ≤ t.count c; omega, by show q.length ≤ t.length; omega, M.set i a, ⟨hset, hT8.ch.trans ((Upd.setCell w8 b o _).ch (S := fun q => Value.ownBlock (.slice (some ⟨g, 0, none⟩) (t.count c + 1) (t.count c + 1)) = some q) hb) fun _ e => .inl e⟩, by rw [List.length_set]; exact hM, ?_⟩ (by show q.length < (a ++ c :: q).length; simp; omega)
      show splitT c t = (M.set i a).take (i + 1) ++ splitT c q
      rw [hsp, splitT_hit hno, List.take_succ_eq_append_getElem (by rw [List.length_set]; omega), List.getElem_set_self, List.take_set_of_le (Nat.le_refl _)]
      simp
  · have hi2 : i = t.count c := by omega
    have hno : ∀ x ∈ r, x ≠ c := by
      have hl := congrArg List.length hsp
      rw [hsl, List.length_append, List.length_take, splitT_len] at hl
      have : r.count c = 0 := by omega
      intro x hx e
      subst e
      exact List.count_eq_zero.1 this hx
    exact fin w7 (Ext.refl _) hno
end Go.Proofs.YtapdkkijoflcpaaGreatDoor

/- Plain maths: journals: entries, lines, checks, and what the text of a journal reads as. No program in sight. Conditions: none. -/
namespace Go.Vc
/-- An entry. -/
structure Ent where
  kd : Int
  nm : Str
  fm : Str
def entB (e : Ent) : Bool := if e.kd = 1 then nameOk e.nm && goodT e.fm else if e.kd = 2 ∨ e.kd = 3 then nameOk e.nm && decide (e.fm = []) else false
/-- The place of a name. -/
def posI (L : List Itm) (n : Str) : Nat := (L.takeWhile fun x => ltS x.nm n).length
noncomputable def stepI (L : List Itm) (e : Ent) : Option (List Itm) :=
  if e.kd = 1 then (if hasI L e.nm then some (L.set (posI L e.nm) ⟨e.nm, e.fm, 0⟩) else if 12 ≤ L.length then none else some (L.take (posI L e.nm) ++ ⟨e.nm, e.fm, 0⟩ :: L.drop (posI L e.nm)))
  else if hasI L e.nm = false then none
  else if e.kd = 2 then some (L.take (posI L e.nm) ++ L.drop (posI L e.nm + 1))
  else if claimB (gt L (posI L e.nm)).fm then some (L.set (posI L e.nm) ⟨(gt L (posI L e.nm)).nm, (gt L (posI L e.nm)).fm, 1⟩) else none
/-- Items of a journal. -/
structure JI (L : List Itm) : Prop where
  len : L.length ≤ 12
  inc : L.Pairwise fun x y => ltS x.nm y.nm = true
  ok : ∀ x ∈ L, nameOk x.nm = true ∧ goodT x.fm = true ∧ (x.cl = 0 ∨ x.cl = 1) ∧ (x.cl = 1 → claimB x.fm = true)
theorem JI.nil : JI [] := ⟨by simp, List.Pairwise.nil, by simp⟩
theorem JI.incI {L : List Itm} (h : JI L) : IncI L := fun i j hij hj => by
  have := List.pairwise_iff_getElem.1 h.inc i j (by omega) hj hij
  rwa [gt_eq (show i < L.length by omega), gt_eq hj]
theorem pos_at {L : List Itm} {n : Str} {i : Nat} (hi : i ≤ L.length) (h1 : ∀ k, k < i → ltS (gt L k).nm n = true) (h2 : i < L.length → ltS (gt L i).nm n = false) : posI L n = i := by
  unfold posI
  induction L generalizing i with
  | nil => simp at hi; simp [hi]
  | cons x L ih =>
    cases i with
    | zero =>
      have h := h2 (by simp)
      have h : ltS x.nm n = false := h
      rw [List.takeWhile_cons, h]; rfl
    | succ i =>
      have h := h1 0 (by omega)
      have h : ltS x.nm n = true := h
      rw [List.takeWhile_cons, h, if_pos rfl, List.length_cons, ih (i := i) (by simpa using hi) (fun k hk => h1 (k + 1) (by omega)) (fun hk => h2 (by simpa using hk))]
theorem pos_le (L : List Itm) (n : Str) : posI L n ≤ L.length := (List.takeWhile_sublist _).length_le
theorem pos_lt {L : List Itm} {n : Str} {k : Nat} (hk : k < posI L n) : ltS (gt L k).nm n = true := by
  have hl := pos_le L n
  unfold posI at hk
  have hm : (L.takeWhile fun x => ltS x.nm n)[k] ∈ L.takeWhile fun x => ltS x.nm n := List.getElem_mem hk
  have := (List.all_takeWhile (p := fun x : Itm => ltS x.nm n) (l := L))
  rw [List.all_eq_true] at this
  have h1 := this _ hm
  have e : (L.takeWhile fun x => ltS x.nm n)[k] = L[k]'(by unfold posI at hl; omega) := (List.takeWhile_prefix _).getElem hk
  rw [e] at h1
  rw [gt_eq (by unfold posI at hl; omega)]
  exact h1
theorem pos_ge : ∀ {L : List Itm} {n : Str}, (h : posI L n < L.length) → ltS (gt L (posI L n)).nm n = false
  | [], _, h => by simp [posI] at h
  | x :: L, n, h => by
    unfold posI at h ⊢
    rw [List.takeWhile_cons] at h ⊢
    split
    · rename_i hx
      rw [if_pos hx] at h
      exact pos_ge (L := L) (n := n) (by unfold posI; simpa using h)
    · rename_i hx
      simpa [gt] using hx
theorem pos_has {L : List Itm} {n : Str} (hI : IncI L) (h : hasI L n = true) : posI L n < L.length ∧ (gt L (posI L n)).nm = n := by
  obtain ⟨i, hi, e⟩ := hasI_ex h
  have : posI L n = i := pos_at (by omega) (fun k hk => by rw [← e]; exact hI k i hk hi) (fun _ => by rw [e, ltS_irrefl])
  rw [this]
  exact ⟨hi, e⟩
theorem pos_hasnt {L : List Itm} {n : Str} (hI : IncI L) (h : hasI L n = false) : ∀ k, posI L n ≤ k → k < L.length → ltS n (gt L k).nm = true := by
  intro k hk hkl
  have hp : posI L n < L.length := by omega
  have h1 : ltS n (gt L (posI L n)).nm = true := by
    rcases ltS_total (gt L (posI L n)).nm n with h2 | h2 | h2
    · rw [pos_ge hp] at h2; cases h2
    · rw [hasI_at hp h2] at h; cases h
    · exact h2
  by_cases e : k = posI L n
  · rw [e]; exact h1
  · exact ltS_trans h1 (hI _ _ (by omega) hkl)
theorem JI.set {L : List Itm} (h : JI L) {i : Nat} {x : Itm} (hi : i < L.length) (hn : x.nm = (gt L i).nm) (hx : nameOk x.nm = true ∧ goodT x.fm = true ∧ (x.cl = 0 ∨ x.cl = 1) ∧ (x.cl = 1 → claimB x.fm = true)) : JI (L.set i x) := by
  refine ⟨by rw [List.length_set]; exact h.len, ?_, fun y hy => ?_⟩
  · rw [List.pairwise_iff_getElem]
    intro a b ha hb hab
    rw [List.length_set] at ha hb
    have h0 := List.pairwise_iff_getElem.1 h.inc a b ha hb hab
    rw [gt_eq hi] at hn
    rw [List.getElem_set, List.getElem_set]
    split
    · rename_i e; subst e
      rw [if_neg (by omega), hn]; exact h0
    · split
      · rename_i e; subst e
        rw [hn]; exact h0
      · exact h0
  · rcases List.mem_or_eq_of_mem_set hy with hy | rfl
    · exact h.ok y hy
    · exact hx
theorem stepI_JI {L L' : List Itm} {e : Ent} (h : JI L) (he : entB e = true) (hs : stepI L e = some L') : JI L' := by
  unfold stepI at hs
  unfold entB at he
  split at hs
  · rename_i h1
    rw [if_pos h1, Bool.and_eq_true] at he
    split at hs
    · rename_i h2
      cases hs
      obtain ⟨p1, p2⟩ := pos_has h.incI h2
      exact h.set p1 p2.symm ⟨he.1, he.2, .inl rfl, fun e => by cases e⟩
    · rename_i h2
      split at hs
      · cases hs
      · rename_i h3
        cases hs
        have h2 : hasI L e.nm = false := by simpa using h2
        have hpl := pos_le L e.nm
        refine ⟨?_, ?_, fun x hx => ?_⟩
        · rw [List.length_append, List.length_cons, List.length_take, List.length_drop]; omega
        · refine List.pairwise_append.2 ⟨h.inc.sublist (List.take_sublist _ _), List.pairwise_cons.2 ⟨fun y hy => ?_, h.inc.sublist (List.drop_sublist _ _)⟩, fun x hx y hy => ?_⟩
          · obtain ⟨j, hj, rfl⟩ := List.getElem_of_mem hy
            rw [List.length_drop] at hj
            rw [List.getElem_drop]
            have := pos_hasnt h.incI h2 (posI L e.nm + j) (by omega) (by omega)
            rwa [gt_eq (by omega)] at this
          · obtain ⟨i, hi, rfl⟩ := List.getElem_of_mem hx
            rw [List.length_take] at hi
            rw [List.getElem_take]
            have hlt := pos_lt (L := L) (n := e.nm) (k := i) (by omega)
            rw [gt_eq (by omega)] at hlt
            rcases List.mem_cons.1 hy with rfl | hy
            · exact hlt
            · obtain ⟨j, hj, rfl⟩ := List.getElem_of_mem hy
              rw [List.length_drop] at hj
              rw [List.getElem_drop]
              exact List.pairwise_iff_getElem.1 h.inc i (posI L e.nm + j) (by omega) (by omega) (by omega)
        · rcases List.mem_append.1 hx with hx | hx
          · exact h.ok x (List.mem_of_mem_take hx)
          · rcases List.mem_cons.1 hx with rfl | hx
            · exact ⟨he.1, he.2, .inl rfl, fun e => by cases e⟩
            · exact h.ok x (List.mem_of_mem_drop hx)
  · rename_i h1
    split at hs
    · cases hs
    · rename_i h2
      have h2 : hasI L e.nm = true := by simpa using h2
      obtain ⟨p1, p2⟩ := pos_has h.incI h2
      split at hs
      · cases hs
        have hsub : (L.take (posI L e.nm) ++ L.drop (posI L e.nm + 1)).Sublist L := by
          conv => rhs; rw [← List.take_append_drop (posI L e.nm) L]
          refine List.Sublist.append (List.Sublist.refl _) ?_
          rw [← List.drop_drop]
          exact List.drop_sublist _ _
        exact ⟨Nat.le_trans hsub.length_le h.len, h.inc.sublist hsub, fun x hx => h.ok x (hsub.subset hx)⟩
      · split at hs
        · rename_i h4
          cases hs
          have := h.ok (gt L (posI L e.nm)) (by rw [gt_eq p1]; exact List.getElem_mem _)
          exact h.set p1 rfl ⟨this.1, this.2.1, .inr rfl, fun _ => h4⟩
        · cases hs
/-! ### Lines -/
def kLet : Str := [108, 101, 116]
def kDrop : Str := [100, 114, 111, 112]
def kClaim : Str := [99, 108, 97, 105, 109]
def lineT (e : Ent) : Str := if e.kd = 1 then kLet ++ 32 :: (e.nm ++ 32 :: e.fm) else if e.kd = 2 then kDrop ++ 32 :: e.nm else kClaim ++ 32 :: e.nm
def chkT (c : Nat) (t : Str) : Nat := t.foldl (fun c b => (37 * c + b.toNat) % 999983) c
theorem chkT_app (c : Nat) (a b : Str) : chkT c (a ++ b) = chkT (chkT c a) b := List.foldl_append ..
theorem chkT_lt {c : Nat} (hc : c < 999983) (t : Str) : chkT c t < 999983 := by
  unfold chkT
  induction t generalizing c with
  | nil => exact hc
  | cons b t ih => exact ih (Nat.mod_lt _ (by omega))
abbrev decT (n : Nat) : Str := Lib.decDigits n
def lineC (c : Nat) (e : Ent) : Str := lineT e ++ 32 :: (decT (chkT c (lineT e)) ++ [10])
def entOf : List Str → Ent
  | [k, a, b] => if k = kLet then ⟨1, a, b⟩ else ⟨0, [], []⟩
  | [k, a] => if k = kDrop then ⟨2, a, []⟩ else if k = kClaim then ⟨3, a, []⟩ else ⟨0, [], []⟩
  | _ => ⟨0, [], []⟩
def joinT : List Str → Str
  | [] => []
  | [a] => a
  | a :: b :: r => a ++ 32 :: joinT (b :: r)
theorem joinT_split (t : Str) : joinT (splitT 32 t) = t := by
  induction t using split_ind 32 with
  | h0 t h => rw [splitT_miss h]; rfl
  | h1 a r h ih =>
    rw [splitT_hit h]
    obtain ⟨b, s, e⟩ : ∃ b s, splitT 32 r = b :: s := by
      cases hh : splitT 32 r with
      | nil => have := splitT_len 32 r; rw [hh] at this; simp at this
      | cons b s => exact ⟨b, s, rfl⟩
    rw [e] at ih ⊢
    rw [joinT, ih]
theorem ent_line {W : List Str} (h : entB (entOf W) = true) : lineT (entOf W) = joinT W := by
  unfold entOf at h ⊢
  split at h
  · split at h
    · rename_i k; subst k; simp [lineT, joinT]
    · simp [entB] at h
  · split at h
    · rename_i k; subst k; simp [lineT, joinT]
    · split at h
      · rename_i k; subst k; simp [lineT, joinT, kDrop, kClaim]
      · simp [entB] at h
  · simp [entB] at h
theorem split_last {c : UInt8} {b : Str} (hb : ∀ x ∈ b, x ≠ c) (a : Str) : splitT c (a ++ c :: b) = splitT c a ++ [b] := by
  induction a using split_ind c with
  | h0 t h => rw [splitT_hit h, splitT_miss h, splitT_miss hb]; rfl
  | h1 a r h ih => rw [List.append_assoc, List.cons_append, splitT_hit h, ih, splitT_hit h]; rfl
/-- The last blank of a line behind its first byte, or 0. -/
def endP (l : Str) : Nat → Nat
  | 0 => 0
  | k + 1 => if l.getD (k + 1) 0 = 32 then k + 1 else endP l k
theorem endP_le (l : Str) : ∀ k, endP l k ≤ k
  | 0 => Nat.le_refl _
  | k + 1 => by rw [endP]; split; exact Nat.le_refl _; have := endP_le l k; omega
theorem endP_at (l : Str) : ∀ k, endP l k = 0 ∨ l.getD (endP l k) 0 = 32
  | 0 => .inl rfl
  | k + 1 => by
    rw [endP]
    split
    · exact .inr ‹_›
    · exact endP_at l k
theorem endP_gt (l : Str) : ∀ k q, endP l k < q → q ≤ k → l.getD q 0 ≠ 32
  | 0, q, h, h2 => by omega
  | k + 1, q, h, h2 => by
    rw [endP] at h
    split at h
    · omega
    · rename_i hk
      by_cases e : q = k + 1
      · subst e; exact hk
      · exact endP_gt l k q h (by omega)
def lastP (l : Str) : Nat := endP l l.length
/-- A journal that is read. -/
structure Jn where
  items : List Itm
  ents : List Ent
  text : Str
  hist : List (List Itm)
def jn0 : Jn := ⟨[], [], [], [[]]⟩
def Jn.chk (j : Jn) : Nat := chkT 11 j.text
/-- An entry more. -/
noncomputable def addJ (j : Jn) (e : Ent) : Option Jn := (stepI j.items e).map fun L => ⟨L, j.ents ++ [e], j.text ++ lineC j.chk e, j.hist ++ [L]⟩
/-- A line more, as the program reads it. -/
noncomputable def pStep (j : Jn) (l : Str) : Option Jn :=
  if entB (entOf (splitT 32 l).dropLast) && decide (lineC j.chk (entOf (splitT 32 l).dropLast) = l ++ [10]) then addJ j (entOf (splitT 32 l).dropLast) else none
/-- A line more, as the reference reads it. -/
noncomputable def sStep (j : Jn) (l : Str) : Option Jn :=
  if entB (entOf (splitT 32 (l.take (lastP l)))) && decide (l.drop (lastP l) = 32 :: decT (chkT 11 (j.text ++ l.take (lastP l)))) then (stepI j.items (entOf (splitT 32 (l.take (lastP l))))).map fun L => ⟨L, j.ents ++ [entOf (splitT 32 (l.take (lastP l)))], j.text ++ (l ++ [10]), j.hist ++ [L]⟩ else none
theorem drop_getD {l : Str} {p : Nat} (hp : p < l.length) : l.drop p = l.getD p 0 :: l.drop (p + 1) := by
  rw [List.drop_eq_getElem_cons hp]; simp [List.getD_eq_getElem?_getD, hp]
theorem pStep_sStep (j : Jn) (l : Str) : pStep j l = sStep j l := by
  have hle := endP_le l l.length
  have hgt := endP_gt l l.length
  have hbno : ∀ x ∈ l.drop (lastP l + 1), x ≠ 32 := by
    intro x hx
    obtain ⟨k, hk, rfl⟩ := List.getElem_of_mem hx
    rw [List.length_drop] at hk
    rw [List.getElem_drop]
    have := hgt (lastP l + 1 + k) (show endP l l.length < _ by unfold lastP; omega) (by omega)
    simpa [List.getD_eq_getElem?_getD, show lastP l + 1 + k < l.length by omega] using this
  by_cases h0 : lastP l = 0
  · have hs : sStep j l = none := by
      unfold sStep
      rw [h0, List.take_zero]
      simp [splitT, entOf, entB]
    rw [hs]
    unfold pStep
    have hd : entOf (splitT 32 l).dropLast = ⟨0, [], []⟩ := by
      cases l with
      | nil => simp [splitT, entOf]
      | cons x r =>
        rw [h0] at hbno
        have hbr : ∀ y ∈ r, y ≠ 32 := by simpa using hbno
        by_cases hx : x = 32
        · subst hx
          rw [splitT, if_pos rfl, splitT_miss hbr]
          simp [entOf]
        · rw [splitT_miss (t := x :: r) (fun y hy => by
            rcases List.mem_cons.1 hy with rfl | hy
            · exact hx
            · exact hbr y hy)]
          simp [entOf]
    rw [hd]
    simp [entB]
  · have hat := (endP_at l l.length).resolve_left h0
    have hpl : lastP l < l.length := by
      rcases Nat.lt_or_ge (lastP l) l.length with h | h
      · exact h
      · have hat : l.getD (lastP l) 0 = 32 := hat
        rw [List.getD_eq_getElem?_getD, List.getElem?_eq_none h] at hat
        cases hat
    have hl : l = l.take (lastP l) ++ 32 :: l.drop (lastP l + 1) := by
      have h1 := List.take_append_drop (lastP l) l
      rw [drop_getD hpl, show l.getD (lastP l) 0 = 32 from hat] at h1
      exact h1.symm
    have hd : l.drop (lastP l) = 32 :: l.drop (lastP l + 1) := by rw [drop_getD hpl, show l.getD (lastP l) 0 = 32 from hat]
    have hw : (splitT 32 l).dropLast = splitT 32 (l.take (lastP l)) := by
      conv => lhs; rw [hl]
      rw [split_last hbno, List.dropLast_concat]
    unfold pStep sStep
    rw [hw, hd]
    cases he : entB (entOf (splitT 32 (l.take (lastP l))))
    · simp
    · have hlt := ent_line he
      rw [joinT_split] at hlt
      have key : lineC j.chk (entOf (splitT 32 (l.take (lastP l)))) = l ++ [10] ↔ 32 :: l.drop (lastP l + 1) = 32 :: decT (chkT 11 (j.text ++ l.take (lastP l))) := by
        unfold lineC Jn.chk
        rw [hlt, ← chkT_app]
        conv => lhs; rhs; rw [hl]
        rw [List.append_assoc, List.append_cancel_left_eq]
        simp only [List.cons_append, List.cons.injEq, true_and, List.append_cancel_right_eq]
        exact eq_comm
      rw [Bool.true_and, Bool.true_and]
      by_cases hk : lineC j.chk (entOf (splitT 32 (l.take (lastP l)))) = l ++ [10]
      · rw [decide_eq_true hk, decide_eq_true (key.1 hk), if_pos rfl, if_pos rfl]
        unfold addJ
        rw [hk]
      · rw [decide_eq_false hk, decide_eq_false (fun h => hk (key.2 h))]
        rfl
/-- What a text reads as: lines are taken as long as they are good, at most m of them. -/
noncomputable def readJ : Nat → Str → Jn → Jn
  | 0, _, j => j
  | m + 1, t, j => if 10 ∈ t then (match pStep j (t.takeWhile fun c => c != 10) with
    | none => j
    | some j' => readJ m (t.dropWhile fun c => c != 10).tail j') else j
theorem readJ_miss {m : Nat} {t : Str} {j : Jn} (h : ∀ x ∈ t, x ≠ 10) : readJ m t j = j := by
  cases m with
  | zero => rfl
  | succ m => rw [readJ, if_neg (fun hm => h 10 hm rfl)]
theorem readJ_hit {m : Nat} {l r : Str} {j : Jn} (h : ∀ x ∈ l, x ≠ 10) : readJ (m + 1) (l ++ 10 :: r) j = match pStep j l with | none => j | some j' => readJ m r j' := by
  have e1 : (l ++ 10 :: r).takeWhile (fun c => c != 10) = l := by
    rw [List.takeWhile_append_of_pos (fun x hx => by simpa using h x hx)]; simp
  have e2 : (l ++ 10 :: r).dropWhile (fun c => c != 10) = 10 :: r := by
    rw [List.dropWhile_append_of_pos (fun x hx => by simpa using h x hx)]; simp
  rw [readJ, if_pos (by simp), e1, e2]
  rfl
noncomputable def openJ (t : Str) : Jn := readJ 60 t jn0
end Go.Vc

/- Memory: rows of elements of three cells that a call turns in place: slices.Insert, slices.Delete on []Item. Conditions: none. -/
namespace Go.Vc
/-- A row of cap elements of three cells, whole. -/
def Rw (e : TypeId) (w : World) (g cap : Nat) (cur : List Value) : Prop := Blk e w g cur ∧ cur.length = cap * 3 ∧ cap ≤ 9223372036854775807
theorem OwK.rw {lo n : Nat} {e : TypeId} {w : World} {v : Value} {xs : List Value} (h : OwK 3 lo e w v n xs) (hn : 0 < n) :
    ∃ g cap cur, v = .slice (some ⟨g, 0, none⟩) n cap ∧ lo ≤ g ∧ n ≤ cap ∧ Rw e w g cap cur ∧ cur.take (n * 3) = xs := by
  obtain ⟨_, ⟨_, h0⟩ | ⟨g, cap, cur, hv, hg, hh, h1, h2, h3, h4⟩⟩ := h
  · omega
  · exact ⟨g, cap, cur.toList, hv, hg, h1, ⟨by unfold Blk; rw [Array.toArray_toList]; exact hh, by simpa using h3, h2⟩, h4⟩
section
variable {P : Program} {w : World} {e : TypeId} {g cap : Nat} {cur : List Value}
theorem Rw.own {lo n : Nat} {xs : List Value} (h : Rw e w g cap cur) (hl : lo ≤ g) (hn : n ≤ cap) (hx : cur.take (n * 3) = xs) : OwK 3 lo e w (.slice (some ⟨g, 0, none⟩) n cap) n xs :=
  ⟨by rw [← hx, List.length_take, h.2.1]; omega, .inr ⟨g, cap, cur.toArray, rfl, hl, h.1, hn, h.2.2, by simpa using h.2.1, by simpa using hx⟩⟩
theorem Rw.ext {w' : World} (h : Rw e w g cap cur) (x : Ext w w') : Rw e w' g cap cur := ⟨h.1.ext x, h.2⟩
theorem Rw.lt (h : Rw e w g cap cur) : g < w.heap.size := heap_lt h.1
theorem Rw.ch {w' : World} {S : Nat → Prop} (h : Rw e w g cap cur) (hc : Ch S w w') (hn : ¬ S g) : Rw e w' g cap cur := ⟨by unfold Blk; rw [hc.block g h.lt hn]; exact h.1, h.2⟩
theorem Rw.cell (h : Rw e w g cap cur) (i : Nat) : w.cell? ⟨g, i, none⟩ = cur[i]? := by
  have := h.1
  unfold Blk at this
  simp [World.cell?, this]
theorem Rw.sl (h : Rw e w g cap cur) {l m c o : Nat} (ho : 0 < m → o = l * 3) (hm : l + m ≤ cap) (hc : m ≤ c) (hcm : c ≤ 9223372036854775807) : SlK 3 w (.slice (some ⟨g, o, none⟩) m c) m ((cur.drop (l * 3)).take (m * 3)) := by
  rcases Nat.eq_zero_or_pos m with rfl | h0
  · exact ⟨by simp, _, c, rfl, hc, hcm, .inl rfl⟩
  · have ho := ho h0
    subst ho
    refine ⟨by rw [List.length_take, List.length_drop, h.2.1]; omega, _, c, rfl, hc, hcm, .inr ⟨g, l * 3, rfl, fun i hi => ?_⟩⟩
    rw [h.cell (l * 3 + i), List.getElem?_take, if_pos hi, List.getElem?_drop]
/-- A part of a list put anew. -/
def putL (cur : List Value) (o : Nat) (ys : List Value) : List Value := cur.take o ++ ys ++ cur.drop (o + ys.length)
theorem putL_len {cur : List Value} {o : Nat} {ys : List Value} (h : o + ys.length ≤ cur.length) : (putL cur o ys).length = cur.length := by
  unfold putL; rw [List.length_append, List.length_append, List.length_take, List.length_drop]; omega
theorem putL_take {cur : List Value} {o n : Nat} {ys : List Value} (h : o + ys.length ≤ cur.length) (hn : n = o + ys.length) : (putL cur o ys).take n = cur.take o ++ ys := by
  unfold putL
  have hl : (cur.take o ++ ys).length = n := by rw [List.length_append, List.length_take]; omega
  rw [List.take_append_of_le_length (by omega), List.take_of_length_le (by omega)]
theorem putL_low {cur : List Value} {o n : Nat} {ys : List Value} (h : o + ys.length ≤ cur.length) (hn : n ≤ o) : (putL cur o ys).take n = cur.take n := by
  unfold putL
  rw [List.append_assoc, List.take_append_of_le_length (by rw [List.length_take]; omega), List.take_take, Nat.min_eq_left hn]
theorem putL_over {cur : List Value} {o n : Nat} {ys : List Value} (h : o + ys.length ≤ cur.length) (hn : o + ys.length ≤ n) : (putL cur o ys).take n = cur.take o ++ ys ++ (cur.drop (o + ys.length)).take (n - (o + ys.length)) := by
  unfold putL
  have hl : (cur.take o ++ ys).length = o + ys.length := by rw [List.length_append, List.length_take]; omega
  rw [List.take_append, List.take_of_length_le (by omega), hl]
theorem putL_drop {cur : List Value} {o : Nat} {ys : List Value} (h : o ≤ cur.length) : (putL cur o ys).drop o = ys ++ cur.drop (o + ys.length) := by
  unfold putL
  have hl : (cur.take o).length = o := by rw [List.length_take]; omega
  rw [List.append_assoc, List.drop_append, List.drop_of_length_le (by omega), List.nil_append, hl, Nat.sub_self, List.drop_zero]
theorem Rw.set (h : Rw e w g cap cur) {cur' : List Value} (hl : cur'.length = cur.length) : Rw e (w.setRow g cur'.toArray) g cap cur' ∧ Ch (fun c => c = g) w (w.setRow g cur'.toArray) :=
  ⟨⟨setRow_heap w g cur.toArray _ e (0, 0) h.1, by rw [hl]; exact h.2.1, h.2.2⟩, ⟨rfl, rfl, rfl, by rw [setRow_size]; exact Nat.le_refl _, fun c _ hc => setRow_other w g c _ hc⟩⟩
theorem SlK.src {k m : Nat} {x : Value} {ys : List Value} (hs : SlK k w x m ys) : ∃ a c, x = .slice a m c ∧ ys.length = m * k ∧ ((a = none ∧ m = 0) ∨ ∃ ad, a = some ad ∧ ∀ j u, ys[j]? = some u → w.cell? (ad.add j) = some u) := by
  obtain ⟨hyl, a, c, rfl, hlc, hcm, hcells⟩ := hs
  refine ⟨a, c, rfl, hyl, ?_⟩
  rcases hcells with rfl | ⟨b, o, rfl, hc⟩
  · cases a with
    | none => exact .inl ⟨rfl, rfl⟩
    | some ad =>
      refine .inr ⟨ad, rfl, fun j u hu => ?_⟩
      have : ys = [] := List.length_eq_zero_iff.1 (by omega)
      rw [this] at hu; simp at hu
  · refine .inr ⟨_, rfl, fun j u hu => ?_⟩
    have hj : j < ys.length := (List.getElem?_eq_some_iff.1 hu).1
    rw [addr_add, hc j (by omega), hu]
/-- 'append(s, x...)' where s has room. -/
theorem iAppRm {t ty : TypeId} {i m bytes : Nat} {x z : Value} {ys : List Value} {K : Value → World → Prop} (ht : P.underlying t = some (.slice e)) (hi : (P.info? e).map (fun i => (i.zero, i.size, i.bytes)) = some (some z, 3, bytes))
    (hR : Rw e w g cap cur) (hs : SlK 3 w x m ys) (hy : ∀ u ∈ ys, isCell u = true) (hroom : i + m ≤ cap)
    (h : ∀ w', Rw e w' g cap (putL cur (i * 3) ys) → Ch (fun c => c = g) w w' → K (.slice (some ⟨g, 0, none⟩) (i + m) cap) w') :
    xOp P (Builtin.append_ #[t, t] ty #[.slice (some ⟨g, 0, none⟩) i cap, x]) w K := by
  obtain ⟨inf, hi, h3⟩ := Option.map_eq_some_iff.1 hi
  simp only [Prod.mk.injEq] at h3
  obtain ⟨-, hsz, -⟩ := h3
  obtain ⟨a, c, rfl, hyl, ⟨rfl, rfl⟩ | ⟨ad, rfl, hsrc⟩⟩ := hs.src
  · have : ys = [] := List.length_eq_zero_iff.1 (by omega)
    subst this
    refine ⟨_, w, ?_, h w (by simpa [putL] using hR) ⟨rfl, rfl, rfl, Nat.le_refl _, fun _ _ _ => rfl⟩⟩
    have : i ≤ cap := by omega
    simp [Builtin.append_, run_underlying ht, sizeOf, typeInfo, hi, Builtin.lenOf, Builtin.firstCells, this, storeCells]
  · have hl3 := hR.2.1
    have hr := run_append_room (P := P) w t ty e inf ht hi g i cap cur.toArray hR.1 ad m c ys (by rw [hsz]; exact hyl) hsrc (fun u hu => isCell_one (hy u hu)) hroom (by simp [hsz]; omega)
    rw [hsz] at hr
    obtain ⟨h1, h2⟩ := hR.set (cur' := putL cur (i * 3) ys) (putL_len (by omega))
    exact ⟨_, _, hr, h _ h1 h2⟩
/-- 'append(s[:i], make([]T, k)...)' where there is no room. -/
theorem iAppGz {t tn ty : TypeId} {i k bytes : Nat} {kq kn : IntKind} {z : Value} {K : Value → World → Prop} (ht : P.underlying t = some (.slice e)) (htn : P.underlying tn = some (.int kn)) (hi : (P.info? e).map (fun i => (i.zero, i.size, i.bytes)) = some (some z, 3, bytes)) (hz : z.cells.size = 3)
    (hR : Rw e w g cap cur) (hic : i ≤ cap) (hk : cap < i + k) (hm : (i + k) * bytes ≤ 140737488355328) (hm2 : i + k ≤ 1099511627776)
    (h : ∀ w' cap' cur', Rw e w' w.heap.size cap' cur' → Ext w w' → i + k ≤ cap' → cur'.take (i * 3) = cur.take (i * 3) → K (.slice (some ⟨w.heap.size, 0, none⟩) (i + k) cap') w') :
    xOp P (Builtin.append_ #[t, tn] ty #[.slice (some ⟨g, 0, none⟩) i cap, .int kq (k : Int)]) w K := by
  obtain ⟨inf, hi, h3⟩ := Option.map_eq_some_iff.1 hi
  simp only [Prod.mk.injEq] at h3
  obtain ⟨hz0, hsz, hby⟩ := h3
  have hl3 := hR.2.1
  have hold : (Builtin.firstCells inf.size i (.slice (some ⟨g, 0, none⟩) i cap)).run P w.drew = .ok (cur.take (i * 3)).toArray w.drew := by
    refine run_firstCells_some _ _ _ _ _ _ _ (by rw [hsz, List.length_take]; omega) fun j u hu => ?_
    rw [addr_add, Nat.zero_add]
    have hj : j < i * 3 := by
      have := (List.getElem?_eq_some_iff.1 hu).1
      rw [List.length_take] at this; omega
    rw [List.getElem?_take, if_pos hj] at hu
    have := hR.cell j
    rw [hu] at this
    exact this
  have hnc : Builtin.nextslicecap (i + k) cap * inf.bytes ≤ 281474976710656 := growslice_fits hk (by rw [hby]; exact hm)
  have hkb : k * inf.bytes ≤ 281474976710656 := by
    have := Nat.mul_le_mul_right inf.bytes (show k ≤ i + k by omega)
    rw [hby] at this ⊢; omega
  have hr := Lib.run_append_grow_zeros (P := P) w t tn ty e inf z kq kn ht htn hi hz0 (some ⟨g, 0, none⟩) i cap (cur.take (i * 3)) hold k (by omega) (by omega) hk (by omega) hkb hnc
  have hge := grownCap_ge w (i + k) cap e
  have hcm := grownCap_le_maxLen w (i + k) cap e (by simp only [maxLen]; omega)
  have hB := Blk.new w.drew ((cur.take (i * 3)).toArray ++ Builtin.zeroCells z.cells k ++ Builtin.zeroCells z.cells (grownCap w (i + k) cap e - (i + k))) e
  have hlt : (cur.take (i * 3)).length = i * 3 := by rw [List.length_take]; omega
  refine ⟨_, _, hr, h _ (grownCap w (i + k) cap e) _ ⟨hB, ?_, by simpa [maxLen] using hcm⟩ ((Ext.drew w).trans (Ext.alloc _ _)) hge ?_⟩
  · rw [Array.length_toList, Array.size_append, Array.size_append, size_zeroCells, size_zeroCells, hz, List.size_toArray, hlt]
    omega
  · rw [Array.toList_append, Array.toList_append, List.append_assoc, List.take_append_of_le_length (by rw [List.toList_toArray, hlt]; exact Nat.le_refl _), List.toList_toArray, List.take_take, Nat.min_self]
/-- 'copy(d, s)'. -/
theorem iCp {tD tS ty : TypeId} {o l dl dc m bytes n : Nat} {x z : Value} {ys : List Value} {K : Value → World → Prop} (ht : P.underlying tD = some (.slice e)) (hi : (P.info? e).map (fun i => (i.zero, i.size, i.bytes)) = some (some z, 3, bytes))
    (hR : Rw e w g cap cur) (hs : SlK 3 w x m ys) (hy : ∀ u ∈ ys.take (n * 3), isCell u = true) (hn : n = Nat.min m dl) (ho : o = l * 3) (hfit : l + n ≤ cap)
    (h : ∀ v w', Rw e w' g cap (putL cur (l * 3) (ys.take (n * 3))) → Ch (fun c => c = g) w w' → K v w') :
    xOp P (Builtin.copy_ #[tD, tS] ty #[.slice (some ⟨g, o, none⟩) dl dc, x]) w K := by
  subst ho
  obtain ⟨inf, hi, h3⟩ := Option.map_eq_some_iff.1 hi
  simp only [Prod.mk.injEq] at h3
  obtain ⟨-, hsz, -⟩ := h3
  have hl3 := hR.2.1
  have hnm : n ≤ m := by rw [hn]; exact Nat.min_le_left _ _
  obtain ⟨a, c, rfl, hyl, ha⟩ := hs.src
  have hyt : (ys.take (n * 3)).length = n * 3 := by rw [List.length_take]; omega
  have hf : (Builtin.firstCells 3 n (.slice a m c)).run P w = .ok (ys.take (n * 3)).toArray w := by
    rcases ha with ⟨rfl, h0⟩ | ⟨ad, rfl, hsrc⟩
    · have : n = 0 := by omega
      subst this
      rw [run_firstCells_none]; simp
    · refine run_firstCells_some _ _ _ _ _ _ _ hyt fun j u hu => hsrc j u ?_
      have hj : j < n * 3 := by
        have := (List.getElem?_eq_some_iff.1 hu).1
        omega
      rwa [List.getElem?_take, if_pos hj] at hu
  have hst := run_storeCells_at P g (l * 3) e (ys.take (n * 3)) 0 cur.toArray w hR.1 (by simp only [List.size_toArray]; omega) (fun u hu => isCell_one (hy u hu))
  obtain ⟨h1, h2⟩ := hR.set (cur' := putL cur (l * 3) (ys.take (n * 3))) (putL_len (by omega))
  have hn' : m.min dl = n := hn.symm
  refine ⟨goInt n, _, ?_, h _ _ h1 h2⟩
  simp only [Nat.add_zero] at hst
  simp [Builtin.copy_, run_underlying ht, Builtin.lenOf, sizeOf, typeInfo, hi, hsz, hn', hf, hst, putL]
/-- 'clear' of n elements. -/
theorem iClr3 {t ty : TypeId} {o l n c bytes : Nat} {z : Value} {K : Value → World → Prop} (ht : P.underlying t = some (.slice e)) (hi : (P.info? e).map (fun i => (i.zero, i.size, i.bytes)) = some (some z, 3, bytes)) (hz : z.cells.size = 3) (hzc : ∀ u ∈ z.cells.toList, isCell u = true)
    (hR : Rw e w g cap cur) (ho : o = l * 3) (hn : 0 < n) (hfit : l + n ≤ cap)
    (h : ∀ ys w', ys.length = n * 3 → Rw e w' g cap (putL cur (l * 3) ys) → Ch (fun c => c = g) w w' → K (.tuple #[]) w') :
    xOp P (Builtin.clear_ #[t] ty #[.slice (some ⟨g, o, none⟩) n c]) w K := by
  subst ho
  obtain ⟨inf, hi, h3⟩ := Option.map_eq_some_iff.1 hi
  simp only [Prod.mk.injEq] at h3
  obtain ⟨hz0, hsz, -⟩ := h3
  have hl3 := hR.2.1
  have hzl : (Builtin.zeroCells z.cells n).toList.length = n * 3 := by rw [Array.length_toList, size_zeroCells, hz]
  have hst := run_storeCells_at P g (l * 3) e (Builtin.zeroCells z.cells n).toList 0 cur.toArray w hR.1 (by simp only [List.size_toArray]; omega) (fun u hu => isCell_one (by
    obtain ⟨i, hi, rfl⟩ := List.getElem_of_mem hu
    rw [hzl] at hi
    simp only [Builtin.zeroCells, Array.getElem_toList, Array.getElem_map]
    refine hzc _ ?_
    have hlt : (Array.range (n * z.cells.size))[i]'(by rw [Array.size_range, hz]; exact hi) % z.cells.size < z.cells.size := Nat.mod_lt _ (by omega)
    rw [getElem!_pos z.cells _ hlt]
    simp))
  obtain ⟨h1, h2⟩ := hR.set (cur' := putL cur (l * 3) (Builtin.zeroCells z.cells n).toList) (putL_len (by omega))
  simp only [Nat.add_zero] at hst
  refine ⟨_, _, ?_, h _ _ hzl h1 h2⟩
  obtain ⟨m, rfl⟩ : ∃ m, n = m + 1 := ⟨n - 1, by omega⟩
  simp [Builtin.clear_, run_underlying ht, zeroValue, run_info hi, hz0, hst, putL]
end
/-! ### Parts of slices of elements of three cells -/
theorem iT3 {g o n c l : Nat} {ki : IntKind} {K : Value → Prop} (hl : l ≤ n) (hc : n ≤ c) (h : ∀ o', (l < c → o' = o + l * 3) → K (.slice (some ⟨g, o', none⟩) (n - l) (c - l))) : xSl 3 (.slice (some ⟨g, o, none⟩) n c) (some (.int ki (l : Int))) none K := by
  refine ⟨_, _, _, l, n, rfl, rfl, ⟨ki, rfl⟩, hl, hc, ?_⟩
  split
  · rename_i e
    exact h o (fun hlt => by omega)
  · rw [Option.map_some, addr_add]
    exact h _ fun _ => rfl
theorem iH3 {g o n c k : Nat} {ki : IntKind} {K : Value → Prop} (hk : k ≤ c) (h : K (.slice (some ⟨g, o, none⟩) k c)) : xSl 3 (.slice (some ⟨g, o, none⟩) n c) none (some (.int ki (k : Int))) K := by
  refine ⟨_, _, _, 0, k, rfl, ⟨ki, rfl⟩, rfl, Nat.zero_le _, hk, ?_⟩
  have e : (if c = 0 then some (⟨g, o, none⟩ : Addr) else (some (⟨g, o, none⟩ : Addr)).map (·.add (0 * 3))) = some ⟨g, o, none⟩ := by
    split
    · rfl
    · rw [Option.map_some, addr_add, Nat.zero_mul, Nat.add_zero]
  rw [e, Nat.sub_zero, Nat.sub_zero]
  exact h
theorem iM3 {g o n c l k : Nat} {ki kj : IntKind} {K : Value → Prop} (hl : l ≤ k) (hk : k ≤ c) (hlc : l < c) (h : K (.slice (some ⟨g, o + l * 3, none⟩) (k - l) (c - l))) : xSl 3 (.slice (some ⟨g, o, none⟩) n c) (some (.int ki (l : Int))) (some (.int kj (k : Int))) K := by
  refine ⟨_, _, _, l, k, rfl, ⟨kj, rfl⟩, ⟨ki, rfl⟩, hl, hk, ?_⟩
  rw [if_neg (by omega), Option.map_some, addr_add]
  exact h
theorem cellsI_take (L : List Itm) (k : Nat) : (cellsI L).take (k * 3) = cellsI (L.take k) := by
  rcases Nat.lt_or_ge L.length k with h | h
  · rw [List.take_of_length_le (by rw [cellsI_len]; omega), List.take_of_length_le (by omega)]
  · conv => lhs; rw [← List.take_append_drop k L, cellsI_app]
    rw [List.take_append_of_le_length (by rw [cellsI_len, List.length_take]; omega), List.take_of_length_le (by rw [cellsI_len, List.length_take]; omega)]
theorem cellsI_drop (L : List Itm) (k : Nat) : (cellsI L).drop (k * 3) = cellsI (L.drop k) := by
  rcases Nat.lt_or_ge L.length k with h | h
  · rw [List.drop_of_length_le (by rw [cellsI_len]; omega), List.drop_of_length_le (by omega)]; rfl
  · conv => lhs; rw [← List.take_append_drop k L, cellsI_app]
    rw [List.drop_append, List.drop_of_length_le (by rw [cellsI_len, List.length_take]; omega), List.nil_append, cellsI_len, List.length_take, Nat.min_eq_left h, Nat.sub_self, List.drop_zero]
end Go.Vc
namespace Go.Proofs.YtapdkkijoflcpaaGreatDoor
open Go.Vc
theorem iChk {k n i : Nat} {w : World} {v : Value} {xs : List Value} {ki : IntKind} {G : Prop} (hs : SlK k w v n xs) (hi : i ≤ n) (h : G) : xSl k v (some (.int ki (i : Int))) none fun _ => G := by
  obtain ⟨_, a, c, rfl, h2, _, _⟩ := hs
  exact ⟨_, _, _, i, n, rfl, rfl, ⟨ki, rfl⟩, hi, h2, h⟩
theorem ItmS {q : Nat} {x : Itm} {w : World} (hq : Blk t_impl_Item w q x.cs) : SlK 3 w (.slice (some ⟨q, 0, none⟩) 1 1) 1 x.cs := (OwK.ofBlk (k := 3) (lo := 0) (n := 1) hq (Nat.zero_le _) rfl (by omega)).sl
theorem itm_cell (x : Itm) : ∀ u ∈ x.cs, isCell u = true := fun u hu => cellsI_cell [x] u (by simpa [cellsI] using hu)
theorem run_over {w : World} {q g o n c cap : Nat} {x : Itm} {cur : List Value} (hq : Blk t_impl_Item w q x.cs) (hR : Rw t_impl_Item w g cap cur) (hne : g ≠ q) (h0 : 0 < cap) :
    (callFunc 100 #[.slice (some ⟨q, 0, none⟩) 1 1, .slice (some ⟨g, o, none⟩) n c]).run Tryz.prog w = .ok (.value (.bool false)) w := by
  have h1 := hq
  have h2 := hR.1
  have h3 := hR.2.1
  unfold Blk at h1 h2
  rw [run_callFunc_extern Tryz.func100 (by kernel_rfl) (by kernel_rfl) (by kernel_rfl) (e := Extern.SlicesOverlaps.overlaps #[t_Simpl_Item, t_Simpl_Item] #[4]) (by kernel_rfl),
    Lib.run_overlaps_apart w t_Simpl_Item 4 t_impl_Item u_Simpl_Item 3 Tryz.sizeOf38 ⟨q, 0, none⟩ ⟨g, o, none⟩ 1 1 n c (fun e => hne e.symm) t_impl_Item t_impl_Item 3 cur.length (by simp [World.shape?, h1, Itm.cs]) (by simp [World.shape?, h2]) (by omega) (by simp [World.frozen?, h1]) (by simp [World.frozen?, h1])]
  rfl
theorem ok_slices_InsertI {lo q i : Nat} {v : Value} {L : List Itm} {x : Itm} {w : World} (hs : ItW lo w v L) (hlo : lo ≤ w.heap.size) (hL : L.length ≤ 1048576) (hi : i ≤ L.length) (hq : Blk t_impl_Item w q x.cs) (hne : v.ownBlock ≠ some q) :
    Cal Tryz.prog f_slices_Insert_Simpl_Item_impl_Item #[v, .int .i64 (i : Int), .slice (some ⟨q, 0, none⟩) 1 1] w fun r w' =>
      ItW lo w' r (L.take i ++ x :: L.drop i) ∧ Ch (fun c => v.ownBlock = some c) w w' ∧ (r.ownBlock = v.ownBlock ∨ ∃ c, r.ownBlock = some c ∧ w.heap.size ≤ c) := by
  apply c_slices_Insert_Simpl_Item_impl_Item; unfold S_slices_Insert_Simpl_Item_impl_Item
  have hlen : (L.take i ++ x :: L.drop i).length = L.length + 1 := by rw [List.length_append, List.length_cons, List.length_take, List.length_drop]; omega
  have hres : cellsI (L.take i ++ x :: L.drop i) = cellsI (L.take i) ++ x.cs ++ cellsI (L.drop i) := by simp [cellsI]
  have hx3 : x.cs.length = 3 := rfl
  have hxt : x.cs.take (1 * 3) = x.cs := rfl
  refine iChk hs.sl hi ?_
  refine iLenL (iEq (iCndF (by simp) ?_))
  refine iLenK hs.sl (iEq (iCndP (fun he => ?_) (fun he => ?_)))
  · have hiL : i = L.length := by omega
    refine iAppK u_Simpl_Item i_Simpl_Item rfl (by omega) hs (ItmS hq) (itm_cell x) (by omega) (by omega) hlo fun v' w' ho hg hb => ?_
    refine ⟨?_, grown_ch hg fun b hb => hb, hb⟩
    show OwK 3 lo _ w' v' _ _
    rw [hlen, hres, hiL, List.take_length, List.drop_length]
    have e : cellsI ([] : List Itm) = [] := rfl
    rw [e, List.append_nil]
    exact ho
  · have hil : i < L.length := by omega
    obtain ⟨g, cap, cur, rfl, hg, hcap, hR, hx⟩ := hs.rw (by omega)
    have hgq : g ≠ q := fun e => hne (by rw [e]; rfl)
    have hgl := hR.lt
    have hcl := hR.2.1
    have hA : cur.take (i * 3) = cellsI (L.take i) := by rw [← cellsI_take, ← hx, List.take_take, Nat.min_eq_left (by omega)]
    have hB : (cur.drop (i * 3)).take ((L.length - i) * 3) = cellsI (L.drop i) := by rw [← cellsI_drop, ← hx, List.drop_take]; congr 1; omega
    have hcm := hR.2.2
    have hcell : ∀ w', Rw t_impl_Item w' g cap cur → ∀ u ∈ (cur.drop (i * 3)).take ((L.length - i) * 3), isCell u = true := fun _ _ u hu => cellsI_cell (L.drop i) u (by rw [← hB]; exact hu)
    refine iAdd (by omega) ?_
    refine iCapL (e := t_impl_Item) u_Simpl_Item ?_
    refine iLt (iCndP (fun hgrow => ?_) (fun hroom => ?_))
    · refine iH3 (k := i) (by omega) ?_
      refine iAdd (by omega) (iSub (by omega) ?_)
      rw [show ((L.length : Nat) : Int) + ((1 : Nat) : Int) - (i : Int) = ((L.length + 1 - i : Nat) : Int) by omega]
      refine iAppGz (k := L.length + 1 - i) (kn := .i64) u_Simpl_Item (by kernel_rfl) i_Simpl_Item rfl hR (by omega) (by omega) (by omega) (by omega) fun w2 cap2 cur2 hR2 x2 hc2 ht2 => ?_
      have hn2 : i + (L.length + 1 - i) = L.length + 1 := by omega
      rw [hn2] at hc2 ⊢
      have hc2m := hR2.2.2
      have hc2l := hR2.2.1
      refine iT3 (l := i) (by omega) hc2 fun o1 ho1 => ?_
      have ho1 := ho1 (by omega)
      refine iCp (l := i) (n := 1) u_Simpl_Item i_Simpl_Item hR2 (ItmS (hq.ext x2)) (itm_cell x) (Nat.min_eq_left (by omega)).symm (by omega) (by omega) fun _ w3 hR3 hc3 => ?_
      refine iAdd (by omega) ?_
      rw [show (i : Int) + ((1 : Nat) : Int) = ((i + 1 : Nat) : Int) by omega]
      refine iT3 (l := i + 1) (by omega) hc2 fun o2 ho2 => ?_
      have ho2 := ho2 (by omega)
      refine iT3 (l := i) (by omega) hcap fun o3 ho3 => ?_
      intro w4 x4
      have hRg : Rw t_impl_Item w4 g cap cur := ((hR.ext x2).ch hc3 (by omega)).ext x4
      refine iCp (l := i + 1) (n := L.length - i) u_Simpl_Item i_Simpl_Item (hR3.ext x4) (hRg.sl (l := i) (m := L.length - i) (fun _ => by rw [ho3 (by omega)]; omega) (by omega) (by omega) (by omega)) (fun u hu => hcell w4 hRg u (List.mem_of_mem_take hu)) (by rw [show L.length + 1 - (i + 1) = L.length - i by omega]; exact (Nat.min_self _).symm) (by omega) (by omega) fun _ w5 hR5 hc5 => ?_
      intro w6 x6
      have x36 : Ext w w6 := ((((x2.thenCh hc3 fun c hc => by omega).trans x4).thenCh hc5 fun c hc => by omega).trans x6)
      refine ⟨?_, x36.ch, .inr ⟨_, rfl, Nat.le_refl _⟩⟩
      show OwK 3 lo _ w6 _ _ _
      rw [hlen, hres]
      have hyl : (((cur.drop (i * 3)).take ((L.length - i) * 3)).take ((L.length - i) * 3)).length = (L.length - i) * 3 := by rw [List.length_take, List.length_take, List.length_drop]; omega
      refine (hR5.ext x6).own hlo hc2 ?_
      rw [putL_take (by rw [putL_len (by rw [hxt, hx3]; omega), hyl]; omega) (by rw [hyl]; omega), putL_take (by rw [hxt, hx3]; omega) (by rw [hxt, hx3]; omega), hxt, ht2, hA, List.take_take, Nat.min_self, hB]
    · have hr2 : L.length + 1 ≤ cap := by omega
      refine iAdd (by omega) ?_
      rw [show ((L.length : Nat) : Int) + ((1 : Nat) : Int) = ((L.length + 1 : Nat) : Int) by omega]
      refine iH3 (k := L.length + 1) hr2 ?_
      refine iAdd (by omega) ?_
      rw [show (i : Int) + ((1 : Nat) : Int) = ((i + 1 : Nat) : Int) by omega]
      refine iT3 (l := i + 1) (by omega) hr2 fun o1 ho1 => ?_
      refine iExt (run_over hq hR hgq (by omega)) ?_
      refine iNot (iCndT rfl ?_)
      refine iAdd (by omega) ?_
      rw [show (i : Int) + ((1 : Nat) : Int) = ((i + 1 : Nat) : Int) by omega]
      refine iT3 (l := i + 1) (by omega) hr2 fun o2 ho2 => ?_
      have ho2 := ho2 (by omega)
      refine iT3 (l := i) (by omega) hr2 fun o3 ho3 => ?_
      have ho3 := ho3 (by omega)
      intro w8 x8
      have hR8 := hR.ext x8
      have hyl : (((cur.drop (i * 3)).take ((L.length + 1 - i) * 3)).take ((L.length - i) * 3)) = cellsI (L.drop i) := by rw [List.take_take, Nat.min_eq_left (by omega), hB]
      have hyl2 : (cellsI (L.drop i)).length = (L.length - i) * 3 := by rw [cellsI_len, List.length_drop]
      refine iCp (l := i + 1) (n := L.length - i) u_Simpl_Item i_Simpl_Item hR8 (hR8.sl (l := i) (m := L.length + 1 - i) (fun _ => by omega) (by omega) (by omega) (by omega)) (by rw [hyl]; exact cellsI_cell _) (by show L.length - i = min (L.length + 1 - i) (L.length + 1 - (i + 1)); omega) (by omega) (by omega) fun _ w9 hR9 hc9 => ?_
      intro w10 x10
      rw [hyl] at hR9
      refine iT3 (l := i) (by omega) hr2 fun o4 ho4 => ?_
      have ho4 := ho4 (by omega)
      refine iCp (l := i) (n := 1) u_Simpl_Item i_Simpl_Item (hR9.ext x10) (ItmS (((hq.ext x8).ch hc9 fun e => hgq e.symm).ext x10)) (itm_cell x) (Nat.min_eq_left (by omega)).symm (by omega) (by omega) fun _ w11 hR11 hc11 => ?_
      have hS : ∀ c, c = g → (Value.slice (some ⟨g, 0, none⟩) L.length cap).ownBlock = some c := fun c e => by rw [e]; rfl
      refine ⟨?_, ((x8.ch.trans (hc9.mono hS) fun _ h => .inl h).trans (x10.ch (S := fun _ => False)) (fun _ h => h.elim)).trans (hc11.mono hS) fun _ h => .inl h, .inl rfl⟩
      show OwK 3 lo _ w11 _ _ _
      rw [hlen, hres]
      refine hR11.own hg hr2 ?_
      have h9l : (putL cur ((i + 1) * 3) (cellsI (L.drop i))).length = cap * 3 := by rw [putL_len (by omega), hcl]
      rw [hxt, putL_over (by omega) (by omega), putL_low (by omega) (by omega), hA, hx3, show i * 3 + 3 = (i + 1) * 3 by omega, putL_drop (by omega), List.take_append_of_le_length (by omega), List.take_of_length_le (l := cellsI (L.drop i)) (by omega)]
theorem ok_slices_DeleteI {lo i : Nat} {v : Value} {L : List Itm} {w : World} (hs : ItW lo w v L) (hi : i < L.length) (hL : L.length ≤ 1048576) :
    Cal Tryz.prog f_slices_Delete_Simpl_Item_impl_Item #[v, .int .i64 (i : Int), .int .i64 ((i + 1 : Nat) : Int)] w fun r w' => ItW lo w' r (L.take i ++ L.drop (i + 1)) ∧ Ch (fun c => v.ownBlock = some c) w w' ∧ r.ownBlock = v.ownBlock := by
  apply c_slices_Delete_Simpl_Item_impl_Item; unfold S_slices_Delete_Simpl_Item_impl_Item
  obtain ⟨g, cap, cur, rfl, hg, hcap, hR, hx⟩ := hs.rw (by omega)
  have hcl := hR.2.1
  have hcm := hR.2.2
  have hA : cur.take (i * 3) = cellsI (L.take i) := by rw [← cellsI_take, ← hx, List.take_take, Nat.min_eq_left (by omega)]
  have hB : (cur.drop ((i + 1) * 3)).take ((L.length - (i + 1)) * 3) = cellsI (L.drop (i + 1)) := by rw [← cellsI_drop, ← hx, List.drop_take]; congr 1; omega
  have hB2 : (cellsI (L.drop (i + 1))).length = (L.length - (i + 1)) * 3 := by rw [cellsI_len, List.length_drop]
  refine iLenL ?_
  refine ⟨.slice (if L.length = i then some ⟨g, 0, none⟩ else (some (⟨g, 0, none⟩ : Addr)).map (·.add (i * 3))) (i + 1 - i) (L.length - i), fun w' _ => ?_, ?_⟩
  · have h1 : ((i + 1 : Nat) : Int) ≤ (L.length : Int) := by omega
    have h2 : (L.length : Int) ≤ (cap : Int) := by omega
    have h3 : (i : Int) ≤ ((i + 1 : Nat) : Int) := by omega
    have hz : ∀ w, (sizeOf t_impl_Item).run Tryz.prog w = .ok 3 w := Tryz.sizeOf38
    have b1 := run_sliceBound (P := Tryz.prog) w' .i64 (L.length : Int) cap .slice3Acap (by omega) h2
    have b2 := run_sliceBound (P := Tryz.prog) w' .i64 ((i + 1 : Nat) : Int) L.length .slice3B (by omega) h1
    have b3 := run_sliceBound (P := Tryz.prog) w' .i64 (i : Int) (i + 1) .slice3C (by omega) h3
    rw [Int.toNat_natCast] at b1 b2 b3
    simp only [Instr.sliceAt, Instr.slice, Instr.sliceBounds, Sem.run_bind, Sem.run_pure, run_underlying u_Simpl_Item, Result.andThen_ok, b1, b2, b3, hz, if_true, Option.isSome_some]
  refine iEq (iCndF (decide_eq_false (by omega)) ?_)
  refine iLenL ?_
  refine iH3 (k := i) (by omega) ?_
  refine iT3 (l := i + 1) (by omega) hcap fun o2 ho2 => ?_
  intro w1 x1
  have hR1 := hR.ext x1
  refine iAppRm (i := i) (m := L.length - (i + 1)) u_Simpl_Item i_Simpl_Item hR1 (hR1.sl (l := i + 1) (m := L.length - (i + 1)) (fun _ => by have := ho2 (by omega); omega) (by omega) (by omega) (by omega)) (by rw [hB]; exact cellsI_cell _) (by omega) fun w2 hR2 hc2 => ?_
  rw [hB] at hR2
  intro w3 x3
  have hR3 := hR2.ext x3
  have hn : i + (L.length - (i + 1)) = L.length - 1 := by omega
  rw [hn]
  refine iLenL ?_
  refine iM3 (l := L.length - 1) (k := L.length) (by omega) (by omega) (by omega) ?_
  refine iClr3 (l := L.length - 1) u_Simpl_Item i_Simpl_Item rfl (by simp [Value.cells, isCell]) hR3 (by omega) (by omega) (by omega) fun ys w4 hys hR4 hc4 => ?_
  have hS : ∀ c, c = g → (Value.slice (some ⟨g, 0, none⟩) L.length cap).ownBlock = some c := fun c e => by rw [e]; rfl
  refine ⟨?_, ((x1.ch.trans (hc2.mono hS) fun _ h => .inl h).trans (x3.ch (S := fun _ => False)) (fun _ h => h.elim)).trans (hc4.mono hS) fun _ h => .inl h, rfl⟩
  show OwK 3 lo _ w4 _ _ _
  have hlen : (L.take i ++ L.drop (i + 1)).length = L.length - 1 := by rw [List.length_append, List.length_take, List.length_drop]; omega
  rw [hlen, cellsI_app]
  refine hR4.own hg (by omega) ?_
  have h2l : (putL cur (i * 3) (cellsI (L.drop (i + 1)))).length = cap * 3 := by rw [putL_len (by omega), hcl]
  rw [putL_low (by omega) (by omega), putL_take (by omega) (by omega), hA]
end Go.Proofs.YtapdkkijoflcpaaGreatDoor

/- Contracts: entries of a journal, their lines and checks, in the program and in the reference. Conditions: the table of powers of ten (FormatInt reads it). -/
namespace Go.Vc
def Ent.cs (e : Ent) : List Value := [.int .i64 e.kd, sv e.nm, sv e.fm]
def Ent.val (e : Ent) : Value := .agg #[.int .i64 e.kd, sv e.nm, sv e.fm]
section
variable {P : Program} {w : World}
/-- '[]byte(s)'. -/
theorem iBytes {s d e : TypeId} {t : Str} {K : Value → World → Prop} (hs : P.underlying s = some .string) (hd : P.underlying d = some (.slice e)) (he : P.underlying e = some (.int .u8)) (ht : t.length ≤ 1099511627776)
    (h : ∀ v w', Ext w w' → Sl w' v (t.map fun b => .int .u8 (b.toNat : Int)) → K v w') : xOp P (convert s d (sv t)) w K := by
  have hr := Lib.run_convert_string_bytes (P := P) w s d e ⟨t.toArray⟩ hs hd he
  have hsz : (⟨t.toArray⟩ : ByteArray).size = t.length := rfl
  have hge := grownCap_ge w t.length 0 e
  have hcm := grownCap_le_maxLen w t.length 0 e (by simp only [maxLen]; omega)
  refine ⟨_, _, hr, h _ _ ⟨rfl, rfl, rfl, by rw [Lib.bytesWorld_size]; omega, fun j hj => Lib.bytesWorld_at_old w e _ j hj⟩ ⟨_, _, by rw [List.length_map, hsz], by rw [List.length_map]; exact hge, by simpa [maxLen] using hcm, .inr ⟨w.heap.size, 0, rfl, fun i hi => ?_⟩⟩⟩
  rw [List.length_map] at hi
  rw [Nat.zero_add, Lib.bytesWorld_cell w e ⟨t.toArray⟩ i hi]
  simp [hi]
theorem iIaBT {v : Value} {t : Str} {j : Nat} {k : IntKind} {K : Value → Prop} (hs : Sl w v (t.map fun b => .int .u8 (b.toNat : Int))) (hj : j < t.length) (h : K (.int .u8 ((t.getD j 0).toNat : Int))) : xIa 1 v (.int k (j : Int)) fun p => xLd w p K := by
  refine iIa hs (by omega) (by rw [List.length_map]; omega) fun p hc => ?_
  exact iLd (hc.trans (by rw [Int.toNat_natCast]; simp [List.getD_eq_getElem?_getD, hj])) h
/-- A byte as a text, where what comes later waits for it. -/
theorem iChrE {s d e : TypeId} {c : UInt8} {z : Int} {K : Value → World → Prop} (hs : P.underlying s = some (.slice e)) (he : P.underlying e = some (.int .u8)) (hd : P.underlying d = some .string) (hz : z = (c.toNat : Int)) (h : ∀ w', Ext w w' → K (sv [c]) w') :
    xBs e (Value.cells (.int .u8 0)) 1 1 [(0, .int .u8 z)] w fun v w3 => Ext w w3 ∧ xR P w3 (convert s d v) fun r => K r w3 := by
  obtain ⟨cs, h1, v, h2, h3, h4⟩ := iChr (P := P) (w := w) (K := fun r w3 => Ext w w3 ∧ K r w3) hs he hd hz fun w' x => ⟨x, h w' x⟩
  exact ⟨cs, h1, h3, v, h2, h4⟩
end
theorem chkT_snoc (c : Nat) (t : Str) (b : UInt8) : chkT c (t ++ [b]) = (37 * chkT c t + b.toNat) % 999983 := by rw [chkT_app]; rfl
theorem take_snoc {t : Str} {i : Nat} (h : i < t.length) : t.take (i + 1) = t.take i ++ [t.getD i 0] := by
  rw [List.take_succ_eq_append_getElem h]; simp [List.getD_eq_getElem?_getD, h]
theorem chk_step (c : Nat) (b : UInt8) : ((37 * (c : Int) + (b.toNat : Int)) % 999983) = (((37 * c + b.toNat) % 999983 : Nat) : Int) := by omega
theorem decT_rec {n : Nat} (h : ¬ n < 10) : decT n = decT (n / 10) ++ [UInt8.ofNat (48 + n % 10)] := by unfold decT; conv => lhs; rw [Lib.decDigits, dif_neg h]
theorem decT_len (n : Nat) : (decT n).length ≤ n + 1 := by
  induction n using Nat.strongRecOn with
  | _ n ih =>
    by_cases h : n < 10
    · unfold decT; rw [Lib.decDigits, dif_pos h]; simp
    · rw [decT_rec h, List.length_append]
      have := ih (n / 10) (by omega)
      simp only [List.length_cons, List.length_nil]; omega
end Go.Vc
namespace Go.Proofs.YtapdkkijoflcpaaGreatDoor
open Go.Vc
/-- The table that FormatInt reads. -/
def TabOk (w : World) : Prop := Lib.TabIs Tryz.prog w "internal/strconv.uint64pow10" .u64 Lib.pow10Tab
theorem TabOk.ext {w w' : World} (h : TabOk w) (x : Ext w w') : TabOk w' := by
  unfold TabOk Lib.TabIs World.var? at h ⊢
  cases hg : Tryz.prog.globalNamed "internal/strconv.uint64pow10" with
  | none => rw [hg] at h; exact h
  | some g =>
    rw [hg] at h
    simp only [Option.bind_some] at h ⊢
    have hlt : g < w.heap.size := by
      rcases Nat.lt_or_ge g w.heap.size with h' | h'
      · exact h'
      · rw [Array.getElem?_eq_none h'] at h; cases h
    rw [Go.RowKit.Below.block x g hlt]
    exact h
theorem ok_impl_checkOf {c : Nat} {t : Str} (hc : c < 999983) (ht : t.length ≤ 1099511627776) (w : World) : Ret Tryz.prog f_impl_checkOf #[.int .i64 (c : Int), sv t] w (.int .i64 (chkT c t : Int)) := by
  apply c_impl_checkOf; unfold S_impl_checkOf
  refine iBytes Tryz.underlying9 u_Suint8 (by kernel_rfl) ht fun v w1 x1 hs => ?_
  refine iLenS hs ?_
  rw [List.length_map]
  refine iLp (fun s : Nat × Nat => [.int .i64 (s.1 : Int), .int .i64 (s.2 : Int)]) (fun s w' => s.2 ≤ t.length ∧ s.1 = chkT c (t.take s.2) ∧ Ext w1 w') (fun s => t.length - s.2) (c, 0) rfl ⟨Nat.zero_le _, rfl, Ext.refl _⟩ ?_
  rintro ⟨m, i⟩ w2 Kn ⟨hi, hm, x2⟩ hKn
  have hi : i ≤ t.length := hi
  have hm : m = chkT c (t.take i) := hm
  have hml : m < 999983 := by rw [hm]; exact chkT_lt hc _
  intro _
  simp only [gx]
  refine iLt (iCndP (fun h => ?_) (fun h => ?_))
  · have hil : i < t.length := by omega
    refine iIaBT (hs.ext x2) hil ?_
    have hb := (t.getD i 0).toNat_lt
    refine iMul (by omega) (iConv64 (by omega) (iAdd (by omega) (iRem (by omega) ?_)))
    refine iAdd (by omega) ?_
    rw [chk_step]
    refine hKn ((37 * m + (t.getD i 0).toNat) % 999983, i + 1) _ ⟨hil, ?_, x2⟩ (by show t.length - (i + 1) < t.length - i; omega)
    show _ = chkT c (t.take (i + 1))
    rw [take_snoc hil, chkT_snoc, ← hm]
  · have e : i = t.length := by omega
    subst e
    rw [List.take_length] at hm
    rw [hm]
    exact ⟨rfl, x1.trans x2⟩
theorem ok_spec_l35Check {t : Str} (ht : t.length ≤ 1099511627776) (w : World) : Ret Tryz.prog f_spec_l35Check #[sv t] w (.int .i64 (chkT 11 t : Int)) := by
  apply c_spec_l35Check; unfold S_spec_l35Check
  refine iLp (fun s : Nat × Nat => [.int .i64 (s.1 : Int), .int .i64 (s.2 : Int)]) (fun s w' => s.2 ≤ t.length ∧ s.1 = chkT 11 (t.take s.2) ∧ Ext w w') (fun s => t.length - s.2) (11, 0) rfl ⟨Nat.zero_le _, rfl, Ext.refl _⟩ ?_
  rintro ⟨m, i⟩ w2 Kn ⟨hi, hm, x2⟩ hKn
  have hi : i ≤ t.length := hi
  have hm : m = chkT 11 (t.take i) := hm
  have hml : m < 999983 := by rw [hm]; exact chkT_lt (by omega) _
  intro _
  simp only [gx]
  refine iLenT (iLt (iCndP (fun h => ?_) (fun h => ?_)))
  · have hil : i < t.length := by omega
    have hb := (t.getD i 0).toNat_lt
    refine iMul (by omega) ?_
    refine iIs hil ?_
    refine iConv64 (by omega) (iAdd (by omega) (iRem (by omega) ?_))
    refine iAdd (by omega) ?_
    rw [chk_step]
    refine hKn ((37 * m + (t.getD i 0).toNat) % 999983, i + 1) _ ⟨hil, ?_, x2⟩ (by show t.length - (i + 1) < t.length - i; omega)
    show _ = chkT 11 (t.take (i + 1))
    rw [take_snoc hil, chkT_snoc, ← hm]
  · have e : i = t.length := by omega
    subst e
    rw [List.take_length] at hm
    rw [hm]
    exact ⟨rfl, x2⟩
theorem ok_impl_decimal {n : Nat} (hn : n ≤ 1099511627776) {w : World} (hT : TabOk w) : Ret Tryz.prog f_impl_decimal #[.int .i64 (n : Int)] w (sv (decT n)) := by
  apply c_impl_decimal; unfold S_impl_decimal
  refine iRet (v := sv (decT n)) ?_ fun w' x => ⟨rfl, x⟩
  apply c_strconv_FormatInt; unfold S_strconv_FormatInt
  refine iCall (Cal.mono (R := fun v w' => v = sv (decT n) ∧ Ext w w') ⟨⟨_, laysM246.f246, by kernel_rfl, by kernel_rfl⟩, ?_⟩ fun v w' h => h)
  refine (Go.Proofs.Any.internal_strconv_FormatInt_10 laysM246 (n : Int) (by omega) (by omega) w hT).mono ?_
  rintro e w' ⟨rfl, k, os, rfl⟩
  refine ⟨_, rfl, ?_, Lib.below_grow _ _ (Nat.le_refl _) _ _⟩
  have : Lib.itoa (n : Int) = decT n := by
    unfold Lib.itoa
    rw [if_neg (by omega), Int.toNat_natCast]
  rw [this]
theorem ok_spec_l01Dec : ∀ {n : Nat}, n ≤ 1099511627776 → ∀ w : World, Ret Tryz.prog f_spec_l01Dec #[.int .i64 (n : Int)] w (sv (decT n)) := by
  intro n
  induction n using Nat.strongRecOn with
  | _ n ih =>
    intro hn w
    apply c_spec_l01Dec; unfold S_spec_l01Dec
    have hchr : ∀ d : Nat, d < 10 → ((48 : Int) + (d : Int)) = ((UInt8.ofNat (48 + d)).toNat : Int) := fun d hd => by
      rw [UInt8.toNat_ofNat', Nat.mod_eq_of_lt (by omega)]; omega
    have hcv : ∀ {d : Nat} {K : Value → Prop}, d < 10 → K (.int .u8 ((UInt8.ofNat (48 + d)).toNat : Int)) → xConv .u8 (.int .i64 ((48 : Int) + (d : Int))) K := fun {d K} hd h => by
      refine ⟨_, _, rfl, ?_⟩
      rw [show IntKind.u8.wrap ((48 : Int) + (d : Int)) = ((UInt8.ofNat (48 + d)).toNat : Int) by
        rw [hchr d hd]; simp [IntKind.wrap, IntKind.bits, IntKind.signed]]
      exact h
    refine iLt (iCndP (fun h => ?_) (fun h => ?_))
    · refine iAdd (by omega) ?_
      refine hcv (by omega) ?_
      refine iChr u_Suint8 (by kernel_rfl) Tryz.underlying9 rfl fun w1 x1 => ⟨?_, x1⟩
      rw [show decT n = [UInt8.ofNat (48 + n)] from by unfold decT; rw [Lib.decDigits, dif_pos (by omega)]]
    · refine iQuo (by omega) ?_
      rw [show (n : Int) / 10 = ((n / 10 : Nat) : Int) by omega]
      refine iRetQ (fun w' hw' => ih (n / 10) (by omega) (by omega) w') ?_
      refine iRem (by omega) ?_
      rw [show (n : Int) % 10 = ((n % 10 : Nat) : Int) by omega]
      refine iAdd (by omega) ?_
      refine hcv (by omega) ?_
      intro w2 x2
      refine iChrE u_Suint8 (by kernel_rfl) Tryz.underlying9 rfl fun w3 x3 => ?_
      have hl := decT_len (n / 10)
      refine iCat (by simp only [List.length_cons, List.length_nil]; omega) ?_
      intro w4 x4
      exact ⟨by rw [decT_rec (n := n) (by omega)], (x2.trans x3).trans x4⟩
end Go.Proofs.YtapdkkijoflcpaaGreatDoor

/- Contracts: entries as texts, entries of words, in the program and in the reference. Conditions: the table of powers of ten. -/
namespace Go.Vc
theorem entOf_let {W : List Str} (h : W.length = 3) (h0 : gt W 0 = kLet) : entOf W = ⟨1, gt W 1, gt W 2⟩ := by
  rcases W with _ | ⟨a, _ | ⟨b, _ | ⟨c, _ | ⟨d, r⟩⟩⟩⟩ <;> simp at h
  have h0 : a = kLet := h0
  subst h0; rfl
theorem entOf_drop {W : List Str} (h : W.length = 2) (h0 : gt W 0 = kDrop) : entOf W = ⟨2, gt W 1, []⟩ := by
  rcases W with _ | ⟨a, _ | ⟨b, _ | ⟨c, r⟩⟩⟩ <;> simp at h
  have h0 : a = kDrop := h0
  subst h0; rfl
theorem entOf_claim {W : List Str} (h : W.length = 2) (h0 : gt W 0 = kClaim) : entOf W = ⟨3, gt W 1, []⟩ := by
  rcases W with _ | ⟨a, _ | ⟨b, _ | ⟨c, r⟩⟩⟩ <;> simp at h
  have h0 : a = kClaim := h0
  subst h0; rfl
theorem entOf_no {W : List Str} (h1 : ¬ (W.length = 3 ∧ gt W 0 = kLet)) (h2 : ¬ (W.length = 2 ∧ gt W 0 = kDrop)) (h3 : ¬ (W.length = 2 ∧ gt W 0 = kClaim)) : entOf W = ⟨0, [], []⟩ := by
  unfold entOf
  split
  · rename_i k a b
    rw [if_neg fun e : k = kLet => h1 ⟨rfl, e⟩]
  · rename_i k a
    rw [if_neg fun e : k = kDrop => h2 ⟨rfl, e⟩, if_neg fun e : k = kClaim => h3 ⟨rfl, e⟩]
  · rfl
theorem lineC_app (t : Str) (e : Ent) : t ++ lineC (chkT 11 t) e = (t ++ lineT e) ++ 32 :: (decT (chkT 11 (t ++ lineT e)) ++ [10]) := by
  unfold lineC
  rw [chkT_app, List.append_assoc]
/-- How long an entry is. -/
def Ent.sz (e : Ent) : Nat := e.nm.length + e.fm.length
theorem lineT_len (e : Ent) : (lineT e).length ≤ e.sz + 6 := by
  unfold lineT Ent.sz
  split
  · simp [kLet] <;> omega
  · split
    · simp [kDrop] <;> omega
    · simp [kClaim] <;> omega
end Go.Vc
namespace Go.Proofs.YtapdkkijoflcpaaGreatDoor
open Go.Vc
theorem ok_impl_entryText {e : Ent} (hl : e.sz ≤ 1099511627776) (w : World) : Ret Tryz.prog f_impl_entryText #[e.val] w (sv (lineT e)) := by
  apply c_impl_entryText; unfold S_impl_entryText
  unfold Ent.sz at hl
  refine iNew3 fun q w1 hq x1 hB => ?_
  refine iFa (iLdB hB rfl ?_)
  refine iEq (iCndP (fun h => ?_) (fun h => ?_))
  · refine iFa (iLdB hB rfl ?_)
    refine iCat (a := [108, 101, 116, 32]) (by simp only [List.length_cons, List.length_nil]; omega) ?_
    refine iCat (b := [32]) (by simp only [List.length_append, List.length_cons, List.length_nil]; omega) ?_
    refine iFa (iLdB hB rfl ?_)
    refine iCat (by simp only [List.length_append, List.length_cons, List.length_nil]; omega) ?_
    exact ⟨by unfold lineT; rw [if_pos h]; simp [kLet], x1⟩
  · refine iEq (iCndP (fun h2 => ?_) (fun h2 => ?_))
    · refine iFa (iLdB hB rfl ?_)
      refine iCat (a := [100, 114, 111, 112, 32]) (by simp only [List.length_cons, List.length_nil]; omega) ?_
      exact ⟨by unfold lineT; rw [if_neg h, if_pos h2]; simp [kDrop], x1⟩
    · refine iFa (iLdB hB rfl ?_)
      refine iCat (a := [99, 108, 97, 105, 109, 32]) (by simp only [List.length_cons, List.length_nil]; omega) ?_
      exact ⟨by unfold lineT; rw [if_neg h, if_neg h2]; simp [kClaim], x1⟩
theorem ok_spec_l35Line {e : Ent} (hl : e.sz ≤ 1099511627776) (w : World) : Ret Tryz.prog f_spec_l35Line #[e.val] w (sv (lineT e)) := by
  apply c_spec_l35Line; unfold S_spec_l35Line
  unfold Ent.sz at hl
  refine iNew3 fun q w1 hq x1 hB => ?_
  refine iFa (iLdB hB rfl ?_)
  refine iEq (iCndP (fun h => ?_) (fun h => ?_))
  · refine iFa (iLdB hB rfl ?_)
    refine iCat (a := [108, 101, 116, 32]) (by simp only [List.length_cons, List.length_nil]; omega) ?_
    refine iCat (b := [32]) (by simp only [List.length_append, List.length_cons, List.length_nil]; omega) ?_
    refine iFa (iLdB hB rfl ?_)
    refine iCat (by simp only [List.length_append, List.length_cons, List.length_nil]; omega) ?_
    exact ⟨by unfold lineT; rw [if_pos h]; simp [kLet], x1⟩
  · refine iEq (iCndP (fun h2 => ?_) (fun h2 => ?_))
    · refine iFa (iLdB hB rfl ?_)
      refine iCat (a := [100, 114, 111, 112, 32]) (by simp only [List.length_cons, List.length_nil]; omega) ?_
      exact ⟨by unfold lineT; rw [if_neg h, if_pos h2]; simp [kDrop], x1⟩
    · refine iFa (iLdB hB rfl ?_)
      refine iCat (a := [99, 108, 97, 105, 109, 32]) (by simp only [List.length_cons, List.length_nil]; omega) ?_
      exact ⟨by unfold lineT; rw [if_neg h, if_neg h2]; simp [kClaim], x1⟩
theorem ok_impl_journal_line {b c : Nat} {vi ve : Value} {tx : Str} {e : Ent} {w : World} (hB : Blk 50 w b [vi, ve, sv tx, .int .i64 (c : Int)]) (hc : c < 999983) (hl : e.sz ≤ 68719476736) (hT : TabOk w) :
    Ret Tryz.prog f_impl_journal_line #[.pointer (some ⟨b, 0, none⟩), e.val] w (sv (lineC c e)) := by
  apply c_impl_journal_line; unfold S_impl_journal_line
  have hll := lineT_len e
  refine iNew3 fun q w1 hq x1 hQ => ?_
  refine iLd3 hQ ?_
  refine iRet (ok_impl_entryText (e := e) (by omega) w1) fun w2 x2 => ?_
  refine iCat (b := [32]) (by simp only [List.length_cons, List.length_nil]; omega) ?_
  refine iNil (iFa (iLdB ((hB.ext x1).ext x2) rfl ?_))
  refine iRet (ok_impl_checkOf hc (by omega) w2) fun w3 x3 => ?_
  have hlt := chkT_lt hc (lineT e)
  have hdl := decT_len (chkT c (lineT e))
  refine iRet (ok_impl_decimal (by omega) (((hT.ext x1).ext x2).ext x3)) fun w4 x4 => ?_
  refine iCat (by simp only [List.length_append, List.length_cons, List.length_nil]; omega) ?_
  refine iCat (b := [10]) (by simp only [List.length_append, List.length_cons, List.length_nil]; omega) ?_
  exact ⟨by unfold lineC; simp, ((x1.trans x2).trans x3).trans x4⟩
theorem ok_spec_l35Put {tx : Str} {e : Ent} (ht : tx.length ≤ 68719476736) (hl : e.sz ≤ 68719476736) (w : World) : Ret Tryz.prog f_spec_l35Put #[sv tx, e.val] w (sv (tx ++ lineC (chkT 11 tx) e)) := by
  apply c_spec_l35Put; unfold S_spec_l35Put
  have hll := lineT_len e
  refine iNew3 fun q w1 hq x1 hQ => ?_
  refine iLd3 hQ ?_
  refine iRet (ok_spec_l35Line (e := e) (by omega) w1) fun w2 x2 => ?_
  refine iCat (by omega) ?_
  refine iCat (b := [32]) (by simp only [List.length_append, List.length_cons, List.length_nil]; omega) ?_
  refine iRet (ok_spec_l35Check (by rw [List.length_append]; omega) w2) fun w3 x3 => ?_
  have hlt := chkT_lt (show 11 < 999983 by omega) (tx ++ lineT e)
  have hdl := decT_len (chkT 11 (tx ++ lineT e))
  refine iRet (ok_spec_l01Dec (by omega) w3) fun w4 x4 => ?_
  refine iCat (by simp only [List.length_append, List.length_cons, List.length_nil]; omega) ?_
  refine iCat (b := [10]) (by simp only [List.length_append, List.length_cons, List.length_nil]; omega) ?_
  exact ⟨by rw [lineC_app]; simp, ((x1.trans x2).trans x3).trans x4⟩
theorem ok_impl_isEntry {e : Ent} (hl : e.sz ≤ 1099511627776) (w : World) : Ret Tryz.prog f_impl_isEntry #[e.val] w (.bool (entB e)) := by
  apply c_impl_isEntry; unfold S_impl_isEntry
  unfold Ent.sz at hl
  unfold entB
  refine iNew3 fun q w1 hq x1 hB => ?_
  refine iFa (iLdB hB rfl ?_)
  refine iEq (iCndP (fun h => ?_) (fun h => ?_))
  · rw [if_pos h]
    refine iJnB (nameOk e.nm && goodT e.fm) w1 (fun J hJ => ?_) (fun w3 x3 => fun _ => ⟨by first | trivial | rfl, x1.trans x3⟩)
    refine iFa (iLdB hB rfl ?_)
    refine iRet (ok_impl_isName (by omega) w1) fun w4 x4 => ?_
    refine iCnd (fun h2 => ?_) (fun h2 => ?_)
    · rw [h2, Bool.true_and] at hJ
      refine iFa (iLdB (hB.ext x4) rfl ?_)
      refine iRet (ok_impl_isText _ w4) fun w5 x5 => ?_
      exact hJ _ (x4.trans x5)
    · rw [h2, Bool.false_and] at hJ
      exact hJ _ x4
  · rw [if_neg h]
    refine iEq ?_
    refine iJnB (decide (e.kd = 2) || decide (e.kd = 3)) w1 (fun J hJ => ?_) (fun w3 x3 => ?_)
    · refine iCndP (fun h2 => ?_) (fun h2 => ?_)
      · rw [decide_eq_true h2, Bool.true_or] at hJ
        exact hJ _ (Ext.refl _)
      · rw [decide_eq_false h2, Bool.false_or] at hJ
        exact iEq (hJ _ (Ext.refl _))
    intro _
    simp only [gx]
    have hB3 := hB.ext x3
    refine iCnd (fun h3 => ?_) (fun h3 => ?_)
    · rw [Bool.or_eq_true, decide_eq_true_eq, decide_eq_true_eq] at h3
      rw [if_pos h3]
      refine iJnB (nameOk e.nm && decide (e.fm = [])) w3 (fun J hJ => ?_) (fun w5 x5 => fun _ => ⟨by first | trivial | rfl, (x1.trans x3).trans x5⟩)
      refine iFa (iLdB hB3 rfl ?_)
      refine iRet (ok_impl_isName (by omega) w3) fun w4 x4 => ?_
      refine iCnd (fun h2 => ?_) (fun h2 => ?_)
      · rw [h2, Bool.true_and] at hJ
        refine iFa (iLdB (hB3.ext x4) rfl ?_)
        exact iEqT (b := []) (hJ _ x4)
      · rw [h2, Bool.false_and] at hJ
        exact hJ _ x4
    · rw [Bool.or_eq_false_iff, decide_eq_false_iff_not, decide_eq_false_iff_not] at h3
      rw [if_neg (by omega)]
      exact ⟨rfl, x1.trans x3⟩
theorem ok_spec_l35Is {e : Ent} (hl : e.sz ≤ 1099511627776) (w : World) : Ret Tryz.prog f_spec_l35Is #[e.val] w (.bool (entB e)) := by
  apply c_spec_l35Is; unfold S_spec_l35Is
  unfold Ent.sz at hl
  unfold entB
  refine iNew3 fun q w1 hq x1 hB => ?_
  refine iFa (iLdB hB rfl ?_)
  refine iRet (ok_spec_l35Name (by omega) w1) fun w2 x2 => ?_
  have hB2 := hB.ext x2
  refine iNot (iCnd (fun h0 => ?_) (fun h0 => ?_))
  · rw [Bool.not_eq_true'] at h0
    refine ⟨?_, x1.trans x2⟩
    rw [h0, Bool.false_and, Bool.false_and]; simp
  rw [Bool.not_eq_false'] at h0
  rw [h0, Bool.true_and, Bool.true_and]
  refine iFa (iLdB hB2 rfl ?_)
  refine iEq (iCndP (fun h => ?_) (fun h => ?_))
  · rw [if_pos h]
    refine iFa (iLdB hB2 rfl ?_)
    refine iCall ((ok_spec_l02Good _ w2).mono ?_)
    rintro r w3 ⟨x3, v, rfl, -⟩
    exact iE20 (iE21 ⟨by first | trivial | rfl, (x1.trans x2).trans x3⟩)
  · rw [if_neg h]
    refine iEq ?_
    refine iJnB (decide (e.kd = 2) || decide (e.kd = 3)) w2 (fun J hJ => ?_) (fun w3 x3 => ?_)
    · refine iCndP (fun h2 => ?_) (fun h2 => ?_)
      · rw [decide_eq_true h2, Bool.true_or] at hJ
        exact hJ _ (Ext.refl _)
      · rw [decide_eq_false h2, Bool.false_or] at hJ
        exact iEq (hJ _ (Ext.refl _))
    intro _
    simp only [gx]
    refine iCnd (fun h3 => ?_) (fun h3 => ?_)
    · rw [Bool.or_eq_true, decide_eq_true_eq, decide_eq_true_eq] at h3
      rw [if_pos h3]
      refine iFa (iLdB (hB2.ext x3) rfl ?_)
      exact iEqT (b := []) ⟨by first | trivial | rfl, (x1.trans x2).trans x3⟩
    · rw [Bool.or_eq_false_iff, decide_eq_false_iff_not, decide_eq_false_iff_not] at h3
      rw [if_neg (by omega)]
      exact ⟨rfl, (x1.trans x2).trans x3⟩
theorem ok_impl_entryOf {v : Value} {W : List Str} {w : World} (hs : SlT w v W) : Ret Tryz.prog f_impl_entryOf #[v] w (entOf W).val := by
  apply c_impl_entryOf; unfold S_impl_entryOf
  refine iNew3 fun q w1 hq x1 hB => ?_
  have key : ∀ (n : Nat) (k : Str) (w2 : World) (J : List Value → World → Prop), SlT w2 v W → 0 < n → (∀ w4, Ext w2 w4 → J [.bool (decide (W.length = n) && decide (gt W 0 = k))] w4) →
      xLenS v fun u => xEq .i64 u (.int .i64 (n : Int)) fun y => cnd y (xIa 1 v (.int .i64 0) fun p => xLd w2 p fun x => xStr .eql x (sv k) fun z => J [z] w2) (J [.bool false] w2) := fun n k w2 J hs2 hn hJ => by
    refine iLenStr hs2 (iEq (iCndP (fun h => ?_) (fun h => ?_)))
    · rw [decide_eq_true (show W.length = n by omega), Bool.true_and] at hJ
      refine iIaG (L := W) hs2 (j := 0) rfl (by omega) ?_
      exact iEqT (hJ _ (Ext.refl _))
    · rw [decide_eq_false (show ¬ W.length = n by omega), Bool.false_and] at hJ
      exact hJ _ (Ext.refl _)
  refine iJnB (decide (W.length = 3) && decide (gt W 0 = kLet)) w1 (fun J hJ => key 3 kLet w1 J (Sl.ext hs x1) (by omega) hJ) (fun w3 x3 => ?_)
  intro _
  simp only [gx]
  have X3 := x1.trans x3
  have hs3 : SlT w3 v W := Sl.ext hs X3
  have hB3 := hB.ext x3
  have fin : ∀ (kd : Int) (a b : Str) (w4 : World), Ext w3 w4 → entOf W = ⟨kd, a, b⟩ → xStA Tryz.prog w4 3 (.pointer (some ⟨q, 0, none⟩)) (.agg #[.int .i64 kd, sv a, sv b]) fun w5 => ∀ w6, Ext w5 w6 → xLdA w6 3 (.pointer (some ⟨q, 0, none⟩)) fun r => r = (entOf W).val ∧ Ext w w6 := fun kd a b w4 x4 he => by
    refine iSt3 (hB3.ext x4) rfl rfl rfl rfl fun w5 hB5 hc5 => ?_
    intro w6 x6
    refine iLd3 (hB5.ext x6) ⟨?_, ((X3.trans x4).thenCh hc5 fun c hc => by omega).trans x6⟩
    rw [he]; rfl
  refine iCnd (fun h => ?_) (fun h => ?_)
  · rw [Bool.and_eq_true, decide_eq_true_eq, decide_eq_true_eq] at h
    refine iIaG (L := W) hs3 (j := 1) rfl (by omega) ?_
    refine iIaG (L := W) hs3 (j := 2) rfl (by omega) ?_
    refine iBuild (cs := #[.int .i64 1, sv (gt W 1), sv (gt W 2)]) (by simp [Instr.fill, Value.cells]) ?_
    intro w4 x4
    exact fin _ _ _ w4 x4 (entOf_let h.1 h.2)
  have h1 : ¬ (W.length = 3 ∧ gt W 0 = kLet) := fun e => by rw [decide_eq_true e.1, decide_eq_true e.2] at h; cases h
  have fin2 : ∀ (kd : Int) (a b : Str) (w4 : World), Ext w3 w4 → entOf W = ⟨kd, a, b⟩ → xStA Tryz.prog w4 3 (.pointer (some ⟨q, 0, none⟩)) (.agg #[.int .i64 kd, sv a, sv b]) fun w5 => xLdA w5 3 (.pointer (some ⟨q, 0, none⟩)) fun r => r = (entOf W).val ∧ Ext w w5 := fun kd a b w4 x4 he => by
    refine iSt3 (hB3.ext x4) rfl rfl rfl rfl fun w5 hB5 hc5 => ?_
    refine iLd3 hB5 ⟨?_, (X3.trans x4).thenCh hc5 fun c hc => by omega⟩
    rw [he]; rfl
  refine iJnB (decide (W.length = 2) && decide (gt W 0 = kDrop)) w3 (fun J hJ => key 2 kDrop w3 J hs3 (by omega) hJ) (fun w9 x9 => ?_)
  intro _
  simp only [gx]
  have hs9 : SlT w9 v W := Sl.ext hs3 x9
  refine iCnd (fun h => ?_) (fun h => ?_)
  · rw [Bool.and_eq_true, decide_eq_true_eq, decide_eq_true_eq] at h
    refine iIaG (L := W) hs9 (j := 1) rfl (by omega) ?_
    refine iBuild (cs := #[.int .i64 2, sv (gt W 1), sv []]) (by simp [Instr.fill, Value.cells]) ?_
    exact fin2 _ _ _ w9 x9 (entOf_drop h.1 h.2)
  have h2 : ¬ (W.length = 2 ∧ gt W 0 = kDrop) := fun e => by rw [decide_eq_true e.1, decide_eq_true e.2] at h; cases h
  refine iJnB (decide (W.length = 2) && decide (gt W 0 = kClaim)) w9 (fun J hJ => key 2 kClaim w9 J hs9 (by omega) hJ) (fun w13 x13 => ?_)
  intro _
  simp only [gx]
  have X13 := x9.trans x13
  refine iCnd (fun h => ?_) (fun h => ?_)
  · rw [Bool.and_eq_true, decide_eq_true_eq, decide_eq_true_eq] at h
    refine iIaG (L := W) (Sl.ext hs9 x13) (j := 1) rfl (by omega) ?_
    refine iBuild (cs := #[.int .i64 3, sv (gt W 1), sv []]) (by simp [Instr.fill, Value.cells]) ?_
    exact fin2 _ _ _ w13 X13 (entOf_claim h.1 h.2)
  have h3 : ¬ (W.length = 2 ∧ gt W 0 = kClaim) := fun e => by rw [decide_eq_true e.1, decide_eq_true e.2] at h; cases h
  refine iBuild (cs := #[.int .i64 0, sv [], sv []]) (by simp [Instr.fill]) ?_
  exact fin2 _ _ _ w13 X13 (entOf_no h1 h2 h3)
end Go.Proofs.YtapdkkijoflcpaaGreatDoor

/- Contracts: the program's journal: entered, enter, readJournal. Conditions: the table of powers of ten. -/
namespace Go.Vc
def cellsE (L : List Ent) : List Value := L.flatMap Ent.cs
theorem cellsE_app (L M : List Ent) : cellsE (L ++ M) = cellsE L ++ cellsE M := by simp [cellsE]
theorem cellsI_set {L : List Itm} {i : Nat} (x : Itm) (hi : i < L.length) : cellsI (L.set i x) = putL (cellsI L) (i * 3) x.cs := by
  unfold putL
  rw [List.set_eq_take_append_cons_drop, if_pos hi, cellsI_take, show i * 3 + x.cs.length = (i + 1) * 3 by show i * 3 + 3 = _; omega, cellsI_drop]
  simp [cellsI]
section
variable {P : Program} {w : World} {e : TypeId} {g cap : Nat} {cur : List Value}
/-- A struct stored in a row. -/
theorem iStR {n l : Nat} {k : IntKind} {a b c : Value} {K : World → Prop} (hR : Rw e w g cap cur) (hl : l < n) (hn : n ≤ cap) (ha : isCell a = true) (hb : isCell b = true) (hc : isCell c = true)
    (h : ∀ w', Rw e w' g cap (putL cur (l * 3) [a, b, c]) → Ch (fun c => c = g) w w' → K w') : xIa 3 (.slice (some ⟨g, 0, none⟩) n cap) (.int k (l : Int)) fun p => xStA P w 3 p (.agg #[a, b, c]) K := by
  have hcl := hR.2.1
  refine ⟨_, _, _, _, _, rfl, rfl, by omega, by omega, ?_⟩
  rw [Int.toNat_natCast, addr_add, Nat.zero_add]
  have hst := run_storeCells_at P g (l * 3) e [a, b, c] 0 cur.toArray w hR.1 (by simp only [List.size_toArray, List.length_cons, List.length_nil]; omega) (fun u hu => isCell_one (by simp at hu; rcases hu with rfl | rfl | rfl <;> assumption))
  simp only [Nat.add_zero] at hst
  obtain ⟨h1, h2⟩ := hR.set (cur' := putL cur (l * 3) [a, b, c]) (putL_len (by simp only [List.length_cons, List.length_nil]; omega))
  exact ⟨_, _, rfl, by simp [Value.cells], by simpa [Value.cells, putL] using hst, h _ h1 h2⟩
/-- A cell of a row stored. -/
theorem iStRC {o : Nat} {u : Value} {K : World → Prop} (hR : Rw e w g cap cur) (ho : o < cap * 3) (hu : isCell u = true)
    (h : ∀ w', Rw e w' g cap (cur.set o u) → Ch (fun c => c = g) w w' → K w') : xSt w (.pointer (some ⟨g, o, none⟩)) u K := by
  have hcl := hR.2.1
  refine iStB hR.1 (by omega) hu fun h2 => h _ ⟨h2, by rw [List.length_set]; exact hR.2.1, hR.2.2⟩ ((Upd.setCell w g o u).ch rfl)
theorem iStRF {n l f : Nat} {k : IntKind} {u : Value} {K : World → Prop} (hR : Rw e w g cap cur) (hl : l < n) (hn : n ≤ cap) (hf : f < 3) (hu : isCell u = true)
    (h : ∀ w', Rw e w' g cap (cur.set (l * 3 + f) u) → Ch (fun c => c = g) w w' → K w') : xIa 3 (.slice (some ⟨g, 0, none⟩) n cap) (.int k (l : Int)) fun p => xFa f p fun q => xSt w q u K := by
  refine ⟨_, _, _, _, _, rfl, rfl, by omega, by omega, ?_⟩
  rw [Int.toNat_natCast, addr_add, Nat.zero_add]
  exact iFa (iStRC hR (by omega) hu h)
theorem putL_in {cur : List Value} {o n : Nat} {ys : List Value} (h : o + ys.length ≤ n) (hn : n ≤ cur.length) : (putL cur o ys).take n = putL (cur.take n) o ys := by
  rw [putL_over (by omega) h]
  unfold putL
  rw [List.take_take, Nat.min_eq_left (by omega), List.drop_take]
/-- One element of three cells. -/
theorem iBs31 {t : TypeId} {z0 z1 z2 a b c : Value} {K : Value → World → Prop} (h : ∀ q w', q = w.heap.size ∧ w'.heap.size = q + 1 → Ext w w' → Blk t w' q [a, b, c] → K (.slice (some ⟨q, 0, none⟩) 1 1) w') :
    xBs t (Value.cells (.agg #[z0, z1, z2])) 3 1 [(0, .agg #[a, b, c])] w K := by
  refine ⟨#[a, b, c], ?_, h _ _ ⟨rfl, by simp⟩ (Ext.alloc w _) (Blk.new w #[a, b, c] t)⟩
  simp [Instr.fill, Value.cells, show Array.range 3 = #[0, 1, 2] from rfl]
theorem OwK.ne_own {k k' lo lo' n n' : Nat} {e' : TypeId} {v v' : Value} {xs xs' : List Value} (h : OwK k lo e w v n xs) (h' : OwK k' lo' e' w v' n' xs') (hne : e ≠ e') : ∀ c, v.ownBlock = some c → ¬ v'.ownBlock = some c := by
  intro c hc hc'
  obtain ⟨cur, h1⟩ := h.ty hc
  obtain ⟨cur', h2⟩ := h'.ty hc'
  rw [h1] at h2
  injection h2 with h2
  injection h2 with _ h2 _
  exact hne h2
end
end Go.Vc
namespace Go.Proofs.YtapdkkijoflcpaaGreatDoor
open Go.Vc
abbrev EnW (lo : Nat) (w : World) (v : Value) (L : List Ent) : Prop := OwK 3 lo t_impl_Entry w v L.length (cellsE L)
/-- The program's journal in memory, beyond w0. -/
structure JnW (w0 w : World) (b : Nat) (vi ve : Value) (j : Jn) : Prop where
  lo : w0.heap.size ≤ b
  blk : Blk 50 w b [vi, ve, sv j.text, .int .i64 (j.chk : Int)]
  it : ItW w0.heap.size w vi j.items
  en : EnW w0.heap.size w ve j.ents
  ji : JI j.items
theorem JnW.ext {w0 w w' : World} {b : Nat} {vi ve : Value} {j : Jn} (h : JnW w0 w b vi ve j) (x : Ext w w') : JnW w0 w' b vi ve j := ⟨h.lo, h.blk.ext x, h.it.ext x, h.en.ext x, h.ji⟩
theorem jn_ne_it {w0 w : World} {b : Nat} {vi ve : Value} {j : Jn} (h : JnW w0 w b vi ve j) : vi.ownBlock ≠ some b := h.it.ne_blk h.blk (by decide)
theorem ok_impl_entered {w0 w : World} {v : Value} {L : List Itm} {e : Ent} (h0 : Ext w0 w) (hs : ItW w0.heap.size w v L) (hJ : JI L) :
    Cal Tryz.prog f_impl_entered #[v, e.val] w fun r w' => Ext w0 w' ∧ ∃ v', match stepI L e with
      | some L' => r = .tuple #[v', .bool true] ∧ ItW w0.heap.size w' v' L' ∧ Ch (fun c => v.ownBlock = some c) w w' ∧ (v'.ownBlock = v.ownBlock ∨ ∃ c, v'.ownBlock = some c ∧ w.heap.size ≤ c)
      | none => r = .tuple #[v', .bool false] ∧ Ext w w' := by
  apply c_impl_entered; unfold S_impl_entered
  have hLl := hJ.len
  refine iNew3 fun q w1 hq x1 hB => ?_
  refine iFa (iLdB hB rfl ?_)
  have hs1 := hs.ext x1
  refine iCall ((ok_impl_itemAt (n := e.nm) hs1.sl (by omega)).mono ?_)
  rintro r w2 ⟨x2, i, y, rfl, hF⟩
  have hin := hJ.incI
  have hy := hF.2.2 hin
  have hp : posI L e.nm = i := pos_at hF.1.1 (hF.1.2 hin).1 (hF.1.2 hin).2
  have X2 := x1.trans x2
  have X02 := h0.trans X2
  have hB2 := hB.ext x2
  have hs2 := hs1.ext x2
  have hown : ∀ c, v.ownBlock = some c → w0.heap.size ≤ c := fun c hc => (hs.blk c hc).1
  have s0 := h0.size
  refine iE20 (iE21 ?_)
  refine iFa (iLdB hB2 rfl ?_)
  refine iEq (iCndP (fun hk => ?_) (fun hk => ?_))
  · refine iFa (iLdB hB2 rfl (iFa (iLdB hB2 rfl ?_)))
    refine iBuild (cs := #[sv e.nm, sv e.fm, .int .i64 0]) (by simp [Instr.fill, Value.cells]) ?_
    refine iNew3 fun q3 w3 hq3 x3 hB3 => ?_
    refine iSt3 hB3 rfl rfl rfl rfl fun w4 hB4 hc4 => ?_
    have s2 := X2.size
    have X4 : Ext w w4 := (X2.trans x3).thenCh hc4 fun c hc => by omega
    have hs4 : ItW w0.heap.size w4 v L := hs.ext X4
    refine iCnd (fun hy1 => ?_) (fun hy1 => ?_)
    · obtain ⟨hil, hnm⟩ := hF.2.1 hy1
      refine iLd3 hB4 ?_
      obtain ⟨g, cap, cur, rfl, hg, hcap, hR, hx⟩ := hs4.rw (by omega)
      refine iStR (n := L.length) hR hil hcap rfl rfl rfl fun w5 hR5 hc5 => ?_
      have hst : stepI L e = some (L.set i ⟨e.nm, e.fm, 0⟩) := by
        unfold stepI
        rw [if_pos hk, if_pos (hy.symm.trans hy1), hp]
      have hS : ∀ c, c = g → (Value.slice (some ⟨g, 0, none⟩) L.length cap).ownBlock = some c := fun c e => by rw [e]; rfl
      have hcl := hR.2.1
      refine ⟨(h0.trans X4).thenCh hc5 fun c hc => by omega, .slice (some ⟨g, 0, none⟩) L.length cap, ?_⟩
      rw [hst]
      refine ⟨rfl, ?_, X4.ch.trans (hc5.mono hS) fun _ h => .inl h, .inl rfl⟩
      show OwK 3 _ _ w5 _ (L.set i ⟨e.nm, e.fm, 0⟩).length _
      rw [List.length_set, cellsI_set _ hil, ← hx, ← putL_in (by show i * 3 + 3 ≤ _; omega) (by omega)]
      exact hR5.own hg hcap rfl
    · have hno : hasI L e.nm = false := hy.symm.trans hy1
      refine iLenK hs4.sl (iEq (iCndP (fun h12 => ?_) (fun h12 => ?_)))
      · have hst : stepI L e = none := by
          unfold stepI
          rw [if_pos hk, if_neg (by rw [hno]; decide), if_pos (by omega)]
        refine ⟨h0.trans X4, v, ?_⟩
        rw [hst]
        exact ⟨rfl, X4⟩
      · have hst : stepI L e = some (L.take i ++ ⟨e.nm, e.fm, 0⟩ :: L.drop i) := by
          unfold stepI
          rw [if_pos hk, if_neg (by rw [hno]; decide), if_neg (by omega), hp]
        refine iLd3 hB4 ?_
        refine iBs31 fun q6 w6 hq6 x6 hB6 => ?_
        have X6 := X4.trans x6
        refine iCall ((ok_slices_InsertI (x := ⟨e.nm, e.fm, 0⟩) (hs4.ext x6) (by have := (h0.trans X6).size; omega) (by omega) hF.1.1 hB6 (fun hc => by have := (hs4.blk _ hc).2; omega)).mono ?_)
        rintro r w7 ⟨hi7, hc7, ho7⟩
        refine ⟨(h0.trans X6).thenCh hc7 fun c hc => hown c hc, r, ?_⟩
        rw [hst]
        refine ⟨rfl, hi7, X6.ch.trans hc7 fun _ h => .inl h, ho7.imp id fun ⟨c, h1, h2⟩ => ⟨c, h1, by have := X6.size; omega⟩⟩
  · refine iEq (iCndP (fun hk2 => ?_) (fun hk2 => ?_))
    · refine iNot (iCnd (fun hy1 => ?_) (fun hy1 => ?_))
      · have hno : hasI L e.nm = false := by rw [Bool.not_eq_true'] at hy1; exact hy.symm.trans hy1
        have hst : stepI L e = none := by
          unfold stepI
          rw [if_neg hk, if_pos hno]
        refine ⟨X02, v, ?_⟩
        rw [hst]
        exact ⟨rfl, X2⟩
      · rw [Bool.not_eq_false'] at hy1
        obtain ⟨hil, hnm⟩ := hF.2.1 hy1
        have hst : stepI L e = some (L.take i ++ L.drop (i + 1)) := by
          unfold stepI
          rw [if_neg hk, if_neg (by rw [← hy, hy1]; decide), if_pos hk2, hp]
        refine iAdd (by omega) ?_
        rw [show (i : Int) + 1 = ((i + 1 : Nat) : Int) by omega]
        refine iCall ((ok_slices_DeleteI hs2 hil (by omega)).mono ?_)
        rintro r w7 ⟨hi7, hc7, ho7⟩
        refine ⟨X02.thenCh hc7 fun c hc => hown c hc, r, ?_⟩
        rw [hst]
        exact ⟨rfl, hi7, X2.ch.trans hc7 fun _ h => .inl h, .inl ho7⟩
    · refine iJnB (!(y && claimB (gt L i).fm)) w2 (fun J hJ' => ?_) (fun w10 x10 => ?_)
      · refine iNot (iCnd (fun hy1 => ?_) (fun hy1 => ?_))
        · rw [Bool.not_eq_true'] at hy1
          rw [hy1, Bool.false_and] at hJ'
          exact hJ' _ (Ext.refl _)
        · rw [Bool.not_eq_false'] at hy1
          obtain ⟨hil, hnm⟩ := hF.2.1 hy1
          rw [hy1, Bool.true_and] at hJ'
          refine iFm hs2.sl rfl hil ?_
          have hg := (hJ.ok (gt L i) (by rw [gt_eq hil]; exact List.getElem_mem _)).2.1
          refine iRet (ok_impl_isClaimable hg w2) fun w11 x11 => ?_
          exact iNot (hJ' _ x11)
      intro _
      simp only [gx]
      have X10 := X2.trans x10
      refine iCnd (fun hc => ?_) (fun hc => ?_)
      · rw [Bool.not_eq_true', Bool.and_eq_false_iff] at hc
        have hst : stepI L e = none := by
          unfold stepI
          rw [if_neg hk]
          by_cases hh : hasI L e.nm = false
          · rw [if_pos hh]
          · rw [if_neg hh, if_neg hk2, hp]
            rcases hc with hc | hc
            · exact absurd (hy.symm.trans hc) hh
            · rw [hc]; rfl
        refine ⟨h0.trans X10, v, ?_⟩
        rw [hst]
        exact ⟨rfl, X10⟩
      · rw [Bool.not_eq_false', Bool.and_eq_true] at hc
        obtain ⟨hil, hnm⟩ := hF.2.1 hc.1
        have hst : stepI L e = some (L.set i ⟨(gt L i).nm, (gt L i).fm, 1⟩) := by
          unfold stepI
          rw [if_neg hk, if_neg (by rw [← hy, hc.1]; decide), if_neg hk2, hp, if_pos hc.2]
        have hs10 : ItW w0.heap.size w10 v L := hs.ext X10
        obtain ⟨g, cap, cur, rfl, hg, hcap, hR, hx⟩ := hs10.rw (by omega)
        refine iStRF (n := L.length) hR hil hcap (by omega) rfl fun w12 hR12 hc12 => ?_
        have hS : ∀ c, c = g → (Value.slice (some ⟨g, 0, none⟩) L.length cap).ownBlock = some c := fun c e => by rw [e]; rfl
        refine ⟨(h0.trans X10).thenCh hc12 fun c hc => by omega, .slice (some ⟨g, 0, none⟩) L.length cap, ?_⟩
        rw [hst]
        refine ⟨rfl, ?_, X10.ch.trans (hc12.mono hS) fun _ h => .inl h, .inl rfl⟩
        show OwK 3 _ _ w12 _ (L.set i ⟨(gt L i).nm, (gt L i).fm, 1⟩).length _
        rw [List.length_set, show cellsI (L.set i ⟨(gt L i).nm, (gt L i).fm, 1⟩) = (cellsI L).set (i * 3 + 2) (.int .i64 1) from (cellsI_set2 1 hil).symm, ← hx, ← List.take_set]
        exact hR12.own hg hcap rfl
end Go.Proofs.YtapdkkijoflcpaaGreatDoor

/- Contracts: the program's journal: enter, readJournal. Conditions: the table of powers of ten. -/
namespace Go.Vc
theorem chk_add (j : Jn) (e : Ent) : chkT 11 (j.text ++ lineC j.chk e) = chkT j.chk (lineC j.chk e) := chkT_app _ _ _
theorem jn_chk_lt (j : Jn) : j.chk < 999983 := chkT_lt (by omega) _
theorem hit_ex {t : Str} (h : 10 ∈ t) : ∃ l r, t = l ++ 10 :: r ∧ ∀ x ∈ l, x ≠ 10 := by
  induction t with
  | nil => cases h
  | cons a t ih =>
    by_cases ha : a = 10
    · exact ⟨[], t, by rw [ha]; rfl, by simp⟩
    · obtain ⟨l, r, e, hl⟩ := ih ((List.mem_cons.1 h).resolve_left fun e => ha e.symm)
      refine ⟨a :: l, r, by rw [e]; rfl, fun x hx => ?_⟩
      rcases List.mem_cons.1 hx with rfl | hx
      · exact ha
      · exact hl x hx
theorem entOf_sz {W : List Str} {n : Nat} (h : ∀ s ∈ W, s.length ≤ n) : (entOf W).sz ≤ 2 * n := by
  unfold entOf Ent.sz
  split
  · split
    · have := h _ (List.mem_cons_of_mem _ (List.mem_cons_self ..))
      have := h _ (List.mem_cons_of_mem _ (List.mem_cons_of_mem _ (List.mem_cons_self ..)))
      simp only; omega
    · simp
  · split
    · have := h _ (List.mem_cons_of_mem _ (List.mem_cons_self ..))
      simp only [List.length_nil]; omega
    · split
      · have := h _ (List.mem_cons_of_mem _ (List.mem_cons_self ..))
        simp only [List.length_nil]; omega
      · simp
  · simp
theorem lineC_len {c : Nat} (hc : c < 999983) (e : Ent) : (lineC c e).length ≤ e.sz + 1000000 := by
  have h1 := lineT_len e
  have h2 := decT_len (chkT c (lineT e))
  have h3 := chkT_lt hc (lineT e)
  unfold lineC
  simp only [List.length_append, List.length_cons, List.length_nil]
  omega
end Go.Vc
namespace Go.Proofs.YtapdkkijoflcpaaGreatDoor
open Go.Vc
theorem ok_impl_journal_enter {w0 w : World} {b : Nat} {vi ve : Value} {j : Jn} {e : Ent} (h0 : Ext w0 w) (hj : JnW w0 w b vi ve j) (he : entB e = true) (hl : e.sz ≤ 4294967296) (hn : j.ents.length ≤ 1048576) (ht : j.text.length ≤ 68719476736) (hT : TabOk w0) :
    Cal Tryz.prog f_impl_journal_enter #[.pointer (some ⟨b, 0, none⟩), e.val] w fun r w' => Ext w0 w' ∧ match addJ j e with
      | some j' => r = .bool true ∧ ∃ vi' ve', JnW w0 w' b vi' ve' j'
      | none => r = .bool false ∧ JnW w0 w' b vi ve j := by
  apply c_impl_journal_enter; unfold S_impl_journal_enter
  have hchk := jn_chk_lt j
  have hLl := hj.ji.len
  refine iNew3 fun q w1 hq x1 hQ => ?_
  have hj1 := hj.ext x1
  refine iNil (iFa (iLdB hj1.blk rfl ?_))
  refine iLd3 hQ ?_
  intro w2 x2
  have X2 := x1.trans x2
  have hj2 := hj1.ext x2
  have hQ2 := hQ.ext x2
  refine iCall ((ok_impl_entered (h0.trans X2) hj2.it hj.ji).mono ?_)
  rintro r w3 ⟨X03, v', hm⟩
  cases hst : stepI j.items e with
  | none =>
    rw [hst] at hm
    obtain ⟨rfl, x3⟩ := hm
    have hadd : addJ j e = none := by unfold addJ; rw [hst]; rfl
    rw [hadd]
    refine iE20 (iE21 ?_)
    intro w4 x4
    exact iNot (iCndT rfl ⟨X03.trans x4, rfl, (hj2.ext x3).ext x4⟩)
  | some L' =>
    rw [hst] at hm
    obtain ⟨rfl, hi3, hc3, ho3⟩ := hm
    have hadd : addJ j e = some ⟨L', j.ents ++ [e], j.text ++ lineC j.chk e, j.hist ++ [L']⟩ := by unfold addJ; rw [hst]; rfl
    rw [hadd]
    have hJ' := stepI_JI hj.ji he hst
    refine iE20 (iE21 ?_)
    intro w4 x4
    refine iNot (iCndF rfl ?_)
    -- what stands behind 'entered'
    have hB4 : Blk 50 w4 b [vi, ve, sv j.text, .int .i64 (j.chk : Int)] := (hj2.blk.ch hc3 (jn_ne_it hj2)).ext x4
    have hQ4 : Blk t_impl_Entry w4 q e.cs := (hQ2.ch hc3 (hj2.it.ne_blk hQ2 (by decide))).ext x4
    have hE4 : EnW w0.heap.size w4 ve j.ents := (hj2.en.ch hc3 fun c hc hd => hj2.en.ne_own hj2.it (by decide) c hc hd).ext x4
    have hI4 := hi3.ext x4
    have X04 := X03.trans x4
    refine iLd3 hQ4 ?_
    refine iRet (ok_impl_journal_line (e := e) hB4 hchk (by omega) (hT.ext X04)) fun w5 x5 => ?_
    have hB5 := hB4.ext x5
    refine iNil (iFa (iLdB hB5 rfl ?_))
    refine iLd3 (hQ4.ext x5) ?_
    intro w6 x6
    refine iBs31 fun q7 w7 hq7 x7 hB7 => ⟨x7, ?_⟩
    intro w8 x8
    have X48 := ((x5.trans x6).trans x7).trans x8
    have X08 := X04.trans X48
    have hE8 : EnW w0.heap.size w8 ve j.ents := hE4.ext X48
    refine iAppK u_Simpl_Entry i_Simpl_Entry rfl (by omega) hE8 (OwK.ofBlk (k := 3) (lo := 0) (n := 1) (hB7.ext x8) (Nat.zero_le _) rfl (by omega)).sl (by intro u hu; simp at hu; rcases hu with rfl | rfl | rfl <;> rfl) (by omega) (by omega) X08.size fun v9 w9 ho9 hg9 hb9 => ?_
    have hc9 : Ch (fun c => ve.ownBlock = some c) w8 w9 := grown_ch hg9 fun c hc => hc
    have X09 : Ext w0 w9 := X08.thenCh hc9 fun c hc => (hE8.blk c hc).1
    have hB8 := hB4.ext X48
    have hB9 : Blk 50 w9 b [vi, ve, sv j.text, .int .i64 (j.chk : Int)] := hB8.ch hc9 (hE8.ne_blk hB8 (by decide))
    have hI9 : ItW w0.heap.size w9 v' L' := (hI4.ext X48).ch hc9 fun c hc hd => (hI4.ext X48).ne_own hE8 (by decide) c hc hd
    have hblo := hj.lo
    refine iNil (iFa ?_)
    intro w10 x10
    refine iStU (hB9.ext x10) (by simp) hi3.cell fun w11 hB11 hu11 => ?_
    refine iNil (iFa ?_)
    intro w12 x12
    have ho9' : OwK 3 w0.heap.size t_impl_Entry w9 v9 (j.ents.length + 1) (cellsE j.ents ++ e.cs) := ho9
    refine iStU (hB11.ext x12) (by simp) ho9'.cell fun w13 hB13 hu13 => ?_
    intro w14 x14
    have hB14 := hB13.ext x14
    refine iNil (iFa (iLdB hB14 rfl ?_))
    have hlc := lineC_len hchk e
    refine iCat (by omega) ?_
    refine iNil (iFa ?_)
    refine iStU hB14 (by simp) rfl fun w15 hB15 hu15 => ?_
    refine iNil (iFa (iLdB hB15 rfl ?_))
    refine iRet (ok_impl_checkOf hchk (by omega) w15) fun w16 x16 => ?_
    refine iNil (iFa ?_)
    refine iStU (hB15.ext x16) (by simp) rfl fun w17 hB17 hu17 => ?_
    -- only b turned since w9
    have hSb : ∀ (c : Nat), c = b → c = b := fun _ h => h
    have C1 : Ch (fun c => c = b) w9 w11 := x10.ch.trans (hu11.ch (S := fun c => c = b) rfl) fun _ h => .inl h
    have C2 : Ch (fun c => c = b) w9 w13 := (C1.trans (x12.ch (S := fun _ => False)) fun _ h => h.elim).trans (hu13.ch (S := fun c => c = b) rfl) fun _ h => .inl h
    have C3 : Ch (fun c => c = b) w9 w15 := (C2.trans (x14.ch (S := fun _ => False)) fun _ h => h.elim).trans (hu15.ch (S := fun c => c = b) rfl) fun _ h => .inl h
    have C4 : Ch (fun c => c = b) w9 w17 := (C3.trans (x16.ch (S := fun _ => False)) fun _ h => h.elim).trans (hu17.ch (S := fun c => c = b) rfl) fun _ h => .inl h
    have X017 : Ext w0 w17 := X09.thenCh C4 fun c hc => by omega
    refine ⟨X017, rfl, v', v9, ⟨hblo, ?_, hI9.ch C4 fun c hc hd => ?_, ?_, hJ'⟩⟩
    · show Blk _ w17 b [v', v9, sv (j.text ++ lineC j.chk e), .int .i64 (chkT 11 (j.text ++ lineC j.chk e) : Int)]
      rw [chk_add]
      exact hB17
    · subst hd
      exact hI9.ne_blk hB9 (by decide) hc
    · show OwK 3 _ _ w17 v9 (j.ents ++ [e]).length (cellsE (j.ents ++ [e]))
      rw [List.length_append, cellsE_app]
      refine OwK.ch (n := j.ents.length + 1) ho9' C4 fun c hc hd => ?_
      subst hd
      exact ho9'.ne_blk hB9 (by decide) hc
end Go.Proofs.YtapdkkijoflcpaaGreatDoor
