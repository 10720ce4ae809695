/- 'den' is sound: regions. Conditions: none. -/
import Derived.Test.YtoolpnkcmlebkaaGreatVf
namespace Go.Vc

structure Ag (n : Nat) (env : Env) (a : Act) : Prop where
  defers : a.defers = []
  size : a.tmps.size = n
  vals : ∀ s, a.tmps.getD s undef = look env s
  ok : EnvOk env
/-- Outside W the two name the same values. -/
def Same (W : List Nat) (env env' : Env) : Prop := ∀ s, s ∉ W → look env' s = look env s
theorem Same.refl (W : List Nat) (env : Env) : Same W env env := fun _ _ => rfl
theorem Same.trans {W : List Nat} {a b c : Env} (h : Same W a b) (k : Same W b c) : Same W a c := fun s hs => (k s hs).trans (h s hs)
theorem Same.mono {W W' : List Nat} {a b : Env} (h : Same W a b) (hw : ∀ s, s ∈ W → s ∈ W') : Same W' a b := fun s hs => h s fun e => hs (hw s e)

theorem Ag.eval {n : Nat} {env : Env} {a : Act} (h : Ag n env a) : a.eval = ev env := by
  funext x; cases x <;> first | exact h.vals _ | rfl

theorem beq_false {a b : Nat} (h : a ≠ b) : Nat.beq a b = false := by
  cases e : Nat.beq a b with
  | false => rfl
  | true => exact absurd (Nat.eq_of_beq_eq_true e) h
theorem look_cons (s : Nat) (v : Value) (k : Option (Option Bool)) (env : Env) (t : Nat) : look (⟨s, v, k⟩ :: env) t = if s = t then v else look env t := by
  by_cases h : s = t
  · subst h; simp [look]
  · simp [look, h, beq_false h]
theorem known_cons (s : Nat) (v : Value) (k : Option (Option Bool)) (env : Env) (t : Nat) : known (⟨s, v, k⟩ :: env) t = if s = t then k else known env t := by
  by_cases h : s = t
  · subst h; simp [known]
  · simp [known, h, beq_false h]
theorem EnvOk.cons {env : Env} (h : EnvOk env) {s : Nat} {v : Value} {k : Option (Option Bool)} (hk : ∀ b, k = some b → v = kv b) : EnvOk (⟨s, v, k⟩ :: env) := by
  intro t b hb
  rw [known_cons] at hb
  rw [look_cons]
  split at hb
  · rename_i e; simp [e]; exact hk b hb
  · rename_i e; simp [e]; exact h t b hb

theorem Ag.put {n : Nat} {env : Env} {a : Act} (h : Ag n env a) {d : Nat} (hd : d < n) {v : Value} {k : Option (Option Bool)} (hk : ∀ b, k = some b → v = kv b) : Ag n (⟨d, v, k⟩ :: env) (a.put (some d) v) := by
  refine ⟨h.defers, by simp [Act.put, h.size], fun s => ?_, h.ok.cons hk⟩
  rw [look_cons]
  have hs : d < a.tmps.size := by rw [h.size]; exact hd
  by_cases e : d = s
  · subst e; simp [Act.put, hs]
  · simp only [e, if_false]
    rw [← h.vals s]
    simp [Act.put, Array.getElem?_setIfInBounds_ne e]

/-- A slot's value is learnt. -/
theorem Ag.learn {n : Nat} {env : Env} {a : Act} (h : Ag n env a) {s : Nat} {b : Bool} (hs : look env s = .bool b) : Ag n (⟨s, .bool b, some (some b)⟩ :: env) a :=
  ⟨h.defers, h.size, fun t => by
    rw [look_cons, h.vals t]
    split
    · rename_i e; subst e; exact hs
    · rfl, h.ok.cons fun b' e => by cases e; rfl⟩
theorem same_learn {W : List Nat} {env : Env} {s : Nat} {b : Bool} {k : Option (Option Bool)} (hs : look env s = .bool b) : Same W env (⟨s, .bool b, k⟩ :: env) := fun t _ => by
  rw [look_cons]
  split
  · rename_i e; subst e; exact hs.symm
  · rfl
theorem same_cons {W : List Nat} {env : Env} {s : Nat} (hs : s ∈ W) (v : Value) (k : Option (Option Bool)) : Same W env (⟨s, v, k⟩ :: env) := fun t ht => by
  rw [look_cons, if_neg]
  rintro rfl; exact ht hs

theorem putD_ok {n : Nat} {env : Env} {a : Act} {dst : Option Nat} {v : Value} {kb : Option (Option Bool)} {K : Env → Prop} {W : List Nat} (h : putD n env dst v kb K) (ha : Ag n env a)
    (hk : ∀ b, kb = some b → v = kv b) (hw : ∀ d, dst = some d → d ∈ W) : ∃ env', K env' ∧ Ag n env' (a.put dst v) ∧ Same W env env' := by
  unfold putD at h
  cases dst with
  | none => exact ⟨env, h, ha, Same.refl _ _⟩
  | some d =>
    simp only [] at h
    split at h
    · rename_i hlt
      exact ⟨_, h, ha.put (Nat.le_of_ble_eq_true hlt) hk, same_cons (hw d rfl) _ _⟩
    · exact h.elim

theorem yielded_some {n : Nat} {env : Env} {a : Act} (ha : Ag n env a) {ops : Array Oper} {j s : Nat} {b : Bool} (hs : (ops[j]?).bind (·.dst) = some s) (hb : look env s = .bool b) :
    yielded ops a.tmps j = some b := by
  have hv := ha.vals s
  rw [hb] at hv
  have : a.tmps[s]? = some (.bool b) := by
    cases e : a.tmps[s]? with
    | none => simp [e, undef] at hv
    | some x => simp [e] at hv; rw [hv]
  simp [yielded, hs, this]

/-- What 'wantD' says. -/
theorem wantD_ok {n : Nat} {env : Env} {a : Act} {ops : Array Oper} {o : Oper} {A B : Env → Prop} (h : wantD ops o env A B) (ha : Ag n env a) (W : List Nat) :
    ∃ env', Ag n env' a ∧ Same W env env' ∧ ((Region.wanted o (yielded ops a.tmps) = true ∧ A env') ∨ (Region.wanted o (yielded ops a.tmps) = false ∧ B env')) := by
  unfold wantD at h
  cases hg : o.guard with
  | none => simp only [hg] at h; exact ⟨env, ha, Same.refl _ _, .inl ⟨by simp [Region.wanted, hg], h⟩⟩
  | some jw =>
    obtain ⟨j, want⟩ := jw
    simp only [hg] at h
    cases hs : (ops[j]?).bind (·.dst) with
    | none =>
      simp only [hs] at h
      exact ⟨env, ha, Same.refl _ _, .inr ⟨by simp [Region.wanted, hg, yielded, hs], h⟩⟩
    | some s =>
      simp only [hs] at h
      cases hk : known env s with
      | some b =>
        simp only [hk] at h
        cases b with
        | none =>
          refine ⟨env, ha, Same.refl _ _, .inr ⟨?_, h⟩⟩
          have hv := ha.vals s
          rw [ha.ok s none hk] at hv
          have hy : yielded ops a.tmps j = none := by
            simp only [yielded, hs, Option.bind_some]
            cases e : a.tmps[s]? with
            | none => rfl
            | some x => simp [e, kv] at hv; rw [hv]; rfl
          simp [Region.wanted, hg, hy]
        | some b =>
        have hy := yielded_some ha hs (ha.ok s (some b) hk)
        simp only [] at h
        split at h
        · rename_i e
          exact ⟨env, ha, Same.refl _ _, .inl ⟨by simp [Region.wanted, hg, hy]; simpa using e, h⟩⟩
        · rename_i e
          exact ⟨env, ha, Same.refl _ _, .inr ⟨by simp [Region.wanted, hg, hy]; simpa using e, h⟩⟩
      | none =>
        simp only [hk] at h
        have key : ∀ {X Y : Prop}, cnd (look env s) X Y → ∃ b, look env s = .bool b ∧ (if b then X else Y) := by
          intro X Y ⟨b, hb, h1, h2⟩
          refine ⟨b, hb, ?_⟩
          cases b
          · simpa using h2 rfl
          · simpa using h1 rfl
        cases want
        · obtain ⟨b, hb, hx⟩ := key h
          have hy := yielded_some ha hs hb
          cases b
          · exact ⟨_, ha.learn hb, same_learn hb, .inl ⟨by simp [Region.wanted, hg, hy], by simpa using hx⟩⟩
          · exact ⟨_, ha.learn hb, same_learn hb, .inr ⟨by simp [Region.wanted, hg, hy], by simpa using hx⟩⟩
        · obtain ⟨b, hb, hx⟩ := key h
          have hy := yielded_some ha hs hb
          cases b
          · exact ⟨_, ha.learn hb, same_learn hb, .inr ⟨by simp [Region.wanted, hg, hy], by simpa using hx⟩⟩
          · exact ⟨_, ha.learn hb, same_learn hb, .inl ⟨by simp [Region.wanted, hg, hy], by simpa using hx⟩⟩

/-- The operations of a region in the text's order. -/
theorem opsD_ok {P : Program} {n : Nat} {ops : Array Oper} {W : List Nat} {Q : Exit → Act → World → Prop} {K : Cont} : ∀ (l : List Oper) (env : Env) (a : Act) (w : World),
    opsD P n ops l env w K → Ag n env a → (∀ o ∈ l, ∀ d, o.dst = some d → d ∈ W) →
    (∀ env' a' w', K env' w' → Ag n env' a' → Same W env env' → Q .normal a' w') → wpList P ops Q l a w := by
  intro l
  induction l with
  | nil => intro env a w h ha _ hq; exact hq env a w h ha (Same.refl _ _)
  | cons o r ih =>
    intro env a w h ha hW hq
    have hWo : ∀ d, o.dst = some d → d ∈ W := hW o (by simp)
    have hWr : ∀ o ∈ r, ∀ d, o.dst = some d → d ∈ W := fun o' ho => hW o' (by simp [ho])
    obtain ⟨env1, ha1, hs1, hc⟩ := wantD_ok h ha W
    have next : ∀ {env2 : Env} {a' w'}, opsD P n ops r env2 w' K → Ag n env2 a' → Same W env1 env2 → wpList P ops Q r a' w' := fun {env2 a' w'} h2 ha2 hs2 =>
      ih env2 a' w' h2 ha2 hWr fun env' a' w' hK hA hS => hq env' a' w' hK hA ((hs1.trans hs2).trans hS)
    unfold wpList
    rcases hc with ⟨hw, hA⟩ | ⟨hw, hB⟩
    · rw [hw]
      refine .inl ?_
      split at hA
      · rename_i hsoft
        obtain ⟨v, kb, hrun, hp, hkb⟩ := soft_ok ha1.eval ha1.ok hsoft hA
        unfold Oper.wp
        rw [hrun w (Ext.refl w), Oper.upon_value]
        obtain ⟨env2, h2, ha2, hs2⟩ := putD_ok hp ha1 hkb hWo
        exact next h2 ha2 hs2
      · have := hard_ok (Q := Q) ha1.eval hA
        refine Oper.wp_mono (fun a' w' ⟨v, he, hp⟩ => ?_) this
        obtain ⟨env2, h2, ha2, hs2⟩ := putD_ok hp ha1 (fun b e => by cases e) hWo
        rw [he]
        exact next h2 ha2 hs2
    · rw [hw]
      obtain ⟨env2, h2, ha2, hs2⟩ := putD_ok hB ha1 (fun b e => by cases e; rfl) hWo
      exact next h2 ha2 hs2

end Go.Vc
