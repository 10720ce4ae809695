/- 'den' is sound: regions that draw their order. Conditions: none. -/
import Derived.Test.YtoolpnkcmlebkaaGreatVg
namespace Go.Vc
section
variable {P : Program} {ops : Array Oper} {quiet : List Nat}

/-- What a quiet operation yields. -/
def quietRun (P : Program) (v : Value) (w : World) : Result Next → Prop
  | .ok (.value u) w' => w' = w ∧ u = v
  | .ok (.enter f args) w' => w' = w ∧ Calls P f args w (fun e w3 => e = .returned v ∧ Ext w w3)
  | _ => False
/-- Operation i yields v in each world that it can be met in: of a move, whatever world; else, those beyond w. -/
def Yc (P : Program) (ops : Array Oper) (mv : Bool) (o : Oper) (v : Value) (a : Act) (w : World) : Prop :=
  (Region.wanted o (yielded ops a.tmps) = true ∧ ∀ w', (mv = true ∨ Ext w w') → quietRun P v w' ((execOp a.eval o).run P w')) ∨
  (Region.wanted o (yielded ops a.tmps) = false ∧ v = undef)
theorem Yc.of_same {mv : Bool} {o : Oper} {v : Value} {a a' : Act} {w : World} (hy : Yc P ops mv o v a w) (he : execOp a'.eval o = execOp a.eval o)
    (hw : Region.wanted o (yielded ops a'.tmps) = Region.wanted o (yielded ops a.tmps)) : Yc P ops mv o v a' w := by
  unfold Yc at *
  rw [he, hw]
  exact hy
theorem Yc.later {mv : Bool} {o : Oper} {v : Value} {a : Act} {w w1 : World} (hy : Yc P ops mv o v a w) (he : mv = true ∨ Ext w w1) : Yc P ops mv o v a w1 := by
  rcases hy with ⟨h1, h2⟩ | h
  · refine .inl ⟨h1, fun w' hw' => h2 w' ?_⟩
    rcases he with he | he
    · exact .inl he
    · exact hw'.imp id he.trans
  · exact .inr h

/-- Whatever order is picked from here on, in each world beyond this one. -/
def AnyW (P : Program) (quiet : List Nat) (ops : Array Oper) (Q : Act → World → Prop) : Nat → Array Bool → Act → World → Prop
  | 0, listed, a, w => ∀ w1, Ext w w1 → Region.ready .any ops listed = [] ∧ Q a w1
  | m + 1, listed, a, w => ∀ w1, Ext w w1 → (Region.ready .any ops listed = [] → Q a w1) ∧
    ∀ i ∈ Region.ready .any ops listed, wpOp P ops (fun _ _ _ => False) i (fun a' w' => (needE P quiet ops i = true → Ext w1 w') ∧ AnyW P quiet ops Q m (listed.setIfInBounds i true) a' w') a w1
theorem AnyW.later {Q : Act → World → Prop} {m : Nat} {listed : Array Bool} {a : Act} {w w1 : World} (h : AnyW P quiet ops Q m listed a w) (he : Ext w w1) : AnyW P quiet ops Q m listed a w1 := by
  cases m <;> exact fun w2 h2 => h w2 (he.trans h2)

theorem wpOp_weak {Q' : Exit → Act → World → Prop} {i : Nat} {K K' : Act → World → Prop} {a : Act} {w : World} (h : wpOp P ops (fun _ _ _ => False) i K a w) (hk : ∀ a w, K a w → K' a w) : wpOp P ops Q' i K' a w := by
  unfold wpOp at *
  split
  · rename_i ho; simp only [ho] at h; exact hk _ _ h
  · rename_i o ho
    simp only [ho] at h
    split
    · rename_i hw
      simp only [hw, if_true] at h
      refine .inl ?_
      rcases h with h | ⟨_, a, w, h⟩
      · unfold Oper.wp at *
        generalize (execOp a.eval o).run P w = r at *
        cases r with
        | ok n w' =>
          cases n <;> simp only [Oper.upon] at h ⊢ <;>
            first
              | exact hk _ _ h
              | exact Calls.mono h (fun e w'' he => by cases e <;> first | exact hk _ _ he | exact he.elim | exact (let ⟨_, _, hh⟩ := he; hh.elim))
              | exact Rows.mono h (fun _ _ he => hk _ _ he)
        | halt x w' => cases x <;> simp only [Oper.upon] at h
      · exact h.elim
    · rename_i hw; simp only [hw] at h; exact hk _ _ h

theorem wpAny_of_AnyW {Q : Act → World → Prop} {Q' : Exit → Act → World → Prop} (hQ : ∀ a w, Q a w → Q' .normal a w) : ∀ (m : Nat) (listed : Array Bool) (a : Act) (w : World),
    AnyW P quiet ops Q m listed a w → wpAny P .any ops Q' m listed a w
  | 0, _, _, w, h => ⟨(h w (Ext.refl w)).1, hQ _ _ (h w (Ext.refl w)).2⟩
  | m + 1, _, _, w, h => ⟨fun h0 => hQ _ _ ((h w (Ext.refl w)).1 h0), fun i hi => wpOp_weak ((h w (Ext.refl w)).2 i hi) fun a' w' hh => wpAny_of_AnyW hQ m _ a' w' hh.2⟩

/-- One operation 'oj', apart from 'oi': whether 'oi''s value is already in its temporary makes no difference. -/
theorem wpOp_putC {j : Nat} {oi oj : Oper} {v : Value} (hj : ops[j]? = some oj) (hap : oi.apart ops oj = true)
    (hsi : ∀ cs b, oi.op ≠ .select cs b) (hsj : ∀ cs b, oj.op ≠ .select cs b) {mv : Bool} {wy : World} {K : Act → World → Prop} {a : Act} {w : World}
    (hy : Yc P ops mv oi v a wy) (h : wpOp P ops (fun _ _ _ => False) j K (a.put oi.dst v) w) :
    wpOp P ops (fun _ _ _ => False) j (fun a' w' => Yc P ops mv oi v a' wy ∧ K (a'.put oi.dst v) w') a w := by
  obtain ⟨h1, h2, h3⟩ := Oper.apart_spec hap
  have keep : ∀ (a : Act), Yc P ops mv oi v a wy → ∀ u, Yc P ops mv oi v (a.put oj.dst u) wy := fun a hy u =>
    hy.of_same (execOp_put oi hsi a oj.dst u h3) (wanted_put oi a oj.dst u h3)
  have keepD : ∀ d, Yc P ops mv oi v { a with defers := d :: a.defers } wy := fun d => hy.of_same rfl rfl
  unfold wpOp at *
  simp only [hj] at *
  rw [wanted_put oj a oi.dst v h1] at h
  split
  · rename_i hw
    simp only [hw, if_true] at h
    rcases h with h | ⟨_, a, w, hh⟩
    case inr => exact hh.elim
    refine .inl ?_
    unfold Oper.wp at *
    rw [execOp_put oj hsj a oi.dst v h1] at h
    generalize (execOp a.eval oj).run P w = r at *
    cases r with
    | ok n w' =>
      cases n <;> simp only [Oper.upon] at h ⊢
      case value u => exact ⟨keep a hy u, by rw [← Act.put_comm a v u h2]; exact h⟩
      case skip => exact ⟨keep a hy _, by rw [← Act.put_comm a v undef h2]; exact h⟩
      case defer d =>
        refine ⟨keep _ (keepD d) _, ?_⟩
        rw [← Act.put_comm _ v undef h2, ← Act.put_defers]
        exact h
      case enter f args =>
        refine Calls.mono h fun e w'' he => ?_
        cases e with
        | returned u => exact ⟨keep a hy u, by rw [← Act.put_comm a v u h2]; exact he⟩
        | panicked c => exact he.elim
        | outgrown => exact he
      case row row args => exact Rows.mono h fun u w'' he => ⟨keep a hy u, by rw [← Act.put_comm a v u h2]; exact he⟩
    | halt x w' => cases x <;> simp only [Oper.upon] at h
  · rename_i hw
    simp only [hw] at h
    exact ⟨keep a hy _, by rw [← Act.put_comm a v undef h2]; exact h⟩

theorem Yc.wpOp {i : Nat} {oi : Oper} {v : Value} {a : Act} {w w1 : World} {mv : Bool} (hi : ops[i]? = some oi) (hy : Yc P ops mv oi v a w) (he : Ext w w1)
    {K : Act → World → Prop} (h : ∀ w2, Ext w1 w2 → K (a.put oi.dst v) w2) : wpOp P ops (fun _ _ _ => False) i K a w1 := by
  unfold Go.wpOp
  simp only [hi]
  rcases hy with ⟨hw, hv⟩ | ⟨hw, rfl⟩
  · simp only [hw, if_true]
    refine .inl ?_
    have hq := hv w1 (.inr he)
    unfold Oper.wp
    generalize (execOp a.eval oi).run P w1 = r at *
    cases r with
    | halt x w' => exact hq.elim
    | ok n w' =>
      cases n <;> first | exact hq.elim | skip
      case value u => obtain ⟨rfl, rfl⟩ := hq; exact h _ (Ext.refl _)
      case enter f args =>
        obtain ⟨rfl, hc⟩ := hq
        rw [Oper.upon_enter]
        refine hc.mono fun e w3 ⟨h1, h2⟩ => ?_
        subst h1
        exact h _ h2
  · simp only [hw, Bool.false_eq_true, if_false]; exact h _ (Ext.refl _)

/-- What is listed is closed: with an operation all that it waits for. -/
def Down (ops : Array Oper) (listed : Array Bool) : Prop := ∀ (k : Nat) (o : Oper), ops[k]? = some o → listed.getD k false = true → ∀ e ∈ o.after, Region.binds .any e = true → listed.getD e.on false = true
theorem down_init (n : Nat) : Down ops (Array.replicate n false) := fun k o _ hk => by
  have : (Array.replicate n false).getD k false = false := by simp [Array.getElem?_replicate]; split <;> rfl
  rw [this] at hk; cases hk
theorem down_set {listed : Array Bool} (h : Down ops listed) {i : Nat} (hi : i ∈ Region.ready .any ops listed) : Down ops (listed.setIfInBounds i true) := by
  intro k o ho hk e he hb
  obtain ⟨_, oi, hoi, hall⟩ := mem_ready.1 hi
  by_cases hki : i = k
  · subst hki
    rw [ho] at hoi; cases hoi
    exact getD_set_true (hall e he hb)
  · rw [getD_set_ne false hki] at hk
    exact getD_set_true (h k o ho hk e he hb)
/-- i comes before j whatever the order. -/
def Forced (ops : Array Oper) (i j : Nat) : Prop := ∀ listed : Array Bool, Down ops listed → (∀ o, ops[j]? = some o → ∀ e ∈ o.after, Region.binds .any e = true → listed.getD e.on false = true) → listed.getD i false = true
theorem fold_bits (acc : List Nat) (i : Nat) : ∀ (l : List Edge) (s : Nat), (l.foldl (fun s e => match Region.binds .any e with | true => s ||| 2 ^ e.on ||| acc.getD e.on 0 | false => s) s).testBit i = true →
    s.testBit i = true ∨ ∃ e ∈ l, Region.binds .any e = true ∧ (e.on = i ∨ (acc.getD e.on 0).testBit i = true)
  | [], s, h => .inl h
  | e :: l, s, h => by
    rw [List.foldl_cons] at h
    rcases fold_bits acc i l _ h with h | ⟨e', he, hb⟩
    · cases hb : Region.binds .any e with
      | false => rw [hb] at h; exact .inl h
      | true =>
        rw [hb] at h
        simp only [Nat.testBit_or, Bool.or_eq_true, Nat.testBit_two_pow, decide_eq_true_eq] at h
        rcases h with (h | h) | h
        · exact .inl h
        · exact .inr ⟨e, by simp, hb, .inl h⟩
        · exact .inr ⟨e, by simp, hb, .inr h⟩
    · exact .inr ⟨e', by simp [he], hb⟩
theorem bf_forced : ∀ (r : List Oper) (acc : List Nat), (∀ j, r[j]? = ops[acc.length + j]?) → (∀ j i, (acc.getD j 0).testBit i = true → Forced ops i j) → ∀ j i, ((bf r acc).getD j 0).testBit i = true → Forced ops i j
  | [], acc, _, h => h
  | o :: r, acc, hr, h => by
    have h0 : ops[acc.length]? = some o := by simpa using (hr 0).symm
    refine bf_forced r (acc ++ [bfStep acc o]) (fun j => by have := hr (j + 1); simpa [Nat.add_assoc, Nat.add_comm 1 j] using this) ?_
    intro j i hb
    rcases Nat.lt_trichotomy j acc.length with hj | hj | hj
    · rw [List.getD_eq_getElem?_getD, List.getElem?_append_left hj, ← List.getD_eq_getElem?_getD] at hb
      exact h j i hb
    · subst hj
      rw [List.getD_eq_getElem?_getD, List.getElem?_append_right (Nat.le_refl _)] at hb
      simp at hb
      rcases fold_bits acc i _ _ hb with hb | ⟨e, he, hbe, hb⟩
      · simp at hb
      · intro listed hd hl
        have hon := hl o h0 e (by simpa using he) hbe
        rcases hb with rfl | hb
        · exact hon
        · exact h e.on i hb listed hd (fun o' ho' e' he' hbe' => hd e.on o' ho' hon e' he' hbe')
    · rw [List.getD_eq_getElem?_getD, List.getElem?_eq_none (by simp; omega)] at hb
      simp at hb
theorem needE_of {i j : Nat} {oi : Oper} {listed : Array Bool} (hi : ops[i]? = some oi) (hq : isQuiet P quiet i oi = true) (hm : isMove oi = false) (hij : i ≠ j) (hd : Down ops listed) (hj : j ∈ Region.ready .any ops listed) (hri : i ∈ Region.ready .any ops listed) (hun : listed.getD i false = false) :
    needE P quiet ops j = true := by
  have hlt : i < ops.size := (Array.getElem?_eq_some_iff.1 hi).1
  simp only [needE, List.any_eq_true, List.mem_range]
  refine ⟨i, hlt, ?_⟩
  simp only [hi, hq, hm, Bool.not_false, Bool.and_true, Bool.true_and]
  have h1 : (i == j) = false := by simpa using hij
  have h2 : ((bf ops.toList []).getD j 0).testBit i = false := by
    rw [Bool.eq_false_iff]
    intro h
    obtain ⟨_, oj, hoj, hall⟩ := mem_ready.1 hj
    have hF := bf_forced (ops := ops) ops.toList [] (fun j => by simp) (fun j i hb => by simp at hb) j i h listed hd (fun o ho e he hb => by rw [hoj] at ho; cases ho; exact hall e he hb)
    rw [hun] at hF; cases hF
  have h3 : ((bf ops.toList []).getD i 0).testBit j = false := by
    rw [Bool.eq_false_iff]
    intro h
    obtain ⟨_, oi', hoi', hall⟩ := mem_ready.1 hri
    have hF := bf_forced (ops := ops) ops.toList [] (fun j => by simp) (fun j i hb => by simp at hb) i j h listed hd (fun o ho e he hb => by rw [hoi'] at ho; cases ho; exact hall e he hb)
    have h0 := (mem_ready.1 hj).1
    have h4 : listed.getD j false = false := by
      rcases Nat.lt_or_ge j listed.size with h' | h'
      · simpa [h'] using h0
      · simp [Array.getElem?_eq_none h']
    rw [h4] at hF; cases hF
  rw [h1, h2, h3]; rfl

/-- **A quiet operation that may come up now may be taken first.** -/
theorem AnyW_first {Q : Act → World → Prop} {i : Nat} {oi : Oper} {v : Value} (hi : ops[i]? = some oi) (hsel : ∀ (j : Nat) (o : Oper) cs b, ops[j]? = some o → o.op ≠ .select cs b)
    {mv : Bool} (hmv : mv = isMove oi) (hqi : isQuiet P quiet i oi = true) :
    ∀ (m : Nat) (listed : Array Bool) (a : Act) (w : World), Down ops listed →
      (∀ j oj, ops[j]? = some oj → j ≠ i → listed.getD j true = false → (∀ e ∈ oj.after, Region.binds .any e = true → e.on ≠ i) → oi.apart ops oj = true) →
      i ∈ Region.ready .any ops listed → Yc P ops mv oi v a w →
      AnyW P quiet ops Q m (listed.setIfInBounds i true) (a.put oi.dst v) w → AnyW P quiet ops Q (m + 1) listed a w := by
  intro m
  induction m with
  | zero =>
    intro listed a w _ _ hr hy H w1 he
    refine ⟨fun h => (by rw [h] at hr; cases hr), fun j hj => ?_⟩
    by_cases hji : j = i
    · subst hji
      exact hy.wpOp hi he fun w2 h2 => ⟨fun _ => h2, H.later (he.trans h2)⟩
    · have := ready_mono hj hji
      rw [(H w1 he).1] at this
      cases this
  | succ m ih =>
    intro listed a w hd hfree hr hy H w1 he
    refine ⟨fun h => (by rw [h] at hr; cases hr), fun j hj => ?_⟩
    by_cases hji : j = i
    · subst hji
      exact hy.wpOp hi he fun w2 h2 => ⟨fun _ => h2, H.later (he.trans h2)⟩
    · have h1 := (H w1 he).2 j (ready_mono hj hji)
      obtain ⟨hjun, oj, hoj, hall⟩ := mem_ready.1 hj
      have hnot : ∀ e ∈ oj.after, Region.binds .any e = true → e.on ≠ i := fun e he hb heq => by
        have h1 := hall e he hb
        have h0 := (mem_ready.1 hr).1
        rw [heq] at h1
        rcases Nat.lt_or_ge i listed.size with h' | h'
        · simp [h'] at h0 h1; rw [h0] at h1; cases h1
        · simp [Array.getElem?_eq_none h'] at h1
      have h2 := wpOp_putC hoj (hfree j oj hoj hji hjun hnot) (fun cs b => hsel i oi cs b hi) (fun cs b => hsel j oj cs b hoj) hy h1
      have hfree' : ∀ k ok, ops[k]? = some ok → k ≠ i → (listed.setIfInBounds j true).getD k true = false →
          (∀ e ∈ ok.after, Region.binds .any e = true → e.on ≠ i) → oi.apart ops ok = true := fun k ok hk hki hun hno => by
        refine hfree k ok hk hki ?_ hno
        by_cases hjk : j = k
        · subst hjk; exact hjun
        · rw [getD_set_ne true hjk] at hun; exact hun
      refine wpOp_mono (fun a' w' h3 => ?_) h2
      obtain ⟨hy', hE, hX⟩ := h3
      refine ⟨hE, ?_⟩
      -- the worlds beyond w' are such that i yields there what it does
      have hmvE : mv = true ∨ Ext w w' := by
        cases hm : isMove oi with
        | true => exact .inl (hmv.trans hm)
        | false =>
          refine .inr (he.trans (hE (needE_of hi hqi hm (Ne.symm hji) hd hj hr ?_)))
          have h0 := (mem_ready.1 hr).1
          rcases Nat.lt_or_ge i listed.size with h' | h'
          · simpa [h'] using h0
          · simp [Array.getElem?_eq_none h']
      exact ih (listed.setIfInBounds j true) a' w' (down_set hd hj) hfree' (ready_mono hr (Ne.symm hji)) (hy'.later hmvE) (by rw [Array.setIfInBounds_comm _ _ hji]; exact hX)

end
end Go.Vc
