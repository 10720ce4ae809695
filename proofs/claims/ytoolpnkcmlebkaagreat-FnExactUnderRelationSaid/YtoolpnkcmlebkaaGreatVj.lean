/- 'den' is sound: whole bodies, and the step to a call. Conditions: none. -/
import Derived.Test.YtoolpnkcmlebkaaGreatVi
import Derived.Deep.LoopGhost
namespace Go.Vc
section
variable {P : Program} {n : Nat}

def exOf : Exit → Option Ex
  | .normal => some .nrm
  | .exit id => some (.ext id)
  | .ret => some .ret
  | _ => none
/-- What is reached by a piece of code: the exit, an environment that fits, and nothing outside W turned. -/
def Rch (n : Nat) (W : List Nat) (env : Env) (Q : Ex → Cont) : Exit → Act → World → Prop :=
  fun e a w => ∃ ex env', exOf e = some ex ∧ Q ex env' w ∧ Ag n env' a ∧ Same W env env'

theorem Rch.weaken {W W' : List Nat} {env env1 : Env} {Q : Ex → Cont} (hS : Same W' env env1) (hW : ∀ s, s ∈ W → s ∈ W') {e : Exit} {a : Act} {w : World} (h : Rch n W env1 Q e a w) : Rch n W' env Q e a w := by
  obtain ⟨ex, env', h1, h2, h3, h4⟩ := h
  exact ⟨ex, env', h1, h2, h3, hS.trans (h4.mono hW)⟩

theorem look_bindY {W : List Nat} {ys : Nat → Value} {env : Env} (s : Nat) : look (bindY W ys env) s = if s ∈ W then ys s else look env s := by
  induction W with
  | nil => simp [bindY]
  | cons x r ih =>
    simp only [bindY, look_cons, ih]
    by_cases h : x = s
    · subst h; simp
    · have h' : ¬ s = x := fun e => h e.symm
      simp [h, h']
theorem look_bindK {keep : List Nat} {xs : List Value} {env : Env} : ∀ {i : Nat} (f : Nat → Value), (∀ j, j < keep.length → gx xs (i + j) = f (keep.getD j 0)) → ∀ s, look (bindK keep i xs env) s = if s ∈ keep then f s else look env s := by
  induction keep with
  | nil => intro i f _ s; simp [bindK]
  | cons x r ih =>
    intro i f h s
    simp only [bindK, look_cons]
    by_cases e : x = s
    · subst e
      have := h 0 (by simp)
      simp at this
      simp [this]
    · have e' : ¬ s = x := fun h => e h.symm
      rw [if_neg e, ih (i := i + 1) f (fun j hj => by
        have := h (j + 1) (by simp; omega)
        simp only [List.getD_cons_succ] at this
        rw [← this]; congr 1; omega) s]
      simp [e']
theorem gx_getK {keep : List Nat} {env : Env} (j : Nat) (hj : j < keep.length) : gx (getK keep env) (0 + j) = look env (keep.getD j 0) := by
  simp [gx_eq, getK, hj]
theorem ok_bindY {W : List Nat} {ys : Nat → Value} {env : Env} (h : EnvOk env) : EnvOk (bindY W ys env) := by
  induction W with
  | nil => exact h
  | cons x r ih => exact ih.cons fun b e => by cases e
theorem ok_bindK {keep : List Nat} {i : Nat} {xs : List Value} {env : Env} (h : EnvOk env) : EnvOk (bindK keep i xs env) := by
  induction keep generalizing i with
  | nil => exact h
  | cons x r ih => exact ih.cons fun b e => by cases e

/-- An environment made anew from what a frame holds. -/
theorem Ag.rebind {env env0 : Env} {a : Act} {W keep : List Nat} (h : Ag n env a) (hS : Same W env0 env) (ho : EnvOk env0) : Ag n (bindK keep 0 (getK keep env) (bindY W (look env) env0)) a := by
  have hl : ∀ s, look (bindK keep 0 (getK keep env) (bindY W (look env) env0)) s = look env s := by
    intro s
    rw [look_bindK (f := look env) (fun j hj => gx_getK j hj), look_bindY]
    split
    · rfl
    · split
      · rfl
      · rename_i h1; exact (hS s h1).symm
  exact ⟨h.defers, h.size, fun s => by rw [hl s]; exact h.vals s, ok_bindK (ok_bindY ho)⟩
theorem same_rebind {env env0 : Env} {W keep : List Nat} (hS : Same W env0 env) : Same W env0 (bindK keep 0 (getK keep env) (bindY W (look env) env0)) := by
  intro s hs
  rw [look_bindK (f := look env) (fun j hj => gx_getK j hj), look_bindY, if_neg hs]
  split
  · exact hS s hs
  · rfl

theorem regD_ok {id : Nat} {ops : Array Oper} {draw : Bool} {quiet : List Nat} {env : Env} {a : Act} {w : World} {K : Cont} {Q : Exit → Act → World → Prop} (hm : P.follows .mixedOrders = true) (hsel : draw = true → Region.noSelect ops = true)
    (h : regD P n ops draw quiet env w K) (ha : Ag n env a) (hQ : ∀ env' a' w', K env' w' → Ag n env' a' → Same (dsts ops.toList) env env' → Q .normal a' w') : (Code.region id ops draw).wp P Q a w := by
  have hW : ∀ (i : Nat) (o : Oper), ops[i]? = some o → ∀ d, o.dst = some d → d ∈ dsts ops.toList := fun i o ho d hd =>
    List.mem_filterMap.2 ⟨o, by simpa using Array.mem_of_getElem? ho, hd⟩
  cases draw with
  | false =>
    refine wp_region ?_
    rw [List.range_eq_range', ← Array.length_toList, wpOps_eq_wpList ops.toList 0 (by simp)]
    exact opsD_ok (W := dsts ops.toList) ops.toList env a w h ha (fun o ho d hd => List.mem_filterMap.2 ⟨o, ho, hd⟩) hQ
  | true =>
    refine wp_region_any hm ?_
    have := drD_ok (hsel rfl) (W := dsts ops.toList) hW ops.size _ env a w h ha (down_init _)
    refine wpAny_of_AnyW (fun a' w' ⟨env', h1, h2, h3⟩ => hQ env' a' w' h1 h2 h3) _ _ _ _ (this.later ?_)
    exact Ext.drew w

/-- Where ways meet again. -/
theorem joinD_ok {keep W : List Nat} {env : Env} {K : Cont} {F : Cont → Prop} (h : joinD n keep W env K F) (ho : EnvOk env) :
    ∃ J : Cont, F J ∧ ∀ env' a' w', J env' w' → Ag n env' a' → Same W env env' → ∃ env2, K env2 w' ∧ Ag n env2 a' ∧ Same W env env2 := by
  unfold joinD at h
  split at h
  · refine ⟨_, h, fun env' a' w' hJ ha' hS => ⟨_, hJ (look env'), ha'.rebind hS ho, same_rebind hS⟩⟩
  · exact h.elim

theorem condD_ok {env : Env} {c : Operand} {A B : Env → Prop} {a : Act} (h : condD env c A B) (ha : Ag n env a) (W : List Nat) :
    ∃ b env', a.eval c = .bool b ∧ Ag n env' a ∧ Same W env env' ∧ (if b then A env' else B env') := by
  have he : a.eval c = ev env c := by rw [ha.eval]
  have evb : ∀ b, evk env c = some b → ev env c = kv b := by
    intro b hx
    cases c with
    | tmp t => exact ha.ok t b hx
    | const v => cases v <;> simp [evk] at hx; subst hx; rfl
    | _ => simp [evk] at hx
  unfold condD at h
  split at h
  · rename_i hk; exact ⟨true, env, he.trans (evb _ hk), ha, Same.refl _ _, by simpa using h⟩
  · rename_i hk; exact ⟨false, env, he.trans (evb _ hk), ha, Same.refl _ _, by simpa using h⟩
  · exact h.elim
  · split at h
    · rename_i s _
      obtain ⟨b, hb, h1, h2⟩ := h
      cases b
      · exact ⟨false, _, he.trans hb, ha.learn hb, same_learn hb, by simpa using h2 rfl⟩
      · exact ⟨true, _, he.trans hb, ha.learn hb, same_learn hb, by simpa using h1 rfl⟩
    · obtain ⟨b, hb, h1, h2⟩ := h
      refine ⟨b, env, he.trans hb, ha, Same.refl _ _, ?_⟩
      cases b
      · simpa using h2 rfl
      · simpa using h1 rfl

/-- No region of the code selects. -/
def noSel : Code → Bool
  | .region _ ops _ => Region.noSelect ops
  | .seq a b => noSel a && noSel b
  | .cond _ a b => noSel a && noSel b
  | .block _ b => noSel b
  | .loop b => noSel b
  | .scope b => noSel b
  | _ => true

theorem den_ok (hm : P.follows .mixedOrders = true) : ∀ (c : Code) (h : Hint) (Q : Ex → Cont) (env : Env) (a : Act) (w : World), noSel c = true → den P n c h Q env w → Ag n env a →
    c.wp P (Rch n (wr c) env Q) a w := by
  intro c
  induction c with
  | skip => intro h Q env a w _ hd ha; exact wp_skip ⟨.nrm, env, rfl, hd, ha, Same.refl _ _⟩
  | label l => intro h Q env a w _ hd ha; exact wp_label ⟨.nrm, env, rfl, hd, ha, Same.refl _ _⟩
  | ret => intro h Q env a w _ hd ha; exact wp_ret ⟨.ret, env, rfl, hd, ha, Same.refl _ _⟩
  | exit id => intro h Q env a w _ hd ha; exact wp_exit ⟨.ext id, env, rfl, hd, ha, Same.refl _ _⟩
  | rangeFunc => intro h Q env a w _ hd _; exact hd.elim
  | goto => intro h Q env a w _ hd _; exact hd.elim
  | refuse => intro h Q env a w _ hd _; exact hd.elim
  | region id ops draw =>
    intro h Q env a w hns hd ha
    simp only [den] at hd
    split at hd
    · exact regD_ok hm (fun _ => hns) hd ha fun env' a' w' hK hA hS => ⟨.nrm, env', rfl, hK, hA, hS⟩
    · obtain ⟨J, hJ, hK⟩ := joinD_ok hd ha.ok
      exact regD_ok hm (fun _ => hns) hJ ha fun env' a' w' hj hA hS => by
        obtain ⟨env2, h1, h2, h3⟩ := hK env' a' w' hj hA hS
        exact ⟨.nrm, env2, rfl, h1, h2, h3⟩
  | seq x y ihx ihy =>
    intro h Q env a w hns hd ha
    simp only [noSel, Bool.and_eq_true] at hns
    refine wp_seq (wp_mono (ihx (hL h) _ env a w hns.1 hd ha) fun e a' w' hr => ?_)
    obtain ⟨ex, env', h1, h2, h3, h4⟩ := hr
    have h4' : Same (wr (.seq x y)) env env' := h4.mono fun s hs => by simp [wr, hs]
    cases e <;> simp only [exOf, Option.some.injEq] at h1 <;> first | (cases h1; done) | skip
    · subst h1
      refine wp_mono (ihy (hR h) Q env' a' w' hns.2 h2 h3) fun e a w hr => hr.weaken h4' fun s hs => by simp [wr, hs]
    · subst h1; exact ⟨_, env', rfl, h2, h3, h4'⟩
    · subst h1; exact ⟨_, env', rfl, h2, h3, h4'⟩
  | cond c x y ihx ihy =>
    intro h Q env a w hns hd ha
    simp only [noSel, Bool.and_eq_true] at hns
    simp only [den] at hd
    have go : ∀ (Q1 : Ex → Cont), condD env c (fun env => den P n x (hL h) Q1 env w) (fun env => den P n y (hR h) Q1 env w) → (Code.cond c x y).wp P (Rch n (wr x ++ wr y) env Q1) a w := by
      intro Q1 hc
      obtain ⟨b, env', hb, hA, hS, hr⟩ := condD_ok hc ha (wr x ++ wr y)
      cases b
      · exact wp_cond hb (wp_mono (ihy (hR h) Q1 env' a w hns.2 (by simpa using hr) hA) fun e a w hr => hr.weaken hS fun s hs => by simp [hs])
      · exact wp_cond hb (wp_mono (ihx (hL h) Q1 env' a w hns.1 (by simpa using hr) hA) fun e a w hr => hr.weaken hS fun s hs => by simp [hs])
    split at hd
    · exact go Q hd
    · obtain ⟨J, hJ, hK⟩ := joinD_ok hd ha.ok
      refine wp_mono (go (thenD J Q) hJ) fun e a' w' hr => ?_
      obtain ⟨ex, env', h1, h2, h3, h4⟩ := hr
      cases ex with
      | nrm =>
        obtain ⟨env2, g1, g2, g3⟩ := hK env' a' w' h2 h3 h4
        exact ⟨.nrm, env2, h1, g1, g2, g3⟩
      | ext i => exact ⟨_, env', h1, h2, h3, h4⟩
      | ret => exact ⟨_, env', h1, h2, h3, h4⟩
  | block id b ih =>
    intro h Q env a w hns hd ha
    refine wp_block (wp_mono (ih h _ env a w hns hd ha) fun e a' w' hr => ?_)
    obtain ⟨ex, env', h1, h2, h3, h4⟩ := hr
    cases e <;> simp only [exOf, Option.some.injEq] at h1 <;> first | (cases h1; done) | skip
    · subst h1; exact ⟨_, env', rfl, h2, h3, h4⟩
    · rename_i i
      subst h1
      simp only [Exit.inBlock, blockD] at h2 ⊢
      split at h2
      · rename_i e
        rw [if_pos (Nat.eq_of_beq_eq_true e)]
        exact ⟨.nrm, env', rfl, h2, h3, h4⟩
      · rename_i e
        rw [if_neg (fun h => by subst h; simp at e)]
        exact ⟨_, env', rfl, h2, h3, h4⟩
    · subst h1; exact ⟨_, env', rfl, h2, h3, h4⟩
  | scope b ih =>
    intro h Q env a w hns hd ha
    refine wp_scope_straight (wp_mono (ih h _ env a w hns hd ha) fun e a' w' hr => ?_)
    obtain ⟨ex, env', h1, h2, h3, h4⟩ := hr
    cases e <;> simp only [exOf, Option.some.injEq] at h1 <;> first | (cases h1; done) | skip
    all_goals (subst h1; exact ⟨_, env', rfl, h2, h3, h4⟩)
  | loop b ih =>
    intro h Q env a w hns hd ha
    simp only [den] at hd
    split at hd
    · obtain ⟨I, ⟨m0, h0⟩, hround⟩ := hd
      generalize hkk : (hK h).getD [] = keep at *
      refine wp_loop_ghost (fun m a' w' => ∃ env', Ag n env' a' ∧ Same (wr b) env env' ∧ I m (getK keep env') w') m0 ⟨env, ha, Same.refl _ _, h0⟩ ?_
      rintro m a' w' ⟨env', ha', hS', hI⟩
      have hb := hround m (getK keep env') w' hI (look env')
      refine wp_mono (ih (hL h) _ _ a' w' hns hb (ha'.rebind hS' ha.ok)) fun e a2 w2 hr => ?_
      obtain ⟨ex, env2, h1, h2, h3, h4⟩ := hr
      have hS2 : Same (wr b) env env2 := (same_rebind hS').trans h4
      cases e <;> simp only [exOf, Option.some.injEq] at h1 <;> first | (cases h1; done) | skip
      · subst h1
        obtain ⟨m', hlt, hI2⟩ := h2
        exact ⟨m', hlt, env2, h3, hS2, hI2⟩
      · subst h1; exact ⟨_, env2, rfl, h2, h3, hS2⟩
      · subst h1; exact ⟨_, env2, rfl, h2, h3, hS2⟩
    · exact hd.elim

theorem look_init : ∀ (l : List Value) (i s : Nat), look (initEnv i l) s = if i ≤ s then l.getD (s - i) undef else undef
  | [], i, s => by simp [initEnv, look]
  | v :: r, i, s => by
    simp only [initEnv, look_cons, look_init r (i + 1) s]
    by_cases h : i = s
    · subst h; simp
    · by_cases h2 : i ≤ s
      · have : s - i = (s - (i + 1)) + 1 := by omega
        simp [h, h2, show i + 1 ≤ s by omega, this]
      · simp [h, h2, show ¬ i + 1 ≤ s by omega]
theorem ok_init : ∀ (l : List Value) (i : Nat), EnvOk (initEnv i l)
  | [], _ => fun s b e => by cases e
  | v :: r, i => (ok_init r (i + 1)).cons fun b e => by cases e

def resS (tmps : Array Value) (x : ResultVar) : Sem Value :=
  match x with
  | .tmp t => pure (tmps.getD t undef)
  | .cell a t => do loadVar t (← asAddr (tmps.getD a undef))
theorem resD_ok {env : Env} {tmps : Array Value} {w : World} (hv : ∀ s, tmps.getD s undef = look env s) : ∀ (l : List ResultVar) (K : List Value → Prop), resD P env w l K →
    ∃ vs, (l.mapM (resS tmps)).run P w = .ok vs w ∧ K vs
  | [], K, h => ⟨[], by simp, h⟩
  | .tmp t :: r, K, h => by
    obtain ⟨vs, h1, h2⟩ := resD_ok hv r _ h
    refine ⟨_, ?_, h2⟩
    rw [List.mapM_cons]
    simp only [Sem.run_bind, resS, Sem.run_pure, Result.andThen_ok, h1, hv t]
  | .cell a t :: r, K, h => by
    obtain ⟨v, hl, hk⟩ := ldD_ok h
    obtain ⟨vs, h1, h2⟩ := resD_ok hv r _ hk
    have hl := hl w (Ext.refl w)
    refine ⟨_, ?_, h2⟩
    rw [List.mapM_cons]
    have h0 : (resS tmps (.cell a t)).run P w = .ok v w := by
      simp only [resS, hv a]
      cases hx : look env a with
      | pointer p =>
        cases p with
        | none => rw [hx] at hl; simp [Instr.loadAt, Instr.sureAddr] at hl
        | some ad =>
          rw [hx] at hl
          simp only [Instr.loadAt, Instr.sureAddr, Sem.run_bind, Sem.run_pure, Result.andThen_ok] at hl
          simp only [asAddr, Sem.run_bind, Sem.run_pure, Result.andThen_ok, hl]
      | _ => rw [hx] at hl; simp [Instr.loadAt, Instr.sureAddr] at hl
    simp only [Sem.run_bind, Sem.run_pure, Result.andThen_ok, h1, h0]
theorem results_eq (fn : Func) (tmps : Array Value) : results fn tmps = (do let vs ← fn.results.mapM (resS tmps); pure (if h : vs.size = 1 then vs[0] else .tuple vs)) := by
  unfold results
  congr 1

theorem results_ok {fn : Func} {env : Env} {tmps : Array Value} {w : World} (hv : ∀ s, tmps.getD s undef = look env s) {R : Value → Prop} (h : resD P env w fn.results.toList fun vs => R (retV vs)) :
    ∃ v, (results fn tmps).run P w = .ok v w ∧ R v := by
  obtain ⟨vs, h1, h2⟩ := resD_ok hv fn.results.toList _ h
  refine ⟨_, ?_, h2⟩
  rw [results_eq, ← Array.toArray_toList (xs := fn.results), List.mapM_toArray]
  simp only [Sem.run_bind, Sem.run_map, h1, Result.andThen_ok, Sem.run_pure]
  congr 1
  cases vs with
  | nil => rfl
  | cons x r =>
    cases r with
    | nil => rfl
    | cons y r => simp [retV]

/-- **A call, from the proposition that 'den' makes.** -/
theorem cal_of_den {f : FuncId} {fn : Func} {c : Code} {h : Hint} {args : List Value} {w : World} {R : Value → World → Prop} (hm : P.follows .mixedOrders = true)
    (hf : P.funcs[f]? = some fn) (hn : (fn.name == "runtime.NumGoroutine") = false) (hb : fn.body = some c) (hs : noSel c = true) (ha : Nat.ble args.length fn.ntmps = true)
    (hd : denF P fn c h args w R) : Cal P f args.toArray w R := by
  refine ⟨⟨fn, hf, hn, by rw [hb]; rfl⟩, calls_of_wp hf hb ?_⟩
  have hle : args.length ≤ fn.ntmps := Nat.le_of_ble_eq_true ha
  have hA : Ag fn.ntmps (initEnv 0 args) { tmps := args.toArray ++ Array.replicate (fn.ntmps - args.toArray.size) undef, defers := [] } := by
    refine ⟨rfl, by simp; omega, fun s => ?_, ok_init _ _⟩
    rw [look_init]
    simp only [Nat.zero_le, if_true, Nat.sub_zero]
    by_cases h1 : s < args.length
    · simp [Array.getElem?_append, h1]
    · simp only [Array.getD_eq_getD_getElem?, Array.getElem?_append, List.size_toArray, h1, if_false]
      rw [show args.getD s undef = undef by simp [List.getD, List.getElem?_eq_none (show args.length ≤ s by omega)]]
      by_cases h2 : s - args.length < fn.ntmps - args.length
      · simp [h2]
      · simp [h2]
  refine wp_mono (den_ok hm c h _ _ _ w hs hd hA) fun e a' w' hr => ?_
  obtain ⟨ex, env', h1, h2, h3, h4⟩ := hr
  cases e <;> simp only [exOf, Option.some.injEq] at h1 <;> first | (cases h1; done) | skip
  · subst h1
    obtain ⟨v, hv, hR⟩ := results_ok (R := fun v => R v w') h3.vals h2
    exact ⟨h3.defers, v, hv, v, rfl, hR⟩
  · subst h1; exact h2.elim
  · subst h1
    obtain ⟨v, hv, hR⟩ := results_ok (R := fun v => R v w') h3.vals h2
    exact ⟨h3.defers, v, hv, v, rfl, hR⟩

end
end Go.Vc
