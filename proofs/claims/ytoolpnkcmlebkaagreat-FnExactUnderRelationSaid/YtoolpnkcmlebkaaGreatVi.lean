/- 'den' is sound: a whole body. Conditions: none. -/
import Derived.Test.YtoolpnkcmlebkaaGreatVh
namespace Go.Vc
section
variable {P : Program} {ops : Array Oper} {quiet : List Nat} {n : Nat}

theorem pickSoft_ok {listed : Array Bool} : ∀ (l : List Nat) {i : Nat}, pickSoft P quiet ops listed l = some i → i ∈ l ∧ ∃ o, ops[i]? = some o ∧ isQuiet P quiet i o = true ∧ Region.free .any ops listed i = true
  | [], _, h => by cases h
  | j :: r, i, h => by
    unfold pickSoft at h
    split at h
    · rename_i o ho
      split at h
      · rename_i hc
        cases h
        simp only [Bool.and_eq_true] at hc
        exact ⟨by simp, o, ho, hc.1, hc.2⟩
      · obtain ⟨h1, h2⟩ := pickSoft_ok r h; exact ⟨by simp [h1], h2⟩
    · obtain ⟨h1, h2⟩ := pickSoft_ok r h; exact ⟨by simp [h1], h2⟩

theorem soft_all {o : Oper} {env : Env} {a : Act} {w : World} {K : Value → Option (Option Bool) → Prop} (he : a.eval = ev env) (hk : EnvOk env) (hs : isSoftIn P o = true) (h : softD P o env w K) :
    ∃ v kb, (∀ w', (isMove o = true ∨ Ext w w') → (execOp a.eval o).run P w' = .ok (.value v) w') ∧ K v kb ∧ (∀ b, kb = some b → v = kv b) := by
  obtain ⟨v, kb, h1, h2, h3⟩ := soft_ok he hk hs h
  refine ⟨v, kb, fun w' hw' => ?_, h2, h3⟩
  rcases hw' with hm | hE
  · have h0 := h1 w (Ext.refl w)
    obtain ⟨dst, op, type, pos, after, guard⟩ := o
    cases op <;> (try (simp [isMove] at hm; done))
    · simp [execOp] at h0 ⊢; exact h0
    · simp [execOp] at h0 ⊢; exact h0
  · exact h1 w' hE

theorem allD_mem {F : Nat → Prop} : ∀ {l : List Nat} {i : Nat}, allD l F → i ∈ l → F i
  | [], _, _, h => by cases h
  | [j], i, h, hm => by simp at hm; subst hm; exact h
  | j :: k :: r, i, h, hm => by
    obtain ⟨h1, h2⟩ := h
    cases hm with
    | head => exact h1
    | tail _ hm => exact allD_mem h2 hm

theorem exq_ok {b : Bool} {w w' : World} {A : Prop} (h : exq b w w' A) : (b = true → Ext w w') ∧ A := by
  cases b
  · exact ⟨(fun e => by cases e), h⟩
  · exact ⟨fun _ => h.1, h.2⟩

theorem drD_ok (hs : Region.noSelect ops = true) {W : List Nat} (hW : ∀ (i : Nat) (o : Oper), ops[i]? = some o → ∀ d, o.dst = some d → d ∈ W) {K : Cont} : ∀ (m : Nat) (listed : Array Bool) (env : Env) (a : Act) (w : World),
    drD P n quiet ops m listed env w K → Ag n env a → Down ops listed → AnyW P quiet ops (fun a' w' => ∃ env', K env' w' ∧ Ag n env' a' ∧ Same W env env') m listed a w := by
  intro m
  induction m with
  | zero =>
    intro listed env a w h ha _ w1 he
    unfold drD at h
    split at h
    · rename_i h0; exact ⟨h0, env, h w1 he, ha, Same.refl _ _⟩
    · exact h.elim
  | succ m ih =>
    intro listed env a w h ha hd
    have weaken : ∀ {env1 : Env} {m : Nat} {listed : Array Bool} {a : Act} {w : World}, Same W env env1 → AnyW P quiet ops (fun a' w' => ∃ env', K env' w' ∧ Ag n env' a' ∧ Same W env1 env') m listed a w →
        AnyW P quiet ops (fun a' w' => ∃ env', K env' w' ∧ Ag n env' a' ∧ Same W env env') m listed a w := by
      intro env1 m
      induction m with
      | zero => intro listed a w hS h w1 he; obtain ⟨h1, e, h2, h3, h4⟩ := h w1 he; exact ⟨h1, e, h2, h3, hS.trans h4⟩
      | succ m ihm =>
        intro listed a w hS h w1 he
        obtain ⟨h1, h2⟩ := h w1 he
        refine ⟨fun h0 => ?_, fun i hi => wpOp_mono (fun a' w' ⟨hE, hh⟩ => ⟨hE, ihm hS hh⟩) (h2 i hi)⟩
        obtain ⟨e, h2, h3, h4⟩ := h1 h0
        exact ⟨e, h2, h3, hS.trans h4⟩
    unfold drD at h
    split at h
    · rename_i h0
      intro w1 he
      exact ⟨fun _ => ⟨env, h w1 he, ha, Same.refl _ _⟩, fun i hi => by rw [h0] at hi; cases hi⟩
    · rename_i r0 rs hr
      split at h
      · rename_i i hp
        obtain ⟨hmem, o, ho, hq, hfree⟩ := pickSoft_ok _ hp
        have hin : i ∈ Region.ready .any ops listed := by rw [hr]; exact hmem
        simp only [ho] at h
        obtain ⟨env1, ha1, hs1, hc⟩ := wantD_ok (W := W) h ha
        refine weaken hs1 ?_
        have first : ∀ {v : Value}, Yc P ops (isMove o) o v a w → AnyW P quiet ops (fun a' w' => ∃ env', K env' w' ∧ Ag n env' a' ∧ Same W env1 env') m (listed.setIfInBounds i true) (a.put o.dst v) w → _ := fun {v} hy H =>
          AnyW_first (P := P) (quiet := quiet) ho (Region.noSelect_spec hs) rfl hq m listed a w hd (Region.free_spec ho hfree) hin hy H
        have rest : ∀ {v : Value} {kb : Option (Option Bool)}, putD n env1 o.dst v kb (fun env' => drD P n quiet ops m (listed.setIfInBounds i true) env' w K) → (∀ b, kb = some b → v = kv b) →
            AnyW P quiet ops (fun a' w' => ∃ env', K env' w' ∧ Ag n env' a' ∧ Same W env1 env') m (listed.setIfInBounds i true) (a.put o.dst v) w := by
          intro v kb hp hkb
          obtain ⟨env2, h2, ha2, hs2⟩ := putD_ok hp ha1 hkb (hW i o ho)
          have := ih _ env2 _ w h2 ha2 (down_set hd hin)
          have wk : ∀ {m : Nat} {listed : Array Bool} {a : Act} {w : World}, AnyW P quiet ops (fun a' w' => ∃ env', K env' w' ∧ Ag n env' a' ∧ Same W env2 env') m listed a w →
              AnyW P quiet ops (fun a' w' => ∃ env', K env' w' ∧ Ag n env' a' ∧ Same W env1 env') m listed a w := by
            intro m
            induction m with
            | zero => intro listed a w h w1 he; obtain ⟨h1, e, h2, h3, h4⟩ := h w1 he; exact ⟨h1, e, h2, h3, hs2.trans h4⟩
            | succ m ihm =>
              intro listed a w h w1 he
              obtain ⟨h1, h2⟩ := h w1 he
              refine ⟨fun h0 => ?_, fun i hi => wpOp_mono (fun a' w' ⟨hE, hh⟩ => ⟨hE, ihm hh⟩) (h2 i hi)⟩
              obtain ⟨e, h2, h3, h4⟩ := h1 h0
              exact ⟨e, h2, h3, hs2.trans h4⟩
          exact wk this
        rcases hc with ⟨hw, hA⟩ | ⟨hw, hB⟩
        · split at hA
          · rename_i hsoft
            obtain ⟨v, kb, hrun, hp, hkb⟩ := soft_all ha1.eval ha1.ok hsoft hA
            exact first (.inl ⟨hw, fun w' hw' => by rw [hrun w' hw']; exact ⟨rfl, rfl⟩⟩) (rest hp hkb)
          · rename_i hsoft
            have hnm : isMove o = false := by
              cases hm : isMove o with
              | false => rfl
              | true =>
                obtain ⟨dst, op, type, pos, after, guard⟩ := o
                cases op <;> first | (simp [isMove] at hm; done) | (simp [isSoftIn, isSoft] at hsoft)
            obtain ⟨dst, op, type, pos, after, guard⟩ := o
            cases op <;> first | exact hA.elim | skip
            rename_i c
            obtain ⟨callee, args, argTypes⟩ := c
            cases callee <;> first | exact hA.elim | skip
            rename_i f
            obtain ⟨v, hv, hp⟩ := hA
            refine first (.inl ⟨hw, fun w' hw' => ?_⟩) (rest hp fun b e => by cases e)
            have hE : Ext w w' := hw'.resolve_left (by rw [hnm]; simp)
            obtain ⟨fn, fst, cap, hfv, hb, hcall⟩ := hv w' hE
            have hx : execOp a.eval ⟨dst, .call ⟨.value f, args, argTypes⟩, type, pos, after, guard⟩ = (do let d ← Deferred.ofValue (ev env1 f) (evs env1 args).toArray; invoke d.target d.args) := by
              rw [evs_eq ha1.eval, ← ha1.eval]
              simp only [execOp, resolve]
            rw [hx, invoke_run hfv hb]
            exact ⟨rfl, hcall.mono fun e w3 ⟨u, he, hu, hE3⟩ => ⟨by rw [he, hu], hE3⟩⟩
        · exact first (.inr ⟨hw, rfl⟩) (rest hB fun b e => by cases e; rfl)
      · intro w1 he
        refine ⟨(fun h0 => by rw [h0] at hr; cases hr), fun i hi => ?_⟩
        have hi0 := hi
        rw [hr] at hi
        have hF := allD_mem (h w1 he) hi
        cases ho : ops[i]? with
        | none => simp only [ho] at hF
        | some o =>
          simp only [ho] at hF
          obtain ⟨env1, ha1, hs1, hc⟩ := wantD_ok (W := W) hF ha
          unfold wpOp
          simp only [ho]
          have rest : ∀ {v : Value} {kb : Option (Option Bool)} {w2 : World}, (∀ b, kb = some b → v = kv b) → putD n env1 o.dst v kb (fun env' => drD P n quiet ops m (listed.setIfInBounds i true) env' w2 K) →
              AnyW P quiet ops (fun a' w' => ∃ env', K env' w' ∧ Ag n env' a' ∧ Same W env env') m (listed.setIfInBounds i true) (a.put o.dst v) w2 := by
            intro v kb w2 hkb hp
            obtain ⟨env2, h2, ha2, hs2⟩ := putD_ok hp ha1 hkb (hW i o ho)
            exact weaken (hs1.trans hs2) (ih _ env2 _ w2 h2 ha2 (down_set hd hi0))
          rcases hc with ⟨hw, hA⟩ | ⟨hw, hB⟩
          · rw [hw]
            refine .inl ?_
            refine Oper.wp_mono (fun a' w' ⟨v, e, hp⟩ => ?_) (hard_ok ha1.eval hA)
            obtain ⟨hE, hp⟩ := exq_ok hp
            rw [e]
            exact ⟨hE, rest (fun b e => by cases e) hp⟩
          · rw [hw]
            exact ⟨fun _ => Ext.refl _, rest (fun b e => by cases e; rfl) hB⟩

end
end Go.Vc
