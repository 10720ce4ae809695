/- The compiler of Vc is sound: one operation that writes, makes memory or calls. Conditions: none. -/
import Derived.Test.YtoolpnkcmlebkaaGreatVd
namespace Go.Vc
section
variable {P : Program} {w : World}

theorem isCell_one {v : Value} (h : isCell v = true) : v.oneCell' = true := by cases v <;> first | rfl | (simp [isCell] at h)
theorem isCell_cells {v : Value} (h : isCell v = true) : v.cells = #[v] := by cases v <;> first | rfl | (simp [isCell] at h)

theorem callFunc_run {f : FuncId} {args : Array Value} (h : HasB P f) (w : World) : (callFunc f args).run P w = .ok (.enter f args) w := by
  obtain ⟨fn, hf, hn, hb⟩ := h
  have hn' : ¬ fn.name = "runtime.NumGoroutine" := by simpa using hn
  have hb' : ¬ fn.body = none := by intro e; simp [e] at hb
  simp [callFunc, hf, hn', hb']

theorem invoke_run {fv : Value} {args : List Value} {f : FuncId} {first cap : Array Value} (hv : fv = .func (.func f) first cap) (h : HasB P f) (w : World) :
    (do let d ← Deferred.ofValue fv args.toArray; invoke d.target d.args : Sem Next).run P w = .ok (.enter f (first ++ args.toArray ++ cap)) w := by
  subst hv
  simp [Deferred.ofValue, invoke, callFunc_run h]

/-- The next state of a walk behind one operation. -/
def Nx (o : Oper) (a : Act) (K : Value → World → Prop) : Act → World → Prop := fun a' w' => ∃ v, a' = a.put o.dst v ∧ K v w'

theorem upon_call {o : Oper} {a : Act} {fv : Value} {args : List Value} {K : Value → World → Prop} {Q : Exit → Act → World → Prop}
    (hx : execOp a.eval o = (do let d ← Deferred.ofValue fv args.toArray; invoke d.target d.args)) (h : callV P fv args w K) : o.wp P a w (Nx o a K) Q := by
  obtain ⟨f, first, cap, hv, hb, hc⟩ := h
  unfold Oper.wp
  rw [hx, invoke_run hv hb, Oper.upon_enter]
  refine hc.mono fun e w' ⟨v, he, hK⟩ => ?_
  subst he
  exact ⟨v, rfl, hK⟩

theorem mkCells_eq {z : Value} {n : Nat} : (Array.range n).map (fun j => z.cells[j % z.cells.size]!) = (Array.range n).map (z.cells[· % z.cells.size]!) := rfl

theorem hard_ok {o : Oper} {env : Env} {a : Act} {K : Value → World → Prop} {Q : Exit → Act → World → Prop} (he : a.eval = ev env) (h : hardD P o env w K) : o.wp P a w (Nx o a K) Q := by
  have finV : ∀ (s : Sem Value), execOp a.eval o = (do pure (.value (← s))) → (∃ v w', s.run P w = .ok v w' ∧ K v w') → o.wp P a w (Nx o a K) Q := by
    intro s hs ⟨v, w', hv, hK⟩
    unfold Oper.wp
    rw [hs]
    simp only [Sem.run_bind, Sem.run_pure, hv, Result.andThen_ok, Oper.upon_value]
    exact ⟨v, rfl, hK⟩
  have finU : ∀ (s : Sem Unit), execOp a.eval o = (do s; pure .skip) → (∃ w', s.run P w = .ok () w' ∧ K undef w') → o.wp P a w (Nx o a K) Q := by
    intro s hs ⟨w', hv, hK⟩
    unfold Oper.wp
    rw [hs]
    simp only [Sem.run_bind, Sem.run_pure, hv, Result.andThen_ok, Oper.upon_skip]
    exact ⟨undef, rfl, hK⟩
  obtain ⟨dst, op, type, pos, after, guard⟩ := o
  cases op <;> first | exact h.elim | skip
  case alloc e =>
    simp only [hardD] at h
    split at h
    · rename_i i hi
      split at h
      · rename_i z hz
        refine finV _ (by simp only [execOp]; rfl) ⟨_, _, ?_, h⟩
        simp [Instr.alloc, zeroValue, run_info hi, hz, newVar, newRow]
      · exact h.elim
    · exact h.elim
  case box e x =>
    simp only [hardD] at h
    split at h
    · refine finV _ (by simp only [execOp]; rfl) ⟨_, _, ?_, h⟩
      simp [Instr.box, newVar, newRow, he]
    · exact h.elim
  case store t x y =>
    simp only [hardD] at h
    refine finU _ (by simp only [execOp]; rfl) ?_
    rw [he]
    split at h
    · rename_i i hg hi
      split at h
      · rename_i h1
        obtain ⟨ad, old, hx, hc, hf, hy, hK⟩ := h
        refine ⟨_, ?_, hK⟩
        have h1' : i.size = 1 := by simpa using h1
        simp [Instr.storeAt, Instr.sureAddr, hx, storeVar, isCell_cells hy, run_size hi, h1', storeCells, run_store P w _ _ _ (isCell_one hy), hc, hf, Addr.add]
      · exact h.elim
    · rename_i i hg hi
      obtain ⟨ad, w', hx, hn, hs, hK⟩ := h
      refine ⟨w', ?_, hK⟩
      simp [Instr.storeAt, Instr.sureAddr, hx, storeVar, run_size hi, hn, hs]
    · exact h.elim
  case makeSlice t l c =>
    simp only [hardD] at h
    split at h
    · rename_i e hu
      split at h
      · rename_i i hi
        split at h
        · rename_i z hz
          obtain ⟨k, k', ln, cn, hl, hc, h1, h2, h3, hK⟩ := h
          refine finV _ (by simp only [execOp]; rfl) ⟨_, _, ?_, hK⟩
          have w1 : IntKind.i64.wrap (ln : Int) = ln := by rw [IntKind.wrap_i64]; omega
          have w2 : IntKind.i64.wrap (cn : Int) = cn := by rw [IntKind.wrap_i64]; omega
          rw [he, hl, hc]
          have n1 : ¬ ((cn : Int) < 0) := by omega
          have n2 : ¬ ((ln : Int) < 0) := by omega
          have n3 : ¬ ((ln : Int) > cn) := by omega
          have n4 : ¬ ((i.bytes : Int) * cn > 2 ^ 48) := by omega
          simp only [Instr.makeSlice, Sem.run_bind, run_und hu, Result.andThen_ok, asInt, asIntOf, Sem.run_pure, run_info hi, w1, w2, n1, n2, n3, n4, decide_false, Bool.or_false, Bool.false_eq_true, if_false, run_askRoom, run_size hi, Int.toNat_natCast]
          by_cases h0 : cn * i.size = 0
          · simp [h0, newRow, show Array.range 0 = #[] from rfl]
          · simp [h0, zeroValue, run_info hi, hz, newRow]
        · exact h.elim
      · exact h.elim
    · exact h.elim
  case buildSlice t n ps =>
    simp only [hardD] at h
    split at h
    · rename_i e hu
      split at h
      · rename_i i hi
        split at h
        · rename_i z hz
          split at h
          · rename_i hle
            obtain ⟨cs, hcs, hK⟩ := h
            refine finV _ (by simp only [execOp]; rfl) ⟨_, _, ?_, hK⟩
            rw [← partsOf_eq he]
            have hle' : ¬ n * i.size > 2 ^ 24 := by have := Nat.le_of_ble_eq_true hle; omega
            simp only [Instr.buildSlice, Sem.run_bind, run_und hu, Result.andThen_ok, run_size hi, hle', if_false]
            by_cases h0 : n * i.size = 0
            · simp [h0, show Array.range 0 = #[] from rfl] at hcs
              simp [h0, show Array.range 0 = #[] from rfl, hcs, newRow]
            · simp [h0, zeroValue, run_info hi, hz]
              simp [hcs, newRow]
          · exact h.elim
        · exact h.elim
      · exact h.elim
    · exact h.elim
  case makeMap t r =>
    refine finV _ (by simp only [execOp]; rfl) ?_
    rw [← oev_eq he]; exact h
  case mapUpdate t m k v => refine finU _ (by simp only [execOp]; rfl) ?_; rw [he]; exact h
  case insert t m k v => refine finU _ (by simp only [execOp]; rfl) ?_; rw [he]; exact h
  case mapEntry t m k => refine finV _ (by simp only [execOp]; rfl) ?_; rw [he]; exact h
  case entryStore t m s v => refine finU _ (by simp only [execOp]; rfl) ?_; rw [he]; exact h
  case range t x => refine finV _ (by simp only [execOp]; rfl) ?_; rw [he]; exact h
  case next it s => refine finV _ (by simp only [execOp]; rfl) ?_; rw [he]; exact h
  case entry it => refine finV _ (by simp only [execOp]; rfl) ?_; rw [he]; exact h
  case convert s d x => refine finV _ (by simp only [execOp]; rfl) ?_; rw [he]; exact h
  case call c =>
    obtain ⟨callee, args, argTypes⟩ := c
    cases callee with
    | value f =>
      refine upon_call ?_ h
      rw [evs_eq he, ← he]
      simp only [execOp, resolve]
    | invoke r m => exact h.elim
    | builtin b =>
      have ex : ∀ s, (∀ cs, builtin b argTypes type cs (args.map a.eval) = (do pure (.value (← s)))) → execOp a.eval ⟨dst, .call ⟨.builtin b, args, argTypes⟩, type, pos, after, guard⟩ = (do pure (.value (← s))) := by
        intro s hs
        simp only [execOp, resolve]
        exact hs _
      cases b <;> first | exact h.elim | skip
      all_goals (refine finV _ (ex _ fun _ => rfl) ?_; rw [← evs_eq he]; exact h)

end
end Go.Vc
