/- The compiler of Vc is sound: one operation. Conditions: none. -/
import Derived.Test.YtoolpnkcmlebkaaGreatVc
namespace Go.Vc

theorem evs_eq {a : Act} {env : Env} (he : a.eval = ev env) (l : Array Operand) : (evs env l).toArray = l.map a.eval := by
  rw [he]; apply Array.ext' ; simp [evs]
theorem partsOf_eq {a : Act} {env : Env} (he : a.eval = ev env) (ps : Array (Nat × Operand)) : (partsOf env ps).toArray = ps.map fun (i, x) => (i, a.eval x) := by
  rw [he]; apply Array.ext'; simp [partsOf]
theorem oev_eq {a : Act} {env : Env} (he : a.eval = ev env) (x : Option Operand) : oev env x = x.map a.eval := by
  rw [he]; cases x <;> rfl

/-- In every world beyond 'w' the thing yields v and leaves the world. -/
def Yes (P : Program) (w : World) (s : Sem Value) (v : Value) : Prop := ∀ w', Ext w w' → s.run P w' = .ok v w'

section
variable {P : Program} {w : World} {K : Value → Prop}

theorem run_und {t : TypeId} {d : TypeDesc} (h : P.underlying t = some d) (w : World) : (underlying t).run P w = .ok d w := by simp [underlying, h]
theorem run_info {t : TypeId} {i : TypeInfo} (h : P.info? t = some i) (w : World) : (typeInfo t).run P w = .ok i w := by simp [typeInfo, h]
theorem run_size {t : TypeId} {i : TypeInfo} (h : P.info? t = some i) (w : World) : (sizeOf t).run P w = .ok i.size w := by simp [sizeOf, run_info h]

theorem isAgg_run {t : TypeId} {b : Bool} (h : isAgg? P t = some b) (w : World) : (isAgg t).run P w = .ok b w := by
  unfold isAgg? at h
  cases hu : P.underlying t with
  | none => simp [hu] at h
  | some d => cases d <;> simp [hu] at h <;> subst h <;> simp [isAgg, run_und hu]

theorem loadCellsFrom_run {w : World} {ad : Addr} {cs : Array Value} : ∀ (m i : Nat) (acc : Array Value), (∀ j, i ≤ j → j < i + m → w.cell? (ad.add j) = cs[j]?) → i + m ≤ cs.size →
    (loadCellsFrom ad i m acc).run P w = .ok (acc ++ cs.extract i (i + m)) w := by
  intro m
  induction m with
  | zero => intro i acc _ hm; simp [loadCellsFrom]; omega
  | succ m ih =>
    intro i acc h hm
    have h0 : w.cell? (ad.add i) = some cs[i] := by rw [h i (Nat.le_refl _) (by omega)]; simp
    simp only [loadCellsFrom, Sem.run_bind, run_load, h0, Result.andThen_ok]
    rw [ih (i + 1) _ (fun j h1 h2 => h j (by omega) (by omega)) (by omega)]
    congr 1
    apply Array.ext
    · simp; omega
    · intro k h1 h2
      simp only [Array.getElem_append, Array.size_push, Array.getElem_push, Array.getElem_extract]
      by_cases hk : k < acc.size
      · simp [hk, Nat.lt_succ_of_lt hk]
      · by_cases hk2 : k = acc.size
        · subst hk2; simp
        · have : ¬ k < acc.size + 1 := by omega
          simp only [this, hk, dif_neg, not_false_eq_true]
          congr 1; omega

theorem ext_cells {w w' : World} (h : Ext w w') {ad : Addr} {cs : Array Value} {n : Nat} (hn : cs.size = n) (hc : ∀ i, i < n → w.cell? (ad.add i) = cs[i]?) : ∀ i, i < n → w'.cell? (ad.add i) = cs[i]? := by
  intro i hi
  have h1 : w.cell? (ad.add i) = some cs[i] := by rw [hc i hi]; simp
  rw [h.cell h1]; simp

theorem ldD_ok {t : TypeId} {x : Value} (h : ldD P w t x K) : ∃ v, Yes P w (Instr.loadAt t x) v ∧ K v := by
  unfold ldD at h
  split at h
  · rename_i i hg hi
    obtain ⟨ad, cs, rfl, hn, hc, hk⟩ := h
    refine ⟨_, fun w' hw' => ?_, hk⟩
    simp only [Instr.loadAt, Instr.sureAddr, loadVar, Sem.run_bind, Sem.run_pure, Result.andThen_ok, isAgg_run hg, if_true, run_size hi, loadCells]
    rw [loadCellsFrom_run (cs := cs) i.size 0 #[] (fun j _ hj => ext_cells hw' hn hc j (by omega)) (by omega)]
    simp [← hn]
  · rename_i hg
    obtain ⟨ad, v, rfl, hc, hk⟩ := h
    refine ⟨v, fun w' hw' => ?_, hk⟩
    simp [Instr.loadAt, Instr.sureAddr, loadVar, isAgg_run hg, hw'.cell hc]
  · exact h.elim

theorem intD_ok {op : BinOp} {k : IntKind} {x y : Value} {t : TypeId} {xo yo : Operand} (h : intD op k x y K) :
    ∃ v, (∀ w, (do eqGuard op t xo yo x y; binOp op t x y : Sem Value).run P w = .ok v w) ∧ K v := by
  cases op
  case shl => obtain ⟨a, yk, b, rfl, rfl, hb, hk⟩ := h; refine ⟨_, fun w => ?_, hk⟩; simp [eqGuard, binOp, Op.shift, show ¬ b < 0 by omega, iShl]
  case shr => obtain ⟨a, yk, b, rfl, rfl, hb, hk⟩ := h; refine ⟨_, fun w => ?_, hk⟩; simp [eqGuard, binOp, Op.shift, show ¬ b < 0 by omega, iShr]
  case quo => obtain ⟨a, b, rfl, rfl, hb, hk⟩ := h; refine ⟨_, fun w => ?_, hk⟩; simp [eqGuard, binOp, Op.intDiv, hb]
  case rem => obtain ⟨a, b, rfl, rfl, hb, hk⟩ := h; refine ⟨_, fun w => ?_, hk⟩; simp [eqGuard, binOp, Op.intDiv, hb]
  case and => obtain ⟨a, b, rfl, rfl, hk⟩ := h; refine ⟨_, fun w => ?_, hk⟩; simp [eqGuard, binOp, Op.intBits, iAnd]
  case or => obtain ⟨a, b, rfl, rfl, hk⟩ := h; refine ⟨_, fun w => ?_, hk⟩; simp [eqGuard, binOp, Op.intBits, iOr]
  case xor => obtain ⟨a, b, rfl, rfl, hk⟩ := h; refine ⟨_, fun w => ?_, hk⟩; simp [eqGuard, binOp, Op.intBits, iXor]
  case andNot => obtain ⟨a, b, rfl, rfl, hk⟩ := h; refine ⟨_, fun w => ?_, hk⟩; simp [eqGuard, binOp, Op.intBits, iAndNot]
  case eql => obtain ⟨a, b, rfl, rfl, hk⟩ := h; refine ⟨_, fun w => ?_, hk⟩; simp [eqGuard, binOp, Op.intCmp]; by_cases hab : a = b <;> simp [hab]
  case neq => obtain ⟨a, b, rfl, rfl, hk⟩ := h; refine ⟨_, fun w => ?_, hk⟩; simp [eqGuard, binOp, Op.intCmp]; by_cases hab : a = b <;> simp [hab]
  all_goals (obtain ⟨a, b, rfl, rfl, hk⟩ := h; refine ⟨_, fun w => ?_, hk⟩; simp [eqGuard, binOp, Op.intArith, Op.intCmp])

theorem equalIn_bool {t : TypeId} (hu : P.underlying t = some .bool) (d : Nat) (a b : Bool) (w : World) : (Op.equalIn (d + 1) t (.bool a) (.bool b)).run P w = .ok (a == b) w := by
  simp [Op.equalIn, run_und hu]
theorem equalIn_nilS {t e : TypeId} (hu : P.underlying t = some (.slice e)) (d : Nat) (a : Option Addr) (n c : Nat) (w : World) : (Op.equalIn (d + 1) t (.slice a n c) (.slice none 0 0)).run P w = .ok (isNilS (.slice a n c)) w := by
  cases a <;> simp [Op.equalIn, run_und hu, isNilS]
theorem equal_bool {t : TypeId} (hu : P.underlying t = some .bool) (a b : Bool) (w : World) : (Op.equal t (.bool a) (.bool b)).run P w = .ok (a == b) w := equalIn_bool hu 9999 a b w
theorem equal_nilS {t e : TypeId} (hu : P.underlying t = some (.slice e)) (a : Option Addr) (n c : Nat) (w : World) : (Op.equal t (.slice a n c) (.slice none 0 0)).run P w = .ok (isNilS (.slice a n c)) w := equalIn_nilS hu 9999 a n c w
theorem binOp_str (op : BinOp) (t : TypeId) (a b : ByteArray) : binOp op t (.string a) (.string b) = Op.stringOp op a b := by cases op <;> rfl
theorem eqGuard_str (op : BinOp) (t : TypeId) (xo yo : Operand) (a b : ByteArray) (w : World) : (eqGuard op t xo yo (.string a) (.string b)).run P w = .ok () w := by
  cases op <;> simp [eqGuard]
theorem eqGuard_bool (op : BinOp) (t : TypeId) (xo yo : Operand) (a b : Bool) (w : World) : (eqGuard op t xo yo (.bool a) (.bool b)).run P w = .ok () w := by
  cases op <;> simp [eqGuard]
theorem eqGuard_sl (op : BinOp) (t : TypeId) (xo yo : Operand) (a b : Option Addr) (n c m d : Nat) (w : World) : (eqGuard op t xo yo (.slice a n c) (.slice b m d)).run P w = .ok () w := by
  cases op <;> simp [eqGuard]
theorem binOp_eql_bool (t : TypeId) (a b : Bool) : binOp .eql t (.bool a) (.bool b) = (do pure (.bool (← Op.equal t (.bool a) (.bool b)))) := rfl
theorem binOp_neq_bool (t : TypeId) (a b : Bool) : binOp .neq t (.bool a) (.bool b) = (do pure (.bool (!(← Op.equal t (.bool a) (.bool b))))) := rfl
theorem binOp_eql_sl (t : TypeId) (a b : Option Addr) (n c m d : Nat) : binOp .eql t (.slice a n c) (.slice b m d) = (do pure (.bool (← Op.equal t (.slice a n c) (.slice b m d)))) := rfl
theorem binOp_neq_sl (t : TypeId) (a b : Option Addr) (n c m d : Nat) : binOp .neq t (.slice a n c) (.slice b m d) = (do pure (.bool (!(← Op.equal t (.slice a n c) (.slice b m d))))) := rfl

theorem binD_ok {op : BinOp} {x y : Value} {t : TypeId} {xo yo : Operand} (h : binD P w op t xo yo x y K) :
    ∃ v, Yes P w (do eqGuard op t xo yo x y; binOp op t x y) v ∧ K v := by
  unfold binD at h
  split at h
  · obtain ⟨v, h1, h2⟩ := intD_ok h; exact ⟨v, fun w' _ => h1 w', h2⟩
  · rename_i hu
    split at h
    · obtain ⟨a, b, rfl, rfl, hk⟩ := h; refine ⟨_, fun w' _ => ?_, hk⟩
      rw [binOp_eql_bool]
      simp only [Sem.run_bind, Sem.run_pure, Result.andThen_ok, eqGuard_bool, equal_bool hu]
      simp
    · obtain ⟨a, b, rfl, rfl, hk⟩ := h; refine ⟨_, fun w' _ => ?_, hk⟩
      rw [binOp_neq_bool]
      simp only [Sem.run_bind, Sem.run_pure, Result.andThen_ok, eqGuard_bool, equal_bool hu]
      simp
    · exact h.elim
  · rename_i hu
    obtain ⟨a, b, v, rfl, rfl, hv, hk⟩ := h
    refine ⟨v, fun w' _ => ?_, hk⟩
    rw [binOp_str, hv]
    simp only [Sem.run_bind, Sem.run_pure', Result.andThen_ok, eqGuard_str]
  · rename_i e hu
    split at h
    · obtain ⟨hx, rfl, hk⟩ := h; refine ⟨_, fun w' _ => ?_, hk⟩
      cases x <;> simp only [isSl] at hx
      rw [binOp_eql_sl]
      simp only [Sem.run_bind, Sem.run_pure, Result.andThen_ok, eqGuard_sl, equal_nilS hu]
      simp
    · obtain ⟨hx, rfl, hk⟩ := h; refine ⟨_, fun w' _ => ?_, hk⟩
      cases x <;> simp only [isSl] at hx
      rw [binOp_neq_sl]
      simp only [Sem.run_bind, Sem.run_pure, Result.andThen_ok, eqGuard_sl, equal_nilS hu]
      simp
    · exact h.elim
  · obtain ⟨v, hv, hk⟩ := h; exact ⟨v, hv, hk⟩
  · exact h.elim

theorem fldD_ok {s : TypeId} {f : Nat} {K : Nat → Nat → Bool → Prop} (h : fldD P s f K) : ∃ fs fl i g, P.underlying s = some (.struct fs) ∧ fs[f]? = some fl ∧ P.info? fl.type = some i ∧ isAgg? P fl.type = some g ∧ i.size ≠ 0 ∧ K fl.offset i.size g := by
  unfold fldD at h
  split at h
  · rename_i fs hu
    split at h
    · rename_i fl hf
      split at h
      · rename_i i g hi hg
        split at h
        · exact h.elim
        · rename_i h0
          exact ⟨fs, fl, i, g, hu, hf, hi, hg, fun e => h0 (by simp [e]), h⟩
      · exact h.elim
    · exact h.elim
  · exact h.elim

theorem bnd_run {d r : Nat} {o : Option Value} (h : bnd d r o) : (o = none ∧ r = d) ∨ ∃ k, o = some (.int k (r : Int)) := by
  cases o with
  | none => exact .inl ⟨rfl, h⟩
  | some v => obtain ⟨k, rfl⟩ := h; exact .inr ⟨k, rfl⟩

theorem sliceBounds_run {n c l h : Nat} {lo hi : Option Value} (isS : Bool) (h1 : bnd n h hi) (h2 : bnd 0 l lo) (h3 : l ≤ h) (h4 : h ≤ c) (w : World) :
    (Instr.sliceBounds isS n c lo hi none).run P w = .ok (l, h, c) w := by
  unfold Instr.sliceBounds
  rcases bnd_run h1 with ⟨rfl, rfl⟩ | ⟨k, rfl⟩ <;> rcases bnd_run h2 with ⟨rfl, rfl⟩ | ⟨k', rfl⟩ <;>
    simp [Instr.sliceBound, asIntOf, h3, h4]

theorem placesOf_run : ∀ (l : List Field) {r : List (Nat × Nat)}, placesOf P l = some r → ∀ w, (l.mapM (m := Sem) fun f => do pure (f.offset, ← sizeOf f.type)).run P w = .ok r w
  | [], r, h, w => by simp [placesOf] at h; subst h; simp
  | f :: l, r, h, w => by
    unfold placesOf at h
    split at h
    · rename_i i r' hi hr
      cases h
      have ih := placesOf_run l hr w
      simp only [bind_pure_comp] at ih
      simp [List.mapM_cons, run_size hi, ih]
    · cases h

/-- An operation that leaves memory alone. -/
theorem soft_ok {o : Oper} {env : Env} {a : Act} {K : Value → Option (Option Bool) → Prop} (he : a.eval = ev env) (hk : EnvOk env) (hs : isSoftIn P o = true) (h : softD P o env w K) :
    ∃ v kb, (∀ w', Ext w w' → (execOp a.eval o).run P w' = .ok (.value v) w') ∧ K v kb ∧ (∀ b, kb = some b → v = kv b) := by
  have evb : ∀ x b, evk env x = some b → ev env x = kv b := by
    intro x b hx
    cases x with
    | tmp t => exact hk t b hx
    | const v => cases v <;> simp [evk] at hx; subst hx; rfl
    | _ => simp [evk] at hx
  -- a step that yields by a reckoning of its own
  have fin : ∀ (s : Sem Value), execOp a.eval o = (do pure (.value (← s))) → (∃ v, Yes P w s v ∧ K v none) → ∃ v kb, (∀ w', Ext w w' → (execOp a.eval o).run P w' = .ok (.value v) w') ∧ K v kb ∧ (∀ b, kb = some b → v = kv b) := by
    intro s hs ⟨v, hv, hK⟩
    exact ⟨v, none, fun w' hw' => by rw [hs]; simp [hv w' hw'], hK, fun b hb => by cases hb⟩
  obtain ⟨dst, op, type, pos, after, guard⟩ := o
  cases op <;> (try (simp [isSoftIn, isSoft] at hs; done))
  case move x => exact ⟨_, _, fun w' _ => by simp [execOp, he], h, fun b hb => evb x b hb⟩
  case assign x => exact ⟨_, _, fun w' _ => by simp [execOp, he], h, fun b hb => evb x b hb⟩
  case pick c x y =>
    simp only [softD] at h
    split at h
    · rename_i t ht
      refine ⟨_, _, fun w' _ => ?_, h, fun b hb => ?_⟩
      · simp only [execOp, he, evb c (some t) ht, kv]; cases t <;> simp [asBool]
      · exact evb _ b hb
    · exact h.elim
    · obtain ⟨t, ht, hK⟩ := h
      refine ⟨_, none, fun w' _ => ?_, hK, fun b hb => by cases hb⟩
      simp only [execOp, he, ht]; cases t <;> simp [asBool]
  case load t x => exact fin _ (by simp only [execOp]; rfl) (by rw [he]; exact ldD_ok h)
  case nilCheck x =>
    obtain ⟨hx, hK⟩ := h
    refine ⟨_, none, fun w' _ => ?_, hK, fun b hb => by cases hb⟩
    simp only [execOp, he]
    generalize ev env x = v at *
    unfold okNil at hx
    split at hx <;> first | exact hx.elim | simp
  case binOp op t x y yt => exact fin _ (by simp only [execOp]; rfl) (by rw [he]; exact binD_ok h)
  case unOp op t x =>
    simp only [softD] at h
    cases op <;> simp only [] at h
    · exact fin _ (by simp only [execOp]; rfl) (by rw [he]; exact h)
    · exact fin _ (by simp only [execOp]; rfl) (by rw [he]; exact h)
    · split at h
      · rename_i b hb
        exact ⟨_, _, fun w' _ => by simp [execOp, he, evb x (some b) hb, Op.unary, kv], h, fun b' hb' => by cases hb'; rfl⟩
      · exact h.elim
      · obtain ⟨b, hb, hK⟩ := h
        exact ⟨_, _, fun w' _ => by simp [execOp, he, hb, Op.unary], hK, fun b' hb' => by cases hb'⟩
  case convert s d x =>
    simp only [softD] at h
    split at h
    · rename_i k0 k hs hd
      obtain ⟨k', n, hx, hK⟩ := h
      refine fin _ (by simp only [execOp]; rfl) ⟨_, fun w' _ => ?_, hK⟩
      simp [he, hx, convert, run_und hs, run_und hd, Conv.intToInt]
    · exact fin _ (by simp only [execOp]; rfl) (by rw [he]; exact h)
  case makeFunc fn first cap =>
    refine ⟨_, _, fun w' _ => ?_, h, fun b hb => by cases hb⟩
    simp [execOp, Instr.makeFunc, evs_eq he]
  case slice t x lo hi' mx =>
    simp only [softD] at h
    refine fin _ (by simp only [execOp]; rfl) ?_
    rw [← oev_eq he, ← oev_eq he, ← oev_eq he, he]
    cases mx with
    | some m => exact h
    | none =>
      simp only [elemD] at h
      split at h
      · rename_i e hu
        split at h
        · rename_i i hi
          obtain ⟨ad, n, c, l, hh, hx, h1, h2, h3, h4, hK⟩ := h
          refine ⟨_, fun w' _ => ?_, hK⟩
          rw [hx, show oev env none = none from rfl]
          generalize oev env lo = lo' at *
          generalize oev env hi' = hi2 at *
          simp [Instr.sliceAt, Instr.slice, run_und hu, sliceBounds_run true h1 h2 h3 h4, run_size hi]
        · exact h.elim
      · rename_i len e hu
        split at h
        · exact h
        · exact h.elim
      · rename_i hu
        obtain ⟨s, l, hh, hx, h1, h2, h3, h4, hK⟩ := h
        refine ⟨_, fun w' _ => ?_, hK⟩
        rw [hx, show oev env none = none from rfl]
        generalize oev env lo = lo' at *
        generalize oev env hi' = hi2 at *
        simp [Instr.sliceAt, Instr.slice, run_und hu, sliceBounds_run false h1 h2 h3 h4]
      · exact h.elim
  case fieldAddr s x f =>
    simp only [softD] at h
    obtain ⟨fs, fl, i, g, hu, hf, hi, hg, h0, ad, hx, hK⟩ := fldD_ok h
    refine fin _ (by simp only [execOp]; rfl) ⟨_, fun w' _ => ?_, hK⟩
    simp [he, hx, Instr.fieldAt, run_und hu, hf, Instr.sureAddr, fieldPlace, run_size hi, h0]
  case field s x f =>
    simp only [softD] at h
    obtain ⟨fs, fl, i, g, hu, hf, hi, hg, h0, hc⟩ := fldD_ok h
    refine fin _ (by simp only [execOp]; rfl) ?_
    cases g
    · obtain ⟨cs, v, hx, hv, hK⟩ := hc
      refine ⟨_, fun w' _ => ?_, hK⟩
      simp [he, hx, Instr.field, run_und hu, hf, asAgg, part, isAgg_run hg, hv]
    · obtain ⟨cs, hx, hK⟩ := hc
      refine ⟨_, fun w' _ => ?_, hK⟩
      simp [he, hx, Instr.field, run_und hu, hf, asAgg, part, isAgg_run hg, run_size hi]
  case indexAddr t x i =>
    simp only [softD, elemD] at h
    refine fin _ (by simp only [execOp]; rfl) ?_
    rw [he]
    split at h
    · rename_i e hu
      split at h
      · rename_i ti hi
        obtain ⟨ad, n, c, k, j, hx, hj, h1, h2, hK⟩ := h
        refine ⟨_, fun w' _ => ?_, hK⟩
        rw [hx, hj]
        simp [Instr.indexAt, run_und hu, asIntOf, run_size hi, h1, h2]
      · exact h.elim
    · rename_i len e hu
      split at h
      · rename_i ti hi
        obtain ⟨ad, k, j, hx, hj, h1, h2, hK⟩ := h
        refine ⟨_, fun w' _ => ?_, hK⟩
        rw [hx, hj]
        simp [Instr.indexAt, run_und hu, asIntOf, Instr.sureAddr, run_size hi, h1, h2]
      · exact h.elim
    · exact h.elim
    · exact h.elim
  case index t x i =>
    simp only [softD, elemD] at h
    refine fin _ (by simp only [execOp]; rfl) ?_
    rw [he]
    split at h
    · split at h <;> exact h.elim
    · split at h
      · exact h
      · exact h.elim
    · rename_i hu
      obtain ⟨s, k, j, b, hx, hj, h1, h2, hK⟩ := h
      refine ⟨_, fun w' _ => ?_, hK⟩
      rw [hx, hj]
      simp [Instr.index, run_und hu, asIntOf, h1, h2]
    · exact h.elim
  case extract x i =>
    obtain ⟨vs, v, hx, hv, hK⟩ := h
    refine fin _ (by simp only [execOp]; rfl) ⟨_, fun w' _ => ?_, hK⟩
    simp [he, hx, Instr.extract, hv]
  case build t ps =>
    simp only [softD] at h
    refine fin _ (by simp only [execOp]; rfl) ?_
    rw [← partsOf_eq he]
    split at h
    · rename_i fs ti hu hi
      split at h
      · rename_i z l hz hl
        obtain ⟨cs, hcs, hK⟩ := h
        refine ⟨_, fun w' _ => ?_, hK⟩
        have hp := placesOf_run fs.toList hl w'
        have hm : (fs.mapM (m := Sem) fun f => do pure (f.offset, ← sizeOf f.type)).run P w' = .ok l.toArray w' := by
          rw [← Array.toArray_toList (xs := fs)]
          rw [List.mapM_toArray]
          simp only [Sem.run_map, hp, Result.andThen_ok]
        simp only [bind_pure_comp] at hm
        simp [Instr.build, zeroValue, run_info hi, hz, run_und hu, hm]
        simp only [List.getElem?_toArray] at hcs
        simp [hcs]
      · exact h.elim
    · exact h
  case lookup t x i ok => exact fin _ (by simp only [execOp]; rfl) (by rw [he]; exact h)
  case call c =>
    obtain ⟨callee, args, argTypes⟩ := c
    cases callee <;> (try (simp [isSoftIn, isSoft] at hs; done))
    rename_i b
    have ex : ∀ s, (∀ cs, builtin b argTypes type cs (args.map a.eval) = (do pure (.value (← s)))) → execOp a.eval ⟨dst, .call ⟨.builtin b, args, argTypes⟩, type, pos, after, guard⟩ = (do pure (.value (← s))) := by
      intro s hs
      simp only [execOp, resolve]
      exact hs _
    cases b <;> (try (simp [isSoftIn, isSoft] at hs; done))
    all_goals (simp only [softD] at h; refine fin _ (ex _ fun _ => rfl) ?_; rw [← evs_eq he])
    · exact h
    · split at h
      · rename_i t x ht hx
        rw [hx]
        split at h
        · rename_i e hu
          obtain ⟨ad, n, c, rfl, hK⟩ := h
          refine ⟨_, fun w' _ => ?_, hK⟩
          simp [Builtin.len_, ht, run_und hu, goInt]
        · rename_i hu
          obtain ⟨s, rfl, hK⟩ := h
          refine ⟨_, fun w' _ => ?_, hK⟩
          simp [Builtin.len_, ht, run_und hu, goInt]
        · exact h
      · exact h.elim
    · split at h
      · rename_i x y hx
        obtain ⟨k, m, k', n, rfl, rfl, hK⟩ := h
        refine ⟨_, fun w' _ => ?_, hK⟩
        simp [hx, Builtin.max_, Builtin.max2]
      · exact h
    · split at h
      · rename_i x y hx
        obtain ⟨k, m, k', n, rfl, rfl, hK⟩ := h
        refine ⟨_, fun w' _ => ?_, hK⟩
        simp [hx, Builtin.min_, Builtin.min2]
      · exact h

end
end Go.Vc
