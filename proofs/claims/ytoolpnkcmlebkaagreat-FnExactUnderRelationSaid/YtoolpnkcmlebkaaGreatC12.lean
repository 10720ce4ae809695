/- Contracts: the first map that the search finds; the functions that hand it back. Conditions: none. -/
import Derived.Test.YtoolpnkcmlebkaaGreatC11
import Derived.Test.YtoolpnkcmlebkaaGreatLw2
namespace Go.Vc
theorem Blk.same {e : TypeId} {w w' : World} {b : Nat} {cs : List Value} (h : Blk e w b cs) (hs : w'.heap[b]? = w.heap[b]?) : Blk e w' b cs := by
  unfold Blk at *
  rw [hs]; exact h
theorem Ow.same {lo : Nat} {e : TypeId} {w w' : World} {v : Value} {xs : List Value} (h : Ow lo e w v xs) (hs : ∀ c, v.ownBlock = some c → w'.heap[c]? = w.heap[c]?) : Ow lo e w' v xs := by
  obtain ⟨h0, h | ⟨g, cap, cur, hv, hg, hh, h1⟩⟩ := h
  · exact ⟨h0, .inl h⟩
  · exact ⟨h0, .inr ⟨g, cap, cur, hv, hg, by rw [hs g (by rw [hv]; rfl)]; exact hh, h1⟩⟩
theorem OwL.same {lo : Nat} {e : TypeId} {w w' : World} {vs : List Value} {ls : List (List Value)} (h : OwL lo e w vs ls) (hs : ∀ v ∈ vs, ∀ c, v.ownBlock = some c → w'.heap[c]? = w.heap[c]?) : OwL lo e w' vs ls :=
  ⟨h.1, fun i v l hv hl => (h.2.1 i v l hv hl).same (hs v (List.mem_of_getElem? hv)), h.2.2⟩
end Go.Vc
namespace Go.Proofs.YtoolpnkcmlebkaaGreat
open Go.Vc
theorem marks_length (k n : Nat) : (marks k n).length = n := by simp [marks]
/-- Results that are lists of int64. -/
def resList {sp im : FuncId} {out : Int → List Int → Int → List Int → List Int × Int}
    (hsp : ∀ {w : World} {v0 v1 : Value} {l0 l1 : List Int}, SlI w v0 l0 → SlI w v1 l1 → ∀ n0 n1 : Int, Cal Tryz.prog sp #[.agg #[.int .i64 n0, v0], .agg #[.int .i64 n1, v1]] w fun r w' => Ext w w' ∧ ∃ v, r = .tuple #[v, .int .i64 (out n0 l0 n1 l1).2] ∧ Ow w.heap.size t_i64 w' v (ints (out n0 l0 n1 l1).1))
    (him : ∀ {w : World} {v0 v1 : Value} {l0 l1 : List Int}, SlI w v0 l0 → SlI w v1 l1 → ∀ n0 n1 : Int, Cal Tryz.prog im #[.agg #[.int .i64 n0, v0], .agg #[.int .i64 n1, v1]] w fun r w' => Ext w w' ∧ ∃ v, r = .tuple #[v, .int .i64 (out n0 l0 n1 l1).2] ∧ Ow w.heap.size t_i64 w' v (ints (out n0 l0 n1 l1).1))
    (hsm : ∀ n0 l0 n1 l1, (out n0 l0 n1 l1).1.length ≤ 1000000000) : ResFns sp im f_laws_eqInt64S f_laws_markInt64S f_laws_heldInt64S (List Int) out where
  Rd lo w v x := Ow lo t_i64 w v (ints x)
  ext h he := h.ext he
  ch h hc hs := h.ch hc fun c hb hS => by have := (h.blk c hb).1; have := hs c hS; omega
  spec := hsp
  impl := him
  eq h h' := by
    have := ok_laws_eqInt64S h.sl h'.sl
    rwa [decide_eq_true rfl] at this
  cnt x := x.length
  mkd x := marks 1 x.length
  small := hsm
  mark h hx := (ok_laws_markInt64S h 1 (by omega)).mono fun r w' ⟨h1, h2, h3⟩ => ⟨h1, h2, grown_ch h3 fun b hb => (h.blk b hb).1⟩
  held h hx := by
    have := ok_laws_heldInt64S (l := marks 1 _) h.sl 1 (by rw [marks_length]; omega)
    unfold heldN at this
    rwa [marks_length, if_pos rfl] at this
theorem leaves_mem {f g : Fr} {onto one : Bool} {l : List Nat} (h : l ∈ leaves (fitsB f g onto one) g.n f.n []) : l.length = f.n ∧ ∀ y ∈ l, y < g.n := by
  unfold leaves at h
  split at h
  · obtain ⟨h1, h2⟩ := dfs_lt _ _ _ _ l h
    refine ⟨by simpa using h1, fun y hy => ?_⟩
    rcases h2 y hy with h3 | h3
    · cases h3
    · exact h3
  · cases h
/-- The visitor that keeps the first map. -/
theorem ok_impl_firstMorphism_1 {v : Value} {w : World} {c d : Nat} {u : Value} {e1 e2 : TypeId} {b : Bool} {l : List Int} (hne : c ≠ d) (hs : SlI w v l) (hl : l.length ≤ 1099511627776) (hc : Blk e1 w c [u]) (hd : Blk e2 w d [.bool b]) :
    Cal Tryz.prog f_impl_firstMorphism_1 #[v, .pointer (some ⟨c, 0, none⟩), .pointer (some ⟨d, 0, none⟩)] w fun r w' => r = .bool false ∧ ∃ v', Blk e1 w' c [v'] ∧ Blk e2 w' d [.bool true] ∧ Ow w.heap.size t_i64 w' v' (ints l) ∧ Ch (fun k => k = c ∨ k = d) w w' := by
  apply c_impl_firstMorphism_1; unfold S_impl_firstMorphism_1
  refine iCall ((ok_slices_Clone_Si64_i64 hs hl).mono ?_)
  rintro v' w1 ⟨h1, ho⟩
  have hc1 := hc.ext h1
  have hd1 := hd.ext h1
  have hoc : v'.ownBlock ≠ some c := fun e => by have := (ho.blk c e).1; have := hc.lt; omega
  have hod : v'.ownBlock ≠ some d := fun e => by have := (ho.blk d e).1; have := hd.lt; omega
  refine iStB hc1 (by simp) ho.cell fun hc2 => ?_
  have hu := Upd.setCell w1 c 0 v'
  have hd2 := hd1.upd hu (fun e => hne e.symm)
  have ho2 := ho.upd hu hoc
  refine iStB hd2 (by simp) rfl fun hd3 => ?_
  have hu3 := Upd.setCell (w1.setCell ⟨c, 0, none⟩ v') d 0 (.bool true)
  exact ⟨rfl, v', hc2.upd hu3 hne, hd3, ho2.upd hu3 hod, (h1.ch (S := fun k => k = c ∨ k = d)).trans ((hu.ch (S := fun k => k = c ∨ k = d) (.inl rfl)).trans (hu3.ch (S := fun k => k = c ∨ k = d) (.inr rfl)) (fun _ h => .inl h)) (fun _ h => .inl h)⟩
def visFirst (c d lo : Nat) (hne : c ≠ d) (hlo : lo ≤ c) (e1 e2 : TypeId) (n m : Nat) (hn : n ≤ 8) : Visitor Tryz.prog t_i64 (.func (.func f_impl_firstMorphism_1) #[] #[.pointer (some ⟨c, 0, none⟩), .pointer (some ⟨d, 0, none⟩)]) n m (fun _ => false) where
  J S l w := ∃ v, S = (fun k => k = c ∨ k = d ∨ v.ownBlock = some k) ∧ Blk e1 w c [v] ∧ Blk e2 w d [.bool (!l.isEmpty)] ∧ Ow lo t_i64 w v (ints (nats (l.headD [])))
  below := by
    rintro S l w ⟨v, rfl, h1, h2, h3⟩ k (rfl | rfl | hk)
    · exact h1.lt
    · exact h2.lt
    · exact (h3.blk k hk).2
  keep := by
    rintro S l w w' ⟨v, rfl, h1, h2, h3⟩ _ hk
    exact ⟨v, rfl, h1.same (hk c (.inl rfl)), h2.same (hk d (.inr (.inl rfl))), h3.same fun k hb => hk k (.inr (.inr hb))⟩
  visit := by
    rintro S l w u lo' im ⟨v, rfl, h1, h2, h3⟩ hl _ ho hlen _ _
    have hl0 : l = [] := by
      rcases hl with h | h
      · exact h
      · cases h
    subst hl0
    refine ⟨_, _, _, rfl, (ok_impl_firstMorphism_1 (l := nats im) hne ho.sl (by rw [nats_length]; omega) h1 h2).mono ?_⟩
    rintro r w' ⟨rfl, v', g1, g2, g3, g4⟩
    refine ⟨rfl, _, ⟨v', rfl, g1, g2, g3.mono (by have := h1.lt; omega)⟩, g4.mono (fun k hk => ?_), fun k hk => ?_⟩
    · rcases hk with rfl | rfl
      · exact .inl rfl
      · exact .inr (.inl rfl)
    · rcases hk with rfl | rfl | hk
      · exact .inl (.inl rfl)
      · exact .inl (.inr (.inl rfl))
      · exact .inr (g3.blk k hk).1
theorem ok_impl_firstMorphism {f g : Fr} (hf : f.ok) (hg : g.ok) {onto one : Bool} {w : World} {fa ga : Value} (hfa : SlN w fa f.a) (hga : SlN w ga g.a) :
    Cal Tryz.prog f_impl_firstMorphism #[.agg #[.int .i64 (f.n : Int), fa], .agg #[.int .i64 (g.n : Int), ga], .bool onto, .bool one] w fun r w' => Ext w w' ∧ ∃ v, r = .tuple #[v, .bool (!(leaves (fitsB f g onto one) g.n f.n []).isEmpty)] ∧
      Ow w.heap.size t_i64 w' v (ints (nats ((leaves (fitsB f g onto one) g.n f.n []).headD []))) := by
  apply c_impl_firstMorphism; unfold S_impl_firstMorphism
  have hX := Ext.refl w
  refine iNew fun b4 w1 hb4 h hB4 => ?_
  have hX := hX.trans h
  refine iNew fun b5 w2 hb5 h hB5 => ?_
  have hX := hX.trans h
  have hB4 := hB4.ext h
  refine iNew fun c w3 hc h hC => ?_
  have hlc : w.heap.size ≤ c := by have := hX.size; omega
  have hX := hX.trans h
  have hB4 := hB4.ext h
  have hB5 := hB5.ext h
  refine iNew fun d w4 hd h hD => ?_
  have hld : w.heap.size ≤ d := by have := hX.size; omega
  have hcd : c ≠ d := by have := hC.lt; omega
  have hb4d : b4 ≠ d := by have := hB4.lt; omega
  have hb5d : b5 ≠ d := by have := hB5.lt; omega
  have hX := hX.trans h
  have hB4 := hB4.ext h
  have hB5 := hB5.ext h
  have hC := hC.ext h
  refine iStB hD (by simp [Value.cells]) rfl fun hD => ?_
  have hu := Upd.setCell w4 d 0 (.bool false)
  have hX := hX.upd hu hld
  have hB4 := hB4.upd hu hb4d
  have hB5 := hB5.upd hu hb5d
  have hC := hC.upd hu hcd
  (repeat first
    | (with_reducible first | refine iFa ?_ | refine iNil ?_ | refine iNilF ?_ | refine iLd (by assumption) ?_ | refine iLenN (by assumption) ?_ | refine iLenI (by assumption) ?_ | refine iLenS (by assumption) ?_ | refine iLenL ?_ | refine iEq ?_ | refine iNe ?_ | refine iLt ?_ | refine iLe ?_ | refine iNot ?_ | refine iPick ?_ | refine iE20 ?_ | refine iE21 ?_ | refine iE30 ?_ | refine iE31 ?_ | refine iE32 ?_ | refine iJn ?_)
    | ((with_reducible show xLd _ _ _); refine iLdB (by assumption) (by first | rfl | simp) ?_) | ((with_reducible refine iLdA (by assumption) ?_ ?_); rfl)
    | ((with_reducible refine iIaNN (by assumption) ?_ (fun pa_ hpa_ => ?_)); omega) | ((with_reducible refine iIaN (by assumption) ?_ (fun pa_ hpa_ => ?_)); omega)
    | ((with_reducible refine iIaI (by assumption) ?_ ?_ (fun pa_ hpa_ => ?_)); omega; omega) | ((with_reducible refine iAdd ?_ ?_); omega) | ((with_reducible refine iSub ?_ ?_); omega)
    | ((with_reducible show xEx _ _ _); refine iEx (by rfl) ?_) | ((with_reducible refine fun (_ : Nat → Value) => ?_); (try simp only [gx])))
  refine iBuild (cs := #[.int .i64 (f.n : Int), fa, .int .i64 (g.n : Int), ga, .slice none 0 0, .func (.func f_impl_firstMorphism_1) #[] #[.pointer (some ⟨c, 0, none⟩), .pointer (some ⟨d, 0, none⟩)], .bool onto, .bool one]) (by simp [Instr.fill, Value.cells]) ?_
  refine iNew fun b w6 hb h hB => ?_
  have hlb : w.heap.size ≤ b := by have := hX.size; omega
  have hbc : b ≠ c := by have := hC.lt; omega
  have hbd : b ≠ d := by have := hD.lt; omega
  have hX := hX.trans h
  have hC := hC.ext h
  have hD := hD.ext h
  have hSlo : ∀ k, (k = c ∨ k = d ∨ (Value.slice none 0 0).ownBlock = some k) → w.heap.size ≤ k := by
    intro k hk
    rcases hk with h | h | h
    · omega
    · omega
    · cases h
  have hSb : ¬ (b = c ∨ b = d ∨ (Value.slice none 0 0).ownBlock = some b) := by
    intro hk
    rcases hk with h | h | h
    · exact hbc h
    · exact hbd h
    · cases h
  have hst : RunSt (visFirst c d w.heap.size hcd hlc _ _ f.n g.n hf.1) f g onto one _ w _ _ b w6 [] (.slice none 0 0) _ [] :=
    ⟨hX, hB, Ow.nil _ _ _, ⟨.slice none 0 0, rfl, hC, hD, Ow.nil _ _ _⟩, hSb, (fun c hc => by cases hc), hSlo⟩
  refine iCall ((ok_impl_morphismSearch_run hf hg (by decide) _ hfa hga hlb f.n [] w6 _ _ [] (by simp) (fun y hy => by cases hy) (.inl rfl) (by have := pow88 hg.1 hf.1; simpa using this) hst).mono ?_)
  rintro _ w7 ⟨rfl, vim', S', hst'⟩
  rw [visitAll_false] at hst'
  obtain ⟨v, _, hC', hD', ho⟩ := hst'.j
  (repeat first
    | (with_reducible first | refine iFa ?_ | refine iNil ?_ | refine iNilF ?_ | refine iLd (by assumption) ?_ | refine iLenN (by assumption) ?_ | refine iLenI (by assumption) ?_ | refine iLenS (by assumption) ?_ | refine iLenL ?_ | refine iEq ?_ | refine iNe ?_ | refine iLt ?_ | refine iLe ?_ | refine iNot ?_ | refine iPick ?_ | refine iE20 ?_ | refine iE21 ?_ | refine iE30 ?_ | refine iE31 ?_ | refine iE32 ?_ | refine iJn ?_)
    | ((with_reducible show xLd _ _ _); refine iLdB (by assumption) (by first | rfl | simp) ?_) | ((with_reducible refine iLdA (by assumption) ?_ ?_); rfl)
    | ((with_reducible refine iIaNN (by assumption) ?_ (fun pa_ hpa_ => ?_)); omega) | ((with_reducible refine iIaN (by assumption) ?_ (fun pa_ hpa_ => ?_)); omega)
    | ((with_reducible refine iIaI (by assumption) ?_ ?_ (fun pa_ hpa_ => ?_)); omega; omega) | ((with_reducible refine iAdd ?_ ?_); omega) | ((with_reducible refine iSub ?_ ?_); omega)
    | ((with_reducible show xEx _ _ _); refine iEx (by rfl) ?_) | ((with_reducible refine fun (_ : Nat → Value) => ?_); (try simp only [gx])))
  intro w8 h
  have e1 : ((leaves (fitsB f g onto one) g.n f.n []).take 1).isEmpty = (leaves (fitsB f g onto one) g.n f.n []).isEmpty := by
    cases leaves (fitsB f g onto one) g.n f.n [] <;> simp
  have e2 : ((leaves (fitsB f g onto one) g.n f.n []).take 1).headD [] = (leaves (fitsB f g onto one) g.n f.n []).headD [] := by
    cases leaves (fitsB f g onto one) g.n f.n [] <;> simp
  rw [e1]
  rw [e2] at ho
  exact ⟨hst'.ext.trans h, v, rfl, ho.ext h⟩
/-- The first map between two frames, and the code. -/
def firstOut (onto one : Bool) (n0 : Int) (l0 : List Int) (n1 : Int) (l1 : List Int) : List Int × Int :=
  if frameOk n0 l0 && frameOk n1 l1 then
    match leaves (fitsB (frOf n0 l0) (frOf n1 l1) onto one) (frOf n1 l1).n (frOf n0 l0).n [] with
    | [] => ([], 4)
    | m :: _ => (nats m, 0)
  else ([], 1)
end Go.Proofs.YtoolpnkcmlebkaaGreat
