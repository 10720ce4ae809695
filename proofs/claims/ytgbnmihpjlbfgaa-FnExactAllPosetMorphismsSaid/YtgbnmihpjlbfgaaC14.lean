/- Contracts: all maps between two frames. Conditions: none. -/
import Derived.Test.YtgbnmihpjlbfgaaC13
namespace Go.Proofs.Ytgbnmihpjlbfgaa
open Go.Vc
theorem ok_impl_AllMorphisms_1 {lo : Nat} {v fv : Value} {w : World} {c : Nat} {e1 : TypeId} (he1 : t_Si64 ≠ e1) (he2 : t_i64 ≠ e1) {vs : List Value} {L : List (List Value)} {l : List Int} (hs : SlI w v l) (hl : l.length ≤ 1099511627776) (hc : Blk e1 w c [fv]) (hf : Ow lo t_Si64 w fv vs) (hL : OwL lo t_i64 w vs L) (hn : vs.length ≤ 200) (hlo : lo ≤ w.heap.size) :
    Cal Try.prog f_impl_AllMorphisms_1 #[v, .pointer (some ⟨c, 0, none⟩)] w fun r w' => r = .bool (decide (vs.length + 1 ≤ 200)) ∧ ∃ fv' v', Blk e1 w' c [fv'] ∧ Ow lo t_Si64 w' fv' (vs ++ [v']) ∧ OwL lo t_i64 w' (vs ++ [v']) (L ++ [ints l]) ∧ Ch (fun k => k = c ∨ fv.ownBlock = some k) w w' ∧
      (fv'.ownBlock = fv.ownBlock ∨ ∃ k, fv'.ownBlock = some k ∧ w.heap.size ≤ k) ∧ ∀ k, v'.ownBlock = some k → w.heap.size ≤ k := by
  apply c_impl_AllMorphisms_1; unfold S_impl_AllMorphisms_1
  have hX := Ext.refl w
  (repeat first
    | (with_reducible first | refine iFa ?_ | refine iNil ?_ | refine iNilF ?_ | refine iLd (by assumption) ?_ | refine iLenN (by assumption) ?_ | refine iLenI (by assumption) ?_ | refine iLenS (by assumption) ?_ | refine iLenL ?_ | refine iEq ?_ | refine iNe ?_ | refine iLt ?_ | refine iLe ?_ | refine iNot ?_ | refine iPick ?_ | refine iE20 ?_ | refine iE21 ?_ | refine iJn ?_)
    | ((with_reducible show xLd _ _ _); refine iLdB (by assumption) (by first | rfl | simp) ?_) | ((with_reducible refine iLdA (by assumption) ?_ ?_); rfl)
    | ((with_reducible refine iIaNN (by assumption) ?_ (fun pa_ hpa_ => ?_)); omega) | ((with_reducible refine iIaN (by assumption) ?_ (fun pa_ hpa_ => ?_)); omega)
    | ((with_reducible refine iIaI (by assumption) ?_ ?_ (fun pa_ hpa_ => ?_)); omega; omega) | ((with_reducible refine iAdd ?_ ?_); omega) | ((with_reducible refine iSub ?_ ?_); omega)
    | ((with_reducible show xEx _ _ _); refine iEx (by rfl) ?_) | ((with_reducible refine fun (_ : Nat → Value) => ?_); (try simp only [gx, List.getD_cons_zero, List.getD_cons_succ])))
  intro w1 h
  have hX := hX.trans h
  have hs := hs.ext h
  have hc := hc.ext h
  have hf := hf.ext h
  have hL := hL.ext h
  have hlo1 := hX.size
  refine iCall ((ok_slices_Clone_Si64_i64 hs hl).mono ?_)
  rintro v' w2 ⟨h, ho⟩
  (try refine ⟨h, ?_⟩)
  have hnew : ∀ u ∈ vs, ∀ k, u.ownBlock = some k → v'.ownBlock ≠ some k := fun u hu k hk e => by have := (hL.lt hu hk).2; have := (ho.blk k e).1; omega
  have hX := hX.trans h
  have hc := hc.ext h
  have hf := hf.ext h
  have hL := hL.ext h
  intro w3 h
  have hX := hX.trans h
  have hc := hc.ext h
  have hf := hf.ext h
  have hL := hL.ext h
  have ho := ho.ext h
  refine iBs1 rfl ho.cell fun bb w4 hbb h hB => ?_
  (try refine ⟨h, ?_⟩)
  have hX := hX.trans h
  have hc := hc.ext h
  have hf := hf.ext h
  have hL := hL.ext h
  have ho := ho.ext h
  intro w5 h
  have hX := hX.trans h
  have hc := hc.ext h
  have hf := hf.ext h
  have hL := hL.ext h
  have ho := ho.ext h
  have hB := hB.ext h
  have hlo5 := hX.size
  refine iAppA u_SSi64 i_SSi64 rfl hf (Sl.ofBlk hB rfl (by omega)) (fun u hu => by simp at hu; subst hu; exact ho.cell) (by simp; omega) (by simp; omega) (by omega) fun fv' w6 hf' hg hat => ?_
  have hfc : fv.ownBlock ≠ some c := hf.ne_blk hc he1
  have hc6 := hc.grown hg hfc
  have hch6 : Ch (fun k => k = c ∨ fv.ownBlock = some k) w w6 := (hX.ch (S := fun k => k = c ∨ fv.ownBlock = some k)).trans (grown_ch (S := fun k => fv.ownBlock = some k) hg fun k hk => hk) fun k hk => .inl (.inr hk)
  have hg6 := grown_ch (S := fun k => fv.ownBlock = some k) hg fun k hk => hk
  have hL6 := hL.ch hg6 fun u hu k hk he => by
    obtain ⟨x, hx⟩ := hL.ow hu
    exact hx.ne_ow hf (by decide) hk he
  have ho6 := ho.ch hg6 fun k hk he => ho.ne_ow hf (by decide) hk he
  intro w7 h7
  have hc7 := hc6.ext h7
  have hf7 := hf'.ext h7
  have hL7 := hL6.ext h7
  have ho7 := ho6.ext h7
  refine iStB hc7 (by simp) hf'.cell fun hc8 => ?_
  have hu := Upd.setCell w7 c 0 fv'
  have hf8 := hf7.upd hu (hf7.ne_blk hc7 he1)
  have hL8 := hL7.ch (hu.ch (S := fun k => k = c) rfl) fun u hu k hk he => by
    obtain ⟨x, hx⟩ := hL7.ow hu
    exact hx.ne_blk hc7 he2 (by rw [hk, he])
  have ho8 := ho7.upd hu (ho7.ne_blk hc7 he2)
  intro w9 h9
  have hc9 := hc8.ext h9
  have hf9 := hf8.ext h9
  have hs9 := hf9.sl
  (repeat first
    | (with_reducible first | refine iFa ?_ | refine iNil ?_ | refine iNilF ?_ | refine iLd (by assumption) ?_ | refine iLenN (by assumption) ?_ | refine iLenI (by assumption) ?_ | refine iLenS (by assumption) ?_ | refine iLenL ?_ | refine iEq ?_ | refine iNe ?_ | refine iLt ?_ | refine iLe ?_ | refine iNot ?_ | refine iPick ?_ | refine iE20 ?_ | refine iE21 ?_ | refine iJn ?_)
    | ((with_reducible show xLd _ _ _); refine iLdB (by assumption) (by first | rfl | simp) ?_) | ((with_reducible refine iLdA (by assumption) ?_ ?_); rfl)
    | ((with_reducible refine iIaNN (by assumption) ?_ (fun pa_ hpa_ => ?_)); omega) | ((with_reducible refine iIaN (by assumption) ?_ (fun pa_ hpa_ => ?_)); omega)
    | ((with_reducible refine iIaI (by assumption) ?_ ?_ (fun pa_ hpa_ => ?_)); omega; omega) | ((with_reducible refine iAdd ?_ ?_); omega) | ((with_reducible refine iSub ?_ ?_); omega)
    | ((with_reducible show xEx _ _ _); refine iEx (by rfl) ?_) | ((with_reducible refine fun (_ : Nat → Value) => ?_); (try simp only [gx, List.getD_cons_zero, List.getD_cons_succ])))
  refine ⟨?_, fv', v', hc9, hf9, (hL8.ext h9).snoc ((ho8.ext h9).mono (by omega)) hnew, ?_, hat.imp id (fun ⟨k, e, hk⟩ => ⟨k, e, by omega⟩), fun k hk => ?_⟩
  · have hvl : (vs ++ [v']).length = vs.length + 1 := by simp
    exact congrArg Value.bool (decide_eq_decide.2 (by rw [hvl]; omega))
  · exact ((hch6.trans (h7.ch (S := fun _ => False)) (fun _ h => h.elim)).trans (hu.ch (S := fun k => k = c) rfl) (fun k hk => .inl (.inl hk))).trans (h9.ch (S := fun _ => False)) (fun _ h => h.elim)
  · have := (ho.blk k hk).1; omega
def visAll (c lo : Nat) (hlo : lo ≤ c) (e1 : TypeId) (he1 : t_Si64 ≠ e1) (he2 : t_i64 ≠ e1) (n m : Nat) (hn : n ≤ 8) : Visitor Try.prog t_i64 (.func (.func f_impl_AllMorphisms_1) #[] #[.pointer (some ⟨c, 0, none⟩)]) n m (fun l => decide (l.length ≤ 200)) where
  J S l w := ∃ fv vs, S = (fun k => k = c ∨ fv.ownBlock = some k ∨ ∃ v ∈ vs, v.ownBlock = some k) ∧ Blk e1 w c [fv] ∧ Ow lo t_Si64 w fv vs ∧ OwL lo t_i64 w vs (l.map fun x => ints (nats x))
  below := by
    rintro S l w ⟨fv, vs, rfl, h1, h2, h3⟩ k (rfl | hk | ⟨v, hv, hk⟩)
    · exact h1.lt
    · exact (h2.blk k hk).2
    · exact (h3.lt hv hk).2
  keep := by
    rintro S l w w' ⟨fv, vs, rfl, h1, h2, h3⟩ _ hk
    exact ⟨fv, vs, rfl, h1.same (hk c (.inl rfl)), h2.same fun k hb => hk k (.inr (.inl hb)), h3.same fun v hv k hb => hk k (.inr (.inr ⟨v, hv, hb⟩))⟩
  visit := by
    rintro S l w u lo' im ⟨fv, vs, rfl, h1, h2, h3⟩ hl _ ho hlen _ _
    have hvl : vs.length = l.length := by simpa using h3.1
    have hl200 : l.length ≤ 200 := by
      rcases hl with h | h
      · subst h; exact Nat.zero_le _
      · exact of_decide_eq_true h
    refine ⟨_, _, _, rfl, (ok_impl_AllMorphisms_1 (l := nats im) he1 he2 ho.sl (by rw [nats_length]; omega) h1 h2 h3 (by omega) (by have := h1.lt; omega)).mono ?_⟩
    rintro r w' ⟨rfl, fv', v', g1, g2, g3, g4, g5, g6⟩
    refine ⟨by rw [hvl]; simp, _, ⟨fv', vs ++ [v'], rfl, g1, g2, by simpa using g3⟩, g4.mono (fun k hk => ?_), fun k hk => ?_⟩
    · rcases hk with rfl | hk
      · exact .inl rfl
      · exact .inr (.inl hk)
    · rcases hk with rfl | hk | ⟨v, hv, hk⟩
      · exact .inl (.inl rfl)
      · rcases g5 with h | ⟨k', h, hk'⟩
        · exact .inl (.inr (.inl (by rw [← h]; exact hk)))
        · rw [h] at hk; cases hk; exact .inr hk'
      · rcases List.mem_append.1 hv with hv | hv
        · exact .inl (.inr (.inr ⟨v, hv, hk⟩))
        · simp at hv; subst hv
          exact .inr (g6 k hk)
/-- All maps between two frames, and the code. -/
def allOut (n0 : Int) (l0 : List Int) (n1 : Int) (l1 : List Int) : List (List Int) × Int :=
  if frameOk n0 l0 && frameOk n1 l1 then
    if 200 < ((leaves (fitsB (frOf n0 l0) (frOf n1 l1) false false) (frOf n1 l1).n (frOf n0 l0).n []).take 201).length then ([], 3)
    else (((leaves (fitsB (frOf n0 l0) (frOf n1 l1) false false) (frOf n1 l1).n (frOf n0 l0).n []).take 201).map nats, 0)
  else ([], 1)
theorem allOut_small (n0 : Int) (l0 : List Int) (n1 : Int) (l1 : List Int) : tot (allOut n0 l0 n1 l1).1 ≤ 1000000000 := by
  unfold allOut
  split
  · rename_i h
    rw [Bool.and_eq_true] at h
    have hf := (frameOk_fr h.1).1
    split
    · simp [tot]
    · refine Nat.le_trans (tot_le (a := 201) (b := 8) ?_ ?_) (by omega)
      · simp; omega
      · intro l hl
        obtain ⟨m, hm, rfl⟩ := List.mem_map.1 hl
        have := (leaves_mem (List.mem_of_mem_take hm)).1
        rw [nats_length, this]; exact hf.1
  · simp [tot]
theorem RdLL.nil (lo : Nat) (w : World) : RdLL lo w (.slice none 0 0) [] := ⟨[], Ow.nil _ _ _, OwL.nil _ _ _⟩
theorem ok_impl_AllMorphisms {w : World} {v0 v1 : Value} {l0 l1 : List Int} (hs0 : SlI w v0 l0) (hs1 : SlI w v1 l1) (n0 n1 : Int) : Cal Try.prog f_impl_AllMorphisms #[.agg #[.int .i64 n0, v0], .agg #[.int .i64 n1, v1]] w fun r w' => Ext w w' ∧ ∃ v, r = .tuple #[v, .int .i64 (allOut n0 l0 n1 l1).2] ∧ RdLL w.heap.size w' v (allOut n0 l0 n1 l1).1 := by
  apply c_impl_AllMorphisms; unfold S_impl_AllMorphisms
  have hX := Ext.refl w
  refine iNew fun b2 w1 hb2 h hB2 => ?_
  have hX := hX.trans h
  refine iNew fun b3 w2 hb3 h hB3 => ?_
  have hX := hX.trans h
  have hB2 := hB2.ext h
  refine iJnB (!(frameOk n0 l0 && frameOk n1 l1)) w2 (fun J hJ => ?_) (fun w4 h => ?_)
  · (repeat first
    | (with_reducible first | refine iFa ?_ | refine iNil ?_ | refine iNilF ?_ | refine iLd (by assumption) ?_ | refine iLenN (by assumption) ?_ | refine iLenI (by assumption) ?_ | refine iLenS (by assumption) ?_ | refine iLenL ?_ | refine iEq ?_ | refine iNe ?_ | refine iLt ?_ | refine iLe ?_ | refine iNot ?_ | refine iPick ?_ | refine iE20 ?_ | refine iE21 ?_ | refine iJn ?_)
    | ((with_reducible show xLd _ _ _); refine iLdB (by assumption) (by first | rfl | simp) ?_) | ((with_reducible refine iLdA (by assumption) ?_ ?_); rfl)
    | ((with_reducible refine iIaNN (by assumption) ?_ (fun pa_ hpa_ => ?_)); omega) | ((with_reducible refine iIaN (by assumption) ?_ (fun pa_ hpa_ => ?_)); omega)
    | ((with_reducible refine iIaI (by assumption) ?_ ?_ (fun pa_ hpa_ => ?_)); omega; omega) | ((with_reducible refine iAdd ?_ ?_); omega) | ((with_reducible refine iSub ?_ ?_); omega)
    | ((with_reducible show xEx _ _ _); refine iEx (by rfl) ?_) | ((with_reducible refine fun (_ : Nat → Value) => ?_); (try simp only [gx, List.getD_cons_zero, List.getD_cons_succ])))
    refine iRet (ok_impl_isFrame (hs0.ext hX) n0) fun w5 h => ?_
    have hB3 := hB3.ext h
    (repeat first
    | (with_reducible first | refine iFa ?_ | refine iNil ?_ | refine iNilF ?_ | refine iLd (by assumption) ?_ | refine iLenN (by assumption) ?_ | refine iLenI (by assumption) ?_ | refine iLenS (by assumption) ?_ | refine iLenL ?_ | refine iEq ?_ | refine iNe ?_ | refine iLt ?_ | refine iLe ?_ | refine iNot ?_ | refine iPick ?_ | refine iE20 ?_ | refine iE21 ?_ | refine iJn ?_)
    | ((with_reducible show xLd _ _ _); refine iLdB (by assumption) (by first | rfl | simp) ?_) | ((with_reducible refine iLdA (by assumption) ?_ ?_); rfl)
    | ((with_reducible refine iIaNN (by assumption) ?_ (fun pa_ hpa_ => ?_)); omega) | ((with_reducible refine iIaN (by assumption) ?_ (fun pa_ hpa_ => ?_)); omega)
    | ((with_reducible refine iIaI (by assumption) ?_ ?_ (fun pa_ hpa_ => ?_)); omega; omega) | ((with_reducible refine iAdd ?_ ?_); omega) | ((with_reducible refine iSub ?_ ?_); omega)
    | ((with_reducible show xEx _ _ _); refine iEx (by rfl) ?_) | ((with_reducible refine fun (_ : Nat → Value) => ?_); (try simp only [gx, List.getD_cons_zero, List.getD_cons_succ])))
    cases h0 : frameOk n0 l0
    · refine iCndT rfl ?_
      have := hJ w5 h
      rwa [h0] at this
    · refine iCndF rfl ?_
      (repeat first
    | (with_reducible first | refine iFa ?_ | refine iNil ?_ | refine iNilF ?_ | refine iLd (by assumption) ?_ | refine iLenN (by assumption) ?_ | refine iLenI (by assumption) ?_ | refine iLenS (by assumption) ?_ | refine iLenL ?_ | refine iEq ?_ | refine iNe ?_ | refine iLt ?_ | refine iLe ?_ | refine iNot ?_ | refine iPick ?_ | refine iE20 ?_ | refine iE21 ?_ | refine iJn ?_)
    | ((with_reducible show xLd _ _ _); refine iLdB (by assumption) (by first | rfl | simp) ?_) | ((with_reducible refine iLdA (by assumption) ?_ ?_); rfl)
    | ((with_reducible refine iIaNN (by assumption) ?_ (fun pa_ hpa_ => ?_)); omega) | ((with_reducible refine iIaN (by assumption) ?_ (fun pa_ hpa_ => ?_)); omega)
    | ((with_reducible refine iIaI (by assumption) ?_ ?_ (fun pa_ hpa_ => ?_)); omega; omega) | ((with_reducible refine iAdd ?_ ?_); omega) | ((with_reducible refine iSub ?_ ?_); omega)
    | ((with_reducible show xEx _ _ _); refine iEx (by rfl) ?_) | ((with_reducible refine fun (_ : Nat → Value) => ?_); (try simp only [gx, List.getD_cons_zero, List.getD_cons_succ])))
      refine iRet (ok_impl_isFrame (hs1.ext (hX.trans h)) n1) fun w6 h6 => ?_
      (repeat first
    | (with_reducible first | refine iFa ?_ | refine iNil ?_ | refine iNilF ?_ | refine iLd (by assumption) ?_ | refine iLenN (by assumption) ?_ | refine iLenI (by assumption) ?_ | refine iLenS (by assumption) ?_ | refine iLenL ?_ | refine iEq ?_ | refine iNe ?_ | refine iLt ?_ | refine iLe ?_ | refine iNot ?_ | refine iPick ?_ | refine iE20 ?_ | refine iE21 ?_ | refine iJn ?_)
    | ((with_reducible show xLd _ _ _); refine iLdB (by assumption) (by first | rfl | simp) ?_) | ((with_reducible refine iLdA (by assumption) ?_ ?_); rfl)
    | ((with_reducible refine iIaNN (by assumption) ?_ (fun pa_ hpa_ => ?_)); omega) | ((with_reducible refine iIaN (by assumption) ?_ (fun pa_ hpa_ => ?_)); omega)
    | ((with_reducible refine iIaI (by assumption) ?_ ?_ (fun pa_ hpa_ => ?_)); omega; omega) | ((with_reducible refine iAdd ?_ ?_); omega) | ((with_reducible refine iSub ?_ ?_); omega)
    | ((with_reducible show xEx _ _ _); refine iEx (by rfl) ?_) | ((with_reducible refine fun (_ : Nat → Value) => ?_); (try simp only [gx, List.getD_cons_zero, List.getD_cons_succ])))
      have := hJ w6 (h.trans h6)
      rwa [h0, Bool.true_and] at this
  have hX := hX.trans h
  have hB2 := hB2.ext h
  have hB3 := hB3.ext h
  (repeat first
    | (with_reducible first | refine iFa ?_ | refine iNil ?_ | refine iNilF ?_ | refine iLd (by assumption) ?_ | refine iLenN (by assumption) ?_ | refine iLenI (by assumption) ?_ | refine iLenS (by assumption) ?_ | refine iLenL ?_ | refine iEq ?_ | refine iNe ?_ | refine iLt ?_ | refine iLe ?_ | refine iNot ?_ | refine iPick ?_ | refine iE20 ?_ | refine iE21 ?_ | refine iJn ?_)
    | ((with_reducible show xLd _ _ _); refine iLdB (by assumption) (by first | rfl | simp) ?_) | ((with_reducible refine iLdA (by assumption) ?_ ?_); rfl)
    | ((with_reducible refine iIaNN (by assumption) ?_ (fun pa_ hpa_ => ?_)); omega) | ((with_reducible refine iIaN (by assumption) ?_ (fun pa_ hpa_ => ?_)); omega)
    | ((with_reducible refine iIaI (by assumption) ?_ ?_ (fun pa_ hpa_ => ?_)); omega; omega) | ((with_reducible refine iAdd ?_ ?_); omega) | ((with_reducible refine iSub ?_ ?_); omega)
    | ((with_reducible show xEx _ _ _); refine iEx (by rfl) ?_) | ((with_reducible refine fun (_ : Nat → Value) => ?_); (try simp only [gx, List.getD_cons_zero, List.getD_cons_succ])))
  unfold allOut
  cases hfr : frameOk n0 l0 && frameOk n1 l1
  · refine iCndT rfl ?_
    exact ⟨hX, _, rfl, RdLL.nil _ _⟩
  · refine iCndF rfl ?_
    rw [Bool.and_eq_true] at hfr
    obtain ⟨hf, hn0, hl0⟩ := frameOk_fr hfr.1
    obtain ⟨hg, hn1, hl1⟩ := frameOk_fr hfr.2
    generalize frOf n0 l0 = f at *
    generalize frOf n1 l1 = g at *
    subst hn0; subst hl0; subst hn1; subst hl1
    refine iNew fun c w7 hc h hC => ?_
    have hlc : w.heap.size ≤ c := by have := hX.size; omega
    have hX := hX.trans h
    have hB2 := hB2.ext h
    have hB3 := hB3.ext h
    (repeat first
    | (with_reducible first | refine iFa ?_ | refine iNil ?_ | refine iNilF ?_ | refine iLd (by assumption) ?_ | refine iLenN (by assumption) ?_ | refine iLenI (by assumption) ?_ | refine iLenS (by assumption) ?_ | refine iLenL ?_ | refine iEq ?_ | refine iNe ?_ | refine iLt ?_ | refine iLe ?_ | refine iNot ?_ | refine iPick ?_ | refine iE20 ?_ | refine iE21 ?_ | refine iJn ?_)
    | ((with_reducible show xLd _ _ _); refine iLdB (by assumption) (by first | rfl | simp) ?_) | ((with_reducible refine iLdA (by assumption) ?_ ?_); rfl)
    | ((with_reducible refine iIaNN (by assumption) ?_ (fun pa_ hpa_ => ?_)); omega) | ((with_reducible refine iIaN (by assumption) ?_ (fun pa_ hpa_ => ?_)); omega)
    | ((with_reducible refine iIaI (by assumption) ?_ ?_ (fun pa_ hpa_ => ?_)); omega; omega) | ((with_reducible refine iAdd ?_ ?_); omega) | ((with_reducible refine iSub ?_ ?_); omega)
    | ((with_reducible show xEx _ _ _); refine iEx (by rfl) ?_) | ((with_reducible refine fun (_ : Nat → Value) => ?_); (try simp only [gx, List.getD_cons_zero, List.getD_cons_succ])))
    refine iBuild (cs := #[.int .i64 (f.n : Int), v0, .int .i64 (g.n : Int), v1, .slice none 0 0, .func (.func f_impl_AllMorphisms_1) #[] #[.pointer (some ⟨c, 0, none⟩)], .bool false, .bool false]) (by simp [Instr.fill, Value.cells]) ?_
    refine iNew fun b w8 hb h hB => ?_
    have hlb : w.heap.size ≤ b := by have := hX.size; omega
    have hbc : b ≠ c := by have := hC.lt; omega
    have hX := hX.trans h
    have hC := hC.ext h
    have hSlo : ∀ k, (k = c ∨ (Value.slice none 0 0).ownBlock = some k ∨ ∃ v ∈ ([] : List Value), v.ownBlock = some k) → w.heap.size ≤ k := by
      intro k hk
      rcases hk with h | h | ⟨v, h, _⟩
      · omega
      · cases h
      · cases h
    have hSb : ¬ (b = c ∨ (Value.slice none 0 0).ownBlock = some b ∨ ∃ v ∈ ([] : List Value), v.ownBlock = some b) := by
      intro hk
      rcases hk with h | h | ⟨v, h, _⟩
      · exact hbc h
      · cases h
      · cases h
    have hst : RunSt (visAll c w.heap.size hlc t_SSi64 (by decide) (by decide) f.n g.n hf.1) f g false false _ w _ _ b w8 [] (.slice none 0 0) _ [] :=
      ⟨hX, hB, Ow.nil _ _ _, ⟨.slice none 0 0, [], rfl, hC, Ow.nil _ _ _, OwL.nil _ _ _⟩, hSb, (fun c hc => by cases hc), hSlo⟩
    refine iCall ((ok_impl_morphismSearch_run hf hg (by decide) _ hs0 hs1 hlb f.n [] w8 _ _ [] (by simp) (fun y hy => by cases hy) (.inl rfl) (by have := pow88 hg.1 hf.1; simpa using this) hst).mono ?_)
    rintro _ w9 ⟨rfl, vim', S', hst'⟩
    rw [visitAll_most 200 _ _ (by simp), List.nil_append] at hst'
    obtain ⟨fv, vs, _, hC', ho, hol⟩ := hst'.j
    have hvl : vs.length = ((leaves (fitsB f g false false) g.n f.n []).take 201).length := by simpa using hol.1
    have hsl := ho.sl
    (repeat first
    | (with_reducible first | refine iFa ?_ | refine iNil ?_ | refine iNilF ?_ | refine iLd (by assumption) ?_ | refine iLenN (by assumption) ?_ | refine iLenI (by assumption) ?_ | refine iLenS (by assumption) ?_ | refine iLenL ?_ | refine iEq ?_ | refine iNe ?_ | refine iLt ?_ | refine iLe ?_ | refine iNot ?_ | refine iPick ?_ | refine iE20 ?_ | refine iE21 ?_ | refine iJn ?_)
    | ((with_reducible show xLd _ _ _); refine iLdB (by assumption) (by first | rfl | simp) ?_) | ((with_reducible refine iLdA (by assumption) ?_ ?_); rfl)
    | ((with_reducible refine iIaNN (by assumption) ?_ (fun pa_ hpa_ => ?_)); omega) | ((with_reducible refine iIaN (by assumption) ?_ (fun pa_ hpa_ => ?_)); omega)
    | ((with_reducible refine iIaI (by assumption) ?_ ?_ (fun pa_ hpa_ => ?_)); omega; omega) | ((with_reducible refine iAdd ?_ ?_); omega) | ((with_reducible refine iSub ?_ ?_); omega)
    | ((with_reducible show xEx _ _ _); refine iEx (by rfl) ?_) | ((with_reducible refine fun (_ : Nat → Value) => ?_); (try simp only [gx, List.getD_cons_zero, List.getD_cons_succ])))
    generalize (leaves (fitsB f g false false) g.n f.n []).take 201 = L at *
    refine iCndP (fun h => ?_) (fun h => ?_)
    · rw [if_pos rfl, if_pos (show 200 < L.length by omega)]
      exact ⟨hst'.ext, _, rfl, RdLL.nil _ _⟩
    · rw [if_pos rfl, if_neg (show ¬ 200 < L.length by omega)]
      (repeat first
    | (with_reducible first | refine iFa ?_ | refine iNil ?_ | refine iNilF ?_ | refine iLd (by assumption) ?_ | refine iLenN (by assumption) ?_ | refine iLenI (by assumption) ?_ | refine iLenS (by assumption) ?_ | refine iLenL ?_ | refine iEq ?_ | refine iNe ?_ | refine iLt ?_ | refine iLe ?_ | refine iNot ?_ | refine iPick ?_ | refine iE20 ?_ | refine iE21 ?_ | refine iJn ?_)
    | ((with_reducible show xLd _ _ _); refine iLdB (by assumption) (by first | rfl | simp) ?_) | ((with_reducible refine iLdA (by assumption) ?_ ?_); rfl)
    | ((with_reducible refine iIaNN (by assumption) ?_ (fun pa_ hpa_ => ?_)); omega) | ((with_reducible refine iIaN (by assumption) ?_ (fun pa_ hpa_ => ?_)); omega)
    | ((with_reducible refine iIaI (by assumption) ?_ ?_ (fun pa_ hpa_ => ?_)); omega; omega) | ((with_reducible refine iAdd ?_ ?_); omega) | ((with_reducible refine iSub ?_ ?_); omega)
    | ((with_reducible show xEx _ _ _); refine iEx (by rfl) ?_) | ((with_reducible refine fun (_ : Nat → Value) => ?_); (try simp only [gx, List.getD_cons_zero, List.getD_cons_succ])))
      exact ⟨hst'.ext, fv, rfl, vs, ho, by rw [List.map_map]; exact hol⟩
theorem ok_spec_AllMorphisms {w : World} {v0 v1 : Value} {l0 l1 : List Int} (hs0 : SlI w v0 l0) (hs1 : SlI w v1 l1) (n0 n1 : Int) : Cal Try.prog f_spec_AllMorphisms #[.agg #[.int .i64 n0, v0], .agg #[.int .i64 n1, v1]] w fun r w' => Ext w w' ∧ ∃ v, r = .tuple #[v, .int .i64 (allOut n0 l0 n1 l1).2] ∧ RdLL w.heap.size w' v (allOut n0 l0 n1 l1).1 := by
  apply c_spec_AllMorphisms; unfold S_spec_AllMorphisms
  have hX := Ext.refl w
  refine iNew fun b2 w1 hb2 h hB2 => ?_
  have hX := hX.trans h
  refine iNew fun b3 w2 hb3 h hB3 => ?_
  have hX := hX.trans h
  have hB2 := hB2.ext h
  refine iJnB (!(frameOk n0 l0 && frameOk n1 l1)) w2 (fun J hJ => ?_) (fun w4 h => ?_)
  · (repeat first
    | (with_reducible first | refine iFa ?_ | refine iNil ?_ | refine iNilF ?_ | refine iLd (by assumption) ?_ | refine iLenN (by assumption) ?_ | refine iLenI (by assumption) ?_ | refine iLenS (by assumption) ?_ | refine iLenL ?_ | refine iEq ?_ | refine iNe ?_ | refine iLt ?_ | refine iLe ?_ | refine iNot ?_ | refine iPick ?_ | refine iE20 ?_ | refine iE21 ?_ | refine iJn ?_)
    | ((with_reducible show xLd _ _ _); refine iLdB (by assumption) (by first | rfl | simp) ?_) | ((with_reducible refine iLdA (by assumption) ?_ ?_); rfl)
    | ((with_reducible refine iIaNN (by assumption) ?_ (fun pa_ hpa_ => ?_)); omega) | ((with_reducible refine iIaN (by assumption) ?_ (fun pa_ hpa_ => ?_)); omega)
    | ((with_reducible refine iIaI (by assumption) ?_ ?_ (fun pa_ hpa_ => ?_)); omega; omega) | ((with_reducible refine iAdd ?_ ?_); omega) | ((with_reducible refine iSub ?_ ?_); omega)
    | ((with_reducible show xEx _ _ _); refine iEx (by rfl) ?_) | ((with_reducible refine fun (_ : Nat → Value) => ?_); (try simp only [gx, List.getD_cons_zero, List.getD_cons_succ])))
    refine iRet (ok_spec_l05Is (hs0.ext hX) n0) fun w5 h => ?_
    have hB3 := hB3.ext h
    (repeat first
    | (with_reducible first | refine iFa ?_ | refine iNil ?_ | refine iNilF ?_ | refine iLd (by assumption) ?_ | refine iLenN (by assumption) ?_ | refine iLenI (by assumption) ?_ | refine iLenS (by assumption) ?_ | refine iLenL ?_ | refine iEq ?_ | refine iNe ?_ | refine iLt ?_ | refine iLe ?_ | refine iNot ?_ | refine iPick ?_ | refine iE20 ?_ | refine iE21 ?_ | refine iJn ?_)
    | ((with_reducible show xLd _ _ _); refine iLdB (by assumption) (by first | rfl | simp) ?_) | ((with_reducible refine iLdA (by assumption) ?_ ?_); rfl)
    | ((with_reducible refine iIaNN (by assumption) ?_ (fun pa_ hpa_ => ?_)); omega) | ((with_reducible refine iIaN (by assumption) ?_ (fun pa_ hpa_ => ?_)); omega)
    | ((with_reducible refine iIaI (by assumption) ?_ ?_ (fun pa_ hpa_ => ?_)); omega; omega) | ((with_reducible refine iAdd ?_ ?_); omega) | ((with_reducible refine iSub ?_ ?_); omega)
    | ((with_reducible show xEx _ _ _); refine iEx (by rfl) ?_) | ((with_reducible refine fun (_ : Nat → Value) => ?_); (try simp only [gx, List.getD_cons_zero, List.getD_cons_succ])))
    cases h0 : frameOk n0 l0
    · refine iCndT rfl ?_
      have := hJ w5 h
      rwa [h0] at this
    · refine iCndF rfl ?_
      (repeat first
    | (with_reducible first | refine iFa ?_ | refine iNil ?_ | refine iNilF ?_ | refine iLd (by assumption) ?_ | refine iLenN (by assumption) ?_ | refine iLenI (by assumption) ?_ | refine iLenS (by assumption) ?_ | refine iLenL ?_ | refine iEq ?_ | refine iNe ?_ | refine iLt ?_ | refine iLe ?_ | refine iNot ?_ | refine iPick ?_ | refine iE20 ?_ | refine iE21 ?_ | refine iJn ?_)
    | ((with_reducible show xLd _ _ _); refine iLdB (by assumption) (by first | rfl | simp) ?_) | ((with_reducible refine iLdA (by assumption) ?_ ?_); rfl)
    | ((with_reducible refine iIaNN (by assumption) ?_ (fun pa_ hpa_ => ?_)); omega) | ((with_reducible refine iIaN (by assumption) ?_ (fun pa_ hpa_ => ?_)); omega)
    | ((with_reducible refine iIaI (by assumption) ?_ ?_ (fun pa_ hpa_ => ?_)); omega; omega) | ((with_reducible refine iAdd ?_ ?_); omega) | ((with_reducible refine iSub ?_ ?_); omega)
    | ((with_reducible show xEx _ _ _); refine iEx (by rfl) ?_) | ((with_reducible refine fun (_ : Nat → Value) => ?_); (try simp only [gx, List.getD_cons_zero, List.getD_cons_succ])))
      refine iRet (ok_spec_l05Is (hs1.ext (hX.trans h)) n1) fun w6 h6 => ?_
      (repeat first
    | (with_reducible first | refine iFa ?_ | refine iNil ?_ | refine iNilF ?_ | refine iLd (by assumption) ?_ | refine iLenN (by assumption) ?_ | refine iLenI (by assumption) ?_ | refine iLenS (by assumption) ?_ | refine iLenL ?_ | refine iEq ?_ | refine iNe ?_ | refine iLt ?_ | refine iLe ?_ | refine iNot ?_ | refine iPick ?_ | refine iE20 ?_ | refine iE21 ?_ | refine iJn ?_)
    | ((with_reducible show xLd _ _ _); refine iLdB (by assumption) (by first | rfl | simp) ?_) | ((with_reducible refine iLdA (by assumption) ?_ ?_); rfl)
    | ((with_reducible refine iIaNN (by assumption) ?_ (fun pa_ hpa_ => ?_)); omega) | ((with_reducible refine iIaN (by assumption) ?_ (fun pa_ hpa_ => ?_)); omega)
    | ((with_reducible refine iIaI (by assumption) ?_ ?_ (fun pa_ hpa_ => ?_)); omega; omega) | ((with_reducible refine iAdd ?_ ?_); omega) | ((with_reducible refine iSub ?_ ?_); omega)
    | ((with_reducible show xEx _ _ _); refine iEx (by rfl) ?_) | ((with_reducible refine fun (_ : Nat → Value) => ?_); (try simp only [gx, List.getD_cons_zero, List.getD_cons_succ])))
      have := hJ w6 (h.trans h6)
      rwa [h0, Bool.true_and] at this
  have hX := hX.trans h
  have hB2 := hB2.ext h
  have hB3 := hB3.ext h
  (repeat first
    | (with_reducible first | refine iFa ?_ | refine iNil ?_ | refine iNilF ?_ | refine iLd (by assumption) ?_ | refine iLenN (by assumption) ?_ | refine iLenI (by assumption) ?_ | refine iLenS (by assumption) ?_ | refine iLenL ?_ | refine iEq ?_ | refine iNe ?_ | refine iLt ?_ | refine iLe ?_ | refine iNot ?_ | refine iPick ?_ | refine iE20 ?_ | refine iE21 ?_ | refine iJn ?_)
    | ((with_reducible show xLd _ _ _); refine iLdB (by assumption) (by first | rfl | simp) ?_) | ((with_reducible refine iLdA (by assumption) ?_ ?_); rfl)
    | ((with_reducible refine iIaNN (by assumption) ?_ (fun pa_ hpa_ => ?_)); omega) | ((with_reducible refine iIaN (by assumption) ?_ (fun pa_ hpa_ => ?_)); omega)
    | ((with_reducible refine iIaI (by assumption) ?_ ?_ (fun pa_ hpa_ => ?_)); omega; omega) | ((with_reducible refine iAdd ?_ ?_); omega) | ((with_reducible refine iSub ?_ ?_); omega)
    | ((with_reducible show xEx _ _ _); refine iEx (by rfl) ?_) | ((with_reducible refine fun (_ : Nat → Value) => ?_); (try simp only [gx, List.getD_cons_zero, List.getD_cons_succ])))
  unfold allOut
  cases hfr : frameOk n0 l0 && frameOk n1 l1
  · refine iCndT rfl ?_
    exact ⟨hX, _, rfl, RdLL.nil _ _⟩
  · refine iCndF rfl ?_
    rw [Bool.and_eq_true] at hfr
    obtain ⟨hf, hn0, hl0⟩ := frameOk_fr hfr.1
    obtain ⟨hg, hn1, hl1⟩ := frameOk_fr hfr.2
    generalize frOf n0 l0 = f at *
    generalize frOf n1 l1 = g at *
    subst hn0; subst hl0; subst hn1; subst hl1
    (repeat first
    | (with_reducible first | refine iFa ?_ | refine iNil ?_ | refine iNilF ?_ | refine iLd (by assumption) ?_ | refine iLenN (by assumption) ?_ | refine iLenI (by assumption) ?_ | refine iLenS (by assumption) ?_ | refine iLenL ?_ | refine iEq ?_ | refine iNe ?_ | refine iLt ?_ | refine iLe ?_ | refine iNot ?_ | refine iPick ?_ | refine iE20 ?_ | refine iE21 ?_ | refine iJn ?_)
    | ((with_reducible show xLd _ _ _); refine iLdB (by assumption) (by first | rfl | simp) ?_) | ((with_reducible refine iLdA (by assumption) ?_ ?_); rfl)
    | ((with_reducible refine iIaNN (by assumption) ?_ (fun pa_ hpa_ => ?_)); omega) | ((with_reducible refine iIaN (by assumption) ?_ (fun pa_ hpa_ => ?_)); omega)
    | ((with_reducible refine iIaI (by assumption) ?_ ?_ (fun pa_ hpa_ => ?_)); omega; omega) | ((with_reducible refine iAdd ?_ ?_); omega) | ((with_reducible refine iSub ?_ ?_); omega)
    | ((with_reducible show xEx _ _ _); refine iEx (by rfl) ?_) | ((with_reducible refine fun (_ : Nat → Value) => ?_); (try simp only [gx, List.getD_cons_zero, List.getD_cons_succ])))
    refine iCall ((ok_spec_l08Find hf hg (onto := false) (one := false) (hs0.ext hX) (hs1.ext hX) (most := 201) (by omega) (by omega)).mono ?_)
    rintro v w7 ⟨h, vs, ho, hol⟩
    have hlo := hX.size
    have hX := hX.trans h
    rw [ref_eq hf hg (fun h => by cases h)] at hol
    have hvl := hol.1
    have hsl := ho.sl
    rw [List.length_map] at hvl
    (repeat first
    | (with_reducible first | refine iFa ?_ | refine iNil ?_ | refine iNilF ?_ | refine iLd (by assumption) ?_ | refine iLenN (by assumption) ?_ | refine iLenI (by assumption) ?_ | refine iLenS (by assumption) ?_ | refine iLenL ?_ | refine iEq ?_ | refine iNe ?_ | refine iLt ?_ | refine iLe ?_ | refine iNot ?_ | refine iPick ?_ | refine iE20 ?_ | refine iE21 ?_ | refine iJn ?_)
    | ((with_reducible show xLd _ _ _); refine iLdB (by assumption) (by first | rfl | simp) ?_) | ((with_reducible refine iLdA (by assumption) ?_ ?_); rfl)
    | ((with_reducible refine iIaNN (by assumption) ?_ (fun pa_ hpa_ => ?_)); omega) | ((with_reducible refine iIaN (by assumption) ?_ (fun pa_ hpa_ => ?_)); omega)
    | ((with_reducible refine iIaI (by assumption) ?_ ?_ (fun pa_ hpa_ => ?_)); omega; omega) | ((with_reducible refine iAdd ?_ ?_); omega) | ((with_reducible refine iSub ?_ ?_); omega)
    | ((with_reducible show xEx _ _ _); refine iEx (by rfl) ?_) | ((with_reducible refine fun (_ : Nat → Value) => ?_); (try simp only [gx, List.getD_cons_zero, List.getD_cons_succ])))
    generalize (leaves (fitsB f g false false) g.n f.n []).take 201 = L at *
    refine iCndP (fun h => ?_) (fun h => ?_)
    · rw [if_pos rfl, if_pos (show 200 < L.length by omega)]
      exact ⟨hX, _, rfl, RdLL.nil _ _⟩
    · rw [if_pos rfl, if_neg (show ¬ 200 < L.length by omega)]
      exact ⟨hX, v, rfl, vs, ho.mono hlo, by rw [List.map_map]; exact hol.mono hlo⟩
end Go.Proofs.Ytgbnmihpjlbfgaa
