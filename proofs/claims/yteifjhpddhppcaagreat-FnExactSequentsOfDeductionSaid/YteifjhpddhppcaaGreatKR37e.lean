/- The proof of FnExactSequentsOfDeductionSaid, part 5 of 6. Conditions: none. -/
import Derived.Test.YteifjhpddhppcaaGreatKR37d
/- Contracts: deductions copied, counted and marked by the law. Conditions: none. -/
namespace Go.Vc
theorem cellsD_set : ∀ {R : List DV} {i : Nat} (r : Int) (p : List Int) (l : List Str) (c : Str) (m : Int), i < R.length → (((cellsD R).set (i * 5 + 0) (.int .i64 r)).set (i * 5 + 3) (sv c)).set (i * 5 + 4) (.int .i64 m) = cellsD (R.set i ⟨⟨r, p, l, c, m⟩, (gt R i).vp, (gt R i).vl⟩)
  | [], _, _, _, _, _, _, h => by simp at h
  | x :: R, 0, r, p, l, c, m, _ => rfl
  | x :: R, i + 1, r, p, l, c, m, h => by
    have := cellsD_set (R := R) (i := i) r p l c m (by simpa using h)
    have e : ∀ (k : Nat) (u : Value) (M : List Value), (x.cs ++ M).set ((i + 1) * 5 + k) u = x.cs ++ M.set (i * 5 + k) u := fun k u M => by
      rw [List.set_append_right _ _ (by show 5 ≤ (i + 1) * 5 + k; omega)]
      congr 2
      show (i + 1) * 5 + k - 5 = i * 5 + k
      omega
    show (((x.cs ++ cellsD R).set ((i + 1) * 5 + 0) _).set ((i + 1) * 5 + 3) _).set ((i + 1) * 5 + 4) _ = x.cs ++ cellsD (R.set i ⟨⟨r, p, l, c, m⟩, (gt R i).vp, (gt R i).vl⟩)
    rw [e, e, e, this]
def szD (x : Ded) : Nat := x.prem.length + x.asm.length + 3
def totD (L : List Ded) : Nat := (L.map szD).sum
theorem totD_snoc (L : List Ded) (x : Ded) : totD (L ++ [x]) = totD L + szD x := by simp [totD]
theorem totD_take {L : List Ded} {i : Nat} (hi : i < L.length) : totD (L.take (i + 1)) = totD (L.take i) + szD (gt L i) ∧ totD (L.take (i + 1)) ≤ totD L := by
  refine ⟨by rw [List.take_succ_eq_append_getElem hi, totD_snoc, gt_eq hi], ?_⟩
  have e := congrArg totD (List.take_append_drop (i + 1) L)
  simp only [totD, List.map_append, List.sum_append] at e ⊢
  omega
theorem iMk5 {w : World} {e : TypeId} {z : Array Value} {bytes n : Nat} {k : IntKind} {K : Value → World → Prop} (h1 : bytes * n ≤ 2 ^ 48) (h2 : (n : Int) ≤ 9223372036854775807)
    (h : ∀ b w', b = w.heap.size ∧ w'.heap.size = b + 1 → Ext w w' → (∃ cs, cs.length = n * 5 ∧ Blk e w' b cs) → K (.slice (some ⟨b, 0, none⟩) n n) w') : xMk e z 5 bytes (.int k (n : Int)) (.int k (n : Int)) w K := by
  refine ⟨k, k, n, n, rfl, rfl, Nat.le_refl _, h2, by exact_mod_cast h1, ?_⟩
  exact h _ _ ⟨rfl, by simp⟩ (Ext.alloc w _) ⟨_, by simp, Blk.new w _ e⟩
theorem iStR5 {P : Program} {w : World} {e : TypeId} {q o : Nat} {cs vs : List Value} {K : World → Prop} (hB : Blk e w q cs) (hn : vs.length = 5) (hl : o + 5 ≤ cs.length) (hv : ∀ v ∈ vs, isCell v = true)
    (h : ∀ w', Blk e w' q (cs.take o ++ vs ++ cs.drop (o + 5)) → Ch (fun d => d = q) w w' → K w') : xStA P w 5 (.pointer (some ⟨q, o, none⟩)) (.agg vs.toArray) K := by
  have hrun := run_storeCells_at P q o e vs 0 cs.toArray w hB (by simpa [hn] using hl) (fun v hv' => isCell_one (hv v hv'))
  rw [Nat.add_zero, hn] at hrun
  exact ⟨_, w.setRow q (cs.take o ++ vs ++ cs.drop (o + 5)).toArray, rfl, by simpa [Value.cells] using hn, hrun, h _ (setRow_heap w q cs.toArray _ e (0, 0) hB) ⟨rfl, rfl, rfl, by rw [setRow_size]; exact Nat.le_refl _, fun d _ hd => setRow_other w q d _ hd⟩⟩
end Go.Vc
namespace Go.Proofs.YteifjhpddhppcaaGreat
open Go.Vc
/-- Steps that are the call's own, all of them apart. -/
structure OwDs (lo : Nat) (w : World) (v : Value) (R : List DV) : Prop where
  row : OwK 5 lo t_impl_Deduction w v R.length (cellsD R)
  prem : ∀ j, j < R.length → Ow lo t_i64 w (gt R j).vp (ints (gt R j).d.prem)
  asm : ∀ j, j < R.length → Ow lo t_string w (gt R j).vl (strs (gt R j).d.asm)
  dp : ∀ a b, a < R.length → b < R.length → a ≠ b → ∀ c, (gt R a).vp.ownBlock = some c → (gt R b).vp.ownBlock ≠ some c
  dl : ∀ a b, a < R.length → b < R.length → a ≠ b → ∀ c, (gt R a).vl.ownBlock = some c → (gt R b).vl.ownBlock ≠ some c
theorem OwDs.ext {lo : Nat} {w w' : World} {v : Value} {R : List DV} (h : OwDs lo w v R) (x : Ext w w') : OwDs lo w' v R := ⟨OwK.ext h.row x, fun j hj => (h.prem j hj).ext x, fun j hj => (h.asm j hj).ext x, h.dp, h.dl⟩
theorem OwDs.rd {lo : Nat} {w : World} {v : Value} {R : List DV} (h : OwDs lo w v R) : RdD w v R := by
  refine ⟨h.row.sl, fun x hx => ?_, fun x hx => ?_⟩
  · obtain ⟨j, hj, rfl⟩ := List.getElem_of_mem hx
    rw [← gt_eq hj]; exact (h.prem j hj).sl
  · obtain ⟨j, hj, rfl⟩ := List.getElem_of_mem hx
    rw [← gt_eq hj]; exact (h.asm j hj).sl
theorem ok_laws_toDeduction {x : DV} {w : World} (h1 : SlI w x.vp x.d.prem) (h2 : SlT w x.vl x.d.asm) (hp : x.d.prem.length ≤ 1048576) (hl : x.d.asm.length ≤ 1048576) :
    Cal Tryz.prog f_laws_toDeduction #[.agg x.cs.toArray] w fun r w' => Ext w w' ∧ ∃ y : DV, r = .agg y.cs.toArray ∧ y.d = x.d ∧ Ow w.heap.size t_i64 w' y.vp (ints x.d.prem) ∧ Ow w.heap.size t_string w' y.vl (strs x.d.asm) := by
  apply c_laws_toDeduction; unfold S_laws_toDeduction
  refine iNew5 fun q1 w1 hq1 x1 hB1 => ?_
  refine iNew5 fun q2 w2 hq2 x2 hB2 => ?_
  refine iNew5 fun q3 w3 hq3 x3 hB3 => ?_
  have hB1 : Blk 38 w1 q1 [.int .i64 x.d.rule, x.vp, x.vl, sv x.d.con, .int .i64 x.d.num] := hB1
  have y3 : Ext w1 w3 := x2.trans x3
  refine iFa (iLdB (hB1.ext y3) (i := 0) (v := .int .i64 x.d.rule) rfl ?_)
  refine iFa (iStU hB3 (by simp) rfl fun w4 hB4 u4 => ?_)
  have y4 : Ext w1 w4 := y3.upd u4 (by omega)
  have z4 : Ext w2 w4 := x3.upd u4 (by omega)
  refine iFa (iLdB (hB1.ext y4) (i := 1) (v := x.vp) rfl ?_)
  refine iCall ((ok_laws_toInt64S (SlI.ext h1 (x1.trans y4)) hp).mono ?_)
  rintro vp w5 ⟨x5, hvp5⟩
  have y5 := y4.trans x5
  have z5 := z4.trans x5
  have hs4 : q3 < w4.heap.size := hB4.lt
  refine iFa (iStU (hB4.ext x5) (by simp) hvp5.cell fun w6 hB6 u6 => ?_)
  have y6 : Ext w1 w6 := y5.upd u6 (by omega)
  have z6 : Ext w2 w6 := z5.upd u6 (by omega)
  have hvp6 : Ow w4.heap.size t_i64 w6 vp (ints x.d.prem) := hvp5.ch (u6.ch (S := fun c => c = q3) rfl) fun c hc hS => by
    have hS : c = q3 := hS
    have := (hvp5.blk c hc).1
    omega
  refine iFa (iLdB (hB1.ext y6) (i := 2) (v := x.vl) rfl ?_)
  refine iCall ((ok_laws_toStringS (Sl.ext h2 (x1.trans y6)) hl).mono ?_)
  rintro vl w7 ⟨x7, hvl7⟩
  have y7 := y6.trans x7
  have z7 := z6.trans x7
  have hs6 : q3 < w6.heap.size := hB6.lt
  refine iFa (iStU (hB6.ext x7) (by simp) hvl7.cell fun w8 hB8 u8 => ?_)
  have y8 : Ext w1 w8 := y7.upd u8 (by omega)
  have z8 : Ext w2 w8 := z7.upd u8 (by omega)
  have q3no : ∀ {lo : Nat} {e : TypeId} {w' w'' : World} {u : Value} {xs : List Value}, q3 < lo → Upd q3 w' w'' → Ow lo e w' u xs → Ow lo e w'' u xs := fun hlo hu h => h.ch (hu.ch (S := fun c => c = q3) rfl) fun c hc hS => by
    have hS : c = q3 := hS
    have := (h.blk c hc).1
    omega
  have hvp8 := q3no hs4 u8 (hvp6.ext x7)
  have hvl8 := q3no hs6 u8 hvl7
  refine iFa (iLdB (hB1.ext y8) (i := 3) (v := sv x.d.con) rfl ?_)
  refine iFa (iStU hB8 (by simp) rfl fun w9 hB9 u9 => ?_)
  have y9 : Ext w1 w9 := y8.upd u9 (by omega)
  have z9 : Ext w2 w9 := z8.upd u9 (by omega)
  have hvp9 := q3no hs4 u9 hvp8
  have hvl9 := q3no hs6 u9 hvl8
  refine iFa (iLdB (hB1.ext y9) (i := 4) (v := .int .i64 x.d.num) rfl ?_)
  refine iFa (iStU hB9 (by simp) rfl fun w10 hB10 u10 => ?_)
  have z10 : Ext w2 w10 := z9.upd u10 (by omega)
  have hvp10 := q3no hs4 u10 hvp9
  have hvl10 := q3no hs6 u10 hvl9
  have hB10 : Blk t_impl_Deduction w10 q3 [.int .i64 x.d.rule, vp, vl, sv x.d.con, .int .i64 x.d.num] := by simpa using hB10
  refine iLdA hB10 rfl ?_
  refine iStAB (hB2.ext z10) rfl rfl (fun y hy => ?_) fun w11 u11 hB11 => ?_
  · simp only [List.mem_cons, List.not_mem_nil, or_false] at hy
    rcases hy with rfl | rfl | rfl | rfl | rfl
    · rfl
    · exact hvp5.cell
    · exact hvl7.cell
    · rfl
    · rfl
  refine iLdA hB11 rfl ?_
  have q2no : ∀ {lo : Nat} {e : TypeId} {u : Value} {xs : List Value}, q2 < lo → Ow lo e w10 u xs → Ow lo e w11 u xs := fun hlo h => h.ch (u11.ch (S := fun c => c = q2) rfl) fun c hc hS => by
    have hS : c = q2 := hS
    have := (h.blk c hc).1
    omega
  have hs26 : q2 < w4.heap.size := by have := z4.size; omega
  have hs46 : w4.heap.size ≤ w6.heap.size := by have := x5.size; rw [u6.size]; exact this
  have X11 : Ext w w11 := ((x1.trans x2).trans z10).upd u11 (by have := x1.size; omega)
  have hw4 : w.heap.size ≤ w4.heap.size := (x1.trans y4).size
  exact ⟨X11, ⟨x.d, vp, vl⟩, rfl, rfl, (q2no hs26 hvp10).mono hw4, (q2no (by omega) hvl10).mono (by omega)⟩
theorem ok_laws_toDeductionS {v : Value} {R : List DV} {w : World} (h : RdD w v R) (hL : R.length ≤ 1048576) (hs : ∀ x ∈ R, x.d.prem.length ≤ 1048576 ∧ x.d.asm.length ≤ 1048576) :
    Cal Tryz.prog f_laws_toDeductionS #[v] w fun r w' => Ext w w' ∧ ∃ Q, OwDs w.heap.size w' r Q ∧ Q.map DV.d = R.map DV.d := by
  apply c_laws_toDeductionS; unfold S_laws_toDeductionS
  refine iLenK h.row ?_
  refine iMk5 (n := R.length) (by omega) (by omega) fun b w1 hb x1 ⟨cs, hcl, hB⟩ => ?_
  refine iLp (fun j : Nat => [.int .i64 (j : Int)]) (fun j w' => j ≤ R.length ∧ Ext w w' ∧ ∃ (Q : List DV) (cs : List Value), Q.length = j ∧ Q.map DV.d = (R.map DV.d).take j ∧ cs.length = R.length * 5 ∧ cs.take (j * 5) = cellsD Q ∧ Blk t_impl_Deduction w' b cs ∧ (∀ i, i < j → Ow w.heap.size t_i64 w' (gt Q i).vp (ints (gt Q i).d.prem)) ∧ (∀ i, i < j → Ow w.heap.size t_string w' (gt Q i).vl (strs (gt Q i).d.asm)) ∧
    (∀ a c, a < j → c < j → a ≠ c → ∀ z, (gt Q a).vp.ownBlock = some z → (gt Q c).vp.ownBlock ≠ some z) ∧ (∀ a c, a < j → c < j → a ≠ c → ∀ z, (gt Q a).vl.ownBlock = some z → (gt Q c).vl.ownBlock ≠ some z)) (fun j => R.length - j) 0 rfl ⟨Nat.zero_le _, x1, [], cs, rfl, by simp, hcl, by simp [cellsD], hB, fun i hi => absurd hi (Nat.not_lt_zero i), fun i hi => absurd hi (Nat.not_lt_zero i), fun a _ ha => absurd ha (Nat.not_lt_zero a), fun a _ ha => absurd ha (Nat.not_lt_zero a)⟩ ?_
  clear hB hcl cs
  rintro j w3 Kn ⟨hj, x3, Q, cs, hQl, hQd, hcl, hct, hB, hp, hl, hdp, hdl⟩ hKn
  intro _
  simp only [gx]
  refine iLenK (h.ext x3).row (iLt (iCndP (fun hlt => ?_) (fun hlt => ?_)))
  · have hjl : j < R.length := by omega
    have hm : gt R j ∈ R := by rw [gt_eq hjl]; exact List.getElem_mem _
    refine iAtD (h.ext x3).row rfl hjl ?_
    refine iCall ((ok_laws_toDeduction ((h.ext x3).prem _ hm) ((h.ext x3).asm _ hm) (hs _ hm).1 (hs _ hm).2).mono ?_)
    rintro _ w4 ⟨x4, y, rfl, hyd, hyp, hyl⟩
    refine ⟨_, _, _, _, _, rfl, rfl, by omega, by omega, ?_⟩
    rw [Int.toNat_natCast, addr_add, Nat.zero_add]
    refine iStR5 (vs := y.cs) (hB.ext x4) rfl (by omega) (fun u hu => ?_) fun w5 hB5 c5 => ?_
    · simp only [DV.cs, List.mem_cons, List.not_mem_nil, or_false] at hu
      rcases hu with rfl | rfl | rfl | rfl | rfl
      · rfl
      · exact hyp.cell
      · exact hyl.cell
      · rfl
      · rfl
    have kp : ∀ {lo : Nat} {e : TypeId} {u : Value} {xs : List Value}, e ≠ t_impl_Deduction → Ow lo e w4 u xs → Ow lo e w5 u xs := fun hne ho => ho.ch c5 fun c hc hS => by
      have hS : c = b := hS
      exact ho.ne_blk (hB.ext x4) hne (hS ▸ hc)
    have gl : ∀ {i : Nat}, i < j → gt (Q ++ [y]) i = gt Q i := fun hi => by rw [gt_eq (by rw [List.length_append]; omega), gt_eq (by omega), List.getElem_append_left (by omega)]
    have ge : gt (Q ++ [y]) j = y := by rw [← hQl]; exact gt_end Q y
    have hw3 : w.heap.size ≤ w3.heap.size := x3.size
    refine iAdd (by omega) ?_
    refine hKn (j + 1) _ ⟨by omega, (x3.trans x4).thenCh c5 fun c hc => by omega, Q ++ [y], _, by rw [List.length_append, hQl]; rfl, ?_, ?_, ?_, hB5, fun i hi => ?_, fun i hi => ?_, fun a c ha hc hac z hz => ?_, fun a c ha hc hac z hz => ?_⟩ (by omega)
    · rw [List.map_append, hQd, List.take_succ_eq_append_getElem (by rw [List.length_map]; exact hjl), List.map_singleton, hyd, List.getElem_map, gt_eq hjl]
    · simp only [List.length_append, List.length_take, List.length_drop, DV.cs, List.length_cons, List.length_nil]; omega
    · rw [List.take_append_of_le_length (by simp only [List.length_append, List.length_take, DV.cs, List.length_cons, List.length_nil]; omega), List.take_of_length_le (by simp only [List.length_append, List.length_take, DV.cs, List.length_cons, List.length_nil]; omega), hct, cellsD_app]
      simp [cellsD]
    · by_cases e : i < j
      · rw [gl e]; exact kp (by decide) ((hp i e).ext x4)
      · have : i = j := by omega
        subst this
        rw [ge, hyd]; exact kp (by decide) (hyp.mono hw3)
    · by_cases e : i < j
      · rw [gl e]; exact kp (by decide) ((hl i e).ext x4)
      · have : i = j := by omega
        subst this
        rw [ge, hyd]; exact kp (by decide) (hyl.mono hw3)
    · by_cases e1 : a < j
      · rw [gl e1] at hz
        by_cases e2 : c < j
        · rw [gl e2]; exact hdp a c e1 e2 hac z hz
        · have : c = j := by omega
          subst this
          rw [ge]
          intro hz'
          have := ((hp a e1).blk z hz).2
          have := (hyp.blk z hz').1
          omega
      · have : a = j := by omega
        subst this
        rw [ge] at hz
        rw [gl (show c < a by omega)]
        intro hz'
        have := ((hp c (by omega)).blk z hz').2
        have := (hyp.blk z hz).1
        omega
    · by_cases e1 : a < j
      · rw [gl e1] at hz
        by_cases e2 : c < j
        · rw [gl e2]; exact hdl a c e1 e2 hac z hz
        · have : c = j := by omega
          subst this
          rw [ge]
          intro hz'
          have := ((hl a e1).blk z hz).2
          have := (hyl.blk z hz').1
          omega
      · have : a = j := by omega
        subst this
        rw [ge] at hz
        rw [gl (show c < a by omega)]
        intro hz'
        have := ((hl c (by omega)).blk z hz').2
        have := (hyl.blk z hz).1
        omega
  · have hje : j = R.length := by omega
    rw [List.take_of_length_le (by omega)] at hct
    subst hct
    refine ⟨x3, Q, ⟨?_, fun i hi => hp i (by omega), fun i hi => hl i (by omega), fun a c ha hc => hdp a c (by omega) (by omega), fun a c ha hc => hdl a c (by omega) (by omega)⟩, ?_⟩
    · have e : Q.length = R.length := by omega
      rw [e]
      exact OwK.ofBlk hB (by omega) (by rw [cellsD_len, e]) (by omega)
    · rw [hQd, hje]
      exact List.take_of_length_le (by rw [List.length_map]; omega)
theorem ok_laws_szDeduction {x : DV} {w : World} (h1 : SlI w x.vp x.d.prem) (h2 : SlT w x.vl x.d.asm) (hlen : ∀ t ∈ x.d.asm, t.length ≤ 9223372036854775807) (hc : x.d.con.length ≤ 9223372036854775807) (left : Int) (h0 : 0 ≤ left ∧ left ≤ 1048576) :
    Cal Tryz.prog f_laws_szDeduction #[.agg x.cs.toArray, .int .i64 left] w fun r w' => Ext w w' ∧ ∃ z : Int, r = .int .i64 z ∧ (z = -1 ∨ (0 ≤ z ∧ z ≤ left ∧ x.d.prem.length ≤ 1048576 ∧ x.d.asm.length ≤ 1048576)) := by
  apply c_laws_szDeduction; unfold S_laws_szDeduction
  refine iNew5 fun q1 w1 hq1 x1 hB1 => ?_
  have hB1 : Blk 38 w1 q1 [.int .i64 x.d.rule, x.vp, x.vl, sv x.d.con, .int .i64 x.d.num] := hB1
  refine iFa (iLdB hB1 (i := 1) (v := x.vp) rfl ?_)
  refine iRet (ok_laws_szInt64S (SlI.ext h1 x1) left h0) fun w2 x2 => ?_
  unfold szN
  have X2 := x1.trans x2
  refine iLt (iCndP (fun h => ⟨X2, -1, rfl, .inl rfl⟩) (fun h => ?_))
  by_cases hs : left - (x.d.prem.length : Int) < 0
  · rw [if_pos hs] at h; exact absurd (by decide) h
  rw [if_neg hs]
  refine iFa (iLdB (hB1.ext x2) (i := 2) (v := x.vl) rfl ?_)
  refine iCall ((ok_laws_szStringS (Sl.ext h2 X2) hlen (left - (x.d.prem.length : Int)) (by omega)).mono ?_)
  rintro _ w3 ⟨x3, z, rfl, hz⟩
  have X3 := X2.trans x3
  refine iLt (iCndP (fun h => ⟨X3, -1, rfl, .inl rfl⟩) (fun h => ?_))
  refine iFa (iLdB (hB1.ext (x2.trans x3)) (i := 3) (v := sv x.d.con) rfl (iLenT (iSub (by omega) (iLt (iCndP (fun h => ⟨X3, -1, rfl, .inl rfl⟩) (fun h => ?_))))))
  exact ⟨X3, _, rfl, .inr (by omega)⟩
theorem ok_laws_szDeductionS {v : Value} {R : List DV} {w : World} (h : RdD w v R) (hlen : ∀ x ∈ R, (∀ t ∈ x.d.asm, t.length ≤ 9223372036854775807) ∧ x.d.con.length ≤ 9223372036854775807) (left : Int) (h0 : 0 ≤ left ∧ left ≤ 1048576) :
    Cal Tryz.prog f_laws_szDeductionS #[v, .int .i64 left] w fun r w' => Ext w w' ∧ ∃ z : Int, r = .int .i64 z ∧ (z = -1 ∨ (0 ≤ z ∧ R.length ≤ 1048576 ∧ ∀ x ∈ R, x.d.prem.length ≤ 1048576 ∧ x.d.asm.length ≤ 1048576)) := by
  apply c_laws_szDeductionS; unfold S_laws_szDeductionS
  have hln := SlK.len h.row
  refine iLenK h.row (iSub (by omega) (iLt (iCndP (fun _ => ⟨Ext.refl _, -1, rfl, .inl rfl⟩) (fun hh => ?_))))
  refine iLp (fun s : Int × Nat => [.int .i64 s.1, .int .i64 (s.2 : Int)]) (fun s w' => s.2 ≤ R.length ∧ Ext w w' ∧ 0 ≤ s.1 ∧ s.1 ≤ left ∧ ∀ i, i < s.2 → (gt R i).d.prem.length ≤ 1048576 ∧ (gt R i).d.asm.length ≤ 1048576) (fun s => R.length - s.2) (left - R.length, 0) rfl ⟨Nat.zero_le _, Ext.refl _, by show 0 ≤ left - (R.length : Int); omega, by show left - (R.length : Int) ≤ left; omega, fun i hi => absurd hi (Nat.not_lt_zero i)⟩ ?_
  rintro ⟨z, j⟩ w2 Kn ⟨hj, h2, hz0, hz1, hsh⟩ hKn
  have hj : j ≤ R.length := hj
  have hz0 : 0 ≤ z := hz0
  have hz1 : z ≤ left := hz1
  have hsh : ∀ i, i < j → (gt R i).d.prem.length ≤ 1048576 ∧ (gt R i).d.asm.length ≤ 1048576 := hsh
  intro _
  simp only [gx]
  refine iLenK (h.ext h2).row (iLt (iCndP (fun h3 => ?_) (fun h3 => ?_)))
  · have hjl : j < R.length := by omega
    have hm : gt R j ∈ R := by rw [gt_eq hjl]; exact List.getElem_mem _
    refine iAtD (h.ext h2).row rfl hjl ?_
    refine iCall ((ok_laws_szDeduction ((h.ext h2).prem _ hm) ((h.ext h2).asm _ hm) (hlen _ hm).1 (hlen _ hm).2 z (by omega)).mono ?_)
    rintro _ w3 ⟨h23, z', rfl, hz'⟩
    refine iLt (iCndP (fun h4 => ⟨h2.trans h23, -1, rfl, .inl rfl⟩) (fun h4 => ?_))
    refine iAdd (by omega) ?_
    refine hKn (z', j + 1) _ ⟨by show j + 1 ≤ R.length; omega, h2.trans h23, by show 0 ≤ z'; omega, by show z' ≤ left; omega, fun i hi => ?_⟩ (by show R.length - (j + 1) < R.length - j; omega)
    by_cases hij : i = j
    · subst hij; omega
    · exact hsh i (by have hi : i < j + 1 := hi; omega)
  · refine ⟨h2, z, rfl, .inr ⟨hz0, by omega, fun x hx => ?_⟩⟩
    obtain ⟨i, hi, rfl⟩ := List.getElem_of_mem hx
    have := hsh i (by omega)
    rw [gt_eq hi] at this
    exact this
end Go.Proofs.YteifjhpddhppcaaGreat

/- Contracts: marks laid in deductions. Conditions: none. -/
namespace Go.Proofs.YteifjhpddhppcaaGreat
open Go.Vc
/-- The blocks that marks may turn. -/
def OfD (v : Value) (R : List DV) (c : Nat) : Prop := v.ownBlock = some c ∨ ∃ j, j < R.length ∧ ((gt R j).vp.ownBlock = some c ∨ (gt R j).vl.ownBlock = some c)
theorem ok_laws_markDeductionS {lo : Nat} {w : World} {v : Value} {R : List DV} (h : OwDs lo w v R) (hM : totD (R.map DV.d) ≤ 1000000000000000) :
    Cal Tryz.prog f_laws_markDeductionS #[v, .int .i64 1] w fun r w' => r = .int .i64 ((1 + totD (R.map DV.d) : Nat) : Int) ∧ Ch (OfD v R) w w' := by
  apply c_laws_markDeductionS; unfold S_laws_markDeductionS
  have hcap : R.length ≤ 9223372036854775807 := h.row.sl.len
  refine iLp (fun i : Nat => [.int .i64 ((1 + totD ((R.map DV.d).take i) : Nat) : Int), .int .i64 (i : Int)]) (fun i w' => i ≤ R.length ∧ Ch (OfD v R) w w' ∧ ∃ T, OwDs lo w' v T ∧ T.length = R.length ∧ ∀ j, j < R.length → (gt T j).vp = (gt R j).vp ∧ (gt T j).vl = (gt R j).vl ∧ (gt T j).d.prem.length = (gt R j).d.prem.length ∧ (gt T j).d.asm.length = (gt R j).d.asm.length) (fun i => R.length - i) 0 (by simp [totD]) ⟨Nat.zero_le _, (Ext.refl w).ch, R, h, rfl, fun j _ => ⟨rfl, rfl, rfl, rfl⟩⟩ ?_
  clear h
  rintro i w2 Kn ⟨hi, hch, T, hO, hTl, hT⟩ hKn
  intro _
  simp only [gx]
  refine iLenK hO.row.sl ?_
  refine iLt (iCndP (fun h3 => ?_) (fun h3 => ?_))
  · have hiT : i < T.length := by omega
    have hiR : i < R.length := by omega
    obtain ⟨e1, e2, e3, e4⟩ := hT i hiR
    obtain ⟨htk, hle⟩ := totD_take (L := R.map DV.d) (i := i) (by rw [List.length_map]; exact hiR)
    rw [gt_mapD hiR] at htk
    have hszy : szD (gt R i).d = (gt R i).d.prem.length + (gt R i).d.asm.length + 3 := rfl
    rw [← e3, ← e4] at hszy
    have hpr := hO.prem i hiT
    have hlf := hO.asm i hiT
    generalize hz : totD ((R.map DV.d).take i) = z at *
    have keepR : ∀ {w' w'' : World} {S : Nat → Prop} {xs : List Value}, OwK 5 lo t_impl_Deduction w' v T.length xs → Ch S w' w'' → (∀ c, S c → ∃ cur e, w'.heap[c]? = some (.cells cur e (0, 0)) ∧ e ≠ t_impl_Deduction) → OwK 5 lo t_impl_Deduction w'' v T.length xs := fun h hc hn => OwK.ch h hc fun c hc' hS => by
      obtain ⟨cur, e, h1, h2⟩ := hn c hS
      exact h2 (ne_ty ⟨cur, h1⟩ (OwK.ty h hc'))
    have keep : ∀ {w' w'' : World} {e : TypeId} {u : Value} {xs ys : List Value}, e ≠ t_impl_Deduction → Ow lo e w' u xs → OwK 5 lo t_impl_Deduction w' v T.length ys → Ch (fun c => v.ownBlock = some c) w' w'' → Ow lo e w'' u xs := fun hne h hr hc => h.ch hc fun c hc' hS => hne (ne_ty (h.ty hc') (OwK.ty hr hS))
    refine iSt5 (f := 0) hO.row hiT (by decide) rfl fun w3 hr3 c3 => ?_
    have p3 : ∀ j, j < T.length → Ow lo t_i64 w3 (gt T j).vp (ints (gt T j).d.prem) := fun j hj => keep (by decide) (hO.prem j hj) hO.row c3
    have l3 : ∀ j, j < T.length → Ow lo t_string w3 (gt T j).vl (strs (gt T j).d.asm) := fun j hj => keep (by decide) (hO.asm j hj) hO.row c3
    refine iAdd (by omega) ?_
    rw [show ((1 + z : Nat) : Int) + 1 = ((1 + z + 1 : Nat) : Int) by omega]
    refine iFld5 (f := 1) (x := (gt T i).vp) hr3.sl hiT (by decide) (by rw [List.getElem?_set_ne (by omega), cellsD_at hiT 1 (by decide)]; rfl) ?_
    have hpi := p3 i hiT
    refine iCall ((ok_laws_markInt64S hpi (1 + z + 1) (by omega)).mono ?_)
    rintro _ w4 ⟨rfl, hm4, hg4⟩
    have c4 := grown_ch (S := fun c => (gt T i).vp.ownBlock = some c) hg4 fun c hc => hc
    have hr4 := keepR hr3 c4 fun c hc => by obtain ⟨cur, e⟩ := hpi.ty hc; exact ⟨cur, _, e, by decide⟩
    have p4 : ∀ j, j < T.length → j ≠ i → Ow lo t_i64 w4 (gt T j).vp (ints (gt T j).d.prem) := fun j hj hne => (p3 j hj).ch c4 fun c hc hS => hO.dp j i hj hiT hne c hc hS
    have l4 : ∀ j, j < T.length → Ow lo t_string w4 (gt T j).vl (strs (gt T j).d.asm) := fun j hj => (l3 j hj).ch c4 fun c hc hS => absurd (ne_ty ((l3 j hj).ty hc) (hpi.ty hS)) (by decide)
    refine iFld5 (f := 2) (x := (gt T i).vl) hr4.sl hiT (by decide) (by rw [List.getElem?_set_ne (by omega), cellsD_at hiT 2 (by decide)]; rfl) ?_
    have hli := l4 i hiT
    refine iCall ((ok_laws_markStringS hli (k := 1 + z + 1 + (gt T i).d.prem.length) (by omega)).mono ?_)
    rintro _ w5 ⟨rfl, hT5⟩
    have c5 := hT5.ch
    have hr5 := keepR hr4 c5 fun c hc => by obtain ⟨cur, e⟩ := hli.ty hc; exact ⟨cur, _, e, by decide⟩
    have m5 : Ow lo t_i64 w5 (gt T i).vp (ints (marks (1 + z + 1) (gt T i).d.prem.length)) := hm4.ch c5 fun c hc hS => absurd (ne_ty (hm4.ty hc) (hli.ty hS)) (by decide)
    have p5 : ∀ j, j < T.length → j ≠ i → Ow lo t_i64 w5 (gt T j).vp (ints (gt T j).d.prem) := fun j hj hne => (p4 j hj hne).ch c5 fun c hc hS => absurd (ne_ty ((p4 j hj hne).ty hc) (hli.ty hS)) (by decide)
    have l5 : ∀ j, j < T.length → j ≠ i → Ow lo t_string w5 (gt T j).vl (strs (gt T j).d.asm) := fun j hj hne => (l4 j hj).ch c5 fun c hc hS => hO.dl j i hj hiT hne c hc hS
    have t5 : Ow lo t_string w5 (gt T i).vl (strs (marksT (1 + z + 1 + (gt T i).d.prem.length) (gt T i).d.asm.length)) := hT5.ow
    refine iRet (ok_laws_markText _ (by omega) w5) fun w6 h56 => ?_
    refine iSt5 (f := 3) (OwK.ext hr5 h56) hiT (by decide) rfl fun w7 hr7 c7 => ?_
    refine iAdd (by omega) ?_
    refine iSt5 (f := 4) hr7 hiT (by decide) rfl fun w9 hr9 c9 => ?_
    refine iAdd (by omega) (iAdd (by omega) ?_)
    have k9 : ∀ {e : TypeId} {u : Value} {xs : List Value}, e ≠ t_impl_Deduction → Ow lo e w5 u xs → Ow lo e w9 u xs := fun hne h => keep hne (keep hne (h.ext h56) (OwK.ext hr5 h56) c7) hr7 c9
    have hzz : ((1 + z + 1 + (gt T i).d.prem.length + (gt T i).d.asm.length : Nat) : Int) + 1 + 1 = ((1 + totD ((R.map DV.d).take (i + 1)) : Nat) : Int) := by rw [htk, hszy]; omega
    rw [hzz]
    have own : ∀ c, v.ownBlock = some c → OfD v R c := fun c hc => .inl hc
    have ownP : ∀ c, (gt T i).vp.ownBlock = some c → OfD v R c := fun c hc => .inr ⟨i, hiR, .inl (e1 ▸ hc)⟩
    have ownL : ∀ c, (gt T i).vl.ownBlock = some c → OfD v R c := fun c hc => .inr ⟨i, hiR, .inr (e2 ▸ hc)⟩
    have h9 : Ch (OfD v R) w2 w9 := (((((c3.mono own).trans (c4.mono ownP) fun c hc => .inl hc).trans (c5.mono ownL) fun c hc => .inl hc).trans (h56.ch (S := OfD v R)) fun c hc => .inl hc).trans (c7.mono own) fun c hc => .inl hc).trans (c9.mono own) fun c hc => .inl hc
    generalize hX : (⟨⟨((1 + z : Nat) : Int), marks (1 + z + 1) (gt T i).d.prem.length, marksT (1 + z + 1 + (gt T i).d.prem.length) (gt T i).d.asm.length, markT ((1 + z + 1 + (gt T i).d.prem.length + (gt T i).d.asm.length : Nat) : Int), ((1 + z + 1 + (gt T i).d.prem.length + (gt T i).d.asm.length : Nat) : Int) + 1⟩, (gt T i).vp, (gt T i).vl⟩ : DV) = X
    have hgs : ∀ j, gt (T.set i X) j = if j = i then X else gt T j := gt_set _ hiT
    have hX1 : X.vp = (gt T i).vp := by rw [← hX]
    have hX2 : X.vl = (gt T i).vl := by rw [← hX]
    have hX3 : X.d.prem = marks (1 + z + 1) (gt T i).d.prem.length := by rw [← hX]
    have hX4 : X.d.asm = marksT (1 + z + 1 + (gt T i).d.prem.length) (gt T i).d.asm.length := by rw [← hX]
    have hvp : ∀ j, (gt (T.set i X) j).vp = (gt T j).vp ∧ (gt (T.set i X) j).vl = (gt T j).vl := fun j => by
      rw [hgs]
      by_cases e : j = i
      · rw [if_pos e, e]; exact ⟨hX1, hX2⟩
      · rw [if_neg e]; exact ⟨rfl, rfl⟩
    refine hKn (i + 1) _ ⟨by omega, hch.trans h9 fun c hc => .inl hc, T.set i X, ⟨?_, fun j hj => ?_, fun j hj => ?_, fun a b ha hb => ?_, fun a b ha hb => ?_⟩, by rw [List.length_set]; exact hTl, fun j hj => ?_⟩ (by omega)
    · rw [List.length_set, ← hX]
      rw [show cellsD (T.set i _) = _ from (cellsD_set _ _ _ _ _ hiT).symm]
      exact hr9
    · rw [List.length_set] at hj
      rw [(hvp j).1, hgs]
      by_cases e : j = i
      · rw [if_pos e, e, hX3]; exact k9 (by decide) m5
      · rw [if_neg e]; exact k9 (by decide) (p5 j hj e)
    · rw [List.length_set] at hj
      rw [(hvp j).2, hgs]
      by_cases e : j = i
      · rw [if_pos e, e, hX4]; exact k9 (by decide) t5
      · rw [if_neg e]; exact k9 (by decide) (l5 j hj e)
    · rw [List.length_set] at ha hb
      rw [(hvp a).1, (hvp b).1]; exact hO.dp a b ha hb
    · rw [List.length_set] at ha hb
      rw [(hvp a).2, (hvp b).2]; exact hO.dl a b ha hb
    · obtain ⟨a1, a2, a3, a4⟩ := hT j hj
      refine ⟨(hvp j).1.trans a1, (hvp j).2.trans a2, ?_, ?_⟩
      · rw [hgs]
        by_cases e : j = i
        · rw [if_pos e, hX3, ← a3, e]; simp [marks]
        · rw [if_neg e]; exact a3
      · rw [hgs]
        by_cases e : j = i
        · rw [if_pos e, hX4, ← a4, e, marksT_len]
        · rw [if_neg e]; exact a4
  · have hie : i = R.length := by omega
    refine ⟨?_, hch⟩
    rw [List.take_of_length_le (by rw [List.length_map]; omega)]
end Go.Proofs.YteifjhpddhppcaaGreat

/- Contracts: too large a left side; proofs out of deductions. Conditions: none. -/
namespace Go.Vc
/-- What comes out. -/
def outD (P : List Ded) : Int × List Inf := if codeD P = 0 then (if limD (seqD P P.length).1 then (0, (seqD P P.length).1) else (3, [])) else (codeD P, [])
end Go.Vc
namespace Go.Proofs.YteifjhpddhppcaaGreat
open Go.Vc
theorem ok_ContainsFuncInf {v fv : Value} {R : List IV} {p : Inf → Bool} {w : World} (hs : SlK 5 w v R.length (cells5 R)) (hf : ∀ x ∈ R, ∀ w', Ext w w' → callV Tryz.prog fv [.agg x.cs.toArray] w' fun u w'' => u = .bool (p x.i) ∧ Ext w' w'') :
    Ret Tryz.prog f_slices_ContainsFunc_Simpl_Inference_impl_Inference #[v, fv] w (.bool ((R.map IV.i).any p)) := by
  have hln := hs.len
  apply c_slices_ContainsFunc_Simpl_Inference_impl_Inference; unfold S_slices_ContainsFunc_Simpl_Inference_impl_Inference
  refine iCall (Cal.mono (R := fun r w' => Ext w w' ∧ ∃ z : Int, r = .int .i64 z ∧ (decide (0 ≤ z) = (R.map IV.i).any p)) ?_ ?_)
  · apply c_slices_IndexFunc_Simpl_Inference_impl_Inference; unfold S_slices_IndexFunc_Simpl_Inference_impl_Inference
    refine iLenK hs ?_
    refine iLp (fun i : Nat => [.int .i64 (i : Int)]) (fun i w' => i ≤ R.length ∧ Ext w w' ∧ ∀ j, j < i → p (gt R j).i = false) (fun i => R.length - i) 0 rfl ⟨Nat.zero_le _, Ext.refl _, fun j hj => absurd hj (Nat.not_lt_zero _)⟩ ?_
    rintro i w2 Kn ⟨hi, h2, hno⟩ hKn
    intro _
    simp only [gx]
    refine iLt (iCndP (fun h => ?_) (fun h => ?_))
    · have hil : i < R.length := by omega
      have hm : gt R i ∈ R := by rw [gt_eq hil]; exact List.getElem_mem _
      refine iAt5 (SlK.ext hs h2) rfl hil ?_
      refine (hf _ hm w2 h2).mono ?_
      rintro u w3 ⟨rfl, x3⟩
      refine iCnd (fun h3 => ?_) (fun h3 => ?_)
      · refine ⟨h2.trans x3, _, rfl, ?_⟩
        rw [decide_eq_true (by omega)]
        exact (List.any_eq_true.2 ⟨(gt R i).i, List.mem_map.2 ⟨_, hm, rfl⟩, h3⟩).symm
      · refine iAdd (by omega) (hKn (i + 1) _ ⟨by omega, h2.trans x3, fun j hj => ?_⟩ (by omega))
        by_cases e : j = i
        · subst e; exact h3
        · exact hno j (by omega)
    · refine ⟨h2, -1, rfl, ?_⟩
      rw [decide_eq_false (by decide)]
      symm
      rw [List.any_eq_false]
      intro g hg
      obtain ⟨x, hx, rfl⟩ := List.mem_map.1 hg
      obtain ⟨j, hj, rfl⟩ := List.getElem_of_mem hx
      have := hno j (by omega)
      rw [gt_eq hj] at this
      simp [this]
  · rintro r w1 ⟨h1, z, rfl, hz⟩
    refine iLe ?_
    rw [hz]
    exact ⟨by first | trivial | rfl, h1⟩
theorem ok_impl_hasLargeLeft {v : Value} {R : List IV} {w : World} (h : RdI w v R) : Ret Tryz.prog f_impl_hasLargeLeft #[v] w (.bool (!(R.map IV.i).all fun x => decide (x.left.length ≤ 12))) := by
  apply c_impl_hasLargeLeft; unfold S_impl_hasLargeLeft
  refine iRet (ok_ContainsFuncInf (p := fun x => !decide (x.left.length ≤ 12)) h.row fun x hx w' x' => iClo rfl ?_) fun w1 x1 => ⟨?_, x1⟩
  · show Cal Tryz.prog f_impl_hasLargeLeft_1 #[.agg x.cs.toArray] w' _
    apply c_impl_hasLargeLeft_1; unfold S_impl_hasLargeLeft_1
    refine iNew5 fun q1 w1 hq1 x1 hB1 => ?_
    have hB1 : Blk t_impl_Inference w1 q1 [.int .i64 (x.i.rule : Int), x.vp, x.vl, sv x.i.right, sv x.i.main] := hB1
    have hl := (h.left x hx).ext (x'.trans x1)
    refine iFa (iLdB hB1 (i := 2) (v := x.vl) rfl (iLenS hl (iLt ⟨?_, x1⟩)))
    rw [strs_len, ← decide_not]
    congr 1
    exact decide_eq_decide.2 (by omega)
  · rw [List.any_eq_not_all_not]
    simp
end Go.Proofs.YteifjhpddhppcaaGreat

/- Contracts: the reference's code for a deduction. Conditions: none. -/
namespace Go.Proofs.YteifjhpddhppcaaGreat
open Go.Vc
theorem ok_spec_l25Bad {R : List DV} {v : Value} {w : World} (hR : R.length ≤ 1000000000) (h : RdD w v R) (hpb : ∀ x ∈ R, x.d.prem.length ≤ 1000000000) : Cal Tryz.prog f_spec_l25Bad #[v] w fun u w' => Ext w w' ∧ ∃ z : Int, u = .int .i64 z ∧ decide (0 ≤ z) = !allGoodD (R.map DV.d) := by
  apply c_spec_l25Bad; unfold S_spec_l25Bad
  refine iLp (fun i : Nat => [.int .i64 (i : Int)]) (fun i w' => i ≤ R.length ∧ Ext w w' ∧ ∀ j, j < i → goodD (R.map DV.d) j = true) (fun i => R.length - i) 0 rfl ⟨Nat.zero_le _, Ext.refl _, fun j hj => absurd hj (Nat.not_lt_zero _)⟩ ?_
  rintro i w2 Kn ⟨hi, x2, hok⟩ hKn
  intro _
  simp only [gx]
  refine iLenK (h.ext x2).row ?_
  refine iLt (iCndP (fun h1 => ?_) (fun h1 => ?_))
  · have hil : i < R.length := by omega
    refine iRet (ok_spec_l25Correct hil hR hok (h.ext x2) hpb) fun w3 x3 => iNot ?_
    have X3 := x2.trans x3
    refine iCnd (fun hb => ?_) (fun hb => ?_)
    · refine ⟨X3, _, rfl, ?_⟩
      have hb : goodD (R.map DV.d) i = false := by simpa using hb
      have : allGoodD (R.map DV.d) = false := by
        unfold allGoodD
        rw [List.all_eq_false]
        exact ⟨i, List.mem_range.2 (by rw [List.length_map]; exact hil), by rw [hb]; simp⟩
      rw [this, decide_eq_true (by omega)]; rfl
    · have hb : goodD (R.map DV.d) i = true := by simpa using hb
      refine iAdd (by omega) (hKn (i + 1) _ ⟨by omega, X3, fun j hj => ?_⟩ (by omega))
      by_cases e : j = i
      · subst e; exact hb
      · exact hok j (by omega)
  · refine ⟨x2, -1, rfl, ?_⟩
    have : allGoodD (R.map DV.d) = true := by
      unfold allGoodD
      rw [List.all_eq_true]
      intro j hj
      rw [List.mem_range, List.length_map] at hj
      exact hok j (by omega)
    rw [this]; rfl
theorem ok_spec_l25Code1 {v va : Value} {R : List DV} {w : World} (hs : Sl w v [va]) (h : RdD w va R) (hpb : ∀ x ∈ R, x.d.prem.length ≤ 1000000000) : Ret Tryz.prog f_spec_l25Code #[v] w (.int .i64 (codeD (R.map DV.d))) := by
  have hl : (R.map DV.d).length = R.length := List.length_map _
  apply c_spec_l25Code; unfold S_spec_l25Code
  refine iLp (fun i : Nat => [.int .i64 (i : Int)]) (fun i w' => i ≤ 1 ∧ Ext w w' ∧ (i = 1 → 1 ≤ R.length ∧ R.length ≤ 120)) (fun i => 1 - i) 0 rfl ⟨Nat.zero_le _, Ext.refl _, fun h => by omega⟩ ?_
  rintro i w2 Kn ⟨hi, h2, hno⟩ hKn
  intro _
  simp only [gx]
  refine iLenS (hs.ext h2) (iLt (iCndP (fun hc => ?_) (fun hc => ?_)))
  · have hi0 : i = 0 := by simp at hc; omega
    subst hi0
    refine iJnB (!decide (1 ≤ R.length ∧ R.length ≤ 120)) w2 (fun J hJ => ?_) (fun w4 x4 => ?_)
    · refine iIa (j := 0) (hs.ext h2) (by omega) (by simp) fun p hp => ?_
      have hp : w2.cell? p = some va := hp
      refine iLd hp (iLenK (h.ext h2).row (iEq (iCndP (fun h0 => ?_) (fun h0 => ?_))))
      · rw [decide_eq_false (by omega)] at hJ
        exact hJ _ (Ext.refl _)
      · refine iIa (j := 0) (hs.ext h2) (by omega) (by simp) fun p hp => ?_
        have hp : w2.cell? p = some va := hp
        refine iLd hp (iLenK (h.ext h2).row (iLt ?_))
        rw [show decide ((120 : Int) < (R.length : Int)) = !decide (1 ≤ R.length ∧ R.length ≤ 120) by rw [← decide_not]; exact decide_eq_decide.2 (by omega)]
        exact hJ _ (Ext.refl _)
    intro _
    simp only [gx]
    refine iCnd (fun hb => ?_) (fun hb => ?_)
    · have hb : ¬ (1 ≤ R.length ∧ R.length ≤ 120) := of_decide_eq_false ((Bool.not_eq_true' _).mp hb)
      refine ⟨?_, h2.trans x4⟩
      unfold codeD
      rw [hl, if_neg hb]
    · have hb : 1 ≤ R.length ∧ R.length ≤ 120 := of_decide_eq_true ((Bool.not_eq_false' _).mp hb)
      refine iAdd (by omega) ?_
      exact hKn 1 _ ⟨Nat.le_refl _, h2.trans x4, fun _ => hb⟩ (by omega)
  have hi1 : i = 1 := by simp at hc; omega
  have hb := hno hi1
  unfold codeD
  rw [hl, if_pos hb]
  refine iLp (fun i : Nat => [.int .i64 (i : Int)]) (fun i w' => i ≤ 1 ∧ Ext w w' ∧ (i = 1 → allGoodD (R.map DV.d) = true)) (fun i => 1 - i) 0 rfl ⟨Nat.zero_le _, h2, fun h => by omega⟩ ?_
  rintro i w6 Kn ⟨hi, h6, hno⟩ hKn
  intro _
  simp only [gx]
  refine iLenS (hs.ext h6) (iLt (iCndP (fun hc => ?_) (fun hc => ?_)))
  · have hi0 : i = 0 := by simp at hc; omega
    subst hi0
    refine iIa (j := 0) (hs.ext h6) (by omega) (by simp) fun p hp => ?_
    have hp : w6.cell? p = some va := hp
    refine iLd hp ?_
    refine iCall ((ok_spec_l25Bad (by omega) (h.ext h6) hpb).mono ?_)
    rintro _ w7 ⟨x7, z, rfl, hz⟩
    refine iLe (iCnd (fun hb => ?_) (fun hb => ?_))
    · rw [hz] at hb
      rw [show allGoodD (R.map DV.d) = false from (Bool.not_eq_true' _).mp hb]
      exact ⟨rfl, h6.trans x7⟩
    · rw [hz] at hb
      refine iAdd (by omega) ?_
      exact hKn 1 _ ⟨Nat.le_refl _, h6.trans x7, fun _ => (Bool.not_eq_false' _).mp hb⟩ (by omega)
  · have hi1 : i = 1 := by simp at hc; omega
    rw [hno hi1]
    exact ⟨rfl, h6⟩
end Go.Proofs.YteifjhpddhppcaaGreat

/- Plain facts on masks: members, images, the count of members. No program in sight. Conditions: none. -/
namespace Go.Vc

/-! ### Members -/

/-! ### Images -/

/-! ### Counting members by the word's own trick -/
end Go.Vc

/- Contracts of the functions on masks, second part: members, images, counts, copies. Conditions: none. -/
namespace Go.Proofs.YteifjhpddhppcaaGreat
open Go.Vc

theorem ok_spec_l01Own {v : Value} {w : World} {l : List Int} (hs : SlI w v l) (hl : l.length ≤ 1099511627776) : Cal Tryz.prog f_spec_l01Own #[v] w fun v' w' => Ext w w' ∧ Ow w.heap.size t_i64 w' v' (ints l) := by
  apply c_spec_l01Own; unfold S_spec_l01Own
  refine iBs0 fun v1 w1 e1 h1 ho => ?_
  refine iApp u_Si64 i_Si64 rfl ho (hs.ext h1) (by simp [ints, isCell]) (by simp [ints]; omega) (by simp [ints]; omega) (by omega) fun v' w2 ho' hg => ?_
  exact ⟨h1.grown hg (fun b hb => (ho.blk b hb).1), by simpa using ho'⟩
end Go.Proofs.YteifjhpddhppcaaGreat

/- Contracts: inferences added behind a proof, in the reference. Conditions: none. -/
namespace Go.Proofs.YteifjhpddhppcaaGreat
open Go.Vc
abbrev SMl (l0 : Nat) (w : World) (b : Nat) (zs : List Value) (Q : List IV) : Prop := SM 42 l0 w b [] zs Q
theorem ok_spec_l27Add {l0 b : Nat} {w : World} {vl vq : Value} {zs : List Value} {Q : List IV} (hM : SMl l0 w b zs Q) {rule : Nat} {L : List Str} {ps : List Nat} {c main : Str} (hl : TxW 0 w vl L) (hp : Ow 0 t_i64 w vq (ints (nats ps))) (hL : L.length ≤ 1000000) (hP : ps.length ≤ 1000000) (hQ : Q.length ≤ 1000000) :
    Cal Tryz.prog f_spec_l27Add #[bp b, .int .i64 (rule : Int), vl, sv c, sv main, vq] w fun u w' => u = .int .i64 (Q.length : Int) ∧ SCh l0 b w w' ∧ ∃ x : IV, x.i = ⟨rule, ps, L, c, main⟩ ∧ SMl l0 w' b zs (Q ++ [x]) := by
  obtain ⟨hlo, vp, hB, hO, hSe⟩ := hM
  apply c_spec_l27Add; unfold S_spec_l27Add
  refine iNil (iFa (iLdB hB (i := 0) (v := vp) rfl ?_))
  intro w1 x1
  refine iCall ((ok_spec_l01Own (Ow.ext hp x1).sl (by rw [nats_length]; omega)).mono ?_)
  rintro rp w2 ⟨x2, hrp⟩
  refine ⟨x2, fun w3 x3 => ?_⟩
  refine iCall ((ok_spec_l11Copy (hl.ext ((x1.trans x2).trans x3)).sl (by omega)).mono ?_)
  rintro rl w4 ⟨x4, hrl⟩
  refine ⟨x4, iBuild5K rfl hrp.cell hrl.cell rfl rfl ?_⟩
  intro w5 x5
  refine iBs15 fun bb w6 hbb x6 hB6 => ⟨x6, fun w7 x7 => ?_⟩
  have X1 : Ext w w4 := ((x1.trans x2).trans x3).trans x4
  have x47 := (x5.trans x6).trans x7
  have X7 := X1.trans x47
  have hO7 := hO.ext X7
  have hB7 := hB.ext X7
  have hwl : l0 ≤ w.heap.size := Nat.le_trans hlo (Nat.le_of_lt hB.lt)
  have hrp7 : Ow l0 t_i64 w7 rp (ints (nats ps)) := (hrp.ext ((x3.trans x4).trans x47)).mono (Nat.le_trans hwl x1.size)
  have hrl7 : Ow l0 t_string w7 rl (strs L) := (hrl.ext x47).mono (Nat.le_trans hwl ((x1.trans x2).trans x3).size)
  have hsl : SlK 5 w7 (.slice (some ⟨bb, 0, none⟩) 1 1) 1 (IV.cs ⟨⟨rule, ps, L, c, main⟩, rp, rl⟩) := SlK.ofBlk (hB6.ext x7) rfl (by decide)
  refine iAppK u_Simpl_Inference i_Simpl_Inference rfl (by decide) hO7.row hsl (fun y hy => by
    simp only [IV.cs, List.mem_cons, List.not_mem_nil, or_false] at hy
    rcases hy with rfl | rfl | rfl | rfl | rfl
    · rfl
    · exact hrp.cell
    · exact hrl.cell
    · rfl
    · rfl) (by omega) (by omega) (Nat.le_trans hwl X7.size) fun vp' w8 hrow8 hg8 hat8 => ?_
  have hch8 := grown_ch (S := fun k => vp.ownBlock = some k) hg8 fun k hk => hk
  have hB8 := hB7.grown hg8 (fun e => owk_no hO7.row hB7 (by decide) e)
  have hO8 : OwI l0 w8 vp' (Q ++ [⟨⟨rule, ps, L, c, main⟩, rp, rl⟩]) := hO7.snoc hg8 hrow8 hrp7 hrl7 (fun j hj k hk hk' => by
    have h1 := ((hO.prem j hj).blk k hk).2
    have h2 := (hrp.blk k hk').1
    have := x1.size
    omega) (fun j hj k hk hk' => by
    have h1 := ((hO.left j hj).blk k hk).2
    have h2 := (hrl.blk k hk').1
    have := ((x1.trans x2).trans x3).size
    omega)
  refine iNil (iFa ?_)
  intro w9 x9
  have hB9 := hB8.ext x9
  refine iStB (i := 0) hB9 (by simp) hrow8.cell fun hB10 => ?_
  have hch10 := (Upd.setCell w9 b 0 vp').ch (S := fun k => k = b) rfl
  generalize w9.setCell ⟨b, 0, none⟩ vp' = w10 at *
  intro w11 x11
  have hB10 : Blk 42 w10 b [vp'] := hB10
  have hO9 := hO8.ext x9
  have ne9 : ∀ {e : TypeId} {k : Nat} {xs : List Value} {u : Value}, e ≠ 42 → Ow l0 e w9 u xs → Ow l0 e w10 u xs := fun hne h => h.ch hch10 fun c hc hS => h.ne_blk hB9 hne (by have hS : c = b := hS; rw [hc, hS])
  have hO10 : OwI l0 w10 vp' (Q ++ [⟨⟨rule, ps, L, c, main⟩, rp, rl⟩]) := ⟨OwK.ch hO9.row hch10 fun k hk hS => owk_no hO9.row hB9 (by decide) (by have hS : k = b := hS; rw [hk, hS]), fun j hj => ne9 (k := 0) (by decide) (hO9.prem j hj), fun j hj => ne9 (k := 0) (by decide) (hO9.left j hj), hO9.dp, hO9.dl⟩
  have hO11 := hO10.ext x11
  have hB11 := hB10.ext x11
  refine iNil (iFa (iLdB hB11 (i := 0) (v := vp') rfl ?_))
  refine iLenK hO11.row.sl ?_
  rw [List.length_append, List.length_singleton]
  refine iSub (by omega) ?_
  have hfin := ((((SCh.ext (b := b) X7).trans (SCh.row hO7.row hch8)).trans (SCh.ext x9)).trans (SCh.blk hch10)).trans (SCh.ext x11)
  refine ⟨by congr 1; omega, hfin, _, rfl, hlo, vp', hB11, hO11, hSe.snoc hfin.size fun c hc => Nat.le_trans x1.size (hrp.blk c hc).1⟩
end Go.Proofs.YteifjhpddhppcaaGreat

/- Contracts: the reference's inferences for one step. Conditions: none. -/
namespace Go.Vc
theorem RF.cnt {P : List Ded} {s : Ded} (h : RF P s) : countD s.rule = (s.prem.length : Int) := by
  unfold countD
  cases h with
  | r1 e ep => rw [if_pos e, ep]; rfl
  | r2 _ e ep => rw [if_neg (by omega), if_pos (by omega), ep]; rfl
  | r3 _ _ _ e ep => rw [if_neg (by omega), if_neg (by omega), if_pos (by omega), ep]; rfl
  | r4 _ _ e ep => rw [if_neg (by omega), if_pos (by omega), ep]; rfl
  | r5 _ _ e ep => rw [if_neg (by omega), if_pos (by omega), ep]; rfl
  | r6 _ _ e ep => rw [if_neg (by omega), if_pos (by omega), ep]; rfl
  | r7 _ _ e ep => rw [if_neg (by omega), if_pos (by omega), ep]; rfl
  | r8 _ _ _ _ e ep => rw [if_neg (by omega), if_neg (by omega), if_neg (by omega), if_pos e, ep]; rfl
  | r9 _ _ e ep => rw [if_neg (by omega), if_pos (by omega), ep]; rfl
  | r10 _ _ _ e ep => rw [if_neg (by omega), if_neg (by omega), if_pos (by omega), ep]; rfl
end Go.Vc
namespace Go.Proofs.YteifjhpddhppcaaGreat
open Go.Vc
def MadeL (l0 b : Nat) (zs : List Value) (Q : List IV) (M : List Inf) (w : World) : Value → World → Prop := fun u w' => SCh l0 b w w' ∧ ∃ RQ : List IV, RQ.map IV.i = M ∧ SMl l0 w' b zs (Q ++ RQ) ∧ u = .int .i64 ((Q.length + M.length - 1 : Nat) : Int)
theorem inc_addT (L : List Str) (t : Str) : Inc (addT L t) := inc_setT _
theorem ok_spec_l27Step {l0 b : Nat} {w : World} {v1 v3 : Value} {zs : List Value} {Q : List IV} {R : List DV} {j : Nat} {g : List Nat} {a : Str} (hM : SMl l0 w b zs Q) (hR : RdD w v1 R) (hj : j < R.length) (hall : ∀ i, i < R.length → goodD (R.map DV.d) i = true) (hg : Ow 0 t_i64 w v3 (ints (nats g))) (hgl : g.length = (gt R j).d.prem.length) (ha : (gt (R.map DV.d) (gt (gt R j).d.prem 0).toNat).con = a) (hQ : Q.length ≤ 10000) :
    Cal Tryz.prog f_spec_l27Step #[bp b, v1, .agg (gt R j).cs.toArray, v3] w (MadeL l0 b zs Q (makeD Q.length (gt R j).d g a) w) := by
  have hmem : gt R j ∈ R := by rw [gt_eq hj]; exact List.getElem_mem hj
  have hx := hR.prem _ hmem
  have hxl := hR.asm _ hmem
  obtain ⟨hsh, hin, hrf⟩ := goodD_iff (hall j hj)
  have hplt : ∀ i, i < R.length → plT (gt R i).d.con = true := fun i hi => by
    have := (goodD_iff (hall i hi)).1
    rw [gt_mapD hi] at this
    exact (shapeD_at this).2.2
  rw [gt_mapD hj] at hsh hin hrf
  obtain ⟨hL, hpl, hcp⟩ := shapeD_at hsh
  have hxl : SlT w (gt R j).vl (gt R j).d.asm := hxl
  generalize gt R j = x at *
  have con : ∀ {q : Int}, gt x.d.prem 0 = q → (gt (R.map DV.d) q.toNat).con = a := fun e => by rw [← e]; exact ha
  have hinm : ∀ q ∈ x.d.prem, 0 ≤ q ∧ q.toNat < R.length := fun q hq => by
    obtain ⟨h1, h2⟩ := inD_mem hin hq
    omega
  obtain ⟨hlo, vp, hB, hO⟩ := id hM
  have ad : ∀ {w' : World} {Q' : List IV} {rule : Nat} {v v2 : Value} {L : List Str} {ps : List Nat} {c main : Str} {K : Value → World → Prop}, SMl l0 w' b zs Q' → TxW 0 w' v L → Ow 0 t_i64 w' v2 (ints (nats ps)) → L.length ≤ 100 → ps.length ≤ 100 → Q'.length ≤ 200000 → (∀ w'' x', SCh l0 b w' w'' → x'.i = ⟨rule, ps, L, c, main⟩ → SMl l0 w'' b zs (Q' ++ [x']) → K (.int .i64 ((Q'.length : Nat) : Int)) w'') → callV Tryz.prog (.func (.func f_spec_l27Add) #[] #[]) [bp b, .int .i64 (rule : Int), v, sv c, sv main, v2] w' K := fun {w' Q' rule v v2 L ps c main K} h1 h2 h3 h4 h5 h6 h => by
    refine iCall ((ok_spec_l27Add h1 h2 h3 (by omega) (by omega) (by omega)).mono ?_)
    rintro _ w'' ⟨rfl, hs, x', hx', hM'⟩
    exact h w'' x' hs hx' hM'
  have kp : ∀ {w' w'' : World} {Q' : List IV} {e : TypeId} {u : Value} {xs : List Value}, SMl l0 w' b zs Q' → SCh l0 b w' w'' → e ≠ 42 → e ≠ t_impl_Inference → Ow 0 e w' u xs → Ow 0 e w'' u xs := fun h1 h2 h3 h4 h => by
    obtain ⟨-, vp, hBm, -⟩ := h1
    exact Ow.sch h h2 hBm h3 h4
  have two : ∀ {w' : World} {c : Nat} {m n : Nat}, Blk t_i64 w' c [.int .i64 (m : Int), .int .i64 (n : Int)] → Ow 0 t_i64 w' (.slice (some ⟨c, 0, none⟩) 2 2) (ints (nats [m, n])) := fun h => Ow.ofBlk (n := 2) h (Nat.zero_le _) rfl (by decide)
  have one : ∀ {w' : World} {c : Nat} {m : Nat}, Blk t_i64 w' c [.int .i64 (m : Int)] → Ow 0 t_i64 w' (.slice (some ⟨c, 0, none⟩) 1 1) (ints (nats [m])) := fun h => Ow.ofBlk (n := 1) h (Nat.zero_le _) rfl (by decide)
  have ins : ∀ {w' : World} {v : Value} {L : List Str} {t : Str} {K : Value → World → Prop}, TxW 0 w' v L → Inc L → L.length ≤ 100 → (∀ u w'', Ext w' w'' → TxW 0 w'' u (addT L t) → K u w'') → callV Tryz.prog (.func (.func f_spec_l02Insert) #[] #[]) [v, sv t] w' K := fun {w' v L t K} h1 h2 h3 h => by
    refine iCall ((ok_spec_l02Insert (t := t) h1 (Nat.zero_le _) (by omega)).mono ?_)
    rintro u w'' ⟨x', hu⟩
    refine h u w'' x' ?_
    rw [addT_ins h2]
    exact hu.mono (Nat.zero_le _)
  apply c_spec_l27Step; unfold S_spec_l27Step
  refine iNew5 fun q1 w1 hq1 x1 hB1 => ?_
  have hB1 : Blk t_impl_Deduction w1 q1 [.int .i64 x.d.rule, x.vp, x.vl, sv x.d.con, .int .i64 x.d.num] := hB1
  refine iFa (iLdB hB1 (i := 2) (v := x.vl) rfl ?_)
  refine iFa (iLdB hB1 (i := 3) (v := sv x.d.con) rfl ?_)
  intro w2 x2
  refine iCall ((ok_spec_l27Set (Sl.ext hxl (x1.trans x2)) (by omega)).mono ?_)
  rintro v30 w3 ⟨x3, hl3⟩
  refine ⟨x3, fun w4 x4 => ?_⟩
  have X4 := ((x1.trans x2).trans x3).trans x4
  have x14 := (x2.trans x3).trans x4
  have hl4 : TxW 0 w4 v30 (setT x.d.asm) := (Ow.ext hl3 x4).mono (Nat.zero_le _)
  have hB14 := hB1.ext x14
  have pm : ∀ {i : Nat} {w' : World} {K : Value → Prop}, Ext w w' → i < x.d.prem.length → K (sv (gt (R.map DV.d) (gt x.d.prem i).toNat).con) → xIa 1 x.vp (.int .i64 (i : Int)) fun p => xLd w' p fun v41 => xIa 5 v1 v41 fun v42 => xFa 3 v42 fun v43 => xLd w' v43 K := fun {i w' K} X hi h => by
    refine iIaN (SlI.ext hx X) hi fun p hp => iLd hp ?_
    have e : x.d.prem.getD i 0 = gt x.d.prem i := rfl
    rw [e]
    have hq := hinm (gt x.d.prem i) (by rw [gt_eq hi]; exact List.getElem_mem hi)
    generalize gt x.d.prem i = q at *
    obtain ⟨m, rfl⟩ := Int.eq_ofNat_of_zero_le hq.1
    rw [Int.toNat_natCast] at h hq
    rw [gt_mapD hq.2] at h
    exact iFld5 (hR.ext X).row hq.2 (by decide) (cellsD_at hq.2 3 (by decide)) h
  refine iFa (iLdB hB14 (i := 1) (v := x.vp) rfl (iLenI (SlI.ext hx X4) (iLt ?_)))
  refine iJnX (fun xs w' => xs = [sv (if 1 ≤ x.d.prem.length then a else [])] ∧ w' = w4) (fun J hJ => ?_) ?_
  · refine iCndP (fun h => ?_) (fun h => ?_)
    · rw [if_pos (by omega)] at hJ
      refine iFa (iLdB hB14 (i := 1) (v := x.vp) rfl ?_)
      refine pm (i := 0) X4 (by omega) ?_
      rw [ha]
      exact hJ _ _ ⟨rfl, rfl⟩
    · rw [if_neg (by omega)] at hJ
      exact hJ _ _ ⟨rfl, rfl⟩
  rintro _ w6 ⟨rfl, rfl⟩
  intro _
  simp only [gx]
  show callV Tryz.prog (.func (.func f_spec_l02Insert) #[] #[]) [v30, sv (if 1 ≤ x.d.prem.length then a else [])] w6 _
  have hSl : (setT x.d.asm).length ≤ 12 := Nat.le_trans (setT_len _) hL
  have hama : 1 ≤ x.d.prem.length → (if 1 ≤ x.d.prem.length then a else []) = a := fun h => if_pos h
  generalize (if 1 ≤ x.d.prem.length then a else []) = am at *
  refine ins hl4 (inc_setT _) (by omega) fun v47 w7 x7 hW => ?_
  have X7 := X4.trans x7
  have hl7 := Ow.ext hl4 x7
  have hM7 := hM.ext X7
  have hg7 := hg.ext X7
  have hB17 := hB14.ext x7
  have hWl : (addT (setT x.d.asm) am).length ≤ 13 := by have := addT_len (setT x.d.asm) am; omega
  have hx7 := SlI.ext hx X7
  have mk : ∀ {P : Prop} [Decidable P] {A B : List Inf}, P → (if P then A else B) = A := fun h => if_pos h
  have mn : ∀ {P : Prop} [Decidable P] {A B : List Inf}, ¬ P → (if P then A else B) = B := fun h => if_neg h
  have fin : ∀ {w' w'' : World} {rule : Nat} {ps : List Nat} {v2 : Value} {K : Value → World → Prop}, Ext w7 w' → Ow 0 t_i64 w' v2 (ints (nats ps)) → ps.length ≤ 100 → makeD Q.length x.d g a = [⟨rule, ps, setT x.d.asm, x.d.con, []⟩] → (∀ u w'', MadeL l0 b zs Q (makeD Q.length x.d g a) w u w'' → K u w'') → callV Tryz.prog (.func (.func f_spec_l27Add) #[] #[]) [bp b, .int .i64 (rule : Int), v30, sv x.d.con, .string ⟨#[]⟩, v2] w' K := fun {w' w'' rule ps v2 K} X h1 h2 h3 h4 => by
    refine ad (main := []) (hM7.ext X) (Ow.ext hl7 X) h1 (by omega) (by omega) (by omega) fun w'' x' hs hx' hM' => h4 _ _ ?_
    refine ⟨(SCh.ext (X7.trans X)).trans hs, [x'], ?_, hM', ?_⟩
    · rw [h3, List.map_singleton, hx']
    · rw [h3]; rfl
  refine iFa (iLdB hB17 (i := 0) (v := .int .i64 x.d.rule) rfl ?_)
  refine iEq (iCndP (fun h1 => ?_) (fun h1 => ?_))
  · exact fin (w'' := w7) (rule := 1) (ps := []) (Ext.refl _) (Ow.nil _ _ _) (by simp) (by unfold makeD; exact mk h1) fun u w'' h => h
  have hcnt := hrf.cnt
  have hone : x.d.rule = 2 ∨ x.d.rule = 4 ∨ x.d.rule = 5 ∨ x.d.rule = 6 ∨ x.d.rule = 7 ∨ x.d.rule = 9 → x.d.prem.length = 1 := fun h => by
    unfold countD at hcnt; rw [if_neg h1, if_pos h] at hcnt; omega
  have htwo : x.d.rule = 3 ∨ x.d.rule = 10 → x.d.prem.length = 2 := fun h => by
    unfold countD at hcnt; rw [if_neg h1, if_neg (by omega), if_pos h] at hcnt; omega
  have hthr : x.d.rule = 8 → x.d.prem.length = 3 := fun h => by
    unfold countD at hcnt; rw [if_neg h1, if_neg (by omega), if_neg (by omega), if_pos h] at hcnt; omega
  have hprem : 1 ≤ x.d.prem.length := by
    by_cases h : x.d.prem.length = 0
    · rw [h] at hcnt
      unfold countD at hcnt
      rw [if_neg h1] at hcnt
      split at hcnt
      · omega
      · split at hcnt
        · omega
        · split at hcnt <;> omega
    · omega
  have hama := hama hprem
  subst hama
  have g1 : g.length = 1 → g = [gt g 0] := fun h => by
    match g, h with
    | [m], _ => rfl
  refine iEq (iCndP (fun h3 => ?_) (fun h3 => ?_))
  · have hg2 : g.length = 2 := hgl.trans (htwo (.inl h3))
    have hge : g = [gt g 0, gt g 1] := by
      match g, hg2 with
      | [m, n], _ => rfl
    refine iJnX (fun xs w' => ∃ u, xs = [u] ∧ MadeL l0 b zs Q (makeD Q.length x.d g am) w u w') (fun J hJ => ?_) ?_
    · refine iIaG1 (j := 0) hg7 (by omega) (iIaG1 (j := 1) hg7 (by omega) ?_)
      intro w11 x11
      refine iBs2 rfl rfl rfl fun c w12 _ x12 hB12 => ?_
      intro w13 x13
      have xx := (x11.trans x12).trans x13
      refine fin (w'' := w7) (rule := 4) xx (two (hB12.ext x13)) (by simp) (by rw [← hge]; unfold makeD; exact (mn h1).trans ((mn (by omega)).trans (mk h3))) fun u w'' h => ?_
      obtain ⟨e1, RQ, e2, e3, e4⟩ := h
      intro w15 x15
      exact hJ _ _ ⟨u, rfl, e1.trans (SCh.ext x15), RQ, e2, e3.ext x15, e4⟩
    · rintro _ w' ⟨u, rfl, h⟩
      exact fun _ => h
  refine iEq (iCndP (fun h6 => ?_) (fun h6 => ?_))
  · have hge := g1 (hgl.trans (hone (by omega)))
    refine iIaG1 (j := 0) hg7 (by omega) ?_
    refine iBs1 rfl rfl fun c w12 _ x12 hB12 => ?_
    exact fin (w'' := w7) (rule := 6) x12 (one hB12) (by simp) (by rw [← hge]; unfold makeD; exact (mn h1).trans ((mn (by omega)).trans ((mn h3).trans ((mn (by omega)).trans (mk h6))))) fun u w'' h => h
  refine iEq (iCndP (fun h7 => ?_) (fun h7 => ?_))
  · have hge := g1 (hgl.trans (hone (by omega)))
    refine iIaG1 (j := 0) hg7 (by omega) ?_
    refine iBs1 rfl rfl fun c w12 _ x12 hB12 => ?_
    exact fin (w'' := w7) (rule := 7) x12 (one hB12) (by simp) (by rw [← hge]; unfold makeD; exact (mn h1).trans ((mn (by omega)).trans ((mn h3).trans ((mn (by omega)).trans ((mn h6).trans (mk h7)))))) fun u w'' h => h
  refine iEq (iCndP (fun h9 => ?_) (fun h9 => ?_))
  · have hge := g1 (hgl.trans (hone (by omega)))
    refine iIaG1 (j := 0) hg7 (by omega) ?_
    refine iBs1 rfl rfl fun c w12 _ x12 hB12 => ?_
    exact fin (w'' := w7) (rule := 9) x12 (one hB12) (by simp) (by rw [← hge]; unfold makeD; exact (mn h1).trans ((mn (by omega)).trans ((mn h3).trans ((mn (by omega)).trans ((mn h6).trans ((mn h7).trans ((mn (by omega)).trans (mk h9)))))))) fun u w'' h => h
  -- the last inference: a cut
  have cut : ∀ {w' : World} {M : List Inf} {RQ : List IV} {K : Value → World → Prop}, 0 < M.length → M.length ≤ 3 → makeD Q.length x.d g am = M ++ [⟨11, [gt g 0, Q.length + M.length - 1], setT x.d.asm, x.d.con, am⟩] → RQ.map IV.i = M → SCh l0 b w7 w' → SMl l0 w' b zs (Q ++ RQ) → (∀ u w'', MadeL l0 b zs Q (makeD Q.length x.d g am) w u w'' → K u w'') →
      xIa 1 v3 (.int .i64 0) fun p => xLd w' p fun v => xBs t_i64 (Value.cells (.int .i64 0)) 1 2 [(0, v), (1, .int .i64 ((Q.length + M.length - 1 : Nat) : Int))] w' fun u2 w2 => callV Tryz.prog (.func (.func f_spec_l27Add) #[] #[]) [bp b, .int .i64 11, v30, sv x.d.con, sv am, u2] w2 K := fun {w' M RQ K} h0 h3 hm hR hs hM' h => by
    have hRl : RQ.length = M.length := by rw [← hR, List.length_map]
    refine iIaG1 (j := 0) (kp hM7 hs (by decide) (by decide) hg7) (by omega) ?_
    refine iBs2 rfl rfl rfl fun c w13 _ x13 hB13 => ?_
    refine ad (rule := 11) (hM'.ext x13) (Ow.ext (kp hM7 hs (by decide) (by decide) hl7) x13) (two hB13) (by omega) (by simp) (by rw [List.length_append]; omega) fun w14 x' hs14 hx' hM14 => h _ _ ?_
    refine ⟨((SCh.ext X7).trans (hs.trans (SCh.ext x13))).trans hs14, RQ ++ [x'], ?_, by rw [← List.append_assoc]; exact hM14, ?_⟩
    · rw [hm, List.map_append, hR, List.map_singleton, hx']
    · rw [hm]
      simp only [List.length_append, List.length_singleton, hRl]
      congr 2
  refine iEq (iCndP (fun h2 => ?_) (fun h2 => ?_))
  · have hF : am = Fm.fls.body := by
      cases hrf with
      | r2 q _ ep e => rw [← con (q := q) (by rw [ep]; rfl)]; exact congrArg Prod.snd e
      | r1 e => exact absurd e h1
      | r3 _ _ _ e => exact absurd e h3
      | r4 _ _ e => omega
      | r5 _ _ e => omega
      | r6 _ _ e => exact absurd e h6
      | r7 _ _ e => exact absurd e h7
      | r8 _ _ _ _ e => omega
      | r9 _ _ e => exact absurd e h9
      | r10 _ _ _ e => omega
    have hmk : makeD Q.length x.d g am = [⟨2, [], addT (setT x.d.asm) am, x.d.con, []⟩] ++ [⟨11, [gt g 0, Q.length], setT x.d.asm, x.d.con, am⟩] := by
      rw [hF]; unfold makeD; exact (mn h1).trans (mk h2)
    refine ad (rule := 2) (ps := []) (main := []) hM7 hW (Ow.nil _ _ _) (by omega) (by simp) (by omega) fun w22 y hs hy hM22 => ?_
    exact cut (M := [⟨2, [], addT (setT x.d.asm) am, x.d.con, []⟩]) (RQ := [y]) (by simp) (by simp) hmk (by rw [List.map_singleton, hy]) hs hM22 fun u w'' h => h
  refine iEq ?_
  refine iJnX (fun xs w' => xs = [.bool (decide (x.d.rule = 4 ∨ x.d.rule = 5))] ∧ w' = w7) (fun J hJ => ?_) ?_
  · refine iCndP (fun h4 => ?_) (fun h4 => ?_)
    · rw [decide_eq_true (.inl h4)] at hJ
      exact hJ _ _ ⟨rfl, rfl⟩
    · refine iEq (hJ _ _ ⟨?_, rfl⟩)
      rw [show decide (x.d.rule = 4 ∨ x.d.rule = 5) = decide (x.d.rule = 5) from decide_eq_decide.2 ⟨fun e => e.resolve_left h4, .inr⟩]
  rintro _ w26 ⟨rfl, rfl⟩
  intro _
  show cnd (.bool (decide (x.d.rule = 4 ∨ x.d.rule = 5))) _ _
  have hpa : plT am = true := by
    have hq := hinm (gt x.d.prem 0) (by rw [gt_eq hprem]; exact List.getElem_mem hprem)
    rw [← ha, gt_mapD hq.2]
    exact hplt _ hq.2
  refine iCndP (fun h45 => ?_) (fun h45 => ?_)
  · obtain ⟨p, hp⟩ : ∃ p, parK am 2 = some p := by
      cases hrf with
      | r4 q p e ep _ hp => exact ⟨p, by rw [← con (q := q) (by rw [ep]; rfl)]; exact hp⟩
      | r5 q p e ep _ hp => exact ⟨p, by rw [← con (q := q) (by rw [ep]; rfl)]; exact hp⟩
      | r1 e => exact absurd e h1
      | r2 _ e => exact absurd e h2
      | r3 _ _ _ e => exact absurd e h3
      | r6 _ _ e => exact absurd e h6
      | r7 _ _ e => exact absurd e h7
      | r8 _ _ _ _ e => omega
      | r9 _ _ e => exact absurd e h9
      | r10 _ _ _ e => omega
    refine iParts hpa (k := 2) (.inl rfl) (fun e => by rw [hp] at e; cases e) (fun p' e w27 x27 => ?_)
    have e' : p' = p := by rw [hp] at e; cases e; rfl
    subst e'
    refine ins (Ow.ext hW x27) (inc_addT _ _) (by omega) fun v127 w28 x28 h127 => ?_
    have hl1 : (addT (addT (setT x.d.asm) am) p'.1).length ≤ 14 := by have := addT_len (addT (setT x.d.asm) am) p'.1; omega
    refine ins h127 (inc_addT _ _) (by omega) fun v129 w29 x29 h129 => ?_
    have hl2 : (addT (addT (addT (setT x.d.asm) am) p'.1) p'.2).length ≤ 15 := by have := addT_len (addT (addT (setT x.d.asm) am) p'.1) p'.2; omega
    have X29 := (x27.trans x28).trans x29
    refine ad (rule := 1) (ps := []) (main := []) (hM7.ext X29) h129 (Ow.nil _ _ _) (by omega) (by simp) (by omega) fun w30 y1 hs30 hy1 hM30 => ?_
    have hW30 := kp (hM7.ext X29) hs30 (by decide) (by decide) (Ow.ext hW X29)
    refine iBs1 rfl rfl fun c w31 _ x31 hB31 => ?_
    refine ad (rule := 3) (hM30.ext x31) (Ow.ext hW30 x31) (one hB31) (by omega) (by simp) (by rw [List.length_append]; simp; omega) fun w32 y2 hs32 hy2 hM32 => ?_
    have hmk : makeD Q.length x.d g am = [⟨1, [], addT (addT (addT (setT x.d.asm) am) p'.1) p'.2, x.d.con, []⟩, ⟨3, [Q.length], addT (setT x.d.asm) am, x.d.con, am⟩] ++ [⟨11, [gt g 0, Q.length + 1], setT x.d.asm, x.d.con, am⟩] := by
      rw [makeD_four h45 hp, addT_two]; rfl
    have := cut (K := MadeL l0 b zs Q (makeD Q.length x.d g am) w) (RQ := [y1, y2]) (by simp) (by simp) hmk (by rw [List.map_cons, List.map_singleton, hy1, hy2]) (((SCh.ext X29).trans hs30).trans ((SCh.ext x31).trans hs32)) (by rw [List.append_assoc] at hM32; exact hM32) fun u w'' h => h
    rw [List.length_append]
    exact this
  refine iEq (iCndP (fun h8 => ?_) (fun h8 => ?_))
  · obtain ⟨p, hp⟩ : ∃ p, parK am 3 = some p := by
      cases hrf with
      | r8 q q' q'' p e ep _ hp => exact ⟨p, by rw [← con (q := q) (by rw [ep]; rfl)]; exact hp⟩
      | r1 e => exact absurd e h1
      | r2 _ e => exact absurd e h2
      | r3 _ _ _ e => exact absurd e h3
      | r4 _ _ e => omega
      | r5 _ _ e => omega
      | r6 _ _ e => exact absurd e h6
      | r7 _ _ e => exact absurd e h7
      | r9 _ _ e => exact absurd e h9
      | r10 _ _ _ e => omega
    have hg3 : g.length = 3 := hgl.trans (hthr h8)
    refine iParts hpa (k := 3) (.inr (.inl rfl)) (fun e => by rw [hp] at e; cases e) (fun p' e w35 x35 => ?_)
    have e' : p' = p := by rw [hp] at e; cases e; rfl
    subst e'
    have weak : ∀ {w0 : World} {Q0 : List IV} {i : Nat} {t : Str} {K : List Value → World → Prop}, SMl l0 w0 b zs Q0 → TxW 0 w0 v47 (addT (setT x.d.asm) am) → Ow 0 t_i64 w0 v3 (ints (nats g)) → i < g.length → Q0.length ≤ 20000 → (∀ w' y, SCh l0 b w0 w' → y.i = ⟨10, [gt g i], addT (addT (setT x.d.asm) am) t, x.d.con, []⟩ → SMl l0 w' b zs (Q0 ++ [y]) → K [.int .i64 ((Q0.length : Nat) : Int)] w') →
        jn (fun J => xIa 1 v3 (.int .i64 (i : Int)) fun p => xLd w0 p fun v164 => ∀ w38, Ext w0 w38 → (callV Tryz.prog (.func (.func f_spec_l02Insert) #[] #[]) [v47, sv t] w38 fun v160 w39 => Ext w38 w39 ∧ ∀ w40, Ext w39 w40 → xBs t_i64 (Value.cells (.int .i64 0)) 1 1 [(0, v164)] w40 fun v165 w41 => ∀ w42, Ext w41 w42 → callV Tryz.prog (.func (.func f_spec_l27Add) #[] #[]) [bp b, .int .i64 10, v160, sv x.d.con, .string ⟨#[]⟩, v165] w42 fun v166 w43 => ∀ w44, Ext w43 w44 → J [v166] w44) ∧
          (xBs t_i64 (Value.cells (.int .i64 0)) 1 1 [(0, v164)] w38 fun v165 w45 => ∀ w46, Ext w45 w46 → callV Tryz.prog (.func (.func f_spec_l02Insert) #[] #[]) [v47, sv t] w46 fun v160 w47 => Ext w46 w47 ∧ ∀ w48, Ext w47 w48 → callV Tryz.prog (.func (.func f_spec_l27Add) #[] #[]) [bp b, .int .i64 10, v160, sv x.d.con, .string ⟨#[]⟩, v165] w48 fun v166 w49 => ∀ w50, Ext w49 w50 → J [v166] w50)) K := fun {w0 Q0 i t K} h1 h2 h3 h4 h5 h => by
      have hal : (addT (addT (setT x.d.asm) am) t).length ≤ 14 := by have := addT_len (addT (setT x.d.asm) am) t; omega
      refine iJnX (fun xs w' => xs = [.int .i64 ((Q0.length : Nat) : Int)] ∧ SCh l0 b w0 w' ∧ ∃ y : IV, y.i = ⟨10, [gt g i], addT (addT (setT x.d.asm) am) t, x.d.con, []⟩ ∧ SMl l0 w' b zs (Q0 ++ [y])) (fun J hJ => ?_) (fun xs w' hC => by obtain ⟨rfl, e1, y, e2, e3⟩ := hC; exact h w' y e1 e2 e3)
      have go : ∀ {w' : World} {u v2 : Value}, Ext w0 w' → TxW 0 w' u (addT (addT (setT x.d.asm) am) t) → Ow 0 t_i64 w' v2 (ints (nats [gt g i])) → callV Tryz.prog (.func (.func f_spec_l27Add) #[] #[]) [bp b, .int .i64 10, u, sv x.d.con, .string ⟨#[]⟩, v2] w' fun v86 w28 => ∀ w29, Ext w28 w29 → J [v86] w29 := fun {w' u v2} hx hu hv => by
        refine ad (rule := 10) (main := []) (h1.ext hx) hu hv (by omega) (by simp) (by omega) fun w'' y hs hy hM' => ?_
        intro w29 x29
        exact hJ _ _ ⟨rfl, ((SCh.ext hx).trans hs).trans (SCh.ext x29), y, hy, hM'.ext x29⟩
      refine iIaG1 h3 h4 ?_
      intro w38 x38
      refine ⟨?_, ?_⟩
      · refine ins (Ow.ext h2 x38) (inc_addT _ _) (by omega) fun u w39 x39 hu => ⟨x39, fun w40 x40 => ?_⟩
        refine iBs1 rfl rfl fun c w41 _ x41 hB41 => ?_
        intro w42 x42
        have xx := (x40.trans x41).trans x42
        exact go ((x38.trans x39).trans xx) (Ow.ext hu xx) (one (hB41.ext x42))
      · refine iBs1 rfl rfl fun c w41 _ x41 hB41 => ?_
        intro w42 x42
        have X42 := (x38.trans x41).trans x42
        refine ins (Ow.ext h2 X42) (inc_addT _ _) (by omega) fun u w39 x39 hu => ⟨x39, fun w40 x40 => ?_⟩
        exact go ((X42.trans x39).trans x40) (Ow.ext hu x40) (one (hB41.ext ((x42.trans x39).trans x40)))
    refine weak (i := 1) (hM7.ext x35) (Ow.ext hW x35) (Ow.ext hg7 x35) (by omega) (by omega) fun w37 y1 hs37 hy1 hM37 => ?_
    intro _
    have hW37 := kp (hM7.ext x35) hs37 (by decide) (by decide) (Ow.ext hW x35)
    have hg37 := kp (hM7.ext x35) hs37 (by decide) (by decide) (Ow.ext hg7 x35)
    have hQ1 : (Q ++ [y1]).length = Q.length + 1 := by rw [List.length_append]; rfl
    refine weak (i := 2) hM37 hW37 hg37 (by omega) (by omega) fun w52 y2 hs52 hy2 hM52 => ?_
    intro _
    simp only [gx]
    have hW52 := kp hM37 hs52 (by decide) (by decide) hW37
    rw [hQ1]
    refine iBs2 rfl rfl rfl fun c w66 _ x66 hB66 => ?_
    refine ad (rule := 5) (hM52.ext x66) (Ow.ext hW52 x66) (two hB66) (by omega) (by simp) (by rw [List.length_append, hQ1]; simp; omega) fun w67 y3 hs67 hy3 hM67 => ?_
    have hmk : makeD Q.length x.d g am = [⟨10, [gt g 1], addT (addT (setT x.d.asm) am) p'.1, x.d.con, []⟩, ⟨10, [gt g 2], addT (addT (setT x.d.asm) am) p'.2, x.d.con, []⟩, ⟨5, [Q.length, Q.length + 1], addT (setT x.d.asm) am, x.d.con, am⟩] ++ [⟨11, [gt g 0, Q.length + 2], setT x.d.asm, x.d.con, am⟩] := by
      rw [makeD_eight h8 hp]; rfl
    have := cut (K := MadeL l0 b zs Q (makeD Q.length x.d g am) w) (RQ := [y1, y2, y3]) (by simp) (by simp) hmk (by rw [List.map_cons, List.map_cons, List.map_singleton, hy1, hy2, hy3]) ((((SCh.ext x35).trans hs37).trans hs52).trans ((SCh.ext x66).trans hs67)) (by simpa using hM67) fun u w'' h => h
    rw [List.length_append, hQ1]
    exact this
  obtain ⟨h10, p, hp, hp1, hp2⟩ : x.d.rule = 10 ∧ ∃ p, parK am 4 = some p ∧ (gt (R.map DV.d) (gt x.d.prem 1).toNat).con = p.1 ∧ p.2 = x.d.con := by
    cases hrf with
    | r10 q q' p e ep _ hp e2 e3 => exact ⟨e, p, by rw [← con (q := q) (by rw [ep]; rfl)]; exact hp, by rw [ep]; exact congrArg Prod.snd e3, e2⟩
    | r1 e => exact absurd e h1
    | r2 _ e => exact absurd e h2
    | r3 _ _ _ e => exact absurd e h3
    | r4 _ _ e => omega
    | r5 _ _ e => omega
    | r6 _ _ e => exact absurd e h6
    | r7 _ _ e => exact absurd e h7
    | r8 _ _ _ _ e => exact absurd e h8
    | r9 _ _ e => exact absurd e h9
  have hg2 : g.length = 2 := hgl.trans (htwo (.inr h10))
  refine iJnX (fun xs w' => xs = [.int .i64 ((Q.length : Nat) : Int)] ∧ SCh l0 b w26 w' ∧ ∃ y : IV, y.i = ⟨10, [gt g 1], addT (setT x.d.asm) am, p.1, []⟩ ∧ SMl l0 w' b zs (Q ++ [y])) (fun J hJ => ?_) ?_
  · refine iFa (iLdB hB17 (i := 1) (v := x.vp) rfl ?_)
    refine pm (i := 1) X7 (by rw [htwo (.inr h10)]; decide) ?_
    rw [hp1]
    refine iIaG1 (j := 1) hg7 (by omega) ?_
    intro w72 x72
    refine iBs1 rfl rfl fun c w73 _ x73 hB73 => ⟨x73, fun w74 x74 => ?_⟩
    have xx := (x72.trans x73).trans x74
    refine ad (rule := 10) (main := []) (hM7.ext xx) (Ow.ext hW xx) (one (hB73.ext x74)) (by omega) (by simp) (by omega) fun w75 y hs hy hM' => ?_
    intro w76 x76
    exact hJ _ _ ⟨rfl, ((SCh.ext xx).trans hs).trans (SCh.ext x76), y, hy, hM'.ext x76⟩
  rintro _ w71 ⟨rfl, hs71, y1, hy1, hM71⟩
  intro _
  simp only [gx]
  have hW71 := kp hM7 hs71 (by decide) (by decide) hW
  have hQ1 : (Q ++ [y1]).length = Q.length + 1 := by rw [List.length_append]; rfl
  rw [← hp2]
  have hal : (addT (addT (setT x.d.asm) am) p.2).length ≤ 14 := by have := addT_len (addT (setT x.d.asm) am) p.2; omega
  refine ins hW71 (inc_addT _ _) (by omega) fun v213 w77 x77 h213 => ?_
  refine ad (rule := 1) (ps := []) (main := []) (hM71.ext x77) h213 (Ow.nil _ _ _) (by omega) (by simp) (by omega) fun w78 y2 hs78 hy2 hM78 => ?_
  have hW78 := kp (hM71.ext x77) hs78 (by decide) (by decide) (Ow.ext hW71 x77)
  rw [hQ1]
  refine iBs2 rfl rfl rfl fun c w79 _ x79 hB79 => ?_
  refine ad (rule := 8) (hM78.ext x79) (Ow.ext hW78 x79) (two hB79) (by omega) (by simp) (by rw [List.length_append, hQ1]; simp; omega) fun w80 y3 hs80 hy3 hM80 => ?_
  rw [hp2] at hy2 hy3 ⊢
  have hmk : makeD Q.length x.d g am = [⟨10, [gt g 1], addT (setT x.d.asm) am, p.1, []⟩, ⟨1, [], addT (addT (setT x.d.asm) am) x.d.con, x.d.con, []⟩, ⟨8, [Q.length, Q.length + 1], addT (setT x.d.asm) am, x.d.con, am⟩] ++ [⟨11, [gt g 0, Q.length + 2], setT x.d.asm, x.d.con, am⟩] := by
    rw [makeD_ten h10 hp, hp2]; rfl
  have := cut (K := MadeL l0 b zs Q (makeD Q.length x.d g am) w) (RQ := [y1, y2, y3]) (by simp) (by simp) hmk (by rw [List.map_cons, List.map_cons, List.map_singleton, hy1, hy2, hy3]) (((hs71.trans (SCh.ext x77)).trans hs78).trans ((SCh.ext x79).trans hs80)) (by simpa using hM80) fun u w'' h => h
  rw [List.length_append, hQ1]
  exact this
end Go.Proofs.YteifjhpddhppcaaGreat

/- Contracts: the reference's proofs out of deductions. Conditions: none. -/
namespace Go.Vc
theorem iNew1 {w : World} {e : TypeId} {a : Value} {K : Value → World → Prop} (h : ∀ q w', q = w.heap.size ∧ w'.heap.size = q + 1 → Ext w w' → Blk e w' q [a] → K (.pointer (some ⟨q, 0, none⟩)) w') : xNew (Value.cells (.agg #[a])) e w K :=
  iNew fun q w' h1 h2 h3 => h q w' h1 h2 (by simpa [Value.cells] using h3)
theorem code_zero {P : List Ded} (h : codeD P = 0) : 1 ≤ P.length ∧ P.length ≤ 120 ∧ ∀ i, i < P.length → goodD P i = true := by
  unfold codeD at h
  split at h
  · rename_i h1
    split at h
    · rename_i h2
      unfold allGoodD at h2
      rw [List.all_eq_true] at h2
      exact ⟨h1.1, h1.2, fun i hi => h2 i (List.mem_range.2 hi)⟩
    · cases h
  · cases h
end Go.Vc
namespace Go.Proofs.YteifjhpddhppcaaGreat
open Go.Vc
/-- What both sides answer. -/
def SeqQ (P : List Ded) (w : World) : Value → World → Prop := fun r w' => Ext w w' ∧ ∃ lo u Q, r = .tuple #[u, .int .i64 (outD P).1] ∧ w.heap.size ≤ lo ∧ OwI lo w' u Q ∧ Q.map IV.i = (outD P).2
theorem SCh.ext' {l0 b : Nat} {w0 w w' : World} (x : Ext w0 w) (h : SCh l0 b w w') (h1 : w0.heap.size ≤ l0) (h2 : l0 ≤ b) : Ext w0 w' := x.thenCh h fun c hc => by
  rcases hc with rfl | ⟨hc, _⟩ <;> omega
theorem SeqQ.no {P : List Ded} {w w' : World} {z : Int} (x : Ext w w') (h : outD P = (z, [])) : SeqQ P w (.tuple #[.slice none 0 0, .int .i64 z]) w' := ⟨x, w.heap.size, _, [], by rw [h], Nat.le_refl _, OwI.nil _ _, by rw [h]; rfl⟩
theorem ok_spec_SequentsOfDeduction {v : Value} {R : List DV} {w : World} (h : RdD w v R) (hpb : ∀ x ∈ R, x.d.prem.length ≤ 1000000000) : Cal Tryz.prog f_spec_SequentsOfDeduction #[v] w (SeqQ (R.map DV.d) w) := by
  have hvc : isCell v = true := by
    obtain ⟨_, _, _, e, _⟩ := h.row
    rw [e]; rfl
  have hPl : (R.map DV.d).length = R.length := List.length_map _
  apply c_spec_SequentsOfDeduction; unfold S_spec_SequentsOfDeduction
  refine iBs1 rfl hvc fun c w1 _ x1 hB1 => ?_
  refine iRet (ok_spec_l25Code1 (Sl.ofBlk (n := 1) hB1 rfl (by decide)) (h.ext x1) hpb) fun w2 x2 => ?_
  have X2 := x1.trans x2
  refine iNe (iCndP (fun hc => SeqQ.no X2 (if_neg hc)) (fun hc => ?_))
  have hc0 : codeD (R.map DV.d) = 0 := Classical.not_not.1 hc
  have hout : outD (R.map DV.d) = if limD (seqD (R.map DV.d) R.length).1 then (0, (seqD (R.map DV.d) R.length).1) else (3, []) := by unfold outD; rw [if_pos hc0, hPl]
  obtain ⟨h1, h120, hall⟩ := code_zero hc0
  rw [hPl] at h1 h120 hall
  refine iBs05 fun v17 w3 x3 ho3 => ?_
  refine iBuild (cs := #[v17]) (by simp [Instr.fill, isCell_cells (OwK.cell ho3)]) ?_
  refine iNew1 fun q w4 hq x4 hB4 => ?_
  refine iBs0 fun v20 w5 hw5 x5 ho5 => ?_
  have X3 := X2.trans x3
  have X4 := X3.trans x4
  have X5 := X4.trans x5
  have hqge : w2.heap.size ≤ q := by have := x3.size; omega
  have hM5 : SMl w2.heap.size w5 q [v20] [] := by
    refine ⟨hqge, v17, hB4.ext x5, ⟨OwK.ext ho3 (x4.trans x5), fun j hj => absurd hj (Nat.not_lt_zero j), fun j hj => absurd hj (Nat.not_lt_zero j), fun a _ ha => absurd ha (Nat.not_lt_zero a), fun a _ ha => absurd ha (Nat.not_lt_zero a)⟩, ?_⟩
    intro u hu c hc
    rw [List.mem_singleton.1 hu] at hc
    exact ⟨(ho5.blk c hc).2, fun j hj => absurd hj (Nat.not_lt_zero j)⟩
  have hl0 : w.heap.size ≤ w2.heap.size := X2.size
  generalize hl0e : w2.heap.size = l0 at *
  refine iLp (fun s : Value × Nat => [s.1, .int .i64 (s.2 : Int)]) (fun s w' => s.2 ≤ R.length ∧ Ext w w' ∧ Ow l0 t_i64 w' s.1 (ints (nats (seqD (R.map DV.d) s.2).2)) ∧ ∃ Q : List IV, SMl l0 w' q [s.1] Q ∧ Q.map IV.i = (seqD (R.map DV.d) s.2).1) (fun s => R.length - s.2) (v20, 0) rfl ⟨Nat.zero_le _, X5, ho5.mono (by have := (X2.trans x3).size; have := x4.size; have := x3.size; omega), [], hM5, rfl⟩ ?_
  rintro ⟨nv, k⟩ w7 Kn ⟨hk, X7, hnum, Q, hM7, hQ7⟩ hKn
  have hk : k ≤ R.length := hk
  have hnum : Ow l0 t_i64 w7 nv (ints (nats (seqD (R.map DV.d) k).2)) := hnum
  have hM7 : SMl l0 w7 q [nv] Q := hM7
  have hQ7 : Q.map IV.i = (seqD (R.map DV.d) k).1 := hQ7
  obtain ⟨hs1, hs2⟩ := seqD_len (R.map DV.d) k
  have hQl : Q.length ≤ 4 * k := by have := congrArg List.length hQ7; rw [List.length_map] at this; omega
  intro _
  simp only [gx]
  refine iLenK (h.ext X7).row (iLt (iCndP (fun hlt => ?_) (fun hlt => ?_)))
  · have hkl : k < R.length := by omega
    have hmem : gt R k ∈ R := by rw [gt_eq hkl]; exact List.getElem_mem hkl
    have hgk := hall k hkl
    obtain ⟨hsh, hin, -⟩ := goodD_iff hgk
    rw [gt_mapD hkl] at hsh hin
    have hinm : ∀ q ∈ (gt R k).d.prem, 0 ≤ q ∧ q.toNat < (seqD (R.map DV.d) k).2.length := fun q hq => by
      obtain ⟨a1, a2⟩ := inD_mem hin hq
      omega
    have hpbk := hpb _ hmem
    have pr : ∀ {w' : World} {K : Value → Prop}, Ext w w' → K (gt R k).vp → xIa 5 v (.int .i64 (k : Int)) fun p => xFa 1 p fun q => xLd w' q K := fun X hK =>
      iFld5 (h.ext X).row hkl (by decide) (cellsD_at hkl 1 (by decide)) hK
    refine iBs0 fun v27 w8 hw8 x8 ho8 => ?_
    refine iLp (fun s : Value × Nat => [s.1, .int .i64 (s.2 : Int)]) (fun s w' => s.2 ≤ (gt R k).d.prem.length ∧ Ext w7 w' ∧ Ow w7.heap.size t_i64 w' s.1 (ints (nats (((gt R k).d.prem.take s.2).map fun j => gt (seqD (R.map DV.d) k).2 j.toNat)))) (fun s => (gt R k).d.prem.length - s.2) (v27, 0) rfl ⟨Nat.zero_le _, x8, ho8⟩ ?_
    rintro ⟨r, i⟩ w10 Kn2 ⟨hi, x10, ho⟩ hKn2
    have hi : i ≤ (gt R k).d.prem.length := hi
    have ho : Ow w7.heap.size t_i64 w10 r (ints (nats (((gt R k).d.prem.take i).map fun j => gt (seqD (R.map DV.d) k).2 j.toNat))) := ho
    have X10 := X7.trans x10
    have hpv := SlI.ext (h.prem _ hmem) X10
    intro _
    simp only [gx]
    refine pr X10 (iLenI hpv (iLt (iCndP (fun hl => ?_) (fun hl => ?_))))
    · have hil : i < (gt R k).d.prem.length := by omega
      have etk : (gt R k).d.prem.take (i + 1) = (gt R k).d.prem.take i ++ [(gt R k).d.prem[i]] := List.take_succ_eq_append_getElem hil
      refine pr X10 (iIaN hpv hil fun p hp => ?_)
      have e : (gt R k).d.prem.getD i 0 = (gt R k).d.prem[i] := by simp [hil]
      rw [e] at hp
      obtain ⟨q0, q1⟩ := hinm _ (List.getElem_mem hil)
      generalize (gt R k).d.prem[i] = qq at *
      refine iLd hp ?_
      obtain ⟨m, rfl⟩ := Int.eq_ofNat_of_zero_le q0
      rw [Int.toNat_natCast] at q1
      refine iIaG1 (Ow.ext hnum x10) q1 ?_
      have hlen : (ints (nats (((gt R k).d.prem.take i).map fun j => gt (seqD (R.map DV.d) k).2 j.toNat))).length = i := by rw [ints_length, nats_length, List.length_map, List.length_take]; omega
      refine iApp1 u_Si64 i_Si64 rfl ho rfl (by rw [hlen]; omega) (by rw [hlen]; omega) x10.size fun r' w12 ho12 hg12 => ?_
      refine iAdd (by omega) ?_
      refine hKn2 (r', i + 1) _ ⟨hil, x10.grown hg12 fun b hb => (ho.blk b hb).1, ?_⟩ (by show (gt R k).d.prem.length - (i + 1) < (gt R k).d.prem.length - i; omega)
      show Ow _ _ _ r' (ints (nats (((gt R k).d.prem.take (i + 1)).map fun j => gt (seqD (R.map DV.d) k).2 j.toNat)))
      rw [etk, List.map_append]
      rw [show ints (nats (((gt R k).d.prem.take i).map (fun j => gt (seqD (R.map DV.d) k).2 j.toNat) ++ [((m : Nat) : Int)].map fun j => gt (seqD (R.map DV.d) k).2 j.toNat)) = ints (nats (((gt R k).d.prem.take i).map fun j => gt (seqD (R.map DV.d) k).2 j.toNat)) ++ [.int .i64 ((gt (seqD (R.map DV.d) k).2 m : Nat) : Int)] by simp [ints, nats]]
      exact ho12
    have hie : i = (gt R k).d.prem.length := by omega
    subst hie
    rw [List.take_length] at ho
    refine iAtD (h.ext X10).row rfl hkl ?_
    refine iCall ((ok_spec_l27Step (hM7.ext x10) (h.ext X10) hkl hall (ho.mono (Nat.zero_le _)) (List.length_map _) rfl (by omega)).mono ?_)
    rintro _ w13 ⟨hs13, RQ, hRQ, hM13, rfl⟩
    have hB10 : ∃ cs, Blk 42 w10 q cs := by
      obtain ⟨-, vp, hb, -⟩ := hM7.ext x10
      exact ⟨_, hb⟩
    obtain ⟨csb, hB10⟩ := hB10
    have hnum13 : Ow l0 t_i64 w13 nv (ints (nats (seqD (R.map DV.d) k).2)) := Ow.sch (Ow.ext hnum x10) hs13 hB10 (by decide) (by decide)
    have X13 := SCh.ext' X10 hs13 hl0 hqge
    have hlen : (ints (nats (seqD (R.map DV.d) k).2)).length = k := by rw [ints_length, nats_length, hs2]
    refine iApp1A u_Si64 i_Si64 rfl hnum13 rfl (by rw [hlen]; omega) (by rw [hlen]; omega) (by have := X13.size; have := hM7.lob; have := hB10.lt; have := hs13.size; omega) fun nv' w15 hn15 hg15 hat15 => ?_
    refine iAdd (by omega) ?_
    have hM15 := SM.grow hM13 (by decide) hnum13 hg15 hat15 (fun c hc => (hn15.blk c hc).2)
    have X15 : Ext w w15 := X13.grown hg15 fun c hc => Nat.le_trans hl0 (hnum13.blk c hc).1
    have hsq : seqD (R.map DV.d) (k + 1) = ((seqD (R.map DV.d) k).1 ++ makeD (seqD (R.map DV.d) k).1.length (gt R k).d ((gt R k).d.prem.map fun j => gt (seqD (R.map DV.d) k).2 j.toNat) (gt (R.map DV.d) (gt (gt R k).d.prem 0).toNat).con, (seqD (R.map DV.d) k).2 ++ [(seqD (R.map DV.d) k).1.length + (makeD (seqD (R.map DV.d) k).1.length (gt R k).d ((gt R k).d.prem.map fun j => gt (seqD (R.map DV.d) k).2 j.toNat) (gt (R.map DV.d) (gt (gt R k).d.prem 0).toNat).con).length - 1]) := by
      rw [seqD]
      simp only [gt_mapD hkl]
    have hQe : Q.length = (seqD (R.map DV.d) k).1.length := by rw [← hQ7, List.length_map]
    rw [hQe] at hRQ hn15
    refine hKn (nv', k + 1) _ ⟨hkl, X15, ?_, Q ++ RQ, hM15, ?_⟩ (by show R.length - (k + 1) < R.length - k; omega)
    · show Ow l0 t_i64 w15 nv' (ints (nats (seqD (R.map DV.d) (k + 1)).2))
      rw [hsq]
      rw [show ints (nats ((seqD (R.map DV.d) k).2 ++ [(seqD (R.map DV.d) k).1.length + (makeD (seqD (R.map DV.d) k).1.length (gt R k).d ((gt R k).d.prem.map fun j => gt (seqD (R.map DV.d) k).2 j.toNat) (gt (R.map DV.d) (gt (gt R k).d.prem 0).toNat).con).length - 1])) = ints (nats (seqD (R.map DV.d) k).2) ++ [.int .i64 (((seqD (R.map DV.d) k).1.length + (makeD (seqD (R.map DV.d) k).1.length (gt R k).d ((gt R k).d.prem.map fun j => gt (seqD (R.map DV.d) k).2 j.toNat) (gt (R.map DV.d) (gt (gt R k).d.prem 0).toNat).con).length - 1 : Nat) : Int)] by simp [ints, nats]]
      exact hn15
    · show (Q ++ RQ).map IV.i = (seqD (R.map DV.d) (k + 1)).1
      rw [hsq, List.map_append, hQ7, hRQ]
  -- the end: how long it is, and how wide
  have hke : k = R.length := by omega
  subst hke
  obtain ⟨-, vp, hB7, hO7, -⟩ := hM7
  have hQlen : Q.length = (seqD (R.map DV.d) R.length).1.length := by rw [← hQ7, List.length_map]
  refine iNil (iFa (iLdB hB7 (i := 0) (v := vp) rfl (iLenK hO7.row.sl (iLt (iCndP (fun h60 => ?_) (fun h60 => ?_))))))
  · refine SeqQ.no X7 ?_
    rw [hout]
    refine if_neg ?_
    unfold limD
    rw [decide_eq_false (by omega)]
    simp
  have hlim : limD (seqD (R.map DV.d) R.length).1 = (Q.map IV.i).all fun x => decide (x.left.length ≤ 12) := by
    unfold limD
    rw [decide_eq_true (by omega), Bool.true_and, hQ7]
  refine iLp (fun i : Nat => [.int .i64 (i : Int)]) (fun i w' => i ≤ Q.length ∧ Ext w7 w' ∧ ∀ j, j < i → (gt Q j).i.left.length ≤ 12) (fun i => Q.length - i) 0 rfl ⟨Nat.zero_le _, Ext.refl _, fun j hj => absurd hj (Nat.not_lt_zero j)⟩ ?_
  rintro i w17 Kn3 ⟨hi, x17, hok⟩ hKn3
  have hB17 := hB7.ext x17
  have hO17 := hO7.ext x17
  have X17 := X7.trans x17
  intro _
  simp only [gx]
  refine iNil (iFa (iLdB hB17 (i := 0) (v := vp) rfl (iLenK hO17.row.sl (iLt (iCndP (fun hl => ?_) (fun hl => ?_))))))
  · have hil : i < Q.length := by omega
    refine iNil (iFa (iLdB hB17 (i := 0) (v := vp) rfl ?_))
    refine iFld5 hO17.row.sl hil (by decide) (cells5_at hil 2 (by decide)) ?_
    refine iLenS (hO17.left i hil).sl (iLt (iCndP (fun hw => ?_) (fun hw => ?_)))
    · rw [strs_len] at hw
      refine SeqQ.no X17 ?_
      rw [hout]
      refine if_neg ?_
      rw [hlim, Bool.not_eq_true, List.all_eq_false]
      refine ⟨(gt Q i).i, List.mem_map.2 ⟨gt Q i, by rw [gt_eq hil]; exact List.getElem_mem hil, rfl⟩, ?_⟩
      simp only [decide_eq_true_eq]; omega
    · rw [strs_len] at hw
      refine iAdd (by omega) (hKn3 (i + 1) _ ⟨hil, x17, fun j hj => ?_⟩ (by omega))
      by_cases e : j = i
      · subst e; omega
      · exact hok j (by omega)
  · have hie : i = Q.length := by omega
    refine iNil (iFa (iLdB hB17 (i := 0) (v := vp) rfl ?_))
    have hlt : limD (seqD (R.map DV.d) R.length).1 = true := by
      rw [hlim, List.all_eq_true]
      intro x hx
      obtain ⟨y, hy, rfl⟩ := List.mem_map.1 hx
      obtain ⟨j, hj, rfl⟩ := List.getElem_of_mem hy
      have := hok j (by omega)
      rw [gt_eq hj] at this
      exact decide_eq_true this
    have ho : outD (R.map DV.d) = (0, (seqD (R.map DV.d) R.length).1) := by rw [hout, if_pos hlt]
    exact ⟨X17, l0, vp, Q, by rw [ho], hl0, hO17, by rw [ho]; exact hQ7⟩
end Go.Proofs.YteifjhpddhppcaaGreat

/- Contracts: the program's proofs out of deductions. Conditions: none. -/
namespace Go.Proofs.YteifjhpddhppcaaGreat
open Go.Vc
/-- What a step may turn: the maker's proof, not where the steps stand. -/
def SRel (l0 q : Nat) (w w' : World) : Prop := SCh l0 q w w' ∧ ∀ a s, Blk 50 w q [a, s] → ∃ a', Blk 50 w' q [a', s]
theorem fr_srel (l0 q : Nat) : Fr (SRel l0 q) :=
  ⟨fun _ _ x => ⟨SCh.ext x, fun a _ h => ⟨a, h.ext x⟩⟩, fun _ _ _ h k => ⟨h.1.trans k.1, fun a s hb => by
    obtain ⟨a', h'⟩ := h.2 a s hb
    exact k.2 a' s h'⟩, fun _ _ h => bare_ext h.1⟩
theorem ok_impl_SequentsOfDeduction {v : Value} {R : List DV} {w : World} (h : RdD w v R) (hpb : ∀ x ∈ R, x.d.prem.length ≤ 1000000000) : Cal Tryz.prog f_impl_SequentsOfDeduction #[v] w (SeqQ (R.map DV.d) w) := by
  have hvc : isCell v = true := by
    obtain ⟨_, _, _, e, _⟩ := h.row
    rw [e]; rfl
  have hPl : (R.map DV.d).length = R.length := List.length_map _
  apply c_impl_SequentsOfDeduction; unfold S_impl_SequentsOfDeduction
  refine iBs1 rfl hvc fun c w1 _ x1 hB1 => ?_
  refine iRet (ok_impl_deductionCode1 (Sl.ofBlk (n := 1) hB1 rfl (by decide)) (h.ext x1) hpb) fun w2 x2 => ?_
  have X2 := x1.trans x2
  refine iNe (iCndP (fun hc => SeqQ.no X2 (if_neg hc)) (fun hc => ?_))
  have hc0 : codeD (R.map DV.d) = 0 := Classical.not_not.1 hc
  have hout : outD (R.map DV.d) = if limD (seqD (R.map DV.d) R.length).1 then (0, (seqD (R.map DV.d) R.length).1) else (3, []) := by unfold outD; rw [if_pos hc0, hPl]
  obtain ⟨h1, h120, hall⟩ := code_zero hc0
  rw [hPl] at h1 h120 hall
  refine iBuild (cs := #[.slice none 0 0, .slice none 0 0]) (by simp [Instr.fill]) ?_
  refine iNew2 fun q w3 hq x3 hB3 => ?_
  have X3 := X2.trans x3
  have hqge : w2.heap.size ≤ q := by omega
  have hM3 : SMi w2.heap.size w3 q [.slice none 0 0] [] := ⟨hqge, _, hB3, OwI.nil _ _, fun u hu c hc => by rw [List.mem_singleton.1 hu] at hc; cases hc⟩
  have hl0 : w.heap.size ≤ w2.heap.size := X2.size
  generalize hl0e : w2.heap.size = l0 at *
  refine iLenK h.row ?_
  refine iLp (fun i : Nat => [.int .i64 (i : Int)]) (fun i w' => i ≤ R.length ∧ Ext w w' ∧ ∃ (vs : Value) (Q : List IV), SMi l0 w' q [vs] Q ∧ Ow l0 t_i64 w' vs (ints (nats (seqD (R.map DV.d) i).2)) ∧ Q.map IV.i = (seqD (R.map DV.d) i).1) (fun i => R.length - i) 0 rfl ⟨Nat.zero_le _, X3, _, [], hM3, Ow.nil _ _ _, rfl⟩ ?_
  rintro k w5 Kn ⟨hk, X5, vs, Q, hM5, hnum, hQ⟩ hKn
  obtain ⟨hs1, hs2⟩ := seqD_len (R.map DV.d) k
  have hQl : Q.length ≤ 4 * k := by have := congrArg List.length hQ; rw [List.length_map] at this; omega
  intro _
  simp only [gx]
  refine iLt (iCndP (fun hlt => ?_) (fun hlt => ?_))
  · have hkl : k < R.length := by omega
    have hm : gt R k ∈ R := by rw [gt_eq hkl]; exact List.getElem_mem hkl
    have h5 := h.ext X5
    refine iAtD h5.row rfl hkl ?_
    refine iNew5 fun q7 w6 hq7 x6 hB6 => ?_
    refine iStAB hB6 rfl rfl (fun y hy => DV.cell (h5.prem _ hm) (h5.asm _ hm) y (by simpa using hy)) fun w7 hu7 hB7 => ?_
    have x57 : Ext w5 w7 := x6.upd hu7 (by omega)
    have hM7 := hM5.ext x57
    have hnum7 := hnum.ext x57
    have X7 := X5.trans x57
    obtain ⟨hlo, vp, hBm, -, -⟩ := id hM7
    refine ⟨SRel l0 q, fr_srel l0 q, ?_⟩
    refine iNil (iFa (iLdB hBm (i := 1) (v := vs) rfl ⟨fun w9 h9 => ?_, ?_⟩))
    · obtain ⟨a', hB9⟩ := h9.2 _ _ hBm
      exact iLdB hB9 (i := 1) (v := vs) rfl rfl
    refine iLdA hB7 rfl ?_
    intro w11 x11
    have X11 := X7.trans x11
    refine iCall ((ok_impl_maker_step (hM7.ext x11) (hnum7.ext x11).sl (h.ext X11) hkl hall hs2 (by omega)).mono ?_)
    rintro _ w12 ⟨hs12, RQ, hRQ, hM12, rfl⟩
    refine ⟨⟨hs12, fun a s hb => ?_⟩, fun w13 x13 => ?_⟩
    · obtain ⟨-, vp', hB', -⟩ := hM12
      have hb0 := hBm.ext x11
      unfold Blk at hb hb0
      rw [hb0] at hb
      cases hb
      exact ⟨vp', hB'⟩
    refine iBs1 rfl rfl fun c14 w14 _ x14 hB14 => ⟨(fr_srel l0 q).ext _ _ x14, fun w15 x15 => ?_⟩
    have x1215 := (x13.trans x14).trans x15
    have hM15 := hM12.ext x1215
    have hnum15 : Ow l0 t_i64 w15 vs (ints (nats (seqD (R.map DV.d) k).2)) := (Ow.sch (hnum7.ext x11) hs12 (hBm.ext x11) (by decide) (by decide)).ext x1215
    have X12 := SCh.ext' X11 hs12 hl0 hqge
    have X15 := X12.trans x1215
    have hlen : (ints (nats (seqD (R.map DV.d) k).2)).length = k := by rw [ints_length, nats_length, hs2]
    have hQe : Q.length = (seqD (R.map DV.d) k).1.length := by rw [← hQ, List.length_map]
    have hql : q < w15.heap.size := by
      obtain ⟨-, _, hb, -⟩ := hM15
      exact hb.lt
    refine iAppA u_Si64 i_Si64 rfl hnum15 (Sl.ofBlk (n := 1) (hB14.ext x15) rfl (by decide)) (fun y hy => by rw [List.mem_singleton.1 hy]; rfl) (by rw [hlen]; simp; omega) (by rw [hlen]; simp; omega) (by omega) fun nv w16 hn16 hg16 hat16 => ?_
    have hM16 := SM.grow hM15 (by decide) hnum15 hg16 hat16 (fun c hc => (hn16.blk c hc).2)
    have X16 : Ext w w16 := X15.grown hg16 fun c hc => Nat.le_trans hl0 (hnum15.blk c hc).1
    refine iNil (iFa ?_)
    intro w17 x17
    have X17 := X16.trans x17
    have hn17 := hn16.ext x17
    obtain ⟨-, vp2, hB17, hO17, hS17⟩ := hM16.ext x17
    refine iStB (i := 1) hB17 (by simp) hn16.cell fun hB18 => ?_
    have hch18 := (Upd.setCell w17 q 1 nv).ch (S := fun k => k = q) rfl
    have hs18 : (w17.setCell ⟨q, 1, none⟩ nv).heap.size = w17.heap.size := (Upd.setCell w17 q 1 nv).size
    generalize w17.setCell ⟨q, 1, none⟩ nv = w18 at *
    have hB18 : Blk 50 w18 q [vp2, nv] := hB18
    have ne18 : ∀ {e : TypeId} {xs : List Value} {u : Value}, e ≠ 50 → Ow l0 e w17 u xs → Ow l0 e w18 u xs := fun hne h => h.ch hch18 fun c hc hS => h.ne_blk hB17 hne (by have hS : c = q := hS; rw [hc, hS])
    have hO18 : OwI l0 w18 vp2 (Q ++ RQ) := ⟨OwK.ch hO17.row hch18 fun k hk hS => owk_no hO17.row hB17 (by decide) (by have hS : k = q := hS; rw [hk, hS]), fun j hj => ne18 (by decide) (hO17.prem j hj), fun j hj => ne18 (by decide) (hO17.left j hj), hO17.dp, hO17.dl⟩
    have hM18 : SMi l0 w18 q [nv] (Q ++ RQ) := ⟨hqge, vp2, hB18, hO18, hS17.le (by omega)⟩
    have hn18 := ne18 (by decide) hn17
    have X18 : Ext w w18 := X17.thenCh hch18 fun c hc => by omega
    intro w19 x19
    refine iAdd (by omega) ?_
    have hsq : seqD (R.map DV.d) (k + 1) = ((seqD (R.map DV.d) k).1 ++ makeD (seqD (R.map DV.d) k).1.length (gt R k).d ((gt R k).d.prem.map fun j => gt (seqD (R.map DV.d) k).2 j.toNat) (gt (R.map DV.d) (gt (gt R k).d.prem 0).toNat).con, (seqD (R.map DV.d) k).2 ++ [(seqD (R.map DV.d) k).1.length + (makeD (seqD (R.map DV.d) k).1.length (gt R k).d ((gt R k).d.prem.map fun j => gt (seqD (R.map DV.d) k).2 j.toNat) (gt (R.map DV.d) (gt (gt R k).d.prem 0).toNat).con).length - 1]) := by
      rw [seqD]
      simp only [gt_mapD hkl]
    rw [hQe] at hRQ hn18
    refine hKn (k + 1) _ ⟨hkl, X18.trans x19, nv, Q ++ RQ, hM18.ext x19, ?_, ?_⟩ (by omega)
    · refine Ow.ext ?_ x19
      rw [hsq]
      rw [show ints (nats ((seqD (R.map DV.d) k).2 ++ [(seqD (R.map DV.d) k).1.length + (makeD (seqD (R.map DV.d) k).1.length (gt R k).d ((gt R k).d.prem.map fun j => gt (seqD (R.map DV.d) k).2 j.toNat) (gt (R.map DV.d) (gt (gt R k).d.prem 0).toNat).con).length - 1])) = ints (nats (seqD (R.map DV.d) k).2) ++ [.int .i64 (((seqD (R.map DV.d) k).1.length + (makeD (seqD (R.map DV.d) k).1.length (gt R k).d ((gt R k).d.prem.map fun j => gt (seqD (R.map DV.d) k).2 j.toNat) (gt (R.map DV.d) (gt (gt R k).d.prem 0).toNat).con).length - 1 : Nat) : Int)] by simp [ints, nats]]
      exact hn18
    · rw [hsq, List.map_append, hQ, hRQ]
  have hke : k = R.length := by omega
  subst hke
  obtain ⟨-, vp, hB5, hO5, -⟩ := hM5
  have hQlen : Q.length = (seqD (R.map DV.d) R.length).1.length := by rw [← hQ, List.length_map]
  refine iJnB (!limD (seqD (R.map DV.d) R.length).1) w5 (fun J hJ => ?_) (fun w21 x21 => ?_)
  · refine iNil (iFa (iLdB hB5 (i := 0) (v := vp) rfl (iLenK hO5.row.sl (iLt (iCndP (fun h60 => ?_) (fun h60 => ?_))))))
    · rw [show limD (seqD (R.map DV.d) R.length).1 = false by unfold limD; rw [decide_eq_false (by omega), Bool.false_and]] at hJ
      exact hJ _ (Ext.refl _)
    · refine iNil (iFa (iLdB hB5 (i := 0) (v := vp) rfl ?_))
      refine iRet (ok_impl_hasLargeLeft hO5.rd) fun w22 x22 => ?_
      rw [show limD (seqD (R.map DV.d) R.length).1 = (Q.map IV.i).all fun x => decide (x.left.length ≤ 12) by unfold limD; rw [decide_eq_true (by omega), Bool.true_and, hQ]] at hJ
      exact hJ _ x22
  intro _
  simp only [gx]
  have X21 := X5.trans x21
  cases hlim : limD (seqD (R.map DV.d) R.length).1 with
  | false => exact iCndT rfl (SeqQ.no X21 (by rw [hout, hlim]; rfl))
  | true =>
    refine iCndF rfl (iNil (iFa (iLdB (hB5.ext x21) (i := 0) (v := vp) rfl ?_)))
    have ho : outD (R.map DV.d) = (0, (seqD (R.map DV.d) R.length).1) := by rw [hout, if_pos hlim]
    exact ⟨X21, l0, vp, Q, by rw [ho], hl0, hO5.ext x21, by rw [ho]; exact hQ⟩
end Go.Proofs.YteifjhpddhppcaaGreat

/- The law on proofs out of deductions: what its body answers. Conditions: none. -/
namespace Go.Vc
theorem totD_le {B : Nat} : ∀ {L : List Ded}, (∀ x ∈ L, szD x ≤ B) → totD L ≤ L.length * B
  | [], _ => Nat.zero_le _
  | x :: L, h => by
    have := totD_le (L := L) fun y hy => h y (List.mem_cons_of_mem _ hy)
    have hx := h x (List.mem_cons_self ..)
    show szD x + totD L ≤ (L.length + 1) * B
    rw [Nat.add_mul, Nat.one_mul]; omega
theorem makeD_prem {N : Nat} {s : Ded} {g : List Nat} {a : Str} (hg : g.length ≤ 3) : ∀ x ∈ makeD N s g a, x.prem.length ≤ 3 := by
  unfold makeD
  simp only
  repeat' split
  all_goals simp [hg]
theorem seqD_prem {P : List Ded} (h : ∀ i, i < P.length → goodD P i = true) : ∀ k, k ≤ P.length → ∀ x ∈ (seqD P k).1, x.prem.length ≤ 3
  | 0, _, x, hx => by cases hx
  | k + 1, hk, x, hx => by
    rw [seqD] at hx
    rcases List.mem_append.1 hx with hx | hx
    · exact seqD_prem h k (by omega) x hx
    · refine makeD_prem ?_ x hx
      rw [List.length_map]
      have := (goodD_iff (h k (by omega))).2.2.cnt
      unfold countD at this
      split at this
      · omega
      · split at this
        · omega
        · split at this
          · omega
          · split at this <;> omega
end Go.Vc
namespace Go.Proofs.YteifjhpddhppcaaGreat
open Go.Vc
theorem totI_le {B : Nat} : ∀ {L : List Inf}, (∀ x ∈ L, szI x ≤ B) → totI L ≤ L.length * B
  | [], _ => Nat.zero_le _
  | x :: L, h => by
    have := totI_le (L := L) fun y hy => h y (List.mem_cons_of_mem _ hy)
    have hx := h x (List.mem_cons_self ..)
    show szI x + totI L ≤ (L.length + 1) * B
    rw [Nat.add_mul, Nat.one_mul]; omega
theorem outD_tot (P : List Ded) : totI (outD P).2 ≤ 2000 := by
  unfold outD
  by_cases hc : codeD P = 0
  · rw [if_pos hc]
    obtain ⟨-, -, hall⟩ := code_zero hc
    by_cases hl : limD (seqD P P.length).1 = true
    · rw [if_pos hl]
      unfold limD at hl
      rw [Bool.and_eq_true, decide_eq_true_eq, List.all_eq_true] at hl
      have := totI_le (B := 18) (L := (seqD P P.length).1) fun x hx => by
        have h1 := seqD_prem hall P.length (Nat.le_refl _) x hx
        have h2 := of_decide_eq_true (hl.2 x hx)
        unfold szI; omega
      show totI (seqD P P.length).1 ≤ 2000
      omega
    · rw [if_neg hl]; exact Nat.zero_le _
  · rw [if_neg hc]; exact Nat.zero_le _
def OfI (v : Value) (R : List IV) (c : Nat) : Prop := v.ownBlock = some c ∨ ∃ j, j < R.length ∧ ((gt R j).vp.ownBlock = some c ∨ (gt R j).vl.ownBlock = some c)
theorem OwI.at {lo : Nat} {w : World} {v : Value} {R : List IV} (h : OwI lo w v R) {c : Nat} (hc : OfI v R c) : lo ≤ c ∧ c < w.heap.size := by
  rcases hc with hc | ⟨j, hj, hc | hc⟩
  · exact OwK.blk h.row c hc
  · exact (h.prem j hj).blk c hc
  · exact (h.left j hj).blk c hc
theorem OwI.chO {S : Nat → Prop} {lo : Nat} {w w' : World} {v : Value} {R : List IV} (h : OwI lo w v R) (k : Ch S w w') (hn : ∀ c, OfI v R c → ¬ S c) : OwI lo w' v R :=
  ⟨OwK.ch h.row k fun c hc => hn c (.inl hc), fun j hj => (h.prem j hj).ch k fun c hc => hn c (.inr ⟨j, hj, .inl hc⟩), fun j hj => (h.left j hj).ch k fun c hc => hn c (.inr ⟨j, hj, .inr hc⟩), h.dp, h.dl⟩
theorem OwDs.at {lo : Nat} {w : World} {v : Value} {R : List DV} (h : OwDs lo w v R) {c : Nat} (hc : OfD v R c) : lo ≤ c ∧ c < w.heap.size := by
  rcases hc with hc | ⟨j, hj, hc | hc⟩
  · exact OwK.blk h.row c hc
  · exact (h.prem j hj).blk c hc
  · exact (h.asm j hj).blk c hc
theorem ok_laws_FnExactSequentsOfDeduction {v : Value} {R : List DV} {w : World} (h : RdD w v R) (hlen : ∀ x ∈ R, (∀ t ∈ x.d.asm, t.length ≤ 9223372036854775807) ∧ x.d.con.length ≤ 9223372036854775807) :
    Ret Tryz.prog f_laws_FnExactSequentsOfDeduction #[v] w (.bool true) := by
  apply c_laws_FnExactSequentsOfDeduction; unfold S_laws_FnExactSequentsOfDeduction
  refine iCall ((ok_laws_szDeductionS h hlen 1048576 (by omega)).mono ?_)
  rintro _ w1 ⟨x1, z, rfl, hz⟩
  refine iLt (iCndP (fun _ => ⟨by first | trivial | rfl, x1⟩) (fun hneg => ?_))
  obtain ⟨hR, hsz⟩ : R.length ≤ 1048576 ∧ ∀ x ∈ R, x.d.prem.length ≤ 1048576 ∧ x.d.asm.length ≤ 1048576 := by
    rcases hz with rfl | hz
    · exact absurd (by decide) hneg
    · exact hz.2
  have bnd : ∀ {Q : List DV}, Q.map DV.d = R.map DV.d → ∀ x ∈ Q, x.d.prem.length ≤ 1000000000 := fun e x hx => by
    have : x.d ∈ R.map DV.d := by rw [← e]; exact List.mem_map.2 ⟨x, hx, rfl⟩
    obtain ⟨y, hy, e2⟩ := List.mem_map.1 this
    have := (hsz y hy).1
    rw [e2] at this; omega
  have htot : totD (R.map DV.d) ≤ 1000000000000000 := by
    have := totD_le (B := 2097155) (L := R.map DV.d) fun y hy => by
      obtain ⟨x, hx, rfl⟩ := List.mem_map.1 hy
      have := hsz x hx
      unfold szD; omega
    rw [List.length_map] at this
    have h2 : R.length * 2097155 ≤ 1048576 * 2097155 := Nat.mul_le_mul_right _ hR
    omega
  have hM := outD_tot (R.map DV.d)
  -- the reference
  refine iCall ((ok_laws_toDeductionS (h.ext x1) hR hsz).mono ?_)
  rintro v21 w2 ⟨x2, Q1, hQ1, e1⟩
  have X2 := x1.trans x2
  refine iCall ((ok_spec_SequentsOfDeduction hQ1.rd (bnd e1)).mono ?_)
  rintro _ w3 ⟨x3, lo1, u1, I1, rfl, hlo1, hI1, hI1e⟩
  rw [e1] at hI1e ⊢
  refine iE20 (iE21 ?_)
  have X3 := X2.trans x3
  -- the program
  refine iCall ((ok_laws_toDeductionS (h.ext X3) hR hsz).mono ?_)
  rintro v26 w4 ⟨x4, Q2, hQ2, e2⟩
  have X4 := X3.trans x4
  refine iCall ((ok_impl_SequentsOfDeduction hQ2.rd (bnd e2)).mono ?_)
  rintro _ w5 ⟨x5, lo2, u2, I2, rfl, hlo2, hI2, hI2e⟩
  rw [e2] at hI2e ⊢
  refine iE20 (iE21 ?_)
  have X5 := X4.trans x5
  have heq : I2.map IV.i = I1.map IV.i := hI2e.trans hI1e.symm
  have eqs : ∀ {w' : World} {a : Value} {I : List IV} {J : List Value → World → Prop}, RdI w' a I → RdI w' u1 I1 → I.map IV.i = I1.map IV.i → (∀ w'', Ext w' w'' → J [.bool false] w'') → callV Tryz.prog (.func (.func f_laws_eqInferenceS) #[] #[]) [a, u1] w' fun v34 w8 => xNot v34 fun v35 => cnd v35 (J [.bool true] w8) (xNe .i64 (.int .i64 (outD (R.map DV.d)).1) (.int .i64 (outD (R.map DV.d)).1) fun v39 => J [v39] w8) := fun ha h1 e hJ => by
    refine iRet (ok_laws_eqInferenceS ha h1) fun w'' x'' => ?_
    rw [decide_eq_true e]
    refine iNot (iCndF rfl (iNe ?_))
    rw [decide_eq_false (fun hh => hh rfl)]
    exact hJ _ x''
  refine iJnX (fun xs w' => xs = [.bool false] ∧ Ext w5 w') (fun J hJ => eqs hI2.rd (hI1.ext (x4.trans x5)).rd heq fun w'' x'' => hJ _ _ ⟨rfl, x''⟩) ?_
  rintro _ w7 ⟨rfl, x7⟩
  intro _
  refine iCndF rfl ?_
  have X7 := X5.trans x7
  refine iCall ((ok_laws_toDeductionS (h.ext X7) hR hsz).mono ?_)
  rintro v43 w9 ⟨x9, Q3, hQ3, e3⟩
  have x49 := (x5.trans x7).trans x9
  refine iRet (ok_laws_eqDeductionS1 (e2.trans e3.symm) (hQ2.rd.ext x49) hQ3.rd) fun w10 x10 => iNot (iCndF rfl ?_)
  have x410 := x49.trans x10
  have X10 := X4.trans x410
  -- marks in what came in
  refine iCall ((ok_laws_markDeductionS (hQ2.ext x410) (by rw [e2]; exact htot)).mono ?_)
  rintro _ w11 ⟨rfl, c11⟩
  have hof : ∀ {c : Nat}, OfD v26 Q2 c → w3.heap.size ≤ c ∧ c < w4.heap.size := fun hc => hQ2.at hc
  have X11 : Ext w w11 := X10.thenCh c11 fun c hc => by have := (hof hc).1; have := X3.size; omega
  have hI1w : OwI lo1 w11 u1 I1 := (hI1.ext (x4.trans x410)).chO c11 fun c hc hS => by have := (hI1.at hc).2; have := (hof hS).1; omega
  have hI2w : OwI lo2 w11 u2 I2 := (hI2.ext ((x7.trans x9).trans x10)).chO c11 fun c hc hS => by have := (hI2.at hc).1; have := (hof hS).2; omega
  refine iJnX (fun xs w' => xs = [.bool false] ∧ Ext w11 w') (fun J hJ => ?_) ?_
  · refine iLt (iCndP (fun hh => absurd hh (by omega)) (fun _ => ?_))
    exact eqs hI2w.rd hI1w.rd heq fun w'' x'' => hJ _ _ ⟨rfl, x''⟩
  rintro _ w13 ⟨rfl, x13⟩
  intro _
  refine iCndF rfl ?_
  have X13 := X11.trans x13
  -- marks in what came out
  refine iCall ((ok_laws_markInferenceS (hI2w.ext x13) hI2e (by omega)).mono ?_)
  rintro _ w15 ⟨rfl, ⟨I2', hI2', hI2m⟩, c15⟩
  have hlo2w : w4.heap.size ≤ lo2 := hlo2
  have hw34 : w3.heap.size ≤ w4.heap.size := x4.size
  have X15 : Ext w w15 := X13.thenCh c15 fun c hc => by have hc : lo2 ≤ c := hc; have := X4.size; omega
  have hI1x : OwI lo1 w15 u1 I1 := (hI1w.ext x13).chO c15 fun c hc hS => by have := (hI1.at hc).2; have hS : lo2 ≤ c := hS; omega
  refine iRet (ok_laws_heldInferenceS hI2'.rd hI2m (by omega)) fun w16 x16 => ?_
  refine iLt (iCndP (fun hh => absurd hh (by omega)) (fun _ => ?_))
  refine iNe (iCndP (fun hh => absurd rfl hh) (fun _ => ?_))
  have X16 := X15.trans x16
  -- once more
  refine iCall ((ok_laws_toDeductionS (h.ext X16) hR hsz).mono ?_)
  rintro v75 w17 ⟨x17, Q4, hQ4, e4⟩
  refine iCall ((ok_impl_SequentsOfDeduction hQ4.rd (bnd e4)).mono ?_)
  rintro _ w18 ⟨x18, lo3, u3, I3, rfl, hlo3, hI3, hI3e⟩
  rw [e4] at hI3e ⊢
  refine iE20 (iE21 ?_)
  have x1518 := (x16.trans x17).trans x18
  refine iJnX (fun xs w' => xs = [.bool false] ∧ Ext w18 w') (fun J hJ => eqs hI3.rd (hI1x.ext x1518).rd (hI3e.trans hI1e.symm) fun w'' x'' => hJ _ _ ⟨rfl, x''⟩) ?_
  rintro _ w20 ⟨rfl, x20⟩
  intro _
  refine iCndF rfl ?_
  refine iRet (ok_laws_heldInferenceS (hI2'.ext (x1518.trans x20)).rd hI2m (by omega)) fun w22 x22 => ?_
  refine iLt (iCndP (fun hh => absurd hh (by omega)) (fun _ => ?_))
  refine iNe (iCndP (fun hh => absurd rfl hh) (fun _ => ?_))
  exact ⟨by first | trivial | rfl, ((X15.trans x1518).trans x20).trans x22⟩
end Go.Proofs.YteifjhpddhppcaaGreat
