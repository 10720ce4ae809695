/- The proof of FnClosedFiltrationsCard, part 6 of 7. Conditions: none. -/
import Derived.Test.YtmefbjdioaahdaaGreatDoorKR38e
/- Contracts: equal neighbours dropped from slices of slices, sorted lists without doubles. Conditions: none. -/
namespace Go.Vc
section
variable {P : Program} {w : World} {lo : Nat} {e : TypeId}
theorem Ow.openV {v : Value} {xs : List Value} (hs : Ow lo e w v xs) (hne : xs ≠ []) : ∃ g cap, v = .slice (some ⟨g, 0, none⟩) xs.length cap ∧ xs.length ≤ cap ∧ cap ≤ 9223372036854775807 := by
  obtain ⟨_, ⟨_, h0⟩ | ⟨g, cap, cur, hv, _, _, h1, h2, _⟩⟩ := hs
  · exact absurd (List.length_eq_zero_iff.1 h0) hne
  · exact ⟨g, cap, hv, h1, h2⟩
theorem Ow.atV {g n cap : Nat} {xs : List Value} (hs : Ow lo e w (.slice (some ⟨g, 0, none⟩) n cap) xs) (hn : xs.length = n) {j : Nat} (hj : j < n) : w.cell? ⟨g, j, none⟩ = xs[j]? := by
  have h : w.ownsRow lo e 1 (.slice (some ⟨g, 0, none⟩) n cap) n xs := by unfold Ow at hs; rw [hn] at hs; exact hs
  exact h.cellAt j (by omega)
theorem iSlTailV {g n cap k : Nat} {ki : IntKind} {K : Value → Prop} (hk : k < n) (hc : n ≤ cap) (h : K (.slice (some ⟨g, k, none⟩) (n - k) (cap - k))) : xSl 1 (.slice (some ⟨g, 0, none⟩) n cap) (some (.int ki (k : Int))) none K := by
  refine ⟨_, _, _, k, n, rfl, rfl, ⟨ki, rfl⟩, by omega, hc, ?_⟩
  rw [if_neg (by omega), Option.map_some, addr_add, Nat.zero_add, Nat.mul_one]
  exact h
theorem iSlHeadV {g n cap k : Nat} {ki : IntKind} {K : Value → Prop} (hk : k ≤ n) (hc : n ≤ cap) (h : K (.slice (some ⟨g, 0, none⟩) k cap)) : xSl 1 (.slice (some ⟨g, 0, none⟩) n cap) none (some (.int ki (k : Int))) K := by
  refine ⟨_, _, _, 0, k, rfl, ⟨ki, rfl⟩, rfl, Nat.zero_le _, by omega, ?_⟩
  have e : (if cap = 0 then some (⟨g, 0, none⟩ : Addr) else (some (⟨g, 0, none⟩ : Addr)).map (·.add (0 * 1))) = some ⟨g, 0, none⟩ := by
    split
    · rfl
    · simp [Addr.add]
  rw [e, Nat.sub_zero, Nat.sub_zero]
  exact h
theorem iClrV {t ty : TypeId} {z : Value} {bytes g n cap k : Nat} {xs : List Value} {K : Value → World → Prop} (ht : P.underlying t = some (.slice e)) (hi : (P.info? e).map (fun i => (i.zero, i.size, i.bytes)) = some (some z, 1, bytes)) (hz : isCell z = true)
    (hs : Ow lo e w (.slice (some ⟨g, 0, none⟩) n cap) xs) (hn : xs.length = n) (hk : k < n) (h : ∀ w', Ow lo e w' (.slice (some ⟨g, 0, none⟩) k cap) (xs.take k) → Ch (fun c => c = g) w w' → K (.tuple #[]) w') :
    xOp P (Builtin.clear_ #[t] ty #[.slice (some ⟨g, k, none⟩) (n - k) (cap - k)]) w K := by
  obtain ⟨i, hi, h3⟩ := Option.map_eq_some_iff.1 hi
  simp only [Prod.mk.injEq] at h3
  obtain ⟨hz0, -, -⟩ := h3
  obtain ⟨-, ⟨hv, -⟩ | ⟨g', cap', cur, hv, hg, hh, h1, h2, h3, h4⟩⟩ := hs
  · cases hv
  · injection hv with e1 e2 e3
    injection e1 with e1
    injection e1 with e1
    subst e1
    subst e3
    rw [hn] at h1 h4
    rw [Nat.mul_one] at h3 h4
    have hzc : (Builtin.zeroCells z.cells (n - k)).toList = List.replicate (n - k) z := by
      rw [isCell_cells hz]
      simp [Builtin.zeroCells]
      apply List.ext_getElem
      · simp
      · intro i h1 h2
        simp [Nat.mod_one]
    have hrun := run_storeCells_at P g k e (List.replicate (n - k) z) 0 cur w hh (by rw [List.length_replicate]; omega) (fun v hv => isCell_one (by rw [List.eq_of_mem_replicate hv]; exact hz))
    refine ⟨_, _, ?_, h (w.setRow g (cur.toList.take (k + 0) ++ List.replicate (n - k) z ++ cur.toList.drop (k + 0 + (List.replicate (n - k) z).length)).toArray) ?_ ?_⟩
    · obtain ⟨m, hm⟩ : ∃ m, n - k = m + 1 := ⟨n - k - 1, by omega⟩
      rw [hm] at hrun hzc ⊢
      simp [Builtin.clear_, run_underlying ht, zeroValue, run_info hi, hz0, hzc, hrun]
    · refine ⟨by simp, .inr ⟨g, cap, _, ?_, hg, setRow_heap w g cur _ e (0, 0) hh, by rw [List.length_take]; omega, h2, ?_, ?_⟩⟩
      · rw [List.length_take, hn, Nat.min_eq_left (by omega)]
      · simp; omega
      · rw [List.length_take, hn, Nat.min_eq_left (by omega), Nat.mul_one, Nat.add_zero, List.take_append_of_le_length (by simp; omega), List.take_append_of_le_length (by simp; omega), List.take_take, Nat.min_self, ← h4, List.take_take, Nat.min_eq_left (by omega)]
    · exact ⟨rfl, rfl, rfl, by rw [setRow_size]; exact Nat.le_refl _, fun c _ hc => setRow_other w g c _ hc⟩
end
theorem ordL : OrdA lessB where
  o := ⟨fun {a b} h => lessB_asymm a b h, fun {a b c} h k => lessB_trans a b c h k⟩
  anti := fun {a b} h k => lessB_anti a b h k
theorem ltL_ne {a b : List Int} : (lessB a b || lessB b a) = decide (¬ a = b) := by
  rw [Bool.eq_iff_iff, Bool.or_eq_true, decide_eq_true_eq]
  constructor
  · rintro (h | h) e
    · subst e; rw [lessB_irr] at h; cases h
    · subst e; rw [lessB_irr] at h; cases h
  · intro h
    rcases ordL.tot a b with h1 | h1 | h1
    · exact .inl h1
    · exact absurd h1 h
    · exact .inr h1
abbrev ddV (L : List VL) : List VL := ddA lessB Prod.snd L
theorem ddV_take {L : List VL} {i : Nat} (h0 : 1 ≤ i) (hi : i < L.length) : ddV (L.take (i + 1)) = if (gt L i).2 = (gt L (i - 1)).2 then ddV (L.take i) else ddV (L.take i) ++ [gt L i] := by
  rw [ddV, ddA_take h0 hi, ltL_ne]
  by_cases h : (gt L i).2 = (gt L (i - 1)).2
  · rw [if_pos h, if_neg (by simp [h])]
  · rw [if_neg h, if_pos (by simpa using fun e => h e.symm)]
theorem ddV_idk {L : List VL} : ∀ k, k ≤ L.length → (∀ i, 1 ≤ i → i < k → ¬ (gt L i).2 = (gt L (i - 1)).2) → ddV (L.take k) = L.take k := by
  intro k
  induction k with
  | zero => intro _ _; rfl
  | succ k ih =>
    intro hk h
    rcases Nat.eq_zero_or_pos k with h0 | h0
    · subst h0
      rw [ddV, ddA_one (by omega), List.take_succ_eq_append_getElem (by omega), gt_eq (by omega)]; rfl
    · rw [ddV_take h0 (by omega), if_neg (h k h0 (by omega)), ih (by omega) fun i h1 h2 => h i h1 (by omega), List.take_succ_eq_append_getElem (by omega), gt_eq (by omega)]
theorem ddV_id {L : List VL} (h : ∀ i, 1 ≤ i → i < L.length → ¬ (gt L i).2 = (gt L (i - 1)).2) : ddV L = L := by
  have := ddV_idk L.length (Nat.le_refl _) h
  rwa [List.take_length] at this
theorem evs_get (L : List VL) {j : Nat} (hj : j < L.length) : (evL L)[j]? = some (encV (gt L j)) := by rw [gt_eq hj]; simp [evL, hj]
theorem evs_take (L : List VL) (k : Nat) : (evL L).take k = evL (L.take k) := by simp [evL, List.map_take]
theorem RowsV.at {e : TypeId} {w : World} {L : List VL} (h : RowsV e w L) {i : Nat} (hi : i < L.length) : SlI w (encV (gt L i)) (gt L i).2 := (h _ (by rw [gt_eq hi]; exact List.getElem_mem _)).sl
end Go.Vc
namespace Go.Proofs.YtmefbjdioaahdaaGreatDoor
open Go.Vc
theorem iEqV {w : World} {x y : VL} {G : Value → World → Prop} (hx : SlI w (encV x) x.2) (hy : SlI w (encV y) y.2) (h : ∀ w', Ext w w' → G (.bool (decide (x.2 = y.2))) w') : ∀ w1, Ext w w1 → callV Tryz.prog (.func (.func f_slices_Equal_Si64_i64) #[] #[]) [encV x, encV y] w1 fun r w2 => ∀ w3, Ext w2 w3 → G r w3 :=
  fun _ x1 => iRet (ok_slices_Equal_Si64_i64 (hx.ext x1) (hy.ext x1)) fun _ x2 _ x3 => h _ ((x1.trans x2).trans x3)
theorem iNeV {w : World} {x y : VL} {G : Value → World → Prop} (hx : SlI w (encV x) x.2) (hy : SlI w (encV y) y.2) (h : ∀ w', Ext w w' → G (.bool (decide (¬ x.2 = y.2))) w') : ∀ w1, Ext w w1 → callV Tryz.prog (.func (.func f_slices_Equal_Si64_i64) #[] #[]) [encV x, encV y] w1 fun r w2 => xNot r fun c => ∀ w3, Ext w2 w3 → G c w3 :=
  fun _ x1 => iRet (ok_slices_Equal_Si64_i64 (hx.ext x1) (hy.ext x1)) fun _ x2 => iNot fun _ x3 => by
    have := h _ ((x1.trans x2).trans x3)
    rwa [decide_not] at this
theorem ok_slices_CompactFunc_SSi64_Si64 {lo : Nat} {w : World} {v : Value} {L : List VL} (hs : Ow lo t_Si64 w v (evL L)) (hrw : RowsV t_i64 w L) (hL : L.length ≤ 1152921504606846976) :
    Cal Tryz.prog f_slices_CompactFunc_SSi64_Si64 #[v, .func (.func f_slices_Equal_Si64_i64) #[] #[]] w fun r w' => Ow lo t_Si64 w' r (evL (ddV L)) ∧ Ch (fun c => v.ownBlock = some c) w w' ∧ r.ownBlock = v.ownBlock := by
  apply c_slices_CompactFunc_SSi64_Si64; unfold S_slices_CompactFunc_SSi64_Si64
  refine iLenS hs.sl ?_
  rw [evs_len]
  refine iLt ?_
  refine iCndP (fun h => ?_) (fun h => ?_)
  · rw [ddV_id (fun i h1 h2 => by omega)]
    exact ⟨hs, (Ext.refl w).ch, by first | trivial | rfl⟩
  obtain ⟨g, cap, hv, hcap, hcm⟩ := hs.openV (by intro e; have := evs_len L; rw [e] at this; simp at this; omega)
  rw [evs_len] at hv hcap
  refine iLp (fun k : Nat => [.int .i64 (k : Int)]) (fun k w' => 1 ≤ k ∧ k ≤ L.length ∧ Ext w w' ∧ ∀ i, 1 ≤ i → i < k → ¬ (gt L i).2 = (gt L (i - 1)).2) (fun k => L.length - k) 1 rfl ⟨Nat.le_refl _, by omega, Ext.refl _, fun i h1 h2 => by omega⟩ ?_
  rintro k w2 Kn ⟨hk1, hkn, h2, hne⟩ hKn
  have hs2 := hs.ext h2
  intro _
  simp only [gx]
  refine iLenS hs2.sl ?_
  rw [evs_len]
  refine iLt ?_
  refine iCndP (fun h3 => ?_) (fun h3 => ?_)
  rotate_left
  · rw [ddV_id (fun i h1 h2 => hne i h1 (by omega))]
    exact ⟨hs2, h2.ch, by first | trivial | rfl⟩
  refine iRdO (j := k) hs2 rfl (by omega) ?_
  refine iSub (by omega) ?_
  refine iRdO (j := k - 1) hs2 (by omega) (by omega) ?_
  have hr2 := hrw.ext h2
  refine iEqV (hr2.at (by omega)) (hr2.at (by omega)) fun w3 h23 => ?_
  have hs3 := hs2.ext h23
  refine iCndP (fun h4 => ?_) (fun h4 => ?_)
  rotate_left
  · refine iAdd (by omega) ?_
    refine hKn (k + 1) _ ⟨by omega, by omega, h2.trans h23, fun i h1 h5 => ?_⟩ (by omega)
    by_cases hi : i = k
    · subst hi; exact h4
    · exact hne i h1 (by omega)
  subst hv
  refine iSlTailV (k := k) (by omega) hcap ?_
  refine iLp (fun s : Nat × Nat => [.int .i64 (s.1 : Int), .int .i64 (s.2 : Int)]) (fun s w' => k ≤ s.1 ∧ s.1 + 1 ≤ k + s.2 ∧ k + s.2 ≤ L.length ∧ ∃ M, Turn lo t_Si64 encV (.slice (some ⟨g, 0, none⟩) L.length cap) w w' M ∧ M.length = L.length ∧ M.take s.1 = ddV (L.take (k + s.2)) ∧ ∀ j, k + s.2 ≤ j + 1 → gt M j = gt L j) (fun s => L.length - s.2) (k, 1) rfl
    ⟨Nat.le_refl _, Nat.le_refl _, by show k + 1 ≤ L.length; omega, L, ⟨hs3, (h2.trans h23).ch⟩, rfl, by show L.take k = ddV (L.take (k + 1)); rw [ddV_take hk1 (by omega), if_pos h4, ddV_idk k (by omega) hne], fun _ _ => rfl⟩ ?_
  rintro ⟨kk, k2⟩ w5 Kn5 ⟨hkk, hkk2, hk2, M, ht, hM, hMt, hMe⟩ hKn5
  have hkk : k ≤ kk := hkk
  have hkk2 : kk + 1 ≤ k + k2 := hkk2
  have hk2 : k + k2 ≤ L.length := hk2
  have hMt : M.take kk = ddV (L.take (k + k2)) := hMt
  have hMe : ∀ j, k + k2 ≤ j + 1 → gt M j = gt L j := hMe
  intro _
  simp only [gx]
  refine iLenL ?_
  refine iLt ?_
  refine iCndP (fun h5 => ?_) (fun h5 => ?_)
  · refine iIaL (j := k2) (by omega) ?_
    refine iLd (ht.ow.atV (by rw [List.length_map]; exact hM) (j := k + k2) (by omega) |>.trans (evs_get M (by omega))) ?_
    refine iSub (by omega) ?_
    rw [show (k2 : Int) - 1 = ((k2 - 1 : Nat) : Int) by omega]
    refine iIaL (j := k2 - 1) (by omega) ?_
    refine iLd (ht.ow.atV (by rw [List.length_map]; exact hM) (j := k + (k2 - 1)) (by omega) |>.trans (evs_get M (by omega))) ?_
    have e1 := hMe (k + k2) (by omega)
    have e2 := hMe (k + (k2 - 1)) (by omega)
    have hr5 : RowsV t_i64 w5 L := fun y hy => (hrw y hy).ch ht.ch fun c hc hc' => (hrw y hy).ne_ow hs (by decide) hc hc'
    refine iNeV (by rw [e1]; exact hr5.at (by omega)) (by rw [e2]; exact hr5.at (by omega)) fun w6 h56 => ?_
    have ht6 := ht.ext h56
    have edd := ddV_take (L := L) (i := k + k2) (by omega) (by omega)
    rw [← e1, show k + k2 - 1 = k + (k2 - 1) by omega, ← e2] at edd
    refine iCndP (fun h6 => ?_) (fun h6 => ?_)
    · rw [if_neg h6, ← hMt] at edd
      refine iIaL (j := k2) (by omega) ?_
      refine iLd (ht6.ow.atV (by rw [List.length_map]; exact hM) (j := k + k2) (by omega) |>.trans (evs_get M (by omega))) ?_
      refine iIaOw ht6.ow (by omega) (by rw [List.length_map]; omega) fun b o hb _ _ hc hf hset => ?_
      refine iSt (hc.trans (List.getElem?_eq_getElem (by rw [List.length_map]; omega))) hf (encV_cell _) ?_
      have hset := hset (encV (gt M (k + k2)))
      rw [Int.toNat_natCast, ← List.map_set] at hset
      refine iAdd (by omega) ?_
      refine iAdd (by omega) ?_
      refine hKn5 (kk + 1, k2 + 1) _ ⟨by show k ≤ kk + 1; omega, by show kk + 1 + 1 ≤ k + (k2 + 1); omega, by show k + (k2 + 1) ≤ L.length; omega, M.set kk (gt M (k + k2)), ⟨hset, ht6.ch.trans ((Upd.setCell w6 b o _).ch (S := fun c => Value.ownBlock (.slice (some ⟨g, 0, none⟩) L.length cap) = some c) hb) fun _ e => .inl e⟩, by rw [List.length_set]; exact hM, ?_, fun j hj => ?_⟩ (by show L.length - (k2 + 1) < L.length - k2; omega)
      · show (M.set kk (gt M (k + k2))).take (kk + 1) = ddV (L.take (k + (k2 + 1)))
        rw [show k + (k2 + 1) = k + k2 + 1 by omega, edd, List.take_succ_eq_append_getElem (by rw [List.length_set]; omega), List.getElem_set_self, List.take_set_of_le (Nat.le_refl _)]
      · have hj : k + (k2 + 1) ≤ j + 1 := hj
        rw [gt_set _ (by omega), if_neg (by omega)]
        exact hMe j (by omega)
    · rw [if_pos (Classical.not_not.1 h6), ← hMt] at edd
      refine iAdd (by omega) ?_
      exact hKn5 (kk, k2 + 1) _ ⟨hkk, by show kk + 1 ≤ k + (k2 + 1); omega, by show k + (k2 + 1) ≤ L.length; omega, M, ht6, hM, edd.symm, fun j hj => hMe j (by have hj : k + (k2 + 1) ≤ j + 1 := hj; omega)⟩ (by show L.length - (k2 + 1) < L.length - k2; omega)
  · have hend : k + k2 = L.length := by omega
    rw [hend, List.take_length] at hMt
    refine iSlTailV (k := kk) (by omega) hcap ?_
    refine iClrV u_SSi64 i_SSi64 rfl ht.ow (by rw [List.length_map]; exact hM) (by omega) fun w8 h8 hc8 => ?_
    refine iSlHeadV (k := kk) (by omega) hcap ?_
    rw [show (List.map encV M).take kk = evL (M.take kk) from evs_take M kk, hMt] at h8
    exact ⟨h8, ht.ch.trans hc8 fun c hc => .inl (by rw [hc]; rfl), rfl⟩
theorem ok_impl_sortedLists {lo : Nat} {w : World} {v : Value} {L : List VL} (hs : Ow lo t_Si64 w v (evL L)) (hrw : RowsV t_i64 w L) (hL : L.length ≤ 1152921504606846976) :
    Cal Tryz.prog f_impl_sortedLists #[v] w fun r w' => ∃ M : List VL, Ow lo t_Si64 w' r (evL M) ∧ Ch (fun c => v.ownBlock = some c) w w' ∧ M.map Prod.snd = setA lessB (L.map Prod.snd) ∧ (∃ L', List.Perm L' L ∧ List.Sublist M L') := by
  apply c_impl_sortedLists; unfold S_impl_sortedLists
  refine iCall ((ok_slices_SortFunc_SSi64_Si64 hs hrw hL).mono ?_)
  rintro _ w1 ⟨L', ho, hch, hp, hpw⟩
  have hr1 : RowsV t_i64 w1 L' := fun y hy => (hrw y (hp.mem_iff.1 hy)).ch hch fun c hc hc' => (hrw y (hp.mem_iff.1 hy)).ne_ow hs (by decide) hc hc'
  refine iCall ((ok_slices_CompactFunc_SSi64_Si64 ho hr1 (by rw [hp.length_eq]; exact hL)).mono ?_)
  rintro r w2 ⟨h1, h2, h3⟩
  have hsp := (ddA_spec (key := Prod.snd) ordL hpw L'.length (Nat.le_refl _)).1
  rw [List.take_length] at hsp
  exact ⟨_, h1, hch.trans h2 fun c hc => .inl hc, ddA_set ordL hpw (fun a => (hp.map Prod.snd).mem_iff), L', hp, hsp⟩
end Go.Proofs.YtmefbjdioaahdaaGreatDoor

/- Contracts: how many arrows a filtration may have or not, and the subsets of a mask, in the program. Conditions: none. -/
namespace Go.Vc
theorem and_low {x m : Nat} (h : m < 2 ^ 8) : x &&& m = (x % 2 ^ 8) &&& m := by
  refine Nat.eq_of_testBit_eq fun i => ?_
  rw [Nat.testBit_and, Nat.testBit_and, Nat.testBit_mod_two_pow]
  by_cases hi : i < 8
  · rw [decide_eq_true hi, Bool.true_and]
  · have : m.testBit i = false := Nat.testBit_lt_two_pow (Nat.lt_of_lt_of_le h (Nat.pow_le_pow_right (by omega) (by omega)))
    rw [this, Bool.and_false, Bool.and_false]
/-- The next subset of a mask. -/
def nxS (m s : Nat) : Nat := (256 + s - m) &&& m
theorem iAnd_next {s m : Nat} (hs : s < m) (hm : m < 2 ^ 8) : iAnd .i64 ((s : Int) - (m : Int)) (m : Int) = ((nxS m s : Nat) : Int) := by
  have h1 : nxS m s < 2 ^ 8 := Nat.and_lt_two_pow _ hm
  rw [show iAnd .i64 ((s : Int) - (m : Int)) (m : Int) = IntKind.i64.wrap ((BitVec.ofInt 64 ((s : Int) - (m : Int)) &&& BitVec.ofInt 64 (m : Int)).toNat : Nat) from rfl, ofInt_nat]
  rw [BitVec.toNat_and, BitVec.toNat_ofNat, Nat.mod_eq_of_lt (show m < 2 ^ 64 by omega), BitVec.toNat_ofInt]
  have e : (((s : Int) - (m : Int)) % ((2 ^ 64 : Nat) : Int)).toNat = 2 ^ 64 + s - m := by omega
  rw [e]
  have e2 : (2 ^ 64 + s - m) &&& m = nxS m s := by
    unfold nxS
    rw [and_low hm, and_low (x := 256 + s - m) hm]
    congr 1
    omega
  rw [e2]
  exact IntWalk.i64_in _ (by omega)
/-- Each is followed by the next subset, until the whole. -/
def chkS (m : Nat) : List Nat → Bool
  | [] => false
  | [s] => s == m
  | s :: t :: r => decide (s < m) && (nxS m s == t && chkS m (t :: r))
theorem chkS_step {m : Nat} : ∀ {L : List Nat}, chkS m L = true → 0 < L.length ∧ ∀ k, k < L.length → (k + 1 < L.length → L.getD k 0 < m ∧ nxS m (L.getD k 0) = L.getD (k + 1) 0) ∧ (k + 1 = L.length → L.getD k 0 = m)
  | [], h => by cases h
  | [s], h => by
    have h : s = m := by simpa [chkS] using h
    refine ⟨by simp, fun k hk => ?_⟩
    have : k = 0 := by simpa using hk
    subst this
    exact ⟨fun h => by simp at h, fun _ => h⟩
  | s :: t :: r, h => by
    have h : s < m ∧ nxS m s = t ∧ chkS m (t :: r) = true := by simpa [chkS] using h
    obtain ⟨h1, h2, h3⟩ := h
    obtain ⟨_, ih⟩ := chkS_step h3
    refine ⟨by simp, fun k hk => ?_⟩
    cases k with
    | zero => exact ⟨fun _ => ⟨h1, h2⟩, fun h => by simp at h⟩
    | succ k =>
      have hk : k < (t :: r).length := by simpa using hk
      obtain ⟨i1, i2⟩ := ih k hk
      exact ⟨fun h => i1 (by simpa using h), fun h => i2 (by simpa using h)⟩
/-- A row whose room ends with it. -/
def Cp (w : World) (v : Value) (xs : List Value) : Prop := (xs = [] ∧ v = .slice none 0 0) ∨ ∃ b o, v = .slice (some ⟨b, o, none⟩) xs.length xs.length ∧ ∀ i, i < xs.length → w.cell? ⟨b, o + i, none⟩ = xs[i]?
/-- 'append(s, x)', s full: a new row. -/
theorem iAppFull {P : Program} {w : World} {t ty e : TypeId} {z x : Value} {bytes q : Nat} {v : Value} {xs : List Value} {K : Value → World → Prop} (ht : P.underlying t = some (.slice e)) (hi : (P.info? e).map (fun i => (i.zero, i.size, i.bytes)) = some (some z, 1, bytes)) (hz : isCell z = true) (hx : isCell x = true)
    (hs : Cp w v xs) (hB : Blk e w q [x]) (hb : (xs.length + 1) * bytes ≤ 140737488355328) (hm : xs.length + 1 ≤ 9223372036854775807)
    (h : ∀ v' w', Ext w w' → Ow w.heap.size e w' v' (xs ++ [x]) → K v' w') : xOp P (Builtin.append_ #[t, t] ty #[v, .slice (some ⟨q, 0, none⟩) 1 1]) w K := by
  have hq := Sl.ofBlk (n := 1) hB rfl (by omega)
  rcases hs with ⟨rfl, rfl⟩ | ⟨b, o, rfl, hc⟩
  · refine iAppA ht hi hz (Ow.nil w.heap.size e w) hq (fun u hu => by simp at hu; subst hu; exact hx) hb hm (Nat.le_refl _) fun v' w' ho hg hat => h v' w' ?_ ho
    exact (Ext.refl w).grown hg fun c hc => by cases hc
  · obtain ⟨i, hi, h3⟩ := Option.map_eq_some_iff.1 hi
    simp only [Prod.mk.injEq] at h3
    obtain ⟨hz0, hsz, hby⟩ := h3
    have holds : ∀ j u, xs[j]? = some u → w.cell? ((⟨b, o, none⟩ : Addr).add j) = some u := fun j u hu => by
      have hj : j < xs.length := (List.getElem?_eq_some_iff.1 hu).1
      rw [addr_add, hc j hj, hu]
    have hnews : ∀ j u, [x][j]? = some u → w.cell? ((⟨q, 0, none⟩ : Addr).add j) = some u := fun j u hu => by
      have hj : j < [x].length := (List.getElem?_eq_some_iff.1 hu).1
      have : j = 0 := by simpa using hj
      subst this
      rw [addr_add, hB.cell, hu]
    have hr := run_append_grow (P := P) w t ty e i z ht hi hz0 ⟨b, o, none⟩ xs.length xs.length xs (by rw [hsz, Nat.mul_one]) holds ⟨q, 0, none⟩ 1 1 [x] (by rw [hsz]; rfl) hnews (by omega) (by omega) (by rw [hby]; exact growslice_fits (by omega) hb)
    have hge := grownCap_ge w (xs.length + 1) xs.length e
    have hgm := grownCap_le_maxLen w (xs.length + 1) xs.length e (by simpa [maxLen] using hm)
    refine ⟨_, _, hr, h _ _ (grown_none ⟨rfl, rfl, rfl, by simp, fun k hk _ => heap_alloc_old w.drew _ hk⟩) ?_⟩
    refine ⟨by simp, .inr ⟨w.heap.size, _, _, by rw [List.length_append, List.length_singleton], Nat.le_refl _, heap_alloc_new w.drew _, by simpa using hge, hgm, ?_, ?_⟩⟩
    · simp only [Array.size_append, List.size_toArray, size_zeroCells, isCell_cells hz]
      simp
      omega
    · rw [List.length_append, List.length_singleton]
      simp only [Nat.mul_one, Array.toList_append, List.append_assoc]
      rw [← List.append_assoc, List.take_append_of_le_length (by simp), List.take_of_length_le (by simp)]
end Go.Vc
namespace Go.Proofs.YtmefbjdioaahdaaGreatDoor
open Go.Vc
theorem sub_tab : ((List.range 256).all fun m => chkS m (sbK (mem m) (mem m).length)) = true := by kernel_rfl
theorem sbK_head (ms : List Nat) : ∀ k, (sbK ms k).getD 0 0 = 0
  | 0 => rfl
  | k + 1 => by
    have := sbK_len ms k
    have := Nat.two_pow_pos k
    rw [sbK, List.getD_eq_getElem?_getD, List.getElem?_append_left (by omega), ← List.getD_eq_getElem?_getD]
    exact sbK_head ms k
theorem ok_impl_subMasks {m : Nat} (hm : m < 2 ^ 8) (w : World) : Cal Tryz.prog f_impl_subMasks #[.int .i64 (m : Int)] w fun r w' => Ext w w' ∧ Ow w.heap.size t_i64 w' r (ints (nats (sbK (mem m) (mem m).length))) := by
  have htab := List.all_eq_true.1 sub_tab m (List.mem_range.2 (by omega))
  have hhd := sbK_head (mem m) (mem m).length
  have hln := sbK_len (mem m) (mem m).length
  have hl8 : (mem m).length ≤ 8 := popc_full (m := 8) (by decide) hm
  have hpw : 2 ^ (mem m).length ≤ 2 ^ 8 := Nat.pow_le_pow_right (by omega) hl8
  generalize sbK (mem m) (mem m).length = L at *
  obtain ⟨hpos, hst⟩ := chkS_step htab
  apply c_impl_subMasks; unfold S_impl_subMasks
  refine iBs1 rfl rfl fun b1 w1 hb1 x1 hB1 => ?_
  have ho1 : Ow w.heap.size t_i64 w1 (.slice (some ⟨b1, 0, none⟩) 1 1) (ints (nats (L.take 1))) := by
    have e : L.take 1 = [0] := by
      cases L with
      | nil => simp at hpos
      | cons a r => have : a = 0 := hhd; subst this; rfl
    rw [e]
    exact Ow.ofBlk (n := 1) hB1 (by omega) rfl (by omega)
  refine iLp (fun s : Value × Nat => [s.1, .int .i64 ((L.getD s.2 0 : Nat) : Int)]) (fun s w' => s.2 < L.length ∧ Ext w w' ∧ Ow w.heap.size t_i64 w' s.1 (ints (nats (L.take (s.2 + 1))))) (fun s => L.length - s.2) (.slice (some ⟨b1, 0, none⟩) 1 1, 0) (by rw [hhd]; rfl) ⟨hpos, x1, ho1⟩ ?_
  rintro ⟨u, k⟩ w3 Kn ⟨hk, x3, ho3⟩ hKn
  have hk : k < L.length := hk
  have ho3 : Ow w.heap.size t_i64 w3 u (ints (nats (L.take (k + 1)))) := ho3
  obtain ⟨s1, s2⟩ := hst k hk
  intro _
  simp only [gx]
  refine iNe (iCndP (fun h => ?_) (fun h => ?_))
  · have hk1 : k + 1 < L.length := by
      rcases Nat.lt_or_ge (k + 1) L.length with h1 | h1
      · exact h1
      · exact absurd (s2 (by omega)) (fun e => h (by rw [e]))
    obtain ⟨g1, g2⟩ := s1 hk1
    refine iSub (by omega) ?_
    refine ⟨_, _, rfl, rfl, ?_⟩
    rw [iAnd_next g1 hm, g2]
    have hlen : (ints (nats (L.take (k + 1)))).length = k + 1 := by rw [ints_length, nats_length, List.length_take]; omega
    refine iApp1 u_Si64 i_Si64 rfl ho3 rfl (by rw [hlen]; omega) (by rw [hlen]; omega) x3.size fun v' w5 ho5 hg5 => ?_
    refine hKn (v', k + 1) _ ⟨hk1, x3.grown hg5 fun c hc => (ho3.blk c hc).1, ?_⟩ (by show L.length - (k + 1) < L.length - k; omega)
    show Ow _ _ _ v' (ints (nats (L.take (k + 1 + 1))))
    have e : ints (nats (L.take (k + 1 + 1))) = ints (nats (L.take (k + 1))) ++ [.int .i64 ((L.getD (k + 1) 0 : Nat) : Int)] := by
      rw [List.take_succ_eq_append_getElem hk1]
      rw [show L.getD (k + 1) 0 = L[k + 1] by simp [hk1]]
      generalize L.take (k + 1) = A
      simp [ints, nats]
    rw [e]; exact ho5
  · have he : L.getD k 0 = m := by
      have : ((L.getD k 0 : Nat) : Int) = (m : Int) := Classical.not_not.1 h
      omega
    have : k + 1 = L.length := by
      rcases Nat.lt_or_ge (k + 1) L.length with h1 | h1
      · have := (s1 h1).1; omega
      · omega
    rw [this, List.take_length] at ho3
    exact ⟨x3, ho3⟩
theorem ok_slices_ClipI {v : Value} {xs : List Value} {w : World} (h : Ow 0 t_i64 w v xs) : Cal Tryz.prog f_slices_Clip_Si64_i64 #[v] w fun r w' => w' = w ∧ ∀ w'', Ext w w'' → Cp w'' r xs := by
  apply c_slices_Clip_Si64_i64; unfold S_slices_Clip_Si64_i64
  have hz : ∀ w, (sizeOf t_i64).run Tryz.prog w = .ok 1 w := Tryz.sizeOf2
  have key : ∀ (a : Option Addr) (c n : Nat), n ≤ c → c ≤ 9223372036854775807 → ∀ w', (Instr.sliceAt 24 (.slice a n c) none (some (.int .i64 (n : Int))) (some (.int .i64 (n : Int)))).run Tryz.prog w' = .ok (.slice a n n) w' := fun a c n hc hm w' => by
    have b1 := run_sliceBound (P := Tryz.prog) w' .i64 (n : Int) c .slice3Acap (by omega) (by omega)
    have b2 := run_sliceBound (P := Tryz.prog) w' .i64 (n : Int) n .slice3B (by omega) (by omega)
    rw [Int.toNat_natCast] at b1 b2
    simp only [Instr.sliceAt, Instr.slice, Instr.sliceBounds, Sem.run_bind, Sem.run_pure, run_underlying u_Si64, Result.andThen_ok, b1, b2, hz, if_true, Option.isSome_some]
    by_cases hn : n = 0
    · simp [hn]
    · have e : Option.map (fun x => x.add (0 * 1)) a = a := by cases a <;> simp [Addr.add]
      simp [hn, e]
  obtain ⟨hl, h0 | ⟨g, cap, cur, hv, _, hh, h1, h2, h3, h4⟩⟩ := h
  · obtain ⟨rfl, hx⟩ := h0
    have hx : xs = [] := List.length_eq_zero_iff.1 (by omega)
    refine iLenL (iLenL ?_)
    exact ⟨_, fun w' _ => key none 0 0 (Nat.le_refl _) (by omega) w', rfl, fun w'' _ => .inl ⟨hx, rfl⟩⟩
  · subst hv
    have hB : Blk t_i64 w g cur.toList := by unfold Blk; rw [hh]
    refine iLenL (iLenL ?_)
    refine ⟨_, fun w' _ => key (some ⟨g, 0, none⟩) cap xs.length h1 (by simpa [maxLen] using h2) w', rfl, fun w'' x'' => .inr ⟨g, 0, rfl, fun i hi => ?_⟩⟩
    rw [Nat.zero_add, (hB.ext x'').cell i, ← h4, List.getElem?_take, if_pos (by omega)]
section
variable {f : Fr} {V : List Nat} {a : Fm} {b : Nat} {w : World}
theorem iLowHigh (hM : MdG f V a) (hF : FlW w b f V a (cM f V a)) {K : Value → Value → World → Prop}
    (h : ∀ b3 b4 u1 u2 w', Ext w w' → w.heap.size ≤ b3 → w.heap.size ≤ b4 → Blk 26 w' b3 [.int .i64 (((fM f V a).length : Nat) : Int), u1] → Blk 26 w' b4 [.int .i64 (((fM f V a).length : Nat) : Int), u2] →
      Ow w.heap.size t_i64 w' u1 (ints (nats (leaA f (cM f V a) (fM f V a).length))) → Ow w.heap.size t_i64 w' u2 (ints (nats (greA f (fun v => V.getD v 0) a (fM f V a) false false))) → K (.pointer (some ⟨b3, 0, none⟩)) (.pointer (some ⟨b4, 0, none⟩)) w') :
    callV Tryz.prog (.func (.func f_impl_filter_least) #[] #[]) [.pointer (some ⟨b, 0, none⟩)] w fun v9 w1 => callV Tryz.prog (.func (.func f_impl_filter_greatest) #[] #[]) [.pointer (some ⟨b, 0, none⟩)] w1 fun v11 w2 =>
      xNew (Value.cells (.agg #[(.int .i64 0), (.slice none 0 0)])) 26 w2 fun v3 w3 => xNew (Value.cells (.agg #[(.int .i64 0), (.slice none 0 0)])) 26 w3 fun v4 w4 =>
      xStA Tryz.prog w4 2 v3 v9 fun w5 => xStA Tryz.prog w5 2 v4 v11 fun w6 => K v3 v4 w6 := by
  refine iCall ((ok_impl_filter_least hM.ok hF (cM_ok f V a).len (cM_gr f V a).1).mono ?_)
  rintro _ w1 ⟨x1, u1, rfl, ho1⟩
  refine iCall ((ok_impl_filter_greatest hM.ok hM.lt (hF.ext x1) (cM_ok f V a).len (cM_gr f V a).1).mono ?_)
  rintro _ w2 ⟨x2, u2, rfl, ho2⟩
  rw [(cM_gr f V a).2] at *
  rw [gra_gre] at ho2
  refine iNew fun b3 w3 hb3 x3 hB3 => ?_
  refine iNew fun b4 w4 hb4 x4 hB4 => ?_
  have hB3 : Blk 26 w4 b3 [.int .i64 0, .slice none 0 0] := hB3.ext x4
  have hB4 : Blk 26 w4 b4 [.int .i64 0, .slice none 0 0] := hB4
  have ho1 := ho1.ext (x2.trans (x3.trans x4))
  have ho2 := (ho2.ext (x3.trans x4)).mono x1.size
  have z2 := (x1.trans x2).size
  refine iStAB hB3 rfl rfl (ho1.pair _) fun w5 hu5 hB35 => ?_
  have n34 : b4 ≠ b3 := by omega
  have hB45 := hB4.upd hu5 n34
  have ho15 := ho1.upd hu5 (ho1.ne_blk hB3 (by decide))
  have ho25 := ho2.upd hu5 (ho2.ne_blk hB3 (by decide))
  refine iStAB hB45 rfl rfl (ho25.pair _) fun w6 hu6 hB46 => ?_
  exact h b3 b4 u1 u2 w6 (((((x1.trans x2).trans x3).trans x4).upd hu5 (by omega)).upd hu6 (by omega)) (by omega) (by omega) (Blk.upd hB35 hu6 (fun e => n34 e.symm)) hB46 (ho15.upd hu6 (ho15.ne_blk hB45 (by decide))) (ho25.upd hu6 (ho25.ne_blk hB45 (by decide)))
theorem ok_impl_filter_choice (hM : MdG f V a) (hF : FlW w b f V a (cM f V a)) : Ret Tryz.prog f_impl_filter_choice #[.pointer (some ⟨b, 0, none⟩)] w (.int .i64 ((roomK (leaA f (cM f V a) (fM f V a).length) (greA f (fun v => V.getD v 0) a (fM f V a) false false) (fM f V a).length : Nat) : Int)) := by
  have h8 := hM.ok.1
  have hF8 := Nat.le_trans (fM_le f V a) h8
  apply c_impl_filter_choice; unfold S_impl_filter_choice
  refine iLowHigh hM hF fun b3 b4 u1 u2 w6 x6 _ _ hB3 hB4 ho1 ho2 => ?_
  have ll : (leaA f (cM f V a) (fM f V a).length).length = (fM f V a).length := relA_len _ _
  have lh : (greA f (fun v => V.getD v 0) a (fM f V a) false false).length = (fM f V a).length := relA_len _ _
  have gh : ∀ k, (greA f (fun v => V.getD v 0) a (fM f V a) false false).getD k 0 < 2 ^ 8 := fun k => relA_lt hF8 _ k
  have gl : ∀ k, (leaA f (cM f V a) (fM f V a).length).getD k 0 < 2 ^ 8 := fun k => relA_lt hF8 _ k
  generalize leaA f (cM f V a) (fM f V a).length = low at *
  generalize greA f (fun v => V.getD v 0) a (fM f V a) false false = high at *
  generalize (fM f V a).length = m at *
  have hsl : SlN w6 u1 low := ho1.sl
  have hsh : SlN w6 u2 high := ho2.sl
  refine iFa (iLdB hB4 (i := 1) (v := u2) rfl ?_)
  refine iLenN hsh ?_
  rw [lh]
  refine iLp (fun k : Nat => [.int .i64 ((roomK low high k : Nat) : Int), .int .i64 (k : Int)]) (fun k w' => k ≤ m ∧ Ext w6 w') (fun k => m - k) 0 rfl ⟨Nat.zero_le _, Ext.refl _⟩ ?_
  rintro k w8 Kn ⟨hk, x8⟩ hKn
  intro _
  simp only [gx]
  refine iLt (iCndP (fun h => ?_) (fun h => ?_))
  · have hk1 : k < m := by omega
    have g1 := gh k
    have g2 := gl k
    have g3 : sdiff (high.getD k 0) (low.getD k 0) < 2 ^ 8 := sdiff_lt g1
    have hr := roomK_le (low := low) gh k
    have hp : popc (sdiff (high.getD k 0) (low.getD k 0)) ≤ 8 := popc_full (m := 8) (by decide) g3
    refine iIaNN (hsh.ext x8) (by omega) fun p hp => iLd hp ?_
    refine iFa (iLdB (hB3.ext x8) (i := 1) (v := u1) rfl ?_)
    refine iIaNN (hsl.ext x8) (by omega) fun p hp => iLd hp ?_
    refine iBAndNot (by omega) (by omega) ?_
    refine iRet (ok_impl_countMembers _ (by omega) w8) fun w9 x9 => ?_
    refine iAdd (by omega) ?_
    refine iAdd (by omega) ?_
    exact hKn (k + 1) _ ⟨by omega, x8.trans x9⟩ (by omega)
  · have : k = m := by omega
    subst this
    exact ⟨by first | trivial | rfl, x6.trans x8⟩
end
end Go.Proofs.YtmefbjdioaahdaaGreatDoor

/- Plain facts: all filtrations between the least and the greatest one. No program in sight. Conditions: none. -/
namespace Go.Proofs.YtmefbjdioaahdaaGreatDoor
open Go.Vc
def subL (low high : List Nat) (i : Nat) : List Nat := sbK (mem (sdiff (high.getD i 0) (low.getD i 0))) (mem (sdiff (high.getD i 0) (low.getD i 0))).length
def allL (low high : List Nat) (k : Nat) : List (List Nat) := allB (subL low high) low k
theorem subL_len (low high : List Nat) (i : Nat) : (subL low high i).length = 2 ^ popc (sdiff (high.getD i 0) (low.getD i 0)) := sbK_len _ _
theorem allL_len (low high : List Nat) : ∀ k, (allL low high k).length = 2 ^ roomK low high k
  | 0 => rfl
  | k + 1 => by
    have ih := allL_len low high k
    unfold allL at ih ⊢
    rw [allB, roomK, Nat.pow_add, ← ih, List.length_flatMap]
    have e : List.map (fun g => ((subL low high k).map fun s => g ++ [low.getD k 0 ||| s]).length) (allB (subL low high) low k) = List.replicate (allB (subL low high) low k).length (2 ^ popc (sdiff (high.getD k 0) (low.getD k 0))) := by
      rw [← List.map_const']
      exact List.map_congr_left fun g _ => by rw [List.length_map, subL_len]
    rw [e, List.sum_replicate_nat]
theorem roomK_mono (low high : List Nat) {k m : Nat} (h : k ≤ m) : roomK low high k ≤ roomK low high m := by
  induction m with
  | zero => rw [Nat.le_zero.1 h]; exact Nat.le_refl _
  | succ m ih =>
    rcases Nat.lt_or_ge k (m + 1) with h1 | h1
    · have := ih (by omega)
      rw [roomK]; omega
    · rw [show k = m + 1 by omega]; exact Nat.le_refl _
theorem allL_le {low high : List Nat} {k m : Nat} (hk : k ≤ m) (h : roomK low high m ≤ 7) : (allL low high k).length ≤ 128 := by
  rw [allL_len]
  have h2 := roomK_mono low high hk
  exact Nat.le_trans (Nat.pow_le_pow_right (by omega) (show roomK low high k ≤ 7 by omega)) (by decide)
theorem mem_sbK {ms : List Nat} : ∀ {k s : Nat}, k ≤ ms.length → (s ∈ sbK ms k ↔ ∀ j, s.testBit j = true → j ∈ ms.take k)
  | 0, s, _ => by
    rw [sbK, List.mem_singleton]
    constructor
    · rintro rfl j h
      rw [Nat.zero_testBit] at h; cases h
    · intro h
      refine Nat.eq_of_testBit_eq fun j => ?_
      rw [Nat.zero_testBit, Bool.eq_false_iff]
      intro hj
      have := h j hj
      simp at this
  | k + 1, s, hk => by
    have hk1 : k < ms.length := by omega
    have hg : ms.getD k 0 = ms[k] := by simp [hk1]
    rw [sbK, List.mem_append, List.mem_map, List.take_succ_eq_append_getElem hk1, hg]
    constructor
    · rintro (h | ⟨t, ht, rfl⟩) j hj
      · exact List.mem_append_left _ ((mem_sbK (by omega)).1 h j hj)
      · rw [Nat.testBit_or, Bool.or_eq_true, Nat.testBit_two_pow, decide_eq_true_eq] at hj
        rcases hj with hj | hj
        · exact List.mem_append_left _ ((mem_sbK (by omega)).1 ht j hj)
        · rw [hj]; simp
    · intro h
      by_cases hb : s.testBit ms[k] = true
      · refine .inr ⟨sdiff s (2 ^ ms[k]), (mem_sbK (by omega)).2 fun j hj => ?_, ?_⟩
        · rw [testBit_sdiff, Bool.and_eq_true, Nat.testBit_two_pow, Bool.not_eq_true', decide_eq_false_iff_not] at hj
          rcases List.mem_append.1 (h j hj.1) with h1 | h1
          · exact h1
          · rw [List.mem_singleton] at h1
            exact absurd h1.symm hj.2
        · refine Nat.eq_of_testBit_eq fun j => ?_
          rw [Nat.testBit_or, testBit_sdiff, Nat.testBit_two_pow]
          by_cases e : ms[k] = j
          · rw [decide_eq_true e, ← e, hb]; rfl
          · rw [decide_eq_false e]; simp
      · refine .inl ((mem_sbK (by omega)).2 fun j hj => ?_)
        rcases List.mem_append.1 (h j hj) with h1 | h1
        · exact h1
        · rw [List.mem_singleton] at h1
          rw [← h1] at hb
          exact absurd hj hb
theorem mem_subL {low high : List Nat} {i s : Nat} (h : high.getD i 0 < 2 ^ 8) : s ∈ subL low high i ↔ sdiff s (sdiff (high.getD i 0) (low.getD i 0)) = 0 := by
  have hl : sdiff (high.getD i 0) (low.getD i 0) < 2 ^ 8 := sdiff_lt h
  unfold subL
  rw [mem_sbK (Nat.le_refl _), List.take_length, sdiff_eq_zero]
  exact forall_congr' fun j => imp_congr_right fun _ => mem_mem (by omega)
/-- The lists are the filtrations. -/
theorem mem_allL {low high : List Nat} {m : Nat} (h8 : ∀ k, high.getD k 0 < 2 ^ 8) (hlh : ∀ k, sdiff (low.getD k 0) (high.getD k 0) = 0) {g : List Nat} : g ∈ allL low high m ↔ betw low high g m := by
  unfold allL
  rw [mem_allB]
  refine and_congr_right fun hg => forall_congr' fun x => imp_congr_right fun hx => ?_
  have hl := sdiff_eq_zero.1 (hlh x)
  constructor
  · rintro ⟨s, hs, e⟩
    rw [mem_subL (h8 x), sdiff_eq_zero] at hs
    rw [e]
    refine ⟨sdiff_eq_zero.2 fun y hy => by rw [Nat.testBit_or, hy]; rfl, sdiff_eq_zero.2 fun y hy => ?_⟩
    rw [Nat.testBit_or, Bool.or_eq_true] at hy
    rcases hy with hy | hy
    · exact hl y hy
    · have := hs y hy
      rw [testBit_sdiff, Bool.and_eq_true] at this
      exact this.1
  · rintro ⟨h1, h2⟩
    have h1 := sdiff_eq_zero.1 h1
    have h2 := sdiff_eq_zero.1 h2
    refine ⟨sdiff (g.getD x 0) (low.getD x 0), (mem_subL (h8 x)).2 (sdiff_eq_zero.2 fun y hy => ?_), ?_⟩
    · rw [testBit_sdiff, Bool.and_eq_true] at hy ⊢
      exact ⟨h2 y hy.1, hy.2⟩
    · refine Nat.eq_of_testBit_eq fun y => ?_
      rw [Nat.testBit_or, testBit_sdiff]
      cases hb : (low.getD x 0).testBit y
      · simp
      · rw [h1 y hb]; rfl
theorem betw_ok {low high g : List Nat} {m : Nat} (h8 : m ≤ 8) (hh : (⟨m, high⟩ : Fr).ok) (h : betw low high g m) : (⟨m, g⟩ : Fr).ok := by
  refine ⟨h8, h.1, fun x hx => ?_⟩
  obtain ⟨i, hi, rfl⟩ := List.getElem_of_mem hx
  have hi' : i < g.length := hi
  have him : i < m := by rw [← h.1]; exact hi'
  obtain ⟨_, h2⟩ := h.2 i him
  have h2 := sdiff_eq_zero.1 h2
  apply Nat.lt_of_not_le
  intro hle
  obtain ⟨y, hy, hb⟩ := Nat.exists_ge_and_testBit_of_ge_two_pow hle
  have hb : (g.getD i 0).testBit y = true := by
    rw [show g.getD i 0 = g[i] by simp [hi']]; exact hb
  have := (fr_bit_lt hh (h2 y hb)).2
  have hy : m ≤ y := hy
  have this : y < m := this
  omega
/-- Which flags some frame of a list has. -/
def anyI (m : Nat) (G : List (List Nat)) (t : Nat) : Bool := G.any fun g => flagI t ⟨m, g⟩
def flG (m : Nat) (G : List (List Nat)) : List Int := (List.range 11).map fun t => (((anyI m G t).toNat : Nat) : Int)
theorem anyI_mem {m : Nat} {G G' : List (List Nat)} (h : ∀ g, g ∈ G ↔ g ∈ G') (t : Nat) : anyI m G t = anyI m G' t := by
  unfold anyI
  rw [Bool.eq_iff_iff, List.any_eq_true, List.any_eq_true]
  exact exists_congr fun g => and_congr_left fun _ => h g
theorem lea_gre {f : Fr} (hf : f.ok) {V : Nat → Nat} {a : Fm} {c F : List Nat} (h : ClsOk (mkL f V a a.size) f.n c F) (k : Nat) : sdiff ((leaA f c F.length).getD k 0) ((greA f V a F false false).getD k 0) = 0 := by
  refine sdiff_eq_zero.2 fun y hy => ?_
  obtain ⟨hx, hym, hp⟩ := relA_bit.1 hy
  obtain ⟨w, v, hw, hv, hr, rfl, rfl⟩ := anyP_iff.1 hp
  refine relA_bit.2 ⟨hx, hym, ?_⟩
  rw [← may_cls h hw hv, may_arrow hf hr]; rfl
end Go.Proofs.YtmefbjdioaahdaaGreatDoor

/- Contracts: the least form of a frame in the reference (l01Has, l05Orders, l05Least, LeastFrame), and how lists are compared. Conditions: none. -/
namespace Go.Vc
end Go.Vc
namespace Go.Proofs.YtmefbjdioaahdaaGreatDoor
open Go.Vc
end Go.Proofs.YtmefbjdioaahdaaGreatDoor

/- Contracts: the least form of a frame in the program (reordered, permutations, leastRelation, LeastFrame). Conditions: none. -/
namespace Go.Vc
section
variable {w : World}
end
end Go.Vc
namespace Go.Proofs.YtmefbjdioaahdaaGreatDoor
open Go.Vc
end Go.Proofs.YtmefbjdioaahdaaGreatDoor

/- Contracts: the least form of a frame in the program (permutations, leastRelation, LeastFrame). Conditions: none. -/
namespace Go.Vc
end Go.Vc
namespace Go.Proofs.YtmefbjdioaahdaaGreatDoor
open Go.Vc
end Go.Proofs.YtmefbjdioaahdaaGreatDoor

/- Memory: rows of a count and a slice that a call turns in place; how such rows are compared. Conditions: none. -/
namespace Go.Vc
/-- An element: a count, a slice, and what the slice holds. -/
abbrev PR := Int × Value × List Int
def keyR (r : PR) : Int × List Int := (r.1, r.2.2)
instance : Inhabited PR := ⟨(0, .slice none 0 0, [])⟩
def valR (r : PR) : Value := .agg #[.int .i64 r.1, r.2.1]
def cellsR (L : List PR) : List Value := L.flatMap fun r => [.int .i64 r.1, r.2.1]
theorem cellsR_app (A B : List PR) : cellsR (A ++ B) = cellsR A ++ cellsR B := by simp [cellsR]
theorem cellsR_at (L : List PR) {i : Nat} (hi : i < L.length) : (cellsR L)[i * 2]? = some (.int .i64 (gt L i).1) ∧ (cellsR L)[i * 2 + 1]? = some (gt L i).2.1 := by
  have := flat2_get (fun r : PR => Value.int .i64 r.1) (fun r => r.2.1) L i (gt L i) (by rw [gt_eq hi]; exact List.getElem?_eq_getElem hi)
  rw [show i * 2 = 2 * i by omega]
  exact this
/-- A row of such elements of the call's own; each slice of the call's own too, in a row of its own. -/
abbrev RowR (lo : Nat) (e : TypeId) (w : World) (v : Value) (L : List PR) : Prop := OwK 2 lo e w v L.length (cellsR L)
section
variable {P : Program}
/-- Reading an element. -/
theorem iRdX {w : World} {v : Value} {L : List PR} {z : Int} {j : Nat} {k : IntKind} {K : Value → Prop} (hs : SlK 2 w v L.length (cellsR L)) (hz : z = (j : Int)) (hj : j < L.length) (h : K (valR (gt L j))) : xIa 2 v (.int k z) fun p => xLdA w 2 p K := by
  subst hz
  refine iIaK hs hj fun b o hcell => ?_
  obtain ⟨h0, h1⟩ := cellsR_at L hj
  refine ⟨_, #[.int .i64 (gt L j).1, (gt L j).2.1], rfl, rfl, fun i hi => ?_, h⟩
  rw [addr_add, hcell i hi]
  match i, hi with
  | 0, _ => exact h0
  | 1, _ => exact h1
end

end Go.Vc
namespace Go.Proofs.YtmefbjdioaahdaaGreatDoor
open Go.Vc
end Go.Proofs.YtmefbjdioaahdaaGreatDoor

/- Contracts: sorting few rows of a count and a slice; slices.Clone and Delete on them. Conditions: none. -/
namespace Go.Vc
end Go.Vc
namespace Go.Proofs.YtmefbjdioaahdaaGreatDoor
open Go.Vc
end Go.Proofs.YtmefbjdioaahdaaGreatDoor

/- Contracts: sorting rows of frames in place by compareFrames (the parts of pdqsort). Conditions: none. -/
namespace Go.Vc
section
variable {P : Program}
/-- A row of frames of one's own whose slices are cells. -/
structure RowF (lo : Nat) (e : TypeId) (w : World) (v : Value) (L : List PR) : Prop where
  row : RowR lo e w v L
  cells : ∀ r ∈ L, isCell r.2.1 = true
theorem RowF.ext {lo : Nat} {e : TypeId} {w w' : World} {v : Value} {L : List PR} (h : RowF lo e w v L) (x : Ext w w') : RowF lo e w' v L := ⟨OwK.ext h.row x, h.cells⟩
theorem RowF.ch {lo : Nat} {e : TypeId} {S : Nat → Prop} {w w' : World} {v : Value} {L : List PR} (h : RowF lo e w v L) (x : Ch S w w') (hn : ∀ c, v.ownBlock = some c → ¬ S c) : RowF lo e w' v L := ⟨OwK.ch h.row x hn, h.cells⟩
theorem iRdFr {lo : Nat} {e : TypeId} {w : World} {v : Value} {L : List PR} {z : Int} {j : Nat} {k : IntKind} {K : Value → Prop} (hs : RowF lo e w v L) (hz : z = (j : Int)) (hj : j < L.length) (h : K (valR (gt L j))) : xIa 2 v (.int k z) fun p => xLdA w 2 p K := iRdX hs.row.sl hz hj h
/-- The slices of the frames can be read. -/
def RowsF (e : TypeId) (w : World) (L : List PR) : Prop := ∀ x ∈ L, Ow 0 e w x.2.1 (ints x.2.2)
end
end Go.Vc
namespace Go.Proofs.YtmefbjdioaahdaaGreatDoor
open Go.Vc
end Go.Proofs.YtmefbjdioaahdaaGreatDoor

/- Memory: rows of frames that a call makes. No function in sight. Conditions: none. -/
namespace Go.Vc
/-- 'append(s, Struct{n, u})' to a row whose slices are cells. -/
theorem RowF.app {P : Program} {lo : Nat} {t e ty : TypeId} {bytes : Nat} (ht : P.underlying t = some (.slice e)) (hi : (P.info? e).map (fun i => (i.zero, i.size, i.bytes)) = some (some (.agg #[.int .i64 0, .slice none 0 0]), 2, bytes)) (hby : bytes ≤ 1000) {w : World} {v u : Value} {L : List PR} {n : Int} (l : List Int) {K : Value → World → Prop}
    (hp : RowF lo e w v L) (hu : isCell u = true) (hlo : lo ≤ w.heap.size) (hb : L.length ≤ 1000000000)
    (hk : ∀ v' w', RowF lo e w' v' (L ++ [(n, u, l)]) → Ch (fun c => v.ownBlock = some c) w w' → K v' w') :
    xBs e (Value.cells (.agg #[.int .i64 0, .slice none 0 0])) 2 1 [(0, .agg #[.int .i64 n, u])] w fun y w1 => xOp P (Builtin.append_ #[t, t] ty #[v, y]) w1 K := by
  refine iBsA fun b w1 hb1 h1 hB => ?_
  have hs := (OwK.ofBlk (k := 2) (lo := w.heap.size) hB (by omega) rfl (by omega)).sl
  have hm : (L.length + 1) * bytes ≤ 1000000001 * 1000 := Nat.mul_le_mul (by omega) hby
  refine iAppK (k := 2) ht hi rfl (by omega) (OwK.ext hp.row h1) hs (fun x hx => ?_) (by omega) (by omega) (Nat.le_trans hlo h1.size) fun v' w' ho' hg _ => hk v' w' ⟨?_, fun r hr => ?_⟩ ((h1.ch (S := fun c => v.ownBlock = some c)).trans (grown_ch hg fun c hc => hc) fun _ h => .inl h)
  · simp only [List.mem_cons, List.not_mem_nil, or_false] at hx
    rcases hx with rfl | rfl
    · rfl
    · exact hu
  · show OwK 2 lo e w' v' _ _
    rw [List.length_append, cellsR_app]
    exact ho'
  · rcases List.mem_append.1 hr with hr | hr
    · exact hp.cells r hr
    · rw [List.mem_singleton] at hr
      subst hr; exact hu
theorem RowF.mono {lo lo' : Nat} {e : TypeId} {w : World} {v : Value} {L : List PR} (h : RowF lo e w v L) (hl : lo' ≤ lo) : RowF lo' e w v L := ⟨OwK.mono h.row hl, h.cells⟩
theorem RowF.nil (lo : Nat) (e : TypeId) (w : World) : RowF lo e w (.slice none 0 0) [] := ⟨OwK.nil _ _ _ _, fun r hr => absurd hr (by simp)⟩
end Go.Vc

/- Contracts: all filtrations, in the program. Conditions: the table of powers of ten (FormatInt reads it). -/
namespace Go.Vc
theorem nats_snoc (g : List Nat) (x : Nat) : nats (g ++ [x]) = nats g ++ [(x : Int)] := by simp [nats]
end Go.Vc
namespace Go.Proofs.YtmefbjdioaahdaaGreatDoor
open Go.Vc
/-- A row of rows that a call makes, and nothing older has turned. -/
structure NxW (w0 w : World) (u : Value) (M : List VL) : Prop where
  x : Ext w0 w
  row : Ow w0.heap.size t_Si64 w u (evL M)
  rows : RowsV t_i64 w M
theorem NxW.ext {w0 w w' : World} {u : Value} {M : List VL} (h : NxW w0 w u M) (x : Ext w w') : NxW w0 w' u M := ⟨h.x.trans x, h.row.ext x, h.rows.ext x⟩
theorem NxW.nil (w : World) : NxW w w (.slice none 0 0) [] := ⟨Ext.refl _, Ow.nil _ _ _, fun x hx => (by cases hx)⟩
theorem NxW.push {w0 w : World} {u : Value} {M : List VL} (h : NxW w0 w u M) {v : Value} {l : List Int} (hv : Ow 0 t_i64 w v (ints l)) (hM : M.length ≤ 1000000) {K : Value → World → Prop}
    (hk : ∀ u' w', NxW w0 w' u' (M ++ [(v, l)]) → Ch (fun c => u.ownBlock = some c) w w' → K u' w') :
    xBs t_Si64 (Value.cells (.slice none 0 0)) 1 1 [(0, v)] w fun y w1 => ∀ w2, Ext w1 w2 → xOp Tryz.prog (Builtin.append_ #[t_SSi64, t_SSi64] t_SSi64 #[u, y]) w2 fun u' w3 => ∀ w4, Ext w3 w4 → K u' w4 := by
  have hc := hv.cell
  refine iBs1 rfl hc fun b1 w1 hb1 x1 hB1 => ?_
  intro w2 x2
  have x12 := x1.trans x2
  have hr2 := h.row.ext x12
  have hlen : (evL M).length = M.length := evs_len M
  refine iAppA u_SSi64 i_SSi64 rfl hr2 (Sl.ofBlk (n := 1) (hB1.ext x2) rfl (by omega)) (fun x hx => by simp at hx; subst hx; exact hc) (by rw [hlen]; simp; omega) (by rw [hlen]; simp; omega) (h.x.trans x12).size fun u' w3 ho3 hg3 hat => ?_
  intro w4 x4
  have hch : Ch (fun c => u.ownBlock = some c) w2 w3 := grown_ch hg3 fun b hb => hb
  have he : evL (M ++ [(v, l)]) = evL M ++ [v] := by
    rw [evL, List.map_append, List.map_cons, List.map_nil, encV_eq (x := (v, l)) hc]
  refine hk u' w4 ⟨((h.x.trans x12).grown hg3 fun c hc => (hr2.blk c hc).1).trans x4, ?_, fun y hy => ?_⟩ (((x12.ch (S := fun c => u.ownBlock = some c)).trans hch fun _ h => .inl h).trans (x4.ch (S := fun c => u.ownBlock = some c)) fun _ h => .inl h)
  · rw [he]; exact ho3.ext x4
  · have hy2 : Ow 0 t_i64 w2 (encV y) (ints y.2) := by
      rcases List.mem_append.1 hy with hy | hy
      · exact (h.rows y hy).ext x12
      · rw [List.mem_singleton] at hy
        subst hy
        rw [encV_eq (x := (v, l)) hc]
        exact hv.ext x12
    exact (hy2.ch hch fun c hc hc' => hy2.ne_ow hr2 (by decide) hc hc').ext x4
section
variable {f : Fr} {V : List Nat} {a : Fm} {b : Nat} {w : World}
theorem ok_impl_filter_allFiltrations (hM : MdG f V a) (hF : FlW w b f V a (cM f V a)) :
    Cal Tryz.prog f_impl_filter_allFiltrations #[.pointer (some ⟨b, 0, none⟩)] w fun r w' => Ext w w' ∧ ((7 < roomK (leaA f (cM f V a) (fM f V a).length) (greA f (fun v => V.getD v 0) a (fM f V a) false false) (fM f V a).length ∧ r = .tuple #[.slice none 0 0, .bool false]) ∨
      (roomK (leaA f (cM f V a) (fM f V a).length) (greA f (fun v => V.getD v 0) a (fM f V a) false false) (fM f V a).length ≤ 7 ∧ ∃ u L, r = .tuple #[u, .bool true] ∧ RowF w.heap.size t_impl_Frame w' u L ∧ RowsF t_i64 w' L ∧
        ∀ k, k ∈ L.map keyR ↔ ∃ g ∈ allL (leaA f (cM f V a) (fM f V a).length) (greA f (fun v => V.getD v 0) a (fM f V a) false false) (fM f V a).length, k = (((fM f V a).length : Int), nats g))) := by
  have h8 := hM.ok.1
  have hF8 := Nat.le_trans (fM_le f V a) h8
  apply c_impl_filter_allFiltrations; unfold S_impl_filter_allFiltrations
  refine iRet (ok_impl_filter_choice hM hF) fun w1 x1 => ?_
  refine iLt (iCndP (fun h => ⟨x1, .inl ⟨by omega, rfl⟩⟩) (fun h => ?_))
  refine iLowHigh hM (hF.ext x1) fun b4 b5 u1 u2 w7 x7 hlo4 hlo5 hB4 hB5 ho1 ho2 => ?_
  have ll : (leaA f (cM f V a) (fM f V a).length).length = (fM f V a).length := relA_len _ _
  have lh : (greA f (fun v => V.getD v 0) a (fM f V a) false false).length = (fM f V a).length := relA_len _ _
  have gh : ∀ k, (greA f (fun v => V.getD v 0) a (fM f V a) false false).getD k 0 < 2 ^ 8 := fun k => relA_lt hF8 _ k
  have gl : ∀ k, (leaA f (cM f V a) (fM f V a).length).getD k 0 < 2 ^ 8 := fun k => relA_lt hF8 _ k
  generalize leaA f (cM f V a) (fM f V a).length = low at *
  generalize greA f (fun v => V.getD v 0) a (fM f V a) false false = high at *
  generalize (fM f V a).length = m at *
  have hroom : roomK low high m ≤ 7 := by omega
  have hsl : SlN w7 u1 low := ho1.sl
  have hsh : SlN w7 u2 high := ho2.sl
  have X7 := x1.trans x7
  refine iBs1 rfl rfl fun bc w8 hbc x8 hBc => ?_
  refine iFa (iLdB (hB5.ext x8) (i := 1) (v := u2) rfl ?_)
  refine iLenN (hsh.ext x8) ?_
  rw [lh]
  refine iLp (fun s : Value × Nat => [s.1, .int .i64 (s.2 : Int)]) (fun s w' => s.2 ≤ m ∧ Ext w7 w' ∧ ∃ L, Ow w7.heap.size t_Si64 w' s.1 (evL L) ∧ RowsV t_i64 w' L ∧ L.map Prod.snd = (allL low high s.2).map nats) (fun s => m - s.2) (.slice (some ⟨bc, 0, none⟩) 1 1, 0) rfl
    ⟨Nat.zero_le _, x8, [(.slice none 0 0, [])], Ow.ofBlk (n := 1) hBc (by omega) rfl (by omega), fun x hx => by rw [List.mem_singleton] at hx; subst hx; exact Ow.nil _ _ _, rfl⟩ ?_
  rintro ⟨uc, k⟩ w10 Kn ⟨hk, x10, L, hoc, hrc, hL⟩ hKn
  have hk : k ≤ m := hk
  have x10 : Ext w7 w10 := x10
  have hoc : Ow w7.heap.size t_Si64 w10 uc (evL L) := hoc
  have hL : L.map Prod.snd = (allL low high k).map nats := hL
  have hLl : L.length = (allL low high k).length := by have := congrArg List.length hL; simpa using this
  have hL128 := allL_le hk hroom
  intro _
  simp only [gx]
  refine iLt (iCndP (fun h => ?_) (fun h => ?_))
  · have hk1 : k < m := by omega
    have hnx : allL low high (k + 1) = (allL low high k).flatMap fun g => (subL low high k).map fun s => g ++ [low.getD k 0 ||| s] := rfl
    have hnx128 := allL_le (low := low) (high := high) (show k + 1 ≤ m by omega) hroom
    have hSl := subL_len low high k
    have hlen1 : ∀ j, (((allL low high k).take j).flatMap fun g => (subL low high k).map fun s => g ++ [low.getD k 0 ||| s]).length ≤ 128 := fun j => by
      refine Nat.le_trans ?_ hnx128
      rw [hnx]
      have e : ((allL low high k).flatMap fun g => (subL low high k).map fun s => g ++ [low.getD k 0 ||| s]) = (((allL low high k).take j).flatMap fun g => (subL low high k).map fun s => g ++ [low.getD k 0 ||| s]) ++ (((allL low high k).drop j).flatMap fun g => (subL low high k).map fun s => g ++ [low.getD k 0 ||| s]) := by
        rw [← List.flatMap_append, List.take_append_drop]
      rw [e, List.length_append]
      omega
    refine iIaNN (hsh.ext x10) (by omega) fun p hp => iLd hp ?_
    refine iLenS hoc.sl ?_
    rw [evs_len]
    refine iLp (fun s : Value × Nat => [s.1, .int .i64 (s.2 : Int)]) (fun s w' => s.2 ≤ L.length ∧ ∃ M, NxW w10 w' s.1 M ∧ M.map Prod.snd = (((allL low high k).take s.2).flatMap fun g => (subL low high k).map fun s => g ++ [low.getD k 0 ||| s]).map nats) (fun s => L.length - s.2) (.slice none 0 0, 0) rfl ⟨Nat.zero_le _, [], NxW.nil _, rfl⟩ ?_
    rintro ⟨un, j⟩ w12 Kn2 ⟨hj, M, hN, hMs⟩ hKn2
    have hj : j ≤ L.length := hj
    have hN : NxW w10 w12 un M := hN
    have hMs : M.map Prod.snd = (((allL low high k).take j).flatMap fun g => (subL low high k).map fun s => g ++ [low.getD k 0 ||| s]).map nats := hMs
    intro _
    simp only [gx]
    refine iLt (iCndP (fun h2 => ?_) (fun h2 => ?_))
    · have hj1 : j < L.length := by omega
      have hj2 : j < (allL low high k).length := by omega
      have hg : (gt L j).2 = nats (allL low high k)[j] := by
        rw [gt_eq hj1]
        have e1 : (L.map Prod.snd)[j]'(by rw [List.length_map]; exact hj1) = L[j].2 := List.getElem_map ..
        rw [← e1]
        simp only [hL, List.getElem_map]
      have htk : (allL low high k).take (j + 1) = (allL low high k).take j ++ [(allL low high k)[j]] := List.take_succ_eq_append_getElem hj2
      have hle := hlen1 (j + 1)
      rw [htk, List.flatMap_append, List.length_append] at hle
      have hfin : (((allL low high k).take (j + 1)).flatMap fun g => (subL low high k).map fun s => g ++ [low.getD k 0 ||| s]) = (((allL low high k).take j).flatMap fun g => (subL low high k).map fun s => g ++ [low.getD k 0 ||| s]) ++ (subL low high k).map fun s => (allL low high k)[j] ++ [low.getD k 0 ||| s] := by
        rw [htk, List.flatMap_append, List.flatMap_cons, List.flatMap_nil, List.append_nil]
      have hgl : ((allL low high k)[j]).length = k := (mem_allB.1 (List.getElem_mem hj2)).1
      generalize (allL low high k)[j] = g at *
      generalize (((allL low high k).take j).flatMap fun g => (subL low high k).map fun s => g ++ [low.getD k 0 ||| s]) = A at *
      rw [List.flatMap_cons, List.flatMap_nil, List.append_nil, List.length_map] at hle
      have x712 := x10.trans hN.x
      have hrj := hrc _ (show gt L j ∈ L by rw [gt_eq hj1]; exact List.getElem_mem _)
      rw [hg] at hrj
      refine iRdO (enc := encV) (hoc.ext hN.x) rfl hj1 ?_
      generalize encV (gt L j) = vj at *
      refine iFa (iLdB (hB4.ext x712) (i := 1) (v := u1) rfl ?_)
      refine iIaNN (hsl.ext x712) (by omega) fun p hp => iLd hp ?_
      have g1 := gh k
      have g2 := gl k
      refine iBAndNot (by omega) (by omega) ?_
      refine iCall ((ok_impl_subMasks (sdiff_lt g1) w12).mono ?_)
      rintro vs w13 ⟨x13, hos⟩
      have hos : Ow w12.heap.size t_i64 w13 vs (ints (nats (subL low high k))) := hos
      have hSlt : ∀ s ∈ subL low high k, s < 2 ^ 8 := fun s hs => by
        have := sdiff_eq_zero.1 ((mem_subL g1).1 hs)
        apply Nat.lt_of_not_le
        intro hle
        obtain ⟨y, hy, hb⟩ := Nat.exists_ge_and_testBit_of_ge_two_pow hle
        have h1 := this y hb
        rw [testBit_sdiff, Bool.and_eq_true] at h1
        have := bit_lt_n g1 h1.1
        omega
      generalize subL low high k = S at *
      refine iLenN (show SlN w13 vs S from hos.sl) ?_
      refine iLp (fun s : Value × Nat => [s.1, .int .i64 (s.2 : Int)]) (fun s w' => s.2 ≤ S.length ∧ Ow w12.heap.size t_i64 w' vs (ints (nats S)) ∧ ∃ M', NxW w10 w' s.1 M' ∧ M'.map Prod.snd = (A ++ (S.take s.2).map fun s => g ++ [low.getD k 0 ||| s]).map nats) (fun s => S.length - s.2) (un, 0) rfl
        ⟨Nat.zero_le _, hos, M, hN.ext x13, by rw [List.take_zero, List.map_nil, List.append_nil]; exact hMs⟩ ?_
      rintro ⟨un2, i⟩ w15 Kn3 ⟨hi, hos15, M2, hN2, hMs2⟩ hKn3
      have hi : i ≤ S.length := hi
      have hN2 : NxW w10 w15 un2 M2 := hN2
      have hMs2 : M2.map Prod.snd = (A ++ (S.take i).map fun s => g ++ [low.getD k 0 ||| s]).map nats := hMs2
      have hMl : M2.length ≤ 128 := by
        have := congrArg List.length hMs2
        simp only [List.length_map, List.length_append, List.length_take] at this
        omega
      intro _
      simp only [gx]
      refine iLt (iCndP (fun h3 => ?_) (fun h3 => ?_))
      · have hi1 : i < S.length := by omega
        have x715 := x10.trans hN2.x
        refine iIaNN (show SlN w15 vs S from hos15.sl) hi1 fun p hp => iLd hp ?_
        refine iFa (iLdB (hB4.ext x715) (i := 1) (v := u1) rfl ?_)
        refine iIaNN (hsl.ext x715) (by omega) fun p hp => iLd hp ?_
        have g3 : S.getD i 0 < 2 ^ 8 := by
          rw [show S.getD i 0 = S[i] by simp [hi1]]; exact hSlt _ (List.getElem_mem _)
        refine iBOr (by omega) (by omega) ?_
        have htk2 : S.take (i + 1) = S.take i ++ [S.getD i 0] := by
          rw [List.take_succ_eq_append_getElem hi1, show S.getD i 0 = S[i] by simp [hi1]]
        have hrj15 : Ow 0 t_i64 w15 vj (ints (nats g)) := hrj.ext hN2.x
        generalize hx : low.getD k 0 ||| S.getD i 0 = x at *
        -- the way on
        have tail : ∀ wz vr q, Ext w15 wz → Cp wz vr (ints (nats g)) → Blk t_i64 wz q [.int .i64 (x : Int)] → xOp Tryz.prog (Builtin.append_ #[t_Si64, t_Si64] t_Si64 #[vr, .slice (some ⟨q, 0, none⟩) 1 1]) wz fun v63 w21 => ∀ w22, Ext w21 w22 → xBs t_Si64 (Value.cells (.slice none 0 0)) 1 1 [(0, v63)] w22 fun v64 w23 =>
            ∀ w24, Ext w23 w24 → xOp Tryz.prog (Builtin.append_ #[t_SSi64, t_SSi64] t_SSi64 #[un2, v64]) w24 fun v65 w25 => ∀ w26, Ext w25 w26 → xAdd .i64 (.int .i64 (i : Int)) (.int .i64 1) fun v66 => Kn3 [v65, v66] w26 := by
          intro wz vr q xz hcp hBq
          have hgi : (ints (nats g)).length = k := by rw [ints_length, nats_length, hgl]
          refine iAppFull u_Si64 i_Si64 rfl rfl hcp hBq (by rw [hgi]; omega) (by rw [hgi]; omega) fun v63 w21 x21 ho21 => ?_
          intro w22 x22
          have x1522 := (xz.trans x21).trans x22
          have e : ints (nats g) ++ [.int .i64 (x : Int)] = ints (nats (g ++ [x])) := by rw [nats_snoc]; simp [ints]
          rw [e] at ho21
          refine (hN2.ext x1522).push (l := nats (g ++ [x])) ((ho21.ext x22).mono (Nat.zero_le _)) (by omega) fun u' w' hN' hch => ?_
          refine iAdd (by omega) ?_
          refine hKn3 (u', i + 1) _ ⟨hi1, (hos15.ext x1522).ch hch fun c hc hc' => (hos15.ext x1522).ne_ow (hN2.ext x1522).row (by decide) hc hc', _, hN', ?_⟩ (by show S.length - (i + 1) < S.length - i; omega)
          show (M2 ++ [(v63, nats (g ++ [x]))]).map Prod.snd = (A ++ (S.take (i + 1)).map fun s => g ++ [low.getD k 0 ||| s]).map nats
          rw [← hx, htk2, List.map_append, hMs2]
          simp
        intro w16 x16
        refine ⟨?_, ?_⟩
        · refine iCall ((ok_slices_ClipI (hrj15.ext x16)).mono ?_)
          rintro vr _ ⟨rfl, hcp⟩
          refine ⟨Ext.refl _, ?_⟩
          intro w18 x18
          refine iBs1 rfl rfl fun b19 w19 hb19 x19 hB19 => ?_
          intro w20 x20
          exact tail w20 vr b19 (((x16.trans x18).trans x19).trans x20) (hcp _ ((x18.trans x19).trans x20)) (hB19.ext x20)
        · refine iBs1 rfl rfl fun b19 w19 hb19 x19 hB19 => ?_
          intro w20 x20
          refine iCall ((ok_slices_ClipI (hrj15.ext ((x16.trans x19).trans x20))).mono ?_)
          rintro vr _ ⟨rfl, hcp⟩
          refine ⟨Ext.refl _, ?_⟩
          intro w18 x18
          exact tail w18 vr b19 (((x16.trans x19).trans x20).trans x18) (hcp _ x18) (hB19.ext (x20.trans x18))
      · have : i = S.length := by omega
        subst this
        refine iAdd (by omega) ?_
        refine hKn2 (un2, j + 1) _ ⟨hj1, M2, hN2, ?_⟩ (by show L.length - (j + 1) < L.length - j; omega)
        show M2.map Prod.snd = (((allL low high k).take (j + 1)).flatMap fun g => S.map fun s => g ++ [low.getD k 0 ||| s]).map nats
        rw [hfin, hMs2, List.take_length]
    · have : j = L.length := by omega
      subst this
      rw [hLl, List.take_length, ← hnx] at hMs
      refine iAdd (by omega) ?_
      exact hKn (un, k + 1) _ ⟨hk1, x10.trans hN.x, M, hN.row.mono x10.size, hN.rows, hMs⟩ (by show m - (k + 1) < m - k; omega)
  · have : k = m := by omega
    subst this
    refine iCall ((ok_impl_sortedLists hoc hrc (by omega)).mono ?_)
    rintro vS w37 ⟨M, hoM, hch, hset, L', hp, hsub⟩
    have x37 : Ext w w37 := (X7.trans x10).thenCh hch fun c hc => Nat.le_trans X7.size (hoc.blk c hc).1
    have hML : ∀ y ∈ M, y ∈ L := fun y hy => hp.mem_iff.1 (hsub.mem hy)
    have hrM : RowsV t_i64 w37 M := fun y hy => (hrc y (hML y hy)).ch hch fun c hc hc' => (hrc y (hML y hy)).ne_ow hoc (by decide) hc hc'
    have hMl : M.length ≤ 128 := by
      have h1 := hsub.length_le
      have h2 := hp.length_eq
      omega
    have hMk : ∀ y ∈ M, y.2.length = k := fun y hy => by
      have h1 : y.2 ∈ L.map Prod.snd := List.mem_map.2 ⟨y, hML y hy, rfl⟩
      rw [hL] at h1
      obtain ⟨g, hg, e⟩ := List.mem_map.1 h1
      rw [← e, nats_length]
      exact (mem_allB.1 hg).1
    refine iLenS hoM.sl ?_
    rw [evs_len]
    refine iLp (fun s : Value × Nat => [s.1, .int .i64 (s.2 : Int)]) (fun s w' => s.2 ≤ M.length ∧ Ext w37 w' ∧ ∃ Q, RowF w37.heap.size t_impl_Frame w' s.1 Q ∧ RowsF t_i64 w' Q ∧ Q.map keyR = (M.take s.2).map fun y => ((k : Int), y.2)) (fun s => M.length - s.2) (.slice none 0 0, 0) rfl
      ⟨Nat.zero_le _, Ext.refl _, [], RowF.nil _ _ _, fun r hr => absurd hr (by simp), rfl⟩ ?_
    rintro ⟨uo, j⟩ w39 Kn2 ⟨hj, x39, Q, hQ, hrQ, hQk⟩ hKn2
    have hj : j ≤ M.length := hj
    have x39 : Ext w37 w39 := x39
    have hQ : RowF w37.heap.size t_impl_Frame w39 uo Q := hQ
    have hQk : Q.map keyR = (M.take j).map fun y => ((k : Int), y.2) := hQk
    have hQl : Q.length = j := by
      have := congrArg List.length hQk
      simp only [List.length_map, List.length_take] at this
      omega
    intro _
    simp only [gx]
    refine iLt (iCndP (fun h2 => ?_) (fun h2 => ?_))
    · have hj1 : j < M.length := by omega
      refine iRdO (enc := encV) (hoM.ext x39) rfl hj1 ?_
      have hat := (RowsV.at hrM hj1).ext x39
      have hlk := hMk _ (show gt M j ∈ M by rw [gt_eq hj1]; exact List.getElem_mem _)
      refine iCall ((ok_slices_Clone_Si64_i64 hat (by omega)).mono ?_)
      rintro v79 w40 ⟨x40, ho40⟩
      refine iCall ((ok_impl_frameOf ho40).mono ?_)
      rintro _ w41 ⟨x41, v80, rfl, ho41⟩
      rw [hlk]
      have x4 := x40.trans x41
      refine RowF.app (P := Tryz.prog) (w := w41) u_Simpl_Frame i_Simpl_Frame (by omega) (n := (k : Int)) (gt M j).2 (hQ.ext x4) ho41.cell (x39.trans x4).size (by omega) fun u' w' hR hc => ?_
      refine iAdd (by omega) ?_
      have hgf : ∀ c, uo.ownBlock = some c → w37.heap.size ≤ c := fun c hc => (OwK.blk (hQ.ext x4).row c hc).1
      refine hKn2 (u', j + 1) _ ⟨hj1, (x39.trans x4).thenCh hc hgf, _, hR, fun r hr => ?_, ?_⟩ (by show M.length - (j + 1) < M.length - j; omega)
      · have hr41 : Ow 0 t_i64 w41 r.2.1 (ints r.2.2) := by
          rcases List.mem_append.1 hr with hr | hr
          · exact (hrQ r hr).ext x4
          · rw [List.mem_singleton] at hr
            subst hr
            exact ho41.mono (Nat.zero_le _)
        exact hr41.ch hc fun _ hk hk' => OwK.ne_ow (hQ.ext x4).row hr41 (by decide) hk' hk
      · show (Q ++ [_]).map keyR = (M.take (j + 1)).map _
        rw [List.map_append, hQk, List.take_succ_eq_append_getElem hj1, List.map_append, ← gt_eq hj1]
        rfl
    · have : j = M.length := by omega
      subst this
      rw [List.take_length] at hQk
      refine iLenK hQ.row.sl ?_
      refine iLe ?_
      rw [decide_eq_true (show ((Q.length : Nat) : Int) ≤ 200 by omega)]
      refine ⟨x37.trans x39, .inr ⟨hroom, uo, Q, rfl, ⟨OwK.mono hQ.row x37.size, hQ.cells⟩, hrQ, fun q => ?_⟩⟩
      rw [hQk]
      constructor
      · intro hq
        obtain ⟨y, hy, rfl⟩ := List.mem_map.1 hq
        have h1 : y.2 ∈ L.map Prod.snd := List.mem_map.2 ⟨y, hML y hy, rfl⟩
        rw [hL] at h1
        obtain ⟨g, hg, e⟩ := List.mem_map.1 h1
        exact ⟨g, hg, by rw [e]⟩
      · rintro ⟨g, hg, rfl⟩
        have h1 : nats g ∈ M.map Prod.snd := by
          rw [hset, mem_setA ordL, hL]
          exact List.mem_map.2 ⟨g, hg, rfl⟩
        obtain ⟨y, hy, e⟩ := List.mem_map.1 h1
        exact List.mem_map.2 ⟨y, hy, by rw [e]⟩
end
end Go.Proofs.YtmefbjdioaahdaaGreatDoor

/- Contracts: all filtrations of a model, and their flags, in the program. Conditions: the table of powers of ten (FormatInt reads it). -/
namespace Go.Vc
theorem iIdxN {P : Program} {w : World} {t e : TypeId} {n : Nat} {k : IntKind} {j : Nat} {cs : Array Value} {v : Value} {K : Value → Prop} (hu : P.underlying t = some (.array n e)) (hi : (P.info? e).map (fun i => i.size) = some 1) (hg : isAgg? P e = some false)
    (hj : j < n) (hv : cs[j]? = some v) (h : K v) : xR P w (Instr.index t (.agg cs) (.int k (j : Int))) K := by
  obtain ⟨i2, hi2, hz2⟩ := Option.map_eq_some_iff.1 hi
  refine ⟨v, fun w' _ => ?_, h⟩
  simp [Instr.index, asIntOf, run_underlying hu, run_size hi2, hz2, part, isAgg_run hg, hv, hj]
end Go.Vc
namespace Go.Proofs.YtmefbjdioaahdaaGreatDoor
open Go.Vc
/-- The flags seen in the first k frames, and the first j of the next. -/
def flJ (m : Nat) (G : List (List Nat)) (k j : Nat) : List Int := (List.range 11).map fun t => (((anyI m (G.take k) t || (decide (t < j) && flagI t ⟨m, gt G k⟩)).toNat : Nat) : Int)
theorem flJ_len (m : Nat) (G : List (List Nat)) (k j : Nat) : (flJ m G k j).length = 11 := by simp [flJ]
theorem flJ_zero (m : Nat) (G : List (List Nat)) (k : Nat) : flJ m G k 0 = flG m (G.take k) := by simp [flJ, flG]
theorem flJ_full {m : Nat} {G : List (List Nat)} {k : Nat} (hk : k < G.length) : flJ m G k 11 = flJ m G (k + 1) 0 := by
  rw [flJ_zero]
  unfold flJ flG
  refine List.map_congr_left fun t ht => ?_
  rw [decide_eq_true (List.mem_range.1 ht), Bool.true_and, List.take_succ_eq_append_getElem hk, ← gt_eq hk]
  unfold anyI
  rw [List.any_append]
  simp
theorem flJ_at {m : Nat} {G : List (List Nat)} {k j : Nat} (hj : j < 11) : (flJ m G k j)[j]? = some (((anyI m (G.take k) j).toNat : Nat) : Int) := by
  unfold flJ
  rw [List.getElem?_map, List.getElem?_range hj]
  simp
theorem flJ_set {m : Nat} {G : List (List Nat)} {k j : Nat} (_hj : j < 11) {x : Nat} (hx : x = (anyI m (G.take k) j || flagI j ⟨m, gt G k⟩).toNat) : (flJ m G k j).set j (x : Int) = flJ m G k (j + 1) := by
  subst hx
  refine List.ext_getElem (by rw [List.length_set, flJ_len, flJ_len]) fun i h1 h2 => ?_
  rw [List.getElem_set]
  simp only [flJ, List.getElem_map, List.getElem_range]
  by_cases e : j = i
  · subst e
    rw [if_pos rfl, decide_eq_true (show j < j + 1 by omega), Bool.true_and]
  · rw [if_neg e]
    by_cases h : i < j
    · rw [decide_eq_true h, decide_eq_true (show i < j + 1 by omega)]
    · rw [decide_eq_false h, decide_eq_false (show ¬ i < j + 1 by omega)]
/-- The frames of a row. -/
def frL (L : List PR) : List (List Nat) := L.map fun p => p.2.2.map Int.toNat
theorem frL_mem {m : Nat} {G : List (List Nat)} {L : List PR} (h : ∀ k, k ∈ L.map keyR ↔ ∃ g ∈ G, k = ((m : Int), nats g)) (g : List Nat) : g ∈ frL L ↔ g ∈ G := by
  unfold frL
  rw [List.mem_map]
  constructor
  · rintro ⟨p, hp, rfl⟩
    obtain ⟨g, hg, e⟩ := (h (keyR p)).1 (List.mem_map.2 ⟨p, hp, rfl⟩)
    have e2 : p.2.2 = nats g := congrArg Prod.snd e
    rw [e2, toNat_nats]; exact hg
  · intro hg
    obtain ⟨p, hp, e⟩ := List.mem_map.1 ((h _).2 ⟨g, hg, rfl⟩)
    have e2 : p.2.2 = nats g := congrArg Prod.snd e
    exact ⟨p, hp, by rw [e2, toNat_nats]⟩
theorem frL_at {m : Nat} {G : List (List Nat)} {L : List PR} (h : ∀ k, k ∈ L.map keyR ↔ ∃ g ∈ G, k = ((m : Int), nats g)) {k : Nat} (hk : k < L.length) : gt (frL L) k ∈ G ∧ (gt L k).1 = (m : Int) ∧ (gt L k).2.2 = nats (gt (frL L) k) := by
  obtain ⟨g, hg, e⟩ := (h (keyR (gt L k))).1 (List.mem_map.2 ⟨_, by rw [gt_eq hk]; exact List.getElem_mem _, rfl⟩)
  have e1 : (gt L k).1 = (m : Int) := congrArg Prod.fst e
  have e2 : (gt L k).2.2 = nats g := congrArg Prod.snd e
  have e3 : gt (frL L) k = g := by
    rw [gt_eq (by unfold frL; rw [List.length_map]; exact hk)]
    unfold frL
    rw [List.getElem_map, ← gt_eq hk, e2, toNat_nats]
  rw [e3]
  exact ⟨hg, e1, e2⟩
theorem flG_mem {m : Nat} {G G' : List (List Nat)} (h : ∀ g, g ∈ G ↔ g ∈ G') : flG m G = flG m G' := by
  unfold flG
  exact List.map_congr_left fun t _ => by rw [anyI_mem h]
section
variable {f : Fr} {V : List Nat} {a : Fm} {va vv vn : Value} {w : World}
theorem ok_impl_AllFiltrations (hM : MdG f V a) (hT : TabOk w) (hs : SlN w va f.a) (hv : SlN w vv V) (hn : FmS w vn a) :
    Cal Tryz.prog f_impl_AllFiltrations #[.agg #[.int .i64 (f.n : Int), va, vv], vn] w fun r w' => Ext w w' ∧ ((7 < roomK (leaA f (cM f V a) (fM f V a).length) (greA f (fun v => V.getD v 0) a (fM f V a) false false) (fM f V a).length ∧ r = .tuple #[.slice none 0 0, .int .i64 3]) ∨
      (roomK (leaA f (cM f V a) (fM f V a).length) (greA f (fun v => V.getD v 0) a (fM f V a) false false) (fM f V a).length ≤ 7 ∧ ∃ u L, r = .tuple #[u, .int .i64 0] ∧ RowF w.heap.size t_impl_Frame w' u L ∧ RowsF t_i64 w' L ∧
        ∀ k, k ∈ L.map keyR ↔ ∃ g ∈ allL (leaA f (cM f V a) (fM f V a).length) (greA f (fun v => V.getD v 0) a (fM f V a) false false) (fM f V a).length, k = (((fM f V a).length : Int), nats g))) := by
  have hR : RawS w vn (rawF a) := FmS.raw hn
  apply c_impl_AllFiltrations; unfold S_impl_AllFiltrations
  refine iNew fun b2 w1 hb2 x1 hB2 => ?_
  have hB2 : Blk _ w1 b2 [.int .i64 (f.n : Int), va, vv] := hB2
  refine iLdA hB2 rfl ?_
  refine iRet (ok_impl_modelCode (l := nats f.a) (vs := nats V) (hs.ext x1) (hv.ext x1) (SlK.ext hR x1) hM.len) fun w2 x2 => ?_
  rw [if_pos ⟨hM.m, hM.isN⟩]
  refine iNe (iCndF rfl ?_)
  refine iLdA (hB2.ext x2) rfl ?_
  have X2 := x1.trans x2
  refine iCall ((ok_impl_newFilter hM.ok hM.six hM.lt hM.good (by have := hM.size; omega) (hT.ext X2) (hs.ext X2) (hv.ext X2) (SlK.ext hn X2)).mono ?_)
  rintro _ w3 ⟨bF, rfl, x3, hbF, hF⟩
  have hF : FlW w3 bF f V a (cM f V a) := hF
  have X3 := X2.trans x3
  refine iCall ((ok_impl_filter_allFiltrations hM hF).mono ?_)
  rintro _ w4 ⟨x4, ⟨hr, rfl⟩ | ⟨hr, u, L, rfl, hL, hrL, hk⟩⟩
  · refine iEx (by rfl) (iEx (by rfl) (iNot (iCndT rfl ?_)))
    exact ⟨X3.trans x4, .inl ⟨hr, rfl⟩⟩
  · refine iEx (by rfl) (iEx (by rfl) (iNot (iCndF rfl ?_)))
    exact ⟨X3.trans x4, .inr ⟨hr, u, L, rfl, hL.mono X3.size, hrL, hk⟩⟩
theorem gre_ok (hM : MdG f V a) (more both : Bool) : (⟨(fM f V a).length, greA f (fun v => V.getD v 0) a (fM f V a) more both⟩ : Fr).ok := relA_ok (Nat.le_trans (fM_le f V a) hM.ok.1) _
/-- Each of the lists is a frame. -/
theorem all_ok (hM : MdG f V a) {g : List Nat} (hg : g ∈ allL (leaA f (cM f V a) (fM f V a).length) (greA f (fun v => V.getD v 0) a (fM f V a) false false) (fM f V a).length) : (⟨(fM f V a).length, g⟩ : Fr).ok := by
  have hF8 := Nat.le_trans (fM_le f V a) hM.ok.1
  exact betw_ok hF8 (gre_ok hM false false) ((mem_allL (fun k => relA_lt hF8 _ k) (lea_gre hM.ok (cM_ok f V a))).1 hg)
theorem ok_impl_FiltrationFlags (hM : MdG f V a) (hT : TabOk w) (hs : SlN w va f.a) (hv : SlN w vv V) (hn : FmS w vn a) :
    Cal Tryz.prog f_impl_FiltrationFlags #[.agg #[.int .i64 (f.n : Int), va, vv], vn] w fun r w' => Ext w w' ∧ ((7 < roomK (leaA f (cM f V a) (fM f V a).length) (greA f (fun v => V.getD v 0) a (fM f V a) false false) (fM f V a).length ∧ r = .tuple #[.slice none 0 0, .int .i64 3]) ∨
      (roomK (leaA f (cM f V a) (fM f V a).length) (greA f (fun v => V.getD v 0) a (fM f V a) false false) (fM f V a).length ≤ 7 ∧ ∃ u, r = .tuple #[u, .int .i64 0] ∧ SlI w' u (flG (fM f V a).length (allL (leaA f (cM f V a) (fM f V a).length) (greA f (fun v => V.getD v 0) a (fM f V a) false false) (fM f V a).length)))) := by
  apply c_impl_FiltrationFlags; unfold S_impl_FiltrationFlags
  refine iNew fun b2 w1 hb2 x1 hB2 => ?_
  have hB2 : Blk _ w1 b2 [.int .i64 (f.n : Int), va, vv] := hB2
  refine iLdA hB2 rfl ?_
  refine iCall ((ok_impl_AllFiltrations hM (hT.ext x1) (hs.ext x1) (hv.ext x1) (SlK.ext hn x1)).mono ?_)
  rintro _ w2 ⟨x2, ⟨hr, rfl⟩ | ⟨hr, u, L, rfl, hL, hrL, hk⟩⟩
  · refine iEx (by rfl) (iEx (by rfl) (iNe (iCndT rfl ?_)))
    exact ⟨x1.trans x2, .inl ⟨hr, rfl⟩⟩
  · refine iEx (by rfl) (iEx (by rfl) (iNe (iCndF rfl ?_)))
    have hok : ∀ g ∈ allL (leaA f (cM f V a) (fM f V a).length) (greA f (fun v => V.getD v 0) a (fM f V a) false false) (fM f V a).length, (⟨(fM f V a).length, g⟩ : Fr).ok := fun g hg => all_ok hM hg
    generalize allL (leaA f (cM f V a) (fM f V a).length) (greA f (fun v => V.getD v 0) a (fM f V a) false false) (fM f V a).length = G at *
    generalize (fM f V a).length = m at *
    have X2 := x1.trans x2
    refine iNew fun b8 w3 hb8 x3 hB8 => ?_
    have hB8 : Blk 58 w3 b8 (ints (flJ m (frL L) 0 0)) := hB8
    refine iLenK hL.row.sl ?_
    have hfl : (frL L).length = L.length := by simp [frL]
    have hLm := SlK.len hL.row.sl
    refine iLp (fun k : Nat => [.int .i64 (k : Int)]) (fun k w' => k ≤ L.length ∧ Ext w2 w' ∧ Blk 58 w' b8 (ints (flJ m (frL L) k 0))) (fun k => L.length - k) 0 rfl ⟨Nat.zero_le _, x3, hB8⟩ ?_
    rintro k w5 Kn ⟨hkl, x5, hB5⟩ hKn
    intro _
    simp only [gx]
    refine iLt (iCndP (fun h => ?_) (fun h => ?_))
    · have hk1 : k < L.length := by omega
      obtain ⟨hg, e1, e2⟩ := frL_at hk hk1
      have hgo := hok _ hg
      have hfull := flJ_full (m := m) (G := frL L) (k := k) (by omega)
      refine iRdFr (hL.ext x5) rfl hk1 ?_
      have hrow := (hrL _ (show gt L k ∈ L by rw [gt_eq hk1]; exact List.getElem_mem _)).ext x5
      rw [e2] at hrow
      unfold valR
      rw [e1]
      refine iNew fun b10 w6 hb10 x6 hB10 => ?_
      have hB10 : Blk 26 w6 b10 [.int .i64 0, .slice none 0 0] := hB10
      refine iStAB hB10 rfl rfl (hrow.pair _) fun w7 hu7 hB7 => ?_
      have x57 : Ext w5 w7 := x6.upd hu7 (by omega)
      refine iLdA hB7 rfl ?_
      refine iRet (ok_impl_flagsOf hgo (show SlN w7 _ (gt (frL L) k) from (hrow.ext x57).sl)) fun w8 x8 => ?_
      have hB88 := (hB5.ext x57).ext x8
      have x58 := (x5.trans x57).trans x8
      refine iLp (fun j : Nat => [.int .i64 (j : Int)]) (fun j w' => j ≤ 11 ∧ Ext w2 w' ∧ Blk 58 w' b8 (ints (flJ m (frL L) k j))) (fun j => 11 - j) 0 rfl ⟨Nat.zero_le _, x58, hB88⟩ ?_
      rintro j w10 Kn2 ⟨hj, x10, hB10'⟩ hKn2
      intro _
      simp only [gx]
      refine iLt (iCndP (fun h2 => ?_) (fun h2 => ?_))
      · have hj1 : j < 11 := by omega
        have hfv : (((flK ⟨m, gt (frL L) k⟩ 11).map (Value.int .i64)).toArray)[j]? = some (.int .i64 (((flagI j ⟨m, gt (frL L) k⟩).toNat : Nat) : Int)) := by
          simp [flK, hj1]
        refine iIdxN (n := 11) (e := t_i64) (by kernel_rfl) (by kernel_rfl) (by kernel_rfl) hj1 hfv ?_
        refine iIaA hj1 ?_
        have hat := flJ_at (m := m) (G := frL L) (k := k) hj1
        refine iLdB hB10' (v := .int .i64 (((anyI m ((frL L).take k) j).toNat : Nat) : Int)) (by unfold ints; rw [List.getElem?_map, hat]; rfl) ?_
        refine iMaxN ?_
        refine iIaA hj1 ?_
        refine iStB hB10' (by rw [ints_length, flJ_len]; exact hj1) rfl fun hB11 => ?_
        have hset := flJ_set (m := m) (G := frL L) (k := k) hj1 (x := max (anyI m ((frL L).take k) j).toNat (flagI j ⟨m, gt (frL L) k⟩).toNat) (by cases anyI m ((frL L).take k) j <;> cases flagI j ⟨m, gt (frL L) k⟩ <;> rfl)
        have e : (ints (flJ m (frL L) k j)).set j (.int .i64 ((max (anyI m ((frL L).take k) j).toNat (flagI j ⟨m, gt (frL L) k⟩).toNat : Nat) : Int)) = ints (flJ m (frL L) k (j + 1)) := by
          rw [← hset]; unfold ints; rw [List.map_set]
        rw [e] at hB11
        refine iAdd (by omega) ?_
        exact hKn2 (j + 1) _ ⟨by omega, x10.upd (Upd.setCell _ _ _ _) (by omega), hB11⟩ (by omega)
      · have : j = 11 := by omega
        subst this
        refine iAdd (by omega) ?_
        refine hKn (k + 1) _ ⟨by omega, x10, ?_⟩ (by omega)
        rw [← hfull]; exact hB10'
    · have : k = L.length := by omega
      subst this
      refine iSlArr (n := 11) (e := t_i64) (by kernel_rfl) (by kernel_rfl) ?_
      refine ⟨X2.trans x5, .inr ⟨hr, _, rfl, ?_⟩⟩
      rw [flJ_zero, ← hfl, List.take_length, flG_mem (frL_mem hk)] at hB5
      exact Sl.ofBlk (n := 11) hB5 (by rw [ints_length]; simp [flG]) (by omega)
end
end Go.Proofs.YtmefbjdioaahdaaGreatDoor

/- Contracts: all filtrations, in the reference. Conditions: none. -/
namespace Go.Vc
theorem iBs02N {w : World} {e : TypeId} {z0 z1 : Value} {K : Value → World → Prop} (h : ∀ v w', Ext w w' → OwK 2 w.heap.size e w' v 0 [] → K v w') : xBs e (Value.cells (.agg #[z0, z1])) 2 0 [] w K := by
  refine ⟨_, rfl, h _ _ (Ext.alloc w _) ?_⟩
  exact ⟨rfl, .inr ⟨w.heap.size, 0, _, rfl, Nat.le_refl _, heap_alloc_new w _, Nat.le_refl _, by simp [maxLen], by simp [show Array.range 0 = #[] from rfl], rfl⟩⟩
end Go.Vc
namespace Go.Proofs.YtmefbjdioaahdaaGreatDoor
open Go.Vc
section
variable {f : Fr} {V : List Nat} {a : Fm} {cs : List Value} {w : World}
theorem ok_spec_l14All (hM : MdG f V a) (hS : SpW w cs f V a (cM f V a) (fM f V a)) (hroom : roomK (leaA f (cM f V a) (fM f V a).length) (greA f (fun v => V.getD v 0) a (fM f V a) false false) (fM f V a).length ≤ 7) :
    Cal Tryz.prog f_spec_l14All #[.agg cs.toArray] w fun r w' => Ext w w' ∧ ∃ L, RowF w.heap.size t_impl_Frame w' r L ∧ (∀ r ∈ L, Ow w.heap.size t_i64 w' r.2.1 (ints r.2.2)) ∧ L.map keyR = (allL (leaA f (cM f V a) (fM f V a).length) (greA f (fun v => V.getD v 0) a (fM f V a) false false) (fM f V a).length).map fun g => (((fM f V a).length : Int), nats g) := by
  obtain ⟨hcl, hcF, hFn, hF8⟩ := SpW.facts hM
  obtain ⟨hl8, hcc⟩ := hS.cells
  apply c_spec_l14All; unfold S_spec_l14All
  refine iNew fun b1 w1 hb1 x1 hB1 => ?_
  have hB1 : Blk 48 w1 b1 cs := hB1
  refine iLdA hB1 hl8 (iLdA hB1 hl8 ?_)
  intro w2 x2
  refine iCall ((ok_spec_l14Least (cs := cs) hM.ok (hS.ext (x1.trans x2)) hcl hcF hF8).mono ?_)
  rintro v16 w3 ⟨x3, hol⟩
  refine ⟨x3, ?_⟩
  intro w4 x4
  have X4 := ((x1.trans x2).trans x3).trans x4
  refine iCall ((ok_spec_l14Greatest (cs := cs) hM.ok hM.lt (hS.ext X4) hFn hF8 false false).mono ?_)
  rintro v18 w5 ⟨x5, hoh⟩
  intro w6 x6
  have X6 := (X4.trans x5).trans x6
  have hsl : SlN w6 v16 (leaA f (cM f V a) (fM f V a).length) := (hol.ext ((x4.trans x5).trans x6)).sl
  have hsh : SlN w6 v18 (greA f (fun v => V.getD v 0) a (fM f V a) false false) := (hoh.ext x6).sl
  have ll : (leaA f (cM f V a) (fM f V a).length).length = (fM f V a).length := relA_len _ _
  have lh : (greA f (fun v => V.getD v 0) a (fM f V a) false false).length = (fM f V a).length := relA_len _ _
  have gh : ∀ k, (greA f (fun v => V.getD v 0) a (fM f V a) false false).getD k 0 < 2 ^ 8 := fun k => relA_lt hF8 _ k
  have gl : ∀ k, (leaA f (cM f V a) (fM f V a).length).getD k 0 < 2 ^ 8 := fun k => relA_lt hF8 _ k
  generalize leaA f (cM f V a) (fM f V a).length = low at *
  generalize greA f (fun v => V.getD v 0) a (fM f V a) false false = high at *
  generalize (fM f V a).length = m at *
  refine iBs0 fun v19 w7 z7 x7 ho19 => ?_
  refine iBs1 rfl ho19.cell fun bc w8 hbc x8 hBc => ?_
  have x68 := x7.trans x8
  refine iLp (fun s : Value × Nat => [s.1, .int .i64 (s.2 : Int)]) (fun s w' => s.2 ≤ m ∧ Ext w6 w' ∧ ∃ L, Ow w6.heap.size t_Si64 w' s.1 (evL L) ∧ RowsV t_i64 w' L ∧ L.map Prod.snd = (allL low high s.2).map nats) (fun s => m - s.2) (.slice (some ⟨bc, 0, none⟩) 1 1, 0) rfl
    ⟨Nat.zero_le _, x68, [(v19, [])], by
      have e : evL [(v19, ([] : List Int))] = [v19] := by rw [evL, List.map_cons, List.map_nil, encV_eq (x := (v19, [])) ho19.cell]
      show Ow _ _ _ _ (evL [(v19, [])])
      rw [e]
      exact Ow.ofBlk (n := 1) hBc (by omega) rfl (by omega), fun x hx => by
      rw [List.mem_singleton] at hx; subst hx
      rw [encV_eq (x := (v19, [])) ho19.cell]
      exact (ho19.ext x8).mono (Nat.zero_le _), rfl⟩ ?_
  rintro ⟨uc, k⟩ w10 Kn ⟨hk, x10, L, hoc, hrc, hL⟩ hKn
  have hk : k ≤ m := hk
  have x10 : Ext w6 w10 := x10
  have hoc : Ow w6.heap.size t_Si64 w10 uc (evL L) := hoc
  have hL : L.map Prod.snd = (allL low high k).map nats := hL
  have hLl : L.length = (allL low high k).length := by have := congrArg List.length hL; simpa using this
  have hL128 := allL_le hk hroom
  intro _
  simp only [gx]
  refine iLenN (hsl.ext x10) ?_
  rw [ll]
  refine iLt (iCndP (fun h => ?_) (fun h => ?_))
  · have hk1 : k < m := by omega
    have hnx : allL low high (k + 1) = (allL low high k).flatMap fun g => (subL low high k).map fun s => g ++ [low.getD k 0 ||| s] := rfl
    have hnx128 := allL_le (low := low) (high := high) (show k + 1 ≤ m by omega) hroom
    have hlen1 : ∀ j, (((allL low high k).take j).flatMap fun g => (subL low high k).map fun s => g ++ [low.getD k 0 ||| s]).length ≤ 128 := fun j => by
      refine Nat.le_trans ?_ hnx128
      rw [hnx]
      have e : ((allL low high k).flatMap fun g => (subL low high k).map fun s => g ++ [low.getD k 0 ||| s]) = (((allL low high k).take j).flatMap fun g => (subL low high k).map fun s => g ++ [low.getD k 0 ||| s]) ++ (((allL low high k).drop j).flatMap fun g => (subL low high k).map fun s => g ++ [low.getD k 0 ||| s]) := by
        rw [← List.flatMap_append, List.take_append_drop]
      rw [e, List.length_append]
      omega
    have g1 := gh k
    have g2 := gl k
    have hSlen : (subL low high k).length ≤ 2 ^ 8 := by
      rw [subL_len]
      exact Nat.pow_le_pow_right (by omega) (popc_full (m := 8) (by decide) (sdiff_lt g1))
    have hSlt : ∀ s ∈ subL low high k, s < 2 ^ 8 := fun s hs => by
      have := sdiff_eq_zero.1 ((mem_subL g1).1 hs)
      apply Nat.lt_of_not_le
      intro hle
      obtain ⟨y, hy, hb⟩ := Nat.exists_ge_and_testBit_of_ge_two_pow hle
      have h1 := this y hb
      rw [testBit_sdiff, Bool.and_eq_true] at h1
      have := bit_lt_n g1 h1.1
      omega
    refine iJnX (fun xs w' => ∃ vs nx, xs = [vs, nx] ∧ Ow w10.heap.size t_i64 w' vs (ints (nats (subL low high k))) ∧ NxW w10 w' nx []) (fun J hJ => ?_) ?_
    · refine iIaNN (hsh.ext x10) (by omega) fun p hp => iLd hp ?_
      refine iIaNN (hsl.ext x10) (by omega) fun p hp => iLd hp ?_
      refine iBAndNot (by omega) (by omega) ?_
      intro w13 x13
      refine ⟨?_, ?_⟩
      · refine iCall ((ok_spec_l01Subs (sdiff_lt g1) w13).mono ?_)
        rintro vs w14 ⟨x14, hos⟩
        intro w15 x15
        refine iBs0 fun v37 w16 z16 x16 ho37 => ⟨x16, ?_⟩
        intro w17 x17
        have y1 := (x13.trans x14).trans x15
        exact hJ _ _ ⟨vs, v37, rfl, (hos.ext ((x15.trans x16).trans x17)).mono x13.size, (y1.trans x16).trans x17, (ho37.ext x17).mono y1.size, fun x hx => by cases hx⟩
      · refine iBs0 fun v37 w18 z18 x18 ho37 => ⟨x18, ?_⟩
        intro w19 x19
        refine iCall ((ok_spec_l01Subs (sdiff_lt g1) w19).mono ?_)
        rintro vs w20 ⟨x20, hos⟩
        intro w21 x21
        have y1 := (x13.trans x18).trans x19
        exact hJ _ _ ⟨vs, v37, rfl, (hos.ext x21).mono y1.size, (y1.trans x20).trans x21, (ho37.ext ((x19.trans x20).trans x21)).mono x13.size, fun x hx => by cases hx⟩
    rintro _ w12 ⟨vs, nx, rfl, hos, hN0⟩
    intro _
    simp only [gx]
    -- the masks of the row
    refine iBs0 fun v38 w22 z22 x22 ho38 => ?_
    refine iLp (fun s : Value × Nat => [s.1, .int .i64 (s.2 : Int)]) (fun s w' => s.2 ≤ (subL low high k).length ∧ Ext w12 w' ∧ Ow w12.heap.size t_i64 w' s.1 (ints (nats (((subL low high k).take s.2).map fun s => low.getD k 0 ||| s)))) (fun s => (subL low high k).length - s.2) (v38, 0) rfl ⟨Nat.zero_le _, x22, ho38⟩ ?_
    rintro ⟨um, j⟩ w24 Kn1 ⟨hj, x24, hom⟩ hKn1
    have hj : j ≤ (subL low high k).length := hj
    have x24 : Ext w12 w24 := x24
    have hom : Ow w12.heap.size t_i64 w24 um (ints (nats (((subL low high k).take j).map fun s => low.getD k 0 ||| s))) := hom
    intro _
    simp only [gx]
    have hos24 := hos.ext x24
    refine iLenN (show SlN w24 vs _ from hos24.sl) ?_
    refine iLt (iCndP (fun h2 => ?_) (fun h2 => ?_))
    · have hj1 : j < (subL low high k).length := by omega
      refine iJnX (fun xs w' => ∃ um', xs = [um'] ∧ Ext w12 w' ∧ Ow w12.heap.size t_i64 w' um' (ints (nats (((subL low high k).take (j + 1)).map fun s => low.getD k 0 ||| s)))) (fun J hJ => ?_) ?_
      · refine iIaNN (hsl.ext (x10.trans (hN0.x.trans x24))) (by omega) fun p hp => iLd hp ?_
        refine iIaNN (show SlN w24 vs _ from hos24.sl) hj1 fun p hp => iLd hp ?_
        have g3 : (subL low high k).getD j 0 < 2 ^ 8 := by
          rw [show (subL low high k).getD j 0 = (subL low high k)[j] by simp [hj1]]; exact hSlt _ (List.getElem_mem _)
        refine iBOr (by omega) (by omega) ?_
        intro w27 x27
        refine iBs1 rfl rfl fun b28 w28 hb28 x28 hB28 => ?_
        intro w29 x29
        have y := (x27.trans x28).trans x29
        have hlen : (ints (nats (((subL low high k).take j).map fun s => low.getD k 0 ||| s))).length = j := by rw [ints_length, nats_length, List.length_map, List.length_take]; omega
        refine iAppA u_Si64 i_Si64 rfl (hom.ext y) (Sl.ofBlk (n := 1) (hB28.ext x29) rfl (by omega)) (fun x hx => by simp at hx; subst hx; rfl) (by rw [hlen]; simp; omega) (by rw [hlen]; simp; omega) (x24.trans y).size fun um' w30 ho30 hg30 _ => ?_
        intro w31 x31
        refine hJ _ _ ⟨um', rfl, ((x24.trans y).grown hg30 fun c hc => ((hom.ext y).blk c hc).1).trans x31, ?_⟩
        have e : ints (nats (((subL low high k).take (j + 1)).map fun s => low.getD k 0 ||| s)) = ints (nats (((subL low high k).take j).map fun s => low.getD k 0 ||| s)) ++ [.int .i64 ((low.getD k 0 ||| (subL low high k).getD j 0 : Nat) : Int)] := by
          rw [List.take_succ_eq_append_getElem hj1, show (subL low high k).getD j 0 = (subL low high k)[j] by simp [hj1]]
          generalize (subL low high k).take j = A
          simp [ints, nats]
        rw [e]; exact ho30.ext x31
      · rintro _ w26 ⟨um', rfl, x26, ho26⟩
        intro _
        simp only [gx]
        refine iAdd (by omega) ?_
        exact hKn1 (um', j + 1) _ ⟨hj1, x26, ho26⟩ (by show (subL low high k).length - (j + 1) < (subL low high k).length - j; omega)
    have : j = (subL low high k).length := by omega
    subst this
    rw [List.take_length] at hom
    have hN1 := hN0.ext x24
    refine iLp (fun s : Value × Nat => [s.1, .int .i64 (s.2 : Int)]) (fun s w' => s.2 ≤ L.length ∧ Ow w12.heap.size t_i64 w' um (ints (nats ((subL low high k).map fun s => low.getD k 0 ||| s))) ∧ ∃ M, NxW w10 w' s.1 M ∧ M.map Prod.snd = (((allL low high k).take s.2).flatMap fun g => (subL low high k).map fun s => g ++ [low.getD k 0 ||| s]).map nats) (fun s => L.length - s.2) (nx, 0) rfl ⟨Nat.zero_le _, hom, [], hN1, rfl⟩ ?_
    rintro ⟨un, j⟩ w33 Kn2 ⟨hj, hom33, M, hN, hMs⟩ hKn2
    have hj : j ≤ L.length := hj
    have hN : NxW w10 w33 un M := hN
    have hMs : M.map Prod.snd = (((allL low high k).take j).flatMap fun g => (subL low high k).map fun s => g ++ [low.getD k 0 ||| s]).map nats := hMs
    intro _
    simp only [gx]
    refine iLenS (hoc.ext hN.x).sl ?_
    rw [evs_len]
    refine iLt (iCndP (fun h2 => ?_) (fun h2 => ?_))
    · have hj1 : j < L.length := by omega
      have hj2 : j < (allL low high k).length := by omega
      have hg : (gt L j).2 = nats (allL low high k)[j] := by
        rw [gt_eq hj1]
        have e1 : (L.map Prod.snd)[j]'(by rw [List.length_map]; exact hj1) = L[j].2 := List.getElem_map ..
        rw [← e1]
        simp only [hL, List.getElem_map]
      have htk : (allL low high k).take (j + 1) = (allL low high k).take j ++ [(allL low high k)[j]] := List.take_succ_eq_append_getElem hj2
      have hle := hlen1 (j + 1)
      rw [htk, List.flatMap_append, List.length_append] at hle
      have hfin : (((allL low high k).take (j + 1)).flatMap fun g => (subL low high k).map fun s => g ++ [low.getD k 0 ||| s]) = (((allL low high k).take j).flatMap fun g => (subL low high k).map fun s => g ++ [low.getD k 0 ||| s]) ++ (subL low high k).map fun s => (allL low high k)[j] ++ [low.getD k 0 ||| s] := by
        rw [htk, List.flatMap_append, List.flatMap_cons, List.flatMap_nil, List.append_nil]
      have hgl : ((allL low high k)[j]).length = k := (mem_allB.1 (List.getElem_mem hj2)).1
      generalize (allL low high k)[j] = g at *
      generalize (((allL low high k).take j).flatMap fun g => (subL low high k).map fun s => g ++ [low.getD k 0 ||| s]) = A at *
      rw [List.flatMap_cons, List.flatMap_nil, List.append_nil, List.length_map] at hle
      have hrj := hrc _ (show gt L j ∈ L by rw [gt_eq hj1]; exact List.getElem_mem _)
      rw [hg] at hrj
      have rdL : ∀ {w' : World} {K : Value → Prop}, Ext w10 w' → K (encV (gt L j)) → xIa 1 uc (.int .i64 (j : Int)) fun p => xLd w' p K := fun x hK => iRdO (enc := encV) (hoc.ext x) rfl hj1 hK
      generalize encV (gt L j) = vj at *
      generalize subL low high k = S at *
      refine iLp (fun s : Value × Nat => [s.1, .int .i64 (s.2 : Int)]) (fun s w' => s.2 ≤ S.length ∧ Ow w12.heap.size t_i64 w' um (ints (nats (S.map fun s => low.getD k 0 ||| s))) ∧ ∃ M', NxW w10 w' s.1 M' ∧ M'.map Prod.snd = (A ++ (S.take s.2).map fun s => g ++ [low.getD k 0 ||| s]).map nats) (fun s => S.length - s.2) (un, 0) rfl
        ⟨Nat.zero_le _, hom33, M, hN, by rw [List.take_zero, List.map_nil, List.append_nil]; exact hMs⟩ ?_
      rintro ⟨un2, i⟩ w35 Kn3 ⟨hi, hom35, M2, hN2, hMs2⟩ hKn3
      have hi : i ≤ S.length := hi
      have hN2 : NxW w10 w35 un2 M2 := hN2
      have hMs2 : M2.map Prod.snd = (A ++ (S.take i).map fun s => g ++ [low.getD k 0 ||| s]).map nats := hMs2
      have hMl : M2.length ≤ 128 := by
        have := congrArg List.length hMs2
        simp only [List.length_map, List.length_append, List.length_take] at this
        omega
      intro _
      simp only [gx]
      refine iLenN (show SlN w35 um _ from hom35.sl) ?_
      rw [List.length_map]
      refine iLt (iCndP (fun h3 => ?_) (fun h3 => ?_))
      · have hi1 : i < S.length := by omega
        have htk2 : S.take (i + 1) = S.take i ++ [S.getD i 0] := by
          rw [List.take_succ_eq_append_getElem hi1, show S.getD i 0 = S[i] by simp [hi1]]
        refine iJnX (fun xs w' => ∃ u' v, xs = [u'] ∧ Ow w12.heap.size t_i64 w' um (ints (nats (S.map fun s => low.getD k 0 ||| s))) ∧ NxW w10 w' u' (M2 ++ [(v, nats (g ++ [low.getD k 0 ||| S.getD i 0]))])) (fun J hJ => ?_) ?_
        · refine rdL hN2.x ?_
          refine iIaNN (show SlN w35 um _ from hom35.sl) (by rw [List.length_map]; exact hi1) fun p hp => iLd hp ?_
          have eat : (S.map fun s => low.getD k 0 ||| s).getD i 0 = low.getD k 0 ||| S.getD i 0 := by simp [hi1]
          rw [eat]
          have hrj35 : Ow 0 t_i64 w35 vj (ints (nats g)) := hrj.ext hN2.x
          generalize low.getD k 0 ||| S.getD i 0 = x at *
          have hgi : (ints (nats g)).length = k := by rw [ints_length, nats_length, hgl]
          -- the way on
          have tail : ∀ wz v74 q, Ext w35 wz → Ow w35.heap.size t_i64 wz v74 (ints (nats g)) → Blk t_i64 wz q [.int .i64 (x : Int)] → xOp Tryz.prog (Builtin.append_ #[t_Si64, t_Si64] t_Si64 #[v74, .slice (some ⟨q, 0, none⟩) 1 1]) wz fun v63 w21 => ∀ w22, Ext w21 w22 → xBs t_Si64 (Value.cells (.slice none 0 0)) 1 1 [(0, v63)] w22 fun v64 w23 =>
              ∀ w24, Ext w23 w24 → xOp Tryz.prog (Builtin.append_ #[t_SSi64, t_SSi64] t_SSi64 #[un2, v64]) w24 fun v65 w25 => ∀ w26, Ext w25 w26 → J [v65] w26 := by
            intro wz v74 q xz ho74 hBq
            refine iAppA u_Si64 i_Si64 rfl ho74 (Sl.ofBlk (n := 1) hBq rfl (by omega)) (fun x hx => by simp at hx; subst hx; rfl) (by rw [hgi]; simp; omega) (by rw [hgi]; simp; omega) xz.size fun v63 w21 ho21 hg21 _ => ?_
            have x3521 : Ext w35 w21 := xz.grown hg21 fun c hc => (ho74.blk c hc).1
            intro w22 x22
            have x3522 := x3521.trans x22
            have e : ints (nats g) ++ [.int .i64 (x : Int)] = ints (nats (g ++ [x])) := by rw [nats_snoc]; simp [ints]
            rw [e] at ho21
            refine (hN2.ext x3522).push (l := nats (g ++ [x])) ((ho21.ext x22).mono (Nat.zero_le _)) (by omega) fun u' w' hN' hch => ?_
            exact hJ _ _ ⟨u', v63, rfl, (hom35.ext x3522).ch hch fun c hc hc' => (hom35.ext x3522).ne_ow (hN2.ext x3522).row (by decide) hc hc', hN'⟩
          intro w38 x38
          refine ⟨?_, ?_⟩
          · refine iCall ((ok_spec_l01Own (l := nats g) (hrj35.ext x38).sl (by rw [nats_length]; omega)).mono ?_)
            rintro v74 w39 ⟨x39, ho74⟩
            refine ⟨x39, ?_⟩
            intro w40 x40
            refine iBs1 rfl rfl fun b41 w41 hb41 x41 hB41 => ⟨x41, ?_⟩
            intro w42 x42
            exact tail w42 v74 b41 ((((x38.trans x39).trans x40).trans x41).trans x42) ((ho74.ext ((x40.trans x41).trans x42)).mono x38.size) (hB41.ext x42)
          · refine iBs1 rfl rfl fun b41 w49 hb41 x49 hB41 => ⟨x49, ?_⟩
            intro w50 x50
            refine iCall ((ok_spec_l01Own (l := nats g) (hrj35.ext ((x38.trans x49).trans x50)).sl (by rw [nats_length]; omega)).mono ?_)
            rintro v74 w51 ⟨x51, ho74⟩
            refine ⟨x51, ?_⟩
            intro w52 x52
            have y := (x38.trans x49).trans x50
            exact tail w52 v74 b41 ((y.trans x51).trans x52) ((ho74.ext x52).mono y.size) (hB41.ext ((x50.trans x51).trans x52))
        · have fin : ∀ u' v w', Ow w12.heap.size t_i64 w' um (ints (nats (S.map fun s => low.getD k 0 ||| s))) → NxW w10 w' u' (M2 ++ [(v, nats (g ++ [low.getD k 0 ||| S.getD i 0]))]) → Kn3 [u', .int .i64 ((i + 1 : Nat) : Int)] w' := fun u' v w' h1 h2 => by
            refine hKn3 (u', i + 1) _ ⟨hi1, h1, _, h2, ?_⟩ (by show S.length - (i + 1) < S.length - i; omega)
            show (M2 ++ [(v, nats (g ++ [low.getD k 0 ||| S.getD i 0]))]).map Prod.snd = (A ++ (S.take (i + 1)).map fun s => g ++ [low.getD k 0 ||| s]).map nats
            rw [htk2, List.map_append, hMs2]
            simp
          rintro _ w37 ⟨u', v, rfl, h1, h2⟩
          intro _
          simp only [gx]
          exact iAdd (by omega) (fin u' v w37 h1 h2)
      · have : i = S.length := by omega
        subst this
        refine iAdd (by omega) ?_
        refine hKn2 (un2, j + 1) _ ⟨hj1, hom35, M2, hN2, ?_⟩ (by show L.length - (j + 1) < L.length - j; omega)
        show M2.map Prod.snd = (((allL low high k).take (j + 1)).flatMap fun g => S.map fun s => g ++ [low.getD k 0 ||| s]).map nats
        rw [hfin, hMs2, List.take_length]
    · have : j = L.length := by omega
      subst this
      rw [hLl, List.take_length, ← hnx] at hMs
      refine iAdd (by omega) ?_
      exact hKn (un, k + 1) _ ⟨hk1, x10.trans hN.x, M, hN.row.mono x10.size, hN.rows, hMs⟩ (by show m - (k + 1) < m - k; omega)
  · have : k = m := by omega
    subst this
    have X10 := X6.trans x10
    have hMk : ∀ y ∈ L, y.2.length = k := fun y hy => by
      have h1 : y.2 ∈ L.map Prod.snd := List.mem_map.2 ⟨y, hy, rfl⟩
      rw [hL] at h1
      obtain ⟨g, hg, e⟩ := List.mem_map.1 h1
      rw [← e, nats_length]
      exact (mem_allB.1 hg).1
    refine iBs02N fun v84 w59 x59 ho84 => ?_
    refine iLp (fun s : Value × Nat => [s.1, .int .i64 (s.2 : Int)]) (fun s w' => s.2 ≤ L.length ∧ Ext w10 w' ∧ ∃ Q, RowF w10.heap.size t_impl_Frame w' s.1 Q ∧ (∀ r ∈ Q, Ow w10.heap.size t_i64 w' r.2.1 (ints r.2.2)) ∧ Q.map keyR = (L.take s.2).map fun y => ((k : Int), y.2)) (fun s => L.length - s.2) (v84, 0) rfl
      ⟨Nat.zero_le _, x59, [], ⟨ho84, fun r hr => absurd hr (by simp)⟩, fun r hr => absurd hr (by simp), rfl⟩ ?_
    rintro ⟨uo, j⟩ w61 Kn2 ⟨hj, x61, Q, hQ, hrQ, hQk⟩ hKn2
    have hj : j ≤ L.length := hj
    have x61 : Ext w10 w61 := x61
    have hQ : RowF w10.heap.size t_impl_Frame w61 uo Q := hQ
    have hQk : Q.map keyR = (L.take j).map fun y => ((k : Int), y.2) := hQk
    have hQl : Q.length = j := by
      have := congrArg List.length hQk
      simp only [List.length_map, List.length_take] at this
      omega
    intro _
    simp only [gx]
    refine iLenS (hoc.ext x61).sl ?_
    rw [evs_len]
    refine iLt (iCndP (fun h2 => ?_) (fun h2 => ?_))
    · have hj1 : j < L.length := by omega
      refine iRdO (enc := encV) (hoc.ext x61) rfl hj1 ?_
      have hat := (RowsV.at hrc hj1).ext x61
      have hlk := hMk _ (show gt L j ∈ L by rw [gt_eq hj1]; exact List.getElem_mem _)
      refine iCall ((ok_spec_l05Make hat (by omega)).mono ?_)
      rintro _ w62 ⟨x62, v80, rfl, ho62⟩
      rw [hlk]
      refine RowF.app (P := Tryz.prog) (w := w62) u_Simpl_Frame i_Simpl_Frame (by omega) (n := (k : Int)) (gt L j).2 (hQ.ext x62) ho62.cell (x61.trans x62).size (by omega) fun u' w' hR hc => ?_
      refine iAdd (by omega) ?_
      have hgf : ∀ c, uo.ownBlock = some c → w10.heap.size ≤ c := fun c hc => (OwK.blk (hQ.ext x62).row c hc).1
      refine hKn2 (u', j + 1) _ ⟨hj1, (x61.trans x62).thenCh hc hgf, _, hR, fun r hr => ?_, ?_⟩ (by show L.length - (j + 1) < L.length - j; omega)
      · have hr62 : Ow w10.heap.size t_i64 w62 r.2.1 (ints r.2.2) := by
          rcases List.mem_append.1 hr with hr | hr
          · exact (hrQ r hr).ext x62
          · rw [List.mem_singleton] at hr
            subst hr
            exact ho62.mono x61.size
        exact hr62.ch hc fun _ hk hk' => OwK.ne_ow (hQ.ext x62).row hr62 (by decide) hk' hk
      · show (Q ++ [_]).map keyR = (L.take (j + 1)).map _
        rw [List.map_append, hQk, List.take_succ_eq_append_getElem hj1, List.map_append, ← gt_eq hj1]
        rfl
    · have : j = L.length := by omega
      subst this
      rw [List.take_length] at hQk
      refine ⟨X10.trans x61, Q, ⟨OwK.mono hQ.row X10.size, hQ.cells⟩, fun r hr => (hrQ r hr).mono X10.size, ?_⟩
      rw [hQk]
      have e1 : (L.map fun y => ((k : Int), y.2)) = (L.map Prod.snd).map fun l => ((k : Int), l) := by rw [List.map_map]; rfl
      rw [e1, hL, List.map_map]
      rfl
end
end Go.Proofs.YtmefbjdioaahdaaGreatDoor

/- Contracts: the flags of the filtrations, in the reference. Conditions: none. -/
namespace Go.Proofs.YtmefbjdioaahdaaGreatDoor
open Go.Vc
theorem flJ_no {m : Nat} {G : List (List Nat)} {k j : Nat} (h : flagI j ⟨m, gt G k⟩ = false) : flJ m G k (j + 1) = flJ m G k j := by
  unfold flJ
  refine List.map_congr_left fun t _ => ?_
  by_cases e : t = j
  · subst e; rw [h, Bool.and_false, Bool.and_false]
  · by_cases h2 : t < j
    · rw [decide_eq_true h2, decide_eq_true (show t < j + 1 by omega)]
    · rw [decide_eq_false h2, decide_eq_false (show ¬ t < j + 1 by omega)]
section
variable {f : Fr} {V : List Nat} {a : Fm} {va vv vn : Value} {w : World}
theorem ok_spec_FiltrationFlags (hM : MdG f V a) (hs : SlN w va f.a) (hv : SlN w vv V) (hn : FmS w vn a) :
    Cal Tryz.prog f_spec_FiltrationFlags #[.agg #[.int .i64 (f.n : Int), va, vv], vn] w fun r w' => Ext w w' ∧ ((7 < roomK (leaA f (cM f V a) (fM f V a).length) (greA f (fun v => V.getD v 0) a (fM f V a) false false) (fM f V a).length ∧ r = .tuple #[.slice none 0 0, .int .i64 3]) ∨
      (roomK (leaA f (cM f V a) (fM f V a).length) (greA f (fun v => V.getD v 0) a (fM f V a) false false) (fM f V a).length ≤ 7 ∧ ∃ u, r = .tuple #[u, .int .i64 0] ∧ SlI w' u (flG (fM f V a).length (allL (leaA f (cM f V a) (fM f V a).length) (greA f (fun v => V.getD v 0) a (fM f V a) false false) (fM f V a).length)))) := by
  obtain ⟨hcl, hcF, hFn, hF8⟩ := SpW.facts hM
  apply c_spec_FiltrationFlags; unfold S_spec_FiltrationFlags
  refine iNew fun b2 w1 hb2 x1 hB2 => ?_
  have hB2 : Blk _ w1 b2 [.int .i64 (f.n : Int), va, vv] := hB2
  refine iLdA hB2 rfl ?_
  refine iCall ((ok_spec_l14Code hM (hs.ext x1) (hv.ext x1) (SlK.ext hn x1)).mono ?_)
  rintro _ w2 ⟨x2, cs, rfl, hS⟩
  obtain ⟨hl, hc⟩ := hS.sp.cells
  refine iEx (by rfl) (iEx (by rfl) ?_)
  refine iNew fun b6 w3 hb6 x3 hB6 => ?_
  have hB6 : Blk 48 w3 b6 [.int .i64 0, .slice none 0 0, .slice none 0 0, .slice none 0 0, .slice none 0 0, .slice none 0 0, .slice none 0 0, .slice none 0 0] := hB6
  refine iStAB hB6 rfl (by simpa using hl) (fun u hu => hc u (by simpa using hu)) fun w4 hu4 hB64 => ?_
  have x24 : Ext w2 w4 := x3.upd hu4 (by omega)
  refine iNe (iCndF rfl ?_)
  refine iLdA hB64 (by simpa using hl) ?_
  refine iRet (ok_spec_l14Room (cs := cs) hM.ok hM.lt (hS.sp.ext x24) hcl hcF hFn hF8) fun w5 x5 => ?_
  have X4 := (x1.trans x2).trans x24
  refine iLt (iCndP (fun h => ⟨X4.trans x5, .inl ⟨by omega, rfl⟩⟩) (fun h => ?_))
  have hroom : roomK (leaA f (cM f V a) (fM f V a).length) (greA f (fun v => V.getD v 0) a (fM f V a) false false) (fM f V a).length ≤ 7 := by omega
  refine iLdA (hB64.ext x5) (by simpa using hl) ?_
  have hS5 := hS.sp.ext (x24.trans x5)
  have X5 := X4.trans x5
  have hall := fun (w' : World) (x' : Ext w5 w') => ok_spec_l14All (cs := cs) hM (hS5.ext x') hroom
  have hok : ∀ g ∈ allL (leaA f (cM f V a) (fM f V a).length) (greA f (fun v => V.getD v 0) a (fM f V a) false false) (fM f V a).length, (⟨(fM f V a).length, g⟩ : Fr).ok := fun g hg => all_ok hM hg
  generalize allL (leaA f (cM f V a) (fM f V a).length) (greA f (fun v => V.getD v 0) a (fM f V a) false false) (fM f V a).length = G at *
  generalize (fM f V a).length = m at *
  have hz : List.replicate 11 (Value.int .i64 0) = ints (flG m []) := rfl
  intro w6 x6
  refine ⟨?_, ?_⟩
  · refine iCall ((hall w6 x6).mono ?_)
    rintro v25 w7 ⟨x7, L, hL, hrL, hkL⟩
    intro w8 x8
    refine iMk (n := 11) (by omega) (by omega) rfl fun bo w9 hbo x9 hBo => ⟨x9, ?_⟩
    intro w10 x10
    have x510 := (((x6.trans x7).trans x8).trans x9).trans x10
    have hL10 : RowF w6.heap.size t_impl_Frame w10 v25 L := hL.ext ((x8.trans x9).trans x10)
    have hrL10 : ∀ r ∈ L, Ow 0 t_i64 w10 r.2.1 (ints r.2.2) := fun r hr => ((hrL r hr).ext ((x8.trans x9).trans x10)).mono (Nat.zero_le _)
    have hz6 := ((x7.trans x8)).size
    have hne : ∀ r ∈ L, r.2.1.ownBlock ≠ some bo := fun r hr hc => by
      have := ((hrL r hr).blk _ hc).2
      have := x8.size
      omega
    have ho10 : Blk t_i64 w10 bo (ints (flG m [])) := by
      rw [← hz]
      exact hBo.ext x10
    have hk : ∀ k, k ∈ L.map keyR ↔ ∃ g ∈ G, k = ((m : Int), nats g) := fun k => by
      rw [hkL, List.mem_map]
      exact ⟨fun ⟨g, h1, h2⟩ => ⟨g, h1, h2.symm⟩, fun ⟨g, h1, h2⟩ => ⟨g, h1, h2.symm⟩⟩
    have hfl : (frL L).length = L.length := by simp [frL]
    have hLm := SlK.len hL10.row.sl
    have hz5 := x6.size
    refine iLp (fun k : Nat => [.int .i64 (k : Int)]) (fun k w' => k ≤ L.length ∧ Ext w5 w' ∧ RowF w6.heap.size t_impl_Frame w' v25 L ∧ (∀ r ∈ L, Ow 0 t_i64 w' r.2.1 (ints r.2.2)) ∧ Blk t_i64 w' bo (ints (flJ m (frL L) k 0))) (fun k => L.length - k) 0 rfl ⟨Nat.zero_le _, x510, hL10, hrL10, by rw [flJ_zero]; exact ho10⟩ ?_
    rintro k w12 Kn ⟨hkl, x12, hL12, hr12, hB12⟩ hKn
    intro _
    simp only [gx]
    refine iLenK hL12.row.sl ?_
    refine iLt (iCndP (fun h2 => ?_) (fun h2 => ?_))
    · have hk1 : k < L.length := by omega
      obtain ⟨hg, e1, e2⟩ := frL_at hk hk1
      have hgo := hok _ hg
      have hfull := flJ_full (m := m) (G := frL L) (k := k) (by omega)
      refine iLp (fun j : Nat => [.int .i64 (j : Int)]) (fun j w' => j ≤ 11 ∧ Ext w5 w' ∧ RowF w6.heap.size t_impl_Frame w' v25 L ∧ (∀ r ∈ L, Ow 0 t_i64 w' r.2.1 (ints r.2.2)) ∧ Blk t_i64 w' bo (ints (flJ m (frL L) k j))) (fun j => 11 - j) 0 rfl ⟨Nat.zero_le _, x12, hL12, hr12, hB12⟩ ?_
      rintro j w14 Kn2 ⟨hj, x14, hL14, hr14, hB14⟩ hKn2
      intro _
      simp only [gx]
      refine iLenL ?_
      refine iLt (iCndP (fun h3 => ?_) (fun h3 => ?_))
      · have hj1 : j < 11 := by omega
        refine iRdFr hL14 rfl hk1 ?_
        have hrow := hr14 _ (show gt L k ∈ L by rw [gt_eq hk1]; exact List.getElem_mem _)
        rw [e2] at hrow
        unfold valR
        rw [e1]
        refine iRet (ok_spec_l05FlagA hgo (show SlN w14 _ (gt (frL L) k) from hrow.sl) j (by omega)) fun w15 x15 => ?_
        refine iCnd (fun h4 => ?_) (fun h4 => ?_)
        · refine iIaL hj1 ?_
          rw [Nat.zero_add]
          refine iStB (hB14.ext x15) (by rw [ints_length, flJ_len]; exact hj1) rfl fun hB16 => ?_
          have hset := flJ_set (m := m) (G := frL L) (k := k) hj1 (x := 1) (by rw [h4, Bool.or_true]; rfl)
          have e : (ints (flJ m (frL L) k j)).set j (.int .i64 1) = ints (flJ m (frL L) k (j + 1)) := by
            rw [← hset]; unfold ints; rw [List.map_set]; rfl
          rw [e] at hB16
          have hu := Upd.setCell w15 bo j (.int .i64 1)
          refine iAdd (by omega) ?_
          exact hKn2 (j + 1) _ ⟨by omega, (x14.trans x15).upd hu (by omega), (hL14.ext x15).ch (hu.ch (S := fun c => c = bo) rfl) (fun c hc h => by
            have h : c = bo := h
            subst h
            exact (hL14.ext x15).row.ne_blkN (hB14.ext x15) (by decide) hc), fun r hr => ((hr14 r hr).ext x15).upd hu (hne r hr), hB16⟩ (by omega)
        · refine iAdd (by omega) ?_
          refine hKn2 (j + 1) _ ⟨by omega, x14.trans x15, hL14.ext x15, fun r hr => (hr14 r hr).ext x15, ?_⟩ (by omega)
          rw [flJ_no h4]; exact hB14.ext x15
      · have : j = 11 := by omega
        subst this
        refine iAdd (by omega) ?_
        refine hKn (k + 1) _ ⟨by omega, x14, hL14, hr14, ?_⟩ (by omega)
        rw [← hfull]; exact hB14
    · have : k = L.length := by omega
      subst this
      refine ⟨X5.trans x12, .inr ⟨hroom, _, rfl, ?_⟩⟩
      rw [flJ_zero, ← hfl, List.take_length, flG_mem (frL_mem hk)] at hB12
      exact Sl.ofBlk (n := 11) hB12 (by rw [ints_length]; simp [flG]) (by omega)
  · refine iMk (n := 11) (by omega) (by omega) rfl fun bo w17 hbo x17 hBo => ⟨x17, ?_⟩
    intro w18 x18
    refine iCall ((hall w18 ((x6.trans x17).trans x18)).mono ?_)
    rintro v25 w19 ⟨x19, L, hL, hrL, hkL⟩
    intro w10 x20
    have x510 := (((x6.trans x17).trans x18).trans x19).trans x20
    have hL10 : RowF w18.heap.size t_impl_Frame w10 v25 L := hL.ext x20
    have hrL10 : ∀ r ∈ L, Ow 0 t_i64 w10 r.2.1 (ints r.2.2) := fun r hr => ((hrL r hr).ext x20).mono (Nat.zero_le _)
    have hne : ∀ r ∈ L, r.2.1.ownBlock ≠ some bo := fun r hr hc => by
      have := ((hrL r hr).blk _ hc).1
      have := x18.size
      have := hBo.lt
      omega
    have ho10 : Blk t_i64 w10 bo (ints (flG m [])) := by
      rw [← hz]
      exact hBo.ext ((x18.trans x19).trans x20)
    have hk : ∀ k, k ∈ L.map keyR ↔ ∃ g ∈ G, k = ((m : Int), nats g) := fun k => by
      rw [hkL, List.mem_map]
      exact ⟨fun ⟨g, h1, h2⟩ => ⟨g, h1, h2.symm⟩, fun ⟨g, h1, h2⟩ => ⟨g, h1, h2.symm⟩⟩
    have hfl : (frL L).length = L.length := by simp [frL]
    have hLm := SlK.len hL10.row.sl
    have hz5 := x6.size
    refine iLp (fun k : Nat => [.int .i64 (k : Int)]) (fun k w' => k ≤ L.length ∧ Ext w5 w' ∧ RowF w18.heap.size t_impl_Frame w' v25 L ∧ (∀ r ∈ L, Ow 0 t_i64 w' r.2.1 (ints r.2.2)) ∧ Blk t_i64 w' bo (ints (flJ m (frL L) k 0))) (fun k => L.length - k) 0 rfl ⟨Nat.zero_le _, x510, hL10, hrL10, by rw [flJ_zero]; exact ho10⟩ ?_
    rintro k w12 Kn ⟨hkl, x12, hL12, hr12, hB12⟩ hKn
    intro _
    simp only [gx]
    refine iLenK hL12.row.sl ?_
    refine iLt (iCndP (fun h2 => ?_) (fun h2 => ?_))
    · have hk1 : k < L.length := by omega
      obtain ⟨hg, e1, e2⟩ := frL_at hk hk1
      have hgo := hok _ hg
      have hfull := flJ_full (m := m) (G := frL L) (k := k) (by omega)
      refine iLp (fun j : Nat => [.int .i64 (j : Int)]) (fun j w' => j ≤ 11 ∧ Ext w5 w' ∧ RowF w18.heap.size t_impl_Frame w' v25 L ∧ (∀ r ∈ L, Ow 0 t_i64 w' r.2.1 (ints r.2.2)) ∧ Blk t_i64 w' bo (ints (flJ m (frL L) k j))) (fun j => 11 - j) 0 rfl ⟨Nat.zero_le _, x12, hL12, hr12, hB12⟩ ?_
      rintro j w14 Kn2 ⟨hj, x14, hL14, hr14, hB14⟩ hKn2
      intro _
      simp only [gx]
      refine iLenL ?_
      refine iLt (iCndP (fun h3 => ?_) (fun h3 => ?_))
      · have hj1 : j < 11 := by omega
        refine iRdFr hL14 rfl hk1 ?_
        have hrow := hr14 _ (show gt L k ∈ L by rw [gt_eq hk1]; exact List.getElem_mem _)
        rw [e2] at hrow
        unfold valR
        rw [e1]
        refine iRet (ok_spec_l05FlagA hgo (show SlN w14 _ (gt (frL L) k) from hrow.sl) j (by omega)) fun w15 x15 => ?_
        refine iCnd (fun h4 => ?_) (fun h4 => ?_)
        · refine iIaL hj1 ?_
          rw [Nat.zero_add]
          refine iStB (hB14.ext x15) (by rw [ints_length, flJ_len]; exact hj1) rfl fun hB16 => ?_
          have hset := flJ_set (m := m) (G := frL L) (k := k) hj1 (x := 1) (by rw [h4, Bool.or_true]; rfl)
          have e : (ints (flJ m (frL L) k j)).set j (.int .i64 1) = ints (flJ m (frL L) k (j + 1)) := by
            rw [← hset]; unfold ints; rw [List.map_set]; rfl
          rw [e] at hB16
          have hu := Upd.setCell w15 bo j (.int .i64 1)
          refine iAdd (by omega) ?_
          exact hKn2 (j + 1) _ ⟨by omega, (x14.trans x15).upd hu (by omega), (hL14.ext x15).ch (hu.ch (S := fun c => c = bo) rfl) (fun c hc h => by
            have h : c = bo := h
            subst h
            exact (hL14.ext x15).row.ne_blkN (hB14.ext x15) (by decide) hc), fun r hr => ((hr14 r hr).ext x15).upd hu (hne r hr), hB16⟩ (by omega)
        · refine iAdd (by omega) ?_
          refine hKn2 (j + 1) _ ⟨by omega, x14.trans x15, hL14.ext x15, fun r hr => (hr14 r hr).ext x15, ?_⟩ (by omega)
          rw [flJ_no h4]; exact hB14.ext x15
      · have : j = 11 := by omega
        subst this
        refine iAdd (by omega) ?_
        refine hKn (k + 1) _ ⟨by omega, x14, hL14, hr14, ?_⟩ (by omega)
        rw [← hfull]; exact hB14
    · have : k = L.length := by omega
      subst this
      refine ⟨X5.trans x12, .inr ⟨hroom, _, rfl, ?_⟩⟩
      rw [flJ_zero, ← hfl, List.take_length, flG_mem (frL_mem hk)] at hB12
      exact Sl.ofBlk (n := 11) hB12 (by rw [ints_length]; simp [flG]) (by omega)
end
end Go.Proofs.YtmefbjdioaahdaaGreatDoor

/- The law on closed filtrations: what its body answers. Conditions: none; the table that FormatInt reads is asked for. -/
namespace Go.Proofs.YtmefbjdioaahdaaGreatDoor
open Go.Vc
theorem mdG_of {n : Int} {l vs : List Int} {N : List RN} (h : modelOk n l vs = true ∧ isN N = true) : ∃ f V a, MdG f V a ∧ n = (f.n : Int) ∧ l = nats f.a ∧ vs = nats V ∧ N = rawF a := by
  obtain ⟨hf, e1, e2, V, e3, e4, e5⟩ := modelOk_of h.1
  obtain ⟨a, ga, sa, e6⟩ := isN_iff.1 h.2
  refine ⟨frOf n l, V, a, ⟨hf, ?_, e4, e5, ga, sa⟩, e1, e2, e3, e6⟩
  rw [← e1, ← e2, ← e3]
  exact h.1
theorem frameOk_of4 {f : Fr} (hf : f.ok) : frameOk (f.n : Int) (nats f.a) = true := by
  obtain ⟨h1, h2, h3⟩ := hf
  unfold frameOk
  rw [Bool.and_eq_true, Bool.and_eq_true, decide_eq_true_eq, decide_eq_true_eq, List.all_eq_true, Int.toNat_natCast, nats_length]
  refine ⟨⟨by omega, by omega⟩, fun x hx => ?_⟩
  obtain ⟨y, hy, rfl⟩ := List.mem_map.1 hx
  have := h3 y hy
  unfold maskB
  rw [decide_eq_true_eq]
  show 0 ≤ ((y : Nat) : Int) ∧ ((y : Nat) : Int) ≤ _
  omega
/-- What both answer: a frame and a code. -/
def TwoR (fi fs : FuncId) (t : Nat) (more both : Bool) (w : World) (n : Int) (l vs : List Int) (va vv vn : Value) (N : List RN) : Prop := ∃ (m : Nat) (g : List Nat) (c : Int),
  (∀ w', Ext w w' → Cal Tryz.prog fi #[.agg #[.int .i64 n, va, vv], vn] w' fun r w'' => Ext w' w'' ∧ ∃ u, r = .tuple #[.agg #[.int .i64 (m : Int), u], .int .i64 c] ∧ SlN w'' u g) ∧
  (∀ w', Ext w w' → Cal Tryz.prog fs #[.agg #[.int .i64 n, va, vv], vn] w' fun r w'' => Ext w' w'' ∧ ∃ u, r = .tuple #[.agg #[.int .i64 (m : Int), u], .int .i64 c] ∧ SlN w'' u g) ∧
  (c = 0 → ∃ f V a, MdG f V a ∧ n = (f.n : Int) ∧ l = nats f.a ∧ vs = nats V ∧ N = rawF a ∧ flagI t f = true ∧ m = (fM f V a).length ∧ g = greA f (fun v => V.getD v 0) a (fM f V a) more both)
theorem nilN (w : World) : SlN w (.slice none 0 0) [] := (Ow.nil 0 t_i64 w).sl
section
variable {n : Int} {l vs : List Int} {va vv vn : Value} {N : List RN} {w : World}
theorem two_Transitive (hT : TabOk w) (hs : SlI w va l) (hv : SlI w vv vs) (hR : RawS w vn N) (hN : N.length ≤ 200) : TwoR f_impl_TransitiveFiltration f_spec_TransitiveFiltration 2 true false w n l vs va vv vn N := by
  by_cases hg : modelOk n l vs = true ∧ isN N = true
  · obtain ⟨f, V, a, hM, rfl, rfl, rfl, rfl⟩ := mdG_of hg
    have hn := RawS.fm hR
    obtain ⟨m, g, hmg⟩ : ∃ m g, (m, g) = filM 2 true false f V a := ⟨_, _, rfl⟩
    refine ⟨m, g, if flagI 2 f = true then 0 else 5, fun w' x => ?_, fun w' x => ?_, fun hc => ?_⟩
    · refine (ok_impl_TransitiveFiltration hM (hT.ext x) (hs.ext x) (hv.ext x) (SlK.ext hn x)).mono ?_
      rintro _ w'' ⟨x', u, m', g', rfl, ho, e⟩
      obtain ⟨rfl, rfl⟩ := Prod.mk.inj (e.trans hmg.symm)
      exact ⟨x', u, rfl, ho.sl⟩
    · refine (ok_spec_TransitiveFiltration hM (hs.ext x) (hv.ext x) (SlK.ext hn x)).mono ?_
      rintro _ w'' ⟨x', u, m', g', rfl, ho, e⟩
      obtain ⟨rfl, rfl⟩ := Prod.mk.inj (e.trans hmg.symm)
      exact ⟨x', u, rfl, ho.sl⟩
    · have hf : flagI 2 f = true := by
        by_cases h : flagI 2 f = true
        · exact h
        · rw [if_neg h] at hc; cases hc
      unfold filM at hmg
      rw [if_pos hf] at hmg
      obtain ⟨rfl, rfl⟩ := Prod.mk.inj hmg
      exact ⟨f, V, a, hM, rfl, rfl, rfl, rfl, hf, rfl, rfl⟩
  · refine ⟨0, [], 1, fun w' x => ?_, fun w' x => ?_, fun hc => by cases hc⟩
    · refine (bad_impl_TransitiveFiltration hg (hs.ext x) (hv.ext x) (SlK.ext hR x) (by omega)).mono ?_
      rintro _ w'' ⟨rfl, x'⟩
      exact ⟨x', _, rfl, nilN _⟩
    · refine (bad_spec_TransitiveFiltration hg (hs.ext x) (hv.ext x) (SlK.ext hR x) (by omega)).mono ?_
      rintro _ w'' ⟨rfl, x'⟩
      exact ⟨x', _, rfl, nilN _⟩
theorem two_Symmetric (hT : TabOk w) (hs : SlI w va l) (hv : SlI w vv vs) (hR : RawS w vn N) (hN : N.length ≤ 200) : TwoR f_impl_SymmetricFiltration f_spec_SymmetricFiltration 3 false true w n l vs va vv vn N := by
  by_cases hg : modelOk n l vs = true ∧ isN N = true
  · obtain ⟨f, V, a, hM, rfl, rfl, rfl, rfl⟩ := mdG_of hg
    have hn := RawS.fm hR
    obtain ⟨m, g, hmg⟩ : ∃ m g, (m, g) = filM 3 false true f V a := ⟨_, _, rfl⟩
    refine ⟨m, g, if flagI 3 f = true then 0 else 5, fun w' x => ?_, fun w' x => ?_, fun hc => ?_⟩
    · refine (ok_impl_SymmetricFiltration hM (hT.ext x) (hs.ext x) (hv.ext x) (SlK.ext hn x)).mono ?_
      rintro _ w'' ⟨x', u, m', g', rfl, ho, e⟩
      obtain ⟨rfl, rfl⟩ := Prod.mk.inj (e.trans hmg.symm)
      exact ⟨x', u, rfl, ho.sl⟩
    · refine (ok_spec_SymmetricFiltration hM (hs.ext x) (hv.ext x) (SlK.ext hn x)).mono ?_
      rintro _ w'' ⟨x', u, m', g', rfl, ho, e⟩
      obtain ⟨rfl, rfl⟩ := Prod.mk.inj (e.trans hmg.symm)
      exact ⟨x', u, rfl, ho.sl⟩
    · have hf : flagI 3 f = true := by
        by_cases h : flagI 3 f = true
        · exact h
        · rw [if_neg h] at hc; cases hc
      unfold filM at hmg
      rw [if_pos hf] at hmg
      obtain ⟨rfl, rfl⟩ := Prod.mk.inj hmg
      exact ⟨f, V, a, hM, rfl, rfl, rfl, rfl, hf, rfl, rfl⟩
  · refine ⟨0, [], 1, fun w' x => ?_, fun w' x => ?_, fun hc => by cases hc⟩
    · refine (bad_impl_SymmetricFiltration hg (hs.ext x) (hv.ext x) (SlK.ext hR x) (by omega)).mono ?_
      rintro _ w'' ⟨rfl, x'⟩
      exact ⟨x', _, rfl, nilN _⟩
    · refine (bad_spec_SymmetricFiltration hg (hs.ext x) (hv.ext x) (SlK.ext hR x) (by omega)).mono ?_
      rintro _ w'' ⟨rfl, x'⟩
      exact ⟨x', _, rfl, nilN _⟩
end
/-- The flags of all filtrations. -/
theorem flG_at {m : Nat} {G : List (List Nat)} {t : Nat} (ht : t < 11) {g : List Nat} (hg : g ∈ G) (hf : flagI t ⟨m, g⟩ = true) : (flG m G).getD t 0 = 1 := by
  have : anyI m G t = true := List.any_eq_true.2 ⟨g, hg, hf⟩
  unfold flG
  simp [ht, this]
theorem flK_at {g : Fr} {t : Nat} (ht : t < 11) (hf : flagI t g = true) : (flK g 11).getD t 0 = 1 := by
  unfold flK
  simp [ht, hf]
theorem ok_laws_FnClosedFiltrations {vc : Value} {bs : List Nat} {w : World} (hT : TabOk w) (hc : SlB w vc bs) : Ret Tryz.prog f_laws_FnClosedFiltrations #[vc] w (.bool true) := by
  apply c_laws_FnClosedFiltrations; unfold S_laws_FnClosedFiltrations
  refine iRet (ok_laws_big hc) fun w1 x1 => ?_
  refine iCnd (fun _ => ⟨rfl, x1⟩) (fun _ => ?_)
  refine iCall ((ok_spec_DrawTransitiveFiltration (hc.ext x1)).mono ?_)
  rintro _ w2 ⟨x2, n, l, vs, va, vv, vn, N, rfl, ka, kv, hN, hRW⟩
  have X2 := x1.trans x2
  have hs : SlI w2 va l := ka.sl
  have hv : SlI w2 vv vs := kv.sl
  have hR : RawS w2 vn N := OwK.sl hRW
  obtain ⟨m, g, c, hi, hsp, hgood⟩ := two_Transitive (n := n) (hT.ext X2) hs hv hR hN
  refine iEx (by rfl) (iEx (by rfl) ?_)
  refine iVar rfl rfl (fun u hu => by
    simp only [List.mem_cons, List.not_mem_nil, or_false] at hu
    rcases hu with rfl | rfl | rfl
    · rfl
    · exact ka.1
    · exact kv.1) fun b3 w4 _ x4 hB3 => ?_
  refine iLdA hB3 rfl ?_
  refine iCall ((hi w4 x4).mono ?_)
  rintro _ w5 ⟨x5, u1, rfl, hu1⟩
  refine iEx (by rfl) (iEx (by rfl) ?_)
  refine iVar rfl rfl (SlI.pair hu1 _) fun b5 w7 _ x7 hB5 => ?_
  refine iLdA (hB3.ext (x5.trans x7)) rfl ?_
  have x27 := x4.trans (x5.trans x7)
  refine iCall ((hsp w7 x27).mono ?_)
  rintro _ w8 ⟨x8, u2, rfl, hu2⟩
  refine iEx (by rfl) (iEx (by rfl) ?_)
  refine iVar rfl rfl (SlI.pair hu2 _) fun b7 w10 _ x10 hB7 => ?_
  have x210 := (x27.trans x8).trans x10
  have hB310 := hB3.ext (((x5.trans x7).trans x8).trans x10)
  have hB510 := hB5.ext (x8.trans x10)
  have hu1' := hu1.ext (x7.trans (x8.trans x10))
  have hu2' := hu2.ext x10
  refine iJnB false w10 (fun J hJ => ?_) (fun w12 x12 => ?_)
  · refine iNe (iCndF (decide_eq_false fun h => h rfl) ?_)
    refine iLdA hB510 rfl (iLdA hB7 rfl ?_)
    refine iRet (ok_laws_likeFrame5 hu1' hu2' _ _) fun w13 x13 => iNot ?_
    rw [decide_eq_true rfl, decide_eq_true rfl]
    exact hJ _ x13
  intro _
  simp only [gx]
  refine iCndF rfl ?_
  have x212 := x210.trans x12
  have hB312 := hB310.ext x12
  have hB712 := hB7.ext x12
  have hu212 := hu2'.ext x12
  refine iEq ?_
  refine iJnX (fun _ w' => Ext w w') (fun J hJ => ?_) ?_
  · refine iCndP (fun h0 => ?_) (fun _ => hJ _ _ (X2.trans x212))
    obtain ⟨f, V, a, hM, rfl, rfl, rfl, rfl, hf2, rfl, rfl⟩ := hgood h0
    have hn : FmS w2 vn a := RawS.fm hR
    have hF8 := Nat.le_trans (fM_le f V a) hM.ok.1
    have hgo := gre_ok hM true false
    have hgf := frameOk_of4 hgo
    have hbe := tra_betw hM.ok (cM_ok f V a) ((flagI_iff hM.ok 2).1 hf2)
    have hfl : flagI 2 ⟨(fM f V a).length, greA f (fun v => V.getD v 0) a (fM f V a) true false⟩ = true := tra_flag hF8
    refine iLdA hB312 rfl (iLdA hB712 rfl ?_)
    refine iRet (ok_impl_IsFiltration hM (hT.ext (X2.trans x212)) (hs.ext x212) (hv.ext x212) (SlK.ext hn x212) hgo hgf hu212) fun w16 x16 => ?_
    rw [isfB_betw hbe]
    refine iEx (by rfl) (iEx (by rfl) ?_)
    refine iLdA (hB712.ext x16) rfl ?_
    refine iCall ((ok_impl_FrameFlags hgo hgf (hu212.ext x16)).mono ?_)
    rintro _ w17 ⟨x17, u67, rfl, hs67⟩
    refine iEx (by rfl) (iEx (by rfl) ?_)
    have x217 := x212.trans (x16.trans x17)
    refine iLdA (hB312.ext (x16.trans x17)) rfl ?_
    refine iCall ((ok_impl_FiltrationFlags hM (hT.ext (X2.trans x217)) (hs.ext x217) (hv.ext x217) (SlK.ext hn x217)).mono ?_)
    rintro _ w18 ⟨x18, hA⟩
    have x218 := x217.trans x18
    have hall : greA f (fun v => V.getD v 0) a (fM f V a) true false ∈ allL (leaA f (cM f V a) (fM f V a).length) (greA f (fun v => V.getD v 0) a (fM f V a) false false) (fM f V a).length := (mem_allL (fun k => relA_lt hF8 _ k) (lea_gre hM.ok (cM_ok f V a))).2 hbe
    have hspF : ∀ w', Ext w2 w' → _ := fun w' x' => ok_spec_FiltrationFlags (w := w') hM (hs.ext x') (hv.ext x') (SlK.ext hn x')
    have hd2 := flK_at (t := 2) (by decide) hfl
    have hd3 := flG_at (m := (fM f V a).length) (t := 2) (by decide) hall hfl
    have hl3 : ∀ G, (flG (fM f V a).length G).length = 11 := fun G => by simp [flG]
    generalize allL (leaA f (cM f V a) (fM f V a).length) (greA f (fun v => V.getD v 0) a (fM f V a) false false) (fM f V a).length = G at *
    rcases hA with ⟨hr, rfl⟩ | ⟨hr, u73, rfl, hs73⟩
    · refine iEx (by rfl) (iEx (by rfl) ?_)
      refine iLdA (hB312.ext ((x16.trans x17).trans x18)) rfl ?_
      refine iCall ((hspF w18 x218).mono ?_)
      rintro _ w19 ⟨x19, ⟨_, rfl⟩ | ⟨hr2, _⟩⟩
      · refine iEx (by rfl) (iEx (by rfl) ?_)
        have hs6719 := hs67.ext (x18.trans x19)
        refine iJnB false w19 (fun J2 hJ2 => ?_) (fun w21 x21 => ?_)
        · refine iNe (iCndF (decide_eq_false fun h => h rfl) ?_)
          refine iNot (iCndF rfl ?_)
          refine iNe (iCndF (decide_eq_false fun h => h rfl) ?_)
          refine iIaI hs6719 (by decide) (by rw [flK_length]; decide) fun p hp => iLd hp ?_
          rw [show ((2 : Int).toNat) = 2 from rfl, hd2]
          refine iNe (iCndF (decide_eq_false fun h => h rfl) ?_)
          refine iNe (iCndF (decide_eq_false fun h => h rfl) ?_)
          refine iRet (ok_laws_likeInts (l := []) (l' := []) (Ow.nil 0 t_i64 w19).sl (Ow.nil 0 t_i64 w19).sl) fun w22 x22 => iNot ?_
          refine iCndF rfl ?_
          refine iEq (iCndF (decide_eq_false (by decide)) ?_)
          exact hJ2 _ x22
        · intro _
          simp only [gx]
          refine iCndF rfl ?_
          exact hJ _ _ ((X2.trans x218).trans (x19.trans x21))
      · omega
    · refine iEx (by rfl) (iEx (by rfl) ?_)
      refine iLdA (hB312.ext ((x16.trans x17).trans x18)) rfl ?_
      refine iCall ((hspF w18 x218).mono ?_)
      rintro _ w19 ⟨x19, ⟨hr2, _⟩ | ⟨_, u79, rfl, hs79⟩⟩
      · omega
      · refine iEx (by rfl) (iEx (by rfl) ?_)
        have hs6719 := hs67.ext (x18.trans x19)
        have hs7319 := hs73.ext x19
        refine iJnB false w19 (fun J2 hJ2 => ?_) (fun w21 x21 => ?_)
        · refine iNe (iCndF (decide_eq_false fun h => h rfl) ?_)
          refine iNot (iCndF rfl ?_)
          refine iNe (iCndF (decide_eq_false fun h => h rfl) ?_)
          refine iIaI hs6719 (by decide) (by rw [flK_length]; decide) fun p hp => iLd hp ?_
          rw [show ((2 : Int).toNat) = 2 from rfl, hd2]
          refine iNe (iCndF (decide_eq_false fun h => h rfl) ?_)
          refine iNe (iCndF (decide_eq_false fun h => h rfl) ?_)
          refine iRet (ok_laws_likeInts hs7319 hs79) fun w22 x22 => iNot ?_
          rw [decide_eq_true rfl]
          refine iCndF rfl ?_
          refine iEq (iCndT (decide_eq_true rfl) ?_)
          refine iIaI (hs79.ext x22) (by decide) (by rw [hl3]; decide) fun p hp => iLd hp ?_
          rw [show ((2 : Int).toNat) = 2 from rfl, hd3]
          refine iNe ?_
          exact hJ2 _ x22
        · intro _
          simp only [gx]
          refine iCndF rfl ?_
          exact hJ _ _ ((X2.trans x218).trans (x19.trans x21))
  -- the second half
  intro _ w15 X15
  intro _
  refine iCall ((ok_spec_DrawSymmetricFiltration (hc.ext X15)).mono ?_)
  clear hgood hi hsp
  rintro _ w2 ⟨x2, n, l, vs, va, vv, vn, N, rfl, ka, kv, hN, hRW⟩
  have X2 := X15.trans x2
  have hs : SlI w2 va l := ka.sl
  have hv : SlI w2 vv vs := kv.sl
  have hR : RawS w2 vn N := OwK.sl hRW
  obtain ⟨m, g, c, hi, hsp, hgood⟩ := two_Symmetric (n := n) (hT.ext X2) hs hv hR hN
  refine iEx (by rfl) (iEx (by rfl) ?_)
  refine iVar rfl rfl (fun u hu => by
    simp only [List.mem_cons, List.not_mem_nil, or_false] at hu
    rcases hu with rfl | rfl | rfl
    · rfl
    · exact ka.1
    · exact kv.1) fun b3 w4 _ x4 hB3 => ?_
  refine iLdA hB3 rfl ?_
  refine iCall ((hi w4 x4).mono ?_)
  rintro _ w5 ⟨x5, u1, rfl, hu1⟩
  refine iEx (by rfl) (iEx (by rfl) ?_)
  refine iVar rfl rfl (SlI.pair hu1 _) fun b5 w7 _ x7 hB5 => ?_
  refine iLdA (hB3.ext (x5.trans x7)) rfl ?_
  have x27 := x4.trans (x5.trans x7)
  refine iCall ((hsp w7 x27).mono ?_)
  rintro _ w8 ⟨x8, u2, rfl, hu2⟩
  refine iEx (by rfl) (iEx (by rfl) ?_)
  refine iVar rfl rfl (SlI.pair hu2 _) fun b7 w10 _ x10 hB7 => ?_
  have x210 := (x27.trans x8).trans x10
  have hB310 := hB3.ext (((x5.trans x7).trans x8).trans x10)
  have hB510 := hB5.ext (x8.trans x10)
  have hu1' := hu1.ext (x7.trans (x8.trans x10))
  have hu2' := hu2.ext x10
  refine iJnB false w10 (fun J hJ => ?_) (fun w12 x12 => ?_)
  · refine iNe (iCndF (decide_eq_false fun h => h rfl) ?_)
    refine iLdA hB510 rfl (iLdA hB7 rfl ?_)
    refine iRet (ok_laws_likeFrame5 hu1' hu2' _ _) fun w13 x13 => iNot ?_
    rw [decide_eq_true rfl, decide_eq_true rfl]
    exact hJ _ x13
  intro _
  simp only [gx]
  refine iCndF rfl ?_
  have x212 := x210.trans x12
  have hB312 := hB310.ext x12
  have hB712 := hB7.ext x12
  have hu212 := hu2'.ext x12
  refine iNe (iCndP (fun _ => ⟨by first | trivial | rfl, X2.trans x212⟩) (fun h0 => ?_))
  obtain ⟨f, V, a, hM, rfl, rfl, rfl, rfl, hf2, rfl, rfl⟩ := hgood (Classical.not_not.1 h0)
  have hn : FmS w2 vn a := RawS.fm hR
  have hF8 := Nat.le_trans (fM_le f V a) hM.ok.1
  have hgo := gre_ok hM false true
  have hgf := frameOk_of4 hgo
  have hbe := sym_betw hM.ok (cM_ok f V a) ((flagI_iff hM.ok 3).1 hf2)
  have hfl : flagI 3 ⟨(fM f V a).length, greA f (fun v => V.getD v 0) a (fM f V a) false true⟩ = true := sym_flag hF8
  have hd2 := flK_at (t := 3) (by decide) hfl
  refine iLdA hB312 rfl (iLdA hB712 rfl ?_)
  refine iRet (ok_impl_IsFiltration hM (hT.ext (X2.trans x212)) (hs.ext x212) (hv.ext x212) (SlK.ext hn x212) hgo hgf hu212) fun w16 x16 => ?_
  rw [isfB_betw hbe]
  refine iEx (by rfl) (iEx (by rfl) ?_)
  refine iLdA (hB712.ext x16) rfl ?_
  refine iCall ((ok_impl_FrameFlags hgo hgf (hu212.ext x16)).mono ?_)
  rintro _ w17 ⟨x17, u67, rfl, hs67⟩
  refine iEx (by rfl) (iEx (by rfl) ?_)
  refine iJnB true w17 (fun J hJ => ?_) (fun w18 x18 => fun _ => ⟨by first | trivial | rfl, (X2.trans x212).trans ((x16.trans x17).trans x18)⟩)
  refine iEq (iCndT (decide_eq_true rfl) (iCndT rfl (iEq (iCndT (decide_eq_true rfl) ?_))))
  refine iIaI hs67 (by decide) (by rw [flK_length]; decide) fun p hp => iLd hp ?_
  rw [show ((3 : Int).toNat) = 3 from rfl, hd2]
  exact iEq (hJ _ (Ext.refl _))
end Go.Proofs.YtmefbjdioaahdaaGreatDoor
