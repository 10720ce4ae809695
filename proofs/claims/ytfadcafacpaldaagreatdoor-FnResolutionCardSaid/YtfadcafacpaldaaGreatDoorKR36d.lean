/- The proof of FnResolutionCard, part 4 of 5. Conditions: none. -/
import Derived.Test.YtfadcafacpaldaaGreatDoorKR36c
import Derived.Laws.StructEq
import Derived.Laws.Bits64
import Derived.Lib.Zigzag
/- Contracts: the steps that the program's refuter needs, numbered anew; RefuteClauses of the program. Conditions: none. -/
namespace Go.Vc
theorem iIaBQ {b n c j : Nat} {k : IntKind} {K : Value → Prop} (hj : j < n) (h : K (.pointer (some ⟨b, j, none⟩))) : xIa 1 (.slice (some ⟨b, 0, none⟩) n c) (.int k (j : Int)) K := iIaL hj (by rwa [Nat.zero_add])
def bls (l : List Bool) : List Value := l.map Value.bool
theorem bls_len (l : List Bool) : (bls l).length = l.length := by simp [bls]
theorem bls_at {l : List Bool} {j : Nat} (h : j < l.length) : (bls l)[j]? = some (.bool (l.getD j false)) := by simp [bls, List.getD_eq_getElem?_getD, h]
theorem bls_set (l : List Bool) (j : Nat) (t : Bool) : (bls l).set j (.bool t) = bls (l.set j t) := by simp [bls, List.map_set]
theorem ints_at {l : List Int} {j : Nat} (h : j < l.length) : (ints l)[j]? = some (.int .i64 (l.getD j 0)) := by simp [ints, List.getD_eq_getElem?_getD, h]
theorem ints_set (l : List Int) (j : Nat) (t : Int) : (ints l).set j (.int .i64 t) = ints (l.set j t) := by simp [ints, List.map_set]
theorem StepOk.lt {L : List (List Int)} {st : List Rs} {k : Nat} (h : StepOk L st k) (h0 : 0 ≤ (st.getD k default).f) : ∃ a b : Nat, (st.getD k default).f = (a : Int) ∧ (st.getD k default).s = (b : Int) ∧ a < k ∧ b < k := by
  rcases h with ⟨h1, _⟩ | ⟨a, b, v, h1, h2, h3, h4, h5, _⟩
  · omega
  · exact ⟨a, b, h1, h2, h4, h5⟩
theorem needK_len (st : List Rs) : ∀ (k : Nat) (n : List Bool), (needK st k n).length = n.length
  | 0, _ => rfl
  | k + 1, n => by
    rw [needK, needK_len st k]
    split
    · rw [List.length_set, List.length_set]
    · rfl
theorem numK_len (st : List Rs) (nd : List Bool) : ∀ k, (numK st nd k).1.length = st.length
  | 0 => by simp [numK]
  | k + 1 => by
    rw [numK]
    dsimp only
    split
    · rw [List.length_set]; exact numK_len st nd k
    · exact numK_len st nd k
/-- A row's key: the clause's slice and the clause. -/
def kyQ (x : RV) : VL := (x.1, x.2.c)
end Go.Vc
namespace Go.Proofs.YtfadcafacpaldaaGreatDoor
open Go.Vc
theorem ok_impl_refuter_used {lo : Nat} {eR : TypeId} {w : World} {b bm : Nat} {u : Value} {st : List RV} {t : Bool} {L0 : List (List Int)} (h : RfW lo eR w b bm u st) (hG : RGood L0 (st.map Prod.snd, t)) (hl : 0 < st.length) (hl2 : st.length ≤ 100000) :
    Cal Tryz.prog f_impl_refuter_used #[.pointer (some ⟨b, 0, none⟩)] w fun r w' => Ext w w' ∧ ∃ L : List RV, OwK 4 w.heap.size t_impl_Resolvent w' r L.length (cellsQ L) ∧ L.map Prod.snd = usedR (st.map Prod.snd) ∧ List.Sublist (L.map kyQ) (st.map kyQ) := by
  apply c_impl_refuter_used; unfold S_impl_refuter_used
  have hG' : ∀ k, k < st.length → StepOk L0 (st.map Prod.snd) k := fun k hk => hG k (by simpa using hk)
  have hcell : ∀ k, k < st.length → isCell (gt st k).1 = true := fun k hk => (h.at hk).cell
  refine iNil (iFa (iLdB h.blk (v := u) rfl ?_))
  refine iLenK h.row.sl ?_
  refine iMk (by omega) (by omega) rfl fun b1 w1 hb1 h1 hB1 => ?_
  refine iLenL ?_
  refine iSub (by omega) ?_
  rw [show ((st.length : Nat) : Int) - 1 = ((st.length - 1 : Nat) : Int) by omega]
  refine iIaBQ (by omega) ?_
  have hB1 : Blk 4 w1 b1 (bls (List.replicate st.length false)) := by rw [show bls (List.replicate st.length false) = List.replicate st.length (.bool false) by simp [bls]]; exact hB1
  refine iStB hB1 (by simp [bls]; omega) rfl fun hB2 => ?_
  have hu2 := Upd.setCell w1 b1 (st.length - 1) (.bool true)
  generalize w1.setCell ⟨b1, st.length - 1, none⟩ (.bool true) = w2 at *
  rw [bls_set] at hB2
  have hX2 : Ext w w2 := h1.upd hu2 (by omega)
  have g2 := h.ext hX2
  refine iNil (iFa (iLdB g2.blk (v := u) rfl ?_))
  refine iLenK g2.row.sl ?_
  refine iSub (by omega) ?_
  refine iLp (fun s : Nat × List Bool => [.int .i64 ((s.1 : Int) - 1)]) (fun s w' => s.1 ≤ st.length ∧ s.2.length = st.length ∧ Ext w w' ∧ Blk 4 w' b1 (bls s.2) ∧ needK (st.map Prod.snd) s.1 s.2 = needed (st.map Prod.snd)) (fun s => s.1) (st.length, (List.replicate st.length false).set (st.length - 1) true) (by simp) ⟨Nat.le_refl _, by simp, hX2, hB2, by unfold needed; rw [List.length_map]⟩ ?_
  rintro ⟨j, n⟩ w3 Kn ⟨hj, hn, hX3, hB3, hnd⟩ hKn
  have hj : j ≤ st.length := hj
  have hn : n.length = st.length := hn
  have hX3 : Ext w w3 := hX3
  have hB3 : Blk 4 w3 b1 (bls n) := hB3
  have hnd : needK (st.map Prod.snd) j n = needed (st.map Prod.snd) := hnd
  have g3 := h.ext hX3
  intro _
  simp only [gx]
  refine iLe (iCndP (fun h3 => ?_) (fun h3 => ?_))
  · obtain ⟨k, rfl⟩ : ∃ k, j = k + 1 := ⟨j - 1, by omega⟩
    rw [show (((k + 1 : Nat) : Int)) - 1 = ((k : Nat) : Int) by omega]
    have hk : k < st.length := by omega
    refine iNil (iFa (iLdB g3.blk (v := u) rfl ?_))
    refine iRdQ4 g3.row.sl hk ?_
    refine iNew fun b5 w5 hb5 h5 B5 => ?_
    refine iStAB B5 rfl rfl (by
      intro y hy
      simp at hy
      rcases hy with rfl | rfl | rfl | rfl
      · exact hcell k hk
      · rfl
      · rfl
      · rfl) fun w6 hu6 B6 => ?_
    have B6 : Blk t_impl_Resolvent w6 b5 [(gt st k).1, .int .i64 (gt st k).2.f, .int .i64 (gt st k).2.s, .int .i64 (gt st k).2.v] := B6
    have h36 : Ext w3 w6 := h5.upd hu6 (by omega)
    have hB6 := hB3.ext h36
    have hX6 := hX3.trans h36
    have hne : b5 ≠ b1 := by have := hB3.lt; omega
    have hsk := snd_getD st hk
    refine iJnB (n.getD k false && decide (0 ≤ (gt st k).2.f)) w6 (fun J hJ => ?_) (fun w7 h7 => ?_)
    · refine iIaBQ hk ?_
      refine iLdB hB6 (bls_at (by omega)) ?_
      cases hnk : n.getD k false with
      | false =>
        refine iCndF rfl ?_
        rw [hnk] at hJ
        exact hJ w6 (Ext.refl _)
      | true =>
        refine iCndT rfl ?_
        refine iFa (iLdB B6 (v := .int .i64 (gt st k).2.f) rfl ?_)
        refine iLe ?_
        rw [hnk] at hJ
        exact hJ w6 (Ext.refl _)
    intro _
    simp only [gx]
    have B7 := B6.ext h7
    have hB7 := hB6.ext h7
    have hX7 := hX6.trans h7
    have hun : needK (st.map Prod.snd) (k + 1) n = needK (st.map Prod.snd) k (if n.getD k false && decide (0 ≤ (gt st k).2.f) then (n.set (gt st k).2.f.toNat true).set (gt st k).2.s.toNat true else n) := by
      rw [needK, hsk]
    rw [hun] at hnd
    cases hT : n.getD k false && decide (0 ≤ (gt st k).2.f) with
    | false =>
      refine iCndF rfl ?_
      refine iSub (by omega) ?_
      rw [hT] at hnd
      exact hKn (k, n) _ ⟨by show k ≤ st.length; omega, hn, hX7, hB7, hnd⟩ (by show k < k + 1; omega)
    | true =>
      refine iCndT rfl ?_
      rw [hT] at hnd
      rw [Bool.and_eq_true, decide_eq_true_eq] at hT
      obtain ⟨fa, sa, e1, e2, hfa, hsa⟩ := (hG' k hk).lt (by rw [hsk]; exact hT.2)
      rw [hsk] at e1 e2
      rw [e1, e2] at B7 hnd
      rw [Int.toNat_natCast, Int.toNat_natCast] at hnd
      refine ⟨fun c => c = b1, ?_⟩
      refine iFa (iLdB B7 (v := .int .i64 (fa : Int)) rfl ?_)
      refine iFa (iLdB B7 (v := .int .i64 (sa : Int)) rfl ⟨fun w8 h8 => iLdB (B7.ch h8 hne) (v := .int .i64 (sa : Int)) rfl rfl, ?_⟩)
      refine iIaBQ (by omega) ?_
      intro w8 h8
      have hB8 := hB7.ext h8
      refine iStB hB8 (by rw [bls_len]; omega) rfl fun hB9 => ?_
      have hu9 := Upd.setCell w8 b1 fa (.bool true)
      generalize w8.setCell ⟨b1, fa, none⟩ (.bool true) = w9 at *
      rw [bls_set] at hB9
      refine ⟨hu9.ch rfl, ?_⟩
      refine iIaBQ (by omega) ?_
      intro w10 h10
      have hB10 := hB9.ext h10
      refine iStB hB10 (by rw [bls_len, List.length_set]; omega) rfl fun hB11 => ?_
      have hu11 := Upd.setCell w10 b1 sa (.bool true)
      generalize w10.setCell ⟨b1, sa, none⟩ (.bool true) = w11 at *
      rw [bls_set] at hB11
      intro w12 h12
      refine iSub (by omega) ?_
      have hX9 := (hX7.trans h8).upd hu9 (by omega)
      have hX11 := (hX9.trans h10).upd hu11 (by omega)
      exact hKn (k, (n.set fa true).set sa true) _ ⟨by show k ≤ st.length; omega, by show ((n.set fa true).set sa true).length = _; rw [List.length_set, List.length_set]; exact hn, hX11.trans h12, hB11.ext h12, hnd⟩ (by show k < k + 1; omega)
  · obtain rfl : j = 0 := by omega
    have hnd : n = needed (st.map Prod.snd) := hnd
    subst hnd
    clear hKn
    refine iNil (iFa (iLdB g3.blk (v := u) rfl ?_))
    refine iLenK g3.row.sl ?_
    refine iMk (by omega) (by omega) rfl fun b2 w4 hb2 h4 hB4 => ?_
    have hB4 : Blk t_i64 w4 b2 (ints (List.replicate st.length 0)) := by rw [show ints (List.replicate st.length 0) = List.replicate st.length (.int .i64 0) by simp [ints]]; exact hB4
    have hX4 := hX3.trans h4
    have hne12 : b1 ≠ b2 := by have := hB3.lt; omega
    have g4 := h.ext hX4
    refine iNil (iFa (iLdB g4.blk (v := u) rfl ?_))
    refine iLenK g4.row.sl ?_
    refine iLp (fun s : Nat × Value => [s.2, .int .i64 (s.1 : Int)]) (fun s w' => s.1 ≤ st.length ∧ Ext w w' ∧ Blk 4 w' b1 (bls (needed (st.map Prod.snd))) ∧ Blk t_i64 w' b2 (ints (numK (st.map Prod.snd) (needed (st.map Prod.snd)) s.1).1) ∧ ∃ L : List RV, OwK 4 w.heap.size t_impl_Resolvent w' s.2 L.length (cellsQ L) ∧ L.map Prod.snd = (numK (st.map Prod.snd) (needed (st.map Prod.snd)) s.1).2 ∧ List.Sublist (L.map kyQ) ((st.take s.1).map kyQ)) (fun s => st.length - s.1) (0, .slice none 0 0) rfl
      ⟨Nat.zero_le _, hX4, hB3.ext h4, by show Blk t_i64 w4 b2 (ints (List.replicate (st.map Prod.snd).length 0)); rw [List.length_map]; exact hB4, [], OwK.nil 4 _ _ _, rfl, by simp⟩ ?_
    rintro ⟨k, o⟩ w5 Kn ⟨hk, hX5, hB5, hC5, L, hL, hLs, hsub⟩ hKn
    have hk : k ≤ st.length := hk
    have hX5 : Ext w w5 := hX5
    have hL : OwK 4 w.heap.size t_impl_Resolvent w5 o L.length (cellsQ L) := hL
    have hLs : L.map Prod.snd = (numK (st.map Prod.snd) (needed (st.map Prod.snd)) k).2 := hLs
    have hC5 : Blk t_i64 w5 b2 (ints (numK (st.map Prod.snd) (needed (st.map Prod.snd)) k).1) := hC5
    have hnum : numK (st.map Prod.snd) (needed (st.map Prod.snd)) (k + 1) = if (needed (st.map Prod.snd)).getD k false then ((numK (st.map Prod.snd) (needed (st.map Prod.snd)) k).1.set k (numK (st.map Prod.snd) (needed (st.map Prod.snd)) k).2.length, (numK (st.map Prod.snd) (needed (st.map Prod.snd)) k).2 ++ [if 0 ≤ ((st.map Prod.snd).getD k default).f then ⟨((st.map Prod.snd).getD k default).c, (numK (st.map Prod.snd) (needed (st.map Prod.snd)) k).1.getD ((st.map Prod.snd).getD k default).f.toNat 0, (numK (st.map Prod.snd) (needed (st.map Prod.snd)) k).1.getD ((st.map Prod.snd).getD k default).s.toNat 0, ((st.map Prod.snd).getD k default).v⟩ else (st.map Prod.snd).getD k default]) else numK (st.map Prod.snd) (needed (st.map Prod.snd)) k := rfl
    have htl := numK_len (st.map Prod.snd) (needed (st.map Prod.snd)) k
    rw [List.length_map] at htl
    have hLl : L.length ≤ k := by
      have := hsub.length_le
      simp only [List.length_map, List.length_take] at this; omega
    have hL2 : (numK (st.map Prod.snd) (needed (st.map Prod.snd)) k).2.length = L.length := by rw [← hLs, List.length_map]
    have hndl : (needed (st.map Prod.snd)).length = st.length := by unfold needed; rw [needK_len]; simp
    generalize hto : (numK (st.map Prod.snd) (needed (st.map Prod.snd)) k).1 = to at *
    intro _
    simp only [gx]
    refine iLt (iCndP (fun h5 => ?_) (fun h5 => ?_))
    rotate_left
    · obtain rfl : k = st.length := by omega
      refine ⟨hX5, L, hL, ?_, by have := hsub; rwa [show ((st.length, o) : Nat × Value).1 = st.length from rfl, List.take_length] at this⟩
      rw [hLs]; unfold usedR; rw [List.length_map]
    have hkl : k < st.length := by omega
    have g5 := h.ext hX5
    have hsk := snd_getD st hkl
    rw [hsk] at hnum
    refine iRdQ4 g5.row.sl hkl ?_
    refine iNew fun b9 w6 hb9 h6 B6 => ?_
    refine iStAB B6 rfl rfl (by
      intro y hy
      simp at hy
      rcases hy with rfl | rfl | rfl | rfl
      · exact hcell k hkl
      · rfl
      · rfl
      · rfl) fun w7 hu7 B7 => ?_
    have B7 : Blk t_impl_Resolvent w7 b9 [(gt st k).1, .int .i64 (gt st k).2.f, .int .i64 (gt st k).2.s, .int .i64 (gt st k).2.v] := B7
    have h57 : Ext w5 w7 := h6.upd hu7 (by omega)
    have hB7 := hB5.ext h57
    have hC7 := hC5.ext h57
    have hL7 := hL.ext h57
    have hX7 := hX5.trans h57
    have hne91 : b9 ≠ b1 := by have := hB5.lt; omega
    have hne92 : b9 ≠ b2 := by have := hC5.lt; omega
    refine iIaBQ hkl ?_
    refine iLdB hB7 (bls_at (by rw [hndl]; exact hkl)) ?_
    refine iNot ?_
    have htake : st.take (k + 1) = st.take k ++ [gt st k] := by rw [gt_eq hkl]; exact List.take_succ_eq_append_getElem hkl
    cases hnk : (needed (st.map Prod.snd)).getD k false with
    | false =>
      refine iCndT rfl ?_
      refine iAdd (by omega) ?_
      rw [hnk, if_neg (by simp)] at hnum
      refine hKn (k + 1, o) _ ⟨by show k + 1 ≤ st.length; omega, hX7, hB7, by show Blk t_i64 w7 b2 (ints (numK (st.map Prod.snd) (needed (st.map Prod.snd)) (k + 1)).1); rw [hnum, hto]; exact hC7, L, hL7, by show _ = (numK (st.map Prod.snd) (needed (st.map Prod.snd)) (k + 1)).2; rw [hnum]; exact hLs, ?_⟩ (by show st.length - (k + 1) < st.length - k; omega)
      show List.Sublist (L.map kyQ) ((st.take (k + 1)).map kyQ)
      rw [htake, List.map_append]
      exact hsub.trans (List.sublist_append_left _ _)
    | true =>
      refine iCndF rfl ?_
      rw [hnk, if_pos rfl] at hnum
      refine iLenK hL7.sl ?_
      refine iIaBQ hkl ?_
      refine iStB hC7 (by rw [ints_length, htl]; exact hkl) rfl fun hC8 => ?_
      have hu8 := Upd.setCell w7 b2 k (.int .i64 (L.length : Int))
      generalize w7.setCell ⟨b2, k, none⟩ (.int .i64 (L.length : Int)) = w8 at *
      rw [ints_set] at hC8
      have hX8 := hX7.upd hu8 (by have := hX3.size; omega)
      have hB8 := hB7.upd hu8 hne12
      have B8 := B7.upd hu8 hne92
      have hL8 := hL7.ch (hu8.ch (S := fun c => c = b2) rfl) fun c hc e => OwK.ne_blk hL7 hC7 (by decide) (by rw [hc, e])
      refine iFa (iLdB B8 (v := .int .i64 (gt st k).2.f) rfl ?_)
      refine iLe ?_
      refine iJnPQ (fun xs w' => xs = [] ∧ Ext w w' ∧ Blk 4 w' b1 (bls (needed (st.map Prod.snd))) ∧ Blk t_i64 w' b2 (ints (to.set k (L.length : Int))) ∧ OwK 4 w.heap.size t_impl_Resolvent w' o L.length (cellsQ L) ∧ Blk t_impl_Resolvent w' b9 (csQ ((gt st k).1, if 0 ≤ (gt st k).2.f then ⟨(gt st k).2.c, to.getD (gt st k).2.f.toNat 0, to.getD (gt st k).2.s.toNat 0, (gt st k).2.v⟩ else (gt st k).2))) (fun J hJ => ?_) (fun xs w9 hC => ?_)
      · refine iCndP (fun h0 => ?_) (fun h0 => ?_)
        · obtain ⟨fa, sa, e1, e2, hfa, hsa⟩ := (hG' k hkl).lt (by rw [hsk]; exact h0)
          rw [hsk] at e1 e2
          rw [if_pos h0, e1, e2, Int.toNat_natCast, Int.toNat_natCast] at hJ
          rw [e1, e2] at B8
          have ga : (to.set k (L.length : Int)).getD fa 0 = to.getD fa 0 := by simp [List.getD_eq_getElem?_getD, show ¬ k = fa by omega]
          have gs : (to.set k (L.length : Int)).getD sa 0 = to.getD sa 0 := by simp [List.getD_eq_getElem?_getD, show ¬ k = sa by omega]
          have hsl : (to.set k (L.length : Int)).length = st.length := by rw [List.length_set]; exact htl
          refine ⟨fun c => c = b9, ?_⟩
          refine iFa (iLdB B8 (v := .int .i64 (fa : Int)) rfl ?_)
          refine iIaBQ (by omega) ?_
          refine iLdB hC8 (ints_at (by omega)) ?_
          refine iFa (iLdB B8 (v := .int .i64 (sa : Int)) rfl ?_)
          refine iIaBQ (by omega) ?_
          refine iLdB hC8 (ints_at (by omega)) ⟨fun w9 h9 => iLdB (hC8.ch h9 hne92.symm) (ints_at (by omega)) rfl, ?_⟩
          rw [ga, gs]
          refine iFa ?_
          intro w9 h9
          have B9 := B8.ext h9
          refine iStB B9 (by simp) rfl fun B10 => ?_
          have hu10 := Upd.setCell w9 b9 1 (.int .i64 (to.getD fa 0))
          refine ⟨hu10.ch rfl, ?_⟩
          refine iFa ?_
          intro w11 h11
          have B11 := B10.ext h11
          refine iStB B11 (by simp) rfl fun B12 => ?_
          have hu12 := Upd.setCell w11 b9 2 (.int .i64 (to.getD sa 0))
          intro w13 h13
          have hX10 := (hX8.trans h9).upd hu10 (by have := hX5.size; omega)
          have hX12 := (hX10.trans h11).upd hu12 (by have := hX5.size; omega)
          have c1 := (((h9.ch (S := fun c => c = b9)).trans (hu10.ch (S := fun c => c = b9) rfl) (fun _ e => .inl e)).trans (h11.ch (S := fun c => c = b9)) (fun _ e => .inl e)).trans (hu12.ch (S := fun c => c = b9) rfl) (fun _ e => .inl e)
          have c2 := c1.trans (h13.ch (S := fun c => c = b9)) (fun _ e => .inl e)
          exact hJ [] w13 ⟨rfl, hX12.trans h13, hB8.ch c2 hne91.symm, hC8.ch c2 hne92.symm, hL8.ch c2 fun c hc e => by have := (hL.blk c hc).2; omega, B12.ext h13⟩
        · rw [if_neg h0] at hJ
          exact hJ [] w8 ⟨rfl, hX8, hB8, hC8, hL8, B8⟩
      · obtain ⟨rfl, hX9, hB9, hC9, hL9, B9⟩ := hC
        intro _
        refine iLdA B9 rfl ?_
        have hsz := hX9.size
        refine iBsQ fun bb w10 hbb h10 hB10 => ?_
        have hsl : SlK 4 w10 (.slice (some ⟨bb, 0, none⟩) 1 1) 1 (csQ ((gt st k).1, if 0 ≤ (gt st k).2.f then ⟨(gt st k).2.c, to.getD (gt st k).2.f.toNat 0, to.getD (gt st k).2.s.toNat 0, (gt st k).2.v⟩ else (gt st k).2)) := (OwK.ofBlk (k := 4) (lo := 0) (n := 1) hB10 (Nat.zero_le _) rfl (by omega)).sl
        have hL10 := hL9.ext h10
        refine iAppK u_Simpl_Resolvent i_Simpl_Resolvent rfl (by decide) hL10 hsl (fun y hy => by
          simp only [csQ, List.mem_cons, List.not_mem_nil, or_false] at hy
          rcases hy with rfl | rfl | rfl | rfl
          · exact hcell k hkl
          · rfl
          · rfl
          · rfl) (by omega) (by omega) (by have := h10.size; omega) fun o' w11 ho' hg hat => ?_
        have hg' := grown_ch (S := fun c => o.ownBlock = some c) hg fun c hc => hc
        have hX11 := (hX9.trans h10).grown hg fun c hc => (hL10.blk c hc).1
        have hB11 := (hB9.ext h10).grown hg (hL10.ne_blk (hB9.ext h10) (by decide))
        have hC11 := (hC9.ext h10).grown hg (hL10.ne_blk (hC9.ext h10) (by decide))
        refine iAdd (by omega) ?_
        refine hKn (k + 1, o') _ ⟨by show k + 1 ≤ st.length; omega, hX11, hB11, ?_, L ++ [((gt st k).1, if 0 ≤ (gt st k).2.f then ⟨(gt st k).2.c, to.getD (gt st k).2.f.toNat 0, to.getD (gt st k).2.s.toNat 0, (gt st k).2.v⟩ else (gt st k).2)], ?_, ?_, ?_⟩ (by show st.length - (k + 1) < st.length - k; omega)
        · show Blk t_i64 w11 b2 (ints (numK (st.map Prod.snd) (needed (st.map Prod.snd)) (k + 1)).1)
          rw [hnum, hL2]
          exact hC11
        · rw [cellsQ_app, List.length_append]
          have e : cellsQ [((gt st k).1, if 0 ≤ (gt st k).2.f then (⟨(gt st k).2.c, to.getD (gt st k).2.f.toNat 0, to.getD (gt st k).2.s.toNat 0, (gt st k).2.v⟩ : Rs) else (gt st k).2)] = csQ ((gt st k).1, if 0 ≤ (gt st k).2.f then (⟨(gt st k).2.c, to.getD (gt st k).2.f.toNat 0, to.getD (gt st k).2.s.toNat 0, (gt st k).2.v⟩ : Rs) else (gt st k).2) := by simp [cellsQ]
          rw [e]
          exact ho'
        · show _ = (numK (st.map Prod.snd) (needed (st.map Prod.snd)) (k + 1)).2
          rw [hnum, List.map_append, hLs]
          rfl
        · show List.Sublist _ ((st.take (k + 1)).map kyQ)
          rw [htake, List.map_append, List.map_append]
          refine List.Sublist.append hsub ?_
          have : kyQ ((gt st k).1, if 0 ≤ (gt st k).2.f then (⟨(gt st k).2.c, to.getD (gt st k).2.f.toNat 0, to.getD (gt st k).2.s.toNat 0, (gt st k).2.v⟩ : Rs) else (gt st k).2) = kyQ (gt st k) := by
            unfold kyQ
            split <;> rfl
          simp only [List.map_cons, List.map_nil, this]
          exact List.Sublist.refl _
end Go.Proofs.YtfadcafacpaldaaGreatDoor

/- Plain law of the search for refutations, seventh part: the steps of the reference, with and without an end at the empty clause. No program in sight. Conditions: none. -/
namespace Go.Vc
def addL (l : List Rs) (s : Rs) : List Rs := if s.c ∈ l.map Rs.c then l else l ++ [s]
def stepL (j i v : Nat) (l : List Rs) : List Rs :=
  match resC (l.getD i default).c (l.getD j default).c v with
  | some r => addL l ⟨r, i, j, v⟩
  | none => match resC (l.getD j default).c (l.getD i default).c v with
    | some r => addL l ⟨r, j, i, v⟩
    | none => l
def doneL (whole : Bool) (l : List Rs) : Bool := !whole && decide ([] ∈ l.map Rs.c)
def stepW (whole : Bool) (j i v : Nat) (l : List Rs) : List Rs := if doneL whole l then l else stepL j i v l
def growV (whole : Bool) (j i k : Nat) (l : List Rs) : List Rs := (List.range' k (6 - k)).foldl (fun l v => stepW whole j i v l) l
def growI (whole : Bool) (j k : Nat) (l : List Rs) : List Rs := (List.range' k (j - k)).foldl (fun l i => growV whole j i 0 l) l
def growJ (whole : Bool) : Nat → Nat → List Rs → List Rs
  | 0, _, l => l
  | n + 1, j, l => if doneL whole l || decide (l.length ≤ j) then l else growJ whole n (j + 1) (growI whole j 0 l)
def gl0 (L : List (List Int)) : List Rs := (setA lessB L).map fun c => ⟨c, -1, -1, -1⟩
def grownS (whole : Bool) (L : List (List Int)) : List Rs := growJ whole 800 0 (gl0 L)
theorem foldlL_done {α : Type} {whole : Bool} {f : List Rs → α → List Rs} (hf : ∀ st a, doneL whole st = true → f st a = st) : ∀ (l : List α) (st : List Rs), doneL whole st = true → l.foldl f st = st
  | [], _, _ => rfl
  | a :: l, st, h => by rw [List.foldl_cons, hf st a h]; exact foldlL_done hf l st h
theorem stepW_done {whole : Bool} (j i v : Nat) {l : List Rs} (h : doneL whole l = true) : stepW whole j i v l = l := if_pos h
theorem growV_done {whole : Bool} (j i k : Nat) {l : List Rs} (h : doneL whole l = true) : growV whole j i k l = l := foldlL_done (fun _ v h => stepW_done j i v h) _ _ h
theorem growI_done {whole : Bool} (j k : Nat) {l : List Rs} (h : doneL whole l = true) : growI whole j k l = l := foldlL_done (fun _ i h => growV_done j i 0 h) _ _ h
theorem growJ_done {whole : Bool} (n j : Nat) {l : List Rs} (h : doneL whole l = true) : growJ whole n j l = l := by
  cases n with
  | zero => rfl
  | succ n => rw [growJ, h]; rfl
theorem growV_step {whole : Bool} {j i k : Nat} (hk : k < 6) (l : List Rs) : growV whole j i k l = growV whole j i (k + 1) (stepW whole j i k l) := by
  unfold growV
  rw [show 6 - k = (6 - (k + 1)) + 1 by omega, List.range'_succ, List.foldl_cons]
theorem growI_step {whole : Bool} {j k : Nat} (hk : k < j) (l : List Rs) : growI whole j k l = growI whole j (k + 1) (growV whole j k 0 l) := by
  unfold growI
  rw [show j - k = (j - (k + 1)) + 1 by omega, List.range'_succ, List.foldl_cons]
theorem growI_end (whole : Bool) (j : Nat) (l : List Rs) : growI whole j j l = l := by unfold growI; rw [Nat.sub_self]; rfl
theorem growJ_step {whole : Bool} {n j : Nat} {l : List Rs} (h2 : doneL whole l = false) (hj : j < l.length) : growJ whole (n + 1) j l = growJ whole n (j + 1) (growI whole j 0 l) := by
  rw [growJ, h2, if_neg (by simp; omega)]
theorem growJ_end {whole : Bool} {n j : Nat} {l : List Rs} (hj : l.length ≤ j) : growJ whole n j l = l := by
  cases n with
  | zero => rfl
  | succ n => rw [growJ, if_pos (by simp [hj])]
structure LInv (l : List Rs) : Prop where
  ok : ∀ s ∈ l, ClOk s.c
  nd : (l.map Rs.c).Nodup
theorem LInv.add {l : List Rs} (h : LInv l) {s : Rs} (hs : ClOk s.c) : LInv (addL l s) := by
  unfold addL
  split
  · exact h
  · rename_i hn
    refine ⟨fun x hx => ?_, ?_⟩
    · rcases List.mem_append.1 hx with hx | hx
      · exact h.ok x hx
      · simp at hx; subst hx; exact hs
    · rw [List.map_append, List.nodup_append]
      refine ⟨h.nd, by simp, fun a ha b hb => ?_⟩
      simp at hb; subst hb
      exact fun e => hn (e ▸ ha)
theorem LInv.len {l : List Rs} (h : LInv l) : l.length ≤ 729 := by
  have := nodup_bound 729 ((l.map Rs.c).map code3) (by
    rw [List.nodup_iff_pairwise_ne, List.pairwise_map]
    refine List.Pairwise.imp_of_mem ?_ (List.nodup_iff_pairwise_ne.1 h.nd)
    intro a b ha hb hne e
    obtain ⟨x, hx, rfl⟩ := List.mem_map.1 ha
    obtain ⟨y, hy, rfl⟩ := List.mem_map.1 hb
    exact hne (code3_inj (h.ok x hx) (h.ok y hy) e)) (by
    intro x hx
    obtain ⟨c, hc, rfl⟩ := List.mem_map.1 hx
    obtain ⟨s, hs, rfl⟩ := List.mem_map.1 hc
    exact code3_lt (h.ok s hs))
  simpa using this
theorem LInv.step {l : List Rs} (h : LInv l) (whole : Bool) (j i v : Nat) : LInv (stepW whole j i v l) := by
  unfold stepW
  split
  · exact h
  · unfold stepL
    split
    · rename_i r hr
      exact h.add (resC_ok hr)
    · split
      · rename_i r hr
        exact h.add (resC_ok hr)
      · exact h
theorem foldlL_inv {α : Type} {Q : List Rs → Prop} {f : List Rs → α → List Rs} (hf : ∀ st a, Q st → Q (f st a)) : ∀ (l : List α) (st : List Rs), Q st → Q (l.foldl f st)
  | [], _, h => h
  | a :: l, st, h => foldlL_inv hf l (f st a) (hf st a h)
theorem LInv.growV {l : List Rs} (h : LInv l) (whole : Bool) (j i k : Nat) : LInv (growV whole j i k l) := foldlL_inv (fun _ v h => h.step whole j i v) _ _ h
theorem LInv.growI {l : List Rs} (h : LInv l) (whole : Bool) (j k : Nat) : LInv (growI whole j k l) := foldlL_inv (fun _ i h => h.growV whole j i 0) _ _ h
theorem LInv.growJ {whole : Bool} : ∀ (n j : Nat) {l : List Rs}, LInv l → LInv (growJ whole n j l)
  | 0, _, _, h => h
  | n + 1, j, l, h => by
    unfold Go.Vc.growJ
    split
    · exact h
    · exact LInv.growJ n (j + 1) (h.growI whole j 0)
theorem addL_pre (l : List Rs) (s : Rs) : l <+: addL l s := by
  unfold addL
  split
  · exact List.prefix_rfl
  · exact List.prefix_append _ _
theorem stepW_pre (whole : Bool) (j i v : Nat) (l : List Rs) : l <+: stepW whole j i v l := by
  unfold stepW
  split
  · exact List.prefix_rfl
  · unfold stepL
    split
    · exact addL_pre _ _
    · split
      · exact addL_pre _ _
      · exact List.prefix_rfl
theorem foldlL_pre {α : Type} {f : List Rs → α → List Rs} (hf : ∀ st a, st <+: f st a) : ∀ (l : List α) (st : List Rs), st <+: l.foldl f st
  | [], _ => List.prefix_rfl
  | a :: l, st => (hf st a).trans (foldlL_pre hf l _)
theorem growV_pre (whole : Bool) (j i k : Nat) (l : List Rs) : l <+: growV whole j i k l := foldlL_pre (fun st v => stepW_pre whole j i v st) _ _
theorem growI_pre (whole : Bool) (j k : Nat) (l : List Rs) : l <+: growI whole j k l := foldlL_pre (fun st i => growV_pre whole j i 0 st) _ _
theorem ordLs : OrdA lessB := ⟨⟨fun {a b} h => lessB_asymm a b h, fun {a b c} h k => lessB_trans a b c h k⟩, fun {a b} h k => lessB_anti a b h k⟩
theorem setA_nodup (L : List (List Int)) : (setA lessB L).Nodup := by
  rw [List.nodup_iff_pairwise_ne]
  refine (inc_setA ordLs L).imp fun {a b} h e => ?_
  subst e
  have := ordLs.o.asym h
  rw [h] at this; cases this
theorem gl0_map (L : List (List Int)) : (gl0 L).map Rs.c = setA lessB L := by
  unfold gl0
  rw [List.map_map]
  exact List.map_id' _
theorem gl0_inv {L : List (List Int)} (h : ∀ c ∈ L, ClOk c) : LInv (gl0 L) := by
  refine ⟨fun s hs => ?_, by rw [gl0_map]; exact setA_nodup L⟩
  obtain ⟨c, hc, rfl⟩ := List.mem_map.1 hs
  exact h c ((mem_setA ordLs).1 hc)
/-! ### Without 'whole' both searches are the same -/
theorem pstep_fst {st : RfSt} (h : RInv st) (j i v : Nat) : (pstep j i v st).1 = stepW false j i v st.1 := by
  unfold pstep stepW doneL
  have he := h.em
  rw [he]
  simp only [Bool.not_false, Bool.true_and]
  split
  · rfl
  · unfold stepL
    have ha : ∀ s, (addS st s).1 = addL st.1 s := fun s => by
      unfold addS addL
      split <;> rfl
    cases h1 : resC (st.1.getD i default).c (st.1.getD j default).c v with
    | some r => exact ha _
    | none =>
      cases h2 : resC (st.1.getD j default).c (st.1.getD i default).c v with
      | some r => exact ha _
      | none => rfl
theorem foldl_fst {α : Type} {f : RfSt → α → RfSt} {g : List Rs → α → List Rs} (hi : ∀ st a, RInv st → RInv (f st a)) (hf : ∀ st a, RInv st → (f st a).1 = g st.1 a) : ∀ (l : List α) (st : RfSt), RInv st → (l.foldl f st).1 = l.foldl g st.1
  | [], _, _ => rfl
  | a :: l, st, h => by rw [List.foldl_cons, List.foldl_cons, ← hf st a h]; exact foldl_fst hi hf l _ (hi st a h)
theorem remV_fst {st : RfSt} (h : RInv st) (j i k : Nat) : (remV j i k st).1 = growV false j i k st.1 := foldl_fst (fun _ v h => h.pstep j i v) (fun _ v h => pstep_fst h j i v) _ _ h
theorem remI_fst {st : RfSt} (h : RInv st) (j k : Nat) : (remI j k st).1 = growI false j k st.1 := foldl_fst (fun _ i h => h.remV j i 0) (fun _ i h => remV_fst h j i 0) _ _ h
theorem remJ_fst : ∀ (n j : Nat) {st : RfSt}, RInv st → (remJ n j st).1 = growJ false n j st.1
  | 0, _, _, _ => rfl
  | n + 1, j, st, h => by
    unfold remJ growJ doneL
    rw [h.em]
    simp only [Bool.not_false, Bool.true_and]
    split
    · rfl
    · rw [remJ_fst n (j + 1) (h.remI j 0), remI_fst h j 0]
/-- The last place with the empty clause, if there is one. -/
def lastE (l : List Rs) : Nat → Int
  | 0 => -1
  | k + 1 => if (l.getD k default).c = [] then (k : Int) else lastE l k
theorem lastE_none {l : List Rs} : ∀ (k : Nat), k ≤ l.length → (∀ i, i < k → ¬ (l.getD i default).c = []) → lastE l k = -1
  | 0, _, _ => rfl
  | k + 1, hk, h => by
    rw [lastE, if_neg (h k (by omega))]
    exact lastE_none k (by omega) fun i hi => h i (by omega)
theorem lastE_one {l : List Rs} {m : Nat} (hm : (l.getD m default).c = []) : ∀ (k : Nat), m < k → (∀ i, i < k → i ≠ m → ¬ (l.getD i default).c = []) → lastE l k = (m : Int)
  | 0, h, _ => by omega
  | k + 1, hk, h => by
    rw [lastE]
    by_cases e : k = m
    · subst e; rw [if_pos hm]
    · rw [if_neg (h k (by omega) e)]
      exact lastE_one hm k (by omega) fun i hi hne => h i (by omega) hne
/-- What RefuteClauses answers. -/
def rfR (L : List (List Int)) : List Rs × Int :=
  if ¬ ∀ c ∈ L, ClOk c then ([], 1) else if 40 < L.length then ([], 3) else if (endP L).2 then (usedR (endP L).1, 0) else ([], 4)
/-- The reference's answer is the program's. -/
theorem spec_end {L : List (List Int)} (hok : ∀ c ∈ L, ClOk c) :
    (if lastE (grownS false L) (grownS false L).length < 0 then (([] : List Rs), (4 : Int)) else (usedS (grownS false L) (lastE (grownS false L) (grownS false L).length).toNat, 0)) = if (endP L).2 then (usedR (endP L).1, 0) else ([], 4) := by
  have hSok : ∀ c ∈ setA lessB L, ClOk c := fun c hc => hok c ((mem_setA ordLs).1 hc)
  by_cases hE : [] ∈ setA lessB L
  · -- the empty clause is given
    obtain ⟨M, hM⟩ := setA_nil hE
    have hg : grownS false L = gl0 L := growJ_done 800 0 (by unfold doneL; rw [gl0_map]; simpa using hE)
    have hP : endP L = ([⟨[], -1, -1, -1⟩], true) := by
      unfold endP
      rw [hM, startP_E]
      exact remJ_done 800 0 (st := ([⟨[], -1, -1, -1⟩], true)) rfl
    rw [hg, hP, if_pos rfl]
    have hl0 : gl0 L = ⟨[], -1, -1, -1⟩ :: M.map fun c => ⟨c, -1, -1, -1⟩ := by unfold gl0; rw [hM]; rfl
    have hnd := setA_nodup L
    rw [hM, List.nodup_cons] at hnd
    have hlast : lastE (gl0 L) (gl0 L).length = ((0 : Nat) : Int) := by
      refine lastE_one (by rw [hl0]; rfl) _ (by rw [hl0]; simp) fun i hi hne => ?_
      rw [hl0] at hi ⊢
      obtain ⟨k, rfl⟩ : ∃ k, i = k + 1 := ⟨i - 1, by omega⟩
      simp only [List.length_cons, List.length_map] at hi
      have hk : k < M.length := by omega
      intro e
      refine hnd.1 ?_
      have : M[k] = [] := by simpa [List.getD_eq_getElem?_getD, hk] using e
      rw [← this]; exact List.getElem_mem hk
    rw [hlast, if_neg (by decide), Int.toNat_natCast]
    congr 1
    have e1 : usedR [(⟨[], -1, -1, -1⟩ : Rs)] = [⟨[], -1, -1, -1⟩] := rfl
    rw [e1]
    unfold usedS
    have hn : needK (gl0 L) (0 + 1) ((List.replicate (gl0 L).length false).set 0 true) = (List.replicate (gl0 L).length false).set 0 true := by
      rw [needK]
      have : ((gl0 L).getD 0 default).f = -1 := by rw [hl0]; rfl
      rw [this]
      simp only [show decide ((0 : Int) ≤ -1) = false by decide, Bool.and_false, Bool.false_eq_true, if_false]
      rfl
    rw [hn]
    have h0 : ((List.replicate (gl0 L).length false).set 0 true).getD 0 false = true := by rw [hl0]; rfl
    rw [numK]
    dsimp only
    rw [h0, if_pos rfl]
    have hx : (gl0 L).getD 0 default = ⟨[], -1, -1, -1⟩ := by rw [hl0]; rfl
    rw [hx]
    rfl
  · have hst : startP (setA lessB L) ([], false) = (gl0 L, false) := by
      rw [startP_noE _ _ rfl (by simpa using setA_nodup L) hE]
      rfl
    have hI0 : RInv (gl0 L, false) := by
      have := RInv.startP (setA lessB L) RInv.nil hSok
      rw [hst] at this; exact this
    have hg : grownS false L = (endP L).1 := by
      unfold grownS endP
      rw [hst, remJ_fst 800 0 hI0]
    have hI := endP_inv hok
    rw [hg]
    cases h2 : (endP L).2 with
    | true =>
      obtain ⟨hlen, hemp⟩ := endP_empty hok h2
      have hlast : lastE (endP L).1 (endP L).1.length = (((endP L).1.length - 1 : Nat) : Int) := by
        refine lastE_one hemp _ (by omega) fun i hi hne => hI.la i (by omega)
      rw [hlast, if_neg (by omega), Int.toNat_natCast, usedS_last hlen, if_pos rfl]
    | false =>
      have hno := hI.em
      rw [h2] at hno
      have hno := of_decide_eq_false hno.symm
      have hlast : lastE (endP L).1 (endP L).1.length = -1 := by
        refine lastE_none _ (Nat.le_refl _) fun i hi e => hno (List.mem_map.2 ⟨(endP L).1[i], List.getElem_mem hi, ?_⟩)
        simpa [List.getD_eq_getElem?_getD, hi] using e
      rw [hlast, if_pos (by decide), if_neg (by simp)]
theorem grownS_good {L : List (List Int)} (hok : ∀ c ∈ L, ClOk c) : ∀ k, k < (grownS false L).length → StepOk L (grownS false L) k := by
  have hSok : ∀ c ∈ setA lessB L, ClOk c := fun c hc => hok c ((mem_setA ordLs).1 hc)
  by_cases hE : [] ∈ setA lessB L
  · have hg : grownS false L = gl0 L := growJ_done 800 0 (by unfold doneL; rw [gl0_map]; simpa using hE)
    rw [hg]
    intro k hk
    have hk' : k < (setA lessB L).length := by simpa [gl0] using hk
    have e : (gl0 L).getD k default = ⟨(setA lessB L)[k], -1, -1, -1⟩ := by simp [gl0, List.getD_eq_getElem?_getD, hk']
    refine .inl ⟨by rw [e], by rw [e], by rw [e], ?_⟩
    rw [e]
    exact (mem_setA ordLs).1 (List.getElem_mem hk')
  · have hst : startP (setA lessB L) ([], false) = (gl0 L, false) := by
      rw [startP_noE _ _ rfl (by simpa using setA_nodup L) hE]
      rfl
    have hI0 : RInv (gl0 L, false) := by
      have := RInv.startP (setA lessB L) RInv.nil hSok
      rw [hst] at this; exact this
    have hg : grownS false L = (endP L).1 := by
      unfold grownS endP
      rw [hst, remJ_fst 800 0 hI0]
    rw [hg]
    exact endP_good L
end Go.Vc

/- Contracts: RefuteClauses of the program. Conditions: none. -/
namespace Go.Proofs.YtfadcafacpaldaaGreatDoor
open Go.Vc
/-- A row of steps of the call's own, each with a row of its own. -/
def OwQ (lo : Nat) (w : World) (v : Value) (M : List Rs) : Prop := ∃ L : List RV, OwK 4 lo t_impl_Resolvent w v L.length (cellsQ L) ∧ OwP lo t_i64 w (L.map kyQ) ∧ L.map Prod.snd = M
theorem OwQ.nil (lo : Nat) (w : World) : OwQ lo w (.slice none 0 0) [] := ⟨[], OwK.nil _ _ _ _, ⟨fun p hp => (by cases hp), List.Pairwise.nil⟩, rfl⟩
theorem OwQ.rd {lo : Nat} {w : World} {v : Value} {M : List Rs} (h : OwQ lo w v M) : ∃ L : List RV, RdQ w v L ∧ L.map Prod.snd = M := let ⟨L, a, b, c⟩ := h; ⟨L, ⟨a.sl, fun x hx => (b.1 (kyQ x) (List.mem_map_of_mem hx)).sl⟩, c⟩
theorem ok_impl_RefuteClauses {v : Value} {w : World} {P : List VL} (hs : RdRows w v P) :
    Cal Tryz.prog f_impl_RefuteClauses #[v] w fun r w' => Ext w w' ∧ ∃ u, r = .tuple #[u, .int .i64 (rfR (P.map Prod.snd)).2] ∧ OwQ w.heap.size w' u (rfR (P.map Prod.snd)).1 := by
  apply c_impl_RefuteClauses; unfold S_impl_RefuteClauses
  have hall : (∀ c ∈ P.map Prod.snd, ClOk c) ↔ ∀ p ∈ P, ClOk p.2 := ⟨fun h p hp => h _ (List.mem_map_of_mem hp), fun h c hc => by obtain ⟨p, hp, rfl⟩ := List.mem_map.1 hc; exact h p hp⟩
  refine iRet (ok_impl_areClauses hs) fun w1 h1 => ?_
  refine iNot ?_
  by_cases hok : ∀ p ∈ P, ClOk p.2
  rotate_left
  · rw [decide_eq_false hok]
    refine iCndT rfl ?_
    have e : rfR (P.map Prod.snd) = ([], 1) := if_pos fun h => hok (hall.1 h)
    rw [e]
    exact ⟨h1, _, rfl, OwQ.nil _ _⟩
  rw [decide_eq_true hok]
  refine iCndF rfl ?_
  have g1 := hs.ext h1
  refine iLenS g1.1 ?_
  rw [List.length_map]
  refine iLt (iCndP (fun h => ?_) (fun h => ?_))
  · have e : rfR (P.map Prod.snd) = ([], 3) := by
      unfold rfR
      rw [if_neg (not_not_intro (hall.2 hok)), if_pos (by rw [List.length_map]; omega)]
    rw [e]
    exact ⟨h1, _, rfl, OwQ.nil _ _⟩
  have hrf : rfR (P.map Prod.snd) = if (endP (P.map Prod.snd)).2 then (usedR (endP (P.map Prod.snd)).1, 0) else ([], 4) := by
    unfold rfR
    rw [if_neg (not_not_intro (hall.2 hok)), if_neg (by rw [List.length_map]; omega)]
  refine iSetMade fun bm w2 hbm h2 hM => ?_
  refine iBuild (cs := #[.slice none 0 0, .map (some bm)]) (by simp [Instr.fill, Value.cells]) ?_
  refine iNew fun b w3 hb h3 hB => ?_
  have hB : Blk _ w3 b [.slice none 0 0, .map (some bm)] := hB
  have hX3 := (h1.trans h2).trans h3
  have g3 := hs.ext hX3
  have hM3 := hM.ext h3
  have hR : RfW w.heap.size 50 w3 b bm (.slice none 0 0) [] := by
    refine ⟨hB, OwK.nil _ _ _ _, ?_, ⟨fun p hp => (by cases hp), List.Pairwise.nil⟩, ?_, ?_⟩
    · obtain ⟨es, clock, q1, q2, q3⟩ := hM3
      refine ⟨es, clock, q1, fun y hy => ?_, fun k hk => ?_⟩
      · obtain ⟨_, _, _, hF⟩ := q2 y hy
        exact hF.elim
      · obtain ⟨x, hx, _⟩ := hk
        cases hx
    · have := h1.size; have := h2.size; omega
    · have := h1.size; omega
  refine iCall ((ok_impl_refuter_run (by decide) (by decide) (by decide) (by decide) hR g3 (by omega) hok hX3.size).mono ?_)
  rintro _ w4 ⟨u', st', t, g4, hc4, he, rfl⟩
  have hX4 : Ext w w4 := hX3.thenCh hc4 fun c hc => hc
  refine iNot ?_
  rw [hrf, he]
  cases t with
  | false =>
    refine iCndT rfl ?_
    exact ⟨hX4, _, rfl, OwQ.nil _ _⟩
  | true =>
    refine iCndF rfl ?_
    have hen := endP_empty (L := P.map Prod.snd) (hall.2 hok) (by rw [he])
    have hin := (endP_inv (L := P.map Prod.snd) (hall.2 hok)).len
    rw [he] at hen hin
    simp only [List.length_map] at hen hin
    have hgd := endP_good (P.map Prod.snd)
    rw [he] at hgd
    refine iCall ((ok_impl_refuter_used g4 hgd hen.1 (by omega)).mono ?_)
    rintro u5 w5 ⟨h5, L, hL, hLs, hsub⟩
    refine ⟨hX4.trans h5, u5, rfl, L, hL.mono hX4.size, ?_, hLs⟩
    have hown := g4.own.ext h5
    exact ⟨fun p hp => hown.1 p (hsub.subset hp), hown.2.sublist hsub⟩
end Go.Proofs.YtfadcafacpaldaaGreatDoor

/- Contracts: rows of rows in order without doubles, in the reference. Conditions: none. -/
namespace Go.Vc
section
universe u
variable {α : Type u} {enc : α → Value} {w : World}
theorem iRdS [Inhabited α] {v : Value} {L : List α} {j : Nat} {k : IntKind} {K : Value → Prop} (hs : Sl w v (L.map enc)) (hj : j < L.length) (h : K (enc (gt L j))) : xIa 1 v (.int k (j : Int)) fun p => xLd w p K :=
  iIaV hs (by rw [List.length_map]; exact hj) fun p hc => iLd hc (by rw [List.getElem_map, ← gt_eq hj]; exact h)
end
end Go.Vc
namespace Go.Proofs.YtfadcafacpaldaaGreatDoor
open Go.Vc
theorem ok_spec_l01Same {va vb : Value} {w : World} {a b : List Int} (ha : SlI w va a) (hb : SlI w vb b) : Ret Tryz.prog f_spec_l01Same #[va, vb] w (.bool (decide (a = b))) := by
  apply c_spec_l01Same; unfold S_spec_l01Same
  have hal := ha.len
  have hbl := hb.len
  ((with_reducible refine iLenI (by assumption) ?_; refine iLenI (by assumption) ?_; refine iNe ?_))
  refine iCndP (fun h => ?_) (fun h => ?_)
  · rw [decide_eq_false (fun e => h (by rw [e]))]
    exact ⟨rfl, Ext.refl _⟩
  have hlen : a.length = b.length := by omega
  refine iLp (fun k : Nat => [.int .i64 (k : Int)]) (fun k w' => k ≤ a.length ∧ Ext w w' ∧ ∀ i, i < k → a[i]? = b[i]?) (fun k => a.length - k) 0 rfl ⟨Nat.zero_le _, Ext.refl _, fun i hi => by omega⟩ ?_
  rintro k w2 Kn ⟨hka, h2, heq⟩ hKn
  have ha2 := ha.ext h2
  have hb2 := hb.ext h2
  (intro _; (try simp only [gx]); (with_reducible refine iLenI (by assumption) ?_; refine iLt ?_))
  refine iCndP (fun h5 => ?_) (fun h5 => ?_)
  · have h5a : k < a.length := by omega
    have h5b : k < b.length := by omega
    have ea : a.getD k 0 = a[k] := by simp [List.getD_eq_getElem?_getD, h5a]
    have eb : b.getD k 0 = b[k] := by simp [List.getD_eq_getElem?_getD, h5b]
    ((with_reducible refine iIaN (by assumption) ?_ (fun pa_ hpa_ => ?_)); omega; (with_reducible refine iLd (by assumption) ?_); (with_reducible refine iIaN (by assumption) ?_ (fun pa_ hpa_ => ?_)); omega; (with_reducible refine iLd (by assumption) ?_; refine iNe ?_))
    rw [ea, eb]
    intro w3 h3
    refine iCndP (fun h7 => ?_) (fun h7 => ?_)
    · rw [decide_eq_false (fun e => h7 (by subst e; rfl))]
      exact ⟨rfl, h2.trans h3⟩
    · (refine iAdd (by omega) ?_)
      refine hKn (k + 1) _ ⟨by omega, h2.trans h3, fun i hi => ?_⟩ (by omega)
      by_cases hik : i = k
      · subst hik
        rw [List.getElem?_eq_getElem h5a, List.getElem?_eq_getElem h5b, Classical.not_not.1 h7]
      · exact heq i (by omega)
  · rw [decide_eq_true (List.ext_getElem? fun i => ?_)]
    · exact ⟨rfl, h2⟩
    rcases Nat.lt_or_ge i k with h | h
    · exact heq i h
    · rw [List.getElem?_eq_none (by omega), List.getElem?_eq_none (by omega)]
theorem ok_spec_l04Sorted {w : World} {v : Value} {P : List VL} (hv : Sl w v (P.map Prod.fst)) (hP : ∀ p ∈ P, SlI w p.1 p.2) (hPl : ∀ p ∈ P, p.2.length ≤ 1000000) (hlen : P.length ≤ 1000000) :
    Cal Tryz.prog f_spec_l04Sorted #[v] w fun r w' => Ext w w' ∧ RdLL w.heap.size w' r (setA lessB (P.map Prod.snd)) := by
  apply c_spec_l04Sorted; unfold S_spec_l04Sorted
  refine iBs0 fun u0 w1 _ h1 hu0 => ?_
  refine iLp (fun s : Nat × Value => [s.2, .int .i64 (s.1 : Int)]) (fun s w' => s.1 ≤ P.length ∧ Ext w w' ∧ ∃ Q : List VL, Ow w.heap.size t_Si64 w' s.2 (Q.map Prod.fst) ∧ OwP w.heap.size t_i64 w' Q ∧ Q.map Prod.snd = setA lessB ((P.map Prod.snd).take s.1)) (fun s => P.length - s.1) (0, u0) rfl ⟨Nat.zero_le _, h1, [], hu0, ⟨fun p hp => (by cases hp), List.Pairwise.nil⟩, rfl⟩ ?_
  rintro ⟨i, u⟩ w2 Kn ⟨hi, h2, Q, ho, hQ, hQs⟩ hKn
  have hi : i ≤ P.length := hi
  have h2 : Ext w w2 := h2
  have ho : Ow w.heap.size t_Si64 w2 u (Q.map Prod.fst) := ho
  have hQs : Q.map Prod.snd = setA lessB ((P.map Prod.snd).take i) := hQs
  have hQl : Q.length ≤ i := by
    have e := congrArg List.length hQs
    rw [List.length_map] at e
    have := setA_len (lt := lessB) ((P.map Prod.snd).take i)
    rw [List.length_take] at this
    omega
  have hv2 := hv.ext h2
  intro _
  simp only [gx]
  refine iLenS hv2 ?_
  rw [List.length_map]
  refine iLt ?_
  refine iCndP (fun h3 => ?_) (fun h3 => ?_)
  rotate_left
  · obtain rfl : i = P.length := by omega
    rw [List.take_of_length_le (by simp)] at hQs
    exact ⟨h2, Q.map Prod.fst, ho, by rw [← hQs]; exact hQ.to⟩
  have hi1 : i < P.length := by omega
  have hxm : gt P i ∈ P := by rw [gt_eq hi1]; exact List.getElem_mem _
  have etk : (P.map Prod.snd).take (i + 1) = (P.map Prod.snd).take i ++ [(gt P i).2] := by
    rw [List.take_succ_eq_append_getElem (by simpa using hi1), List.getElem_map, gt_eq hi1]
  have hset : setA lessB ((P.map Prod.snd).take (i + 1)) = insA lessB (gt P i).2 (Q.map Prod.snd) := by rw [etk, setA_snoc, ← hQs]
  generalize hx : (gt P i).2 = x at *
  have hxw : SlI w (gt P i).1 x := by rw [← hx]; exact hP _ hxm
  have hxl : x.length ≤ 1000000 := by rw [← hx]; exact hPl _ hxm
  have hgq : ∀ k, k < Q.length → gt (Q.map Prod.snd) k = (gt Q k).2 := fun k hk => by
    rw [gt_eq (by simpa using hk), gt_eq hk, List.getElem_map]
  have hqs : ∀ {w'}, Ext w2 w' → ∀ k, k < Q.length → SlI w' (gt Q k).1 (gt Q k).2 := fun h k hk => ((hQ.1 _ (by rw [gt_eq hk]; exact List.getElem_mem _)).ext h).sl
  refine iLp (fun k : Nat => [.int .i64 (k : Int)]) (fun k w' => k ≤ Q.length ∧ Ext w2 w' ∧ ∀ j, j < k → lessB (gt (Q.map Prod.snd) j) x = true) (fun k => Q.length - k) 0 rfl ⟨Nat.zero_le _, Ext.refl _, fun j hj => by omega⟩ ?_
  rintro k w3 Kn3 ⟨hk, h23, hlt⟩ hKn3
  have ho3 := ho.ext h23
  have hv3 := hv2.ext h23
  intro _
  simp only [gx]
  refine iJnB (decide (k < Q.length) && lessB (gt Q k).2 x) w3 (fun J hJ => ?_) (fun w4 h4 => ?_)
  · refine iLenS ho3.sl ?_
    rw [List.length_map]
    refine iLt ?_
    refine iCndP (fun h => ?_) (fun h => ?_)
    · rw [decide_eq_true (show k < Q.length by omega), Bool.true_and] at hJ
      refine iRdO (j := k) ho3 rfl (by omega) ?_
      refine iRdS (j := i) hv3 hi1 ?_
      refine iRetQ (fun w' h' => ok_spec_l01Less (hqs (h23.trans h') k (by omega)) (((hxw.ext h2).ext h23).ext h')) ?_
      exact hJ
    · rw [decide_eq_false (show ¬ k < Q.length by omega), Bool.false_and] at hJ
      exact hJ
  intro _
  simp only [gx]
  have ho4 := ho3.ext h4
  have hv4 := hv3.ext h4
  have h24 := h23.trans h4
  cases hc : decide (k < Q.length) && lessB (gt Q k).2 x
  rotate_left
  · rw [Bool.and_eq_true, decide_eq_true_eq] at hc
    refine iCndT rfl ?_
    refine iAdd (by omega) ?_
    refine hKn3 (k + 1) _ ⟨by omega, h24, fun j hj => ?_⟩ (by omega)
    by_cases hjk : j = k
    · subst hjk; rw [hgq j hc.1]; exact hc.2
    · exact hlt j (by omega)
  refine iCndF rfl ?_
  have hsp := insA_split (t := x) (l := Q.map Prod.snd) (k := k) (by simpa using hk) hlt
  refine iJnB (decide (k < Q.length) && decide ((gt Q k).2 = x)) w4 (fun J hJ => ?_) (fun w6 h6 => ?_)
  · refine iLenS ho4.sl ?_
    rw [List.length_map]
    refine iLt ?_
    refine iCndP (fun h => ?_) (fun h => ?_)
    · rw [decide_eq_true (show k < Q.length by omega), Bool.true_and] at hJ
      refine iRdO (j := k) ho4 rfl (by omega) ?_
      refine iRdS (j := i) hv4 hi1 ?_
      refine iRetQ (fun w' h' => ok_spec_l01Same (hqs (h24.trans h') k (by omega)) (((hxw.ext h2).ext h24).ext h')) ?_
      exact hJ
    · rw [decide_eq_false (show ¬ k < Q.length by omega), Bool.false_and] at hJ
      exact hJ
  intro _
  simp only [gx]
  have ho6 := ho4.ext h6
  have hv6 := hv4.ext h6
  have h26 := h24.trans h6
  have hX6 := h2.trans h26
  have hQ6 := hQ.ext h26
  cases hc2 : decide (k < Q.length) && decide ((gt Q k).2 = x)
  rotate_left
  · rw [Bool.and_eq_true, decide_eq_true_eq, decide_eq_true_eq] at hc2
    refine iCndT rfl ?_
    refine iAdd (by omega) ?_
    refine hKn (i + 1, u) _ ⟨by show i + 1 ≤ P.length; omega, hX6, Q, ho6, hQ6, ?_⟩ (by show P.length - (i + 1) < P.length - i; omega)
    show Q.map Prod.snd = setA lessB ((P.map Prod.snd).take (i + 1))
    have hkm : k < (Q.map Prod.snd).length := by simpa using hc2.1
    have hgk : (Q.map Prod.snd)[k] = x := by rw [← gt_eq hkm, hgq k hc2.1]; exact hc2.2
    rw [hset, hsp, List.drop_eq_getElem_cons hkm, hgk, insA, lessB_irr, if_neg (by decide), if_neg (by decide)]
    have := List.take_append_drop k (Q.map Prod.snd)
    rw [List.drop_eq_getElem_cons hkm, hgk] at this
    exact this.symm
  · refine iCndF rfl ?_
    have hres : insA lessB x (Q.map Prod.snd) = (Q.map Prod.snd).take k ++ [x] ++ (Q.map Prod.snd).drop k := by
      rw [hsp]
      rcases Nat.lt_or_ge k Q.length with h | h
      · rw [decide_eq_true h, Bool.true_and] at hc hc2
        have hkm : k < (Q.map Prod.snd).length := by simpa using h
        have hgk : (Q.map Prod.snd)[k] = (gt Q k).2 := by rw [← gt_eq hkm, hgq k h]
        rw [List.drop_eq_getElem_cons hkm, hgk, insA, hc, if_neg (by decide)]
        rcases ordL.tot (gt Q k).2 x with h' | h' | h'
        · rw [hc] at h'; cases h'
        · exact absurd h' (of_decide_eq_false hc2)
        · rw [if_pos h']; simp
      · rw [List.drop_of_length_le (by simpa using h)]; simp [insA]
    have hcell : ∀ y ∈ Q.map Prod.fst, isCell y = true := fun y hy => by
      obtain ⟨p, hp, rfl⟩ := List.mem_map.1 hy
      exact (hQ.1 p hp).cell
    have hml : (Q.map Prod.fst).length = Q.length := List.length_map _
    refine iBs0 fun v7 w7 hw7 h7 ho7 => ?_
    have ho67 := ho6.ext h7
    refine iSlTo ho67.sl (by rw [hml]; exact hk) fun y hy => ?_
    refine iAppA u_SSi64 i_SSi64 rfl ho7 hy (fun z hz => hcell z (List.mem_of_mem_take hz)) (by rw [List.length_take, List.length_nil]; omega) (by rw [List.length_take, List.length_nil]; omega) (by omega) fun v8 w8 ho8 hg8 _ => ?_
    have hX8 := h7.grown hg8 fun b hb => (ho7.blk b hb).1
    have hX8' := hX6.trans hX8
    refine iRdS (j := i) (hv6.ext hX8) hi1 ?_
    refine iCall ((ok_spec_l01Own (hxw.ext hX8') (by omega)).mono ?_)
    rintro nr w9 ⟨h9, hnr⟩
    have ho9 := ho8.ext h9
    have hX9 := hX8.trans h9
    have hll : ([] ++ List.take k (Q.map Prod.fst)).length = k := by simp; omega
    refine iApp1A u_SSi64 i_SSi64 rfl ho9 hnr.cell (by rw [hll]; omega) (by rw [hll]; omega) (by have := hX9.size; omega) fun v10 w10 ho10 hg10 _ => ?_
    have hX10 := hX9.grown hg10 fun b hb => (ho9.blk b hb).1
    have ho610 := ho6.ext hX10
    have hnr10 := hnr.ch (grown_ch (S := fun c => v8.ownBlock = some c) hg10 fun c hc => hc) fun c hc he => hnr.ne_ow ho9 (by decide) hc he
    refine iSlFrom ho610.sl (by rw [hml]; exact hk) fun y' hy' => ?_
    have hll2 : (([] ++ List.take k (Q.map Prod.fst)) ++ [nr]).length = k + 1 := by rw [List.length_append, hll]; rfl
    refine iAppA u_SSi64 i_SSi64 rfl ho10 hy' (fun z hz => hcell z (List.mem_of_mem_drop hz)) (by rw [hll2, List.length_drop, hml]; omega) (by rw [hll2, List.length_drop, hml]; omega) (by have := hX10.size; omega) fun v11 w11 ho11 hg11 _ => ?_
    have hX11 := hX10.grown hg11 fun b hb => (ho10.blk b hb).1
    have hnr11 := hnr10.ch (grown_ch (S := fun c => v10.ownBlock = some c) hg11 fun c hc => hc) fun c hc he => hnr10.ne_ow ho10 (by decide) hc he
    refine iAdd (by omega) ?_
    have hlo6 := hX6.size
    have hQ11 := hQ6.ext hX11
    refine hKn (i + 1, v11) _ ⟨by show i + 1 ≤ P.length; omega, hX6.trans hX11, Q.take k ++ (nr, x) :: Q.drop k, ?_, ?_, ?_⟩ (by show P.length - (i + 1) < P.length - i; omega)
    · have e : (Q.take k ++ (nr, x) :: Q.drop k).map Prod.fst = [] ++ List.take k (Q.map Prod.fst) ++ [nr] ++ List.drop k (Q.map Prod.fst) := by
        rw [List.map_append, List.map_cons, List.map_take, List.map_drop]; simp
      show Ow _ _ _ v11 _
      rw [e]
      exact ho11.mono hlo6
    · refine OwP.perm (P := (nr, x) :: Q) ⟨fun p hp => ?_, List.pairwise_cons.2 ⟨fun p hp c hc hc' => ?_, hQ11.2⟩⟩ ?_
      · rcases List.mem_cons.1 hp with rfl | hp
        · exact hnr11.mono (by have := hX8.size; omega)
        · exact hQ11.1 p hp
      · have a1 := (hnr.blk c hc).1
        have a2 := ((hQ6.1 p hp).blk c hc').2
        have := hX8.size
        omega
      · have := (List.perm_middle (a := (nr, x)) (l₁ := Q.take k) (l₂ := Q.drop k)).symm
        rwa [List.take_append_drop] at this
    · show (Q.take k ++ (nr, x) :: Q.drop k).map Prod.snd = setA lessB ((P.map Prod.snd).take (i + 1))
      rw [hset, hres, List.map_append, List.map_cons, List.map_take, List.map_drop]; simp
end Go.Proofs.YtfadcafacpaldaaGreatDoor

/- Contracts: the steps that the reference finds. Conditions: none. -/
namespace Go.Vc
theorem iBs0Q {w : World} {e : TypeId} {z0 z1 z2 z3 : Value} {K : Value → World → Prop} (h : ∀ v w', Ext w w' → OwK 4 w.heap.size e w' v 0 [] → K v w') : xBs e (Value.cells (.agg #[z0, z1, z2, z3])) 4 0 [] w K := by
  refine ⟨#[], ?_, h _ _ (Ext.alloc w _) (OwK.ofBlk (k := 4) (n := 0) (Blk.new w #[] e) (Nat.le_refl _) rfl (by omega))⟩
  simp [Instr.fill]
/-- The marks of the clauses that are known. -/
def KnOk (kn : List Bool) (l : List Rs) : Prop := kn.length = 729 ∧ ∀ c, ClOk c → kn.getD (code3 c) false = decide (c ∈ l.map Rs.c)
theorem KnOk.add {kn : List Bool} {l : List Rs} (h : KnOk kn l) {s : Rs} (hs : ClOk s.c) : KnOk (kn.set (code3 s.c) true) (l ++ [s]) := by
  refine ⟨by rw [List.length_set]; exact h.1, fun c hc => ?_⟩
  have hlt := code3_lt hs
  have h0 := h.2 c hc
  by_cases e : c = s.c
  · subst e
    rw [decide_eq_true (by simp)]
    simp [List.getD_eq_getElem?_getD, h.1, hlt]
  · have hne : ¬ code3 s.c = code3 c := fun e' => e (code3_inj hc hs e'.symm)
    have : (kn.set (code3 s.c) true).getD (code3 c) false = kn.getD (code3 c) false := by simp [List.getD_eq_getElem?_getD, hne]
    rw [this, h0]
    refine decide_eq_decide.2 ⟨fun h => by rw [List.map_append]; exact List.mem_append_left _ h, fun h => ?_⟩
    rw [List.map_append] at h
    rcases List.mem_append.1 h with h | h
    · exact h
    · simp at h; exact absurd h e
theorem KnOk.zero {kn : List Bool} {l : List Rs} (h : KnOk kn l) (whole : Bool) : (!whole && kn.getD 0 false) = doneL whole l := by
  have := h.2 [] ⟨fun _ h => (by cases h), List.Pairwise.nil⟩
  unfold doneL
  rw [← this]; rfl
theorem KnOk.init {n : Nat} (hn : n = 729) : KnOk (List.replicate n false) [] := ⟨by rw [List.length_replicate]; exact hn, fun c hc => by
  have : (List.replicate n false).getD (code3 c) false = false := by
    rw [List.getD_eq_getElem?_getD, List.getElem?_replicate]
    split <;> rfl
  rw [this]; rfl⟩
theorem bls_rep (n : Nat) : bls (List.replicate n false) = List.replicate n (.bool false) := by simp [bls]
theorem stepL_none {j i v : Nat} {l : List Rs} (h1 : resC (l.getD i default).c (l.getD j default).c v = none) (h2 : resC (l.getD j default).c (l.getD i default).c v = none) : stepL j i v l = l := by unfold stepL; rw [h1]; dsimp only; rw [h2]
theorem stepL_one {j i v : Nat} {l : List Rs} {r : List Int} (h1 : resC (l.getD i default).c (l.getD j default).c v = some r) : stepL j i v l = addL l ⟨r, i, j, v⟩ := by unfold stepL; rw [h1]
theorem stepL_two {j i v : Nat} {l : List Rs} {r : List Int} (h1 : resC (l.getD i default).c (l.getD j default).c v = none) (h2 : resC (l.getD j default).c (l.getD i default).c v = some r) : stepL j i v l = addL l ⟨r, j, i, v⟩ := by unfold stepL; rw [h1]; dsimp only; rw [h2]
end Go.Vc
namespace Go.Proofs.YtfadcafacpaldaaGreatDoor
open Go.Vc
/-- What the reference holds: the marks (of the clauses of mk), and the steps. -/
structure GrW (w0 w : World) (bk : Nat) (o : Value) (st : List RV) (mk : List Rs) : Prop where
  ext : Ext w0 w
  kn : ∃ kn, Blk 4 w bk (bls kn) ∧ KnOk kn mk
  row : OwK 4 w0.heap.size t_impl_Resolvent w o st.length (cellsQ st)
  own : ∀ x ∈ st, Ow w0.heap.size t_i64 w x.1 (ints x.2.c)
  lob : w0.heap.size ≤ bk
  inv : LInv (st.map Prod.snd)
theorem GrW.to {w0 w w' : World} {bk : Nat} {o : Value} {st : List RV} {mk : List Rs} (h : GrW w0 w bk o st mk) (x : Ext w w') : GrW w0 w' bk o st mk :=
  ⟨h.ext.trans x, let ⟨kn, a, b⟩ := h.kn; ⟨kn, a.ext x, b⟩, h.row.ext x, fun y hy => (h.own y hy).ext x, h.lob, h.inv⟩
/-- A clause is marked. -/
theorem GrW.mark {w0 w : World} {bk : Nat} {o : Value} {st : List RV} {mk : List Rs} {s : Rs} {K : World → Prop} (h : GrW w0 w bk o st mk) (hc : ClOk s.c) (hK : ∀ w', GrW w0 w' bk o st (mk ++ [s]) → Ch (fun c => c = bk) w w' → K w') : xSt w (.pointer (some ⟨bk, code3 s.c, none⟩)) (.bool true) K := by
  obtain ⟨kn, hB, hkn⟩ := h.kn
  have hlt := code3_lt hc
  refine iStB hB (by rw [bls_len, hkn.1]; exact hlt) rfl fun hB2 => ?_
  have hu := Upd.setCell w bk (code3 s.c) (.bool true)
  generalize w.setCell ⟨bk, code3 s.c, none⟩ (.bool true) = w1 at *
  rw [bls_set] at hB2
  exact hK w1 ⟨h.ext.upd hu h.lob, ⟨_, hB2, hkn.add hc⟩, h.row.ch (hu.ch (S := fun c => c = bk) rfl) fun c hc' e => OwK.ne_blk h.row hB (by decide) (by rw [hc', e]), fun y hy => (h.own y hy).upd hu ((h.own y hy).ne_blk hB (by decide)), h.lob, h.inv⟩ (hu.ch rfl)
/-- A step is laid behind. -/
theorem GrW.app {w0 w : World} {bk : Nat} {o : Value} {st : List RV} {x : RV} {t : TypeId} {z : Value} {bytes : Nat} {K : Value → World → Prop} (ht : Tryz.prog.underlying t = some (.slice t_impl_Resolvent)) (hi : (Tryz.prog.info? t_impl_Resolvent).map (fun i => (i.zero, i.size, i.bytes)) = some (some z, 4, bytes)) (hz : z.cells.size = 4) (hby : bytes ≤ 1000)
    (h : GrW w0 w bk o st (st.map Prod.snd ++ [x.2])) (hx : Ow w0.heap.size t_i64 w x.1 (ints x.2.c)) (hc : ClOk x.2.c) (hn : x.2.c ∉ (st.map Prod.snd).map Rs.c) {z1 z2 z3 z4 : Value}
    (hK : ∀ o' w', GrW w0 w' bk o' (st ++ [x]) ((st ++ [x]).map Prod.snd) → Ch (fun c => o.ownBlock = some c) w w' → K o' w') : xBs t_impl_Resolvent (Value.cells (.agg #[z1, z2, z3, z4])) 4 1 [(0, .agg #[x.1, .int .i64 x.2.f, .int .i64 x.2.s, .int .i64 x.2.v])] w fun y w2 => xOp Tryz.prog (Builtin.append_ #[t, t] t #[o, y]) w2 K := by
  obtain ⟨kn, hB, hkn⟩ := h.kn
  refine iBsQ fun bb w2 hbb h2 hBB => ?_
  have hsl : SlK 4 w2 (.slice (some ⟨bb, 0, none⟩) 1 1) 1 (csQ x) := (OwK.ofBlk (k := 4) (lo := 0) (n := 1) hBB (Nat.zero_le _) rfl (by omega)).sl
  have hrow2 := h.row.ext h2
  have hlen := h.inv.len
  rw [List.length_map] at hlen
  refine iAppK ht hi hz (by decide) hrow2 hsl (fun y hy => by
    simp only [csQ, List.mem_cons, List.not_mem_nil, or_false] at hy
    rcases hy with rfl | rfl | rfl | rfl
    · exact hx.cell
    · rfl
    · rfl
    · rfl) (by have := Nat.mul_le_mul (show st.length + 1 ≤ 1000 by omega) hby; omega) (by omega) (by have := h.ext.size; have := h2.size; omega) fun o' w3 ho' hg hat => ?_
  have hch := grown_ch (S := fun c => o.ownBlock = some c) hg fun c hc => hc
  refine hK o' w3 ⟨(h.ext.trans h2).grown hg fun c hc => (hrow2.blk c hc).1, ⟨_, (hB.ext h2).grown hg (hrow2.ne_blk (hB.ext h2) (by decide)), by rw [List.map_append]; exact hkn⟩, ?_, fun y hy => ?_, h.lob, ?_⟩ ((h2.ch (S := fun c => o.ownBlock = some c)).trans hch fun c hc => .inl hc)
  · rw [cellsQ_app, List.length_append]
    have e : cellsQ [x] = csQ x := by simp [cellsQ]
    rw [e]; exact ho'
  · rcases List.mem_append.1 hy with hy | hy
    · exact ((h.own y hy).ext h2).ch hch fun c hc' hS => ne_owK ((h.own y hy).ext h2) hrow2 (by decide) c hc' hS
    · simp only [List.mem_singleton] at hy
      subst hy
      exact (hx.ext h2).ch hch fun c hc' hS => ne_owK (hx.ext h2) hrow2 (by decide) c hc' hS
  · have := h.inv.add (s := x.2) hc
    unfold addL at this
    rw [if_neg hn] at this
    rw [List.map_append]; exact this
/-- The test ahead of each round: is there more to do? -/
theorem iMore {w0 w : World} {bk : Nat} {o : Value} {st : List RV} {mk : List Rs} {whole : Bool} {ki : IntKind} {G : Bool} {J : List Value → World → Prop} (h : GrW w0 w bk o st mk) (hJ : J [.bool (G && !doneL whole mk)] w) :
    cnd (.bool G) (cnd (.bool whole) (J [.bool true] w) (xIa 1 (.slice (some ⟨bk, 0, none⟩) 729 729) (.int ki ((0 : Nat) : Int)) fun v => xLd w v fun v => xNot v fun v => J [v] w)) (J [.bool false] w) := by
  cases G with
  | false => exact iCndF rfl hJ
  | true =>
    refine iCndT rfl ?_
    rw [Bool.true_and] at hJ
    obtain ⟨kn, hB, hkn⟩ := h.kn
    have hz := hkn.zero whole
    cases whole with
    | true => exact iCndT rfl hJ
    | false =>
      refine iCndF rfl ?_
      refine iIaBQ (by decide) ?_
      refine iLdB hB (bls_at (by rw [hkn.1]; decide)) ?_
      refine iNot ?_
      rw [Bool.not_false, Bool.true_and] at hz
      rw [hz]; exact hJ
theorem ok_spec_l04Grown {v : Value} {w : World} {P : List VL} (hs : RdRows w v P) (hlen : P.length ≤ 1000000) (hok : ∀ p ∈ P, ClOk p.2) (whole : Bool) :
    Cal Tryz.prog f_spec_l04Grown #[v, .bool whole] w fun r w' => ∃ bk st, GrW w w' bk r st (st.map Prod.snd) ∧ st.map Prod.snd = grownS whole (P.map Prod.snd) := by
  apply c_spec_l04Grown; unfold S_spec_l04Grown
  refine iMk (n := 729) (by omega) (by omega) rfl fun bk w1 hbk h1 hB1 => ?_
  have hB1 : Blk 4 w1 bk (bls (List.replicate 729 false)) := by rw [bls_rep]; exact hB1
  have hk0 := KnOk.init (n := 729) rfl
  generalize List.replicate 729 false = kn0 at *
  refine iBs0Q fun o0 w2 h2 ho2 => ?_
  have hX2 := h1.trans h2
  have g2 := hs.ext hX2
  refine iCall ((ok_spec_l04Sorted g2.1 g2.2 (fun p hp => by have := (hok p hp).len; omega) hlen).mono ?_)
  rintro r3 w3 ⟨h3, vs, hr3, hl3⟩
  have hX3 := hX2.trans h3
  have hokL : ∀ c ∈ P.map Prod.snd, ClOk c := fun c hc => by obtain ⟨p, hp, rfl⟩ := List.mem_map.1 hc; exact hok p hp
  have hokS : ∀ c ∈ setA lessB (P.map Prod.snd), ClOk c := fun c hc => hokL c ((mem_setA ordLs).1 hc)
  have hvl : vs.length = (setA lessB (P.map Prod.snd)).length := by have := hl3.1; simpa using this
  have hG0 : GrW w w3 bk o0 [] [] := ⟨hX3, ⟨_, hB1.ext (h2.trans h3), hk0⟩, (ho2.ext h3).mono h1.size, fun x hx => (by cases hx), by omega, ⟨fun x hx => (by cases hx), List.nodup_nil⟩⟩
  have hglen : (setA lessB (P.map Prod.snd)).length ≤ 729 := by
    have := (gl0_inv hokL).len
    simpa [gl0] using this
  have hnd := setA_nodup (P.map Prod.snd)
  have hgl : grownS whole (P.map Prod.snd) = growJ whole 800 0 ((setA lessB (P.map Prod.snd)).map fun c => ⟨c, -1, -1, -1⟩) := rfl
  have hrl : ∀ i (g : i < vs.length) (g' : i < (setA lessB (P.map Prod.snd)).length), Ow w.heap.size t_i64 w3 vs[i] (ints (setA lessB (P.map Prod.snd))[i]) := fun i g g' => by
    have := hl3.at (i := i) g (by simpa using g')
    rw [List.getElem_map] at this
    exact this.mono hX2.size
  have hr3 := hr3.mono hX2.size
  generalize setA lessB (P.map Prod.snd) = S at *
  refine iLp (fun s : Nat × Value => [s.2, .int .i64 (s.1 : Int)]) (fun s w' => s.1 ≤ S.length ∧ Ow w.heap.size t_Si64 w' r3 vs ∧ (∀ i (g : i < vs.length) (g' : i < S.length), Ow w.heap.size t_i64 w' vs[i] (ints S[i])) ∧ ∃ st, GrW w w' bk s.2 st (st.map Prod.snd) ∧ st.map Prod.snd = (S.take s.1).map fun c => ⟨c, -1, -1, -1⟩) (fun s => S.length - s.1) (0, o0) rfl ⟨Nat.zero_le _, hr3, hrl, [], hG0, rfl⟩ ?_
  rintro ⟨i, o⟩ w4 Kn ⟨hi, hr4, hrl4, st, hG, hst⟩ hKn
  have hi : i ≤ S.length := hi
  have hG : GrW w w4 bk o st (st.map Prod.snd) := hG
  have hst : st.map Prod.snd = (S.take i).map fun c => ⟨c, -1, -1, -1⟩ := hst
  intro _
  simp only [gx]
  refine iLenS hr4.sl ?_
  refine iLt (iCndP (fun h5 => ?_) (fun h5 => ?_))
  · have hiv : i < vs.length := by omega
    have hiS : i < S.length := by omega
    have hx4 := hrl4 i hiv hiS
    have hcok := hokS _ (List.getElem_mem hiS)
    refine iIaV hr4.sl hiv fun p hp => ?_
    refine iLd hp ?_
    refine iRet (ok_spec_l04Code3 hx4.sl hcok) fun w5 h45 => ?_
    have G5 := hG.to h45
    refine iIaBQ (code3_lt hcok) ?_
    refine GrW.mark (s := ⟨S[i], -1, -1, -1⟩) G5 hcok fun w6 G6 hc6 => ?_
    have hne6 : ∀ {e : TypeId} {v : Value} {xs : List Value}, Ow w.heap.size e w5 v xs → e ≠ 4 → Ow w.heap.size e w6 v xs := fun ho hne => ho.ch hc6 fun c hc e => by
      obtain ⟨kn, hB, _⟩ := G5.kn
      exact ho.ne_blk hB hne (by rw [hc, e])
    have hr6 := hne6 (hr4.ext h45) (by decide)
    have hrl6 : ∀ k (g : k < vs.length) (g' : k < S.length), Ow w.heap.size t_i64 w6 vs[k] (ints S[k]) := fun k g g' => hne6 ((hrl4 k g g').ext h45) (by decide)
    refine iIaV hr6.sl hiv fun p hp => ?_
    refine iLd hp ?_
    refine iBuild (fillQ4 (hrl6 i hiv hiS).cell rfl rfl rfl) ?_
    refine GrW.app (x := (vs[i], (⟨S[i], -1, -1, -1⟩ : Rs))) u_Simpl_Resolvent i_Simpl_Resolvent rfl (by decide) G6 (hrl6 i hiv hiS) hcok (fun hm => ?_) fun o' w7 G7 hc7 => ?_
    · rw [hst, List.map_map] at hm
      obtain ⟨c0, hc0, e0⟩ := List.mem_map.1 hm
      have e0 : c0 = S[i] := e0
      have hm : S[i] ∈ S.take i := by rw [← e0]; exact hc0
      obtain ⟨k, hk, e⟩ := List.getElem_of_mem hm
      rw [List.length_take] at hk
      rw [List.getElem_take] at e
      exact (List.pairwise_iff_getElem.1 (List.nodup_iff_pairwise_ne.1 hnd)) k i (by omega) hiS (by omega) e
    · have hne7 : ∀ {e : TypeId} {v : Value} {xs : List Value}, Ow w.heap.size e w6 v xs → e ≠ t_impl_Resolvent → Ow w.heap.size e w7 v xs := fun ho hne => ho.ch hc7 fun c hc e => ne_owK ho G6.row hne c hc e
      refine iAdd (by omega) ?_
      refine hKn (i + 1, o') _ ⟨by show i + 1 ≤ S.length; omega, hne7 hr6 (by decide), fun k g g' => hne7 (hrl6 k g g') (by decide), _, G7, ?_⟩ (by show S.length - (i + 1) < S.length - i; omega)
      show (st ++ [_]).map Prod.snd = (S.take (i + 1)).map _
      rw [List.map_append, hst, List.take_succ_eq_append_getElem hiS, List.map_append]
      rfl
  · obtain rfl : i = S.length := by omega
    rw [List.take_length] at hst
    rw [← hst] at hgl
    clear hKn hrl4 hr4
    refine iLp (fun s : Nat × Value => [s.2, .int .i64 (s.1 : Int)]) (fun s w' => ∃ st n, GrW w w' bk s.2 st (st.map Prod.snd) ∧ grownS whole (P.map Prod.snd) = growJ whole n s.1 (st.map Prod.snd) ∧ 729 ≤ n + s.1) (fun s => 729 - s.1) (0, o) rfl ⟨st, 800, hG, hgl, by omega⟩ ?_
    rintro ⟨j, o2⟩ w5 Kn ⟨st2, n2, G2, hg2, hn2⟩ hKn
    have G2 : GrW w w5 bk o2 st2 (st2.map Prod.snd) := G2
    have hg2 : grownS whole (P.map Prod.snd) = growJ whole n2 j (st2.map Prod.snd) := hg2
    have hn2 : 729 ≤ n2 + j := hn2
    have hl2 : st2.length ≤ 729 := by have := G2.inv.len; simpa using this
    intro _
    simp only [gx]
    refine iJnPQ (fun xs w' => xs = [.bool (decide ((j : Int) < ((st2.length : Nat) : Int)) && !doneL whole (st2.map Prod.snd))] ∧ w' = w5) (fun J hJ => ?_) (fun xs w6 hC => ?_)
    · refine iLenK G2.row.sl (iLt ?_)
      exact iMore (ki := .i64) G2 (hJ _ _ ⟨rfl, rfl⟩)
    obtain ⟨rfl, rfl⟩ := hC
    intro _
    simp only [gx]
    refine iCnd (fun hT => ?_) (fun hT => ?_)
    rotate_left
    · refine ⟨bk, st2, G2, ?_⟩
      rw [hg2]
      rw [Bool.and_eq_false_iff, decide_eq_false_iff_not, Bool.not_eq_false'] at hT
      rcases hT with h | h
      · exact (growJ_end (by rw [List.length_map]; omega)).symm
      · exact (growJ_done n2 j h).symm
    rw [Bool.and_eq_true, decide_eq_true_eq, Bool.not_eq_true'] at hT
    have hj2 : j < st2.length := by omega
    obtain ⟨m, rfl⟩ : ∃ m, n2 = m + 1 := ⟨n2 - 1, by omega⟩
    rw [growJ_step hT.2 (by rw [List.length_map]; exact hj2)] at hg2
    refine iLp (fun s : Nat × Value => [s.2, .int .i64 (s.1 : Int)]) (fun s w' => s.1 ≤ j ∧ ∃ st, GrW w w' bk s.2 st (st.map Prod.snd) ∧ grownS whole (P.map Prod.snd) = growJ whole m (j + 1) (growI whole j s.1 (st.map Prod.snd)) ∧ j < st.length) (fun s => j - s.1) (0, o2) rfl ⟨Nat.zero_le _, st2, G2, hg2, hj2⟩ ?_
    rintro ⟨i, o3⟩ w7 Kn3 ⟨hij, st3, G3, hg3, hj3⟩ hKn3
    have hij : i ≤ j := hij
    have G3 : GrW w w7 bk o3 st3 (st3.map Prod.snd) := G3
    have hg3 : grownS whole (P.map Prod.snd) = growJ whole m (j + 1) (growI whole j i (st3.map Prod.snd)) := hg3
    intro _
    simp only [gx]
    refine iJnPQ (fun xs w' => xs = [.bool (decide ((i : Int) < (j : Int)) && !doneL whole (st3.map Prod.snd))] ∧ w' = w7) (fun J hJ => ?_) (fun xs w6 hC => ?_)
    · refine iLt ?_
      exact iMore (ki := .i64) G3 (hJ _ _ ⟨rfl, rfl⟩)
    obtain ⟨rfl, rfl⟩ := hC
    intro _
    simp only [gx]
    refine iCnd (fun hT3 => ?_) (fun hT3 => ?_)
    rotate_left
    · refine iAdd (by omega) ?_
      refine hKn (j + 1, o3) _ ⟨st3, m, G3, ?_, by show 729 ≤ m + (j + 1); omega⟩ (by show 729 - (j + 1) < 729 - j; omega)
      show grownS whole (P.map Prod.snd) = growJ whole m (j + 1) (st3.map Prod.snd)
      rw [hg3]
      rw [Bool.and_eq_false_iff, decide_eq_false_iff_not, Bool.not_eq_false'] at hT3
      rcases hT3 with h | h
      · obtain rfl : i = j := by omega
        rw [growI_end]
      · rw [growI_done j i h]
    rw [Bool.and_eq_true, decide_eq_true_eq, Bool.not_eq_true'] at hT3
    have hij3 : i < j := by omega
    rw [growI_step hij3] at hg3
    refine iLp (fun s : Nat × Value => [s.2, .int .i64 (s.1 : Int)]) (fun s w' => s.1 ≤ 6 ∧ ∃ st, GrW w w' bk s.2 st (st.map Prod.snd) ∧ grownS whole (P.map Prod.snd) = growJ whole m (j + 1) (growI whole j (i + 1) (growV whole j i s.1 (st.map Prod.snd))) ∧ j < st.length) (fun s => 6 - s.1) (0, o3) rfl ⟨Nat.zero_le _, st3, G3, hg3, hj3⟩ ?_
    rintro ⟨v, o4⟩ w8 Kn4 ⟨hv, st4, G4, hg4, hj4⟩ hKn4
    have hv : v ≤ 6 := hv
    have G4 : GrW w w8 bk o4 st4 (st4.map Prod.snd) := G4
    have hg4 : grownS whole (P.map Prod.snd) = growJ whole m (j + 1) (growI whole j (i + 1) (growV whole j i v (st4.map Prod.snd))) := hg4
    have hl4 : st4.length ≤ 729 := by have := G4.inv.len; simpa using this
    intro _
    simp only [gx]
    refine iJnPQ (fun xs w' => xs = [.bool (decide ((v : Int) < 6) && !doneL whole (st4.map Prod.snd))] ∧ w' = w8) (fun J hJ => ?_) (fun xs w6 hC => ?_)
    · refine iLt ?_
      exact iMore (ki := .i64) G4 (hJ _ _ ⟨rfl, rfl⟩)
    obtain ⟨rfl, rfl⟩ := hC
    intro _
    simp only [gx]
    refine iCnd (fun hT4 => ?_) (fun hT4 => ?_)
    rotate_left
    · refine iAdd (by omega) ?_
      refine hKn3 (i + 1, o4) _ ⟨by show i + 1 ≤ j; omega, st4, G4, ?_, hj4⟩ (by show j - (i + 1) < j - i; omega)
      show grownS whole (P.map Prod.snd) = growJ whole m (j + 1) (growI whole j (i + 1) (st4.map Prod.snd))
      rw [hg4]
      rw [Bool.and_eq_false_iff, decide_eq_false_iff_not, Bool.not_eq_false'] at hT4
      rcases hT4 with h | h
      · obtain rfl : v = 6 := by omega
        rfl
      · rw [growV_done j i v h]
    rw [Bool.and_eq_true, decide_eq_true_eq, Bool.not_eq_true'] at hT4
    have hv6 : v < 6 := by omega
    have hi4 : i < st4.length := by omega
    rw [growV_step hv6, show stepW whole j i v (st4.map Prod.snd) = stepL j i v (st4.map Prod.snd) from if_neg (by rw [hT4.2]; simp)] at hg4
    have hmi : gt st4 i ∈ st4 := by rw [gt_eq hi4]; exact List.getElem_mem hi4
    have hmj : gt st4 j ∈ st4 := by rw [gt_eq hj4]; exact List.getElem_mem hj4
    have hsi := snd_getD st4 hi4
    have hsj := snd_getD st4 hj4
    refine iFldQ (f := 0) (x := (gt st4 i).1) G4.row.sl hi4 (by decide) (by rw [cellsQ_at hi4 0 (by decide)]; rfl) ?_
    refine iFldQ (f := 0) (x := (gt st4 j).1) G4.row.sl hj4 (by decide) (by rw [cellsQ_at hj4 0 (by decide)]; rfl) ?_
    intro w9 h9
    have G9 := G4.to h9
    refine iCall ((ok_spec_l04Resolve (G9.own _ hmi).sl (G9.own _ hmj).sl v hv6).mono ?_)
    rintro _ w10 ⟨h10, ua, rfl, hua⟩
    refine iE20 (iE21 ?_)
    intro w11 h11
    have G11 := (G9.to h10).to h11
    refine iNot ?_
    refine iJnPQ (fun xs w' => Ext w11 w' ∧ ∃ (a b : Nat) (rv : Value) (ok : Bool), xs = [.int .i64 (a : Int), .int .i64 (b : Int), rv, .bool ok] ∧ ((ok = false ∧ stepL j i v (st4.map Prod.snd) = st4.map Prod.snd) ∨ (ok = true ∧ ∃ r, Ow w.heap.size t_i64 w' rv (ints r) ∧ ClOk r ∧ stepL j i v (st4.map Prod.snd) = addL (st4.map Prod.snd) ⟨r, a, b, v⟩))) (fun J hJ => ?_) (fun xs w12 hC => ?_)
    · cases hr1 : resC (gt st4 i).2.c (gt st4 j).2.c v with
      | some r =>
        refine iCndF rfl ?_
        rw [hr1] at hua
        exact hJ _ _ ⟨Ext.refl _, i, j, ua, true, rfl, .inr ⟨rfl, r, ((hua r rfl).ext h11).mono (by have := G9.ext.size; omega), resC_ok hr1, stepL_one (by rw [hsi, hsj]; exact hr1)⟩⟩
      | none =>
        refine iCndT rfl ?_
        refine iFldQ (f := 0) (x := (gt st4 j).1) G11.row.sl hj4 (by decide) (by rw [cellsQ_at hj4 0 (by decide)]; rfl) ?_
        refine iFldQ (f := 0) (x := (gt st4 i).1) G11.row.sl hi4 (by decide) (by rw [cellsQ_at hi4 0 (by decide)]; rfl) ?_
        intro w12 h12
        have G12 := G11.to h12
        refine iCall ((ok_spec_l04Resolve (G12.own _ hmj).sl (G12.own _ hmi).sl v hv6).mono ?_)
        rintro _ w13 ⟨h13, ub, rfl, hub⟩
        refine iE20 (iE21 ?_)
        intro w14 h14
        have hX := (h12.trans h13).trans h14
        cases hr2 : resC (gt st4 j).2.c (gt st4 i).2.c v with
        | some r =>
          rw [hr2] at hub
          exact hJ _ _ ⟨hX, j, i, ub, true, rfl, .inr ⟨rfl, r, ((hub r rfl).ext h14).mono (by have := G12.ext.size; omega), resC_ok hr2, stepL_two (by rw [hsi, hsj]; exact hr1) (by rw [hsi, hsj]; exact hr2)⟩⟩
        | none => exact hJ _ _ ⟨hX, j, i, ub, false, rfl, .inl ⟨rfl, stepL_none (by rw [hsi, hsj]; exact hr1) (by rw [hsi, hsj]; exact hr2)⟩⟩
    obtain ⟨hX12, a, b, rv, ok, rfl, hcase⟩ := hC
    have G12 := G11.to hX12
    intro _
    simp only [gx]
    rcases hcase with ⟨rfl, hstep⟩ | ⟨rfl, r, hro, hrok, hstep⟩
    · rw [hstep] at hg4
      refine iJnPQ (fun xs w' => xs = [.bool false] ∧ w' = w12) (fun J hJ => iCndF rfl (hJ _ _ ⟨rfl, rfl⟩)) (fun xs w13 hC => ?_)
      obtain ⟨rfl, rfl⟩ := hC
      intro _
      simp only [gx]
      refine iCndF rfl ?_
      refine iAdd (by omega) ?_
      exact hKn4 (v + 1, o4) _ ⟨by show v + 1 ≤ 6; omega, st4, G12, hg4, hj4⟩ (by show 6 - (v + 1) < 6 - v; omega)
    · refine iJnPQ (fun xs w' => Ext w12 w' ∧ xs = [.bool (!decide (r ∈ (st4.map Prod.snd).map Rs.c))]) (fun J hJ => ?_) (fun xs w13 hC => ?_)
      · refine iCndT rfl ?_
        refine iRet (ok_spec_l04Code3 hro.sl hrok) fun w13 h13 => ?_
        obtain ⟨kn, hB, hkn⟩ := (G12.to h13).kn
        refine iIaBQ (code3_lt hrok) ?_
        refine iLdB hB (bls_at (by rw [hkn.1]; exact code3_lt hrok)) ?_
        refine iNot ?_
        rw [hkn.2 r hrok]
        exact hJ _ _ ⟨h13, rfl⟩
      obtain ⟨h13, rfl⟩ := hC
      have G13 := G12.to h13
      have hro13 := hro.ext h13
      intro _
      simp only [gx]
      by_cases hm : r ∈ (st4.map Prod.snd).map Rs.c
      · rw [decide_eq_true hm]
        refine iCndF rfl ?_
        refine iAdd (by omega) ?_
        rw [hstep, show addL (st4.map Prod.snd) ⟨r, a, b, v⟩ = st4.map Prod.snd from if_pos hm] at hg4
        exact hKn4 (v + 1, o4) _ ⟨by show v + 1 ≤ 6; omega, st4, G13, hg4, hj4⟩ (by show 6 - (v + 1) < 6 - v; omega)
      · rw [decide_eq_false hm]
        refine iCndT rfl ?_
        refine iRet (ok_spec_l04Code3 hro13.sl hrok) fun w14 h14 => ?_
        have G14 := G13.to h14
        have hro14 := hro13.ext h14
        refine iIaBQ (code3_lt hrok) ?_
        refine GrW.mark (s := ⟨r, a, b, v⟩) G14 hrok fun w15 G15 hc15 => ?_
        have hro15 : Ow w.heap.size t_i64 w15 rv (ints r) := hro14.ch hc15 fun c hc e => by
          obtain ⟨kn, hB, _⟩ := G14.kn
          exact hro14.ne_blk hB (by decide) (by rw [hc, e])
        refine iBuild (fillQ4 hro15.cell rfl rfl rfl) ?_
        refine GrW.app (x := (rv, (⟨r, a, b, v⟩ : Rs))) u_Simpl_Resolvent i_Simpl_Resolvent rfl (by decide) G15 hro15 hrok hm fun o' w16 G16 hc16 => ?_
        refine iAdd (by omega) ?_
        rw [hstep, show addL (st4.map Prod.snd) ⟨r, a, b, v⟩ = (st4 ++ [(rv, (⟨r, a, b, v⟩ : Rs))]).map Prod.snd by unfold addL; rw [if_neg hm, List.map_append]; rfl] at hg4
        exact hKn4 (v + 1, o') _ ⟨by show v + 1 ≤ 6; omega, _, G16, hg4, by rw [List.length_append]; omega⟩ (by show 6 - (v + 1) < 6 - v; omega)
end Go.Proofs.YtfadcafacpaldaaGreatDoor

/- Contracts: RefuteClauses of the reference. Conditions: none. -/
namespace Go.Vc
theorem OwP.snocQ {lo : Nat} {e : TypeId} {w : World} {P : List VL} {x : VL} (h : OwP lo e w P) (hx : Ow lo e w x.1 (ints x.2)) (hne : ∀ p ∈ P, ∀ c, p.1.ownBlock = some c → x.1.ownBlock ≠ some c) : OwP lo e w (P ++ [x]) := by
  refine ⟨fun p hp => ?_, List.pairwise_append.2 ⟨h.2, List.pairwise_singleton _ _, fun p hp q hq c hc hc' => ?_⟩⟩
  · rcases List.mem_append.1 hp with hp | hp
    · exact h.1 p hp
    · simp at hp; subst hp; exact hx
  · simp at hq; subst hq
    exact hne p hp c hc hc'
end Go.Vc
namespace Go.Proofs.YtfadcafacpaldaaGreatDoor
open Go.Vc
theorem ok_spec_RefuteClauses {v : Value} {w : World} {P : List VL} (hs : RdRows w v P) :
    Cal Tryz.prog f_spec_RefuteClauses #[v] w fun r w' => Ext w w' ∧ ∃ u, r = .tuple #[u, .int .i64 (rfR (P.map Prod.snd)).2] ∧ OwQ w.heap.size w' u (rfR (P.map Prod.snd)).1 := by
  apply c_spec_RefuteClauses; unfold S_spec_RefuteClauses
  have hall : (∀ c ∈ P.map Prod.snd, ClOk c) ↔ ∀ p ∈ P, ClOk p.2 := ⟨fun h p hp => h _ (List.mem_map_of_mem hp), fun h c hc => by obtain ⟨p, hp, rfl⟩ := List.mem_map.1 hc; exact h p hp⟩
  refine iRet (ok_spec_l04All hs) fun w1 h1 => ?_
  refine iNot ?_
  by_cases hok : ∀ p ∈ P, ClOk p.2
  rotate_left
  · rw [decide_eq_false hok]
    refine iCndT rfl ?_
    have e : rfR (P.map Prod.snd) = ([], 1) := if_pos fun h => hok (hall.1 h)
    rw [e]
    exact ⟨h1, _, rfl, OwQ.nil _ _⟩
  rw [decide_eq_true hok]
  refine iCndF rfl ?_
  have g1 := hs.ext h1
  refine iLenS g1.1 ?_
  rw [List.length_map]
  refine iLt (iCndP (fun h => ?_) (fun h => ?_))
  · have e : rfR (P.map Prod.snd) = ([], 3) := by
      unfold rfR
      rw [if_neg (not_not_intro (hall.2 hok)), if_pos (by rw [List.length_map]; omega)]
    rw [e]
    exact ⟨h1, _, rfl, OwQ.nil _ _⟩
  have hrf : rfR (P.map Prod.snd) = if (endP (P.map Prod.snd)).2 then (usedR (endP (P.map Prod.snd)).1, 0) else ([], 4) := by
    unfold rfR
    rw [if_neg (not_not_intro (hall.2 hok)), if_neg (by rw [List.length_map]; omega)]
  rw [← spec_end (hall.2 hok)] at hrf
  have hgood := grownS_good (hall.2 hok)
  refine iCall ((ok_spec_l04Grown g1 (by omega) hok false).mono ?_)
  rintro o w2 ⟨bk, st, hG, hst⟩
  have hX2 := h1.trans hG.ext
  have hll : (st.map Prod.snd).length ≤ 729 := hG.inv.len
  rw [List.length_map] at hll
  rw [← hst] at hrf hgood
  rw [List.length_map] at hrf
  have hgood : ∀ k, k < st.length → StepOk (P.map Prod.snd) (st.map Prod.snd) k := fun k hk => hgood k (by rw [List.length_map]; exact hk)
  have hrow := hG.row
  have hown := hG.own
  clear hG
  generalize hl : st.map Prod.snd = l at *
  have hst' : ∀ k, k < st.length → l.getD k default = (gt st k).2 := fun k hk => by rw [← hl]; exact snd_getD st hk
  have hmem : ∀ k, k < st.length → gt st k ∈ st := fun k hk => by rw [gt_eq hk]; exact List.getElem_mem hk
  refine iLp (fun i : Nat => [.int .i64 (lastE l i), .int .i64 (i : Int)]) (fun i w' => i ≤ st.length ∧ w' = w2) (fun i => st.length - i) 0 rfl ⟨Nat.zero_le _, rfl⟩ ?_
  rintro i w3 Kn ⟨hi, e⟩ hKn
  have e := e.symm
  subst e
  intro _
  simp only [gx]
  refine iLenK hrow.sl ?_
  refine iLt (iCndP (fun h3 => ?_) (fun h3 => ?_))
  · have hi1 : i < st.length := by omega
    have hun : lastE l (i + 1) = if (gt st i).2.c = [] then (i : Int) else lastE l i := by rw [lastE, hst' i hi1]
    refine iFldQ (f := 0) (x := (gt st i).1) hrow.sl hi1 (by decide) (by rw [cellsQ_at hi1 0 (by decide)]; rfl) ?_
    refine iLenI (hown _ (hmem i hi1)).sl ?_
    refine iEq (iCndP (fun h4 => ?_) (fun h4 => ?_))
    · refine iAdd (by omega) ?_
      rw [if_pos (List.length_eq_zero_iff.1 (by omega))] at hun
      have := hKn (i + 1) _ ⟨by omega, rfl⟩ (by omega)
      rw [hun] at this
      exact this
    · refine iAdd (by omega) ?_
      rw [if_neg (fun e => h4 (by rw [e]; rfl))] at hun
      have := hKn (i + 1) _ ⟨by omega, rfl⟩ (by omega)
      rw [hun] at this
      exact this
  obtain rfl : i = st.length := by omega
  clear hKn
  have hlast : ∀ k, k ≤ st.length → lastE l k = -1 ∨ ∃ m : Nat, lastE l k = (m : Int) ∧ m < k := by
    intro k
    induction k with
    | zero => intro _; exact .inl rfl
    | succ k ih =>
      intro hk
      rw [lastE]
      split
      · exact .inr ⟨k, rfl, by omega⟩
      · rcases ih (by omega) with h | ⟨m, h, hm⟩
        · exact .inl h
        · exact .inr ⟨m, h, by omega⟩
  refine iLt (iCndP (fun h4 => ?_) (fun h4 => ?_))
  · rw [if_pos h4] at hrf
    rw [hrf]
    exact ⟨hX2, _, rfl, OwQ.nil _ _⟩
  rw [if_neg h4] at hrf
  obtain ⟨m, hm, hml⟩ : ∃ m : Nat, lastE l st.length = (m : Int) ∧ m < st.length := (hlast st.length (Nat.le_refl _)).resolve_left (by omega)
  rw [hm, Int.toNat_natCast] at hrf
  rw [hm]
  refine iLenK hrow.sl ?_
  refine iMk (by omega) (by omega) rfl fun b1 w3 hb1 h3 hB3 => ?_
  have hB3 : Blk 4 w3 b1 (bls (List.replicate st.length false)) := by rw [bls_rep]; exact hB3
  refine iIaBQ hml ?_
  refine iStB hB3 (by rw [bls_len, List.length_replicate]; exact hml) rfl fun hB4 => ?_
  have hu4 := Upd.setCell w3 b1 m (.bool true)
  generalize w3.setCell ⟨b1, m, none⟩ (.bool true) = w4 at *
  rw [bls_set] at hB4
  have hX24 : Ext w2 w4 := h3.upd hu4 (by omega)
  have hlen0 : l.length = st.length := by rw [← hl, List.length_map]
  refine iLp (fun s : Nat × List Bool => [.int .i64 ((s.1 : Int) - 1)]) (fun s w' => s.1 ≤ m + 1 ∧ s.2.length = st.length ∧ Ext w2 w' ∧ Blk 4 w' b1 (bls s.2) ∧ needK l s.1 s.2 = needK l (m + 1) ((List.replicate l.length false).set m true)) (fun s => s.1) (m + 1, (List.replicate st.length false).set m true) (by simp) ⟨Nat.le_refl _, by simp, hX24, hB4, by rw [hlen0]⟩ ?_
  rintro ⟨j, n⟩ w5 Kn ⟨hj, hn, hX5, hB5, hnd⟩ hKn
  have hj : j ≤ m + 1 := hj
  have hn : n.length = st.length := hn
  have hX5 : Ext w2 w5 := hX5
  have hB5 : Blk 4 w5 b1 (bls n) := hB5
  have hnd : needK l j n = needK l (m + 1) ((List.replicate l.length false).set m true) := hnd
  have hrow5 := hrow.ext hX5
  intro _
  simp only [gx]
  refine iLe (iCndP (fun h5 => ?_) (fun h5 => ?_))
  · obtain ⟨k, rfl⟩ : ∃ k, j = k + 1 := ⟨j - 1, by omega⟩
    rw [show (((k + 1 : Nat) : Int)) - 1 = ((k : Nat) : Int) by omega]
    have hk : k < st.length := by omega
    refine iJnPQ (fun xs w' => xs = [.bool (n.getD k false && decide (0 ≤ (gt st k).2.f))] ∧ w' = w5) (fun J hJ => ?_) (fun xs w7 hC => ?_)
    · refine iIaBQ hk ?_
      refine iLdB hB5 (bls_at (by omega)) ?_
      cases hnk : n.getD k false with
      | false =>
        refine iCndF rfl ?_
        rw [hnk] at hJ
        exact hJ _ _ ⟨rfl, rfl⟩
      | true =>
        refine iCndT rfl ?_
        refine iFldQ (f := 1) (x := .int .i64 (gt st k).2.f) hrow5.sl hk (by decide) (by rw [cellsQ_at hk 1 (by decide)]; rfl) ?_
        refine iLe ?_
        rw [hnk] at hJ
        exact hJ _ _ ⟨rfl, rfl⟩
    obtain ⟨rfl, rfl⟩ := hC
    intro _
    simp only [gx]
    have hun : needK l (k + 1) n = needK l k (if n.getD k false && decide (0 ≤ (gt st k).2.f) then (n.set (gt st k).2.f.toNat true).set (gt st k).2.s.toNat true else n) := by
      rw [needK, hst' k hk]
    rw [hun] at hnd
    cases hT : n.getD k false && decide (0 ≤ (gt st k).2.f) with
    | false =>
      refine iCndF rfl ?_
      refine iSub (by omega) ?_
      rw [hT] at hnd
      exact hKn (k, n) _ ⟨by show k ≤ m + 1; omega, hn, hX5, hB5, hnd⟩ (by show k < k + 1; omega)
    | true =>
      refine iCndT rfl ?_
      rw [hT] at hnd
      rw [Bool.and_eq_true, decide_eq_true_eq] at hT
      obtain ⟨fa, sa, e1, e2, hfa, hsa⟩ := (hgood k hk).lt (by rw [hst' k hk]; exact hT.2)
      rw [hst' k hk] at e1 e2
      rw [e1, e2, Int.toNat_natCast, Int.toNat_natCast] at hnd
      refine iFldQ (f := 1) (x := .int .i64 (fa : Int)) hrow5.sl hk (by decide) (by rw [cellsQ_at hk 1 (by decide)]; show some (Value.int .i64 (gt st k).2.f) = _; rw [e1]) ?_
      refine iIaBQ (by omega) ?_
      refine iStB hB5 (by rw [bls_len]; omega) rfl fun hB6 => ?_
      have hu6 := Upd.setCell w7 b1 fa (.bool true)
      generalize w7.setCell ⟨b1, fa, none⟩ (.bool true) = w6 at *
      rw [bls_set] at hB6
      have hX6 := hX5.upd hu6 (by omega)
      refine iFldQ (f := 2) (x := .int .i64 (sa : Int)) (hrow.ext hX6).sl hk (by decide) (by rw [cellsQ_at hk 2 (by decide)]; show some (Value.int .i64 (gt st k).2.s) = _; rw [e2]) ?_
      refine iIaBQ (by omega) ?_
      refine iStB hB6 (by rw [bls_len, List.length_set]; omega) rfl fun hB7 => ?_
      have hu7 := Upd.setCell w6 b1 sa (.bool true)
      generalize w6.setCell ⟨b1, sa, none⟩ (.bool true) = w8 at *
      rw [bls_set] at hB7
      refine iSub (by omega) ?_
      exact hKn (k, (n.set fa true).set sa true) _ ⟨by show k ≤ m + 1; omega, by show ((n.set fa true).set sa true).length = _; rw [List.length_set, List.length_set]; exact hn, hX6.upd hu7 (by omega), hB7, hnd⟩ (by show k < k + 1; omega)
  obtain rfl : j = 0 := by omega
  have hnd : n = needK l (m + 1) ((List.replicate l.length false).set m true) := hnd
  clear hKn
  have hus : usedS l m = (numK l n (m + 1)).2 := by rw [hnd]; rfl
  rw [hus] at hrf
  clear hnd hus
  refine iLenK hrow5.sl ?_
  refine iMk (by omega) (by omega) rfl fun b2 w6 hb2 h6 hB6 => ?_
  have hB6 : Blk t_i64 w6 b2 (ints (List.replicate st.length 0)) := by rw [show ints (List.replicate st.length 0) = List.replicate st.length (.int .i64 0) by simp [ints]]; exact hB6
  have hX6 := hX5.trans h6
  have hne12 : b1 ≠ b2 := by have := hB5.lt; omega
  refine iBs0Q fun o0 w7 h7 ho7 => ?_
  have hX7 := hX6.trans h7
  refine iLp (fun s : Nat × Value => [s.2, .int .i64 (s.1 : Int)]) (fun s w' => s.1 ≤ m + 1 ∧ Ext w2 w' ∧ Blk 4 w' b1 (bls n) ∧ Blk t_i64 w' b2 (ints (numK l n s.1).1) ∧ ∃ L : List RV, OwK 4 w6.heap.size t_impl_Resolvent w' s.2 L.length (cellsQ L) ∧ L.map Prod.snd = (numK l n s.1).2 ∧ OwP w7.heap.size t_i64 w' (L.map kyQ) ∧ L.length ≤ s.1 ∧ w7.heap.size ≤ w'.heap.size) (fun s => m + 1 - s.1) (0, o0) rfl
    ⟨Nat.zero_le _, hX7, (hB5.ext h6).ext h7, by show Blk t_i64 w7 b2 (ints (List.replicate l.length 0)); rw [hlen0]; exact hB6.ext h7, [], ho7, rfl, ⟨fun p hp => (by cases hp), List.Pairwise.nil⟩, Nat.le_refl _, Nat.le_refl _⟩ ?_
  rintro ⟨k, o8⟩ w8 Kn ⟨hk, hX8, hB8, hC8, L, hL, hLs, hLo, hLl, hsz8⟩ hKn
  have hk : k ≤ m + 1 := hk
  have hX8 : Ext w2 w8 := hX8
  have hL : OwK 4 w6.heap.size t_impl_Resolvent w8 o8 L.length (cellsQ L) := hL
  have hLs : L.map Prod.snd = (numK l n k).2 := hLs
  have hLl : L.length ≤ k := hLl
  have hC8 : Blk t_i64 w8 b2 (ints (numK l n k).1) := hC8
  have hnum : numK l n (k + 1) = if n.getD k false then ((numK l n k).1.set k (numK l n k).2.length, (numK l n k).2 ++ [if 0 ≤ (l.getD k default).f then ⟨(l.getD k default).c, (numK l n k).1.getD (l.getD k default).f.toNat 0, (numK l n k).1.getD (l.getD k default).s.toNat 0, (l.getD k default).v⟩ else l.getD k default]) else numK l n k := rfl
  have htl := numK_len l n k
  rw [hlen0] at htl
  have hL2 : (numK l n k).2.length = L.length := by rw [← hLs, List.length_map]
  generalize hto : (numK l n k).1 = to at *
  have hrow8 := hrow.ext hX8
  intro _
  simp only [gx]
  refine iLe (iCndP (fun h8 => ?_) (fun h8 => ?_))
  rotate_left
  · obtain rfl : k = m + 1 := by omega
    rw [hrf]
    exact ⟨hX2.trans hX8, _, rfl, L, hL.mono (hX2.trans hX6).size, ⟨fun p hp => (hLo.1 p hp).mono (hX2.trans hX7).size, hLo.2⟩, hLs⟩
  have hkl : k < st.length := by omega
  rw [hst' k hkl] at hnum
  refine iIaBQ hkl ?_
  refine iLdB hB8 (bls_at (by omega)) ?_
  refine iNot ?_
  cases hnk : n.getD k false with
  | false =>
    refine iCndT rfl ?_
    refine iAdd (by omega) ?_
    rw [hnk, if_neg (by simp)] at hnum
    exact hKn (k + 1, o8) _ ⟨by show k + 1 ≤ m + 1; omega, hX8, hB8, by show Blk t_i64 w8 b2 (ints (numK l n (k + 1)).1); rw [hnum, hto]; exact hC8, L, hL, by show _ = (numK l n (k + 1)).2; rw [hnum]; exact hLs, hLo, by show L.length ≤ k + 1; omega, hsz8⟩ (by show m + 1 - (k + 1) < m + 1 - k; omega)
  | true =>
    refine iCndF rfl ?_
    rw [hnk, if_pos rfl] at hnum
    refine iFldQ (f := 0) (x := (gt st k).1) hrow8.sl hkl (by decide) (by rw [cellsQ_at hkl 0 (by decide)]; rfl) ?_
    refine iFldQ (f := 3) (x := .int .i64 (gt st k).2.v) hrow8.sl hkl (by decide) (by rw [cellsQ_at hkl 3 (by decide)]; rfl) ?_
    have hcl : (gt st k).2.c.length ≤ 6 := (hgood k hkl |> fun _ => (by
      have := hall
      exact ClOk.len (by
        rcases hgood k hkl with ⟨_, _, _, h⟩ | ⟨a, b, v, _, _, _, _, _, _, h⟩
        · rw [hst' k hkl] at h; exact hall.2 hok _ h
        · rw [hst' k hkl] at h; exact resC_ok h)))
    intro w9 h9
    refine ⟨?ga, ?gb⟩
    case' ga =>
      refine iCall ((ok_spec_l01Own ((hown _ (hmem k hkl)).ext (hX8.trans h9)).sl (by omega)).mono ?_)
      rintro uv w10 ⟨h10, huv⟩
      refine ⟨h10, ?_⟩
      refine iBuild (fillQ4 huv.cell rfl rfl rfl) ?_
      intro w11 h11
      refine iNew fun b9 w12 hb9 h12 B12 => ?_
      refine ⟨h12, ?_⟩
      intro w13 h13
      refine iStAB (B12.ext h13) rfl rfl (by
        intro y hy
        have hy : y ∈ [uv, .int .i64 (-1), .int .i64 (-1), .int .i64 (gt st k).2.v] := hy
        simp only [List.mem_cons, List.not_mem_nil, or_false] at hy
        rcases hy with rfl | rfl | rfl | rfl
        · exact huv.cell
        · rfl
        · rfl
        · rfl) fun w14 hu14 B14 => ?_
      have B14 : Blk t_impl_Resolvent w14 b9 (csQ (uv, ⟨(gt st k).2.c, -1, -1, (gt st k).2.v⟩)) := B14
      have hX814 : Ext w8 w14 := (((((h9.trans h10).trans h11).trans h12).trans h13)).upd hu14 (by have := h9.size; have := h10.size; have := h11.size; omega)
      have huv14 : Ow w8.heap.size t_i64 w14 uv (ints (gt st k).2.c) := ((((huv.ext h11).ext h12).ext h13).upd hu14 (by have := fun c hc => (huv.blk c hc).2; intro e; have := this b9 e; have := h11.size; omega)).mono h9.size
      have hb9n : w8.heap.size ≤ b9 := by have := h9.size; have := h10.size; have := h11.size; omega
      have hne9 : uv.ownBlock ≠ some b9 := fun e => by have := (huv.blk b9 e).2; have := h11.size; omega
    case' gb =>
      refine iNew fun b9 w12 hb9 h12 B12 => ?_
      refine ⟨h12, ?_⟩
      intro w10 h10
      refine iCall ((ok_spec_l01Own ((hown _ (hmem k hkl)).ext (((hX8.trans h9).trans h12).trans h10)).sl (by omega)).mono ?_)
      rintro uv w11 ⟨h11, huv⟩
      refine ⟨h11, ?_⟩
      refine iBuild (fillQ4 huv.cell rfl rfl rfl) ?_
      intro w13 h13
      refine iStAB (((B12.ext h10).ext h11).ext h13) rfl rfl (by
        intro y hy
        have hy : y ∈ [uv, .int .i64 (-1), .int .i64 (-1), .int .i64 (gt st k).2.v] := hy
        simp only [List.mem_cons, List.not_mem_nil, or_false] at hy
        rcases hy with rfl | rfl | rfl | rfl
        · exact huv.cell
        · rfl
        · rfl
        · rfl) fun w14 hu14 B14 => ?_
      have B14 : Blk t_impl_Resolvent w14 b9 (csQ (uv, ⟨(gt st k).2.c, -1, -1, (gt st k).2.v⟩)) := B14
      have hb9n : w8.heap.size ≤ b9 := by have := h9.size; omega
      have hX814 : Ext w8 w14 := (((((h9.trans h12).trans h10).trans h11).trans h13)).upd hu14 hb9n
      have hne9 : uv.ownBlock ≠ some b9 := fun e => by have := (huv.blk b9 e).1; have := h10.size; omega
      have huv14 : Ow w8.heap.size t_i64 w14 uv (ints (gt st k).2.c) := ((huv.ext h13).upd hu14 hne9).mono (by have := h9.size; have := h10.size; omega)
    all_goals
      intro w15 h15
      have B15 := B14.ext h15
      have huv15 := huv14.ext h15
      have hX15 := hX814.trans h15
      have hrow15 := hrow8.ext hX15
      have hB15 := hB8.ext hX15
      have hC15 := hC8.ext hX15
      have hL15 := hL.ext hX15
      have hLo15 := hLo.ext hX15
      have hn1 : b9 ≠ b1 := by have := hB8.lt; omega
      have hn2 : b9 ≠ b2 := by have := hC8.lt; omega
      have hl8 : ∀ c, o8.ownBlock = some c → c < w8.heap.size := fun c hc => (hL.blk c hc).2
      have hlo8 : ∀ p ∈ L.map kyQ, ∀ c, p.1.ownBlock = some c → c < w8.heap.size := fun p hp c hc => ((hLo.1 p hp).blk c hc).2
      refine iFldQ (f := 1) (x := .int .i64 (gt st k).2.f) hrow15.sl hkl (by decide) (by rw [cellsQ_at hkl 1 (by decide)]; rfl) ?_
      refine iLe ?_
      refine iJnPQ (fun xs w' => xs = [] ∧ Ch (fun c => c = b9) w15 w' ∧ Blk t_impl_Resolvent w' b9 (csQ (uv, if 0 ≤ (gt st k).2.f then ⟨(gt st k).2.c, to.getD (gt st k).2.f.toNat 0, to.getD (gt st k).2.s.toNat 0, (gt st k).2.v⟩ else (gt st k).2))) (fun J hJ => ?_) (fun xs w16 hC => ?_)
      · refine iCndP (fun h0 => ?_) (fun h0 => ?_)
        · obtain ⟨fa, sa, e1, e2, hfa, hsa⟩ := (hgood k hkl).lt (by rw [hst' k hkl]; exact h0)
          rw [hst' k hkl] at e1 e2
          rw [if_pos h0, e1, e2, Int.toNat_natCast, Int.toNat_natCast] at hJ
          refine iFldQ (f := 1) (x := .int .i64 (fa : Int)) hrow15.sl hkl (by decide) (by rw [cellsQ_at hkl 1 (by decide)]; show some (Value.int .i64 (gt st k).2.f) = _; rw [e1]) ?_
          refine iIaBQ (by omega) ?_
          refine iLdB hC15 (ints_at (by omega)) ?_
          refine iFa ?_
          refine iStB B15 (by show 1 < 4; omega) rfl fun B16 => ?_
          have hu16 := Upd.setCell w15 b9 1 (.int .i64 (to.getD fa 0))
          generalize w15.setCell ⟨b9, 1, none⟩ (.int .i64 (to.getD fa 0)) = w16 at *
          have c16 := hu16.ch (S := fun c => c = b9) rfl
          have hrow16 := hrow15.ch c16 fun c hc e => by have := (hrow8.blk c hc).2; omega
          refine iFldQ (f := 2) (x := .int .i64 (sa : Int)) hrow16.sl hkl (by decide) (by rw [cellsQ_at hkl 2 (by decide)]; show some (Value.int .i64 (gt st k).2.s) = _; rw [e2]) ?_
          refine iIaBQ (by omega) ?_
          refine iLdB (hC15.ch c16 hn2.symm) (ints_at (by omega)) ?_
          refine iFa ?_
          refine iStB B16 (by rw [List.length_set]; show 2 < 4; omega) rfl fun B17 => ?_
          have hu17 := Upd.setCell w16 b9 2 (.int .i64 (to.getD sa 0))
          exact hJ [] _ ⟨rfl, c16.trans (hu17.ch (S := fun c => c = b9) rfl) fun c e => .inl e, B17⟩
        · rw [if_neg h0] at hJ
          have hbad : (gt st k).2.f = -1 ∧ (gt st k).2.s = -1 := by
            rcases hgood k hkl with ⟨q1, q2, _⟩ | ⟨a, b, _, q1, _⟩
            · rw [hst' k hkl] at q1 q2; exact ⟨q1, q2⟩
            · rw [hst' k hkl] at q1; omega
          refine hJ [] w15 ⟨rfl, (Ext.refl _).ch, ?_⟩
          have : (⟨(gt st k).2.c, -1, -1, (gt st k).2.v⟩ : Rs) = (gt st k).2 := by rw [← hbad.1]; rw [show (gt st k).2.f = (gt st k).2.s by rw [hbad.1, hbad.2]]; cases h9 : (gt st k).2; rw [h9] at hbad; simp at hbad; simp [hbad.1, hbad.2]
          rw [← this]; exact B15
      · obtain ⟨rfl, c16, B16⟩ := hC
        intro _
        have hB16 := hB15.ch c16 hn1.symm
        have hC16 := hC15.ch c16 hn2.symm
        have hL16 := hL15.ch c16 fun c hc e => by have := hl8 c hc; omega
        have hLo16 := OwP.chQ hLo15 c16 fun p hp c hc e => by have := hlo8 p hp c hc; omega
        have huv16 := huv15.ch c16 fun c hc e => hne9 (by rw [hc, e])
        have hX16 : Ext w8 w16 := hX15.thenCh c16 fun c e => by omega
        refine iLenK hL16.sl ?_
        refine iIaBQ hkl ?_
        refine iStB hC16 (by rw [ints_length, htl]; exact hkl) rfl fun hC17 => ?_
        have hu17 := Upd.setCell w16 b2 k (.int .i64 (L.length : Int))
        generalize w16.setCell ⟨b2, k, none⟩ (.int .i64 (L.length : Int)) = w17 at *
        rw [ints_set] at hC17
        have c17 := hu17.ch (S := fun c => c = b2) rfl
        have hL17 := hL16.ch c17 fun c hc e => OwK.ne_blk hL16 hC16 (by decide) (by rw [hc, e])
        have hX817 : Ext w2 w17 := (hX8.trans hX16).upd hu17 (by have := hX5.size; omega)
        have B17 := B16.upd hu17 hn2
        have hB17 := hB16.upd hu17 hne12
        have huv17 := huv16.upd hu17 (fun e => by have := (huv16.blk b2 e).1; have := hC8.lt; omega)
        have hLo17 := OwP.chQ hLo16 c17 fun p hp c hc e => by
          have := ((hLo16.1 p hp).blk c hc).1
          have := hB6.lt
          have := h7.size
          omega
        refine iLdA B17 rfl ?_
        refine iBsQ fun bb w18 hbb h18 hBB => ?_
        generalize hXx : ((uv, if 0 ≤ (gt st k).2.f then (⟨(gt st k).2.c, to.getD (gt st k).2.f.toNat 0, to.getD (gt st k).2.s.toNat 0, (gt st k).2.v⟩ : Rs) else (gt st k).2) : RV) = X at *
        have hX1 : X.1 = uv := by rw [← hXx]
        have hXc : X.2.c = (gt st k).2.c := by rw [← hXx]; dsimp only; split <;> rfl
        have hBB : Blk t_impl_Resolvent w18 bb (csQ X) := hBB
        have hsl : SlK 4 w18 (.slice (some ⟨bb, 0, none⟩) 1 1) 1 (csQ X) := (OwK.ofBlk (k := 4) (lo := 0) (n := 1) hBB (Nat.zero_le _) rfl (by omega)).sl
        have hL18 := hL17.ext h18
        refine iAppK u_Simpl_Resolvent i_Simpl_Resolvent rfl (by decide) hL18 hsl (fun y hy => by
          simp only [csQ, List.mem_cons, List.not_mem_nil, or_false] at hy
          rcases hy with rfl | rfl | rfl | rfl
          · rw [hX1]; exact huv17.cell
          · rfl
          · rfl
          · rfl) (by omega) (by omega) (by have := h7.size; have := hX16.size; have := hu17.size; have := h18.size; omega) fun o' w19 ho' hg hat => ?_
        have hch := grown_ch (S := fun c => o8.ownBlock = some c) hg fun c hc => hc
        have hX19 : Ext w2 w19 := (hX817.trans h18).thenCh hch fun c hc => by have := (hL18.blk c hc).1; have := hX6.size; omega
        refine iAdd (by omega) ?_
        refine hKn (k + 1, o') _ ⟨by show k + 1 ≤ m + 1; omega, hX19, (hB17.ext h18).grown hg (hL18.ne_blk (hB17.ext h18) (by decide)), ?_, L ++ [X], ?_, ?_, ?_, ?_, ?_⟩ (by show m + 1 - (k + 1) < m + 1 - k; omega)
        · show Blk t_i64 w19 b2 (ints (numK l n (k + 1)).1)
          rw [hnum, hL2]
          exact (hC17.ext h18).grown hg (hL18.ne_blk (hC17.ext h18) (by decide))
        · rw [cellsQ_app, List.length_append]
          have e : cellsQ [X] = csQ X := by simp [cellsQ]
          rw [e]
          exact ho'
        · show _ = (numK l n (k + 1)).2
          rw [hnum, List.map_append, hLs, ← hXx]
          rfl
        · rw [List.map_append]
          refine OwP.snocQ (OwP.chQ (OwP.ext hLo17 h18) hch fun p hp c hc hS => ne_owK ((OwP.ext hLo17 h18).1 p hp) hL18 (by decide) c hc hS) ?_ fun p hp c hc hc' => ?_
          · show Ow w7.heap.size t_i64 w19 X.1 (ints X.2.c)
            rw [hX1, hXc]
            exact ((huv17.ext h18).ch hch fun c hc hS => ne_owK (huv17.ext h18) hL18 (by decide) c hc hS).mono hsz8
          · have h1 := hlo8 p hp c hc
            have hc' : X.1.ownBlock = some c := hc'
            rw [hX1] at hc'
            have := (huv17.blk c hc').1
            omega
        · rw [List.length_append]; show L.length + 1 ≤ k + 1; omega
        · have := hX16.size; have := hu17.size; have := h18.size; have := hg.size; omega
end Go.Proofs.YtfadcafacpaldaaGreatDoor

/- Contracts: marks laid in steps; the law on RefuteClauses. Conditions: none. -/
namespace Go.Vc
end Go.Vc
namespace Go.Proofs.YtfadcafacpaldaaGreatDoor
open Go.Vc
end Go.Proofs.YtfadcafacpaldaaGreatDoor

/- Plain law of the search for refutations, eighth part: the steps that are used are a derivation again, and end at the empty clause. No program in sight. Conditions: none. -/
namespace Go.Vc
theorem numK_len' (st : List Rs) (nd : List Bool) : ∀ k, (numK st nd k).1.length = st.length
  | 0 => by simp [numK]
  | k + 1 => by
    rw [numK]
    dsimp only
    split
    · rw [List.length_set]; exact numK_len' st nd k
    · exact numK_len' st nd k
section
variable {L : List (List Int)} {st : List Rs}
theorem needK_keep (hG : ∀ k, k < st.length → StepOk L st k) : ∀ (k : Nat) (n : List Bool), k ≤ st.length → ∀ i, k ≤ i → (needK st k n).getD i false = n.getD i false
  | 0, _, _, _, _ => rfl
  | k + 1, n, hk, i, hi => by
    rw [needK, needK_keep hG k _ (by omega) i (by omega)]
    split
    · rename_i hc
      rw [Bool.and_eq_true, decide_eq_true_eq] at hc
      obtain ⟨a, b, e1, e2, ha, hb⟩ : ∃ a b : Nat, (st.getD k default).f = (a : Int) ∧ (st.getD k default).s = (b : Int) ∧ a < k ∧ b < k := by
        rcases hG k (by omega) with ⟨h, _⟩ | ⟨a, b, v, h1, h2, _, h4, h5, _⟩
        · omega
        · exact ⟨a, b, h1, h2, h4, h5⟩
      rw [e1, e2, Int.toNat_natCast, Int.toNat_natCast]
      simp [List.getD_eq_getElem?_getD, show ¬ b = i by omega, show ¬ a = i by omega]
    · rfl
theorem needK_mono (st : List Rs) : ∀ (k : Nat) (n : List Bool) (i : Nat), n.getD i false = true → (needK st k n).getD i false = true
  | 0, _, _, h => h
  | k + 1, n, i, h => by
    rw [needK]
    refine needK_mono st k _ i ?_
    split
    · have : ∀ (m : List Bool) (j : Nat), m.getD i false = true → (m.set j true).getD i false = true := fun m j hm => by
        by_cases e : j = i
        · subst e
          have hj : j < m.length := by
            refine Classical.byContradiction fun hn => ?_
            simp [List.getD_eq_getElem?_getD, List.getElem?_eq_none (Nat.le_of_not_lt hn)] at hm
          simp [List.getD_eq_getElem?_getD, hj]
        · simpa [List.getD_eq_getElem?_getD, e] using hm
      exact this _ _ (this _ _ h)
    · exact h
/-- What is needed by a needed step is needed. -/
theorem needK_closed (hG : ∀ k, k < st.length → StepOk L st k) : ∀ (k : Nat) (n : List Bool), k ≤ st.length → n.length = st.length → ∀ i, i < k → (needK st k n).getD i false = true → 0 ≤ (st.getD i default).f →
    (needK st k n).getD (st.getD i default).f.toNat false = true ∧ (needK st k n).getD (st.getD i default).s.toNat false = true
  | 0, _, _, _, i, hi, _, _ => by omega
  | k + 1, n, hk, hl, i, hi, h, h0 => by
    rw [needK] at h ⊢
    by_cases e : i = k
    · subst e
      have hnk : n.getD i false = true := by
        rw [needK_keep hG i _ (by omega) i (Nat.le_refl _)] at h
        split at h
        · rename_i hc
          rw [Bool.and_eq_true] at hc
          exact hc.1
        · exact h
      obtain ⟨a, b, e1, e2, ha, hb⟩ : ∃ a b : Nat, (st.getD i default).f = (a : Int) ∧ (st.getD i default).s = (b : Int) ∧ a < i ∧ b < i := by
        rcases hG i (by omega) with ⟨h, _⟩ | ⟨a, b, v, h1, h2, _, h4, h5, _⟩
        · omega
        · exact ⟨a, b, h1, h2, h4, h5⟩
      rw [if_pos (by rw [hnk, decide_eq_true h0]; rfl), e1, e2, Int.toNat_natCast, Int.toNat_natCast]
      have hs : ∀ (m : List Bool) (j : Nat), j < m.length → (m.set j true).getD j false = true := fun m j hj => by simp [List.getD_eq_getElem?_getD, hj]
      refine ⟨needK_mono st i _ a ?_, needK_mono st i _ b (hs _ b (by rw [List.length_set]; omega))⟩
      by_cases eab : b = a
      · subst eab; exact hs _ b (by rw [List.length_set]; omega)
      · have := hs n a (by omega)
        simpa [List.getD_eq_getElem?_getD, eab] using this
    · exact needK_closed hG k _ (by omega) (by split <;> simp [hl]) i (by omega) h h0
/-- The steps numbered anew: the number of a needed step, and what stands there. -/
theorem numK_spec (hG : ∀ k, k < st.length → StepOk L st k) {nd : List Bool} (hcl : ∀ i, i < st.length → nd.getD i false = true → 0 ≤ (st.getD i default).f → nd.getD (st.getD i default).f.toNat false = true ∧ nd.getD (st.getD i default).s.toNat false = true) : ∀ k, k ≤ st.length →
    (∀ i, i < k → nd.getD i false = true → ∃ m : Nat, (numK st nd k).1.getD i 0 = (m : Int) ∧ m < (numK st nd k).2.length ∧ ((numK st nd k).2.getD m default).c = (st.getD i default).c) ∧
    (∀ m, m < (numK st nd k).2.length → StepOk L (numK st nd k).2 m)
  | 0, _ => ⟨fun i hi => by omega, fun m hm => by simp [numK] at hm⟩
  | k + 1, hk => by
    obtain ⟨h1, h2⟩ := numK_spec hG hcl k (by omega)
    have hlen := numK_len' st nd k
    rw [numK]
    dsimp only
    by_cases hn : nd.getD k false = true
    · rw [if_pos hn]
      generalize hp : numK st nd k = p at *
      have app : ∀ m, m < p.2.length → ∀ x, (p.2 ++ [x]).getD m default = p.2.getD m default := fun m hm x => by simp [List.getD_eq_getElem?_getD, List.getElem?_append_left hm]
      have lst : ∀ x : Rs, (p.2 ++ [x]).getD p.2.length default = x := fun x => by simp [List.getD_eq_getElem?_getD]
      generalize hX : (if 0 ≤ (st.getD k default).f then (⟨(st.getD k default).c, p.1.getD (st.getD k default).f.toNat 0, p.1.getD (st.getD k default).s.toNat 0, (st.getD k default).v⟩ : Rs) else st.getD k default) = X
      have hXc : X.c = (st.getD k default).c := by rw [← hX]; split <;> rfl
      refine ⟨fun i hi hni => ?_, fun m hm => ?_⟩
      · by_cases e : i = k
        · subst e
          refine ⟨p.2.length, ?_, by simp, ?_⟩
          · simp [List.getD_eq_getElem?_getD, show i < p.1.length by omega]
          · show ((p.2 ++ [X]).getD p.2.length default).c = _
            rw [lst X]; exact hXc
        · obtain ⟨m, q1, q2, q3⟩ := h1 i (by omega) hni
          refine ⟨m, ?_, by rw [List.length_append]; simp; omega, ?_⟩
          · rw [← q1]
            simp [List.getD_eq_getElem?_getD, show ¬ k = i from fun h => e h.symm]
          · show ((p.2 ++ [X]).getD m default).c = _
            rw [app m q2 X]; exact q3
      · have hgrow : ∀ j, j < p.2.length → StepOk L p.2 j → StepOk L (p.2 ++ [X]) j := fun j hj h => StepOk.grew (a := (p.2, false)) (b := (p.2 ++ [X], false)) ⟨[X], rfl⟩ hj h
        rw [List.length_append] at hm
        simp only [List.length_cons, List.length_nil] at hm
        by_cases e : m = p.2.length
        · subst e
          unfold StepOk
          simp only [lst X]
          rcases hG k (by omega) with ⟨g1, g2, g3, g4⟩ | ⟨a, b, v, g1, g2, g3, g4, g5, g6, g7⟩
          · rw [g1, if_neg (by decide)] at hX
            subst hX
            exact .inl ⟨g1, g2, g3, g4⟩
          · have h0 : 0 ≤ (st.getD k default).f := by omega
            obtain ⟨n1, n2⟩ := hcl k (by omega) hn h0
            rw [g1, Int.toNat_natCast] at n1
            rw [g2, Int.toNat_natCast] at n2
            obtain ⟨ma, a1, a2, a3⟩ := h1 a g4 n1
            obtain ⟨mb, b1, b2, b3⟩ := h1 b g5 n2
            rw [if_pos h0, g1, g2, Int.toNat_natCast, Int.toNat_natCast, a1, b1] at hX
            subst hX
            exact .inr ⟨ma, mb, v, rfl, rfl, g3, a2, b2, g6, by rw [app ma a2, app mb b2, a3, b3]; exact g7⟩
        · exact hgrow m (by omega) (h2 m (by omega))
    · rw [if_neg hn]
      refine ⟨fun i hi hni => ?_, h2⟩
      by_cases e : i = k
      · subst e; exact absurd hni hn
      · exact h1 i (by omega) hni
end
/-- What RefuteClauses hands back is a derivation of the empty clause. -/
theorem used_good {L : List (List Int)} (hok : ∀ c ∈ L, ClOk c) (h2 : (endP L).2 = true) : (∀ k, k < (usedR (endP L).1).length → StepOk L (usedR (endP L).1) k) ∧ 0 < (usedR (endP L).1).length ∧ ((usedR (endP L).1).getD ((usedR (endP L).1).length - 1) default).c = [] := by
  have hG : ∀ k, k < (endP L).1.length → StepOk L (endP L).1 k := endP_good L
  obtain ⟨hl, he⟩ := endP_empty hok h2
  generalize (endP L).1 = st at *
  have hlast : (needed st).getD (st.length - 1) false = true := by
    unfold needed
    refine needK_mono st _ _ _ ?_
    simp [List.getD_eq_getElem?_getD, show st.length - 1 < st.length by omega]
  have hcl : ∀ i, i < st.length → (needed st).getD i false = true → 0 ≤ (st.getD i default).f → (needed st).getD (st.getD i default).f.toNat false = true ∧ (needed st).getD (st.getD i default).s.toNat false = true :=
    needK_closed hG st.length _ (Nat.le_refl _) (by simp)
  have hs := numK_spec hG hcl st.length (Nat.le_refl _)
  refine ⟨hs.2, ?_⟩
  unfold usedR
  have e : numK st (needed st) st.length = numK st (needed st) ((st.length - 1) + 1) := by rw [show st.length - 1 + 1 = st.length by omega]
  rw [e, numK]
  dsimp only
  rw [if_pos hlast]
  refine ⟨by simp, ?_⟩
  have : ∀ (A : List Rs) (x : Rs), ((A ++ [x]).getD ((A ++ [x]).length - 1) default) = x := fun A x => by simp [List.getD_eq_getElem?_getD]
  rw [this]
  split <;> exact he
end Go.Vc

/- Plain law of the search for refutations, ninth part: the closure under resolution, and that the search reaches it. No program in sight. Conditions: none. -/
namespace Go.Vc
/-- What is resolved from some clauses. -/
inductive Cl (L : List (List Int)) : List Int → Prop
  | base {c : List Int} (h : c ∈ L) : Cl L c
  | res {c d r : List Int} {v : Nat} (hc : Cl L c) (hd : Cl L d) (hv : v < 6) (h : resC c d v = some r) : Cl L r
/-- Closed under resolution. -/
def Clsd (S : List Int → Prop) : Prop := ∀ c d r (v : Nat), S c → S d → v < 6 → resC c d v = some r → S r
theorem Cl.least {L : List (List Int)} {S : List Int → Prop} (hL : ∀ c ∈ L, S c) (hS : Clsd S) {c : List Int} (h : Cl L c) : S c := by
  induction h with
  | base h => exact hL _ h
  | res _ _ hv h ih1 ih2 => exact hS _ _ _ _ ih1 ih2 hv h
theorem Cl.ok {L : List (List Int)} (hL : ∀ c ∈ L, ClOk c) {c : List Int} (h : Cl L c) : ClOk c := by
  induction h with
  | base h => exact hL _ h
  | res _ _ _ h _ _ => exact resC_ok h
/-- The clauses of steps. -/
def CS (l : List Rs) (c : List Int) : Prop := c ∈ l.map Rs.c
theorem CS.get {l : List Rs} {i : Nat} (h : i < l.length) : CS l (l.getD i default).c := List.mem_map.2 ⟨l[i], List.getElem_mem h, by simp [List.getD_eq_getElem?_getD, h]⟩
theorem CS.pre {a b : List Rs} (h : a <+: b) {c : List Int} (hc : CS a c) : CS b c := by
  obtain ⟨t, rfl⟩ := h
  unfold CS
  rw [List.map_append]
  exact List.mem_append_left _ hc
theorem addL_cs (l : List Rs) (s : Rs) : CS (addL l s) s.c := by
  unfold addL CS
  split
  · assumption
  · simp
theorem pre_get {a b : List Rs} (h : a <+: b) {i : Nat} (hi : i < a.length) : b.getD i default = a.getD i default := by
  obtain ⟨t, rfl⟩ := h
  simp [List.getD_eq_getElem?_getD, List.getElem?_append_left hi]
/-- Of the pair i, j on v both resolvents are there. -/
def Did (l : List Rs) (i j v : Nat) : Prop := ∀ r, (resC (l.getD i default).c (l.getD j default).c v = some r ∨ resC (l.getD j default).c (l.getD i default).c v = some r) → CS l r
theorem Did.pre {a b : List Rs} (h : a <+: b) {i j v : Nat} (hi : i < a.length) (hj : j < a.length) (k : Did a i j v) : Did b i j v := by
  unfold Did at *
  rw [pre_get h hi, pre_get h hj]
  exact fun r hr => CS.pre h (k r hr)
theorem did_step {l : List Rs} (hl : LInv l) {i j v : Nat} (hi : i < l.length) (hj : j < l.length) : Did (stepL j i v l) i j v := by
  have hp : l <+: stepL j i v l := by
    have := stepW_pre true j i v l
    rwa [show stepW true j i v l = stepL j i v l from if_neg (by unfold doneL; simp)] at this
  have hok : ∀ k, k < l.length → ClOk (l.getD k default).c := fun k hk => hl.ok _ (by
    have : l.getD k default = l[k] := by simp [List.getD_eq_getElem?_getD, hk]
    rw [this]; exact List.getElem_mem hk)
  unfold Did
  rw [pre_get hp hi, pre_get hp hj]
  intro r hr
  unfold stepL
  cases h1 : resC (l.getD i default).c (l.getD j default).c v with
  | some r1 =>
    have h2 := resC_one (v := (v : Int)) (hok i hi) (d := (l.getD j default).c) (by rw [h1]; simp)
    rw [h1, h2] at hr
    rcases hr with hr | hr
    · injection hr with hr
      subst hr
      exact addL_cs _ _
    · cases hr
  | none =>
    rw [h1] at hr
    rcases hr with hr | hr
    · cases hr
    · rw [hr]
      exact addL_cs _ _
/-- The facts along the search without an end: what has been done. -/
theorem did_growV {whole : Bool} {j i : Nat} : ∀ (n k : Nat) {l : List Rs}, k + n = 6 → LInv l → i < l.length → j < l.length → doneL whole (growV whole j i k l) = false → ∀ v, k ≤ v → v < 6 → Did (growV whole j i k l) i j v
  | 0, k, l, hk, _, _, _, _, v, hv, hv6 => by omega
  | n + 1, k, l, hk, hl, hi, hj, hd, v, hv, hv6 => by
    have hk6 : k < 6 := by omega
    rw [growV_step hk6] at hd ⊢
    have hd0 : doneL whole l = false := by
      refine Classical.byContradiction fun h => ?_
      have h : doneL whole l = true := by simpa using h
      rw [stepW_done j i k h, growV_done j i (k + 1) h, h] at hd
      cases hd
    have hs : stepW whole j i k l = stepL j i k l := if_neg (by rw [hd0]; simp)
    have hp := stepW_pre whole j i k l
    rw [hs] at hp hd ⊢
    have hinv : LInv (stepL j i k l) := by have := hl.step whole j i k; rwa [hs] at this
    have hlen := hp.length_le
    by_cases e : v = k
    · subst e
      exact Did.pre (growV_pre whole j i (v + 1) _) (by omega) (by omega) (did_step hl hi hj)
    · exact did_growV n (k + 1) (by omega) hinv (by omega) (by omega) hd v (by omega) hv6
theorem did_growI {whole : Bool} {j : Nat} : ∀ (n k : Nat) {l : List Rs}, k + n = j → LInv l → j < l.length → doneL whole (growI whole j k l) = false → ∀ i v, k ≤ i → i < j → v < 6 → Did (growI whole j k l) i j v
  | 0, k, l, hk, _, _, _, i, v, hi, hij, _ => by omega
  | n + 1, k, l, hk, hl, hj, hd, i, v, hi, hij, hv => by
    have hkj : k < j := by omega
    rw [growI_step hkj] at hd ⊢
    have hp := growV_pre whole j k 0 l
    have hlen := hp.length_le
    have hinv := hl.growV whole j k 0
    have hdV : doneL whole (growV whole j k 0 l) = false := by
      refine Classical.byContradiction fun h => ?_
      have h : doneL whole (growV whole j k 0 l) = true := by simpa using h
      rw [growI_done j (k + 1) h, h] at hd
      cases hd
    by_cases e : i = k
    · subst e
      exact Did.pre (growI_pre whole j (i + 1) _) (by omega) (by omega) (did_growV 6 0 (by omega) hl (by omega) hj hdV v (by omega) hv)
    · exact did_growI n (k + 1) (by omega) hinv (by omega) hd i v (by omega) hij hv
theorem growJ_pre (whole : Bool) : ∀ (n j : Nat) (l : List Rs), l <+: growJ whole n j l
  | 0, _, _ => List.prefix_rfl
  | n + 1, j, l => by
    unfold growJ
    split
    · exact List.prefix_rfl
    · exact (growI_pre whole j 0 l).trans (growJ_pre whole n (j + 1) _)
theorem did_growJ {whole : Bool} : ∀ (n j : Nat) {l : List Rs}, LInv l → 729 ≤ n + j → doneL whole (growJ whole n j l) = false → (∀ i k v, i < k → k < j → k < l.length → v < 6 → Did l i k v) → ∀ i k v, i < k → k < (growJ whole n j l).length → v < 6 → Did (growJ whole n j l) i k v
  | 0, j, l, hl, hn, _, h, i, k, v, hik, hk, hv => h i k v hik (by have := hl.len; have hk : k < l.length := hk; omega) hk hv
  | n + 1, j, l, hl, hn, hd, h, i, k, v, hik, hk, hv => by
    by_cases hjl : l.length ≤ j
    · rw [growJ_end hjl] at hk ⊢
      exact h i k v hik (by omega) hk hv
    · have hd0 : doneL whole l = false := by
        refine Classical.byContradiction fun h => ?_
        have h : doneL whole l = true := by simpa using h
        rw [growJ_done (n + 1) j h, h] at hd
        cases hd
      rw [growJ_step hd0 (by omega)] at hd hk ⊢
      have hp := growI_pre whole j 0 l
      have hlen := hp.length_le
      have hdI : doneL whole (growI whole j 0 l) = false := by
        refine Classical.byContradiction fun h => ?_
        have h : doneL whole (growI whole j 0 l) = true := by simpa using h
        rw [growJ_done n (j + 1) h, h] at hd
        cases hd
      refine did_growJ n (j + 1) (hl.growI whole j 0) (by omega) hd (fun i k v hik hk1 hk2 hv => ?_) i k v hik hk hv
      by_cases e : k = j
      · subst e
        exact did_growI k 0 (by omega) hl (by omega) hdI i v (by omega) hik hv
      · exact Did.pre hp (by omega) (by omega) (h i k v hik (by omega) (by omega) hv)
/-- What the search ends at is closed. -/
theorem grownS_closed {whole : Bool} {L : List (List Int)} (hok : ∀ c ∈ L, ClOk c) (hd : doneL whole (grownS whole L) = false) : Clsd (CS (grownS whole L)) := by
  have hI := gl0_inv hok
  have hE := LInv.growJ (whole := whole) 800 0 hI
  have hdid := did_growJ (whole := whole) 800 0 hI (by omega) hd (fun i k v _ h => by omega)
  have hdid : ∀ i k v, i < k → k < (grownS whole L).length → v < 6 → Did (grownS whole L) i k v := hdid
  have hE : LInv (grownS whole L) := hE
  intro c d r v hc hd' hv h
  obtain ⟨x, hx, rfl⟩ := List.mem_map.1 hc
  obtain ⟨y, hy, rfl⟩ := List.mem_map.1 hd'
  obtain ⟨a, ha, rfl⟩ := List.getElem_of_mem hx
  obtain ⟨b, hb, rfl⟩ := List.getElem_of_mem hy
  have ea : (grownS whole L).getD a default = (grownS whole L)[a] := by simp [List.getD_eq_getElem?_getD, ha]
  have eb : (grownS whole L).getD b default = (grownS whole L)[b] := by simp [List.getD_eq_getElem?_getD, hb]
  rcases Nat.lt_trichotomy a b with hab | hab | hab
  · exact hdid a b v hab hb hv r (.inl (by rw [ea, eb]; exact h))
  · subst hab
    have := resC_one (hE.ok _ hx) (v := (v : Int)) (d := ((grownS whole L)[a]).c) (by rw [h]; simp)
    rw [h] at this; cases this
  · exact hdid b a v hab ha hv r (.inr (by rw [ea, eb]; exact h))
theorem addL_sub {L : List (List Int)} {l : List Rs} {s : Rs} (h : ∀ c, CS l c → Cl L c) (hs : Cl L s.c) : ∀ c, CS (addL l s) c → Cl L c := by
  intro c hc
  unfold addL at hc
  split at hc
  · exact h c hc
  · unfold CS at hc
    rw [List.map_append] at hc
    rcases List.mem_append.1 hc with hc | hc
    · exact h c hc
    · simp at hc; rw [hc]; exact hs
theorem stepW_sub {L : List (List Int)} {whole : Bool} {l : List Rs} {i j v : Nat} (hi : i < l.length) (hj : j < l.length) (hv : v < 6) (h : ∀ c, CS l c → Cl L c) : ∀ c, CS (stepW whole j i v l) c → Cl L c := by
  unfold stepW
  split
  · exact h
  · unfold stepL
    split
    · rename_i r hr
      exact addL_sub h (.res (h _ (CS.get hi)) (h _ (CS.get hj)) hv hr)
    · split
      · rename_i r hr
        exact addL_sub h (.res (h _ (CS.get hj)) (h _ (CS.get hi)) hv hr)
      · exact h
theorem growV_sub {L : List (List Int)} {whole : Bool} {i j : Nat} : ∀ (n k : Nat) {l : List Rs}, k + n = 6 → i < l.length → j < l.length → (∀ c, CS l c → Cl L c) → ∀ c, CS (growV whole j i k l) c → Cl L c
  | 0, k, l, hk, _, _, h => by
    obtain rfl : k = 6 := by omega
    exact h
  | n + 1, k, l, hk, hi, hj, h => by
    rw [growV_step (by omega)]
    have := (stepW_pre whole j i k l).length_le
    exact growV_sub n (k + 1) (by omega) (by omega) (by omega) (stepW_sub hi hj (by omega) h)
theorem growI_sub {L : List (List Int)} {whole : Bool} {j : Nat} : ∀ (n k : Nat) {l : List Rs}, k + n = j → j < l.length → (∀ c, CS l c → Cl L c) → ∀ c, CS (growI whole j k l) c → Cl L c
  | 0, k, l, hk, _, h => by
    obtain rfl : k = j := by omega
    rw [growI_end]; exact h
  | n + 1, k, l, hk, hj, h => by
    rw [growI_step (by omega)]
    have := (growV_pre whole j k 0 l).length_le
    exact growI_sub n (k + 1) (by omega) (by omega) (growV_sub 6 0 (by omega) (by omega) hj h)
theorem growJ_sub {L : List (List Int)} {whole : Bool} : ∀ (n j : Nat) {l : List Rs}, (∀ c, CS l c → Cl L c) → ∀ c, CS (growJ whole n j l) c → Cl L c
  | 0, _, _, h => h
  | n + 1, j, l, h => by
    unfold growJ
    split
    · exact h
    · rename_i hc
      rw [Bool.or_eq_true, decide_eq_true_eq, not_or] at hc
      exact growJ_sub n (j + 1) (growI_sub j 0 (by omega) (by omega) h)
theorem grownS_sub {whole : Bool} {L : List (List Int)} : ∀ c, CS (grownS whole L) c → Cl L c := growJ_sub 800 0 fun c hc => by
  unfold CS at hc
  rw [gl0_map] at hc
  exact .base ((mem_setA ordLs).1 hc)
theorem grownS_given {whole : Bool} {L : List (List Int)} : ∀ c ∈ L, CS (grownS whole L) c := fun c hc => CS.pre (growJ_pre whole 800 0 (gl0 L)) (by
  unfold CS
  rw [gl0_map]
  exact (mem_setA ordLs).2 hc)
/-- With 'whole' the search ends at the closure. -/
theorem grownS_all {L : List (List Int)} (hok : ∀ c ∈ L, ClOk c) (c : List Int) : CS (grownS true L) c ↔ Cl L c :=
  ⟨grownS_sub c, fun h => h.least grownS_given (grownS_closed hok (by unfold doneL; rfl))⟩
/-- The empty clause is found exactly if it is in the closure. -/
theorem endP_iff {L : List (List Int)} (hok : ∀ c ∈ L, ClOk c) : (endP L).2 = true ↔ Cl L [] := by
  have hSok : ∀ c ∈ setA lessB L, ClOk c := fun c hc => hok c ((mem_setA ordLs).1 hc)
  have key : (endP L).2 = true ↔ CS (grownS false L) [] := by
    by_cases hE : [] ∈ setA lessB L
    · obtain ⟨M, hM⟩ := setA_nil hE
      have hg : grownS false L = gl0 L := growJ_done 800 0 (by unfold doneL; rw [gl0_map]; simpa using hE)
      have hP : endP L = ([⟨[], -1, -1, -1⟩], true) := by
        unfold endP
        rw [hM, startP_E]
        exact remJ_done 800 0 (st := ([⟨[], -1, -1, -1⟩], true)) rfl
      rw [hg, hP]
      unfold CS
      rw [gl0_map]
      exact ⟨fun _ => hE, fun _ => rfl⟩
    · have hst : startP (setA lessB L) ([], false) = (gl0 L, false) := by
        rw [startP_noE _ _ rfl (by simpa using setA_nodup L) hE]
        rfl
      have hI0 : RInv (gl0 L, false) := by
        have := RInv.startP (setA lessB L) RInv.nil hSok
        rw [hst] at this; exact this
      have hg : grownS false L = (endP L).1 := by
        unfold grownS endP
        rw [hst, remJ_fst 800 0 hI0]
      rw [hg, (endP_inv hok).em, decide_eq_true_eq]
      rfl
  rw [key]
  constructor
  · exact grownS_sub []
  · intro h
    refine Classical.byContradiction fun hn => hn ?_
    refine h.least grownS_given (grownS_closed hok ?_)
    unfold doneL
    rw [decide_eq_false (show ¬ [] ∈ (grownS false L).map Rs.c from hn)]; rfl
end Go.Vc

/- Plain law of resolution: clauses have no common model exactly if the empty clause is resolved from them. No program in sight. Conditions: none. -/
namespace Go.Vc
/-- Is a literal true in a row of the truth table? -/
def litT (r : Nat) (l : Int) : Bool := if l % 2 = 1 then !r.testBit (l / 2).toNat else r.testBit (l / 2).toNat
def Sat (r : Nat) (c : List Int) : Prop := ∃ l ∈ c, litT r l = true
theorem litT_pos (r v : Nat) : litT r (2 * (v : Int)) = r.testBit v := by
  unfold litT
  rw [if_neg (by omega), show (2 * (v : Int)) / 2 = (v : Int) by omega, Int.toNat_natCast]
theorem litT_neg (r v : Nat) : litT r (2 * (v : Int) + 1) = !r.testBit v := by
  unfold litT
  rw [if_pos (by omega), show (2 * (v : Int) + 1) / 2 = (v : Int) by omega, Int.toNat_natCast]
theorem Cl.sat {L : List (List Int)} (hok : ∀ c ∈ L, ClOk c) {r : Nat} (hr : ∀ c ∈ L, Sat r c) {c : List Int} (h : Cl L c) : Sat r c := by
  induction h with
  | base h => exact hr _ h
  | @res c d e v hc hd hv h ih1 ih2 =>
    have okc := hc.ok hok
    have okd := hd.ok hok
    unfold resC at h
    split at h
    · rename_i hh
      injection h with h
      subst h
      obtain ⟨k1, k2, k3⟩ := hh
      have keep : ∀ l, (l ∈ c ∨ l ∈ d) → (0 ≤ l ∧ l ≤ 11) → ¬ l / 2 = (v : Int) → litT r l = true → Sat r (resL c d v) := fun l hl hb hn ht => ⟨l, mem_resL.2 ⟨hb, hn, hl⟩, ht⟩
      cases hb : r.testBit v with
      | true =>
        obtain ⟨l, hl, ht⟩ := ih2
        refine keep l (.inr hl) (okd.1 l hl) (fun e => ?_) ht
        have : l = 2 * (v : Int) + 1 := okd.other hl k2 (by omega)
        rw [this, litT_neg, hb] at ht; cases ht
      | false =>
        obtain ⟨l, hl, ht⟩ := ih1
        refine keep l (.inl hl) (okc.1 l hl) (fun e => ?_) ht
        have : l = 2 * (v : Int) := okc.other hl k1 (by omega)
        rw [this, litT_pos, hb] at ht; cases ht
    · cases h
theorem litT_low {r k : Nat} {l : Int} (h0 : 0 ≤ l) (hl : l / 2 < (k : Int)) : litT (r ||| 2 ^ k) l = litT r l := by
  have : (r ||| 2 ^ k).testBit (l / 2).toNat = r.testBit (l / 2).toNat := by
    rw [Nat.testBit_or, Nat.testBit_two_pow, decide_eq_false (by omega), Bool.or_false]
  unfold litT
  rw [this]
theorem model_of {L : List (List Int)} (hok : ∀ c ∈ L, ClOk c) (hn : ¬ Cl L []) : ∀ k : Nat, k ≤ 6 → ∃ r, r < 2 ^ k ∧ ∀ c, Cl L c → (∀ l ∈ c, l / 2 < (k : Int)) → Sat r c
  | 0, _ => ⟨0, by simp, fun c hc hv => by
    cases c with
    | nil => exact absurd hc hn
    | cons l c =>
      have h1 := hv l List.mem_cons_self
      have h2 := (hc.ok hok).1 l List.mem_cons_self
      omega⟩
  | k + 1, hk => by
    obtain ⟨r, hr, ih⟩ := model_of hok hn k (by omega)
    have hp : 2 ^ (k + 1) = 2 ^ k * 2 := Nat.pow_succ 2 k
    have hrk : r.testBit k = false := Nat.testBit_lt_two_pow hr
    refine Classical.byContradiction fun hno => ?_
    have h1 : ∃ c, Cl L c ∧ (∀ l ∈ c, l / 2 < ((k + 1 : Nat) : Int)) ∧ ¬ Sat r c := by
      refine Classical.byContradiction fun h => hno ⟨r, by omega, fun c hc hv => Classical.byContradiction fun hs => h ⟨c, hc, hv, hs⟩⟩
    have h2 : ∃ c, Cl L c ∧ (∀ l ∈ c, l / 2 < ((k + 1 : Nat) : Int)) ∧ ¬ Sat (r ||| 2 ^ k) c := by
      refine Classical.byContradiction fun h => hno ⟨r ||| 2 ^ k, Nat.or_lt_two_pow (by omega) (by have := Nat.two_pow_pos k; omega), fun c hc hv => Classical.byContradiction fun hs => h ⟨c, hc, hv, hs⟩⟩
    obtain ⟨c, hc, hcv, hcs⟩ := h1
    obtain ⟨d, hd, hdv, hds⟩ := h2
    have okc := hc.ok hok
    have okd := hd.ok hok
    have fc : ∀ l ∈ c, litT r l = false := fun l hl => by
      cases h : litT r l with
      | false => rfl
      | true => exact absurd ⟨l, hl, h⟩ hcs
    have fd : ∀ l ∈ d, litT (r ||| 2 ^ k) l = false := fun l hl => by
      cases h : litT (r ||| 2 ^ k) l with
      | false => rfl
      | true => exact absurd ⟨l, hl, h⟩ hds
    have mc : 2 * (k : Int) ∈ c := by
      have : ∃ l ∈ c, ¬ l / 2 < (k : Int) := by
        refine Classical.byContradiction fun h => hcs (ih c hc fun l hl => Classical.byContradiction fun h' => h ⟨l, hl, h'⟩)
      obtain ⟨l, hl, hlk⟩ := this
      have := hcv l hl
      rcases (show l = 2 * (k : Int) ∨ l = 2 * (k : Int) + 1 by omega) with e | e
      · rw [← e]; exact hl
      · have := fc l hl
        rw [e, litT_neg, hrk] at this; cases this
    have md : 2 * (k : Int) + 1 ∈ d := by
      have : ∃ l ∈ d, ¬ l / 2 < (k : Int) := by
        refine Classical.byContradiction fun h => hds ?_
        have hlow : ∀ l ∈ d, l / 2 < (k : Int) := fun l hl => Classical.byContradiction fun h' => h ⟨l, hl, h'⟩
        obtain ⟨l, hl, ht⟩ := ih d hd hlow
        exact ⟨l, hl, by rw [litT_low (okd.1 l hl).1 (hlow l hl)]; exact ht⟩
      obtain ⟨l, hl, hlk⟩ := this
      have := hdv l hl
      rcases (show l = 2 * (k : Int) ∨ l = 2 * (k : Int) + 1 by omega) with e | e
      · have := fd l hl
        rw [e, litT_pos, Nat.testBit_or, Nat.testBit_two_pow, decide_eq_true rfl, Bool.or_true] at this; cases this
      · rw [← e]; exact hl
    have low : ∀ l ∈ resL c d k, l / 2 < (k : Int) ∧ litT r l = false := fun l hl => by
      obtain ⟨hb, hne, hm⟩ := mem_resL.1 hl
      rcases hm with hm | hm
      · exact ⟨by have := hcv l hm; omega, fc l hm⟩
      · have h3 : l / 2 < (k : Int) := by have := hdv l hm; omega
        have := fd l hm
        rw [litT_low hb.1 h3] at this
        exact ⟨h3, this⟩
    have hres : ClOk (resL c d k) := by
      refine ⟨fun l hl => (mem_resL.1 hl).1, ?_⟩
      refine List.Pairwise.imp_of_mem ?_ (resL_lt c d k)
      intro a b ha hb hab
      have ba := (mem_resL.1 ha).1
      refine Classical.byContradiction fun hn2 => ?_
      obtain ⟨u, rfl⟩ : ∃ u : Nat, a = 2 * (u : Int) := ⟨(a / 2).toNat, by omega⟩
      have e2 : b = 2 * (u : Int) + 1 := by omega
      have q1 := (low _ ha).2
      have q2 := (low _ hb).2
      rw [litT_pos] at q1
      rw [e2, litT_neg, q1] at q2
      cases q2
    have hr2 : resC c d k = some (resL c d k) := if_pos ⟨mc, md, hres⟩
    obtain ⟨l, hl, ht⟩ := ih _ (.res hc hd (by omega) hr2) fun l hl => (low l hl).1
    rw [(low l hl).2] at ht; cases ht
/-- No common model exactly if the empty clause is resolved. -/
theorem unsat_iff {L : List (List Int)} (hok : ∀ c ∈ L, ClOk c) : (∀ r, r < 64 → ∃ c ∈ L, ¬ Sat r c) ↔ Cl L [] := by
  constructor
  · intro h
    refine Classical.byContradiction fun hn => ?_
    obtain ⟨r, hr, hs⟩ := model_of hok hn 6 (by omega)
    obtain ⟨c, hc, hnot⟩ := h r (by simpa using hr)
    exact hnot (hs c (.base hc) fun l hl => by have := (hok c hc).1 l hl; omega)
  · intro h r hr
    refine Classical.byContradiction fun hn => ?_
    obtain ⟨l, hl, _⟩ := h.sat hok (r := r) fun c hc => Classical.byContradiction fun hs => hn ⟨c, hc, hs⟩
    cases hl
end Go.Vc

/- Contracts: the resolvents of two clauses; the closure under resolution in the program and in the reference. Conditions: none. -/
namespace Go.Vc
def resSK (c d : List Int) (k : Nat) : List (List Int) := (List.range k).filterMap fun v : Nat => resC c d v
theorem resSK_succ (c d : List Int) (k : Nat) : resSK c d (k + 1) = resSK c d k ++ (match resC c d k with | some r => [r] | none => []) := by
  unfold resSK
  rw [List.range_succ, List.filterMap_append]
  cases h : resC c d k <;> simp [h]
theorem mem_resSK {c d r : List Int} {k : Nat} : r ∈ resSK c d k ↔ ∃ v : Nat, v < k ∧ resC c d v = some r := by
  unfold resSK
  rw [List.mem_filterMap]
  constructor
  · rintro ⟨v, hv, h⟩; exact ⟨v, List.mem_range.1 hv, h⟩
  · rintro ⟨v, hv, h⟩; exact ⟨v, List.mem_range.2 hv, h⟩
theorem resSK_len (c d : List Int) (k : Nat) : (resSK c d k).length ≤ k := by
  have := List.length_filterMap_le (fun v : Nat => resC c d v) (List.range k)
  rw [List.length_range] at this
  exact this
/-- Of the pair i, k all resolvents are there. -/
def PairD (ls : List (List Int)) (i k : Nat) : Prop := ∀ r (v : Nat), v < 6 → (resC (gt ls i) (gt ls k) v = some r ∨ resC (gt ls k) (gt ls i) v = some r) → r ∈ ls
theorem gt_pre {a b : List (List Int)} (h : a <+: b) {i : Nat} (hi : i < a.length) : gt b i = gt a i := by
  obtain ⟨t, rfl⟩ := h
  rw [gt_eq hi, gt_eq (by rw [List.length_append]; omega), List.getElem_append_left hi]
theorem PairD.pre {a b : List (List Int)} (h : a <+: b) {i k : Nat} (hi : i < a.length) (hk : k < a.length) (p : PairD a i k) : PairD b i k := by
  intro r v hv hr
  rw [gt_pre h hi, gt_pre h hk] at hr
  exact h.subset (p r v hv hr)
theorem all_pairs {L ls : List (List Int)} (hok : ∀ c ∈ ls, ClOk c) (hs : ∀ c ∈ ls, Cl L c) (hL : ∀ c ∈ L, c ∈ ls) (hp : ∀ k i, k < ls.length → i < k → PairD ls i k) (c : List Int) : c ∈ ls ↔ Cl L c := by
  refine ⟨hs c, fun h => h.least (S := fun c => c ∈ ls) hL fun c d r v hc hd hv hr => ?_⟩
  obtain ⟨a, ha, rfl⟩ := List.getElem_of_mem hc
  obtain ⟨b, hb, rfl⟩ := List.getElem_of_mem hd
  rcases Nat.lt_trichotomy a b with hab | hab | hab
  · exact hp b a hb hab r v hv (.inl (by rw [gt_eq ha, gt_eq hb]; exact hr))
  · subst hab
    have := resC_one (hok _ hc) (v := (v : Int)) (d := ls[a]) (by rw [hr]; simp)
    rw [hr] at this; cases this
  · exact hp a b ha hab r v hv (.inr (by rw [gt_eq ha, gt_eq hb]; exact hr))
theorem nodup_len {ls : List (List Int)} (h : ls.Nodup) (hok : ∀ c ∈ ls, ClOk c) : ls.length ≤ 729 := by
  have := nodup_bound 729 (ls.map code3) (by
    rw [List.nodup_iff_pairwise_ne, List.pairwise_map]
    refine List.Pairwise.imp_of_mem ?_ (List.nodup_iff_pairwise_ne.1 h)
    intro a b ha hb hne e
    exact hne (code3_inj (hok a ha) (hok b hb) e)) (by
    intro x hx
    obtain ⟨c, hc, rfl⟩ := List.mem_map.1 hx
    exact code3_lt (hok c hc))
  simpa using this
/-- The closure in order. -/
theorem closure_set {L A : List (List Int)} (h : ∀ c, c ∈ A ↔ Cl L c) {B : List (List Int)} (k : ∀ c, c ∈ B ↔ Cl L c) : setA lessB A = setA lessB B := by
  refine incA_ext ordLs (inc_setA ordLs A) (inc_setA ordLs B) fun c => ?_
  rw [mem_setA ordLs, mem_setA ordLs, h, k]
end Go.Vc
namespace Go.Proofs.YtfadcafacpaldaaGreatDoor
open Go.Vc
/-- Rows of clauses of the call's own. -/
structure RwC (lo : Nat) (w : World) (v : Value) (P : List VL) : Prop where
  row : Ow lo t_Si64 w v (P.map Prod.fst)
  own : ∀ p ∈ P, Ow lo t_i64 w p.1 (ints p.2)
theorem RwC.ext {lo : Nat} {w w' : World} {v : Value} {P : List VL} (h : RwC lo w v P) (x : Ext w w') : RwC lo w' v P := ⟨h.row.ext x, fun p hp => (h.own p hp).ext x⟩
theorem RwC.mono {lo lo' : Nat} {w : World} {v : Value} {P : List VL} (h : RwC lo w v P) (x : lo' ≤ lo) : RwC lo' w v P := ⟨h.row.mono x, fun p hp => (h.own p hp).mono x⟩
theorem RwC.evL {lo : Nat} {w : World} {v : Value} {P : List VL} (h : RwC lo w v P) : evL P = P.map Prod.fst := List.map_congr_left fun p hp => encV_eq (h.own p hp).cell
theorem RwC.nil (lo : Nat) (w : World) : RwC lo w (.slice none 0 0) [] := ⟨Ow.nil _ _ _, fun p hp => by cases hp⟩
theorem RwC.app {lo : Nat} {w : World} {v u : Value} {P : List VL} {c : List Int} {K : Value → World → Prop} (h : RwC lo w v P) (hu : Ow lo t_i64 w u (ints c)) (hn : P.length ≤ 100000) (hlo : lo ≤ w.heap.size)
    (hK : ∀ v' w', RwC lo w' v' (P ++ [(u, c)]) → Ch (fun b => v.ownBlock = some b) w w' → (v'.ownBlock = v.ownBlock ∨ ∃ b, v'.ownBlock = some b ∧ w.heap.size ≤ b) → K v' w') :
    xBs t_Si64 (Value.cells (.slice none 0 0)) 1 1 [(0, u)] w fun y w1 => xOp Tryz.prog (Builtin.append_ #[t_SSi64, t_SSi64] t_SSi64 #[v, y]) w1 K := by
  refine iApp1A u_SSi64 i_SSi64 rfl h.row hu.cell (by rw [List.length_map]; omega) (by rw [List.length_map]; omega) hlo fun v' w' ho hg hat => ?_
  have hch := grown_ch (S := fun b => v.ownBlock = some b) hg fun c hc => hc
  have keep : ∀ {u : Value} {xs : List Value}, Ow lo t_i64 w u xs → Ow lo t_i64 w' u xs := fun ho => ho.ch hch fun c hc hc' => ho.ne_ow h.row (by decide) hc hc'
  refine hK v' w' ⟨by rw [List.map_append]; exact ho, fun p hp => ?_⟩ hch hat
  rcases List.mem_append.1 hp with hp | hp
  · exact keep (h.own p hp)
  · simp at hp; subst hp; exact keep hu
theorem ok_impl_resolvents {va vb : Value} {w : World} {c d : List Int} (hs : SlI w va c) (hd : SlI w vb d) (hc : ClOk c) (hdd : ClOk d) :
    Cal Tryz.prog f_impl_resolvents #[va, vb] w fun r w' => Ext w w' ∧ ∃ P : List VL, RwC w.heap.size w' r P ∧ P.map Prod.snd = setA lessB (resSK c d 6) := by
  apply c_impl_resolvents; unfold S_impl_resolvents
  refine iLp (fun s : Nat × Value => [s.2, .int .i64 (s.1 : Int)]) (fun s w' => s.1 ≤ 6 ∧ Ext w w' ∧ ∃ P : List VL, RwC w.heap.size w' s.2 P ∧ P.map Prod.snd = resSK c d s.1) (fun s => 6 - s.1) (0, .slice none 0 0) rfl ⟨Nat.zero_le _, Ext.refl _, [], RwC.nil _ _, rfl⟩ ?_
  rintro ⟨v, u⟩ w2 Kn ⟨hv, x2, P, hP, hPs⟩ hKn
  have hv : v ≤ 6 := hv
  have x2 : Ext w w2 := x2
  have hP : RwC w.heap.size w2 u P := hP
  have hPs : P.map Prod.snd = resSK c d v := hPs
  have hPl : P.length ≤ 6 := by have := resSK_len c d v; rw [← hPs, List.length_map] at this; omega
  intro _
  simp only [gx]
  refine iLt (iCndP (fun h3 => ?_) (fun h3 => ?_))
  · have hv6 : v < 6 := by omega
    refine iCall ((ok_impl_resolve (hs.ext x2) (hd.ext x2) hc hdd v hv6).mono ?_)
    rintro _ w3 ⟨x3, uv, rfl, hres⟩
    refine iE20 (iE21 ?_)
    have hsc := resSK_succ c d v
    have hP3 := hP.ext x3
    cases hr : resC c d v with
    | none =>
      refine iCndF rfl ?_
      refine iAdd (by omega) ?_
      rw [hr] at hsc
      exact hKn (v + 1, u) _ ⟨by show v + 1 ≤ 6; omega, x2.trans x3, P, hP3, by show _ = resSK c d (v + 1); rw [hsc, hPs, List.append_nil]⟩ (by show 6 - (v + 1) < 6 - v; omega)
    | some r =>
      refine iCndT rfl ?_
      rw [hr] at hsc hres
      refine RwC.app hP3 ((hres r rfl).mono x2.size) (by omega) (x2.trans x3).size fun u' w4 hP4 hch hat => ?_
      refine iAdd (by omega) ?_
      exact hKn (v + 1, u') _ ⟨by show v + 1 ≤ 6; omega, (x2.trans x3).thenCh hch fun c hc => (hP3.row.blk c hc).1, _, hP4, by show _ = resSK c d (v + 1); rw [hsc, List.map_append, hPs]; rfl⟩ (by show 6 - (v + 1) < 6 - v; omega)
  · obtain rfl : v = 6 := by omega
    refine iCall ((ok_impl_sortedLists (L := P) (by rw [hP.evL]; exact hP.row) (fun p hp => by rw [encV_eq (hP.own p hp).cell]; exact (hP.own p hp).mono (Nat.zero_le _)) (by omega)).mono ?_)
    rintro r w3 ⟨M, hM, hch, hMs, L', hp, hsub⟩
    have hmem : ∀ p ∈ M, p ∈ P := fun p h => hp.subset (hsub.subset h)
    have hMo : ∀ p ∈ M, Ow w.heap.size t_i64 w3 p.1 (ints p.2) := fun p h => (hP.own p (hmem p h)).ch hch fun c hc hc' => (hP.own p (hmem p h)).ne_ow hP.row (by decide) hc hc'
    refine ⟨x2.thenCh hch fun c hc => (hP.row.blk c hc).1, M, ⟨?_, hMo⟩, by rw [hMs, hPs]⟩
    have : evL M = M.map Prod.fst := List.map_congr_left fun p h => encV_eq (hMo p h).cell
    rw [← this]; exact hM
theorem ok_spec_ResolutionClosure {v : Value} {w : World} {P : List VL} (hs : RdRows w v P) (hlen : P.length ≤ 1000) (hok : ∀ p ∈ P, ClOk p.2) :
    Cal Tryz.prog f_spec_ResolutionClosure #[v] w fun r w' => Ext w w' ∧ ∃ u A, r = .tuple #[u, .int .i64 0] ∧ RdLL w.heap.size w' u (setA lessB A) ∧ ∀ c, c ∈ A ↔ Cl (P.map Prod.snd) c := by
  apply c_spec_ResolutionClosure; unfold S_spec_ResolutionClosure
  have hokL : ∀ c ∈ P.map Prod.snd, ClOk c := fun c hc => by obtain ⟨p, hp, rfl⟩ := List.mem_map.1 hc; exact hok p hp
  refine iRet (ok_spec_l04All hs) fun w1 x1 => ?_
  rw [decide_eq_true hok]
  refine iNot (iCndF rfl ?_)
  refine iBs0 fun u0 w2 _ x2 ho2 => ?_
  have hX2 := x1.trans x2
  refine iCall ((ok_spec_l04Grown (hs.ext hX2) (by omega) hok true).mono ?_)
  rintro r3 w3 ⟨bk, st, hG, hst⟩
  have hX3 := hX2.trans hG.ext
  have hrow := hG.row
  have hown := hG.own
  have hl : st.length ≤ 729 := by have := hG.inv.len; rwa [List.length_map] at this
  have hall := grownS_all hokL
  rw [← hst] at hall
  have hall : ∀ c, c ∈ (st.map fun x => x.2.c) ↔ Cl (P.map Prod.snd) c := fun c => by
    have := hall c
    unfold CS at this
    rw [List.map_map] at this
    exact this
  have hokS : ∀ x ∈ st, ClOk x.2.c := fun x hx => hG.inv.ok _ (List.mem_map_of_mem hx)
  have ho3 := (ho2.ext hG.ext).mono x1.size
  clear hG
  have hst' : st.map (fun x => x.2.c) = (st.map fun x => (x.1, x.2.c)).map Prod.snd := by rw [List.map_map]; rfl
  refine iLp (fun s : Nat × Value => [s.2, .int .i64 (s.1 : Int)]) (fun s w' => s.1 ≤ st.length ∧ Ext w w' ∧ OwK 4 w2.heap.size t_impl_Resolvent w' r3 st.length (cellsQ st) ∧ (∀ x ∈ st, Ow w.heap.size t_i64 w' x.1 (ints x.2.c)) ∧ RwC w.heap.size w' s.2 ((st.take s.1).map fun x => (x.1, x.2.c))) (fun s => st.length - s.1) (0, u0) rfl
    ⟨Nat.zero_le _, hX3, hrow, fun x hx => (hown x hx).mono hX2.size, ⟨by simpa using ho3, fun p hp => by simp at hp⟩⟩ ?_
  rintro ⟨k, u⟩ w5 Kn ⟨hk, x5, hr5, hw5, hR5⟩ hKn
  have hk : k ≤ st.length := hk
  have x5 : Ext w w5 := x5
  have hR5 : RwC w.heap.size w5 u ((st.take k).map fun x => (x.1, x.2.c)) := hR5
  intro _
  simp only [gx]
  refine iLenK hr5.sl ?_
  refine iLt (iCndP (fun h6 => ?_) (fun h6 => ?_))
  · have hk1 : k < st.length := by omega
    have hm : gt st k ∈ st := by rw [gt_eq hk1]; exact List.getElem_mem hk1
    refine iFldQ (f := 0) (x := (gt st k).1) hr5.sl hk1 (by decide) (by rw [cellsQ_at hk1 0 (by decide)]; rfl) ?_
    refine RwC.app hR5 (hw5 _ hm) (by rw [List.length_map, List.length_take]; omega) x5.size fun u' w6 hR6 hch hat => ?_
    refine iAdd (by omega) ?_
    refine hKn (k + 1, u') _ ⟨by show k + 1 ≤ st.length; omega, x5.thenCh hch fun c hc => (hR5.row.blk c hc).1, hr5.ch hch fun c hc hS => ne_owK hR5.row hr5 (by decide) c hS hc, fun x hx => (hw5 x hx).ch hch fun c hc hS => (hw5 x hx).ne_ow hR5.row (by decide) hc hS, ?_⟩ (by show st.length - (k + 1) < st.length - k; omega)
    show RwC w.heap.size w6 u' ((st.take (k + 1)).map _)
    rw [List.take_succ_eq_append_getElem hk1, List.map_append, ← gt_eq hk1]
    exact hR6
  · obtain rfl : k = st.length := by omega
    have hR5 : RwC w.heap.size w5 u ((st.take st.length).map fun x => (x.1, x.2.c)) := hR5
    rw [List.take_length] at hR5
    refine iCall ((ok_spec_l04Sorted (P := st.map fun x => (x.1, x.2.c)) hR5.row.sl (fun p hp => (hR5.own p hp).sl) (fun p hp => ?_) (by rw [List.length_map]; omega)).mono ?_)
    · obtain ⟨x, hx, rfl⟩ := List.mem_map.1 hp
      have := (hokS x hx).len
      show x.2.c.length ≤ _
      omega
    · rintro r8 w8 ⟨x8, hR8⟩
      rw [← hst'] at hR8
      exact ⟨x5.trans x8, r8, st.map fun x => x.2.c, rfl, hR8.mono x5.size, hall⟩
end Go.Proofs.YtfadcafacpaldaaGreatDoor

/- Contracts: the closure under resolution in the program. Conditions: none. -/
namespace Go.Vc
/-- What is known of the clauses on the way. -/
structure ClI (L M0 ls : List (List Int)) : Prop where
  ok : ∀ c ∈ ls, ClOk c
  nd : ls.Nodup
  cl : ∀ c ∈ ls, Cl L c
  pre : M0 <+: ls
theorem ClI.len {L M0 ls : List (List Int)} (h : ClI L M0 ls) : ls.length ≤ 729 := nodup_len h.nd h.ok
theorem ClI.add {L M0 ls : List (List Int)} (h : ClI L M0 ls) {c d r : List Int} {v : Nat} (hc : c ∈ ls) (hd : d ∈ ls) (hv : v < 6) (hr : resC c d v = some r) (hn : r ∉ ls) : ClI L M0 (ls ++ [r]) := by
  have hcl : Cl L r := .res (h.cl c hc) (h.cl d hd) hv hr
  refine ⟨fun x hx => ?_, ?_, fun x hx => ?_, h.pre.trans (List.prefix_append _ _)⟩
  · rcases List.mem_append.1 hx with hx | hx
    · exact h.ok x hx
    · simp at hx; subst hx; exact resC_ok hr
  · rw [List.nodup_append]
    refine ⟨h.nd, by simp, fun a ha b hb => ?_⟩
    simp at hb; subst hb
    rintro rfl; exact hn ha
  · rcases List.mem_append.1 hx with hx | hx
    · exact h.cl x hx
    · simp at hx; subst hx; exact hcl
theorem MapS.congr {w : World} {b : Nat} {S S' : Int → Prop} (h : MapS w b S) (e : ∀ x, S x ↔ S' x) : MapS w b S' := by
  have : S = S' := funext fun x => propext (e x)
  rw [← this]; exact h
end Go.Vc
namespace Go.Proofs.YtfadcafacpaldaaGreatDoor
open Go.Vc
structure ClW (lo : Nat) (w : World) (bm : Nat) (u : Value) (Q : List VL) : Prop where
  row : RwC lo w u Q
  set : MapS w bm (fun k => ∃ p ∈ Q, k = ((keyC p.2 : Nat) : Int))
  lom : lo ≤ bm
theorem ClW.ext {lo : Nat} {w w' : World} {bm : Nat} {u : Value} {Q : List VL} (h : ClW lo w bm u Q) (x : Ext w w') : ClW lo w' bm u Q := ⟨h.row.ext x, h.set.ext x, h.lom⟩
theorem ok_impl_ResolutionClosure {v : Value} {w : World} {P : List VL} (hs : RdRows w v P) (hlen : P.length ≤ 1000) (hok : ∀ p ∈ P, ClOk p.2) :
    Cal Tryz.prog f_impl_ResolutionClosure #[v] w fun r w' => Ext w w' ∧ ∃ u A M, r = .tuple #[u, .int .i64 0] ∧ RwC w.heap.size w' u M ∧ M.map Prod.snd = setA lessB A ∧ ∀ c, c ∈ A ↔ Cl (P.map Prod.snd) c := by
  apply c_impl_ResolutionClosure; unfold S_impl_ResolutionClosure
  have hokL : ∀ c ∈ P.map Prod.snd, ClOk c := fun c hc => by obtain ⟨p, hp, rfl⟩ := List.mem_map.1 hc; exact hok p hp
  refine iRet (ok_impl_areClauses hs) fun w0 x0 => ?_
  rw [decide_eq_true hok]
  refine iNot (iCndF rfl ?_)
  refine iCall ((ok_impl_copyLists (hs.ext x0) (by omega) fun p hp => by have := (hok p hp).len; omega).mono ?_)
  rintro r1 w1 ⟨h1, Q0, hQ, hQr, hQs⟩
  have hQe : evL Q0 = Q0.map Prod.fst := List.map_congr_left fun p hp => encV_eq (hQr.1 p hp).cell
  have hQl : Q0.length = P.length := by have := congrArg List.length hQs; simpa using this
  refine iCall ((ok_impl_sortedLists (L := Q0) (by rw [hQe]; exact hQ) (fun p hp => by rw [encV_eq (hQr.1 p hp).cell]; exact (hQr.1 p hp).mono (Nat.zero_le _)) (by omega)).mono ?_)
  rintro r2 w2 ⟨M, hM, hch, hMs, L', hp, hsub⟩
  have hQr2 : OwP w0.heap.size t_i64 w2 Q0 := OwP.chQ hQr hch fun p hp c hc hc' => (hQr.1 p hp).ne_ow hQ (by decide) hc hc'
  have hMr : ∀ p ∈ M, Ow w0.heap.size t_i64 w2 p.1 (ints p.2) := fun p hp' => hQr2.1 p (hp.subset (hsub.subset hp'))
  have hMe : evL M = M.map Prod.fst := List.map_congr_left fun p hp => encV_eq (hMr p hp).cell
  rw [hMe] at hM
  have hX2 : Ext w w2 := x0.trans (h1.thenCh hch fun c hc => (hQ.blk c hc).1)
  rw [hQs] at hMs
  have hRM : RwC w.heap.size w2 r2 M := RwC.mono ⟨hM, hMr⟩ x0.size
  have hI0 : ClI (P.map Prod.snd) (M.map Prod.snd) (M.map Prod.snd) := by
    have hmem : ∀ c ∈ M.map Prod.snd, c ∈ P.map Prod.snd := fun c hc => by rw [hMs] at hc; exact (mem_setA ordLs).1 hc
    exact ⟨fun c hc => hokL c (hmem c hc), by rw [hMs]; exact setA_nodup _, fun c hc => .base (hmem c hc), List.prefix_refl _⟩
  clear hQr2 hMr hMe hM hch hp hsub hQ hQr hQe hQs h1
  refine iSetMade fun bm w3 hbm x3 hm3 => ?_
  have hlo : w.heap.size ≤ bm := by have := hX2.size; omega
  have hX3 := hX2.trans x3
  have hR3 := hRM.ext x3
  refine iLenS hR3.row.sl ?_
  rw [List.length_map]
  have hMok : ∀ p ∈ M, ClOk p.2 := fun p hp => hI0.ok _ (List.mem_map_of_mem hp)
  have hMl : M.length ≤ 729 := by have := hI0.len; rwa [List.length_map] at this
  clear hRM hX2
  have hrch : ∀ {w w' : World} {lo : Nat} {u : Value} {Q : List VL}, RwC lo w u Q → ∀ {b : Nat}, Ch (fun c => c = b) w w' → (∀ c, u.ownBlock = some c → ¬ c = b) → (∀ p ∈ Q, ∀ c, p.1.ownBlock = some c → ¬ c = b) → RwC lo w' u Q := fun h _ k a1 a2 => ⟨h.row.ch k a1, fun p hp => (h.own p hp).ch k (a2 p hp)⟩
  refine iLp (fun k : Nat => [.int .i64 (k : Int)]) (fun k w' => k ≤ M.length ∧ Ext w w' ∧ RwC w.heap.size w' r2 M ∧ MapS w' bm (fun x => ∃ p ∈ M.take k, x = ((keyC p.2 : Nat) : Int))) (fun k => M.length - k) 0 rfl ⟨Nat.zero_le _, hX3, hR3, MapS.congr hm3 fun x => by simp⟩ ?_
  rintro k w4 Kn ⟨hk, x4, hR4, hS4⟩ hKn
  intro _
  simp only [gx]
  refine iLt (iCndP (fun h5 => ?_) (fun h5 => ?_))
  · have hk1 : k < M.length := by omega
    refine iIaV hR4.row.sl (by rw [List.length_map]; exact hk1) fun p hp => ?_
    refine iLd hp ?_
    rw [List.getElem_map]
    have hm := List.getElem_mem hk1
    refine iRet (ok_impl_clauseKey (hR4.own _ hm).sl (hMok _ hm).1) fun w5 x5 => ?_
    refine iSetPut (k := t_i64) (e := 4) (hS4.ext x5) (by kernel_rfl) (by kernel_rfl) fun w6 hS6 hc6 => ?_
    refine iAdd (by omega) ?_
    have hR5 := hR4.ext x5
    have hS5 := hS4.ext x5
    refine hKn (k + 1) _ ⟨by omega, (x4.trans x5).thenCh hc6 fun c hc => by have hc : c = bm := hc; omega, hrch hR5 hc6 (hS5.ne_owI hR5.row) (fun p hp => hS5.ne_owI (hR5.own p hp)), ?_⟩ (by omega)
    refine MapS.congr hS6 fun x => ?_
    rw [List.take_succ_eq_append_getElem hk1]
    simp only [List.mem_append, List.mem_singleton]
    constructor
    · rintro (⟨p, hp, e⟩ | e)
      · exact ⟨p, .inl hp, e⟩
      · exact ⟨_, .inr rfl, e⟩
    · rintro ⟨p, hp | rfl, e⟩
      · exact .inl ⟨p, hp, e⟩
      · exact .inr e
  obtain rfl : k = M.length := by omega
  rw [List.take_length] at hS4
  clear hKn h5 hR3 hX3
  refine iLp (fun s : Value × Nat => [s.1, .int .i64 (s.2 : Int)]) (fun s w' => Ext w w' ∧ ∃ Q, ClW w.heap.size w' bm s.1 Q ∧ ClI (P.map Prod.snd) (M.map Prod.snd) (Q.map Prod.snd) ∧ s.2 ≤ Q.length ∧ ∀ k i, k < s.2 → i < k → PairD (Q.map Prod.snd) i k) (fun s => 729 - s.2) (r2, 0) rfl
    ⟨x4, M, ⟨hR4, hS4, hlo⟩, hI0, Nat.zero_le _, fun k i hk => absurd hk (Nat.not_lt_zero _)⟩ ?_
  clear hk hR4 hS4 x4
  rintro ⟨u, j⟩ w5 Kn2 ⟨x5, Q, hW5, hI5, hj, hpj⟩ hKn2
  have hj : j ≤ Q.length := hj
  have hW5 : ClW w.heap.size w5 bm u Q := hW5
  have hpj : ∀ k i, k < j → i < k → PairD (Q.map Prod.snd) i k := hpj
  have hQl : Q.length ≤ 729 := by have := hI5.len; rwa [List.length_map] at this
  intro _
  simp only [gx]
  refine iLenS hW5.row.row.sl ?_
  rw [List.length_map]
  refine iLt (iCndP (fun h6 => ?_) (fun h6 => ?_))
  · have hj1 : j < Q.length := by omega
    refine iLp (fun s : Value × Nat => [s.1, .int .i64 (s.2 : Int)]) (fun s w' => Ext w w' ∧ ∃ Q', ClW w.heap.size w' bm s.1 Q' ∧ ClI (P.map Prod.snd) (M.map Prod.snd) (Q'.map Prod.snd) ∧ Q.map Prod.snd <+: Q'.map Prod.snd ∧ s.2 ≤ j ∧ ∀ i, i < s.2 → PairD (Q'.map Prod.snd) i j) (fun s => j - s.2) (u, 0) rfl
      ⟨x5, Q, hW5, hI5, List.prefix_refl _, Nat.zero_le _, fun i hi => absurd hi (Nat.not_lt_zero _)⟩ ?_
    clear hW5 x5
    rintro ⟨u7, i⟩ w7 Kn3 ⟨x7, Q7, hW7, hI7, hpre, hi, hpi⟩ hKn3
    have hi : i ≤ j := hi
    have x7 : Ext w w7 := x7
    have hW7 : ClW w.heap.size w7 bm u7 Q7 := hW7
    have hpi : ∀ a, a < i → PairD (Q7.map Prod.snd) a j := hpi
    have hl7 : Q.length ≤ Q7.length := by have := hpre.length_le; simpa using this
    have hQl7 : Q7.length ≤ 729 := by have := hI7.len; rwa [List.length_map] at this
    intro _
    simp only [gx]
    refine iLt (iCndP (fun h8 => ?_) (fun h8 => ?_))
    · have hi1 : i < j := by omega
      have hiQ : i < Q7.length := by omega
      have hjQ : j < Q7.length := by omega
      have rd : ∀ {a : Nat} (ha : a < Q7.length) {K : Value → Prop}, K Q7[a].1 → xIa 1 u7 (.int .i64 (a : Int)) fun p => xLd w7 p K := fun ha K hK => by
        refine iIaV hW7.row.row.sl (by rw [List.length_map]; exact ha) fun p hp => ?_
        refine iLd hp ?_
        rw [List.getElem_map]; exact hK
      refine rd hiQ (rd hjQ (rd hjQ (rd hiQ ?_)))
      have hmi := List.getElem_mem hiQ
      have hmj := List.getElem_mem hjQ
      have oi := hI7.ok _ (List.mem_map_of_mem (f := Prod.snd) hmi)
      have oj := hI7.ok _ (List.mem_map_of_mem (f := Prod.snd) hmj)
      intro w9 x9
      refine iCall ((ok_impl_resolvents ((hW7.row.own _ hmi).ext x9).sl ((hW7.row.own _ hmj).ext x9).sl oi oj).mono ?_)
      rintro ra w10 ⟨x10, P1, hP1, hP1s⟩
      refine ⟨x10, fun w11 x11 => ?_⟩
      have X11 := (x9.trans x10).trans x11
      refine iCall ((ok_impl_resolvents ((hW7.row.own _ hmj).ext X11).sl ((hW7.row.own _ hmi).ext X11).sl oj oi).mono ?_)
      rintro rb w12 ⟨x12, P2, hP2, hP2s⟩
      intro w13 x13
      have hP1 := ((hP1.ext x11).ext x12).ext x13
      have hP2 := hP2.ext x13
      refine iBs2 rfl hP1.row.cell hP2.row.cell fun bc w14 hbc x14 hB14 => ?_
      intro w15 x15
      have hB15 := hB14.ext x15
      have hP1 := (hP1.ext x14).ext x15
      have hP2 := (hP2.ext x14).ext x15
      have X15 := (((X11.trans x12).trans x13).trans x14).trans x15
      have hl1 : P1.length ≤ 6 ∧ P2.length ≤ 6 := by
        constructor
        · have h1 := congrArg List.length hP1s
          have h2 := setA_len (lt := lessB) (resSK Q7[i].2 Q7[j].2 6)
          have h3 := resSK_len Q7[i].2 Q7[j].2 6
          rw [List.length_map] at h1; omega
        · have h1 := congrArg List.length hP2s
          have h2 := setA_len (lt := lessB) (resSK Q7[j].2 Q7[i].2 6)
          have h3 := resSK_len Q7[j].2 Q7[i].2 6
          rw [List.length_map] at h1; omega
      have hs15 : Sl w15 (.slice (some ⟨bc, 0, none⟩) 2 2) [ra, rb] := (show Ow 0 t_SSi64 w15 (.slice (some ⟨bc, 0, none⟩) 2 2) [ra, rb] from Ow.ofBlk hB15 (by omega) (by simp) (by omega)).sl
      refine iCall ((ok_Concat_SSi64_Si64 (vs := [ra, rb]) (ps := [(P1.length, P1.map Prod.fst), (P2.length, P2.map Prod.fst)]) hs15 rfl (fun t h1 h2 => ?_) (fun q hq y hy => ?_) (by simp; omega)).mono ?_)
      · have h1 : t < 2 := h1
        rcases t with _ | _ | t
        · exact hP1.row.sl.toKQ (List.length_map _)
        · exact hP2.row.sl.toKQ (List.length_map _)
        · omega
      · simp only [List.mem_cons, List.not_mem_nil, or_false] at hq
        rcases hq with rfl | rfl
        · obtain ⟨p, hp, rfl⟩ := List.mem_map.1 hy
          exact (hP1.own p hp).cell
        · obtain ⟨p, hp, rfl⟩ := List.mem_map.1 hy
          exact (hP2.own p hp).cell
      rintro rc w16 ⟨x16, hc16⟩
      have hR16 : Ow w15.heap.size t_Si64 w16 rc ((P1 ++ P2).map Prod.fst) := by
        show OwK 1 _ _ _ _ _ _
        rw [List.length_map, List.length_append, List.map_append]
        simpa using hc16
      have hO16 : ∀ p ∈ P1 ++ P2, Ow w.heap.size t_i64 w16 p.1 (ints p.2) := fun p hp => by
        have k9 : w.heap.size ≤ w9.heap.size := (x7.trans x9).size
        have k11 : w.heap.size ≤ w11.heap.size := (x7.trans X11).size
        rcases List.mem_append.1 hp with hp | hp
        · exact ((hP1.own p hp).ext x16).mono k9
        · exact ((hP2.own p hp).ext x16).mono k11
      have hRs : ∀ p ∈ P1 ++ P2, ∃ a b : Nat, ∃ v : Nat, a < Q7.length ∧ b < Q7.length ∧ v < 6 ∧ resC (gt (Q7.map Prod.snd) a) (gt (Q7.map Prod.snd) b) v = some p.2 := fun p hp => by
        have e : ∀ {a : Nat} (ha : a < Q7.length), gt (Q7.map Prod.snd) a = Q7[a].2 := fun ha => by rw [gt_eq (by rw [List.length_map]; exact ha), List.getElem_map]
        rcases List.mem_append.1 hp with hp | hp
        · have := List.mem_map_of_mem (f := Prod.snd) hp
          rw [hP1s, mem_setA ordLs, mem_resSK] at this
          obtain ⟨v, hv, hr⟩ := this
          exact ⟨i, j, v, hiQ, hjQ, hv, by rw [e hiQ, e hjQ]; exact hr⟩
        · have := List.mem_map_of_mem (f := Prod.snd) hp
          rw [hP2s, mem_setA ordLs, mem_resSK] at this
          obtain ⟨v, hv, hr⟩ := this
          exact ⟨j, i, v, hjQ, hiQ, hv, by rw [e hiQ, e hjQ]; exact hr⟩
      have hall : ∀ r (v : Nat), v < 6 → (resC (gt (Q7.map Prod.snd) i) (gt (Q7.map Prod.snd) j) v = some r ∨ resC (gt (Q7.map Prod.snd) j) (gt (Q7.map Prod.snd) i) v = some r) → r ∈ (P1 ++ P2).map Prod.snd := fun r v hv hr => by
        have e : ∀ {a : Nat} (ha : a < Q7.length), gt (Q7.map Prod.snd) a = Q7[a].2 := fun ha => by rw [gt_eq (by rw [List.length_map]; exact ha), List.getElem_map]
        rw [e hiQ, e hjQ] at hr
        rw [List.map_append, List.mem_append, hP1s, hP2s, mem_setA ordLs, mem_setA ordLs, mem_resSK, mem_resSK]
        rcases hr with hr | hr
        · exact .inl ⟨v, hv, hr⟩
        · exact .inr ⟨v, hv, hr⟩
      have hne16 : ∀ c, rc.ownBlock = some c → u7.ownBlock ≠ some c := fun c hc hc' => by
        have h1 := (hR16.blk c hc).1
        have h2 := (hW7.row.row.blk c hc').2
        have h3 := X15.size
        omega
      have hlR : (P1 ++ P2).length ≤ 12 := by rw [List.length_append]; omega
      generalize P1 ++ P2 = R at *
      refine iLenS hR16.sl ?_
      rw [List.length_map]
      intro w17 x17
      have hX17 := (x7.trans X15).trans (x16.trans x17)
      refine iLp (fun s : Value × Nat => [s.1, .int .i64 (s.2 : Int)]) (fun s w' => Ext w w' ∧ (Ow w15.heap.size t_Si64 w' rc (R.map Prod.fst) ∧ (∀ p ∈ R, Ow w.heap.size t_i64 w' p.1 (ints p.2)) ∧ ∀ c, rc.ownBlock = some c → s.1.ownBlock ≠ some c) ∧ ∃ Q', ClW w.heap.size w' bm s.1 Q' ∧ ClI (P.map Prod.snd) (M.map Prod.snd) (Q'.map Prod.snd) ∧ Q7.map Prod.snd <+: Q'.map Prod.snd ∧ s.2 ≤ R.length ∧ ∀ p ∈ R.take s.2, p.2 ∈ Q'.map Prod.snd) (fun s => R.length - s.2) (u7, 0) rfl
        ⟨hX17, ⟨hR16.ext x17, fun p hp => (hO16 p hp).ext x17, hne16⟩, Q7, hW7.ext (X15.trans (x16.trans x17)), hI7, List.prefix_refl _, Nat.zero_le _, fun p hp => by simp at hp⟩ ?_
      rintro ⟨u9, t⟩ w18 Kn4 ⟨x18, ⟨hR18, hO18, hne18⟩, Q9, hW9, hI9, hpre9, ht, hin⟩ hKn4
      have x18 : Ext w w18 := x18
      have ht : t ≤ R.length := ht
      have hW9 : ClW w.heap.size w18 bm u9 Q9 := hW9
      have hin : ∀ p ∈ R.take t, p.2 ∈ Q9.map Prod.snd := hin
      have hne18 : ∀ c, rc.ownBlock = some c → u9.ownBlock ≠ some c := hne18
      have hQl9 : Q9.length ≤ 729 := by have := hI9.len; rwa [List.length_map] at this
      have hl9 : Q7.length ≤ Q9.length := by have := hpre9.length_le; simpa using this
      intro _
      simp only [gx]
      refine iLt (iCndP (fun h19 => ?_) (fun h19 => ?_))
      · have ht1 : t < R.length := by omega
        refine iIaV hR18.sl (by rw [List.length_map]; exact ht1) fun p hp => ?_
        refine iLd hp ?_
        rw [List.getElem_map]
        have hmt := List.getElem_mem ht1
        obtain ⟨ia, ib, iv, ha, hb, hiv, hres⟩ := hRs _ hmt
        have okr : ClOk R[t].2 := resC_ok hres
        have hkey : (∃ p ∈ Q9, ((keyC R[t].2 : Nat) : Int) = ((keyC p.2 : Nat) : Int)) ↔ R[t].2 ∈ Q9.map Prod.snd := by
          rw [List.mem_map]
          constructor
          · rintro ⟨y, hy, e⟩
            exact ⟨y, hy, (keyC_inj okr (hI9.ok _ (List.mem_map_of_mem hy)) (by omega)).symm⟩
          · rintro ⟨y, hy, e⟩
            exact ⟨y, hy, by rw [e]⟩
        refine iRet (ok_impl_clauseKey (hO18 _ hmt).sl okr.1) fun w19 x19 => ?_
        refine iSetLook (k := t_i64) (e := 4) (hW9.set.ext x19) (by kernel_rfl) (by kernel_rfl) (zeroBool (by kernel_rfl)) (fun hno => ?_) (fun hyes => ?_)
        · refine iNot (iCndT rfl ?_)
          have hno : R[t].2 ∉ Q9.map Prod.snd := fun h => hno (hkey.2 h)
          refine iRet (ok_impl_clauseKey ((hO18 _ hmt).ext x19).sl okr.1) fun w20 x20 => ?_
          have X20 := x19.trans x20
          have hW20 := hW9.ext X20
          refine iSetPut (k := t_i64) (e := 4) hW20.set (by kernel_rfl) (by kernel_rfl) fun w21 hS21 hc21 => ?_
          have hR21 : RwC w.heap.size w21 u9 Q9 := hrch hW20.row hc21 (hW20.set.ne_owI hW20.row.row) (fun p hp => hW20.set.ne_owI (hW20.row.own p hp))
          have hv21 : Ow w15.heap.size t_Si64 w21 rc (R.map Prod.fst) := (hR18.ext X20).ch hc21 (hW20.set.ne_owI (hR18.ext X20))
          have hO21 : ∀ p ∈ R, Ow w.heap.size t_i64 w21 p.1 (ints p.2) := fun p hp => ((hO18 p hp).ext X20).ch hc21 (hW20.set.ne_owI ((hO18 p hp).ext X20))
          have X21 : Ext w w21 := (x18.trans X20).thenCh hc21 fun c hc => by have hc : c = bm := hc; omega
          refine RwC.app hR21 (hO21 _ hmt) (by omega) X21.size fun u22 w22 hR22 hch hat => ?_
          refine iAdd (by omega) ?_
          refine hKn4 (u22, t + 1) _ ⟨X21.thenCh hch fun c hc => (hR21.row.blk c hc).1, ⟨hv21.ch hch fun c hc hS => hne18 c hc hS, fun p hp => (hO21 p hp).ch hch fun c hc hS => (hO21 p hp).ne_ow hR21.row (by decide) hc hS, fun c hc => ?_⟩, Q9 ++ [(R[t].1, R[t].2)], ⟨hR22, ?_, hlo⟩, ?_, ?_, ?_, ?_⟩ (by show R.length - (t + 1) < R.length - t; omega)
          · rcases hat with hat | ⟨b, hb1, hb2⟩
            · show u22.ownBlock ≠ some c
              rw [hat]; exact hne18 c hc
            · show u22.ownBlock ≠ some c
              rw [hb1]
              have := (hv21.blk c hc).2
              intro e; injection e with e; omega
          · refine MapS.congr (hS21.ch hch fun hS => hS21.ne_owI hR21.row bm hS rfl) fun x => ?_
            simp only [List.mem_append, List.mem_singleton]
            constructor
            · rintro (⟨p, hp, e⟩ | e)
              · exact ⟨p, .inl hp, e⟩
              · exact ⟨_, .inr rfl, e⟩
            · rintro ⟨p, hp | rfl, e⟩
              · exact .inl ⟨p, hp, e⟩
              · exact .inr e
          · rw [List.map_append]
            have g : ∀ {a : Nat}, a < Q7.length → gt (Q7.map Prod.snd) a ∈ Q9.map Prod.snd := fun ha => hpre9.subset (by rw [gt_eq (by rw [List.length_map]; exact ha)]; exact List.getElem_mem _)
            exact hI9.add (g ha) (g hb) hiv hres hno
          · rw [List.map_append]; exact hpre9.trans (List.prefix_append _ _)
          · show t + 1 ≤ R.length; omega
          · intro p hp
            have hp : p ∈ R.take (t + 1) := hp
            rw [List.take_succ_eq_append_getElem ht1, List.mem_append] at hp
            rw [List.map_append, List.mem_append]
            rcases hp with hp | hp
            · exact .inl (hin p hp)
            · simp at hp; subst hp; exact .inr (by simp)
        · have hyes := hkey.1 hyes
          refine iNot (iCndF rfl ?_)
          refine iAdd (by omega) ?_
          refine hKn4 (u9, t + 1) _ ⟨x18.trans x19, ⟨hR18.ext x19, fun p hp => (hO18 p hp).ext x19, hne18⟩, Q9, hW9.ext x19, hI9, hpre9, by show t + 1 ≤ R.length; omega, fun p hp => ?_⟩ (by show R.length - (t + 1) < R.length - t; omega)
          have hp : p ∈ R.take (t + 1) := hp
          rw [List.take_succ_eq_append_getElem ht1, List.mem_append] at hp
          rcases hp with hp | hp
          · exact hin p hp
          · simp at hp; subst hp; exact hyes
      · obtain rfl : t = R.length := by omega
        rw [List.take_length] at hin
        refine iAdd (by omega) ?_
        refine hKn3 (u9, i + 1) _ ⟨x18, Q9, hW9, hI9, hpre.trans hpre9, by show i + 1 ≤ j; omega, fun a ha => ?_⟩ (by show j - (i + 1) < j - i; omega)
        have ha : a < i + 1 := ha
        by_cases hai : a < i
        · exact (hpi a hai).pre hpre9 (by rw [List.length_map]; omega) (by rw [List.length_map]; omega)
        · obtain rfl : a = i := by omega
          intro r v hv hr
          rw [gt_pre hpre9 (by rw [List.length_map]; omega), gt_pre hpre9 (by rw [List.length_map]; omega)] at hr
          have := hall r v hv hr
          obtain ⟨p, hp, rfl⟩ := List.mem_map.1 this
          exact hin p hp
    · obtain rfl : i = j := by omega
      refine iAdd (by omega) ?_
      refine hKn2 (u7, i + 1) _ ⟨x7, Q7, hW7, hI7, by show i + 1 ≤ Q7.length; omega, fun k a hk ha => ?_⟩ (by show 729 - (i + 1) < 729 - i; omega)
      have hk : k < i + 1 := hk
      by_cases hki : k < i
      · exact (hpj k a hki ha).pre hpre (by rw [List.length_map]; omega) (by rw [List.length_map]; omega)
      · obtain rfl : k = i := by omega
        exact hpi a ha
  · obtain rfl : j = Q.length := by omega
    have hR := hW5.row
    refine iCall ((ok_impl_sortedLists (L := Q) (by rw [hR.evL]; exact hR.row) (fun p hp => by rw [encV_eq (hR.own p hp).cell]; exact (hR.own p hp).mono (Nat.zero_le _)) (by omega)).mono ?_)
    rintro r w6 ⟨N, hN, hch, hNs, L', hp, hsub⟩
    have hmem : ∀ p ∈ N, p ∈ Q := fun p h => hp.subset (hsub.subset h)
    have hNo : ∀ p ∈ N, Ow w.heap.size t_i64 w6 p.1 (ints p.2) := fun p h => (hR.own p (hmem p h)).ch hch fun c hc hc' => (hR.own p (hmem p h)).ne_ow hR.row (by decide) hc hc'
    refine ⟨x5.thenCh hch fun c hc => (hR.row.blk c hc).1, r, Q.map Prod.snd, N, rfl, ⟨?_, hNo⟩, hNs, fun c => ?_⟩
    · have : evL N = N.map Prod.fst := List.map_congr_left fun p h => encV_eq (hNo p h).cell
      rw [← this]; exact hN
    · refine all_pairs hI5.ok hI5.cl (fun c hc => hI5.pre.subset ?_) (fun k i hk hik => hpj k i (by rwa [List.length_map] at hk) hik) c
      rw [hMs, mem_setA ordLs]; exact hc
end Go.Proofs.YtfadcafacpaldaaGreatDoor

/- Contracts: FirstBadResolvent of the program at good steps. Conditions: none. -/
namespace Go.Vc
theorem iSlKTo {k n i : Nat} {ki : IntKind} {w : World} {v : Value} {xs : List Value} {K : Value → Prop} (hs : SlK k w v n xs) (hi : i ≤ n) (h : ∀ v', SlK k w v' i (xs.take (i * k)) → K v') : xSl k v none (some (.int ki (i : Int))) K := by
  obtain ⟨h0, a, c, rfl, h2, h3, h4⟩ := hs
  have hle : i * k ≤ n * k := Nat.mul_le_mul_right _ hi
  refine ⟨_, _, _, 0, i, rfl, ⟨ki, rfl⟩, rfl, Nat.zero_le _, by omega, ?_⟩
  refine h _ ⟨by rw [List.length_take]; omega, _, _, by rw [Nat.sub_zero], by omega, by omega, ?_⟩
  rcases Nat.eq_zero_or_pos i with hz | hz
  · exact .inl hz
  · rcases h4 with h4 | ⟨b, o, rfl, hc⟩
    · omega
    · refine .inr ⟨b, o, ?_, fun j hj => ?_⟩
      · rw [if_neg (by omega), Option.map_some]
        simp [Addr.add]
      · rw [hc j (by omega), List.getElem?_take, if_pos hj]
theorem cellsQ_take (L : List RV) (k : Nat) : (cellsQ L).take (k * 4) = cellsQ (L.take k) := by
  induction L generalizing k with
  | nil => simp [cellsQ]
  | cons x L ih =>
    cases k with
    | zero => simp [cellsQ]
    | succ k =>
      show ((csQ x ++ cellsQ L)).take ((k + 1) * 4) = csQ x ++ cellsQ (L.take k)
      rw [← ih k, show (k + 1) * 4 = (csQ x).length + k * 4 by show _ = 4 + k * 4; omega, List.take_length_add_append]
theorem getD_snd (L : List RV) (k : Nat) (hk : k < L.length) : (L.map Prod.snd).getD k default = (gt L k).2 := by
  rw [gt_eq hk]; simp [List.getD_eq_getElem?_getD, hk]
end Go.Vc
namespace Go.Proofs.YtfadcafacpaldaaGreatDoor
open Go.Vc
theorem ok_slices_ContainsFuncQ {v fv : Value} {w : World} {P : List VL} (q : List Int → Bool) (hs : RdRows w v P) (hf : ∀ p ∈ P, ∀ w', Ext w w' → callV Tryz.prog fv [p.1] w' fun u w'' => u = .bool (q p.2) ∧ Ext w' w'') (hq : ∃ p ∈ P, q p.2 = true) :
    Ret Tryz.prog f_slices_ContainsFunc_SSi64_Si64 #[v, fv] w (.bool true) := by
  have hln := hs.1.len
  rw [List.length_map] at hln
  apply c_slices_ContainsFunc_SSi64_Si64; unfold S_slices_ContainsFunc_SSi64_Si64
  refine iCall (Cal.mono (R := fun r w' => Ext w w' ∧ ∃ z : Nat, r = .int .i64 (z : Int)) ?_ ?_)
  · apply c_slices_IndexFunc_SSi64_Si64; unfold S_slices_IndexFunc_SSi64_Si64
    refine iLenS hs.1 ?_
    rw [List.length_map]
    refine iLp (fun i : Nat => [.int .i64 (i : Int)]) (fun i w' => i ≤ P.length ∧ Ext w w' ∧ ∀ j (hj : j < P.length), j < i → q P[j].2 = false) (fun i => P.length - i) 0 rfl ⟨Nat.zero_le _, Ext.refl _, fun j hj h => by omega⟩ ?_
    rintro i w2 Kn ⟨hi, h2, hno⟩ hKn
    intro _
    simp only [gx]
    refine iLt (iCndP (fun h => ?_) (fun h => ?_))
    · have hil : i < P.length := by omega
      refine iIaV (hs.ext h2).1 (by rw [List.length_map]; exact hil) fun p hp => ?_
      refine iLd hp ?_
      rw [List.getElem_map]
      refine (hf _ (List.getElem_mem hil) w2 h2).mono ?_
      rintro u w3 ⟨rfl, h23⟩
      refine iCnd (fun h3 => ⟨h2.trans h23, i, rfl⟩) (fun h3 => ?_)
      refine iAdd (by omega) ?_
      refine hKn (i + 1) _ ⟨by omega, h2.trans h23, fun j hj hji => ?_⟩ (by omega)
      by_cases e : j = i
      · subst e; exact h3
      · exact hno j hj (by omega)
    · obtain ⟨p, hp, hq⟩ := hq
      obtain ⟨j, hj, rfl⟩ := List.getElem_of_mem hp
      rw [hno j hj (by omega)] at hq; cases hq
  · rintro r w1 ⟨h1, z, rfl⟩
    refine iLe ?_
    rw [decide_eq_true (by omega)]
    exact ⟨rfl, h1⟩
theorem ok_impl_isVariableQ (x : Int) (w : World) : Ret Tryz.prog f_impl_isVariable #[.int .i64 x] w (.bool (decide (0 ≤ x ∧ x ≤ 5))) := by
  apply c_impl_isVariable; unfold S_impl_isVariable
  exact iRet (ok_impl_inRange x 0 5 w) fun w1 h1 => ⟨rfl, h1⟩
theorem ok_impl_isGoodResolvent {v0 v1 : Value} {w : World} {P : List VL} {L : List RV} {k : Nat} (hs : RdRows w v0 P) (hL : RdQ w v1 (L.take k)) (hk : k < L.length) (hx : SlI w (gt L k).1 (gt L k).2.c) (hok : ∀ x ∈ L, ClOk x.2.c) (hgood : StepOk (P.map Prod.snd) (L.map Prod.snd) k) (hbig : L.length ≤ 9223372036854775807) :
    Ret Tryz.prog f_impl_isGoodResolvent #[v0, v1, valQ (gt L k)] w (.bool true) := by
  apply c_impl_isGoodResolvent; unfold S_impl_isGoodResolvent
  have hlt : (L.take k).length = k := by rw [List.length_take]; omega
  have hm : gt L k ∈ L := by rw [gt_eq hk]; exact List.getElem_mem hk
  have hokx := hok _ hm
  unfold StepOk at hgood
  rw [getD_snd L k hk] at hgood
  generalize hX : gt L k = X at *
  obtain ⟨xv, xc, xf, xs, xu⟩ := X
  have hx : SlI w xv xc := hx
  have hokx : ClOk xc := hokx
  refine iNew fun b w1 hb x1 hB => ?_
  have hB : Blk _ w1 b [xv, .int .i64 xf, .int .i64 xs, .int .i64 xu] := hB
  rcases hgood with ⟨rfl, rfl, rfl, hmem⟩ | ⟨a, d, u, rfl, rfl, rfl, ha, hd, hu, hres⟩
  · refine iJnB true w1 (fun J hJ => ?_) (fun w2 x2 => ?_)
    · refine iFa (iLdB hB (v := .int .i64 (-1)) rfl ?_)
      refine iEq (iCndT rfl ?_)
      refine iFa (iLdB hB (v := .int .i64 (-1)) rfl ?_)
      refine iEq (iCndT rfl ?_)
      refine iFa (iLdB hB (v := .int .i64 (-1)) rfl ?_)
      exact iEq (hJ _ (Ext.refl _))
    · intro _
      refine iCndT rfl ?_
      have hX := x1.trans x2
      refine iRet (ok_slices_ContainsFuncQ (fun c => decide (c = xc)) (hs.ext hX) (fun p hp w' x' => ?_) ?_) fun w3 x3 => ⟨rfl, hX.trans x3⟩
      · refine iClo (f := f_impl_isGoodResolvent_1) rfl ?_
        show Cal Tryz.prog f_impl_isGoodResolvent_1 #[p.1, .pointer (some ⟨b, 0, none⟩)] w' _
        apply c_impl_isGoodResolvent_1; unfold S_impl_isGoodResolvent_1
        have hB' := (hB.ext x2).ext x'
        refine iFa (iLdB hB' (v := xv) rfl ?_)
        exact iRet (ok_slices_Equal_Si64_i64 (((hs.ext hX).ext x').2 _ hp) ((hx.ext hX).ext x')) fun w4 x4 => ⟨rfl, x4⟩
      · obtain ⟨p, hp, e⟩ := List.mem_map.1 hmem
        exact ⟨p, hp, decide_eq_true e⟩
  · refine iJnB false w1 (fun J hJ => ?_) (fun w2 x2 => ?_)
    · refine iFa (iLdB hB (v := .int .i64 (a : Int)) rfl ?_)
      refine iEq (iCndF (decide_eq_false (by omega)) ?_)
      exact hJ _ (Ext.refl _)
    · intro _
      refine iCndF rfl ?_
      have hX := x1.trans x2
      have hL2 := hL.ext hX
      have hB2 := hB.ext x2
      refine iLenK hL2.1 ?_
      rw [hlt]
      refine iSub (by omega) ?_
      refine iJnB false w2 (fun J hJ => ?_) (fun w6 x6 => ?_)
      · refine iFa (iLdB hB2 (v := .int .i64 (a : Int)) rfl ?_)
        refine iRet (ok_impl_inRange _ _ _ w2) fun w7 x7 => ?_
        rw [decide_eq_true (by omega)]
        refine iNot (iCndF rfl ?_)
        refine iFa (iLdB (hB2.ext x7) (v := .int .i64 (d : Int)) rfl ?_)
        refine iRet (ok_impl_inRange _ _ _ w7) fun w8 x8 => ?_
        rw [decide_eq_true (by omega)]
        refine iNot (iCndF rfl ?_)
        refine iFa (iLdB ((hB2.ext x7).ext x8) (v := .int .i64 (u : Int)) rfl ?_)
        refine iRet (ok_impl_isVariableQ _ w8) fun w9 x9 => ?_
        rw [decide_eq_true (by omega)]
        exact iNot (hJ _ ((x7.trans x8).trans x9))
      · intro _
        refine iCndF rfl ?_
        have hB6 := hB2.ext x6
        have hL6 := hL2.ext x6
        have haL : a < (L.take k).length := by omega
        have hdL : d < (L.take k).length := by omega
        have gta : ∀ {j : Nat}, j < k → gt (L.take k) j = gt L j := fun hj => by
          rw [gt_eq (by rw [List.length_take]; omega), gt_eq (by omega), List.getElem_take]
        have mem : ∀ {j : Nat}, j < k → gt L j ∈ L := fun hj => by rw [gt_eq (by omega)]; exact List.getElem_mem _
        have memT : ∀ {j : Nat}, j < k → gt L j ∈ L.take k := fun hj => by rw [← gta hj, gt_eq (by rw [List.length_take]; omega)]; exact List.getElem_mem _
        rw [getD_snd L a (by omega), getD_snd L d (by omega)] at hres
        refine iFa (iLdB hB6 (v := .int .i64 (a : Int)) rfl ?_)
        refine iFldQ (f := 0) (x := (gt L a).1) hL6.1 haL (by decide) (by rw [cellsQ_at haL 0 (by decide), gta ha]; rfl) ?_
        refine iFa (iLdB hB6 (v := .int .i64 (d : Int)) rfl ?_)
        refine iFldQ (f := 0) (x := (gt L d).1) hL6.1 hdL (by decide) (by rw [cellsQ_at hdL 0 (by decide), gta hd]; rfl) ?_
        refine iFa (iLdB hB6 (v := .int .i64 (u : Int)) rfl ?_)
        intro w10 x10
        have hL10 := hL6.ext x10
        refine iCall ((ok_impl_resolve (hL10.2 _ (memT ha)) (hL10.2 _ (memT hd)) (hok _ (mem ha)) (hok _ (mem hd)) u hu).mono ?_)
        rintro _ w11 ⟨x11, uv, rfl, hval⟩
        have hval := hval _ hres
        refine iE20 (iE21 ?_)
        intro w12 x12
        have X12 : Ext w w12 := (((hX.trans x6).trans x10).trans x11).trans x12
        refine iJnB true w12 (fun J hJ => ?_) (fun w14 x14 => fun _ => ⟨rfl, X12.trans x14⟩)
        refine iCndT (by first | (rw [hres]; rfl) | exact congrArg Option.isSome hres) ?_
        refine iFa (iLdB (((hB6.ext x10).ext x11).ext x12) (v := xv) rfl ?_)
        refine iRet (ok_slices_Equal_Si64_i64 (l := xc) (l' := xc) (hval.ext x12).sl (hx.ext X12)) fun w15 x15 => ?_
        rw [decide_eq_true rfl]
        exact hJ _ x15
theorem ok_impl_FirstBadResolvent {v0 v1 : Value} {w : World} {P : List VL} {L : List RV} (hs : RdRows w v0 P) (hokP : ∀ p ∈ P, ClOk p.2) (hL : RdQ w v1 L) (hok : ∀ x ∈ L, ClOk x.2.c) (hgood : ∀ k, k < L.length → StepOk (P.map Prod.snd) (L.map Prod.snd) k) (hbig : L.length ≤ 9223372036854775807) :
    Ret Tryz.prog f_impl_FirstBadResolvent #[v0, v1] w (.tuple #[.int .i64 (-1), .int .i64 0]) := by
  apply c_impl_FirstBadResolvent; unfold S_impl_FirstBadResolvent
  refine iRet (ok_impl_areClauses hs) fun w1 x1 => ?_
  rw [decide_eq_true hokP]
  refine iNot (iCndF rfl ?_)
  refine iLenK (hL.ext x1).1 ?_
  refine iLp (fun k : Nat => [.int .i64 (k : Int)]) (fun k w' => k ≤ L.length ∧ Ext w w') (fun k => L.length - k) 0 rfl ⟨Nat.zero_le _, x1⟩ ?_
  rintro k w3 Kn ⟨hk, x3⟩ hKn
  intro _
  simp only [gx]
  refine iLt (iCndP (fun h3 => ?_) (fun h3 => ⟨by first | trivial | rfl, x3⟩))
  have hk1 : k < L.length := by omega
  have hL3 := hL.ext x3
  have hm : gt L k ∈ L := by rw [gt_eq hk1]; exact List.getElem_mem hk1
  refine iRdQ4 hL3.1 hk1 ?_
  refine iNew fun b w4 hb x4 hB => ?_
  have hx := (hL3.2 _ hm).ext x4
  refine iStAB (n := 4) hB rfl rfl (fun y hy => ?_) fun w5 hu5 hB5 => ?_
  · simp only [List.mem_cons, List.not_mem_nil, or_false] at hy
    rcases hy with rfl | rfl | rfl | rfl
    · exact Sl.cellQ0 hx
    all_goals rfl
  have X5 : Ext w w5 := (x3.trans x4).upd hu5 (by have := x3.size; omega)
  have hL5 := hL.ext X5
  refine iSlKTo hL5.1 hk fun v' hv' => ?_
  rw [cellsQ_take] at hv'
  refine iLdA hB5 rfl ?_
  have hT : ∀ w', Ext w5 w' → RdQ w' v' (L.take k) := fun w' x' => ⟨by
    have := hv'.ext x'
    rwa [show (L.take k).length = k by rw [List.length_take]; omega], fun x hx => (hL5.2 x (List.mem_of_mem_take hx)).ext x'⟩
  refine iRetQ (fun w' x' => ok_impl_isGoodResolvent ((hs.ext X5).ext x') (hT w' x') hk1 ((hL5.2 _ hm).ext x') hok (hgood k hk1) hbig) ?_
  refine iNot ?_
  intro w6 x6
  refine iCndF rfl ?_
  refine iAdd (by omega) ?_
  exact hKn (k + 1) _ ⟨by omega, X5.trans x6⟩ (by omega)
end Go.Proofs.YtfadcafacpaldaaGreatDoor

/- Contracts: drawn sets of clauses. Conditions: none. -/
namespace Go.Vc
theorem iBs4D {w : World} {e : TypeId} {a b c d : Int} {K : Value → World → Prop} (h : ∀ bb w', bb = w.heap.size ∧ w'.heap.size = bb + 1 → Ext w w' → Blk e w' bb (ints [a, b, c, d]) → K (.slice (some ⟨bb, 0, none⟩) 4 4) w') :
    xBs e (Value.cells (.int .i64 0)) 1 4 [(0, .int .i64 a), (1, .int .i64 b), (2, .int .i64 c), (3, .int .i64 d)] w K := by
  refine ⟨#[.int .i64 a, .int .i64 b, .int .i64 c, .int .i64 d], ?_, h _ _ ⟨rfl, by simp⟩ (Ext.alloc w _) (Blk.new w #[.int .i64 a, .int .i64 b, .int .i64 c, .int .i64 d] e)⟩
  simp [Instr.fill, Value.cells, show Array.range 4 = #[0, 1, 2, 3] from rfl]
end Go.Vc
namespace Go.Proofs.YtfadcafacpaldaaGreatDoor
open Go.Vc
theorem RwC.ch {lo : Nat} {S : Nat → Prop} {w w' : World} {u : Value} {P : List VL} (h : RwC lo w u P) (k : Ch S w w') (hu : ∀ c, u.ownBlock = some c → ¬ S c) (hp : ∀ p ∈ P, ∀ c, p.1.ownBlock = some c → ¬ S c) : RwC lo w' u P := ⟨h.row.ch k hu, fun p hm => (h.own p hm).ch k (hp p hm)⟩
theorem RwC.src {lo : Nat} {e : TypeId} {w0 w w' : World} {vc u : Value} {b : Nat} {P : List VL} (h : RwC lo w u P) (hS : Src e w0 vc b w) (hne : t_i64 ≠ e) (hneS : t_Si64 ≠ e) (k : Ch (fun c => c = b) w w') : RwC lo w' u P :=
  h.ch k (fun c hc e' => hS.neOw h.row hneS (by rw [hc, e'])) (fun p hp c hc e' => hS.neOw (h.own p hp) hne (by rw [hc, e']))
theorem ok_spec_l04Clause {e : TypeId} (hne : t_i64 ≠ e) {w0 : World} {vc : Value} {bs : List Nat} (hc : SlB w0 vc bs) {b : Nat} {w : World} (hS : Src e w0 vc b w) (n : Nat) (hn : n ≤ 6) :
    Drw Tryz.prog f_spec_l04Clause #[.pointer (some ⟨b, 0, none⟩), .int .i64 (n : Int)] e w0 vc b w fun r w' => ∃ c : List Int, Ow w.heap.size t_i64 w' r (ints c) := by
  apply c_spec_l04Clause; unfold S_spec_l04Clause
  refine iBs0 fun u0 w1 _ x1 ho1 => ?_
  have hS1 := hS.later x1
  have hlow := hS.ext.size
  have app : ∀ {u : Value} {c : List Int} {x : Int} {w5 : World} {K : Value → World → Prop}, Src e w0 vc b w5 → Ch (fun c => c = b) w w5 → Ow w.heap.size t_i64 w5 u (ints c) → c.length ≤ 1000 →
      (∀ u' w', Src e w0 vc b w' → Ch (fun c => c = b) w w' → Ow w.heap.size t_i64 w' u' (ints (c ++ [x])) → K u' w') →
      xBs t_i64 (Value.cells (.int .i64 0)) 1 1 [(0, .int .i64 x)] w5 fun y w1 => xOp Tryz.prog (Builtin.append_ #[t_Si64, t_Si64] t_Si64 #[u, y]) w1 K := by
    intro u c x w5 K gS gC gO hl hK
    refine iApp1A u_Si64 i_Si64 rfl gO rfl (by rw [ints_length]; omega) (by rw [ints_length]; omega) gC.size fun v' w' ho hg hat => ?_
    have hch := grown_ch (S := fun b => u.ownBlock = some b) hg fun c hc => hc
    refine hK v' w' (gS.ch hch (fun h => gS.neOw gO hne h) fun c hc => by have := (gO.blk c hc).1; omega) (gC.trans hch fun c hc => .inr (gO.blk c hc).1) ?_
    simpa [ints] using ho
  refine iLp (fun s : Nat × Value => [s.2, .int .i64 (s.1 : Int)]) (fun s w' => s.1 ≤ n ∧ Src e w0 vc b w' ∧ Ch (fun c => c = b) w w' ∧ ∃ c : List Int, c.length ≤ s.1 ∧ Ow w.heap.size t_i64 w' s.2 (ints c)) (fun s => n - s.1) (0, u0) rfl ⟨Nat.zero_le _, hS1, x1.ch (S := fun c => c = b), [], Nat.le_refl _, ho1⟩ ?_
  rintro ⟨k, u⟩ w3 Kn ⟨hk, hS3, hC3, c, hcl, ho3⟩ hKn
  have hk : k ≤ n := hk
  have hcl : c.length ≤ k := hcl
  have ho3 : Ow w.heap.size t_i64 w3 u (ints c) := ho3
  have keep : ∀ {w w' : World} {lo : Nat} {u : Value} {xs : List Value}, Ow lo t_i64 w u xs → Src e w0 vc b w → Ch (fun c => c = b) w w' → Ow lo t_i64 w' u xs := fun h g k => h.ch k fun c hc e' => g.neOw h hne (by rw [hc, e'])
  intro _
  simp only [gx]
  refine iLt (iCndP (fun h4 => ?_) (fun h4 => ?_))
  · refine iCall ((ok_spec_l01Next hc hS3 2).mono ?_)
    rintro _ w4 ⟨⟨x, rfl, hx, _⟩, hS4, hch4⟩
    have ho4 := keep ho3 hS3 hch4
    have hC4 := ch_self hC3 hch4
    refine iEq (iCndP (fun _ => ?_) (fun _ => ?_))
    · refine iMul (by omega) ?_
      refine iCall ((ok_spec_l01Next hc hS4 2).mono ?_)
      rintro _ w5 ⟨⟨y, rfl, hy, _⟩, hS5, hch5⟩
      have hy := hy (by omega)
      refine iAdd (by omega) ?_
      refine app hS5 (ch_self hC4 hch5) (keep ho4 hS4 hch5) (by omega) fun u6 w6 hS6 hC6 ho6 => ?_
      refine iAdd (by omega) ?_
      exact hKn (k + 1, u6) _ ⟨by show k + 1 ≤ n; omega, hS6, hC6, _, by rw [List.length_append]; show c.length + 1 ≤ k + 1; omega, ho6⟩ (by show n - (k + 1) < n - k; omega)
    · refine iAdd (by omega) ?_
      exact hKn (k + 1, u) _ ⟨by show k + 1 ≤ n; omega, hS4, hC4, c, by show c.length ≤ k + 1; omega, ho4⟩ (by show n - (k + 1) < n - k; omega)
  · refine iCall ((ok_spec_l01Next hc hS3 60).mono ?_)
    rintro _ w4 ⟨⟨x, rfl, _, _⟩, hS4, hch4⟩
    have ho4 := keep ho3 hS3 hch4
    have hC4 := ch_self hC3 hch4
    refine iEq (iCndP (fun _ => ?_) (fun _ => ?_))
    · refine iBs4D fun q w5 hq x5 hB => ?_
      have hS5 := hS4.later x5
      refine iCall ((ok_spec_l01Pick hc hS5 (l := [11, 12, -1, 0]) rfl hB (by have := hS4.lt; omega) (by decide) (by decide)).mono ?_)
      rintro _ w6 ⟨⟨y, rfl, _⟩, hS6, hch6⟩
      refine app hS6 (ch_self (ch_ext hC4 x5) hch6) (keep (ho4.ext x5) hS5 hch6) (by omega) fun u7 w7 hS7 hC7 ho7 => ?_
      exact ⟨⟨_, ho7⟩, hS7, hC7⟩
    · exact ⟨⟨c, ho4⟩, hS4, hC4⟩
theorem ok_spec_l04Set {e : TypeId} (hne : t_i64 ≠ e) (hneS : t_Si64 ≠ e) {w0 : World} {vc : Value} {bs : List Nat} (hc : SlB w0 vc bs) {b : Nat} {w : World} (hS : Src e w0 vc b w) :
    Drw Tryz.prog f_spec_l04Set #[.pointer (some ⟨b, 0, none⟩)] e w0 vc b w fun r w' => ∃ P : List VL, RwC w.heap.size w' r P ∧ P.length ≤ 41 := by
  apply c_spec_l04Set; unfold S_spec_l04Set
  refine iBs0 fun u0 w1 _ x1 ho1 => ?_
  have hS1 := hS.later x1
  have hlow := hS.ext.size
  have hC1 : Ch (fun c => c = b) w w1 := x1.ch (S := fun c => c = b)
  refine iCall ((ok_spec_l01Next hc hS1 4).mono ?_)
  rintro _ w2 ⟨⟨x, rfl, hx, _⟩, hS2, hch2⟩
  have hx := hx (by omega)
  refine iAdd (by omega) ?_
  rw [show (1 : Int) + (x : Int) = ((1 + x : Nat) : Int) by omega]
  have hR1 : RwC w.heap.size w1 u0 [] := ⟨ho1, fun p hp => by cases hp⟩
  have hR2 := hR1.src hS1 hne hneS hch2
  have hC2 := ch_self hC1 hch2
  refine iCall ((ok_spec_l01Next hc hS2 9).mono ?_)
  rintro _ w3 ⟨⟨m, rfl, hm, _⟩, hS3, hch3⟩
  have hm := hm (by omega)
  have hR3 := hR2.src hS2 hne hneS hch3
  have hC3 := ch_self hC2 hch3
  have step : ∀ {u : Value} {P : List VL} {n : Nat} {w5 : World} {K : Value → World → Prop}, n ≤ 6 → Src e w0 vc b w5 → Ch (fun c => c = b) w w5 → RwC w.heap.size w5 u P → P.length ≤ 1000 →
      (∀ u' P' w', Src e w0 vc b w' → Ch (fun c => c = b) w w' → RwC w.heap.size w' u' P' → P'.length = P.length + 1 → K u' w') →
      callV Tryz.prog (.func (.func f_spec_l04Clause) #[] #[]) [.pointer (some ⟨b, 0, none⟩), .int .i64 (n : Int)] w5 fun v19 w6 => xBs t_Si64 (Value.cells (.slice none 0 0)) 1 1 [(0, v19)] w6 fun y w1 => xOp Tryz.prog (Builtin.append_ #[t_SSi64, t_SSi64] t_SSi64 #[u, y]) w1 K := by
    intro u P n w5 K hn gS gC gR hl hK
    refine iCall ((ok_spec_l04Clause hne hc gS n hn).mono ?_)
    rintro v w6 ⟨⟨c, ho⟩, hS6, hch6⟩
    have hR6 := gR.src gS hne hneS hch6
    have hC6 := ch_self gC hch6
    refine RwC.app hR6 (ho.mono gC.size) (by omega) hC6.size fun u' w7 hR7 hch hat => ?_
    refine hK u' _ w7 (hS6.ch hch (fun h => hS6.neOw hR6.row hneS h) fun c hc => by have := (hR6.row.blk c hc).1; omega) (hC6.trans hch fun c hc => .inr (hR6.row.blk c hc).1) hR7 (by simp)
  refine iLp (fun s : Value × Nat => [s.1, .int .i64 (s.2 : Int)]) (fun s w' => Src e w0 vc b w' ∧ Ch (fun c => c = b) w w' ∧ ∃ P, RwC w.heap.size w' s.1 P ∧ P.length + s.2 ≤ 8) (fun s => s.2) (u0, m) rfl ⟨hS3, hC3, [], hR3, by show 0 + m ≤ 8; omega⟩ ?_
  rintro ⟨u, k⟩ w5 Kn ⟨hS5, hC5, P, hR5, hl5⟩ hKn
  have hl5 : P.length + k ≤ 8 := hl5
  have hR5 : RwC w.heap.size w5 u P := hR5
  intro _
  simp only [gx]
  refine iLt (iCndP (fun h6 => ?_) (fun h6 => ?_))
  · refine step (by omega) hS5 hC5 hR5 (by omega) fun u' P' w' gS gC gR gl => ?_
    refine iSub (by omega) ?_
    rw [show (k : Int) - 1 = ((k - 1 : Nat) : Int) by omega]
    exact hKn (u', k - 1) _ ⟨gS, gC, P', gR, by show P'.length + (k - 1) ≤ 8; omega⟩ (by show k - 1 < k; omega)
  · refine iCall ((ok_spec_l01Next hc hS5 40).mono ?_)
    rintro _ w9 ⟨⟨y, rfl, _, _⟩, hS9, hch9⟩
    have hR9 := hR5.src hS5 hne hneS hch9
    have hC9 := ch_self hC5 hch9
    refine iEq (iCndP (fun _ => ?_) (fun _ => ?_))
    · refine iLp (fun s : Value × Nat => [s.1]) (fun s w' => Src e w0 vc b w' ∧ Ch (fun c => c = b) w w' ∧ ∃ P, RwC w.heap.size w' s.1 P ∧ P.length = s.2 ∧ s.2 ≤ 41) (fun s => 41 - s.2) (u, P.length) rfl ⟨hS9, hC9, P, hR9, rfl, by show P.length ≤ 41; omega⟩ ?_
      rintro ⟨u2, j⟩ w11 Kn2 ⟨hS11, hC11, P2, hR11, hl2, hj⟩ hKn2
      have hl2 : P2.length = j := hl2
      have hj : j ≤ 41 := hj
      have hR11 : RwC w.heap.size w11 u2 P2 := hR11
      intro _
      simp only [gx]
      refine iLenS hR11.row.sl ?_
      rw [List.length_map]
      refine iLt (iCndP (fun h12 => ?_) (fun h12 => ?_))
      · refine step (n := 6) (by omega) hS11 hC11 hR11 (by omega) fun u' P' w' gS gC gR gl => ?_
        exact hKn2 (u', j + 1) _ ⟨gS, gC, P', gR, by show P'.length = j + 1; omega, by show j + 1 ≤ 41; omega⟩ (by show 41 - (j + 1) < 41 - j; omega)
      · exact ⟨⟨P2, hR11, by omega⟩, hS11, hC11⟩
    · exact ⟨⟨P, hR9, by omega⟩, hS9, hC9⟩
theorem ok_spec_DrawRefuteClauses {vc : Value} {w : World} {bs : List Nat} (hc : SlB w vc bs) : Cal Tryz.prog f_spec_DrawRefuteClauses #[vc] w fun r w' => Ext w w' ∧ ∃ P : List VL, RwC w.heap.size w' r P ∧ P.length ≤ 41 := by
  apply c_spec_DrawRefuteClauses; unfold S_spec_DrawRefuteClauses
  refine iCall ((ok_spec_l01From hc).mono ?_)
  rintro _ w3 ⟨e, b, hne, hneS, rfl, hS3⟩
  refine iCall ((ok_spec_l04Set hne hneS hc hS3).mono ?_)
  rintro u w4 ⟨⟨P, hR, hl⟩, hS4, _⟩
  exact ⟨hS4.ext, P, hR.mono hS3.ext.size, hl⟩
end Go.Proofs.YtfadcafacpaldaaGreatDoor

/- Plain maths: the text of a formula, read again, is the formula. No program in sight. Conditions: none. -/
namespace Go.Vc
/-! ### The text read again -/
end Go.Vc

/- Contracts: formulas as lists of nodes, and the reader of texts, in the program and the reference. Conditions: none. -/
namespace Go.Vc
theorem iBsA3 {w : World} {e : TypeId} {z0 z1 a b c d x y : Value} {K : Value → World → Prop}
    (h : ∀ q w', q = w.heap.size ∧ w'.heap.size = q + 1 → Ext w w' → Blk e w' q [a, b, c, d, x, y] → K (.slice (some ⟨q, 0, none⟩) 3 3) w') :
    xBs e (Value.cells (.agg #[z0, z1])) 2 3 [(0, .agg #[a, b]), (1, .agg #[c, d]), (2, .agg #[x, y])] w K := by
  refine ⟨#[a, b, c, d, x, y], ?_, h _ _ ⟨rfl, by simp⟩ (Ext.alloc w _) (Blk.new w #[a, b, c, d, x, y] e)⟩
  simp [Instr.fill, Value.cells, show Array.range 6 = #[0, 1, 2, 3, 4, 5] from rfl]
theorem iBuild2 {x y a b : Value} {K : Value → Prop} (ha : isCell a = true) (hb : isCell b = true) (h : K (.agg #[a, b])) : xBuild #[x, y] #[(0, 1), (1, 1)] [(0, a), (1, b)] K :=
  iBuild (cs := #[a, b]) (by simp [Instr.fill, isCell_cells ha, isCell_cells hb]) h
theorem iBuild1 {x y a : Value} {K : Value → Prop} (ha : isCell a = true) (h : K (.agg #[a, y])) : xBuild #[x, y] #[(0, 1), (1, 1)] [(0, a)] K :=
  iBuild (cs := #[a, y]) (by simp [Instr.fill, isCell_cells ha]) h
end Go.Vc
namespace Go.Proofs.YtfadcafacpaldaaGreatDoor
open Go.Vc
/-- A formula in a row of the call's own. -/
abbrev FmW (lo : Nat) (w : World) (v : Value) (a : Fm) : Prop := OwK 2 lo t_impl_Node w v a.size a.cells
/-- A formula to be read. -/
abbrev FmS (w : World) (v : Value) (a : Fm) : Prop := SlK 2 w v a.size a.cells
theorem node_one {w w' : World} {b : Nat} {x y : Value} (hb : b = w.heap.size ∧ w'.heap.size = b + 1) (hB : Blk t_impl_Node w' b [x, y]) : OwK 2 w.heap.size t_impl_Node w' (.slice (some ⟨b, 0, none⟩) 1 1) 1 [x, y] := OwK.ofBlk hB (by omega) rfl (by omega)
theorem ok_impl_falsum (w : World) : Cal Tryz.prog f_impl_falsum #[] w fun v w' => Ext w w' ∧ FmW w.heap.size w' v .fls := by
  apply c_impl_falsum; unfold S_impl_falsum
  refine iBuild2 rfl rfl ?_
  refine iBsA fun b w1 hb h1 hB => ⟨h1, node_one hb hB⟩
theorem ok_impl_truth (w : World) : Cal Tryz.prog f_impl_truth #[] w fun v w' => Ext w w' ∧ FmW w.heap.size w' v (.imp .fls .fls) := by
  apply c_impl_truth; unfold S_impl_truth
  refine iBuild2 rfl rfl ?_
  refine iBuild2 rfl rfl ?_
  refine iBuild2 rfl rfl ?_
  refine iBsA3 fun b w1 hb h1 hB => ⟨h1, OwK.ofBlk hB (by omega) rfl (by decide)⟩
theorem ok_impl_variable (v : Nat) (w : World) : Cal Tryz.prog f_impl_variable #[.int .i64 (v : Int)] w fun r w' => Ext w w' ∧ FmW w.heap.size w' r (.var v) := by
  apply c_impl_variable; unfold S_impl_variable
  refine iBuild2 rfl rfl ?_
  refine iBsA fun b w1 hb h1 hB => ⟨h1, node_one hb hB⟩
theorem ok_impl_join {a b c : Fm} {k : Nat} (hc : c.cells = nd k 0 ++ a.cells ++ b.cells) (hs : c.size = 1 + a.size + b.size) {va vb : Value} {w : World} (ha : FmS w va a) (hb : FmS w vb b) (hsz : c.size ≤ 1099511627776) :
    Cal Tryz.prog f_impl_join #[.int .i64 (k : Int), va, vb] w fun r w' => Ext w w' ∧ FmW w.heap.size w' r c := by
  apply c_impl_join; unfold S_impl_join
  have hca : isCell va = true := by obtain ⟨_, _, _, h, _⟩ := ha; rw [h]; rfl
  have hcb : isCell vb = true := by obtain ⟨_, _, _, h, _⟩ := hb; rw [h]; rfl
  refine iBuild2 rfl rfl ?_
  refine iBsA fun q w1 hq h1 hB => ?_
  refine iBs3 rfl rfl hca hcb fun q2 w2 hq2 h2 hB2 => ?_
  have hx := (node_one hq hB).sl
  refine iCall ((ok_Concat_Simpl_Node_impl_Node (ps := [(1, nd k 0), (a.size, a.cells), (b.size, b.cells)]) (Sl.ofBlk (n := 3) hB2 rfl (by decide)) rfl (fun i h1' h2' => ?_) (fun p hp u hu => ?_) ?_).mono ?_)
  · match i, h1' with
    | 0, _ => exact hx.ext h2
    | 1, _ => exact (ha.ext h1).ext h2
    | 2, _ => exact (hb.ext h1).ext h2
  · simp only [List.mem_cons, List.not_mem_nil, or_false] at hp
    rcases hp with rfl | rfl | rfl
    · simp only [nd, List.mem_cons, List.not_mem_nil, or_false] at hu
      rcases hu with rfl | rfl <;> rfl
    · exact a.cells_cell _ hu
    · exact b.cells_cell _ hu
  · simp; omega
  · rintro r w3 ⟨h3, ho⟩
    refine ⟨h1.trans (h2.trans h3), ?_⟩
    have ho := ho.mono (h1.trans h2).size
    have e1 : ([(1, nd k 0), (a.size, a.cells), (b.size, b.cells)].map Prod.fst).sum = c.size := by simp [hs]; omega
    have e2 : [(1, nd k 0), (a.size, a.cells), (b.size, b.cells)].flatMap Prod.snd = c.cells := by simp [hc]
    rw [e1, e2] at ho
    exact ho
theorem ok_impl_negation {a : Fm} {va : Value} {w : World} (ha : FmS w va a) (hsz : a.size ≤ 1099511627) : Cal Tryz.prog f_impl_negation #[va] w fun r w' => Ext w w' ∧ FmW w.heap.size w' r (.imp a .fls) := by
  apply c_impl_negation; unfold S_impl_negation
  refine iCall ((ok_impl_falsum w).mono ?_)
  rintro u w1 ⟨h1, ho⟩
  refine iCall ((ok_impl_join (c := .imp a .fls) (k := 4) rfl rfl (ha.ext h1) ho.sl (by show 1 + a.size + 1 ≤ _; omega)).mono ?_)
  rintro r w2 ⟨h2, hr⟩
  exact ⟨h1.trans h2, hr.mono h1.size⟩
theorem ok_spec_l02False (w : World) : Cal Tryz.prog f_spec_l02False #[] w fun v w' => Ext w w' ∧ FmW w.heap.size w' v .fls := by
  apply c_spec_l02False; unfold S_spec_l02False
  refine iBuild1 rfl ?_
  refine iBsA fun b w1 hb h1 hB => ⟨h1, node_one hb hB⟩
theorem ok_spec_l02Var (v : Nat) (w : World) : Cal Tryz.prog f_spec_l02Var #[.int .i64 (v : Int)] w fun r w' => Ext w w' ∧ FmW w.heap.size w' r (.var v) := by
  apply c_spec_l02Var; unfold S_spec_l02Var
  refine iBuild2 rfl rfl ?_
  refine iBsA fun b w1 hb h1 hB => ⟨h1, node_one hb hB⟩
theorem ok_spec_l02Pair {a b c : Fm} {k : Nat} (hc : c.cells = nd k 0 ++ a.cells ++ b.cells) (hs : c.size = 1 + a.size + b.size) {va vb : Value} {w : World} (ha : FmS w va a) (hb : FmS w vb b) (hsz : c.size ≤ 1099511627776) :
    Cal Tryz.prog f_spec_l02Pair #[.int .i64 (k : Int), va, vb] w fun r w' => Ext w w' ∧ FmW w.heap.size w' r c := by
  apply c_spec_l02Pair; unfold S_spec_l02Pair
  refine iBuild1 rfl ?_
  refine iBsA fun q w1 hq h1 hB => ?_
  refine iAppK u_Simpl_Node i_Simpl_Node rfl (by omega) (node_one hq hB) (ha.ext h1) a.cells_cell (by omega) (by omega) h1.size fun v2 w2 ho2 hg2 _ => ?_
  have hX2 := h1.grown hg2 (fun c hc => ((node_one hq hB).blk c hc).1)
  refine iAppK u_Simpl_Node i_Simpl_Node rfl (by omega) ho2 (hb.ext hX2) b.cells_cell (by omega) (by omega) hX2.size fun v3 w3 ho3 hg3 _ => ?_
  refine ⟨hX2.grown hg3 (fun c hc => (ho2.blk c hc).1), ?_⟩
  unfold FmW
  rw [hs, hc]
  exact ho3
theorem ok_spec_l02Not {a : Fm} {va : Value} {w : World} (ha : FmS w va a) (hsz : a.size ≤ 1099511627) : Cal Tryz.prog f_spec_l02Not #[va] w fun r w' => Ext w w' ∧ FmW w.heap.size w' r (.imp a .fls) := by
  apply c_spec_l02Not; unfold S_spec_l02Not
  refine iCall ((ok_spec_l02False w).mono ?_)
  rintro u w1 ⟨h1, ho⟩
  refine iCall ((ok_spec_l02Pair (c := .imp a .fls) (k := 4) rfl rfl (ha.ext h1) ho.sl (by show 1 + a.size + 1 ≤ _; omega)).mono ?_)
  rintro r w2 ⟨h2, hr⟩
  exact ⟨h1.trans h2, hr.mono h1.size⟩
theorem ok_spec_l02True (w : World) : Cal Tryz.prog f_spec_l02True #[] w fun r w' => Ext w w' ∧ FmW w.heap.size w' r (.imp .fls .fls) := by
  apply c_spec_l02True; unfold S_spec_l02True
  refine iCall ((ok_spec_l02False w).mono ?_)
  rintro u w1 ⟨h1, ho⟩
  refine iCall ((ok_spec_l02Not ho.sl (by decide)).mono ?_)
  rintro r w2 ⟨h2, hr⟩
  exact ⟨h1.trans h2, hr.mono h1.size⟩
end Go.Proofs.YtfadcafacpaldaaGreatDoor

/- Contracts: the parts of a formula, in the program and in the reference. Conditions: none. -/
namespace Go.Vc
/-! ### Formulas by their kinds and parts -/
def Fm.kind : Fm → Nat
  | .var _ => 0
  | .fls => 1
  | .and _ _ => 2
  | .or _ _ => 3
  | .imp _ _ => 4
  | .box _ => 5
  | .dia _ => 6
def Fm.sym : Fm → Nat
  | .var v => v
  | _ => 0
def Fm.kids : Fm → List Fm
  | .and a b => [a, b]
  | .or a b => [a, b]
  | .imp a b => [a, b]
  | .box a => [a]
  | .dia a => [a]
  | _ => []
def arity (k : Nat) : Nat := if k = 2 ∨ k = 3 ∨ k = 4 then 2 else if k = 5 ∨ k = 6 then 1 else 0
def cellsL (fs : List Fm) : List Value := fs.flatMap Fm.cells
def sizeL (fs : List Fm) : Nat := (fs.map Fm.size).sum
theorem Fm.cells_kids (f : Fm) : f.cells = nd f.kind f.sym ++ cellsL f.kids := by cases f <;> simp [Fm.cells, Fm.kind, Fm.sym, Fm.kids, cellsL]
theorem Fm.size_kids (f : Fm) : f.size = 1 + sizeL f.kids := by cases f <;> simp [Fm.size, Fm.kids, sizeL] <;> omega
theorem Fm.arity_kids (f : Fm) : arity f.kind = f.kids.length := by cases f <;> rfl
theorem cellsL_len (fs : List Fm) : (cellsL fs).length = sizeL fs * 2 := by
  induction fs with
  | nil => rfl
  | cons f fs ih => simp only [cellsL, List.flatMap_cons, List.length_append, sizeL, List.map_cons, List.sum_cons] at ih ⊢; rw [f.cells_len, ih]; omega
theorem cellsL_app (a b : List Fm) : cellsL (a ++ b) = cellsL a ++ cellsL b := by simp [cellsL]
theorem sizeL_app (a b : List Fm) : sizeL (a ++ b) = sizeL a + sizeL b := by simp [sizeL]
theorem sizeL_len : ∀ gs : List Fm, gs.length ≤ sizeL gs
  | [] => Nat.zero_le _
  | a :: bs => by have := a.size_pos; have := sizeL_len bs; simp only [sizeL, List.map_cons, List.sum_cons, List.length_cons] at this ⊢; omega
/-! ### Steps -/
section
variable {P : Program} {w : World}
/-- 's[i:j:j]'. -/
theorem iSlMax {k : Nat} {t e : TypeId} {z : Option Value} {bytes : Nat} {v : Value} {n i j : Nat} {xs : List Value} {ki kj km : IntKind} {K : Value → Prop} (ht : P.underlying t = some (.slice e)) (hi0 : (P.info? e).map (fun i => (i.zero, i.size, i.bytes)) = some (z, k, bytes))
    (hs : SlK k w v n xs) (hi : i ≤ j) (hj : j ≤ n) (h : ∀ r, SlK k w r (j - i) ((xs.drop (i * k)).take ((j - i) * k)) → K r) : xR P w (Instr.sliceAt t v (some (.int ki (i : Int))) (some (.int kj (j : Int))) (some (.int km (j : Int)))) K := by
  obtain ⟨ti, hti, h3⟩ := Option.map_eq_some_iff.1 hi0
  simp only [Prod.mk.injEq] at h3
  obtain ⟨-, hsz, -⟩ := h3
  obtain ⟨h0, a, c, rfl, h2, h3, h4⟩ := hs
  have hik : i * k ≤ j * k := Nat.mul_le_mul_right _ hi
  have hjk : j * k ≤ n * k := Nat.mul_le_mul_right _ hj
  refine ⟨.slice (if j = i then a else a.map (·.add (i * k))) (j - i) (j - i), fun w' _ => ?_, h _ ⟨?_, _, _, rfl, Nat.le_refl _, by omega, ?_⟩⟩
  · have hb : (Instr.sliceBounds true n c (some (.int ki (i : Int))) (some (.int kj (j : Int))) (some (.int km (j : Int)))).run P w' = .ok (i, j, j) w' := by
      have hjc : j ≤ c := by omega
      unfold Instr.sliceBounds
      simp [Instr.sliceBound, asIntOf, hi, hjc]
    simp [Instr.sliceAt, Instr.slice, run_und ht, hb, run_size hti, hsz]
  · rw [List.length_take, List.length_drop, Nat.sub_mul]; omega
  · rcases h4 with rfl | ⟨b, o, rfl, hc⟩
    · exact .inl (by omega)
    · by_cases hz : j - i = 0
      · exact .inl hz
      · refine .inr ⟨b, o + i * k, by rw [if_neg (by omega), Option.map_some, addr_add], fun m hm => ?_⟩
        rw [Nat.sub_mul] at hm ⊢
        rw [Nat.add_assoc, hc _ (by omega), List.getElem?_take, if_pos hm, List.getElem?_drop]
/-- The number at place f of element j. -/
theorem iFld {sz f : Nat} {v x : Value} {n : Nat} {xs : List Value} {z : Int} {j : Nat} {k : IntKind} {K : Value → Prop} (hs : SlK sz w v n xs) (hz : z = (j : Int)) (h1 : j < n) (hf : f < sz) (hx : xs[j * sz + f]? = some x) (h : K x) : xIa sz v (.int k z) fun p => xFa f p fun q => xLd w q K := by
  subst hz
  refine iIaK hs h1 fun b o hc => ?_
  refine ⟨_, rfl, ?_⟩
  rw [addr_add]
  exact iLd ((hc f hf).trans hx) h
/-- Two nodes compared. -/
theorem iNeNode {t t0 t1 : TypeId} {a b c d : Int} {xo yo : Operand} {K : Value → Prop} (hu : P.underlying t = some (.struct (P.fieldsOf t))) (hp : P.stoodInHeld t = false) (hg : P.eqGuardType P.depth t = false)
    (hf : (P.fieldsOf t).toList.map (fun f => (f.name == "_", f.offset, f.type)) = [(false, 0, t0), (false, 1, t1)]) (h0 : P.underlying t0 = some (.int .i64)) (h1 : P.underlying t1 = some (.int .i64))
    (h : K (.bool (decide (¬ (a = c ∧ b = d))))) : xR P w (do eqGuard .neq t xo yo (.agg #[.int .i64 a, .int .i64 b]) (.agg #[.int .i64 c, .int .i64 d]); binOp .neq t (.agg #[.int .i64 a, .int .i64 b]) (.agg #[.int .i64 c, .int .i64 d])) K := by
  refine ⟨_, fun w' _ => ?_, h⟩
  obtain ⟨f0, f1, hl, n0, n1, o0, o1, rfl, rfl⟩ : ∃ f0 f1, (P.fieldsOf t).toList = [f0, f1] ∧ ¬ f0.name = "_" ∧ ¬ f1.name = "_" ∧ f0.offset = 0 ∧ f1.offset = 1 ∧ f0.type = t0 ∧ f1.type = t1 := by
    generalize (P.fieldsOf t).toList = l at hf
    rcases l with _ | ⟨f0, _ | ⟨f1, _ | ⟨f2, l⟩⟩⟩ <;> simp at hf
    exact ⟨f0, f1, rfl, hf.1.1, hf.2.1, hf.1.2.1, hf.2.2.1, hf.1.2.2, hf.2.2.2⟩
  have pt : ∀ (t : TypeId) (cs : Array Value) (o : Nat) (x : Value), P.underlying t = some (.int .i64) → cs[o]? = some x → (part t cs o).run P w' = .ok x w' := fun t cs o x ht hx => by
    have hg : isAgg? P t = some false := by simp [isAgg?, ht]
    simp [part, isAgg_run hg, hx]
  have eqn : ∀ (d : Nat) (t : TypeId) (a b : Int), P.underlying t = some (.int .i64) → (Op.equalIn (d + 1) t (.int .i64 a) (.int .i64 b)).run P w' = .ok (a == b) w' := fun d t a b ht => run_equalIn_int w' d t .i64 .i64 a b ht
  rw [Sem.run_bind, run_eqGuard_agg w' .neq t xo yo _ _ hg, Result.andThen_ok, run_neq_struct, run_equalIn_struct w' 9999 t _ _ hu hp, hl]
  simp only [Op.eqFields, ne_eq, n0, n1, not_false_eq_true, if_true, o0, o1, Sem.run_bind]
  rw [pt _ _ 0 (.int .i64 a) h0 rfl, Result.andThen_ok, pt _ _ 0 (.int .i64 c) h0 rfl, Result.andThen_ok, eqn 9998 _ a c h0, Result.andThen_ok]
  by_cases e1 : a = c
  · subst e1
    simp only [beq_self_eq_true, Bool.not_true, Bool.false_eq_true, if_false, Sem.run_bind]
    rw [pt _ _ 1 (.int .i64 b) h1 rfl, Result.andThen_ok, pt _ _ 1 (.int .i64 d) h1 rfl, Result.andThen_ok, eqn 9998 _ b d h1, Result.andThen_ok]
    by_cases e2 : b = d <;> simp [e2]
  · simp [e1]
end
end Go.Vc
namespace Go.Proofs.YtfadcafacpaldaaGreatDoor
open Go.Vc
theorem ok_impl_partsOf (k : Nat) (w : World) : Ret Tryz.prog f_impl_partsOf #[.int .i64 (k : Int)] w (.int .i64 (arity k : Int)) := by
  apply c_impl_partsOf; unfold S_impl_partsOf
  refine iEq ?_
  refine iJnB (decide (k = 2 ∨ k = 3 ∨ k = 4)) w (fun J hJ => ?_) (fun w2 h2 => ?_)
  · refine iCndP (fun h => ?_) (fun h => ?_)
    · rw [decide_eq_true (.inl (by omega))] at hJ
      exact hJ _ (Ext.refl _)
    · refine iEq ?_
      refine iJnB (decide (k = 2 ∨ k = 3 ∨ k = 4)) w (fun J' hJ' => ?_) (fun w4 h4 => ?_)
      · refine iCndP (fun h' => ?_) (fun h' => ?_)
        · rw [decide_eq_true (.inr (.inl (by omega)))] at hJ'
          exact hJ' _ (Ext.refl _)
        · refine iEq ?_
          rw [show decide (k = 2 ∨ k = 3 ∨ k = 4) = decide ((k : Int) = 4) from decide_eq_decide.2 (by omega)] at hJ'
          exact hJ' _ (Ext.refl _)
      · intro _
        exact hJ _ h4
  · intro _
    simp only [gx]
    refine iCndP (fun h => ?_) (fun h => ?_)
    · rw [show (arity k : Int) = 2 by unfold arity; rw [if_pos h]; rfl]
      exact ⟨by first | trivial | rfl, h2⟩
    · refine iEq ?_
      refine iJnB (decide (k = 5 ∨ k = 6)) w2 (fun J hJ => ?_) (fun w6 h6 => ?_)
      · refine iCndP (fun h' => ?_) (fun h' => ?_)
        · rw [decide_eq_true (.inl (by omega))] at hJ
          exact hJ _ (Ext.refl _)
        · refine iEq ?_
          rw [show decide (k = 5 ∨ k = 6) = decide ((k : Int) = 6) from decide_eq_decide.2 (by omega)] at hJ
          exact hJ _ (Ext.refl _)
      · intro _
        simp only [gx]
        refine iCndP (fun h' => ?_) (fun h' => ?_)
        · rw [show (arity k : Int) = 1 by unfold arity; rw [if_neg h, if_pos h']; rfl]
          exact ⟨by first | trivial | rfl, h2.trans h6⟩
        · rw [show (arity k : Int) = 0 by unfold arity; rw [if_neg h, if_neg h']; rfl]
          exact ⟨by first | trivial | rfl, h2.trans h6⟩
theorem kind_at {fs : List Fm} {f : Fm} {r xs : List Value} {i : Nat} (h : xs.drop (i * 2) = cellsL (f :: fs) ++ r) : xs[i * 2 + 0]? = some (.int .i64 (f.kind : Int)) ∧ xs[i * 2 + 1]? = some (.int .i64 (f.sym : Int)) ∧ xs.drop ((i + 1) * 2) = cellsL (f.kids ++ fs) ++ r := by
  have e : cellsL (f :: fs) ++ r = nd f.kind f.sym ++ (cellsL (f.kids ++ fs) ++ r) := by
    rw [cellsL_app]
    simp only [cellsL, List.flatMap_cons]
    rw [f.cells_kids]
    simp [cellsL]
  rw [e] at h
  refine ⟨?_, ?_, ?_⟩
  · have := congrArg (fun l => l[0]?) h
    simpa [List.getElem?_drop] using this
  · have := congrArg (fun l => l[1]?) h
    simpa [List.getElem?_drop] using this
  · have := congrArg (List.drop 2) h
    rw [List.drop_drop] at this
    rw [show (i + 1) * 2 = i * 2 + 2 by omega, this]
    rfl
theorem ok_impl_partEnd {v : Value} {n i : Nat} {xs : List Value} {f : Fm} {r : List Value} {w : World} (hs : SlK 2 w v n xs) (hx : xs.drop (i * 2) = f.cells ++ r) (hn : n ≤ 1099511627776) : Ret Tryz.prog f_impl_partEnd #[v, .int .i64 (i : Int)] w (.int .i64 ((i + f.size : Nat) : Int)) := by
  apply c_impl_partEnd; unfold S_impl_partEnd
  have hlen : xs.length = n * 2 := hs.1
  refine iLp (fun s : Nat × List Fm => [.int .i64 (s.1 : Int), .int .i64 (s.2.length : Int)]) (fun s w' => Ext w w' ∧ xs.drop (s.1 * 2) = cellsL s.2 ++ r ∧ s.1 + sizeL s.2 = i + f.size) (fun s => sizeL s.2) (i, [f]) rfl ⟨Ext.refl _, by simpa [cellsL] using hx, by simp [sizeL]⟩ ?_
  rintro ⟨j, fs⟩ w2 Kn ⟨h2, hd, hsum⟩ hKn
  have hd : xs.drop (j * 2) = cellsL fs ++ r := hd
  have hsum : j + sizeL fs = i + f.size := hsum
  intro _
  simp only [gx]
  refine iLt ?_
  cases fs with
  | nil =>
    refine iCndF (by simp) ?_
    have : j = i + f.size := by simpa [sizeL] using hsum
    exact ⟨by rw [this], h2⟩
  | cons g gs =>
    refine iCndT (by simp) ?_
    have hpos : 1 ≤ sizeL (g :: gs) := by simp only [sizeL, List.map_cons, List.sum_cons]; have := g.size_pos; omega
    have hl := congrArg List.length hd
    rw [List.length_drop, List.length_append, cellsL_len] at hl
    have hjn : j < n := by omega
    refine iLenK (hs.ext h2) ?_
    refine iLe ?_
    refine iCndP (fun h => by omega) (fun _ => ?_)
    obtain ⟨hk, -, hd'⟩ := kind_at hd
    refine iFld (hs.ext h2) rfl hjn (by decide) hk ?_
    refine iRet (ok_impl_partsOf g.kind w2) fun w3 h23 => ?_
    have har := g.arity_kids
    have hk2 : g.kids.length ≤ 2 := by cases g <;> simp [Fm.kids]
    have hgl := sizeL_len gs
    have hsg : sizeL (g :: gs) = g.size + sizeL gs := by simp [sizeL]
    refine iSub (by omega) ?_
    refine iAdd (by rw [List.length_cons]; omega) ?_
    refine iAdd (by omega) ?_
    rw [show ((g :: gs).length : Int) + ((arity g.kind : Int) - 1) = ((g.kids ++ gs).length : Int) by rw [har, List.length_append, List.length_cons]; omega]
    have hgk := g.size_kids
    exact hKn (j + 1, g.kids ++ gs) _ ⟨h2.trans h23, hd', by show j + 1 + sizeL (g.kids ++ gs) = _; rw [sizeL_app]; omega⟩ (by show sizeL (g.kids ++ gs) < sizeL (g :: gs); rw [sizeL_app]; omega)
theorem drop_one {f g : Fm} {gs : List Fm} (hk : f.kids = g :: gs) : f.cells.drop (1 * 2) = g.cells ++ cellsL gs := by
  rw [f.cells_kids, hk]; simp [cellsL]
theorem drop_two {f g h : Fm} (hk : f.kids = [g, h]) : f.cells.drop ((1 + g.size) * 2) = h.cells ++ [] ∧ f.size = 1 + g.size + h.size := by
  refine ⟨?_, by have := f.size_kids; rw [hk] at this; simp [sizeL] at this; omega⟩
  rw [f.cells_kids, hk, show (1 + g.size) * 2 = 2 + g.cells.length by rw [g.cells_len]; omega, ← List.drop_drop]
  simp [cellsL]
theorem ok_impl_part {v : Value} {n i : Nat} {xs : List Value} {f : Fm} {r : List Value} {w : World} (hs : SlK 2 w v n xs) (hx : xs.drop (i * 2) = f.cells ++ r) (hin : i + f.size ≤ n) (hn : n ≤ 1099511627776) : Cal Tryz.prog f_impl_part #[v, .int .i64 (i : Int)] w fun u w' => Ext w w' ∧ FmS w' u f := by
  apply c_impl_part; unfold S_impl_part
  refine iRet (ok_impl_partEnd hs hx hn) fun w1 h1 => ?_
  refine iRet (ok_impl_partEnd (hs.ext h1) hx hn) fun w2 h2 => ?_
  refine iSlMax u_Simpl_Node i_Simpl_Node ((hs.ext h1).ext h2) (by omega) hin fun u hu => ⟨h1.trans h2, ?_⟩
  rw [hx, Nat.add_sub_cancel_left, ← f.cells_len, List.take_left] at hu
  exact hu
theorem ok_impl_first {v : Value} {f g : Fm} {gs : List Fm} {w : World} (hs : FmS w v f) (hk : f.kids = g :: gs) (hn : f.size ≤ 1099511627776) : Cal Tryz.prog f_impl_first #[v] w fun u w' => Ext w w' ∧ FmS w' u g := by
  apply c_impl_first; unfold S_impl_first
  have hsz := f.size_kids
  rw [hk] at hsz
  simp only [sizeL, List.map_cons, List.sum_cons] at hsz
  refine iCall ((ok_impl_part (i := 1) hs (drop_one hk) (by omega) hn).mono ?_)
  rintro u w1 ⟨h1, hu⟩
  exact ⟨h1, hu⟩
theorem ok_impl_second {v : Value} {f g h : Fm} {w : World} (hs : FmS w v f) (hk : f.kids = [g, h]) (hn : f.size ≤ 1099511627776) : Cal Tryz.prog f_impl_second #[v] w fun u w' => Ext w w' ∧ FmS w' u h := by
  apply c_impl_second; unfold S_impl_second
  obtain ⟨hd, hsz⟩ := drop_two hk
  refine iRet (ok_impl_partEnd (i := 1) hs (drop_one hk) hn) fun w1 h1 => ?_
  refine iCall ((ok_impl_part (i := 1 + g.size) (hs.ext h1) hd (by omega) hn).mono ?_)
  rintro u w2 ⟨h2, hu⟩
  exact ⟨h1.trans h2, hu⟩
theorem kind_fst {w : World} {v : Value} {f : Fm} (hs : FmS w v f) : f.cells[0 * 2 + 0]? = some (.int .i64 (f.kind : Int)) ∧ f.cells[0 * 2 + 1]? = some (.int .i64 (f.sym : Int)) := by
  have _ := hs
  rw [f.cells_kids]
  simp [nd]
end Go.Proofs.YtfadcafacpaldaaGreatDoor

/- Contracts: formulas joined, literals and clauses as formulas, in the program and in the reference. Conditions: none. -/
namespace Go.Vc
/-- 'and' (2) or 'or' (3). -/
def mkF (k : Nat) (a b : Fm) : Fm := if k = 2 then .and a b else .or a b
theorem mkF_cells {k : Nat} (hk : k = 2 ∨ k = 3) (a b : Fm) : (mkF k a b).cells = nd k 0 ++ a.cells ++ b.cells := by
  rcases hk with rfl | rfl <;> rfl
theorem mkF_size (k : Nat) (a b : Fm) : (mkF k a b).size = 1 + a.size + b.size := by
  unfold mkF
  split <;> rfl
def joinF (k : Nat) : List Fm → Fm
  | [] => if k = 2 then .imp .fls .fls else .fls
  | x :: l => l.foldl (mkF k) x
theorem foldF_cells {k : Nat} (hk : k = 2 ∨ k = 3) : ∀ (l : List Fm) (x : Fm), (l.foldl (mkF k) x).cells = (List.replicate l.length (nd k 0)).flatten ++ x.cells ++ l.flatMap Fm.cells
  | [], x => by simp
  | y :: l, x => by
    rw [List.foldl_cons, foldF_cells hk l, mkF_cells hk, List.length_cons, List.replicate_succ', List.flatten_append]
    simp
theorem foldF_size (k : Nat) : ∀ (l : List Fm) (x : Fm), (l.foldl (mkF k) x).size = l.length + x.size + sizeL l
  | [], x => by simp [sizeL]
  | y :: l, x => by
    rw [List.foldl_cons, foldF_size k l, mkF_size]
    simp [sizeL]; omega
theorem sizeL_take (L : List Fm) (k : Nat) (h : k < L.length) : sizeL (L.take (k + 1)) = sizeL (L.take k) + L[k].size := by
  rw [List.take_succ_eq_append_getElem h, sizeL_app]
  simp [sizeL]
theorem sizeL_take_le (L : List Fm) (k : Nat) : sizeL (L.take k) ≤ sizeL L := by
  have := congrArg sizeL (List.take_append_drop k L)
  rw [sizeL_app] at this
  omega
/-- 'make([]T, 0, n)', elements of two cells. -/
theorem iMkXF {w : World} {e : TypeId} {z0 z1 : Value} {bytes n : Nat} {k : IntKind} {K : Value → World → Prop} (h1 : bytes * n ≤ 2 ^ 48) (h2 : (n : Int) ≤ 9223372036854775807)
    (h : ∀ v w', Ext w w' → OwK 2 w.heap.size e w' v 0 [] → K v w') : xMk e (Value.cells (.agg #[z0, z1])) 2 bytes (.int k 0) (.int k (n : Int)) w K := by
  refine ⟨k, k, 0, n, rfl, rfl, Nat.zero_le _, h2, by exact_mod_cast h1, ?_⟩
  refine h _ _ (Ext.alloc w _) ⟨rfl, .inr ⟨w.heap.size, n, _, rfl, Nat.le_refl _, heap_alloc_new w _, Nat.zero_le _, by simpa [maxLen] using (by omega : n ≤ 9223372036854775807), ?_, by simp⟩⟩
  simp
theorem OwK.ne_owF {k lo lo' : Nat} {e e' : TypeId} {w : World} {v v' : Value} {n : Nat} {xs xs' : List Value} {c : Nat} (h : OwK k lo e w v n xs) (h' : Ow lo' e' w v' xs') (hne : e ≠ e') (hc : v.ownBlock = some c) : v'.ownBlock ≠ some c := by
  intro hc'
  obtain ⟨cur, h1⟩ := h.ty hc
  obtain ⟨cur', h2⟩ := h'.ty hc'
  rw [h1] at h2
  injection h2 with hb
  injection hb with _ hb _
  exact hne hb
abbrev VF := Value × Fm
theorem iRdFF {w : World} {v : Value} {L : List VF} {j : Nat} {k : IntKind} {K : Value → Prop} (hs : Sl w v (L.map Prod.fst)) (hj : j < L.length) (h : K L[j].1) : xIa 1 v (.int k (j : Int)) fun p => xLd w p K := by
  refine iIa (j := (j : Int)) hs (by omega) (by rw [List.length_map]; omega) fun p hp => ?_
  refine iLd (hp.trans ?_) h
  rw [Int.toNat_natCast, List.getElem?_map, List.getElem?_eq_getElem hj]; rfl
def litF (l : Int) : Fm := if l % 2 = 1 then .imp (.var (l / 2).toNat) .fls else .var (l / 2).toNat
theorem litF_size (l : Int) : (litF l).size ≤ 3 := by unfold litF; split <;> simp [Fm.size]
def clauseF (c : List Int) : Fm := joinF 3 (c.map litF)
def clausesF (L : List (List Int)) : Fm := joinF 2 (L.map clauseF)
theorem joinF_size (k : Nat) (l : List Fm) : (joinF k l).size ≤ 3 + l.length + sizeL l := by
  cases l with
  | nil => show (if k = 2 then Fm.imp Fm.fls Fm.fls else Fm.fls).size ≤ _; split <;> (simp only [Fm.size]; omega)
  | cons x l =>
    show (l.foldl (mkF k) x).size ≤ _
    rw [foldF_size]
    simp [sizeL]; omega
theorem sizeL_le {l : List Fm} {m : Nat} (h : ∀ a ∈ l, a.size ≤ m) : sizeL l ≤ m * l.length := by
  induction l with
  | nil => simp [sizeL]
  | cons a l ih =>
    have := ih fun b hb => h b (List.mem_cons_of_mem _ hb)
    have := h a List.mem_cons_self
    rw [List.length_cons, Nat.mul_add, Nat.mul_one]
    simp only [sizeL, List.map_cons, List.sum_cons] at *
    omega
theorem clauseF_size (c : List Int) (hc : c.length ≤ 6) : (clauseF c).size ≤ 30 := by
  have h1 := joinF_size 3 (c.map litF)
  have h2 := sizeL_le (l := c.map litF) (m := 3) fun a ha => by obtain ⟨l, _, rfl⟩ := List.mem_map.1 ha; exact litF_size l
  rw [List.length_map] at h1 h2
  unfold clauseF
  omega
end Go.Vc
namespace Go.Proofs.YtfadcafacpaldaaGreatDoor
open Go.Vc
/-- Rows of formulas of the call's own. -/
structure RwF (lo : Nat) (w : World) (v : Value) (L : List VF) : Prop where
  row : Ow lo t_Simpl_Node w v (L.map Prod.fst)
  own : ∀ p ∈ L, FmW lo w p.1 p.2
theorem RwF.ext {lo : Nat} {w w' : World} {v : Value} {L : List VF} (h : RwF lo w v L) (x : Ext w w') : RwF lo w' v L := ⟨h.row.ext x, fun p hp => OwK.ext (h.own p hp) x⟩
theorem RwF.nil (lo : Nat) (w : World) : RwF lo w (.slice none 0 0) [] := ⟨Ow.nil _ _ _, fun p hp => by cases hp⟩
theorem RwF.app {lo : Nat} {w : World} {v u : Value} {L : List VF} {a : Fm} {K : Value → World → Prop} (h : RwF lo w v L) (hu : FmW lo w u a) (hn : L.length ≤ 100000) (hlo : lo ≤ w.heap.size)
    (hK : ∀ v' w', RwF lo w' v' (L ++ [(u, a)]) → Ch (fun b => v.ownBlock = some b) w w' → K v' w') :
    xBs t_Simpl_Node (Value.cells (.slice none 0 0)) 1 1 [(0, u)] w fun y w1 => xOp Tryz.prog (Builtin.append_ #[t_SSimpl_Node, t_SSimpl_Node] t_SSimpl_Node #[v, y]) w1 K := by
  refine iApp1A u_SSimpl_Node i_SSimpl_Node rfl h.row hu.cell (by rw [List.length_map]; omega) (by rw [List.length_map]; omega) hlo fun v' w' ho hg hat => ?_
  have hch := grown_ch (S := fun b => v.ownBlock = some b) hg fun c hc => hc
  have keep : ∀ {u : Value} {a : Fm}, FmW lo w u a → FmW lo w' u a := fun ho => OwK.ch ho hch fun c hc hc' => OwK.ne_owF ho h.row (by decide) hc hc'
  refine hK v' w' ⟨by rw [List.map_append]; exact ho, fun p hp => ?_⟩ hch
  rcases List.mem_append.1 hp with hp | hp
  · exact keep (h.own p hp)
  · simp at hp; subst hp; exact keep hu
theorem ok_impl_joinAllF {v : Value} {w : World} {L : List VF} {k : Nat} (hk : k = 2 ∨ k = 3) (hs : Sl w v (L.map Prod.fst)) (hF : ∀ p ∈ L, FmS w p.1 p.2) (hsz : sizeL (L.map Prod.snd) + L.length ≤ 100000) :
    Cal Tryz.prog f_impl_joinAll #[.int .i64 (k : Int), v] w fun r w' => Ext w w' ∧ FmW w.heap.size w' r (joinF k (L.map Prod.snd)) := by
  apply c_impl_joinAll; unfold S_impl_joinAll
  have hlen : ∀ w', Ext w w' → ∀ {K : Value → Prop}, K (.int .i64 (L.length : Nat)) → xLenS v K := fun w' x _ h => iLenS (Sl.ext hs x) (by rw [List.length_map]; exact h)
  refine hlen w (Ext.refl _) ?_
  refine iEq (iCndP (fun h => ?_) (fun h => ?_))
  · have hL : L = [] := List.length_eq_zero_iff.1 (by omega)
    subst hL
    rcases hk with rfl | rfl
    · refine iEq (iCndP (fun _ => ?_) (fun h => absurd rfl h))
      exact iCall (ok_impl_truth w)
    · refine iEq (iCndP (fun h => absurd h (by decide)) (fun _ => ?_))
      exact iCall (ok_impl_falsum w)
  · have h1 : 1 ≤ L.length := by omega
    refine hlen w (Ext.refl _) ?_
    refine iSub (by omega) ?_
    refine hlen w (Ext.refl _) ?_
    have hst : ∀ i (hi : i < L.length), sizeL ((L.map Prod.snd).take (i + 1)) = sizeL ((L.map Prod.snd).take i) + L[i].2.size := fun i hi => by
      rw [sizeL_take _ _ (by rw [List.length_map]; exact hi), List.getElem_map]
    have hle := sizeL_take_le (L.map Prod.snd)
    have e0 : ((L.length : Nat) : Int) - 1 = ((L.length - 1 + sizeL ((L.map Prod.snd).take 0) : Nat) : Int) := by simp [sizeL]; omega
    rw [e0]
    refine iLp (fun i : Nat => [.int .i64 ((L.length - 1 + sizeL ((L.map Prod.snd).take i) : Nat) : Int), .int .i64 (i : Int)]) (fun i w' => i ≤ L.length ∧ Ext w w') (fun i => L.length - i) 0 rfl ⟨Nat.zero_le _, Ext.refl _⟩ ?_
    rintro i w4 Kn ⟨hi, x4⟩ hKn
    intro _
    simp only [gx]
    refine iLt (iCndP (fun h4 => ?_) (fun h4 => ?_))
    · have hi1 : i < L.length := by omega
      refine iRdFF (Sl.ext hs x4) hi1 ?_
      refine iLenK (SlK.ext (hF _ (List.getElem_mem hi1)) x4) ?_
      have hsi := hst i hi1
      have hli := hle (i + 1)
      refine iAdd (by omega) ?_
      refine iAdd (by omega) ?_
      have e3 : ((L.length - 1 + sizeL ((L.map Prod.snd).take i) : Nat) : Int) + ((L[i].2.size : Nat) : Int) = ((L.length - 1 + sizeL ((L.map Prod.snd).take (i + 1)) : Nat) : Int) := by omega
      rw [e3]
      exact hKn (i + 1) _ ⟨by omega, x4⟩ (by omega)
    · obtain rfl : i = L.length := by omega
      have hli := hle L.length
      refine iMkXF (by omega) (by omega) fun v5 w5 x5 ho5 => ?_
      refine hlen w (Ext.refl _) ?_
      refine iSub (by omega) ?_
      rw [show ((L.length : Nat) : Int) - 1 = ((L.length - 1 : Nat) : Int) by omega]
      refine iLp (fun s : Value × Nat => [s.1, .int .i64 (s.2 : Int)]) (fun s w' => s.2 ≤ L.length - 1 ∧ Ext w4 w' ∧ OwK 2 w4.heap.size t_impl_Node w' s.1 s.2 (List.replicate s.2 (nd k 0)).flatten) (fun s => L.length - 1 - s.2) (v5, 0) rfl ⟨Nat.zero_le _, x5, ho5⟩ ?_
      rintro ⟨u, j⟩ w7 Kn2 ⟨hj, x7, ho7⟩ hKn2
      have hj : j ≤ L.length - 1 := hj
      have ho7 : OwK 2 w4.heap.size t_impl_Node w7 u j (List.replicate j (nd k 0)).flatten := ho7
      intro _
      simp only [gx]
      refine iLt (iCndP (fun h7 => ?_) (fun h7 => ?_))
      · have hj1 : j < L.length - 1 := by omega
        refine iBuild2 rfl rfl ?_
        refine iBsA fun q w8 hq x8 hB => ?_
        refine iAppK u_Simpl_Node i_Simpl_Node rfl (by omega) (OwK.ext ho7 x8) (node_one hq hB).sl (fun y hy => ?_) (by omega) (by omega) (Nat.le_trans x7.size x8.size) fun v9 w9 ho9 hg9 _ => ?_
        · simp only [List.mem_cons, List.not_mem_nil, or_false] at hy
          rcases hy with rfl | rfl <;> rfl
        refine iAdd (by omega) ?_
        refine hKn2 (v9, j + 1) _ ⟨by show j + 1 ≤ L.length - 1; omega, (x7.trans x8).grown hg9 fun c hc => (ho7.blk c hc).1, ?_⟩ (by show L.length - 1 - (j + 1) < L.length - 1 - j; omega)
        show OwK 2 _ _ w9 v9 (j + 1) (List.replicate (j + 1) (nd k 0)).flatten
        rw [List.replicate_succ', List.flatten_append]
        simpa [nd] using ho9
      · obtain rfl : j = L.length - 1 := by omega
        refine hlen w (Ext.refl _) ?_
        refine iLp (fun s : Value × Nat => [s.1, .int .i64 (s.2 : Int)]) (fun s w' => s.2 ≤ L.length ∧ Ext w4 w' ∧ OwK 2 w4.heap.size t_impl_Node w' s.1 (L.length - 1 + sizeL ((L.map Prod.snd).take s.2)) ((List.replicate (L.length - 1) (nd k 0)).flatten ++ cellsL ((L.map Prod.snd).take s.2))) (fun s => L.length - s.2) (u, 0) rfl ⟨Nat.zero_le _, x7, by simpa [sizeL, cellsL] using ho7⟩ ?_
        rintro ⟨u', m⟩ w11 Kn3 ⟨hm, x11, ho11⟩ hKn3
        have hm : m ≤ L.length := hm
        have ho11 : OwK 2 w4.heap.size t_impl_Node w11 u' (L.length - 1 + sizeL ((L.map Prod.snd).take m)) ((List.replicate (L.length - 1) (nd k 0)).flatten ++ cellsL ((L.map Prod.snd).take m)) := ho11
        intro _
        simp only [gx]
        refine iLt (iCndP (fun h11 => ?_) (fun h11 => ?_))
        · have hm1 : m < L.length := by omega
          have X11 := x4.trans x11
          refine iRdFF (Sl.ext hs X11) hm1 ?_
          have hsi := hst m hm1
          have hlm := hle (m + 1)
          refine iAppK u_Simpl_Node i_Simpl_Node rfl (by omega) ho11 (SlK.ext (hF _ (List.getElem_mem hm1)) X11) (Fm.cells_cell _) (by omega) (by omega) x11.size fun v9 w9 ho9 hg9 _ => ?_
          refine iAdd (by omega) ?_
          refine hKn3 (v9, m + 1) _ ⟨by show m + 1 ≤ L.length; omega, x11.grown hg9 fun c hc => (ho11.blk c hc).1, ?_⟩ (by show L.length - (m + 1) < L.length - m; omega)
          show OwK 2 _ _ w9 v9 (L.length - 1 + sizeL ((L.map Prod.snd).take (m + 1))) ((List.replicate (L.length - 1) (nd k 0)).flatten ++ cellsL ((L.map Prod.snd).take (m + 1)))
          have ec : cellsL ((L.map Prod.snd).take (m + 1)) = cellsL ((L.map Prod.snd).take m) ++ L[m].2.cells := by
            rw [List.take_succ_eq_append_getElem (by rw [List.length_map]; exact hm1), cellsL_app, List.getElem_map]
            simp [cellsL]
          rw [ec, hsi, ← List.append_assoc, ← Nat.add_assoc]
          exact ho9
        · obtain rfl : m = L.length := by omega
          refine ⟨x4.trans x11, ?_⟩
          rw [List.take_of_length_le (by rw [List.length_map]; exact Nat.le_refl _)] at ho11
          obtain ⟨x, l, hxl⟩ : ∃ x l, L.map Prod.snd = x :: l := by
            cases hL : L.map Prod.snd with
            | nil =>
              have := congrArg List.length hL
              rw [List.length_map, List.length_nil] at this
              omega
            | cons x l => exact ⟨x, l, rfl⟩
          have hll : L.length = l.length + 1 := by have := congrArg List.length hxl; simpa using this
          rw [hxl] at ho11 ⊢
          show OwK 2 _ _ w11 u' (l.foldl (mkF k) x).size (l.foldl (mkF k) x).cells
          rw [foldF_cells hk, foldF_size, List.append_assoc]
          have e1 : x.cells ++ l.flatMap Fm.cells = cellsL (x :: l) := by simp [cellsL]
          have e2 : l.length + x.size + sizeL l = L.length - 1 + sizeL (x :: l) := by simp [sizeL]; omega
          rw [e1, e2, show l.length = L.length - 1 by omega]
          exact OwK.mono ho11 x4.size
theorem ok_spec_l02OwnF {va : Value} {w : World} {a : Fm} (ha : FmS w va a) (hsz : a.size ≤ 1000000) : Cal Tryz.prog f_spec_l02Own #[va] w fun r w' => Ext w w' ∧ FmW w.heap.size w' r a := by
  apply c_spec_l02Own; unfold S_spec_l02Own
  refine iBsA0 fun u w1 _ x1 ho => ?_
  refine iAppK u_Simpl_Node i_Simpl_Node rfl (by omega) ho (SlK.ext ha x1) a.cells_cell (by omega) (by omega) x1.size fun v2 w2 ho2 hg2 _ => ?_
  refine ⟨x1.grown hg2 fun c hc => (ho.blk c hc).1, ?_⟩
  show OwK 2 _ _ w2 v2 _ _
  rw [Nat.zero_add, List.nil_append] at ho2
  exact ho2
theorem ok_spec_l02AllF {v : Value} {w : World} {L : List VF} {k : Nat} (hk : k = 2 ∨ k = 3) (hs : Sl w v (L.map Prod.fst)) (hF : ∀ p ∈ L, FmS w p.1 p.2) (hsz : sizeL (L.map Prod.snd) + L.length ≤ 100000) :
    Cal Tryz.prog f_spec_l02All #[.int .i64 (k : Int), v] w fun r w' => Ext w w' ∧ FmW w.heap.size w' r (joinF k (L.map Prod.snd)) := by
  apply c_spec_l02All; unfold S_spec_l02All
  have hlen : ∀ w', Ext w w' → ∀ {K : Value → Prop}, K (.int .i64 (L.length : Nat)) → xLenS v K := fun w' x _ h => iLenS (Sl.ext hs x) (by rw [List.length_map]; exact h)
  refine hlen w (Ext.refl _) ?_
  refine iEq (iCndP (fun h => ?_) (fun h => ?_))
  · have hL : L = [] := List.length_eq_zero_iff.1 (by omega)
    subst hL
    rcases hk with rfl | rfl
    · refine iEq (iCndP (fun _ => ?_) (fun h => absurd rfl h))
      exact iCall (ok_spec_l02True w)
    · refine iEq (iCndP (fun h => absurd h (by decide)) (fun _ => ?_))
      exact iCall (ok_spec_l02False w)
  · obtain ⟨x, l, rfl⟩ : ∃ x l, L = x :: l := by
      cases L with
      | nil => simp at h
      | cons x l => exact ⟨x, l, rfl⟩
    have hszx : x.2.size + sizeL (l.map Prod.snd) + l.length + 1 ≤ 100000 := by
      simp only [List.map_cons, List.length_cons, sizeL, List.sum_cons] at hsz ⊢; omega
    refine iRdFF (j := 0) hs (by simp) ?_
    show callV _ _ [x.1] w _
    refine iCall ((ok_spec_l02OwnF (hF x List.mem_cons_self) (by omega)).mono ?_)
    rintro u w3 ⟨x3, hu⟩
    have hsz' : ∀ i, i ≤ l.length → (((l.take i).map Prod.snd).foldl (mkF k) x.2).size ≤ 100000 := fun i hi => by
      rw [foldF_size, List.length_map, List.length_take, List.map_take]
      have := sizeL_take_le (l.map Prod.snd) i
      omega
    refine iLp (fun s : Value × Nat => [s.1, .int .i64 ((s.2 + 1 : Nat) : Int)]) (fun s w' => s.2 ≤ l.length ∧ Ext w w' ∧ FmW w.heap.size w' s.1 (((l.take s.2).map Prod.snd).foldl (mkF k) x.2)) (fun s => l.length - s.2) (u, 0) rfl ⟨Nat.zero_le _, x3, hu⟩ ?_
    rintro ⟨u', i⟩ w5 Kn ⟨hi, x5, hu5⟩ hKn
    have hi : i ≤ l.length := hi
    have x5 : Ext w w5 := x5
    have hu5 : FmW w.heap.size w5 u' (((l.take i).map Prod.snd).foldl (mkF k) x.2) := hu5
    intro _
    simp only [gx]
    refine hlen w5 x5 ?_
    rw [List.length_cons]
    refine iLt (iCndP (fun h5 => ?_) (fun h5 => ?_))
    · have hi1 : i < l.length := by omega
      refine iRdFF (j := i + 1) (Sl.ext hs x5) (by simp; omega) ?_
      have hm : l[i] ∈ x :: l := List.mem_cons_of_mem _ (List.getElem_mem hi1)
      have hstep : ((l.take (i + 1)).map Prod.snd).foldl (mkF k) x.2 = mkF k (((l.take i).map Prod.snd).foldl (mkF k) x.2) l[i].2 := by
        rw [List.take_succ_eq_append_getElem hi1, List.map_append, List.foldl_append]; rfl
      have hs1 := hsz' (i + 1) (by omega)
      rw [hstep] at hs1
      show callV _ _ [_, u', l[i].1] w5 _
      refine iCall ((ok_spec_l02Pair (c := mkF k _ _) (mkF_cells hk _ _) (mkF_size k _ _) hu5.sl (SlK.ext (hF _ hm) x5) (by omega)).mono ?_)
      rintro u6 w6 ⟨x6, hu6⟩
      refine iAdd (by omega) ?_
      refine hKn (u6, i + 1) _ ⟨by show i + 1 ≤ l.length; omega, x5.trans x6, ?_⟩ (by show l.length - (i + 1) < l.length - i; omega)
      show FmW w.heap.size w6 u6 (((l.take (i + 1)).map Prod.snd).foldl (mkF k) x.2)
      rw [hstep]
      exact OwK.mono hu6 x5.size
    · obtain rfl : i = l.length := by omega
      have hu5 : FmW w.heap.size w5 u' (((l.take l.length).map Prod.snd).foldl (mkF k) x.2) := hu5
      rw [List.take_length] at hu5
      exact ⟨x5, hu5⟩
end Go.Proofs.YtfadcafacpaldaaGreatDoor

/- Contracts: literals, clauses and sets of clauses as formulas, in the program and in the reference. Conditions: none. -/
namespace Go.Vc
theorem litF_eqP {l : Int} {n : Nat} (hn : l / 2 = (n : Int)) (h : l % 2 = 1) : litF l = .imp (.var n) .fls := by
  unfold litF; rw [if_pos h, hn, Int.toNat_natCast]
theorem litF_eqN {l : Int} {n : Nat} (hn : l / 2 = (n : Int)) (h : ¬ l % 2 = 1) : litF l = .var n := by
  unfold litF; rw [if_neg h, hn, Int.toNat_natCast]
theorem lits_size {c : List Int} (hc : c.length ≤ 6) : sizeL (c.map litF) ≤ 18 := by
  have h2 := sizeL_le (l := c.map litF) (m := 3) fun a ha => by obtain ⟨l, _, rfl⟩ := List.mem_map.1 ha; exact litF_size l
  rw [List.length_map] at h2
  omega
theorem clauses_size {L : List (List Int)} (hL : L.length ≤ 40) (hc : ∀ c ∈ L, c.length ≤ 6) : sizeL (L.map clauseF) ≤ 1200 := by
  have h2 := sizeL_le (l := L.map clauseF) (m := 30) fun a ha => by obtain ⟨l, hl, rfl⟩ := List.mem_map.1 ha; exact clauseF_size l (hc l hl)
  rw [List.length_map] at h2
  omega
end Go.Vc
namespace Go.Proofs.YtfadcafacpaldaaGreatDoor
open Go.Vc
theorem ok_impl_literalFormula (l : Int) (h : 0 ≤ l ∧ l ≤ 11) (w : World) : Cal Tryz.prog f_impl_literalFormula #[.int .i64 l] w fun r w' => Ext w w' ∧ FmW w.heap.size w' r (litF l) := by
  apply c_impl_literalFormula; unfold S_impl_literalFormula
  obtain ⟨n, hn⟩ : ∃ n : Nat, l / 2 = (n : Int) := ⟨(l / 2).toNat, by omega⟩
  refine iRem (by omega) (iEq (iCndP (fun h1 => ?_) (fun h1 => ?_)))
  · refine iQuo (by omega) ?_
    rw [hn, litF_eqP hn h1]
    refine iCall ((ok_impl_variable n w).mono ?_)
    rintro u w1 ⟨x1, h2⟩
    refine iCall ((ok_impl_negation h2.sl (by simp [Fm.size])).mono ?_)
    rintro u2 w2 ⟨x2, h3⟩
    exact ⟨x1.trans x2, OwK.mono h3 x1.size⟩
  · refine iQuo (by omega) ?_
    rw [hn, litF_eqN hn h1]
    exact iCall (ok_impl_variable n w)
theorem ok_impl_literalsFormula {v : Value} {w : World} {c : List Int} (hs : SlI w v c) (hc : ∀ l ∈ c, 0 ≤ l ∧ l ≤ 11) (hlen : c.length ≤ 6) :
    Cal Tryz.prog f_impl_literalsFormula #[.int .i64 3, v] w fun r w' => Ext w w' ∧ FmW w.heap.size w' r (clauseF c) := by
  apply c_impl_literalsFormula; unfold S_impl_literalsFormula
  have hcs := lits_size hlen
  refine iLenI hs ?_
  refine iLp (fun s : Nat × Value => [s.2, .int .i64 (s.1 : Int)]) (fun s w' => s.1 ≤ c.length ∧ Ext w w' ∧ ∃ L : List VF, RwF w.heap.size w' s.2 L ∧ L.map Prod.snd = (c.take s.1).map litF) (fun s => c.length - s.1) (0, .slice none 0 0) rfl ⟨Nat.zero_le _, Ext.refl _, [], RwF.nil _ _, rfl⟩ ?_
  rintro ⟨k, u⟩ w2 Kn ⟨hk, x2, L, hL, hLs⟩ hKn
  have hk : k ≤ c.length := hk
  have x2 : Ext w w2 := x2
  have hL : RwF w.heap.size w2 u L := hL
  have hLs : L.map Prod.snd = (c.take k).map litF := hLs
  have hLl : L.length = k := by have := congrArg List.length hLs; simp only [List.length_map, List.length_take] at this; omega
  intro _
  simp only [gx]
  refine iLt (iCndP (fun h3 => ?_) (fun h3 => ?_))
  · have hk1 : k < c.length := by omega
    refine iIaI (hs.ext x2) (by omega) (by omega) fun p hp => ?_
    refine iLd hp ?_
    rw [show c.getD (k : Int).toNat 0 = c[k] by simp [List.getD_eq_getElem?_getD, hk1]]
    refine iCall ((ok_impl_literalFormula c[k] (hc _ (List.getElem_mem hk1)) w2).mono ?_)
    rintro u3 w3 ⟨x3, hu3⟩
    refine RwF.app (hL.ext x3) (OwK.mono hu3 x2.size) (by omega) (x2.trans x3).size fun u4 w4 hL4 hch => ?_
    refine iAdd (by omega) ?_
    exact hKn (k + 1, u4) _ ⟨by show k + 1 ≤ c.length; omega, (x2.trans x3).thenCh hch fun c hc => ((hL.ext x3).row.blk c hc).1, _, hL4, by show _ = (c.take (k + 1)).map litF; rw [List.map_append, hLs, List.take_succ_eq_append_getElem hk1]; simp only [List.map_append]; rfl⟩ (by show c.length - (k + 1) < c.length - k; omega)
  · obtain rfl : k = c.length := by omega
    rw [List.take_length] at hLs
    refine iCall ((ok_impl_joinAllF (k := 3) (.inr rfl) hL.row.sl (fun p hp => (hL.own p hp).sl) (by rw [hLs]; omega)).mono ?_)
    rintro r5 w5 ⟨x5, h5⟩
    rw [hLs] at h5
    exact ⟨x2.trans x5, OwK.mono h5 x2.size⟩
theorem ok_impl_limited {v : Value} {w : World} {a : Fm} (hs : FmS w v a) (hsz : a.size ≤ 1000000) :
    Cal Tryz.prog f_impl_limited #[v] w fun r w' => Ext w w' ∧ ((40 < a.size ∧ r = .tuple #[.slice none 0 0, .int .i64 3]) ∨ (a.size ≤ 40 ∧ r = .tuple #[v, .int .i64 0])) := by
  apply c_impl_limited; unfold S_impl_limited
  refine iLenK hs ?_
  refine iLt (iCndP (fun h => ?_) (fun h => ?_))
  · exact ⟨Ext.refl _, .inl ⟨by omega, rfl⟩⟩
  · exact ⟨Ext.refl _, .inr ⟨by omega, rfl⟩⟩
theorem ok_impl_ClausesFormula {v : Value} {w : World} {P : List VL} (hs : RdRows w v P) (hok : ∀ p ∈ P, ClOk p.2) (hlen : P.length ≤ 40) :
    Cal Tryz.prog f_impl_ClausesFormula #[v] w fun r w' => Ext w w' ∧ ((40 < (clausesF (P.map Prod.snd)).size ∧ r = .tuple #[.slice none 0 0, .int .i64 3]) ∨ ((clausesF (P.map Prod.snd)).size ≤ 40 ∧ ∃ u, r = .tuple #[u, .int .i64 0] ∧ FmW w.heap.size w' u (clausesF (P.map Prod.snd)))) := by
  apply c_impl_ClausesFormula; unfold S_impl_ClausesFormula
  have hcs := clauses_size (L := P.map Prod.snd) (by rw [List.length_map]; exact hlen) (fun c hc => by obtain ⟨p, hp, rfl⟩ := List.mem_map.1 hc; exact (hok p hp).len)
  have hjs := joinF_size 2 ((P.map Prod.snd).map clauseF)
  simp only [List.length_map] at hjs
  refine iRet (ok_impl_areClauses hs) fun w0 x0 => ?_
  rw [decide_eq_true hok]
  refine iNot (iCndF rfl ?_)
  refine iLenS hs.1 ?_
  rw [List.length_map]
  refine iLp (fun s : Nat × Value => [s.2, .int .i64 (s.1 : Int)]) (fun s w' => s.1 ≤ P.length ∧ Ext w w' ∧ ∃ L : List VF, RwF w.heap.size w' s.2 L ∧ L.map Prod.snd = ((P.take s.1).map Prod.snd).map clauseF) (fun s => P.length - s.1) (0, .slice none 0 0) rfl ⟨Nat.zero_le _, x0, [], RwF.nil _ _, rfl⟩ ?_
  rintro ⟨k, u⟩ w2 Kn ⟨hk, x2, L, hL, hLs⟩ hKn
  have hk : k ≤ P.length := hk
  have x2 : Ext w w2 := x2
  have hL : RwF w.heap.size w2 u L := hL
  have hLs : L.map Prod.snd = ((P.take k).map Prod.snd).map clauseF := hLs
  have hLl : L.length = k := by have := congrArg List.length hLs; simp only [List.length_map, List.length_take] at this; omega
  intro _
  simp only [gx]
  refine iLt (iCndP (fun h3 => ?_) (fun h3 => ?_))
  · have hk1 : k < P.length := by omega
    refine iIaV (hs.ext x2).1 (by rw [List.length_map]; exact hk1) fun p hp => ?_
    refine iLd hp ?_
    rw [List.getElem_map]
    have hm := List.getElem_mem hk1
    refine iCall ((ok_impl_literalsFormula ((hs.ext x2).2 _ hm) (hok _ hm).1 (hok _ hm).len).mono ?_)
    rintro u3 w3 ⟨x3, hu3⟩
    refine RwF.app (hL.ext x3) (OwK.mono hu3 x2.size) (by omega) (x2.trans x3).size fun u4 w4 hL4 hch => ?_
    refine iAdd (by omega) ?_
    exact hKn (k + 1, u4) _ ⟨by show k + 1 ≤ P.length; omega, (x2.trans x3).thenCh hch fun c hc => ((hL.ext x3).row.blk c hc).1, _, hL4, by show _ = ((P.take (k + 1)).map Prod.snd).map clauseF; rw [List.map_append, hLs, List.take_succ_eq_append_getElem hk1]; simp only [List.map_append]; rfl⟩ (by show P.length - (k + 1) < P.length - k; omega)
  · obtain rfl : k = P.length := by omega
    rw [List.take_length] at hLs
    refine iCall ((ok_impl_joinAllF (k := 2) (.inl rfl) hL.row.sl (fun p hp => (hL.own p hp).sl) (by rw [hLs]; omega)).mono ?_)
    rintro r5 w5 ⟨x5, h5⟩
    rw [hLs] at h5
    have h5 : FmW w2.heap.size w5 r5 (clausesF (P.map Prod.snd)) := h5
    have hj : (clausesF (P.map Prod.snd)).size ≤ 3 + P.length + sizeL ((P.map Prod.snd).map clauseF) := hjs
    refine iCall ((ok_impl_limited h5.sl (by omega)).mono ?_)
    rintro r6 w6 ⟨x6, h6⟩
    rcases h6 with ⟨g, rfl⟩ | ⟨g, rfl⟩
    · refine iE20 (iE21 ?_)
      exact ⟨(x2.trans x5).trans x6, .inl ⟨g, rfl⟩⟩
    · refine iE20 (iE21 ?_)
      exact ⟨(x2.trans x5).trans x6, .inr ⟨g, _, rfl, OwK.mono (OwK.ext h5 x6) x2.size⟩⟩
theorem ok_spec_l04Literal (l : Int) (h : 0 ≤ l ∧ l ≤ 11) (w : World) : Cal Tryz.prog f_spec_l04Literal #[.int .i64 l] w fun r w' => Ext w w' ∧ FmW w.heap.size w' r (litF l) := by
  apply c_spec_l04Literal; unfold S_spec_l04Literal
  obtain ⟨n, hn⟩ : ∃ n : Nat, l / 2 = (n : Int) := ⟨(l / 2).toNat, by omega⟩
  refine iRem (by omega) (iEq (iCndP (fun h1 => ?_) (fun h1 => ?_)))
  · refine iQuo (by omega) ?_
    rw [hn, litF_eqP hn h1]
    refine iCall ((ok_spec_l02Var n w).mono ?_)
    rintro u w1 ⟨x1, h2⟩
    refine iCall ((ok_spec_l02Not h2.sl (by simp [Fm.size])).mono ?_)
    rintro u2 w2 ⟨x2, h3⟩
    exact ⟨x1.trans x2, OwK.mono h3 x1.size⟩
  · refine iQuo (by omega) ?_
    rw [hn, litF_eqN hn h1]
    exact iCall (ok_spec_l02Var n w)
theorem ok_spec_l04Join {v : Value} {w : World} {c : List Int} (hs : SlI w v c) (hc : ∀ l ∈ c, 0 ≤ l ∧ l ≤ 11) (hlen : c.length ≤ 6) :
    Cal Tryz.prog f_spec_l04Join #[.int .i64 3, v] w fun r w' => Ext w w' ∧ FmW w.heap.size w' r (clauseF c) := by
  apply c_spec_l04Join; unfold S_spec_l04Join
  have hcs := lits_size hlen
  refine iBs0 fun u0 w1 _ x1 ho1 => ?_
  refine iLp (fun s : Nat × Value => [s.2, .int .i64 (s.1 : Int)]) (fun s w' => s.1 ≤ c.length ∧ Ext w w' ∧ ∃ L : List VF, RwF w.heap.size w' s.2 L ∧ L.map Prod.snd = (c.take s.1).map litF) (fun s => c.length - s.1) (0, u0) rfl ⟨Nat.zero_le _, x1, [], ⟨ho1, fun p hp => by cases hp⟩, rfl⟩ ?_
  rintro ⟨k, u⟩ w2 Kn ⟨hk, x2, L, hL, hLs⟩ hKn
  have hk : k ≤ c.length := hk
  have x2 : Ext w w2 := x2
  have hL : RwF w.heap.size w2 u L := hL
  have hLs : L.map Prod.snd = (c.take k).map litF := hLs
  have hLl : L.length = k := by have := congrArg List.length hLs; simp only [List.length_map, List.length_take] at this; omega
  intro _
  simp only [gx]
  refine iLenI (hs.ext x2) ?_
  refine iLt (iCndP (fun h3 => ?_) (fun h3 => ?_))
  · have hk1 : k < c.length := by omega
    refine iIaI (hs.ext x2) (by omega) (by omega) fun p hp => ?_
    refine iLd hp ?_
    rw [show c.getD (k : Int).toNat 0 = c[k] by simp [List.getD_eq_getElem?_getD, hk1]]
    refine iCall ((ok_spec_l04Literal c[k] (hc _ (List.getElem_mem hk1)) w2).mono ?_)
    rintro u3 w3 ⟨x3, hu3⟩
    refine RwF.app (hL.ext x3) (OwK.mono hu3 x2.size) (by omega) (x2.trans x3).size fun u4 w4 hL4 hch => ?_
    refine iAdd (by omega) ?_
    exact hKn (k + 1, u4) _ ⟨by show k + 1 ≤ c.length; omega, (x2.trans x3).thenCh hch fun c hc => ((hL.ext x3).row.blk c hc).1, _, hL4, by show _ = (c.take (k + 1)).map litF; rw [List.map_append, hLs, List.take_succ_eq_append_getElem hk1]; simp only [List.map_append]; rfl⟩ (by show c.length - (k + 1) < c.length - k; omega)
  · obtain rfl : k = c.length := by omega
    rw [List.take_length] at hLs
    refine iCall ((ok_spec_l02AllF (k := 3) (.inr rfl) hL.row.sl (fun p hp => (hL.own p hp).sl) (by rw [hLs]; omega)).mono ?_)
    rintro r5 w5 ⟨x5, h5⟩
    rw [hLs] at h5
    exact ⟨x2.trans x5, OwK.mono h5 x2.size⟩
theorem ok_spec_l02Made {v : Value} {w : World} {a : Fm} (hs : FmS w v a) (hsz : a.size ≤ 1000000) :
    Cal Tryz.prog f_spec_l02Made #[v] w fun r w' => Ext w w' ∧ ((40 < a.size ∧ r = .tuple #[.slice none 0 0, .int .i64 3]) ∨ (a.size ≤ 40 ∧ r = .tuple #[v, .int .i64 0])) := by
  apply c_spec_l02Made; unfold S_spec_l02Made
  refine iLenK hs ?_
  refine iLt (iCndP (fun h => ?_) (fun h => ?_))
  · exact ⟨Ext.refl _, .inl ⟨by omega, rfl⟩⟩
  · exact ⟨Ext.refl _, .inr ⟨by omega, rfl⟩⟩
theorem ok_spec_ClausesFormula {v : Value} {w : World} {P : List VL} (hs : RdRows w v P) (hok : ∀ p ∈ P, ClOk p.2) (hlen : P.length ≤ 40) :
    Cal Tryz.prog f_spec_ClausesFormula #[v] w fun r w' => Ext w w' ∧ ((40 < (clausesF (P.map Prod.snd)).size ∧ r = .tuple #[.slice none 0 0, .int .i64 3]) ∨ ((clausesF (P.map Prod.snd)).size ≤ 40 ∧ ∃ u, r = .tuple #[u, .int .i64 0] ∧ FmW w.heap.size w' u (clausesF (P.map Prod.snd)))) := by
  apply c_spec_ClausesFormula; unfold S_spec_ClausesFormula
  have hcs := clauses_size (L := P.map Prod.snd) (by rw [List.length_map]; exact hlen) (fun c hc => by obtain ⟨p, hp, rfl⟩ := List.mem_map.1 hc; exact (hok p hp).len)
  have hjs := joinF_size 2 ((P.map Prod.snd).map clauseF)
  simp only [List.length_map] at hjs
  refine iRet (ok_spec_l04All hs) fun w0 x0 => ?_
  rw [decide_eq_true hok]
  refine iNot (iCndF rfl ?_)
  refine iLenS hs.1 ?_
  rw [List.length_map]
  refine iLt (iCndF (decide_eq_false (by omega)) ?_)
  refine iBs0 fun u0 w1 _ x1 ho1 => ?_
  have X1 := x0.trans x1
  have ho1 := ho1.mono x0.size
  refine iLp (fun s : Nat × Value => [s.2, .int .i64 (s.1 : Int)]) (fun s w' => s.1 ≤ P.length ∧ Ext w w' ∧ ∃ L : List VF, RwF w.heap.size w' s.2 L ∧ L.map Prod.snd = ((P.take s.1).map Prod.snd).map clauseF) (fun s => P.length - s.1) (0, u0) rfl ⟨Nat.zero_le _, X1, [], ⟨ho1, fun p hp => by cases hp⟩, rfl⟩ ?_
  rintro ⟨k, u⟩ w2 Kn ⟨hk, x2, L, hL, hLs⟩ hKn
  have hk : k ≤ P.length := hk
  have x2 : Ext w w2 := x2
  have hL : RwF w.heap.size w2 u L := hL
  have hLs : L.map Prod.snd = ((P.take k).map Prod.snd).map clauseF := hLs
  have hLl : L.length = k := by have := congrArg List.length hLs; simp only [List.length_map, List.length_take] at this; omega
  intro _
  simp only [gx]
  refine iLenS (hs.ext x2).1 ?_
  rw [List.length_map]
  refine iLt (iCndP (fun h3 => ?_) (fun h3 => ?_))
  · have hk1 : k < P.length := by omega
    refine iIaV (hs.ext x2).1 (by rw [List.length_map]; exact hk1) fun p hp => ?_
    refine iLd hp ?_
    rw [List.getElem_map]
    have hm := List.getElem_mem hk1
    refine iCall ((ok_spec_l04Join ((hs.ext x2).2 _ hm) (hok _ hm).1 (hok _ hm).len).mono ?_)
    rintro u3 w3 ⟨x3, hu3⟩
    refine RwF.app (hL.ext x3) (OwK.mono hu3 x2.size) (by omega) (x2.trans x3).size fun u4 w4 hL4 hch => ?_
    refine iAdd (by omega) ?_
    exact hKn (k + 1, u4) _ ⟨by show k + 1 ≤ P.length; omega, (x2.trans x3).thenCh hch fun c hc => ((hL.ext x3).row.blk c hc).1, _, hL4, by show _ = ((P.take (k + 1)).map Prod.snd).map clauseF; rw [List.map_append, hLs, List.take_succ_eq_append_getElem hk1]; simp only [List.map_append]; rfl⟩ (by show P.length - (k + 1) < P.length - k; omega)
  · obtain rfl : k = P.length := by omega
    rw [List.take_length] at hLs
    refine iCall ((ok_spec_l02AllF (k := 2) (.inl rfl) hL.row.sl (fun p hp => (hL.own p hp).sl) (by rw [hLs]; omega)).mono ?_)
    rintro r5 w5 ⟨x5, h5⟩
    rw [hLs] at h5
    have h5 : FmW w2.heap.size w5 r5 (clausesF (P.map Prod.snd)) := h5
    have hj : (clausesF (P.map Prod.snd)).size ≤ 3 + P.length + sizeL ((P.map Prod.snd).map clauseF) := hjs
    refine iCall ((ok_spec_l02Made h5.sl (by omega)).mono ?_)
    rintro r6 w6 ⟨x6, h6⟩
    rcases h6 with ⟨g, rfl⟩ | ⟨g, rfl⟩
    · refine iE20 (iE21 ?_)
      exact ⟨(x2.trans x5).trans x6, .inl ⟨g, rfl⟩⟩
    · refine iE20 (iE21 ?_)
      exact ⟨(x2.trans x5).trans x6, .inr ⟨g, _, rfl, OwK.mono (OwK.ext h5 x6) x2.size⟩⟩
end Go.Proofs.YtfadcafacpaldaaGreatDoor

/- Contracts: FirstModel of the program: formulas that are well made, their models as rows of bits. Conditions: none; the table that TrailingZeros64 reads is asked for. -/
namespace Go.Vc
/-- The nodes of a formula in order: kinds and signs. -/
def Fm.ndsF : Fm → List (Nat × Nat)
  | .var v => [(0, v)]
  | .fls => [(1, 0)]
  | .and a b => (2, 0) :: (a.ndsF ++ b.ndsF)
  | .or a b => (3, 0) :: (a.ndsF ++ b.ndsF)
  | .imp a b => (4, 0) :: (a.ndsF ++ b.ndsF)
  | .box a => (5, 0) :: a.ndsF
  | .dia a => (6, 0) :: a.ndsF
def ndF (l : List (Nat × Nat)) : List Value := l.flatMap fun p => nd p.1 p.2
theorem ndF_cons (p : Nat × Nat) (l : List (Nat × Nat)) : ndF (p :: l) = nd p.1 p.2 ++ ndF l := by simp [ndF]
theorem ndF_app (l m : List (Nat × Nat)) : ndF (l ++ m) = ndF l ++ ndF m := by simp [ndF]
theorem Fm.cells_ndF : ∀ f : Fm, f.cells = ndF f.ndsF
  | .var v => rfl
  | .fls => rfl
  | .and a b => by rw [Fm.ndsF, ndF_cons, ndF_app, ← a.cells_ndF, ← b.cells_ndF]; simp [Fm.cells]
  | .or a b => by rw [Fm.ndsF, ndF_cons, ndF_app, ← a.cells_ndF, ← b.cells_ndF]; simp [Fm.cells]
  | .imp a b => by rw [Fm.ndsF, ndF_cons, ndF_app, ← a.cells_ndF, ← b.cells_ndF]; simp [Fm.cells]
  | .box a => by rw [Fm.ndsF, ndF_cons, ← a.cells_ndF]; simp [Fm.cells]
  | .dia a => by rw [Fm.ndsF, ndF_cons, ← a.cells_ndF]; simp [Fm.cells]
theorem Fm.ndsF_len : ∀ f : Fm, f.ndsF.length = f.size
  | .var _ => rfl
  | .fls => rfl
  | .and a b => by simp only [Fm.ndsF, Fm.size, List.length_cons, List.length_append, a.ndsF_len, b.ndsF_len]; omega
  | .or a b => by simp only [Fm.ndsF, Fm.size, List.length_cons, List.length_append, a.ndsF_len, b.ndsF_len]; omega
  | .imp a b => by simp only [Fm.ndsF, Fm.size, List.length_cons, List.length_append, a.ndsF_len, b.ndsF_len]; omega
  | .box a => by simp only [Fm.ndsF, Fm.size, List.length_cons, a.ndsF_len]; omega
  | .dia a => by simp only [Fm.ndsF, Fm.size, List.length_cons, a.ndsF_len]; omega
theorem ndF_at : ∀ {l : List (Nat × Nat)} {i : Nat} (h : i < l.length), (ndF l)[i * 2 + 0]? = some (.int .i64 (l[i].1 : Int)) ∧ (ndF l)[i * 2 + 1]? = some (.int .i64 (l[i].2 : Int))
  | [], _, h => by simp at h
  | p :: l, 0, _ => ⟨rfl, rfl⟩
  | p :: l, i + 1, h => by
    have := ndF_at (l := l) (i := i) (by simpa using h)
    have e : ∀ f, (ndF (p :: l))[(i + 1) * 2 + f]? = (ndF l)[i * 2 + f]? := fun f => by
      rw [ndF_cons, List.getElem?_append_right (by simp [nd]; omega)]
      congr 1
      simp [nd]; omega
    rw [e, e]
    simpa using this
/-- The formulas that the clauses make: no modal sign, variables below six. -/
def Fm.v6 : Fm → Prop
  | .var v => v ≤ 5
  | .fls => True
  | .and a b => a.v6 ∧ b.v6
  | .or a b => a.v6 ∧ b.v6
  | .imp a b => a.v6 ∧ b.v6
  | .box _ => False
  | .dia _ => False
theorem Fm.v6_nds : ∀ (f : Fm), f.v6 → ∀ q ∈ f.ndsF, (q.1 = 0 ∧ q.2 ≤ 5) ∨ (1 ≤ q.1 ∧ q.1 ≤ 4 ∧ q.2 = 0)
  | .var v, h, q, hq => by simp [Fm.ndsF] at hq; subst hq; exact .inl ⟨rfl, h⟩
  | .fls, _, q, hq => by simp [Fm.ndsF] at hq; subst hq; exact .inr (by decide)
  | .and a b, h, q, hq => by
    simp only [Fm.ndsF, List.mem_cons, List.mem_append] at hq
    rcases hq with rfl | hq | hq
    · exact .inr (by decide)
    · exact a.v6_nds h.1 q hq
    · exact b.v6_nds h.2 q hq
  | .or a b, h, q, hq => by
    simp only [Fm.ndsF, List.mem_cons, List.mem_append] at hq
    rcases hq with rfl | hq | hq
    · exact .inr (by decide)
    · exact a.v6_nds h.1 q hq
    · exact b.v6_nds h.2 q hq
  | .imp a b, h, q, hq => by
    simp only [Fm.ndsF, List.mem_cons, List.mem_append] at hq
    rcases hq with rfl | hq | hq
    · exact .inr (by decide)
    · exact a.v6_nds h.1 q hq
    · exact b.v6_nds h.2 q hq
  | .box _, h, _, _ => h.elim
  | .dia _, h, _, _ => h.elim
/-- Is a formula true in a row of the truth table? -/
def evT (r : Nat) : Fm → Bool
  | .var v => r.testBit v
  | .fls => false
  | .and a b => evT r a && evT r b
  | .or a b => evT r a || evT r b
  | .imp a b => !evT r a || evT r b
  | .box _ => false
  | .dia _ => false
theorem evT_foldl2 (r : Nat) : ∀ (l : List Fm) (x : Fm), evT r (l.foldl (mkF 2) x) = (evT r x && l.all (evT r))
  | [], x => by simp
  | y :: l, x => by rw [List.foldl_cons, evT_foldl2 r l]; simp [mkF, evT, Bool.and_assoc]
theorem evT_foldl3 (r : Nat) : ∀ (l : List Fm) (x : Fm), evT r (l.foldl (mkF 3) x) = (evT r x || l.any (evT r))
  | [], x => by simp
  | y :: l, x => by rw [List.foldl_cons, evT_foldl3 r l]; simp [mkF, evT, Bool.or_assoc]
theorem evT_join2 (r : Nat) (l : List Fm) : evT r (joinF 2 l) = l.all (evT r) := by
  cases l with
  | nil => rfl
  | cons x l => exact evT_foldl2 r l x
theorem evT_join3 (r : Nat) (l : List Fm) : evT r (joinF 3 l) = l.any (evT r) := by
  cases l with
  | nil => rfl
  | cons x l => exact evT_foldl3 r l x
theorem evT_lit (r : Nat) (l : Int) : evT r (litF l) = litT r l := by
  unfold litF litT
  split <;> simp [evT]
theorem evT_clauses (r : Nat) (L : List (List Int)) : evT r (clausesF L) = true ↔ ∀ c ∈ L, Sat r c := by
  unfold clausesF
  rw [evT_join2, List.all_eq_true]
  have hc : ∀ c, evT r (clauseF c) = true ↔ Sat r c := fun c => by
    unfold clauseF
    rw [evT_join3, List.any_eq_true]
    constructor
    · rintro ⟨x, hx, h⟩
      obtain ⟨l, hl, rfl⟩ := List.mem_map.1 hx
      exact ⟨l, hl, by rw [← evT_lit]; exact h⟩
    · rintro ⟨l, hl, h⟩
      exact ⟨_, List.mem_map_of_mem hl, by rw [evT_lit]; exact h⟩
  constructor
  · intro h c hc'
    exact (hc c).1 (h _ (List.mem_map_of_mem hc'))
  · intro h x hx
    obtain ⟨c, hc', rfl⟩ := List.mem_map.1 hx
    exact (hc c).2 (h c hc')
theorem v6_foldl {k : Nat} : ∀ (l : List Fm) (x : Fm), x.v6 → (∀ y ∈ l, y.v6) → (l.foldl (mkF k) x).v6
  | [], x, h, _ => h
  | y :: l, x, h, hl => by
    rw [List.foldl_cons]
    refine v6_foldl l _ ?_ fun z hz => hl z (List.mem_cons_of_mem _ hz)
    have := hl y List.mem_cons_self
    unfold mkF
    split <;> exact ⟨h, this⟩
theorem v6_join (k : Nat) (l : List Fm) (hl : ∀ y ∈ l, y.v6) : (joinF k l).v6 := by
  cases l with
  | nil =>
    show (if k = 2 then Fm.imp Fm.fls Fm.fls else Fm.fls).v6
    split <;> simp [Fm.v6]
  | cons x l => exact v6_foldl l x (hl x List.mem_cons_self) fun y hy => hl y (List.mem_cons_of_mem _ hy)
theorem v6_clauses {L : List (List Int)} (hL : ∀ c ∈ L, ∀ l ∈ c, 0 ≤ l ∧ l ≤ 11) : (clausesF L).v6 := by
  refine v6_join 2 _ fun y hy => ?_
  obtain ⟨c, hc, rfl⟩ := List.mem_map.1 hy
  refine v6_join 3 _ fun z hz => ?_
  obtain ⟨l, hl, rfl⟩ := List.mem_map.1 hz
  have := hL c hc l hl
  unfold litF
  split <;> simp [Fm.v6] <;> omega
theorem iOrUF {a b : Nat} {K : Value → Prop} (ha : a < 2 ^ 64) (hb : b < 2 ^ 64) (h : K (.int .u64 ((a ||| b : Nat) : Int))) : xBits iOr .u64 (.int .u64 (a : Int)) (.int .u64 (b : Int)) K := by
  refine ⟨_, _, rfl, rfl, ?_⟩
  have hab : a ||| b < 2 ^ 64 := Nat.or_lt_two_pow ha hb
  have : iOr .u64 (a : Int) (b : Int) = ((a ||| b : Nat) : Int) := by
    rw [show iOr .u64 (a : Int) (b : Int) = IntKind.u64.wrap ((BitVec.ofInt 64 (a : Int) ||| BitVec.ofInt 64 (b : Int)).toNat : Nat) from rfl, ofInt_nat, ofInt_nat]
    rw [BitVec.toNat_or, BitVec.toNat_ofNat, BitVec.toNat_ofNat, Nat.mod_eq_of_lt ha, Nat.mod_eq_of_lt hb]
    exact IntWalk.u64_in _ (by omega)
  rw [this]; exact h
theorem iShlUF {j : Nat} {yk : IntKind} {K : Value → Prop} (hj : j < 64) (h : K (.int .u64 ((2 ^ j : Nat) : Int))) : xSh iShl .u64 (.int .u64 1) (.int yk (j : Int)) K := by
  refine ⟨_, _, _, rfl, rfl, by omega, ?_⟩
  have h2 : (2 : Nat) ^ j < 2 ^ 64 := Nat.pow_lt_pow_right (by omega) hj
  have : iShl .u64 1 (j : Int) = ((2 ^ j : Nat) : Int) := by
    simp only [iShl, IntKind.bits, Int.toNat_natCast, show min j 64 = j by omega]
    rw [Int.one_mul, show ((2 : Int) ^ j) = ((2 ^ j : Nat) : Int) by simp]
    generalize 2 ^ j = m at *
    exact IntWalk.u64_in _ (by omega)
  rw [this]; exact h
theorem u64_rangeF (z : Int) : ∃ m : Nat, IntKind.u64.wrap z = (m : Int) ∧ m < 2 ^ 64 := by
  have h : 0 ≤ IntKind.u64.wrap z ∧ IntKind.u64.wrap z < 18446744073709551616 := by
    simp [IntKind.wrap, IntKind.bits, IntKind.signed]; omega
  exact ⟨(IntKind.u64.wrap z).toNat, by omega, by omega⟩
/-- The table's cells are small numbers. -/
def TzOk (w : World) : Prop := ∀ j, j < 64 → ∃ z : Int, 0 ≤ z ∧ z ≤ 255 ∧ w.cell? ⟨0, j, none⟩ = some (.int .u8 z)
theorem TzOk.ext {w w' : World} (h : TzOk w) (x : Ext w w') : TzOk w' := fun j hj => by
  obtain ⟨z, h0, h1, hc⟩ := h j hj
  have hlt : 0 < w.heap.size := by
    rcases Nat.lt_or_ge 0 w.heap.size with h1 | h1
    · exact h1
    · simp only [World.cell?, Array.getElem?_eq_none h1] at hc
      cases hc
  refine ⟨z, h0, h1, ?_⟩
  simp only [World.cell?] at hc ⊢
  rw [Go.RowKit.Below.block x _ hlt]
  exact hc
end Go.Vc
namespace Go.Proofs.YtfadcafacpaldaaGreatDoor
open Go.Vc
theorem ok_math_bits_TrailingZeros64 {m : Nat} (hm : m < 2 ^ 64) {w : World} (hT : TzOk w) : Cal Tryz.prog f_math_bits_TrailingZeros64 #[.int .u64 (m : Int)] w fun r w' => Ext w w' ∧ ∃ z, r = .int .i64 z := by
  apply c_math_bits_TrailingZeros64; unfold S_math_bits_TrailingZeros64
  refine iEq (iCndP (fun _ => ⟨Ext.refl _, _, rfl⟩) (fun _ => ?_))
  refine ⟨.int .u64 (IntKind.u64.wrap (0 - (m : Int))), fun w' _ => rfl, ?_⟩
  obtain ⟨n, e, hn⟩ := u64_rangeF (0 - (m : Int))
  rw [e]
  refine iAndU hm hn ?_
  obtain ⟨p, e2, hp⟩ := u64_rangeF (((m &&& n : Nat) : Int) * 285870213051353865)
  refine ⟨_, _, rfl, rfl, ?_⟩
  rw [e2]
  refine iShrU (j := 58) (by decide) ?_
  have hp6 : p >>> 58 < 64 := by rw [Nat.shiftRight_eq_div_pow]; omega
  refine iIaAQ hp6 ?_
  obtain ⟨z, z0, z1, hz⟩ := hT _ hp6
  refine iLd hz ?_
  refine iConv64 (by omega) ?_
  exact ⟨Ext.refl _, _, rfl⟩
theorem ok_impl_rows_least {m : Nat} (hm : m < 2 ^ 64) {w : World} (hT : TzOk w) : Cal Tryz.prog f_impl_rows_least #[.int .u64 (m : Int)] w fun r w' => Ext w w' ∧ ∃ z, r = .int .i64 z := by
  apply c_impl_rows_least; unfold S_impl_rows_least
  exact iCall (ok_math_bits_TrailingZeros64 hm hT)
theorem ok_impl_isVariableF (x : Int) (w : World) : Ret Tryz.prog f_impl_isVariable #[.int .i64 x] w (.bool (decide (0 ≤ x ∧ x ≤ 5))) := by
  apply c_impl_isVariable; unfold S_impl_isVariable
  exact iRet (ok_impl_inRange x 0 5 w) fun w1 h1 => ⟨rfl, h1⟩
theorem ok_impl_isNodeF {k s : Nat} (h : (k = 0 ∧ s ≤ 5) ∨ (1 ≤ k ∧ k ≤ 4 ∧ s = 0)) (w : World) : Ret Tryz.prog f_impl_isNode #[.agg #[.int .i64 (k : Int), .int .i64 (s : Int)]] w (.bool true) := by
  apply c_impl_isNode; unfold S_impl_isNode
  refine iNew fun q w1 _ x1 hB => ?_
  have hB : Blk _ w1 q [.int .i64 (k : Int), .int .i64 (s : Int)] := hB
  refine iFa (iLdB hB (v := .int .i64 (k : Int)) rfl ?_)
  refine iEq (iCndP (fun h0 => ?_) (fun h0 => ?_))
  · refine iFa (iLdB hB (v := .int .i64 (s : Int)) rfl ?_)
    refine iRet (ok_impl_isVariableF _ w1) fun w2 x2 => ⟨?_, x1.trans x2⟩
    rw [decide_eq_true (by omega)]
  · refine iJnB true w1 (fun J hJ => ?_) (fun w2 x2 => fun _ => ⟨rfl, x1.trans x2⟩)
    refine iFa (iLdB hB (v := .int .i64 (k : Int)) rfl ?_)
    refine iRet (ok_impl_inRange _ _ _ w1) fun w2 x2 => ?_
    rw [decide_eq_true (by omega)]
    refine iCndT rfl ?_
    refine iFa (iLdB (hB.ext x2) (v := .int .i64 (s : Int)) rfl ?_)
    refine iEq ?_
    rw [decide_eq_true (by omega)]
    exact hJ _ x2
theorem ok_ContainsFunc_noF {v fv : Value} {f : Fm} {w : World} (hs : FmS w v f) (hf : ∀ q ∈ f.ndsF, ∀ w', Ext w w' → callV Tryz.prog fv [.agg #[.int .i64 (q.1 : Int), .int .i64 (q.2 : Int)]] w' fun u w'' => u = .bool false ∧ Ext w' w'') :
    Ret Tryz.prog f_slices_ContainsFunc_Simpl_Node_impl_Node #[v, fv] w (.bool false) := by
  have hln := hs.len
  have hkl := f.ndsF_len
  apply c_slices_ContainsFunc_Simpl_Node_impl_Node; unfold S_slices_ContainsFunc_Simpl_Node_impl_Node
  refine iRet (v := .int .i64 (-1)) ?_ fun w1 x1 => iLe ⟨rfl, x1⟩
  apply c_slices_IndexFunc_Simpl_Node_impl_Node; unfold S_slices_IndexFunc_Simpl_Node_impl_Node
  refine iLenK hs ?_
  refine iLp (fun i : Nat => [.int .i64 (i : Int)]) (fun i w' => i ≤ f.size ∧ Ext w w') (fun i => f.size - i) 0 rfl ⟨Nat.zero_le _, Ext.refl _⟩ ?_
  rintro i w2 Kn ⟨hi, h2⟩ hKn
  intro _
  simp only [gx]
  refine iLt (iCndP (fun h => ?_) (fun h => ⟨by first | trivial | rfl, h2⟩))
  have hil : i < f.ndsF.length := by omega
  have hat := ndF_at hil
  rw [← f.cells_ndF] at hat
  refine iRdAgg (ys := [.int .i64 (f.ndsF[i].1 : Int), .int .i64 (f.ndsF[i].2 : Int)]) (hs.ext h2) (by omega) rfl (fun j hj => ?_) ?_
  · rcases j with _ | _ | j
    · exact hat.1
    · exact hat.2
    · omega
  refine (hf _ (List.getElem_mem hil) w2 h2).mono ?_
  rintro u w3 ⟨rfl, x3⟩
  refine iCndF rfl ?_
  refine iAdd (by omega) ?_
  exact hKn (i + 1) _ ⟨by omega, h2.trans x3⟩ (by omega)
theorem ok_ContainsFunc_oneF {v va fv : Value} {w : World} (hs : Sl w v [va]) (hf : ∀ w', Ext w w' → callV Tryz.prog fv [va] w' fun u w'' => u = .bool false ∧ Ext w' w'') :
    Ret Tryz.prog f_slices_ContainsFunc_SSimpl_Node_Simpl_Node #[v, fv] w (.bool false) := by
  apply c_slices_ContainsFunc_SSimpl_Node_Simpl_Node; unfold S_slices_ContainsFunc_SSimpl_Node_Simpl_Node
  refine iRet (v := .int .i64 (-1)) ?_ fun w1 x1 => iLe ⟨rfl, x1⟩
  apply c_slices_IndexFunc_SSimpl_Node_Simpl_Node; unfold S_slices_IndexFunc_SSimpl_Node_Simpl_Node
  refine iLenS hs ?_
  refine iLp (fun i : Nat => [.int .i64 (i : Int)]) (fun i w' => i ≤ 1 ∧ Ext w w') (fun i => 1 - i) 0 rfl ⟨Nat.zero_le _, Ext.refl _⟩ ?_
  rintro i w2 Kn ⟨hi, h2⟩ hKn
  intro _
  simp only [gx]
  refine iLt (iCndP (fun h => ?_) (fun h => ⟨by first | trivial | rfl, h2⟩))
  have hi0 : i = 0 := by simp at h; omega
  subst hi0
  refine iIa (j := 0) (hs.ext h2) (by omega) (by simp) fun p hp => ?_
  have hp : w2.cell? p = some va := hp
  refine iLd hp ?_
  refine (hf w2 h2).mono ?_
  rintro u w3 ⟨rfl, x3⟩
  refine iCndF rfl ?_
  refine iAdd (by omega) ?_
  exact hKn 1 _ ⟨Nat.le_refl _, h2.trans x3⟩ (by omega)
theorem ok_impl_isFormulaF {v : Value} {f : Fm} {w : World} (hs : FmS w v f) (hv : f.v6) (hsz : f.size ≤ 40) : Ret Tryz.prog f_impl_isFormula #[v] w (.bool true) := by
  apply c_impl_isFormula; unfold S_impl_isFormula
  have hpos := f.size_kids
  refine iJnB true w (fun J hJ => ?_) (fun w2 x2 => fun _ => ⟨rfl, x2⟩)
  refine iLenK hs ?_
  refine iLe (iCndT (decide_eq_true (by omega)) ?_)
  refine iLenK hs ?_
  refine iLe (iCndT (decide_eq_true (by omega)) ?_)
  refine iRet (ok_ContainsFunc_noF hs fun q hq w' x' => ?_) fun w3 x3 => ?_
  · refine iRet (v := .bool false) ?_ fun w5 x5 => ⟨rfl, x5⟩
    apply c_impl_isFormula_1; unfold S_impl_isFormula_1
    refine iNew fun q w1 _ x1 hB => ?_
    refine iLdA hB rfl ?_
    refine iRet (ok_impl_isNodeF (f.v6_nds hv _ hq) w1) fun w4 x4 => ?_
    exact iNot ⟨rfl, x1.trans x4⟩
  refine iNot (iCndT rfl ?_)
  refine iRet (ok_impl_partEnd (f := f) (i := 0) (r := []) (hs.ext x3) (by simp) (by omega)) fun w4 x4 => ?_
  refine iLenK ((hs.ext x3).ext x4) ?_
  refine iEq ?_
  rw [decide_eq_true (by omega)]
  exact hJ _ (x3.trans x4)
theorem ok_impl_isModalF {k : Nat} (h : k ≤ 4) (w : World) : Ret Tryz.prog f_impl_isModal #[.int .i64 (k : Int)] w (.bool false) := by
  apply c_impl_isModal; unfold S_impl_isModal
  refine iJnB false w (fun J hJ => ?_) (fun w2 x2 => fun _ => ⟨by first | trivial | rfl, x2⟩)
  refine iEq (iCndF (decide_eq_false (by omega)) ?_)
  refine iEq ?_
  rw [decide_eq_false (by omega)]
  exact hJ _ (Ext.refl _)
theorem ok_impl_isPlainF {v : Value} {f : Fm} {w : World} (hs : FmS w v f) (hv : f.v6) : Ret Tryz.prog f_impl_isPlain #[v] w (.bool true) := by
  apply c_impl_isPlain; unfold S_impl_isPlain
  refine iRet (ok_ContainsFunc_noF hs fun q hq w' x' => ?_) fun w3 x3 => iNot ⟨rfl, x3⟩
  refine iRet (v := .bool false) ?_ fun w5 x5 => ⟨rfl, x5⟩
  apply c_impl_isPlain_1; unfold S_impl_isPlain_1
  refine iNew fun p w1 _ x1 hB => ?_
  have hB : Blk _ w1 p [.int .i64 (q.1 : Int), .int .i64 (q.2 : Int)] := hB
  refine iFa (iLdB hB (v := .int .i64 (q.1 : Int)) rfl ?_)
  have := f.v6_nds hv _ hq
  exact iRet (ok_impl_isModalF (by omega) w1) fun w4 x4 => ⟨rfl, x1.trans x4⟩
theorem ok_impl_plainCodeF {v va : Value} {f : Fm} {w : World} (hr : Sl w v [va]) (hs : FmS w va f) (hv : f.v6) (hsz : f.size ≤ 40) : Ret Tryz.prog f_impl_plainCode #[v] w (.int .i64 0) := by
  apply c_impl_plainCode; unfold S_impl_plainCode
  refine iRet (v := .bool true) ?_ fun w1 x1 => ?_
  · apply c_impl_areFormulas; unfold S_impl_areFormulas
    refine iRet (ok_ContainsFunc_oneF hr fun w' x' => ?_) fun w3 x3 => iNot ⟨rfl, x3⟩
    refine iRet (v := .bool false) ?_ fun w5 x5 => ⟨rfl, x5⟩
    apply c_impl_areFormulas_1; unfold S_impl_areFormulas_1
    exact iRet (ok_impl_isFormulaF (hs.ext x') hv hsz) fun w4 x4 => iNot ⟨rfl, x4⟩
  refine iNot (iCndF rfl ?_)
  refine iRet (ok_ContainsFunc_oneF (hr.ext x1) fun w' x' => ?_) fun w3 x3 => iCndF rfl ⟨rfl, x1.trans x3⟩
  refine iRet (v := .bool false) ?_ fun w5 x5 => ⟨rfl, x5⟩
  apply c_impl_plainCode_1; unfold S_impl_plainCode_1
  exact iRet (ok_impl_isPlainF ((hs.ext x1).ext x') hv) fun w4 x4 => iNot ⟨rfl, x4⟩
theorem ok_impl_variableRows (v : Nat) (hv : v ≤ 5) (w : World) : Cal Tryz.prog f_impl_variableRows #[.int .i64 (v : Int)] w fun r w' => Ext w w' ∧ ∃ m : Nat, r = .int .u64 (m : Int) ∧ m < 2 ^ 64 ∧ ∀ i, i < 64 → m.testBit i = i.testBit v := by
  apply c_impl_variableRows; unfold S_impl_variableRows
  refine iLp (fun s : Nat × Nat => [.int .u64 (s.1 : Int), .int .i64 (s.2 : Int)]) (fun s w' => s.2 ≤ 64 ∧ Ext w w' ∧ s.1 < 2 ^ 64 ∧ ∀ i, i < 64 → s.1.testBit i = (decide (i < s.2) && i.testBit v)) (fun s => 64 - s.2) (0, 0) rfl ⟨Nat.zero_le _, Ext.refl _, by decide, fun i _ => by simp⟩ ?_
  rintro ⟨m, r⟩ w2 Kn ⟨hr, x2, hm, hb⟩ hKn
  have hr : r ≤ 64 := hr
  have hm : m < 2 ^ 64 := hm
  have hb : ∀ i, i < 64 → m.testBit i = (decide (i < r) && i.testBit v) := hb
  intro _
  simp only [gx]
  refine iLt (iCndP (fun h3 => ?_) (fun h3 => ?_))
  · have hr1 : r < 64 := by omega
    refine iRet (ok_impl_has r v (by omega) (by omega) w2) fun w3 x3 => ?_
    have hstep : ∀ i, (decide (i < r + 1) && i.testBit v) = ((decide (i < r) && i.testBit v) || (decide (r = i) && r.testBit v)) := fun i => by
      by_cases h : r = i
      · subst h; simp
      · rw [decide_eq_false h, Bool.false_and, Bool.or_false, decide_eq_decide.2 (show i < r + 1 ↔ i < r by omega)]
    cases ht : r.testBit v with
    | true =>
      refine iCndT rfl ?_
      refine iShlUF hr1 ?_
      have hp : (2 : Nat) ^ r < 2 ^ 64 := Nat.pow_lt_pow_right (by omega) hr1
      refine iOrUF hm hp ?_
      refine iAdd (by omega) ?_
      refine hKn (m ||| 2 ^ r, r + 1) _ ⟨by show r + 1 ≤ 64; omega, x2.trans x3, Nat.or_lt_two_pow hm hp, fun i hi => ?_⟩ (by show 64 - (r + 1) < 64 - r; omega)
      show (m ||| 2 ^ r).testBit i = (decide (i < r + 1) && i.testBit v)
      rw [Nat.testBit_or, Nat.testBit_two_pow, hb i hi, hstep, ht, Bool.and_true]
    | false =>
      refine iCndF rfl ?_
      refine iAdd (by omega) ?_
      refine hKn (m, r + 1) _ ⟨by show r + 1 ≤ 64; omega, x2.trans x3, hm, fun i hi => ?_⟩ (by show 64 - (r + 1) < 64 - r; omega)
      show m.testBit i = (decide (i < r + 1) && i.testBit v)
      rw [hb i hi, hstep, ht, Bool.and_false, Bool.or_false]
  · obtain rfl : r = 64 := by omega
    exact ⟨x2, m, rfl, hm, fun i hi => by rw [hb i hi, decide_eq_true hi, Bool.true_and]⟩
theorem ok_impl_modelsOf : ∀ (f : Fm) {v : Value} {w : World}, FmS w v f → f.v6 → f.size ≤ 1000 → Cal Tryz.prog f_impl_modelsOf #[v] w fun r w' => Ext w w' ∧ ∃ m : Nat, r = .int .u64 (m : Int) ∧ m < 2 ^ 64 ∧ ∀ i, i < 64 → m.testBit i = evT i f := by
  intro f
  induction f with
  | var x =>
    intro v w hs hv hsz
    apply c_impl_modelsOf; unfold S_impl_modelsOf
    refine iFld (f := 0) (j := 0) hs rfl (show 0 < 1 by decide) (by decide) (kind_fst hs).1 ?_
    refine iEq (iCndT rfl ?_)
    refine iFld (f := 1) (j := 0) hs rfl (show 0 < 1 by decide) (by decide) (kind_fst hs).2 ?_
    exact iCall (ok_impl_variableRows x hv w)
  | fls =>
    intro v w hs hv hsz
    apply c_impl_modelsOf; unfold S_impl_modelsOf
    refine iFld (f := 0) (j := 0) hs rfl (by decide) (by decide) (kind_fst hs).1 ?_
    refine iEq (iCndF rfl (iEq (iCndT rfl ?_)))
    exact ⟨Ext.refl _, 0, rfl, by decide, fun i _ => by simp [evT]⟩
  | box a _ => intro v w hs hv; exact hv.elim
  | dia a _ => intro v w hs hv; exact hv.elim
  | and a b iha ihb =>
    intro v w hs hv hsz
    have hsz : 1 + a.size + b.size ≤ 1000 := hsz
    apply c_impl_modelsOf; unfold S_impl_modelsOf
    refine iFld (f := 0) (j := 0) hs rfl (show 0 < 1 + a.size + b.size by omega) (by decide) (kind_fst hs).1 ?_
    refine iEq (iCndF rfl (iEq (iCndF rfl (iEq (iCndT rfl ?_)))))
    refine iCall ((ok_impl_first (g := a) (gs := [b]) hs rfl (show 1 + a.size + b.size ≤ _ by omega)).mono ?_)
    rintro u1 w1 ⟨x1, h1⟩
    refine iCall ((iha h1 hv.1 (by omega)).mono ?_)
    rintro _ w2 ⟨x2, m1, rfl, l1, e1⟩
    refine iCall ((ok_impl_second (g := a) (h := b) (hs.ext (x1.trans x2)) rfl (show 1 + a.size + b.size ≤ _ by omega)).mono ?_)
    rintro u3 w3 ⟨x3, h3⟩
    refine iCall ((ihb h3 hv.2 (by omega)).mono ?_)
    rintro _ w4 ⟨x4, m2, rfl, l2, e2⟩
    refine iAndU l1 l2 ?_
    exact ⟨((x1.trans x2).trans x3).trans x4, _, rfl, Nat.and_lt_two_pow _ l2, fun i hi => by rw [Nat.testBit_and, e1 i hi, e2 i hi]; rfl⟩
  | or a b iha ihb =>
    intro v w hs hv hsz
    have hsz : 1 + a.size + b.size ≤ 1000 := hsz
    apply c_impl_modelsOf; unfold S_impl_modelsOf
    refine iFld (f := 0) (j := 0) hs rfl (show 0 < 1 + a.size + b.size by omega) (by decide) (kind_fst hs).1 ?_
    refine iEq (iCndF rfl (iEq (iCndF rfl (iEq (iCndF rfl (iEq (iCndT rfl ?_)))))))
    refine iCall ((ok_impl_first (g := a) (gs := [b]) hs rfl (show 1 + a.size + b.size ≤ _ by omega)).mono ?_)
    rintro u1 w1 ⟨x1, h1⟩
    refine iCall ((iha h1 hv.1 (by omega)).mono ?_)
    rintro _ w2 ⟨x2, m1, rfl, l1, e1⟩
    refine iCall ((ok_impl_second (g := a) (h := b) (hs.ext (x1.trans x2)) rfl (show 1 + a.size + b.size ≤ _ by omega)).mono ?_)
    rintro u3 w3 ⟨x3, h3⟩
    refine iCall ((ihb h3 hv.2 (by omega)).mono ?_)
    rintro _ w4 ⟨x4, m2, rfl, l2, e2⟩
    refine iOrUF l1 l2 ?_
    exact ⟨((x1.trans x2).trans x3).trans x4, _, rfl, Nat.or_lt_two_pow l1 l2, fun i hi => by rw [Nat.testBit_or, e1 i hi, e2 i hi]; rfl⟩
  | imp a b iha ihb =>
    intro v w hs hv hsz
    have hsz : 1 + a.size + b.size ≤ 1000 := hsz
    apply c_impl_modelsOf; unfold S_impl_modelsOf
    refine iFld (f := 0) (j := 0) hs rfl (show 0 < 1 + a.size + b.size by omega) (by decide) (kind_fst hs).1 ?_
    refine iEq (iCndF rfl (iEq (iCndF rfl (iEq (iCndF rfl (iEq (iCndF rfl ?_)))))))
    refine iCall ((ok_impl_first (g := a) (gs := [b]) hs rfl (show 1 + a.size + b.size ≤ _ by omega)).mono ?_)
    rintro u1 w1 ⟨x1, h1⟩
    refine iCall ((iha h1 hv.1 (by omega)).mono ?_)
    rintro _ w2 ⟨x2, m1, rfl, l1, e1⟩
    refine ⟨.int .u64 ((2 ^ 64 - 1 - m1 : Nat) : Int), fun w' _ => ?_, ?_⟩
    · have e : bits .xor .u64 ((18446744073709551615 : Nat) : Int) (m1 : Int) = ((2 ^ 64 - 1 - m1 : Nat) : Int) := by
        rw [bits_xor_u64_nat _ _ (by decide) (by omega)]
        congr 1
        exact Lib.xor_ones64 m1 l1
      rw [← e]; rfl
    refine iCall ((ok_impl_second (g := a) (h := b) (hs.ext (x1.trans x2)) rfl (show 1 + a.size + b.size ≤ _ by omega)).mono ?_)
    rintro u3 w3 ⟨x3, h3⟩
    refine iCall ((ihb h3 hv.2 (by omega)).mono ?_)
    rintro _ w4 ⟨x4, m2, rfl, l2, e2⟩
    have l3 : 2 ^ 64 - 1 - m1 < 2 ^ 64 := by omega
    refine iOrUF l3 l2 ?_
    refine ⟨((x1.trans x2).trans x3).trans x4, _, rfl, Nat.or_lt_two_pow l3 l2, fun i hi => ?_⟩
    rw [Nat.testBit_or, e2 i hi, show 2 ^ 64 - 1 - m1 = 2 ^ 64 - (m1 + 1) by omega, Nat.testBit_two_pow_sub_succ l1, e1 i hi, decide_eq_true hi, Bool.true_and]
    rfl
theorem ok_impl_FirstModel {v : Value} {f : Fm} {w : World} (hT : TzOk w) (hs : FmS w v f) (hv : f.v6) (hsz : f.size ≤ 40) :
    Cal Tryz.prog f_impl_FirstModel #[v] w fun r w' => Ext w w' ∧ ∃ (z : Int) (k : Int), r = .tuple #[.int .i64 z, .int .i64 k] ∧ (k = 4 ↔ ∀ i, i < 64 → evT i f = false) := by
  apply c_impl_FirstModel; unfold S_impl_FirstModel
  refine iBs1 rfl hs.cellQ fun b w1 hb x1 hB => ?_
  have hr : Sl w1 (.slice (some ⟨b, 0, none⟩) 1 1) [v] := Sl.ofBlk (n := 1) hB rfl (by decide)
  refine iRet (ok_impl_plainCodeF hr (hs.ext x1) hv hsz) fun w2 x2 => ?_
  refine iNe (iCndF rfl ?_)
  refine iCall ((ok_impl_modelsOf f (hs.ext (x1.trans x2)) hv (by omega)).mono ?_)
  rintro _ w3 ⟨x3, m, rfl, hm, hb⟩
  have X3 := (x1.trans x2).trans x3
  refine iEq (iCndP (fun h => ?_) (fun h => ?_))
  · have hm0 : m = 0 := by omega
    subst hm0
    exact ⟨X3, 0, 4, rfl, ⟨fun _ i hi => by rw [← hb i hi]; simp, fun _ => rfl⟩⟩
  · refine iCall ((ok_impl_rows_least hm (hT.ext X3)).mono ?_)
    rintro _ w4 ⟨x4, z, rfl⟩
    refine ⟨X3.trans x4, z, 0, rfl, ⟨fun h4 => absurd h4 (by decide), fun hall => absurd ?_ h⟩⟩
    have : m = 0 := by
      apply Nat.eq_of_testBit_eq
      intro i
      rw [Nat.zero_testBit]
      by_cases hi : i < 64
      · rw [hb i hi]; exact hall i hi
      · exact Nat.testBit_lt_two_pow (Nat.lt_of_lt_of_le hm (Nat.pow_le_pow_right (by omega) (by omega)))
    omega
end Go.Proofs.YtfadcafacpaldaaGreatDoor

/- The laws' helpers: sizes of codes, equal lists and frames. Conditions: none. -/
namespace Go.Vc
end Go.Vc
namespace Go.Proofs.YtfadcafacpaldaaGreatDoor
open Go.Vc
theorem ok_laws_big {vc : Value} {w : World} {bs : List Nat} (hc : SlB w vc bs) : Ret Tryz.prog f_laws_big #[vc] w (.bool (decide ((4096 : Int) < (bs.length : Nat)))) := by
  apply c_laws_big; unfold S_laws_big
  refine iLenB hc ?_
  refine iLt ?_
  exact ⟨rfl, Ext.refl _⟩
theorem ok_laws_likeInts {v v' : Value} {w : World} {l l' : List Int} (hs : SlI w v l) (hs' : SlI w v' l') : Ret Tryz.prog f_laws_likeInts #[v, v'] w (.bool (decide (l = l'))) := by
  apply c_laws_likeInts; unfold S_laws_likeInts
  have hl := hs.len
  have hl' := hs'.len
  ((with_reducible refine iLenI (by assumption) ?_; refine iLenI (by assumption) ?_; refine iNe ?_))
  refine iCndP (fun h => ?_) (fun h => ?_)
  · rw [decide_eq_false (fun e => h (by rw [e]))]
    exact ⟨rfl, Ext.refl _⟩
  · have h : l.length = l'.length := by omega
    refine iLp (fun k : Nat => [.int .i64 (k : Int)]) (fun k w' => k ≤ l.length ∧ Ext w w' ∧ l.take k = l'.take k) (fun k => l.length - k) 0 rfl ⟨Nat.zero_le _, Ext.refl _, by simp⟩ ?_
    rintro k w2 Kn ⟨hk, h2, he⟩ hKn
    have hs2 := hs.ext h2
    have hs2' := hs'.ext h2
    (intro _; (try simp only [gx]); (with_reducible refine iLenI (by assumption) ?_; refine iLt ?_))
    refine iCndP (fun h3 => ?_) (fun h3 => ?_)
    · have hk1 : k < l.length := by omega
      have hk2 : k < l'.length := by omega
      have e1 : l.getD k 0 = l[k] := by simp [List.getD_eq_getElem?_getD, hk1]
      have e2 : l'.getD k 0 = l'[k] := by simp [List.getD_eq_getElem?_getD, hk2]
      ((with_reducible refine iIaN (by assumption) ?_ (fun pa_ hpa_ => ?_)); omega; (with_reducible refine iLd (by assumption) ?_); (with_reducible refine iIaN (by assumption) ?_ (fun pa_ hpa_ => ?_)); omega; (with_reducible refine iLd (by assumption) ?_; refine iNe ?_))
      rw [e1, e2]
      intro w3 h4
      refine iCndP (fun h5 => ?_) (fun h5 => ?_)
      · rw [decide_eq_false (fun e => by subst e; exact h5 rfl)]
        exact ⟨rfl, h2.trans h4⟩
      · (refine iAdd (by omega) ?_)
        refine hKn (k + 1) _ ⟨by omega, h2.trans h4, ?_⟩ (by omega)
        rw [List.take_succ_eq_append_getElem hk1, List.take_succ_eq_append_getElem hk2, he]
        congr 2
        exact Classical.not_not.1 h5
    · obtain rfl : k = l.length := by omega
      rw [List.take_length, h, List.take_length] at he
      rw [decide_eq_true he]
      exact ⟨rfl, h2⟩
end Go.Proofs.YtfadcafacpaldaaGreatDoor

/- Contracts: rows of rows compared by the laws. Conditions: none. -/
namespace Go.Proofs.YtfadcafacpaldaaGreatDoor
open Go.Vc
end Go.Proofs.YtfadcafacpaldaaGreatDoor

/- The law on resolution: what its body answers. Conditions: none; the table that TrailingZeros64 reads is asked for. -/
namespace Go.Vc
theorem rfR_facts (X : List (List Int)) : (rfR X).2 = 1 ∨ (rfR X).2 = 3 ∨ ((∀ c ∈ X, ClOk c) ∧ X.length ≤ 40 ∧ (((rfR X).2 = 0 ∧ Cl X [] ∧ (∀ k, k < (rfR X).1.length → StepOk X (rfR X).1 k) ∧ 0 < (rfR X).1.length ∧ ((rfR X).1.getD ((rfR X).1.length - 1) default).c = []) ∨ ((rfR X).2 = 4 ∧ ¬ Cl X []))) := by
  unfold rfR
  by_cases hok : ∀ c ∈ X, ClOk c
  · rw [if_neg (Classical.not_not.2 hok)]
    by_cases hl : 40 < X.length
    · rw [if_pos hl]; exact .inr (.inl rfl)
    · rw [if_neg hl]
      refine .inr (.inr ⟨hok, by omega, ?_⟩)
      by_cases he : (endP X).2 = true
      · rw [if_pos he]
        have := used_good hok he
        exact .inl ⟨rfl, (endP_iff hok).1 he, this.1, this.2.1, this.2.2⟩
      · rw [if_neg he]
        exact .inr ⟨rfl, fun h => he ((endP_iff hok).2 h)⟩
  · rw [if_pos hok]; exact .inl rfl
theorem StepOk.clOk {L : List (List Int)} (hok : ∀ c ∈ L, ClOk c) {st : List Rs} {k : Nat} (h : StepOk L st k) : ClOk (st.getD k default).c := by
  rcases h with ⟨_, _, _, h⟩ | ⟨a, b, v, _, _, _, _, _, _, h⟩
  · exact hok _ h
  · exact resC_ok h
end Go.Vc
namespace Go.Proofs.YtfadcafacpaldaaGreatDoor
open Go.Vc
theorem RdLL.rdC {lo : Nat} {w : World} {v : Value} {x : List (List Int)} (h : RdLL lo w v x) : ∃ P : List VL, RdRows w v P ∧ P.map Prod.snd = x := by
  obtain ⟨vs, h1, h2⟩ := h
  have hl : vs.length = x.length := by have := h2.1; rwa [List.length_map] at this
  have e1 : (vs.zip x).map Prod.fst = vs := List.map_fst_zip (by omega)
  refine ⟨vs.zip x, ⟨by rw [e1]; exact h1.sl, fun p hp => ?_⟩, List.map_snd_zip (by omega)⟩
  obtain ⟨i, hi, rfl⟩ := List.getElem_of_mem hp
  rw [List.length_zip] at hi
  rw [List.getElem_zip]
  have := h2.at (i := i) (by omega) (by rw [List.length_map]; omega)
  rw [List.getElem_map] at this
  exact this.sl
theorem ok_laws_likeRows5C {v v' : Value} {w : World} {P Q : List VL} (h : RdRows w v P) (h' : RdRows w v' Q) (he : P.map Prod.snd = Q.map Prod.snd) : Ret Tryz.prog f_laws_likeRows5 #[v, v'] w (.bool true) := by
  have hl : P.length = Q.length := by have := congrArg List.length he; simpa using this
  have hcap := h.1.len
  rw [List.length_map] at hcap
  apply c_laws_likeRows5; unfold S_laws_likeRows5
  refine iLenS h.1 (iLenS h'.1 ?_)
  rw [List.length_map, List.length_map]
  refine iNe (iCndP (fun h => absurd (by omega) h) (fun _ => ?_))
  refine iLp (fun k : Nat => [.int .i64 (k : Int)]) (fun k w' => k ≤ P.length ∧ Ext w w') (fun k => P.length - k) 0 rfl ⟨Nat.zero_le _, Ext.refl _⟩ ?_
  rintro k w2 Kn ⟨hk, x2⟩ hKn
  intro _
  simp only [gx]
  refine iLenS (h.ext x2).1 ?_
  rw [List.length_map]
  refine iLt (iCndP (fun h3 => ?_) (fun _ => ⟨by first | trivial | rfl, x2⟩))
  have hk1 : k < P.length := by omega
  have hk2 : k < Q.length := by omega
  refine iIaV (h.ext x2).1 (by rw [List.length_map]; exact hk1) fun p hp => ?_
  refine iLd hp ?_
  refine iIaV (h'.ext x2).1 (by rw [List.length_map]; exact hk2) fun p hp => ?_
  refine iLd hp ?_
  rw [List.getElem_map, List.getElem_map]
  have e : P[k].2 = Q[k].2 := by
    have := congrArg (fun l => l[k]?) he
    simpa [hk1, hk2] using this
  have r1 := (h.ext x2).2 _ (List.getElem_mem hk1)
  have r2 := (h'.ext x2).2 _ (List.getElem_mem hk2)
  rw [← e] at r2
  refine iRetQ (fun w' x' => ok_laws_likeInts (SlI.ext r1 x') (SlI.ext r2 x')) ?_
  refine iNot ?_
  intro w3 x3
  rw [decide_eq_true rfl]
  refine iCndF rfl ?_
  refine iAdd (by omega) ?_
  exact hKn (k + 1) _ ⟨by omega, x2.trans x3⟩ (by omega)
theorem ok_laws_likeFormula5 {v v' : Value} {w : World} {L : List (Nat × Nat)} (h : SlK 2 w v L.length (ndF L)) (h' : SlK 2 w v' L.length (ndF L)) (hl : L.length ≤ 1000000) : Ret Tryz.prog f_laws_likeFormula5 #[v, v'] w (.bool true) := by
  apply c_laws_likeFormula5; unfold S_laws_likeFormula5
  refine iLenK h (iLenK h' ?_)
  refine iNe (iCndP (fun h => absurd rfl h) (fun _ => ?_))
  refine iLp (fun k : Nat => [.int .i64 (k : Int)]) (fun k w' => k ≤ L.length ∧ Ext w w') (fun k => L.length - k) 0 rfl ⟨Nat.zero_le _, Ext.refl _⟩ ?_
  rintro k w2 Kn ⟨hk, x2⟩ hKn
  intro _
  simp only [gx]
  refine iLenK (h.ext x2) ?_
  refine iLt (iCndP (fun h3 => ?_) (fun _ => ⟨by first | trivial | rfl, x2⟩))
  have hk1 : k < L.length := by omega
  have hat := ndF_at hk1
  have hrd : ∀ i, i < 2 → (ndF L)[k * 2 + i]? = ([.int .i64 (L[k].1 : Int), .int .i64 (L[k].2 : Int)] : List Value)[i]? := fun i hi => by
    rcases i with _ | _ | i
    · exact hat.1
    · exact hat.2
    · omega
  refine iRdAgg (ys := [.int .i64 (L[k].1 : Int), .int .i64 (L[k].2 : Int)]) (h.ext x2) hk1 rfl hrd ?_
  refine iRdAgg (ys := [.int .i64 (L[k].1 : Int), .int .i64 (L[k].2 : Int)]) (h'.ext x2) hk1 rfl hrd ?_
  refine iNeNode (t0 := 2) (t1 := 2) (by kernel_rfl) (by kernel_rfl) (by kernel_rfl) (by kernel_rfl) (by kernel_rfl) (by kernel_rfl) ?_
  intro w3 x3
  refine iCndF (decide_eq_false (by simp)) ?_
  refine iAdd (by omega) ?_
  exact hKn (k + 1) _ ⟨by omega, x2.trans x3⟩ (by omega)
theorem ok_laws_FnResolution {w : World} {vc : Value} {bs : List Nat} (hT : TzOk w) (hc : SlB w vc bs) : Ret Tryz.prog f_laws_FnResolution #[vc] w (.bool true) := by
  apply c_laws_FnResolution; unfold S_laws_FnResolution
  refine iRet (ok_laws_big hc) fun w1 x1 => ?_
  refine iCndP (fun _ => ⟨rfl, x1⟩) (fun _ => ?_)
  refine iCall ((ok_spec_DrawRefuteClauses (hc.ext x1)).mono ?_)
  rintro v24 w2 ⟨x2, P, hR, hPl⟩
  have hP2 : RdRows w2 v24 P := ⟨hR.row.sl, fun p hp => (hR.own p hp).sl⟩
  have X2 := x1.trans x2
  clear hR
  refine iCall ((ok_impl_RefuteClauses hP2).mono ?_)
  rintro _ w3 ⟨x3, v28, rfl, hA⟩
  refine iE20 (iE21 ?_)
  refine iCall ((ok_spec_RefuteClauses (hP2.ext x3)).mono ?_)
  rintro _ w4 ⟨x4, v33, rfl, hB⟩
  refine iE20 (iE21 ?_)
  obtain ⟨A, hA, eA⟩ := hA.rd
  obtain ⟨B, hB, eB⟩ := hB.rd
  have hfacts := rfR_facts (P.map Prod.snd)
  rw [← eB] at hfacts
  have hAB : A.map Prod.snd = B.map Prod.snd := by rw [eA, eB]
  clear eA eB
  generalize (rfR (P.map Prod.snd)).2 = z at *
  have hlen : A.length = B.length := by have := congrArg List.length hAB; simpa using this
  have hP4 := (hP2.ext x3).ext x4
  have hA4 := hA.ext x4
  have X4 := (X2.trans x3).trans x4
  have hbig := hB.1.len
  refine iJnB false w4 (fun J hJ => ?_) (fun w6 x6 => ?_)
  · refine iNe (iCndP (fun h => absurd rfl h) (fun _ => ?_))
    refine iLenK hA4.1 (iLenK hB.1 ?_)
    refine iNe ?_
    rw [decide_eq_false (by omega)]
    exact hJ _ (Ext.refl _)
  intro _
  refine iCndF rfl ?_
  have X6 := X4.trans x6
  have hP6 := hP4.ext x6
  have hA6 := hA4.ext x6
  have hB6 := hB.ext x6
  clear hP2 hP4 hA4 hA hB
  refine iLp (fun k : Nat => [.int .i64 (k : Int)]) (fun k w' => k ≤ B.length ∧ Ext w6 w') (fun k => B.length - k) 0 rfl ⟨Nat.zero_le _, Ext.refl _⟩ ?_
  rintro k w8 Kn ⟨hk, x8⟩ hKn
  have hA8 := hA6.ext x8
  have hB8 := hB6.ext x8
  intro _
  simp only [gx]
  refine iLenK hB8.1 ?_
  refine iLt (iCndP (fun h9 => ?_) (fun h9 => ?_))
  · have hkB : k < B.length := by omega
    have hkA : k < A.length := by omega
    have e : (gt A k).2 = (gt B k).2 := by rw [← getD_snd A k hkA, hAB, getD_snd B k hkB]
    have hmA : gt A k ∈ A := by rw [gt_eq hkA]; exact List.getElem_mem hkA
    have hmB : gt B k ∈ B := by rw [gt_eq hkB]; exact List.getElem_mem hkB
    refine iJnB false w8 (fun J hJ => ?_) (fun w10 x10 => ?_)
    · have fa : ∀ {f : Nat} {y : Value} {K : Value → Prop}, f < 4 → (csQ (gt A k))[f]? = some y → K y → xIa 4 v28 (.int .i64 (k : Int)) fun p => xFa f p fun q => xLd w8 q K := fun hf hx h => iFldQ hA8.1 hkA hf (by rw [cellsQ_at hkA _ hf, hx]) h
      have fb : ∀ {f : Nat} {y : Value} {K : Value → Prop}, f < 4 → (csQ (gt B k))[f]? = some y → K y → xIa 4 v33 (.int .i64 (k : Int)) fun p => xFa f p fun q => xLd w8 q K := fun hf hx h => iFldQ hB8.1 hkB hf (by rw [cellsQ_at hkB _ hf, hx]) h
      refine fa (y := .int .i64 (gt A k).2.f) (by decide) rfl (fb (y := .int .i64 (gt B k).2.f) (by decide) rfl ?_)
      refine iNe (iCndF (decide_eq_false (by rw [e]; simp)) ?_)
      refine fa (y := .int .i64 (gt A k).2.s) (by decide) rfl (fb (y := .int .i64 (gt B k).2.s) (by decide) rfl ?_)
      refine iNe (iCndF (decide_eq_false (by rw [e]; simp)) ?_)
      refine fa (y := .int .i64 (gt A k).2.v) (by decide) rfl (fb (y := .int .i64 (gt B k).2.v) (by decide) rfl ?_)
      refine iNe (iCndF (decide_eq_false (by rw [e]; simp)) ?_)
      refine fa (y := (gt A k).1) (by decide) rfl (fb (y := (gt B k).1) (by decide) rfl ?_)
      refine iRetQ (fun w' x' => ok_laws_likeInts ((hA8.2 _ hmA).ext x') ((hB8.2 _ hmB).ext x')) ?_
      refine iNot ?_
      intro w14 x14
      rw [decide_eq_true (show (gt A k).2.c = (gt B k).2.c by rw [e])]
      exact hJ _ x14
    · intro _
      refine iCndF rfl ?_
      refine iAdd (by omega) ?_
      exact hKn (k + 1) _ ⟨by omega, x8.trans x10⟩ (by omega)
  clear hKn
  have X8 := X6.trans x8
  have hP8 := hP6.ext x8
  clear hA6 hB6 hA8 hP6
  rcases hfacts with h1 | h3 | ⟨hok, hl40, hz⟩
  · refine iJnB true w8 (fun J hJ => ?_) (fun w16 x16 => fun _ => iCndT rfl ⟨by first | trivial | rfl, X8.trans x16⟩)
    exact iEq (iCndT (decide_eq_true h1) (hJ _ (Ext.refl _)))
  · refine iJnB true w8 (fun J hJ => ?_) (fun w16 x16 => fun _ => iCndT rfl ⟨by first | trivial | rfl, X8.trans x16⟩)
    refine iEq (iCndF (decide_eq_false (by omega)) (iEq ?_))
    rw [decide_eq_true h3]
    exact hJ _ (Ext.refl _)
  have hz4 : z = 0 ∨ z = 4 := by rcases hz with h | h <;> simp [h.1]
  have hz0 : z = 0 ↔ Cl (P.map Prod.snd) [] := by
    rcases hz with ⟨h, h', _⟩ | ⟨h, h'⟩
    · exact ⟨fun _ => h', fun _ => h⟩
    · exact ⟨fun h0 => by omega, fun h0 => absurd h0 h'⟩
  have hokP : ∀ p ∈ P, ClOk p.2 := fun p hp => hok _ (List.mem_map_of_mem hp)
  rw [List.length_map] at hl40
  refine iJnB false w8 (fun J hJ => ?_) (fun w16 x16 => ?_)
  · refine iEq (iCndF (decide_eq_false (by omega)) (iEq ?_))
    rw [decide_eq_false (by omega)]
    exact hJ _ (Ext.refl _)
  intro _
  refine iCndF rfl ?_
  have X16 := X8.trans x16
  have hP16 := hP8.ext x16
  have hB16 := hB8.ext x16
  clear hP8 hB8
  refine iCall ((ok_impl_ResolutionClosure hP16 (by omega) hokP).mono ?_)
  rintro _ w17 ⟨x17, v111, A1, M1, rfl, hM1, hM1s, hA1⟩
  refine iE20 (iE21 ?_)
  refine iCall ((ok_spec_ResolutionClosure (hP16.ext x17) (by omega) hokP).mono ?_)
  rintro _ w18 ⟨x18, v116, A2, rfl, hD, hA2⟩
  refine iE20 (iE21 ?_)
  obtain ⟨Q, hQ, hQs⟩ := hD.rdC
  have hM18 : RdRows w18 v111 M1 := ⟨(hM1.ext x18).row.sl, fun p hp => ((hM1.ext x18).own p hp).sl⟩
  have hMQ : M1.map Prod.snd = Q.map Prod.snd := by rw [hM1s, hQs]; exact closure_set hA1 hA2
  have X18 := (X16.trans x17).trans x18
  have hemp : ([] : List Int) ∈ Q.map Prod.snd ↔ z = 0 := by rw [hQs, mem_setA ordLs, hA2, hz0]
  refine iJnB false w18 (fun J hJ => ?_) (fun w20 x20 => ?_)
  · refine iNe (iCndP (fun h => absurd rfl h) (fun _ => ?_))
    refine iRet (ok_laws_likeRows5C hM18 hQ hMQ) fun w21 x21 => ?_
    refine iNot (iCndF rfl ?_)
    have hQ21 := hQ.ext x21
    refine iLenS hQ21.1 ?_
    rw [List.length_map]
    refine iLt (iCndP (fun h => ?_) (fun h => ?_))
    · have h0 : 0 < Q.length := by omega
      refine iIaV (j := 0) hQ21.1 (by rw [List.length_map]; exact h0) fun p hp => ?_
      refine iLd hp ?_
      rw [List.getElem_map]
      refine iLenI (hQ21.2 _ (List.getElem_mem h0)) ?_
      refine iEq (iEq ?_)
      refine ⟨_, _, rfl, rfl, ?_⟩
      have : decide (((Q[0].2.length : Nat) : Int) = 0) = decide (z = 0) := by
        refine decide_eq_decide.2 ?_
        rw [← hemp]
        constructor
        · intro e
          have : Q[0].2 = [] := List.length_eq_zero_iff.1 (by omega)
          rw [← this]; exact List.mem_map_of_mem (List.getElem_mem h0)
        · intro e
          rw [hQs] at e
          obtain ⟨M, hM⟩ := setA_nil e
          rw [← hQs] at hM
          have := congrArg (fun l => l[0]?) hM
          have : Q[0].2 = [] := by simpa [h0] using this
          rw [this]; rfl
      rw [this]
      cases decide (z = 0) <;> exact hJ _ x21
    · have h0 : Q = [] := List.length_eq_zero_iff.1 (by omega)
      refine iEq ?_
      refine ⟨_, _, rfl, rfl, ?_⟩
      rw [decide_eq_false (fun h => by rw [← hemp, h0] at h; simp at h)]
      exact hJ _ x21
  intro _
  refine iCndF rfl ?_
  have X20 := X18.trans x20
  have hP20 := ((hP16.ext x17).ext x18).ext x20
  have hB20 := ((hB16.ext x17).ext x18).ext x20
  clear hP16 hB16
  refine iEq ?_
  refine iJnE True w20 (fun J hJ => ?_) (fun w23 x23 _ => ?_)
  · refine iCndP (fun hzz => ?_) (fun _ => hJ _ (Ext.refl _) trivial)
    rcases hz with ⟨_, _, hgood, hpos, hlast⟩ | ⟨h4, _⟩
    rotate_left
    · omega
    rw [List.length_map] at hgood hpos hlast
    have hokB : ∀ x ∈ B, ClOk x.2.c := fun x hx => by
      obtain ⟨i, hi, rfl⟩ := List.getElem_of_mem hx
      have := (hgood i hi).clOk hok
      rw [getD_snd B i hi, gt_eq hi] at this
      exact this
    refine iRet (ok_impl_FirstBadResolvent hP20 hokP hB20 hokB hgood hbig) fun w24 x24 => ?_
    refine iE20 (iE21 ?_)
    refine iJnB false w24 (fun J2 hJ2 => ?_) (fun w26 x26 => ?_)
    · refine iNe (iCndP (fun h => absurd rfl h) (fun _ => ?_))
      refine iNe (iCndP (fun h => absurd rfl h) (fun _ => ?_))
      have hB24 := hB20.ext x24
      refine iLenK hB24.1 ?_
      refine iSub (by omega) ?_
      rw [show ((B.length : Nat) : Int) - 1 = ((B.length - 1 : Nat) : Int) by omega]
      have hk : B.length - 1 < B.length := by omega
      refine iFldQ (f := 0) (x := (gt B (B.length - 1)).1) hB24.1 hk (by decide) (by rw [cellsQ_at hk 0 (by decide)]; rfl) ?_
      refine iLenI (hB24.2 _ (by rw [gt_eq hk]; exact List.getElem_mem hk)) ?_
      rw [getD_snd B _ hk] at hlast
      rw [hlast]
      refine iNe ?_
      exact hJ2 _ (Ext.refl _)
    · intro _
      exact iCndF rfl (hJ _ (x24.trans x26) trivial)
  intro _
  have hP23 := hP20.ext x23
  have X23 := X20.trans x23
  refine iCall ((ok_impl_ClausesFormula hP23 hokP hl40).mono ?_)
  rintro r27 w27 ⟨x27, h27⟩
  have hP27 := hP23.ext x27
  have X27 := X23.trans x27
  have hnil : ∀ w', SlK 2 w' (.slice none 0 0) ([] : List (Nat × Nat)).length (ndF []) := fun w' => ⟨rfl, none, 0, rfl, Nat.le_refl _, by decide, .inl rfl⟩
  have hC := ok_spec_ClausesFormula hP27 hokP hl40
  rcases h27 with ⟨hg, rfl⟩ | ⟨hg, u27, rfl, hu27⟩
  · refine iE20 (iE21 ?_)
    refine iCall (hC.mono ?_)
    rintro r28 w28 ⟨x28, h28⟩
    rcases h28 with ⟨_, rfl⟩ | ⟨hg', _⟩
    rotate_left
    · omega
    refine iE20 (iE21 ?_)
    refine iJnB false w28 (fun J hJ => ?_) (fun w30 x30 => ?_)
    · refine iNe (iCndP (fun h => absurd rfl h) (fun _ => ?_))
      refine iRet (ok_laws_likeFormula5 (hnil w28) (hnil w28) (by decide)) fun w31 x31 => ?_
      exact iNot (hJ _ x31)
    intro _
    refine iCndF rfl ?_
    refine iNe (iCndT rfl ?_)
    refine iEq ?_
    exact ⟨rfl, (X27.trans x28).trans x30⟩
  · refine iE20 (iE21 ?_)
    refine iCall (hC.mono ?_)
    rintro r28 w28 ⟨x28, h28⟩
    rcases h28 with ⟨hg', _⟩ | ⟨_, u28, rfl, hu28⟩
    · omega
    refine iE20 (iE21 ?_)
    have toN : ∀ {f : Fm} {v : Value} {w : World}, FmS w v f → SlK 2 w v f.ndsF.length (ndF f.ndsF) := fun {f v w} h => by
      rw [f.ndsF_len, ← f.cells_ndF]; exact h
    have hv6 : (clausesF (P.map Prod.snd)).v6 := v6_clauses fun c hc => (hok c hc).1
    refine iJnB false w28 (fun J hJ => ?_) (fun w30 x30 => ?_)
    · refine iNe (iCndP (fun h => absurd rfl h) (fun _ => ?_))
      refine iRet (ok_laws_likeFormula5 (toN (SlK.ext hu27.sl x28)) (toN hu28.sl) (by rw [Fm.ndsF_len]; omega)) fun w31 x31 => ?_
      exact iNot (hJ _ x31)
    intro _
    refine iCndF rfl ?_
    refine iNe (iCndF rfl ?_)
    have X30 := (X27.trans x28).trans x30
    refine iCall ((ok_impl_FirstModel (hT.ext X30) (SlK.ext hu28.sl x30) hv6 hg).mono ?_)
    rintro _ w32 ⟨x32, m, kk, rfl, hk⟩
    refine iE20 (iE21 ?_)
    refine iEq (iEq ?_)
    refine ⟨_, _, rfl, rfl, ?_⟩
    have : decide (kk = 4) = decide (z = 0) := by
      refine decide_eq_decide.2 ?_
      rw [hk, hz0, ← unsat_iff hok]
      constructor
      · intro h r hr
        refine Classical.byContradiction fun hn => ?_
        have : ∀ c ∈ P.map Prod.snd, Sat r c := fun c hc => Classical.byContradiction fun hs => hn ⟨c, hc, hs⟩
        rw [← evT_clauses, h r hr] at this
        cases this
      · intro h r hr
        rw [← Bool.not_eq_true, evT_clauses]
        obtain ⟨c, hc, hs⟩ := h r hr
        exact fun ha => hs (ha c hc)
    rw [this]
    refine ⟨?_, X30.trans x32⟩
    cases decide (z = 0) <;> rfl
end Go.Proofs.YtfadcafacpaldaaGreatDoor
