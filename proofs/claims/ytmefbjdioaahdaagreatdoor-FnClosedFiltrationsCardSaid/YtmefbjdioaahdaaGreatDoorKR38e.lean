/- The proof of FnClosedFiltrationsCard, part 5 of 7. Conditions: none. -/
import Derived.Test.YtmefbjdioaahdaaGreatDoorKR38d
import Derived.Test.YtmefbjdioaahdaaGreatDoorRows
import Derived.Shelf.Strings.Search2
import Derived.Shelf.Strconv.Itoa3
import Derived.Lib.Builder
import Derived.Lib.AppendStr
import Derived.Lib.UnsafeStr
import Derived.Lib.IndexLaws
import Derived.WalkKit
import Derived.Laws.Externs
import Derived.Laws.BytesString
import Derived.Shelf.Small.Strs
import Derived.Maps.Own
import Derived.Lib.ItoaNum
import Derived.Lib.AppendIntMem
/- Contracts: the frame of the classes for a condition, in the program. Conditions: none. -/
namespace Go.Proofs.YtmefbjdioaahdaaGreatDoor
open Go.Vc
theorem clsS_gr (M : List Nat) : ∀ n, grB 0 (clsS M n).1 = true ∧ topG 0 (clsS M n).1 = (clsS M n).2.length
  | 0 => ⟨rfl, rfl⟩
  | n + 1 => by
    obtain ⟨h1, h2⟩ := clsS_gr M n
    rw [clsS]
    cases hf : (clsS M n).2.findIdx? fun u => alk M n u with
    | some k =>
      obtain ⟨hk, _, _⟩ := List.findIdx?_eq_some_iff_getElem.1 hf
      refine ⟨?_, ?_⟩
      · show grB 0 ((clsS M n).1 ++ [k]) = true
        rw [grB_app, h1, h2]
        simp [grB]; omega
      · show topG 0 ((clsS M n).1 ++ [k]) = _
        rw [topG_snoc, h2, if_neg (by omega)]
    | none =>
      refine ⟨?_, ?_⟩
      · show grB 0 ((clsS M n).1 ++ [(clsS M n).2.length]) = true
        rw [grB_app, h1, h2]
        simp [grB]
      · show topG 0 ((clsS M n).1 ++ [(clsS M n).2.length]) = ((clsS M n).2 ++ [n]).length
        rw [topG_snoc, h2, if_pos rfl, List.length_append]; rfl
/-- What the loops have seen: all of the first k worlds, and of the next the first j. -/
def anyK (n : Nat) (c : List Nat) (H : Nat → Nat → Bool) (k j x y : Nat) : Bool :=
  ((List.range k).any fun w => (List.range n).any fun v => H w v && (decide (c.getD w 0 = x) && decide (c.getD v 0 = y))) || (List.range j).any fun v => H k v && (decide (c.getD k 0 = x) && decide (c.getD v 0 = y))
theorem anyK_zero (n : Nat) (c : List Nat) (H : Nat → Nat → Bool) (x y : Nat) : anyK n c H 0 0 x y = false := rfl
theorem anyK_next (n : Nat) (c : List Nat) (H : Nat → Nat → Bool) (k x y : Nat) : anyK n c H k n x y = anyK n c H (k + 1) 0 x y := by
  unfold anyK
  rw [List.range_succ, List.any_append, List.any_cons, List.any_nil, Bool.or_false, List.range_zero, List.any_nil, Bool.or_false]
theorem anyK_full (n : Nat) (c : List Nat) (H : Nat → Nat → Bool) (x y : Nat) : anyK n c H n 0 x y = anyP n c H x y := by
  unfold anyK anyP
  rw [List.range_zero, List.any_nil, Bool.or_false]
theorem anyK_succ (n : Nat) (c : List Nat) (H : Nat → Nat → Bool) (k j x y : Nat) : anyK n c H k (j + 1) x y = (anyK n c H k j x y || (H k j && (decide (c.getD k 0 = x) && decide (c.getD j 0 = y)))) := by
  unfold anyK
  rw [List.range_succ, List.any_append, List.any_cons, List.any_nil, Bool.or_false, Bool.or_assoc]
theorem relA_succ {n m : Nat} {c : List Nat} {H : Nat → Nat → Bool} {k j : Nat} (hk : c.getD k 0 < m) (hj : c.getD j 0 < m) : relA m (anyK n c H k (j + 1)) = if H k j then (relA m (anyK n c H k j)).set (c.getD k 0) ((relA m (anyK n c H k j)).getD (c.getD k 0) 0 ||| 2 ^ c.getD j 0) else relA m (anyK n c H k j) := by
  cases hH : H k j
  · rw [if_neg (by simp)]
    refine relA_congr fun x y _ _ => ?_
    rw [anyK_succ, hH, Bool.false_and, Bool.or_false]
  · rw [if_pos rfl]
    refine (list_eq_iff (n := m) (relA_len _ _) (by rw [List.length_set, relA_len])).2 fun x hx y => ?_
    rw [getD_setQ (by rw [relA_len]; exact hk), Bool.eq_iff_iff, relA_bit, anyK_succ, hH, Bool.true_and, Bool.or_eq_true, Bool.and_eq_true, decide_eq_true_eq, decide_eq_true_eq]
    by_cases e : x = c.getD k 0
    · rw [if_pos e, Nat.testBit_or, Bool.or_eq_true, relA_bit, Nat.testBit_two_pow, decide_eq_true_eq, ← e]
      constructor
      · rintro ⟨h1, h2, h3 | h3⟩
        · exact .inl ⟨h1, h2, h3⟩
        · exact .inr h3.2
      · rintro (h | h)
        · exact ⟨h.1, h.2.1, .inl h.2.2⟩
        · exact ⟨hx, by omega, .inr ⟨rfl, h⟩⟩
    · rw [if_neg e, relA_bit]
      constructor
      · rintro ⟨h1, h2, h3 | h3⟩
        · exact ⟨h1, h2, h3⟩
        · exact absurd h3.1.symm e
      · rintro ⟨h1, h2, h3⟩
        exact ⟨h1, h2, .inl h3⟩
theorem relA_lt {m : Nat} (hm : m ≤ 8) (P : Nat → Nat → Bool) (x : Nat) : (relA m P).getD x 0 < 2 ^ 8 := fr_lt63 (relA_ok hm P) x
theorem ok_impl_filter_frame {f : Fr} (hf : f.ok) {V : List Nat} {a : Fm} {c : List Nat} {b : Nat} {w : World} (hF : FlW w b f V a c) (hcl : c.length = f.n) (hg : grB 0 c = true) {fv : Value} (H : Nat → Nat → Bool) (hH : ∀ x y, x < f.n → y < f.n → ∀ w', Ext w w' → callV Tryz.prog fv [.int .i64 (x : Int), .int .i64 (y : Int)] w' fun u w'' => u = .bool (H x y) ∧ Ext w' w'') :
    Cal Tryz.prog f_impl_filter_frame #[.pointer (some ⟨b, 0, none⟩), fv] w fun r w' => Ext w w' ∧ ∃ u, r = .agg #[.int .i64 ((topG 0 c : Nat) : Int), u] ∧ Ow w.heap.size t_i64 w' u (ints (nats (relA (topG 0 c) (anyP f.n c H)))) := by
  have h8 := hf.1
  have htop := topG_le c 0
  have hclt := grB_lt c 0 hg
  obtain ⟨va, vv, vn, vc, vb, vd, hB, _, _, _, hc, _, _⟩ := hF
  apply c_impl_filter_frame; unfold S_impl_filter_frame
  refine iNew fun b4 w1 hb4 x1 hB4 => ?_
  have hB4 : Blk t_impl_Frame w1 b4 [.int .i64 0, .slice none 0 0] := hB4
  refine iNil (iFa (iLdB (hB.ext x1) (i := 4) (v := vc) rfl ?_))
  refine iRet (ok_impl_classCount (hc.ext x1) hg) fun w2 x2 => ?_
  refine iMk (by omega) (by omega) rfl fun bo w3 hbo x3 hBo => ?_
  have X3 := (x1.trans x2).trans x3
  have ez : relA (topG 0 c) (anyK f.n c H 0 0) = List.replicate (topG 0 c) 0 := by
    refine (list_eq_iff (n := topG 0 c) (relA_len _ _) List.length_replicate).2 fun x hx y => ?_
    rw [show (List.replicate (topG 0 c) 0).getD x 0 = 0 by simp [hx], Nat.zero_testBit, Bool.eq_false_iff]
    intro h
    have := (relA_bit.1 h).2.2
    rw [anyK_zero] at this; cases this
  have hoz : Ow w.heap.size t_i64 w3 (.slice (some ⟨bo, 0, none⟩) (topG 0 c) (topG 0 c)) (ints (nats (relA (topG 0 c) (anyK f.n c H 0 0)))) := by
    rw [ez]
    have e : ints (nats (List.replicate (topG 0 c) 0)) = List.replicate (topG 0 c) (.int .i64 0) := by simp [ints, nats]
    rw [e]
    exact Ow.ofBlk hBo (by have := (x1.trans x2).size; omega) (by simp) (by omega)
  generalize hvo : (Value.slice (some ⟨bo, 0, none⟩) (topG 0 c) (topG 0 c)) = vo at *
  refine iNil (iFa (iFa (iFa (iLdB (hB.ext X3) (i := 0) (v := .int .i64 (f.n : Int)) rfl ?_))))
  refine iLp (fun k : Nat => [.int .i64 (k : Int)]) (fun k w' => k ≤ f.n ∧ Ext w w' ∧ Blk t_impl_Frame w' b4 [.int .i64 0, .slice none 0 0] ∧ Ow w.heap.size t_i64 w' vo (ints (nats (relA (topG 0 c) (anyK f.n c H k 0))))) (fun k => f.n - k) 0 rfl ⟨Nat.zero_le _, X3, hB4.ext (x2.trans x3), hoz⟩ ?_
  rintro k w5 Kn ⟨hk, x5, hB45, ho5⟩ hKn
  intro _
  simp only [gx]
  refine iLt (iCndP (fun h => ?_) (fun h => ?_))
  · have hk1 : k < f.n := by omega
    refine iNil (iFa (iFa (iFa (iLdB (hB.ext x5) (i := 0) (v := .int .i64 (f.n : Int)) rfl ?_))))
    refine iLp (fun j : Nat => [.int .i64 (j : Int)]) (fun j w' => j ≤ f.n ∧ Ext w w' ∧ Blk t_impl_Frame w' b4 [.int .i64 0, .slice none 0 0] ∧ Ow w.heap.size t_i64 w' vo (ints (nats (relA (topG 0 c) (anyK f.n c H k j))))) (fun j => f.n - j) 0 rfl ⟨Nat.zero_le _, x5, hB45, ho5⟩ ?_
    rintro j w7 Kn7 ⟨hj, x7, hB47, ho7⟩ hKn7
    intro _
    simp only [gx]
    refine iLt (iCndP (fun h2 => ?_) (fun h2 => ?_))
    · have hj1 : j < f.n := by omega
      have hck : c.getD k 0 < topG 0 c := hclt _ (by rw [show c.getD k 0 = c[k]'(by omega) by simp [show k < c.length by omega]]; exact List.getElem_mem _)
      have hcj : c.getD j 0 < topG 0 c := hclt _ (by rw [show c.getD j 0 = c[j]'(by omega) by simp [show j < c.length by omega]]; exact List.getElem_mem _)
      have hstep := relA_succ (n := f.n) (H := H) hck hcj
      refine (hH k j hk1 hj1 w7 x7).mono ?_
      rintro _ w8 ⟨rfl, x8⟩
      have X8 := x7.trans x8
      have ho8 := ho7.ext x8
      refine iCnd (fun hh => ?_) (fun hh => ?_)
      · rw [if_pos hh] at hstep
        have hlen : (ints (nats (relA (topG 0 c) (anyK f.n c H k j)))).length = topG 0 c := by rw [ints_length, nats_length, relA_len]
        refine iNil (iFa (iLdB (hB.ext X8) (i := 4) (v := vc) rfl ?_))
        refine iIaNN (hc.ext X8) (by omega) fun p hp => iLd hp ?_
        refine iIaNN (show SlN w8 vo _ from ho8.sl) (by rw [relA_len]; exact hck) fun p hp => iLd hp ?_
        refine iNil (iFa (iLdB (hB.ext X8) (i := 4) (v := vc) rfl ?_))
        refine iIaNN (hc.ext X8) (by omega) fun p hp => iLd hp ?_
        refine iShlOne (by omega) ?_
        have g1 := relA_lt (m := topG 0 c) (by omega) (anyK f.n c H k j) (c.getD k 0)
        have g2 : 2 ^ c.getD j 0 < 2 ^ 8 := Nat.pow_lt_pow_right (by omega) (by omega)
        refine iBOr (by omega) (by omega) ?_
        refine iIaOwE ho8 (by omega) fun bu hbu hwr => ?_
        intro w9 x9
        obtain ⟨hc1, hc2, hc3⟩ := hwr w9 _ rfl (ho8.ext x9)
        rw [List.getElem?_eq_getElem (by omega)] at hc1
        refine iSt hc1 hc2 rfl ?_
        have ho10 := hc3 (.int .i64 (((relA (topG 0 c) (anyK f.n c H k j)).getD (c.getD k 0) 0 ||| 2 ^ c.getD j 0 : Nat) : Int))
        rw [← ints_nats_set, ← hstep] at ho10
        have hu := Upd.setCell w9 bu (c.getD k 0) (.int .i64 (((relA (topG 0 c) (anyK f.n c H k j)).getD (c.getD k 0) 0 ||| 2 ^ c.getD j 0 : Nat) : Int))
        have hne : b4 ≠ bu := fun e => by
          subst e
          exact (ho8.ext x9).ne_blk ((hB47.ext x8).ext x9) (by decide) hbu
        intro w11 x11
        refine iAdd (by omega) ?_
        exact hKn7 (j + 1) _ ⟨by omega, ((X8.trans x9).upd hu (ho8.blk bu hbu).1).trans x11, ((((hB47.ext x8).ext x9).upd hu hne)).ext x11, ho10.ext x11⟩ (by omega)
      · rw [hh, if_neg (by simp)] at hstep
        refine iAdd (by omega) ?_
        exact hKn7 (j + 1) _ ⟨by omega, X8, hB47.ext x8, by rw [hstep]; exact ho8⟩ (by omega)
    · have : j = f.n := by omega
      subst this
      refine iAdd (by omega) ?_
      refine hKn (k + 1) _ ⟨by omega, x7, hB47, ?_⟩ (by omega)
      rw [relA_congr fun x y _ _ => (anyK_next f.n c H k x y).symm]
      exact ho7
  · have : k = f.n := by omega
    subst this
    rw [relA_congr fun x y _ _ => anyK_full f.n c H x y] at ho5
    refine iCall ((ok_impl_frameOf ho5).mono ?_)
    rintro _ w12 ⟨x12, u, rfl, ho12⟩
    rw [nats_length, relA_len]
    refine iStAB (hB45.ext x12) rfl rfl (ho12.pair _) fun w13 hu hB13 => ?_
    refine iLdA hB13 rfl ?_
    exact ⟨(x5.trans x12).upd hu (by omega), u, rfl, ho12.upd hu (ho12.ne_blk (hB45.ext x12) (by decide))⟩
end Go.Proofs.YtmefbjdioaahdaaGreatDoor

/- Contracts: the least and the greatest filtration; which frames are filtrations, in the program. Conditions: none. -/
namespace Go.Proofs.YtmefbjdioaahdaaGreatDoor
open Go.Vc
/-- The greatest filtration, as the program makes it. -/
def graA (f : Fr) (V : List Nat) (a : Fm) (c : List Nat) : List Nat := relA (topG 0 c) (anyP f.n c fun x y => mayB (mdM f V a) false x y)
theorem ok_impl_filter_least {f : Fr} (hf : f.ok) {V : List Nat} {a : Fm} {c : List Nat} {b : Nat} {w : World} (hF : FlW w b f V a c) (hcl : c.length = f.n) (hg : grB 0 c = true) :
    Cal Tryz.prog f_impl_filter_least #[.pointer (some ⟨b, 0, none⟩)] w fun r w' => Ext w w' ∧ ∃ u, r = .agg #[.int .i64 ((topG 0 c : Nat) : Int), u] ∧ Ow w.heap.size t_i64 w' u (ints (nats (leaA f c (topG 0 c)))) := by
  have h8 := hf.1
  have hF' := hF
  obtain ⟨va, vv, vn, vc, vb, vd, hB, hva, _, _, _, _, _⟩ := hF'
  apply c_impl_filter_least; unfold S_impl_filter_least
  refine iNew fun b4 w1 hb4 x1 hB4 => ?_
  have hB4 : Blk t_impl_Frame w1 b4 [.int .i64 0, .slice none 0 0] := hB4
  refine iNil (iFa (iFa (iLdP (n := 2) (hB.ext x1) (by simp) ?_)))
  refine iCall ((ok_impl_filter_frame hf (hF.ext x1) hcl hg (fun x y => (f.a.getD x 0).testBit y) fun x y hx hy w2 x2 => ?_).mono ?_)
  · refine iClo (f := f_impl_Frame_sees) (first := #[.agg #[.int .i64 (f.n : Int), va]]) (cap := #[]) rfl ?_
    exact (ok_impl_Frame_sees hf (hva.ext (x1.trans x2)) x y hx (by omega)).mono fun _ _ h => h
  · rintro _ w3 ⟨x3, u, rfl, ho⟩
    refine iStAB (hB4.ext x3) rfl rfl (ho.pair _) fun w4 hu hB5 => ?_
    refine iLdA hB5 rfl ?_
    exact ⟨(x1.trans x3).upd hu (by omega), u, rfl, (ho.upd hu (ho.ne_blk (hB4.ext x3) (by decide))).mono x1.size⟩
theorem ok_impl_filter_greatest {f : Fr} (hf : f.ok) {V : List Nat} (hV : ∀ x ∈ V, x < 2 ^ f.n) {a : Fm} {c : List Nat} {b : Nat} {w : World} (hF : FlW w b f V a c) (hcl : c.length = f.n) (hg : grB 0 c = true) :
    Cal Tryz.prog f_impl_filter_greatest #[.pointer (some ⟨b, 0, none⟩)] w fun r w' => Ext w w' ∧ ∃ u, r = .agg #[.int .i64 ((topG 0 c : Nat) : Int), u] ∧ Ow w.heap.size t_i64 w' u (ints (nats (graA f V a c))) := by
  apply c_impl_filter_greatest; unfold S_impl_filter_greatest
  refine iNew fun b4 w1 hb4 x1 hB4 => ?_
  have hB4 : Blk t_impl_Frame w1 b4 [.int .i64 0, .slice none 0 0] := hB4
  refine iCall ((ok_impl_filter_frame hf (hF.ext x1) hcl hg (fun x y => mayB (mdM f V a) false x y) fun x y hx hy w2 x2 => ?_).mono ?_)
  · refine iClo (f := f_impl_filter_allows) (first := #[.pointer (some ⟨b, 0, none⟩)]) (cap := #[]) rfl ?_
    exact (ok_impl_filter_allows hf hV (hF.ext (x1.trans x2)) hx hy).mono fun _ _ h => h
  · rintro _ w3 ⟨x3, u, rfl, ho⟩
    refine iStAB (hB4.ext x3) rfl rfl (ho.pair _) fun w4 hu hB5 => ?_
    refine iLdA hB5 rfl ?_
    exact ⟨(x1.trans x3).upd hu (by omega), u, rfl, (ho.upd hu (ho.ne_blk (hB4.ext x3) (by decide))).mono x1.size⟩
/-- Whether a frame is a filtration, as the program looks. -/
def isfB (m : Nat) (low high : List Nat) (g : Fr) : Bool := decide (g.n = m) && (List.range g.n).all fun x => decide (sdiff (low.getD x 0) (g.a.getD x 0) = 0) && decide (sdiff (g.a.getD x 0) (high.getD x 0) = 0)
theorem isfB_betw {m : Nat} {low high : List Nat} {g : List Nat} (h : betw low high g m) : isfB m low high ⟨m, g⟩ = true := by
  unfold isfB
  rw [Bool.and_eq_true, decide_eq_true_eq, List.all_eq_true]
  refine ⟨rfl, fun x hx => ?_⟩
  obtain ⟨h1, h2⟩ := h.2 x (List.mem_range.1 hx)
  rw [Bool.and_eq_true, decide_eq_true_eq, decide_eq_true_eq]
  exact ⟨h1, h2⟩
theorem ok_impl_filter_isFiltration {f : Fr} (hf : f.ok) {V : List Nat} (hV : ∀ x ∈ V, x < 2 ^ f.n) {a : Fm} {c : List Nat} {b : Nat} {w : World} (hF : FlW w b f V a c) (hcl : c.length = f.n) (hg : grB 0 c = true) {g : Fr} (hgk : g.ok) {vg : Value} (hs : SlN w vg g.a) :
    Ret Tryz.prog f_impl_filter_isFiltration #[.pointer (some ⟨b, 0, none⟩), .agg #[.int .i64 (g.n : Int), vg]] w (.bool (isfB (topG 0 c) (leaA f c (topG 0 c)) (graA f V a c) g)) := by
  have h8 := hf.1
  have hg8 := hgk.1
  have hgl := hgk.2.1
  have htop := topG_le c 0
  apply c_impl_filter_isFiltration; unfold S_impl_filter_isFiltration
  refine iNew fun b3 w1 hb3 x1 hB3 => ?_
  have hB3 : Blk t_impl_Frame w1 b3 [.int .i64 (g.n : Int), vg] := hB3
  refine iCall ((ok_impl_filter_least hf (hF.ext x1) hcl hg).mono ?_)
  rintro _ w2 ⟨x2, u1, rfl, ho1⟩
  refine iCall ((ok_impl_filter_greatest hf hV (hF.ext (x1.trans x2)) hcl hg).mono ?_)
  rintro _ w3 ⟨x3, u2, rfl, ho2⟩
  refine iNew fun b5 w4 hb5 x4 hB5 => ?_
  refine iNew fun b6 w5 hb6 x5 hB6 => ?_
  have hB5 : Blk t_impl_Frame w5 b5 [.int .i64 0, .slice none 0 0] := hB5.ext x5
  have hB6 : Blk t_impl_Frame w5 b6 [.int .i64 0, .slice none 0 0] := hB6
  have x35 := x4.trans x5
  have ho1 := (ho1.ext x3).ext x35
  have ho2 := ho2.ext x35
  refine iStAB hB5 rfl rfl (ho1.pair _) fun w6 hu6 hB5' => ?_
  have n56 : b5 ≠ b6 := by omega
  have ho1 := ho1.upd hu6 (ho1.ne_blk hB5 (by decide))
  have ho2 := ho2.upd hu6 (ho2.ne_blk hB5 (by decide))
  have hB66 := hB6.upd hu6 (fun e => n56 e.symm)
  refine iStAB hB66 rfl rfl (ho2.pair _) fun w7 hu7 hB6' => ?_
  have ho1 := ho1.upd hu7 (ho1.ne_blk hB66 (by decide))
  have ho2 := ho2.upd hu7 (ho2.ne_blk hB66 (by decide))
  have hB5' : Blk t_impl_Frame w7 b5 [.int .i64 ((topG 0 c : Nat) : Int), u1] := Blk.upd hB5' hu7 n56
  have hB6' : Blk t_impl_Frame w7 b6 [.int .i64 ((topG 0 c : Nat) : Int), u2] := hB6'
  have x13 := x2.trans x3
  have z13 := x13.size
  have z35 := x35.size
  have x17 : Ext w1 w7 := ((x13.trans x35).upd hu6 (by omega)).upd hu7 (by have := x4.size; omega)
  have X7 := x1.trans x17
  have hB37 := hB3.ext x17
  have hs7 := hs.ext X7
  refine iJnB (isfB (topG 0 c) (leaA f c (topG 0 c)) (graA f V a c) g) w7 (fun J hJ => ?_) (fun w9 x9 => fun _ => ⟨by first | trivial | rfl, X7.trans x9⟩)
  unfold isfB at hJ
  refine iFa (iLdB hB37 (i := 0) rfl ?_)
  refine iFa (iLdB hB5' (i := 0) rfl ?_)
  refine iEq (iCndP (fun he => ?_) (fun he => ?_))
  · have he : g.n = topG 0 c := by omega
    rw [decide_eq_true he, Bool.true_and] at hJ
    refine iLdA hB37 rfl ?_
    refine iRet (ok_impl_Frame_everyWorld (n := g.n) (u := vg) (fun x => decide (sdiff ((leaA f c (topG 0 c)).getD x 0) (g.a.getD x 0) = 0) && decide (sdiff (g.a.getD x 0) ((graA f V a c).getD x 0) = 0)) (by omega) w7 fun w8 x8 x hx => ?_) fun w10 x10 => hJ _ x10
    refine iClo (f := f_impl_filter_isFiltration_1) (first := #[]) (cap := #[.pointer (some ⟨b5, 0, none⟩), .pointer (some ⟨b3, 0, none⟩), .pointer (some ⟨b6, 0, none⟩)]) rfl ?_
    refine c_impl_filter_isFiltration_1 ?_
    unfold S_impl_filter_isFiltration_1
    have g0 := fr_lt63 hgk x
    have g1 := relA_lt (m := topG 0 c) (by omega) (anyP f.n c fun w v => (f.a.getD w 0).testBit v) x
    have g2 := relA_lt (m := topG 0 c) (by omega) (anyP f.n c fun x y => mayB (mdM f V a) false x y) x
    have g1 : (leaA f c (topG 0 c)).getD x 0 < 2 ^ 8 := g1
    have g2 : (graA f V a c).getD x 0 < 2 ^ 8 := g2
    have l1 : (leaA f c (topG 0 c)).length = topG 0 c := relA_len _ _
    have l2 : (graA f V a c).length = topG 0 c := relA_len _ _
    have hb5 := hB5'.ext x8
    have hb3 := hB37.ext x8
    have hb6 := hB6'.ext x8
    have hs8 := hs7.ext x8
    have hs1 : SlN w8 u1 (leaA f c (topG 0 c)) := (ho1.ext x8).sl
    have hs2 : SlN w8 u2 (graA f V a c) := (ho2.ext x8).sl
    refine iJnB (decide (sdiff ((leaA f c (topG 0 c)).getD x 0) (g.a.getD x 0) = 0) && decide (sdiff (g.a.getD x 0) ((graA f V a c).getD x 0) = 0)) w8 (fun J1 hJ1 => ?_) (fun w9 x9 => fun _ => ⟨by first | trivial | rfl, x9⟩)
    refine iFa (iLdB hb5 (i := 1) rfl ?_)
    refine iIaNN hs1 (by omega) fun p hp => iLd hp ?_
    refine iFa (iLdB hb3 (i := 1) rfl ?_)
    refine iIaNN hs8 (by omega) fun p hp => iLd hp ?_
    refine iRetQ (fun w' _ => ok_impl_within _ _ (by omega) (by omega) w') ?_
    refine iCnd (fun h => ?_) (fun h => ?_)
    · rw [h, Bool.true_and] at hJ1
      refine iFa (iLdB hb3 (i := 1) rfl ?_)
      refine iIaNN hs8 (by omega) fun p hp => iLd hp ?_
      refine iFa (iLdB hb6 (i := 1) rfl ?_)
      refine iIaNN hs2 (by omega) fun p hp => iLd hp ?_
      refine iRetQ (fun w' _ => ok_impl_within _ _ (by omega) (by omega) w') ?_
      exact hJ1
    · rw [h, Bool.false_and] at hJ1
      exact hJ1
  · rw [decide_eq_false (show ¬ g.n = topG 0 c by omega), Bool.false_and] at hJ
    exact hJ _ (Ext.refl _)
end Go.Proofs.YtmefbjdioaahdaaGreatDoor

/- Contracts: the readers of formulas in the program and the reference say what the grammar says. Conditions: none. -/
namespace Go.Vc
end Go.Vc
namespace Go.Proofs.YtmefbjdioaahdaaGreatDoor
open Go.Vc
end Go.Proofs.YtmefbjdioaahdaaGreatDoor

/- Contracts: the reference's reader of formulas says what the grammar says; ParseFormula. Conditions: none. -/
namespace Go.Vc
end Go.Vc
namespace Go.Proofs.YtmefbjdioaahdaaGreatDoor
open Go.Vc
end Go.Proofs.YtmefbjdioaahdaaGreatDoor

/- Plain maths: names, references in a text, and what is put in their place. No program in sight. Conditions: none. -/
namespace Go.Vc
end Go.Vc

/- The library functions whose contracts lie on the shelf, found in this program. Conditions: none. -/
namespace Go.Proofs.YtmefbjdioaahdaaGreatDoor
open Go.Shelf
def laysM246_ren : Go.Shelf.Ren := ⟨fun | 246 => 141 | 283 => 152 | 284 => 153 | 285 => 154 | 286 => 155 | 129 => 161 | 317 => 160 | 318 => 162 | 319 => 163 | 320 => 164 | 337 => 175 | 338 => 176 | n => n, fun | 2 => 2 | 3 => 3 | 9 => 9 | 4 => 4 | 171 => 142 | 0 => 0 | 53 => 102 | 37 => 22 | 5 => 5 | 173 => 144 | 212 => 151 | 51 => 152 | 20 => 20 | 213 => 153 | 46 => 108 | 232 => 170 | 233 => 171 | n => n, fun | 17 => 0 | 18 => 1 | 19 => 2 | n => n⟩
theorem laysM246 : Go.Proofs.LaysM.n246 Tryz.prog laysM246_ren := {
  mixed := by kernel_rfl
  f129 := Tryz.func161.trans (congrArg some (by kernel_rfl))
  f246 := Tryz.func141.trans (congrArg some (by kernel_rfl))
  f283 := Tryz.func152.trans (congrArg some (by kernel_rfl))
  f284 := Tryz.func153.trans (congrArg some (by kernel_rfl))
  f285 := Tryz.func154.trans (congrArg some (by kernel_rfl))
  f286 := Tryz.func155.trans (congrArg some (by kernel_rfl))
  f317 := Tryz.func160.trans (congrArg some (by kernel_rfl))
  f318 := Tryz.func162.trans (congrArg some (by kernel_rfl))
  f319 := Tryz.func163.trans (congrArg some (by kernel_rfl))
  f320 := Tryz.func164.trans (congrArg some (by kernel_rfl))
  f337 := Tryz.func175.trans (congrArg some (by kernel_rfl))
  f338 := Tryz.func176.trans (congrArg some (by kernel_rfl))
  t0 := Tryz.underlying0
  a0 := Tryz.isAgg0
  z0 := Tryz.sizeOf0
  v0 := Tryz.zeroValue0
  t2 := Tryz.underlying2
  a2 := Tryz.isAgg2
  z2 := Tryz.sizeOf2
  v2 := Tryz.zeroValue2
  t3 := Tryz.underlying3
  a3 := Tryz.isAgg3
  z3 := Tryz.sizeOf3
  v3 := Tryz.zeroValue3
  t4 := Tryz.underlying4
  a4 := Tryz.isAgg4
  z4 := Tryz.sizeOf4
  v4 := Tryz.zeroValue4
  t5 := Tryz.underlying5
  a5 := Tryz.isAgg5
  z5 := Tryz.sizeOf5
  v5 := Tryz.zeroValue5
  t9 := Tryz.underlying9
  a9 := Tryz.isAgg9
  z9 := Tryz.sizeOf9
  v9 := Tryz.zeroValue9
  t20 := Tryz.underlying20
  a20 := Tryz.isAgg20
  z20 := Tryz.sizeOf20
  v20 := Tryz.zeroValue20
  t37 := Tryz.underlying22
  a37 := Tryz.isAgg22
  z37 := Tryz.sizeOf22
  v37 := Tryz.zeroValue22
  t46 := Tryz.underlying108
  a46 := Tryz.isAgg108
  z46 := Tryz.sizeOf108
  v46 := Tryz.zeroValue108
  t51 := Tryz.underlying152
  a51 := Tryz.isAgg152
  z51 := Tryz.sizeOf152
  v51 := Tryz.zeroValue152
  t53 := Tryz.underlying102
  a53 := Tryz.isAgg102
  z53 := Tryz.sizeOf102
  v53 := Tryz.zeroValue102
  t171 := Tryz.underlying142
  a171 := Tryz.isAgg142
  z171 := Tryz.sizeOf142
  v171 := Tryz.zeroValue142
  t173 := Tryz.underlying144
  a173 := Tryz.isAgg144
  z173 := Tryz.sizeOf144
  v173 := Tryz.zeroValue144
  t212 := Tryz.underlying151
  a212 := Tryz.isAgg151
  z212 := Tryz.sizeOf151
  v212 := Tryz.zeroValue151
  t213 := Tryz.underlying153
  a213 := Tryz.isAgg153
  z213 := Tryz.sizeOf153
  t232 := Tryz.underlying170
  a232 := Tryz.isAgg170
  z232 := Tryz.sizeOf170
  v232 := Tryz.zeroValue170
  t233 := Tryz.underlying171
  a233 := Tryz.isAgg171
  z233 := Tryz.sizeOf171
  v233 := Tryz.zeroValue171
  g17 := by kernel_rfl
  g18 := by kernel_rfl
  g19 := by kernel_rfl
  i0 := by kernel_rfl
  i2 := by kernel_rfl
  i3 := by kernel_rfl
  i4 := by kernel_rfl
  i5 := by kernel_rfl
  i9 := by kernel_rfl
  i20 := by kernel_rfl
  i37 := by kernel_rfl
  i46 := by kernel_rfl
  i51 := by kernel_rfl
  i53 := by kernel_rfl
  i171 := by kernel_rfl
  i173 := by kernel_rfl
  i212 := by kernel_rfl
  i232 := by kernel_rfl
  i233 := by kernel_rfl
  m17 := by kernel_rfl
  m18 := by kernel_rfl
  m19 := by kernel_rfl }
end Go.Proofs.YtmefbjdioaahdaaGreatDoor

/- Contracts: strings.Cut at one byte; strings.Builder; strings.IndexFunc and names. Conditions: none. -/
namespace Go.Vc
open Go.RowKit (Below)
section
variable {P : Program} {w : World}
end
end Go.Vc
namespace Go.Proofs.YtmefbjdioaahdaaGreatDoor
open Go.Vc
end Go.Proofs.YtmefbjdioaahdaaGreatDoor

/- Contracts: writing to and reading a strings.Builder; the first byte that is no small letter; names. Conditions: none. -/
namespace Go.Vc
open Go.RowKit (Below)
end Go.Vc
namespace Go.Proofs.YtmefbjdioaahdaaGreatDoor
open Go.Vc
end Go.Proofs.YtmefbjdioaahdaaGreatDoor

/- Contracts: a text's pieces and references in the reference (l36Cut, l36Fill, l36Form). Conditions: none. -/
namespace Go.Vc
/-! ### Rows of strings -/
def strs (L : List Str) : List Value := L.map sv
theorem strs_len (L : List Str) : (strs L).length = L.length := List.length_map _
abbrev SlT (w : World) (v : Value) (L : List Str) : Prop := Sl w v (strs L)
theorem iIaT {w : World} {v : Value} {L : List Str} {j : Nat} {k : IntKind} {K : Value → Prop} (hs : SlT w v L) (hj : j < L.length) (h : ∀ p, w.cell? p = some (sv L[j]) → K (.pointer (some p))) : xIa 1 v (.int k (j : Int)) K := by
  refine iIa hs (by omega) (by rw [strs_len]; omega) fun p hp => h p (hp.trans ?_)
  rw [Int.toNat_natCast]
  simp [strs, hj]
theorem iLenStr {w : World} {v : Value} {L : List Str} {K : Value → Prop} (hs : SlT w v L) (h : K (.int .i64 (L.length : Nat))) : xLenS v K := iLenS hs (by rw [strs_len]; exact h)
end Go.Vc
namespace Go.Proofs.YtmefbjdioaahdaaGreatDoor
open Go.Vc
end Go.Proofs.YtmefbjdioaahdaaGreatDoor

/- Contracts: a text with its references replaced, in the program (replaced, isExpression, references$1). Conditions: none. -/
namespace Go.Vc
open Go.RowKit (Below)
end Go.Vc
namespace Go.Proofs.YtmefbjdioaahdaaGreatDoor
open Go.Vc
end Go.Proofs.YtmefbjdioaahdaaGreatDoor

/- Contracts: sorting strings in place (the parts of pdqsort). Conditions: none. -/
namespace Go.Proofs.YtmefbjdioaahdaaGreatDoor
open Go.Vc
end Go.Proofs.YtmefbjdioaahdaaGreatDoor

/- Contracts: the helpers of pdqsort that draw places: lengths of numbers, xorshift, pivots. Conditions: none. -/
namespace Go.Vc
end Go.Vc
namespace Go.Proofs.YtmefbjdioaahdaaGreatDoor
open Go.Vc
end Go.Proofs.YtmefbjdioaahdaaGreatDoor

/- Contracts: pivots, partitions and the trial of insertion of pdqsort. Conditions: none. -/
namespace Go.Proofs.YtmefbjdioaahdaaGreatDoor
open Go.Vc
end Go.Proofs.YtmefbjdioaahdaaGreatDoor

/- Contracts: partition, the trial of insertion and pdqsort itself, on strings. Conditions: none. -/
namespace Go.Vc
end Go.Vc
namespace Go.Proofs.YtmefbjdioaahdaaGreatDoor
open Go.Vc
end Go.Proofs.YtmefbjdioaahdaaGreatDoor

/- Plain facts on sets of texts in order: insertion, equal neighbours dropped, one list for each set. No program in sight. Conditions: none. -/
namespace Go.Vc
/-! ### Marks -/
end Go.Vc

/- Contracts: sets of texts in order (slices.Compact, put; l02Insert, l27Set). Conditions: none. -/
namespace Go.Vc
end Go.Vc
namespace Go.Proofs.YtmefbjdioaahdaaGreatDoor
open Go.Vc
end Go.Proofs.YtmefbjdioaahdaaGreatDoor

/- Contracts: the references of an expression, in the program and in the reference; the laws' helpers for rows of texts. Conditions: none. -/
namespace Go.Vc
end Go.Vc
namespace Go.Proofs.YtmefbjdioaahdaaGreatDoor
open Go.Vc
open Go.RowKit (Below)
end Go.Proofs.YtmefbjdioaahdaaGreatDoor

/- Contracts: the kinds of formulas, as their text needs them. Conditions: none. -/
namespace Go.Proofs.YtmefbjdioaahdaaGreatDoor
open Go.Vc
end Go.Proofs.YtmefbjdioaahdaaGreatDoor

/- Contracts: the text of a formula and formulas read from texts, in the program and in the reference. Conditions: none. -/
namespace Go.Vc
end Go.Vc
namespace Go.Proofs.YtmefbjdioaahdaaGreatDoor
open Go.Vc
end Go.Proofs.YtmefbjdioaahdaaGreatDoor

/- Contracts: the text of a formula and formulas read from texts, in the reference. Conditions: none. -/
namespace Go.Proofs.YtmefbjdioaahdaaGreatDoor
open Go.Vc
end Go.Proofs.YtmefbjdioaahdaaGreatDoor

/- Contracts: rows of items (three cells each), in the laws' helpers, the program and the reference. Conditions: none. -/
namespace Go.Vc
/-! ### What is asked of items -/
end Go.Vc
namespace Go.Proofs.YtmefbjdioaahdaaGreatDoor
open Go.Vc
end Go.Proofs.YtmefbjdioaahdaaGreatDoor

/- Contracts: items asked and searched, rows of texts asked, in the program and the reference. Conditions: none. -/
namespace Go.Vc
end Go.Vc
namespace Go.Proofs.YtmefbjdioaahdaaGreatDoor
open Go.Vc
end Go.Proofs.YtmefbjdioaahdaaGreatDoor

/- Contracts: texts that use a name (Users), in the program and the reference; the law on it. Conditions: none. -/
namespace Go.Vc
theorem iIaG {w : World} {v : Value} {L : List Str} {z : Int} {j : Nat} {k : IntKind} {K : Value → Prop} (hs : SlT w v L) (hz : z = (j : Int)) (hj : j < L.length) (h : K (sv (gt L j))) : xIa 1 v (.int k z) fun p => xLd w p K := by
  subst hz
  exact iIaT hs hj fun p hp => iLd hp (by rw [← gt_eq hj]; exact h)
end Go.Vc
namespace Go.Proofs.YtmefbjdioaahdaaGreatDoor
open Go.Vc
end Go.Proofs.YtmefbjdioaahdaaGreatDoor

/- Maps from texts to the numbers of their first places. No function in sight. Conditions: none. -/
namespace Go.Vc
/-- The map holds each of these texts with its place, and nothing else. -/
def MapN (w : World) (b : Nat) (D : List Str) : Prop := ∃ es clock, w.heap[b]? = some (.map es clock) ∧ es.size = D.length ∧ ∀ i (h : i < D.length) (h2 : i < es.size), es[i].key = sv D[i] ∧ es[i].val = .int .i64 (i : Int)
theorem MapN.ext {w w' : World} {b : Nat} {D : List Str} (h : MapN w b D) (x : Ext w w') : MapN w' b D := by
  obtain ⟨es, clock, hb, h⟩ := h
  exact ⟨es, clock, by rw [Go.RowKit.Below.block x b (heap_lt hb)]; exact hb, h⟩
theorem MapN.ch {S : Nat → Prop} {w w' : World} {b : Nat} {D : List Str} (h : MapN w b D) (x : Ch S w w') (hn : ¬ S b) : MapN w' b D := by
  obtain ⟨es, clock, hb, h⟩ := h
  exact ⟨es, clock, by rw [x.block b (heap_lt hb) hn]; exact hb, h⟩
theorem MapN.ne_own {w : World} {b lo : Nat} {D : List Str} {e : TypeId} {v : Value} {xs : List Value} (h : MapN w b D) (ho : Ow lo e w v xs) : ∀ c, v.ownBlock = some c → ¬ c = b := by
  obtain ⟨es, clock, hb, h⟩ := h
  rintro c hc rfl
  obtain ⟨_, h0 | ⟨g, cap, cur, hv, hg, hh, _⟩⟩ := ho
  · rw [h0.1] at hc; cases hc
  · rw [hv] at hc
    cases hc
    rw [hh] at hb; cases hb
theorem MapN.ne_blk {w : World} {b q : Nat} {D : List Str} {e : TypeId} {cs : List Value} (h : MapN w b D) (hq : Blk e w q cs) : ¬ q = b := by
  obtain ⟨es, clock, hb, h⟩ := h
  rintro rfl
  unfold Blk at hq
  rw [hq] at hb; cases hb
theorem svN_inj {a b : Str} (h : sv a = sv b) : a = b := by
  have h1 : (⟨a.toArray⟩ : ByteArray) = ⟨b.toArray⟩ := Value.string.inj h
  have h2 : a.toArray = b.toArray := ByteArray.mk.inj h1
  simpa using congrArg Array.toList h2
theorem mapN_keys {es : Array MapEntry} {D : List Str} (hs : es.size = D.length) (h : ∀ i (h : i < D.length) (h2 : i < es.size), es[i].key = sv D[i] ∧ es[i].val = .int .i64 (i : Int)) : ∀ x ∈ es.toList, MapKept.IsKey .string x.key := fun x hx => by
  obtain ⟨i, hi, rfl⟩ := List.getElem_of_mem hx
  have hi' : i < es.size := by simpa using hi
  have := (h i (by omega) hi').1
  rw [Array.getElem_toList, this]; trivial
section
variable {P : Program} {t k e : TypeId} {D : List Str}
theorem iNumMade {w : World} {K : Value → World → Prop} (h : ∀ b w', b = w.heap.size → Ext w w' → MapN w' b [] → K (.map (some b)) w') : xOp P (Instr.makeMap t none) w K :=
  ⟨_, _, rfl, h _ _ rfl (Ext.alloc w _) ⟨#[], 0, heap_alloc_new w _, rfl, fun _ h => absurd h (Nat.not_lt_zero _)⟩⟩
/-- Looking up a text that is there, at its place. -/
theorem iNumHas {w : World} {b i : Nat} {ok : Bool} {K : Value → Prop} (h : MapN w b D) (hD : D.Nodup) (hi : i < D.length) (ht : P.underlying t = some (.map k e)) (hk : P.underlying k = some .string)
    (h1 : K (if ok then .tuple #[.int .i64 (i : Int), .bool true] else .int .i64 (i : Int))) : xR P w (Instr.lookup t (.map (some b)) (sv D[i]) ok) K := by
  obtain ⟨es, clock, hb, hs, hm⟩ := h
  have hb' : ∀ w', Ext w w' → w'.heap[b]? = some (.map es clock) := fun w' x => by rw [Go.RowKit.Below.block x b (heap_lt hb)]; exact hb
  rcases MapKept.findNow_spec (k := sv D[i]) (d := .string) trivial es.toList 0 (mapN_keys hs hm) with ⟨f1, f2⟩ | ⟨j, e0, f1, f2, f3⟩
  · have hi' : i < es.size := by omega
    exact absurd (hm i hi hi').1 (f2 es[i] (by simp))
  · have hj : j < es.size := by have := (List.getElem?_eq_some_iff.1 f2).1; simpa using this
    have he : es[j] = e0 := by
      have : es[j]? = some e0 := by simpa using f2
      rw [Array.getElem?_eq_getElem hj] at this
      exact Option.some.inj this
    obtain ⟨k1, k2⟩ := hm j (by omega) hj
    have hij : j = i := by
      rw [he, f3] at k1
      have e1 := svN_inj k1
      exact ((List.getElem_inj hD).1 e1).symm
    subst hij
    rw [he] at k2
    refine ⟨_, fun w' x => ?_, h1⟩
    cases ok <;> simp [Instr.lookup, run_underlying ht, MapKept.run_getObj_map (hb' w' x), MapKept.run_checkKey (k := sv D[j]) hk trivial, MapKept.run_findKey hk f1, Result.andThen, k2]
theorem iNumNo {w : World} {b : Nat} {s : Str} {z : Value} {K : Value → Prop} (h : MapN w b D) (hn : s ∉ D) (ht : P.underlying t = some (.map k e)) (hk : P.underlying k = some .string) (hz : ∀ w, (zeroValue e).run P w = .ok z w)
    (h0 : K (.tuple #[z, .bool false])) : xR P w (Instr.lookup t (.map (some b)) (sv s) true) K := by
  obtain ⟨es, clock, hb, hs, hm⟩ := h
  have hb' : ∀ w', Ext w w' → w'.heap[b]? = some (.map es clock) := fun w' x => by rw [Go.RowKit.Below.block x b (heap_lt hb)]; exact hb
  rcases MapKept.findNow_spec (k := sv s) (d := .string) trivial es.toList 0 (mapN_keys hs hm) with ⟨f1, f2⟩ | ⟨j, e0, f1, f2, f3⟩
  · refine ⟨_, fun w' x => ?_, h0⟩
    simp [Instr.lookup, run_underlying ht, MapKept.run_getObj_map (hb' w' x), MapKept.run_checkKey (k := sv s) hk trivial, MapKept.run_findKey hk f1, hz, Result.andThen]
  · have hj : j < es.size := by have := (List.getElem?_eq_some_iff.1 f2).1; simpa using this
    have he : es[j] = e0 := by
      have : es[j]? = some e0 := by simpa using f2
      rw [Array.getElem?_eq_getElem hj] at this
      exact Option.some.inj this
    obtain ⟨k1, _⟩ := hm j (by omega) hj
    rw [he, f3] at k1
    exact absurd (by rw [svN_inj k1]; exact List.getElem_mem _) hn
theorem iNumLen {w : World} {b : Nat} {ty : TypeId} {K : Value → Prop} (h : MapN w b D) (ht : P.underlying t = some (.map k e)) (h1 : K (.int .i64 (D.length : Int))) : xR P w (Builtin.len_ #[t] ty #[.map (some b)]) K := by
  obtain ⟨es, clock, hb, hs, _⟩ := h
  have hb' : ∀ w', Ext w w' → w'.heap[b]? = some (.map es clock) := fun w' x => by rw [Go.RowKit.Below.block x b (heap_lt hb)]; exact hb
  refine ⟨_, fun w' x => ?_, h1⟩
  simp [Builtin.len_, run_underlying ht, MapKept.run_getObj_map (hb' w' x), goInt, Result.andThen, hs]
theorem iNumPut {w : World} {b : Nat} {s : Str} {K : World → Prop} (h : MapN w b D) (hn : s ∉ D) (ht : P.underlying t = some (.map k e)) (hk : P.underlying k = some .string)
    (h1 : ∀ w', MapN w' b (D ++ [s]) → Ch (fun c => c = b) w w' → K w') : xOpU P (Instr.mapUpdate t (.map (some b)) (sv s) (.int .i64 (D.length : Int))) w K := by
  obtain ⟨es, clock, hb, hs, hm⟩ := h
  have hset : ∀ o, ({ w with heap := w.heap.setIfInBounds b o } : World).heap[b]? = some o ∧ Ch (fun c => c = b) w { w with heap := w.heap.setIfInBounds b o } := fun o =>
    ⟨(MapKept.heap_set hb).1, rfl, rfl, rfl, by simp, fun i _ hi => (MapKept.heap_set hb).2 i hi⟩
  rcases MapKept.findNow_spec (k := sv s) (d := .string) trivial es.toList 0 (mapN_keys hs hm) with ⟨f1, f2⟩ | ⟨j, e0, f1, f2, f3⟩
  · refine ⟨_, ?_, h1 { w with heap := w.heap.setIfInBounds b (.map (es.push ⟨sv s, .int .i64 (D.length : Int), clock⟩) (clock + 1)) } ⟨_, _, (hset _).1, by simp [hs], fun i hi h2 => ?_⟩ (hset _).2⟩
    · simp [Instr.mapUpdate, run_underlying ht, MapKept.run_getObj_map hb, MapKept.run_checkKey (k := sv s) hk trivial, MapKept.run_findKey hk f1, MapKept.run_setObj_map _ hb, Result.andThen]
    · rw [List.length_append, List.length_singleton] at hi
      by_cases h3 : i < es.size
      · rw [Array.getElem_push_lt h3, List.getElem_append_left (by omega)]
        exact hm i (by omega) h3
      · have : i = es.size := by omega
        subst this
        rw [Array.getElem_push_eq, List.getElem_append_right (by omega)]
        refine ⟨by simp [hs], by rw [hs]⟩
  · have hj : j < es.size := by have := (List.getElem?_eq_some_iff.1 f2).1; simpa using this
    have he : es[j] = e0 := by
      have : es[j]? = some e0 := by simpa using f2
      rw [Array.getElem?_eq_getElem hj] at this
      exact Option.some.inj this
    obtain ⟨k1, _⟩ := hm j (by omega) hj
    rw [he, f3] at k1
    exact absurd (by rw [svN_inj k1]; exact List.getElem_mem _) hn
end
end Go.Vc

/- Contracts: texts divided into classes of equal ones. Conditions: none. -/
namespace Go.Vc
/-- The distinct texts among the first k, and the class of each. -/
def kcS (L : List Str) : Nat → List Nat × List Str
  | 0 => ([], [])
  | k + 1 => ((kcS L k).1 ++ [(kcS L k).2.idxOf (gt L k)], if gt L k ∈ (kcS L k).2 then (kcS L k).2 else (kcS L k).2 ++ [gt L k])
theorem kcS_len (L : List Str) : ∀ k, (kcS L k).1.length = k ∧ (kcS L k).2.length ≤ k
  | 0 => ⟨rfl, Nat.le_refl _⟩
  | k + 1 => by
    obtain ⟨h1, h2⟩ := kcS_len L k
    rw [kcS]
    refine ⟨by rw [List.length_append, h1]; rfl, ?_⟩
    show (if _ then _ else _ : List Str).length ≤ _
    split
    · omega
    · rw [List.length_append, List.length_singleton]; omega
theorem kcS_nodup (L : List Str) : ∀ k, (kcS L k).2.Nodup
  | 0 => List.nodup_nil
  | k + 1 => by
    have ih := kcS_nodup L k
    rw [kcS]
    show (if _ then _ else _ : List Str).Nodup
    split
    · exact ih
    · rename_i h
      rw [List.nodup_append]
      exact ⟨ih, by simp, fun x hx y hy => by
        rw [List.mem_singleton] at hy
        subst hy
        exact fun e => h (by rw [← e]; exact hx)⟩
theorem idx_new {s : Str} : ∀ {D : List Str}, s ∉ D → (D ++ [s]).idxOf s = D.length ∧ D.idxOf s = D.length
  | [], _ => by simp
  | d :: D, h => by
    have h1 : ¬ d = s := fun e => h (by simp [e])
    have ih := idx_new (s := s) (D := D) fun m => h (List.mem_cons_of_mem _ m)
    rw [List.cons_append, List.idxOf_cons, List.idxOf_cons, show (d == s) = false by simpa using h1]
    simp [ih.1, ih.2]
theorem zeroI64 {P : Program} {t : TypeId} (h : (P.info? t).map (fun i => i.zero) = some (some (.int .i64 0))) : ∀ w, (zeroValue t).run P w = .ok (.int .i64 0) w := by
  obtain ⟨i, hi', hz⟩ := Option.map_eq_some_iff.1 h
  intro w
  simp [zeroValue, run_info hi', hz]
end Go.Vc
namespace Go.Proofs.YtmefbjdioaahdaaGreatDoor
open Go.Vc
/-- A partition in memory. -/
def PtW (w0 : World) (p bm : Nat) (w : World) (D : List Str) (C : List Nat) : Prop := Ext w0 w ∧ w0.heap.size ≤ p ∧ w0.heap.size ≤ bm ∧ MapN w bm D ∧ ∃ vC, Blk 121 w p [.map (some bm), vC] ∧ Ow w0.heap.size t_i64 w vC (ints (nats C))
theorem PtW.later {w0 : World} {p bm : Nat} {w w' : World} {D : List Str} {C : List Nat} (h : PtW w0 p bm w D C) (x : Ext w w') : PtW w0 p bm w' D C := by
  obtain ⟨h1, h2, h3, h4, vC, h5, h6⟩ := h
  exact ⟨h1.trans x, h2, h3, h4.ext x, vC, h5.ext x, h6.ext x⟩
theorem ok_partition_add {w0 : World} {p bm : Nat} {w : World} {D : List Str} {C : List Nat} (h : PtW w0 p bm w D C) (hD : D.Nodup) (hC : C.length ≤ 1000) (s : Str) :
    Cal Tryz.prog f_impl_partition_string_add #[.pointer (some ⟨p, 0, none⟩), sv s] w fun _ w' => PtW w0 p bm w' (if s ∈ D then D else D ++ [s]) (C ++ [D.idxOf s]) := by
  obtain ⟨h1, h2, h3, h4, vC, h5, h6⟩ := h
  have hne : p ≠ bm := h4.ne_blk h5
  apply c_impl_partition_string_add; unfold S_impl_partition_string_add
  have uM : Tryz.prog.underlying 119 = some (.map t_string t_i64) := by kernel_rfl
  have uS : Tryz.prog.underlying t_string = some .string := by kernel_rfl
  have hz : ∀ w, (zeroValue t_i64).run Tryz.prog w = .ok (.int .i64 0) w := zeroI64 (by kernel_rfl)
  have hcl : (ints (nats C)).length ≤ 1000 := by rw [ints_length, nats_length]; exact hC
  -- the second half, with the text in the map
  have fin : ∀ (D' : List Str) (J : World → Prop) (w2 : World), PtW w0 p bm w2 D' C → D'.Nodup → s ∈ D' → D'.idxOf s = D.idxOf s → (∀ w', PtW w0 p bm w' D' (C ++ [D.idxOf s]) → J w') →
      xNil (.pointer (some ⟨p, 0, none⟩)) fun v29 => xFa 1 v29 fun v30 => xLd w2 v30 fun v31 => xNil (.pointer (some ⟨p, 0, none⟩)) fun v33 => xFa 0 v33 fun v34 => xLd w2 v34 fun v35 =>
      xR Tryz.prog w2 (Instr.lookup 119 v35 (sv s) false) fun v37 => ∀ w6, Ext w2 w6 → xBs t_i64 (Value.cells (.int .i64 0)) 1 1 [(0, v37)] w6 fun v38 w7 =>
      Ext w6 w7 ∧ ∀ w8, Ext w7 w8 → xOp Tryz.prog (Builtin.append_ #[24, 24] 24 #[v31, v38]) w8 fun v39 w9 => xNil (.pointer (some ⟨p, 0, none⟩)) fun v40 => xFa 1 v40 fun v41 =>
      ∀ w10, Ext w9 w10 → xSt w10 v41 v39 fun w11 => ∀ w12, Ext w11 w12 → J w12 := by
    intro D' J w2 hP hD' hs' hidx hJ
    obtain ⟨g1, g2, g3, g4, vC, g5, g6⟩ := hP
    have hi : D'.idxOf s < D'.length := List.idxOf_lt_length_of_mem hs'
    refine iNil (iFa (iLdB g5 (i := 1) (v := vC) rfl ?_))
    refine iNil (iFa (iLdB g5 (i := 0) (v := .map (some bm)) rfl ?_))
    have hat : D'[D'.idxOf s] = s := List.getElem_idxOf hi
    have hl := iNumHas (ok := false) (P := Tryz.prog) g4 hD' hi uM uS (K := fun v37 => ∀ w6, Ext w2 w6 → xBs t_i64 (Value.cells (.int .i64 0)) 1 1 [(0, v37)] w6 fun v38 w7 =>
      Ext w6 w7 ∧ ∀ w8, Ext w7 w8 → xOp Tryz.prog (Builtin.append_ #[24, 24] 24 #[vC, v38]) w8 fun v39 w9 => xNil (.pointer (some ⟨p, 0, none⟩)) fun v40 => xFa 1 v40 fun v41 =>
      ∀ w10, Ext w9 w10 → xSt w10 v41 v39 fun w11 => ∀ w12, Ext w11 w12 → J w12) ?_
    · rw [hat] at hl; exact hl
    intro w6 x6
    refine iBs1 rfl rfl fun b7 w7 hb7 x7 hB7 => ⟨x7, ?_⟩
    intro w8 x8
    have x28 := (x6.trans x7).trans x8
    have hB8 : Blk t_i64 w8 b7 (ints (nats [D'.idxOf s])) := hB7.ext x8
    refine iAppA u_Si64 i_Si64 rfl (g6.ext x28) (Sl.ofBlk (n := 1) hB8 rfl (by omega)) (fun x hx => by simp [ints, nats] at hx; subst hx; rfl) (by simp [ints, nats]; omega) (by simp [ints, nats]; omega) (g1.trans x28).size fun v' w9 ho' hg' hat' => ?_
    have hch : Ch (fun c => vC.ownBlock = some c) w8 w9 := grown_ch hg' fun b hb => hb
    have hB9 := (g5.ext x28).ch hch ((g6.ext x28).ne_blk (g5.ext x28) (by decide))
    have hM9 := (g4.ext x28).ch hch fun h => MapN.ne_own (g4.ext x28) (g6.ext x28) _ h rfl
    have x09 : Ext w0 w9 := (g1.trans x28).grown hg' fun c hc => (g6.blk c hc).1
    refine iNil (iFa ?_)
    intro w10 x10
    refine iStB (hB9.ext x10) (i := 1) (by simp) ho'.cell fun hB11 => ?_
    have hu := Upd.setCell w10 p 1 v'
    intro w12 x12
    refine hJ w12 ⟨((x09.trans x10).upd hu g2).trans x12, g2, g3, ((hM9.ext x10).ch (hu.ch (S := fun b => b = p) rfl) (fun e => (hM9.ext x10).ne_blk (hB9.ext x10) e.symm)).ext x12, v', Blk.ext hB11 x12, ?_⟩
    have e : ints (nats (C ++ [D.idxOf s])) = ints (nats C) ++ ints (nats [D'.idxOf s]) := by rw [hidx]; simp [ints, nats]
    rw [e]
    exact ((ho'.ext x10).upd hu ((ho'.ext x10).ne_blk (hB9.ext x10) (by decide))).ext x12
  refine iNil (iFa (iLdB h5 (i := 0) (v := .map (some bm)) rfl ?_))
  by_cases hs : s ∈ D
  · have hi : D.idxOf s < D.length := List.idxOf_lt_length_of_mem hs
    have hat : D[D.idxOf s] = s := List.getElem_idxOf hi
    have hl := fun K h => iNumHas (ok := true) (P := Tryz.prog) h4 hD hi uM uS (K := K) h
    rw [hat] at hl
    refine hl _ ?_
    refine iEx rfl (iEx rfl (iNot ?_))
    refine iJnE True w (fun J hJ => ?_) (fun w2 x2 _ => ?_)
    · refine iCndF rfl ?_
      exact hJ _ (Ext.refl _) trivial
    · intro _
      rw [if_pos hs]
      exact fin D _ w2 (PtW.later ⟨h1, h2, h3, h4, vC, h5, h6⟩ x2) hD hs rfl fun w' h => h
  · refine iNumNo h4 hs uM uS hz ?_
    refine iEx rfl (iEx rfl (iNot ?_))
    refine iJnX (fun _ w' => PtW w0 p bm w' (D ++ [s]) C) (fun J hJ => ?_) ?_
    · refine iCndT rfl ?_
      refine iNil (iFa (iLdB h5 (i := 0) (v := .map (some bm)) rfl ?_))
      refine iNil (iFa (iLdB h5 (i := 0) (v := .map (some bm)) rfl ?_))
      refine iNumLen h4 uM ?_
      intro w3 x3
      refine iNumPut (h4.ext x3) hs uM uS fun w4 hM4 hch4 => ?_
      intro w5 x5
      refine hJ _ _ (PtW.later ⟨(h1.trans x3).thenCh hch4 fun c hc => by have hc : c = bm := hc; omega, h2, h3, hM4, vC, (h5.ext x3).ch hch4 hne, (h6.ext x3).ch hch4 fun c hc e => MapN.ne_own (h4.ext x3) (h6.ext x3) c hc e⟩ x5)
    · intro _ w2 hP
      intro _
      rw [if_neg hs]
      have hnd : (D ++ [s]).Nodup := by
        rw [List.nodup_append]
        exact ⟨hD, by simp, fun x hx y hy => by
          rw [List.mem_singleton] at hy
          subst hy
          exact fun e => hs (by rw [← e]; exact hx)⟩
      refine fin (D ++ [s]) _ w2 hP hnd (by simp) ?_ fun w' h => h
      rw [(idx_new hs).1, (idx_new hs).2]
end Go.Proofs.YtmefbjdioaahdaaGreatDoor

/- The laws' helpers: sizes of codes, equal lists and frames. Conditions: none. -/
namespace Go.Vc
theorem Sl.cell {w : World} {v : Value} {xs : List Value} (h : Sl w v xs) : isCell v = true := by
  obtain ⟨_, _, h, _⟩ := h
  rw [h]; rfl
theorem SlI.cell {w : World} {v : Value} {l : List Int} (h : SlI w v l) : isCell v = true := Sl.cell h
theorem SlI.pair {w : World} {v : Value} {l : List Int} (h : SlI w v l) (n : Int) : ∀ u ∈ (#[.int .i64 n, v] : Array Value).toList, isCell u = true := by
  intro u hu
  simp at hu
  rcases hu with rfl | rfl
  · rfl
  · exact h.cell
/-- A variable of several cells is made and set. -/
theorem iVar {P : Program} {w : World} {e : TypeId} {n : Nat} {cs : Array Value} {a : Array Value} {K : Value → World → Prop} (hn : cs.size = n) (ha : a.size = n) (hc : ∀ v ∈ a.toList, isCell v = true)
    (h : ∀ b w', w.heap.size ≤ b → Ext w w' → Blk e w' b a.toList → K (.pointer (some ⟨b, 0, none⟩)) w') : xNew cs e w fun v w1 => xStA P w1 n v (.agg a) fun w2 => K v w2 := by
  refine iNew fun b w1 hb h1 hB => ?_
  refine iStAB hB (by simpa using hn) ha hc fun w2 hu hB2 => ?_
  exact h b w2 (by omega) (h1.upd hu (by omega)) hB2
end Go.Vc
namespace Go.Proofs.YtmefbjdioaahdaaGreatDoor
open Go.Vc
theorem ok_laws_big {vc : Value} {w : World} {bs : List Nat} (hc : SlB w vc bs) : Ret Tryz.prog f_laws_big #[vc] w (.bool (decide ((4096 : Int) < (bs.length : Nat)))) := by
  apply c_laws_big; unfold S_laws_big
  refine iLenB hc ?_
  refine iLt ?_
  exact ⟨rfl, Ext.refl _⟩
theorem ok_laws_likeInts {v v' : Value} {w : World} {l l' : List Int} (hs : SlI w v l) (hs' : SlI w v' l') : Ret Tryz.prog f_laws_likeInts #[v, v'] w (.bool (decide (l = l'))) := by
  apply c_laws_likeInts; unfold S_laws_likeInts
  have hl := hs.len
  have hl' := hs'.len
  ((with_reducible refine iLenI (by assumption) ?_; refine iLenI (by assumption) ?_; refine iNe ?_))
  refine iCndP (fun h => ?_) (fun h => ?_)
  · rw [decide_eq_false (fun e => h (by rw [e]))]
    exact ⟨rfl, Ext.refl _⟩
  · have h : l.length = l'.length := by omega
    refine iLp (fun k : Nat => [.int .i64 (k : Int)]) (fun k w' => k ≤ l.length ∧ Ext w w' ∧ l.take k = l'.take k) (fun k => l.length - k) 0 rfl ⟨Nat.zero_le _, Ext.refl _, by simp⟩ ?_
    rintro k w2 Kn ⟨hk, h2, he⟩ hKn
    have hs2 := hs.ext h2
    have hs2' := hs'.ext h2
    (intro _; (try simp only [gx]); (with_reducible refine iLenI (by assumption) ?_; refine iLt ?_))
    refine iCndP (fun h3 => ?_) (fun h3 => ?_)
    · have hk1 : k < l.length := by omega
      have hk2 : k < l'.length := by omega
      have e1 : l.getD k 0 = l[k] := by simp [List.getD_eq_getElem?_getD, hk1]
      have e2 : l'.getD k 0 = l'[k] := by simp [List.getD_eq_getElem?_getD, hk2]
      ((with_reducible refine iIaN (by assumption) ?_ (fun pa_ hpa_ => ?_)); omega; (with_reducible refine iLd (by assumption) ?_); (with_reducible refine iIaN (by assumption) ?_ (fun pa_ hpa_ => ?_)); omega; (with_reducible refine iLd (by assumption) ?_; refine iNe ?_))
      rw [e1, e2]
      intro w3 h4
      refine iCndP (fun h5 => ?_) (fun h5 => ?_)
      · rw [decide_eq_false (fun e => by subst e; exact h5 rfl)]
        exact ⟨rfl, h2.trans h4⟩
      · (refine iAdd (by omega) ?_)
        refine hKn (k + 1) _ ⟨by omega, h2.trans h4, ?_⟩ (by omega)
        rw [List.take_succ_eq_append_getElem hk1, List.take_succ_eq_append_getElem hk2, he]
        congr 2
        exact Classical.not_not.1 h5
    · obtain rfl : k = l.length := by omega
      rw [List.take_length, h, List.take_length] at he
      rw [decide_eq_true he]
      exact ⟨rfl, h2⟩
theorem ok_laws_likeFrame5 {v v' : Value} {w : World} {l l' : List Int} (hs : SlI w v l) (hs' : SlI w v' l') (n n' : Int) : Ret Tryz.prog f_laws_likeFrame5 #[.agg #[.int .i64 n, v], .agg #[.int .i64 n', v']] w (.bool (decide (n = n') && decide (l = l'))) := by
  apply c_laws_likeFrame5; unfold S_laws_likeFrame5
  refine iNew fun b1 w1 hb1 h1 hB1 => ?_
  refine iNew fun b2 w2 hb2 h2 hB2 => ?_
  have hB1 := hB1.ext h2
  have hX := h1.trans h2
  refine iJnB (decide (n = n') && decide (l = l')) w2 (fun J hJ => ?_) (fun w4 h4 => ?_)
  · ((with_reducible refine iFa ?_); refine iLdB (by assumption) (by first | rfl | simp) ?_; (with_reducible refine iFa ?_); refine iLdB (by assumption) (by first | rfl | simp) ?_; (with_reducible refine iEq ?_))
    refine iCndP (fun h => ?_) (fun h => ?_)
    · ((with_reducible refine iFa ?_); refine iLdB (by assumption) (by first | rfl | simp) ?_; (with_reducible refine iFa ?_); refine iLdB (by assumption) (by first | rfl | simp) ?_)
      refine iRet (ok_laws_likeInts (hs.ext hX) (hs'.ext hX)) fun w5 h5 => ?_
      have := hJ w5 h5
      rwa [decide_eq_true h, Bool.true_and] at this
    · have := hJ w2 (Ext.refl _)
      rwa [decide_eq_false h, Bool.false_and] at this
  · (intro _; (try simp only [gx]))
    exact ⟨by trivial, hX.trans h4⟩
end Go.Proofs.YtmefbjdioaahdaaGreatDoor

/- Contracts: the laws' dice (roll). Conditions: none. -/
namespace Go.Proofs.YtmefbjdioaahdaaGreatDoor
open Go.Vc
end Go.Proofs.YtmefbjdioaahdaaGreatDoor

/- Contracts: rows of texts divided into classes of equal ones. Conditions: none. -/
namespace Go.Proofs.YtmefbjdioaahdaaGreatDoor
open Go.Vc
theorem ok_impl_divided {v : Value} {L : List Str} {w : World} (hs : SlT w v L) (hL : L.length ≤ 1000) : Cal Tryz.prog f_impl_divided_string #[v] w fun r w' => Ext w w' ∧ Ow w.heap.size t_i64 w' r (ints (nats (kcS L L.length).1)) := by
  apply c_impl_divided_string; unfold S_impl_divided_string
  refine iNumMade fun bm w1 hbm x1 hM => ?_
  refine iBuild (cs := #[.map (some bm), .slice none 0 0]) (by simp [Instr.fill, Value.cells]) ?_
  refine iNew fun p w2 hp x2 hB => ?_
  have hB : Blk 121 w2 p [.map none, .slice none 0 0] := hB
  refine iStAB hB rfl rfl (fun u hu => ?_) fun w3 hu3 hB3 => ?_
  · simp only [List.mem_cons, List.not_mem_nil, or_false] at hu
    rcases hu with rfl | rfl <;> rfl
  have hM3 : MapN w3 bm [] := ((hM.ext x2).ch (hu3.ch (S := fun b => b = p) rfl) fun e => (hM.ext x2).ne_blk hB e.symm)
  have x3 : Ext w w3 := (x1.trans x2).upd hu3 (by have := x1.size; omega)
  have hP : PtW w p bm w3 [] [] := ⟨x3, by have := x1.size; omega, by omega, hM3, .slice none 0 0, hB3, Ow.nil _ _ _⟩
  refine iLenStr (hs.ext x3) ?_
  refine iLp (fun k : Nat => [.int .i64 (k : Int)]) (fun k w' => k ≤ L.length ∧ PtW w p bm w' (kcS L k).2 (kcS L k).1) (fun k => L.length - k) 0 rfl ⟨Nat.zero_le _, hP⟩ ?_
  rintro k w5 Kn ⟨hk, hP5⟩ hKn
  obtain ⟨l1, l2⟩ := kcS_len L k
  intro _
  simp only [gx]
  refine iLt (iCndP (fun h => ?_) (fun h => ?_))
  · refine iIaG (hs.ext hP5.1) rfl (by omega) ?_
    refine iCall ((ok_partition_add hP5 (kcS_nodup L k) (by omega) (gt L k)).mono ?_)
    intro _ w6 hP6
    refine iAdd (by omega) ?_
    exact hKn (k + 1) _ ⟨by omega, hP6⟩ (by omega)
  · have : k = L.length := by omega
    subst this
    obtain ⟨h1, h2, h3, h4, vC, h5, h6⟩ := hP5
    refine iFa (iLdB h5 (i := 1) (v := vC) rfl ?_)
    exact ⟨h1, h6⟩
/-- Classes by keys are classes of alike worlds. -/
theorem kcS_cls {M : List Nat} {L : List Str} (hk : ∀ w v, w < L.length → v < L.length → (gt L w = gt L v ↔ alk M w v = true)) : ∀ k, k ≤ L.length → (kcS L k).1 = (clsS M k).1 ∧ (kcS L k).2 = (clsS M k).2.map (gt L)
  | 0, _ => ⟨rfl, rfl⟩
  | k + 1, hle => by
    obtain ⟨h1, h2⟩ := kcS_cls hk k (by omega)
    have hF : ∀ u ∈ (clsS M k).2, u < L.length := fun u hu => by have := (clsS_ok M k).flt u hu; omega
    rw [kcS, clsS, h1, h2]
    generalize (clsS M k).2 = F at hF
    have key : ∀ (F : List Nat), (∀ u ∈ F, u < L.length) → (F.map (gt L)).idxOf (gt L k) = (F.findIdx? fun u => alk M k u).getD F.length ∧ (gt L k ∈ F.map (gt L) ↔ (F.findIdx? fun u => alk M k u).isSome = true) := by
      intro F
      induction F with
      | nil => intro _; simp
      | cons u F ih =>
        intro hF
        obtain ⟨i1, i2⟩ := ih fun x hx => hF x (List.mem_cons_of_mem _ hx)
        have hu := hk k u (by omega) (hF u List.mem_cons_self)
        rw [List.map_cons, List.idxOf_cons, List.findIdx?_cons]
        cases ha : alk M k u
        · have hne : ¬ gt L k = gt L u := fun e => by rw [hu.1 e] at ha; cases ha
          rw [show (gt L u == gt L k) = false by simpa using fun e => hne e.symm]
          simp only [Bool.false_eq_true, if_false, cond_false, i1]
          refine ⟨?_, ?_⟩
          · cases F.findIdx? fun u => alk M k u <;> simp
          · rw [List.mem_cons, i2]
            cases F.findIdx? fun u => alk M k u <;> simp [hne]
        · have he := hu.2 ha
          rw [show (gt L u == gt L k) = true by simpa using he.symm]
          simp [he]
    obtain ⟨k1, k2⟩ := key F hF
    rw [k1]
    cases hf : F.findIdx? fun u => alk M k u with
    | none =>
      rw [hf] at k2
      rw [if_neg (fun h => by have := k2.1 h; cases this)]
      exact ⟨rfl, by simp⟩
    | some j =>
      rw [hf] at k2
      rw [if_pos (k2.2 rfl)]
      exact ⟨rfl, rfl⟩
end Go.Proofs.YtmefbjdioaahdaaGreatDoor

/- Contracts: numbers in decimal. Conditions: the table of powers of ten (FormatInt reads it). -/
namespace Go.Vc
abbrev decT (n : Nat) : Str := Lib.decDigits n
end Go.Vc
namespace Go.Proofs.YtmefbjdioaahdaaGreatDoor
open Go.Vc
/-- The table that FormatInt reads. -/
def TabOk (w : World) : Prop := Lib.TabIs Tryz.prog w "internal/strconv.uint64pow10" .u64 Lib.pow10Tab
theorem TabOk.ext {w w' : World} (h : TabOk w) (x : Ext w w') : TabOk w' := by
  unfold TabOk Lib.TabIs World.var? at h ⊢
  cases hg : Tryz.prog.globalNamed "internal/strconv.uint64pow10" with
  | none => rw [hg] at h; exact h
  | some g =>
    rw [hg] at h
    simp only [Option.bind_some] at h ⊢
    have hlt : g < w.heap.size := by
      rcases Nat.lt_or_ge g w.heap.size with h' | h'
      · exact h'
      · rw [Array.getElem?_eq_none h'] at h; cases h
    rw [Go.RowKit.Below.block x g hlt]
    exact h
theorem ok_impl_decimal {n : Nat} (hn : n ≤ 1099511627776) {w : World} (hT : TabOk w) : Ret Tryz.prog f_impl_decimal #[.int .i64 (n : Int)] w (sv (decT n)) := by
  apply c_impl_decimal; unfold S_impl_decimal
  refine iRet (v := sv (decT n)) ?_ fun w' x => ⟨rfl, x⟩
  apply c_strconv_FormatInt; unfold S_strconv_FormatInt
  refine iCall (Cal.mono (R := fun v w' => v = sv (decT n) ∧ Ext w w') ⟨⟨_, laysM246.f246, by kernel_rfl, by kernel_rfl⟩, ?_⟩ fun v w' h => h)
  refine (Go.Proofs.Any.internal_strconv_FormatInt_10 laysM246 (n : Int) (by omega) (by omega) w hT).mono ?_
  rintro e w' ⟨rfl, k, os, rfl⟩
  refine ⟨_, rfl, ?_, Lib.below_grow _ _ (Nat.le_refl _) _ _⟩
  have : Lib.itoa (n : Int) = decT n := by
    unfold Lib.itoa
    rw [if_neg (by omega), Int.toNat_natCast]
  rw [this]
end Go.Proofs.YtmefbjdioaahdaaGreatDoor

/- A step for arrays of two numbers. No function in sight. Conditions: none. -/
namespace Go.Vc
/-- An array of two numbers. -/
theorem iArr2 {P : Program} {w : World} {t t' : TypeId} {a b : Int} {K : Value → Prop} (hu : P.underlying t = some (.array 2 t')) (hi : (P.info? t).map (fun i => i.zero) = some (some (.agg #[.int .i64 0, .int .i64 0]))) (hs : (P.info? t').map (fun i => i.size) = some 1)
    (h : K (.agg #[.int .i64 a, .int .i64 b])) : xR P w (Instr.build t #[(0, .int .i64 a), (1, .int .i64 b)]) K := by
  obtain ⟨i, hi', hz⟩ := Option.map_eq_some_iff.1 hi
  obtain ⟨i2, hi2, hz2⟩ := Option.map_eq_some_iff.1 hs
  refine ⟨_, fun w' _ => ?_, h⟩
  simp [Instr.build, zeroValue, run_info hi', hz, run_underlying hu, run_size hi2, hz2, Instr.fill, Value.cells]
end Go.Vc

/- Contracts: newFilter: what knows which worlds are alike. Conditions: the table of powers of ten (FormatInt reads it). -/
namespace Go.Vc
/-- Which of the masks a world lies in, as a text. -/
def bitC (m u : Nat) : UInt8 := if m.testBit u then 49 else 48
def keyT (M : List Nat) (u : Nat) : Str := M.map fun m => bitC m u
def keyJ (n : Nat) (M : List Nat) (m j : Nat) : List Str := (List.range n).map fun u => if u < j then keyT (M ++ [m]) u else keyT M u
def keyL (n : Nat) (M : List Nat) : List Str := (List.range n).map (keyT M)
theorem decT_bit (m u : Nat) : decT (m.testBit u).toNat = [bitC m u] := by
  unfold bitC decT
  cases m.testBit u <;> rw [Lib.decDigits, dif_pos (by decide)] <;> rfl
theorem keyT_snoc (M : List Nat) (m u : Nat) : keyT (M ++ [m]) u = keyT M u ++ [bitC m u] := by simp [keyT]
theorem keyT_len (M : List Nat) (u : Nat) : (keyT M u).length = M.length := by simp [keyT]
theorem keyJ_len (n : Nat) (M : List Nat) (m j : Nat) : (keyJ n M m j).length = n := by simp [keyJ]
theorem keyJ_zero (n : Nat) (M : List Nat) (m : Nat) : keyJ n M m 0 = keyL n M := by simp [keyJ, keyL]
theorem keyJ_full (n : Nat) (M : List Nat) (m : Nat) : keyJ n M m n = keyL n (M ++ [m]) := by
  unfold keyJ keyL
  exact List.map_congr_left fun u hu => if_pos (List.mem_range.1 hu)
theorem keyJ_at {n : Nat} {M : List Nat} {m j : Nat} (hj : j < n) : gt (keyJ n M m j) j = keyT M j := by
  rw [gt_eq (by rw [keyJ_len]; exact hj)]
  simp [keyJ]
theorem keyJ_succ {n : Nat} {M : List Nat} {m j : Nat} (_hj : j < n) : (keyJ n M m j).set j (keyT (M ++ [m]) j) = keyJ n M m (j + 1) := by
  refine List.ext_getElem (by rw [List.length_set, keyJ_len, keyJ_len]) fun u h1 h2 => ?_
  rw [List.getElem_set]
  simp only [keyJ, List.getElem_map, List.getElem_range]
  by_cases e : j = u
  · subst e
    rw [if_pos rfl, if_pos (by omega)]
  · rw [if_neg e]
    by_cases h3 : u < j
    · rw [if_pos h3, if_pos (by omega)]
    · rw [if_neg h3, if_neg (by omega)]
theorem iRdNode {w : World} {v : Value} {n j : Nat} {xs : List Value} {u0 u1 : Value} {k : IntKind} {K : Value → Prop} (hs : SlK 2 w v n xs) (hj : j < n) (h0 : xs[j * 2 + 0]? = some u0) (h1 : xs[j * 2 + 1]? = some u1) (h : K (.agg #[u0, u1])) : xIa 2 v (.int k (j : Int)) fun p => xLdA w 2 p K := by
  refine iIaK hs hj fun b o hc => ?_
  refine ⟨_, #[u0, u1], rfl, rfl, fun i hi => ?_, h⟩
  rw [addr_add, hc i hi]
  match i, hi with
  | 0, _ => exact h0
  | 1, _ => exact h1
theorem iBs12 {w : World} {e : TypeId} {a b z0 z1 : Value} {K : Value → World → Prop} (h : ∀ bb w', bb = w.heap.size ∧ w'.heap.size = bb + 1 → Ext w w' → Blk e w' bb [a, b] → K (.slice (some ⟨bb, 0, none⟩) 1 1) w') :
    xBs e (Value.cells (.agg #[z0, z1])) 2 1 [(0, .agg #[a, b])] w K := by
  refine ⟨#[a, b], ?_, h _ _ ⟨rfl, by simp⟩ (Ext.alloc w _) (Blk.new w #[a, b] e)⟩
  simp [Instr.fill, Value.cells, show Array.range 2 = #[0, 1] from rfl]
/-- 's[i:j:j]', wherever the row is kept. -/
theorem iSlMaxA {P : Program} {w : World} {k : Nat} {t e : TypeId} {z : Option Value} {bytes : Nat} {v : Value} {n i j : Nat} {xs : List Value} {ki kj km : IntKind} {K : Value → Prop} (ht : P.underlying t = some (.slice e)) (hi0 : (P.info? e).map (fun i => (i.zero, i.size, i.bytes)) = some (z, k, bytes))
    (hs : SlK k w v n xs) (hi : i ≤ j) (hj : j ≤ n) (h : ∀ r, (∀ w', SlK k w' v n xs → SlK k w' r (j - i) ((xs.drop (i * k)).take ((j - i) * k))) → K r) : xR P w (Instr.sliceAt t v (some (.int ki (i : Int))) (some (.int kj (j : Int))) (some (.int km (j : Int)))) K := by
  obtain ⟨ti, hti, h3⟩ := Option.map_eq_some_iff.1 hi0
  simp only [Prod.mk.injEq] at h3
  obtain ⟨-, hsz, -⟩ := h3
  obtain ⟨h0, a, c, rfl, h2, h3, h4⟩ := hs
  have hik : i * k ≤ j * k := Nat.mul_le_mul_right _ hi
  have hjk : j * k ≤ n * k := Nat.mul_le_mul_right _ hj
  refine ⟨.slice (if j = i then a else a.map (·.add (i * k))) (j - i) (j - i), fun w' _ => ?_, h _ ?_⟩
  · have hb : (Instr.sliceBounds true n c (some (.int ki (i : Int))) (some (.int kj (j : Int))) (some (.int km (j : Int)))).run P w' = .ok (i, j, j) w' := by
      have hjc : j ≤ c := by omega
      unfold Instr.sliceBounds
      simp [Instr.sliceBound, asIntOf, hi, hjc]
    simp [Instr.sliceAt, Instr.slice, run_und ht, hb, run_size hti, hsz]
  · rintro w' ⟨_, a', c', e', _, _, h4'⟩
    cases e'
    refine ⟨?_, _, _, rfl, Nat.le_refl _, by omega, ?_⟩
    · rw [List.length_take, List.length_drop, Nat.sub_mul]; omega
    · rcases h4' with rfl | ⟨b, o, rfl, hc⟩
      · exact .inl (by omega)
      · by_cases hz : j - i = 0
        · exact .inl hz
        · refine .inr ⟨b, o + i * k, by rw [if_neg (by omega), Option.map_some, addr_add], fun m hm => ?_⟩
          rw [Nat.sub_mul] at hm ⊢
          rw [Nat.add_assoc, hc _ (by omega), List.getElem?_take, if_pos hm, List.getElem?_drop]
theorem OwK.ne_owN {w : World} {k n lo lo' : Nat} {e e' : TypeId} {v v' : Value} {xs xs' : List Value} (h : OwK k lo e w v n xs) (h' : Ow lo' e' w v' xs') (hne : e ≠ e') : ∀ c, v.ownBlock = some c → ¬ v'.ownBlock = some c := fun c hc hc' => by
  obtain ⟨_, h0 | ⟨g, cap, cur, hv, hg, hh, _⟩⟩ := h
  · rw [h0.1] at hc; cases hc
  · obtain ⟨_, h0' | ⟨g', cap', cur', hv', hg', hh', _⟩⟩ := h'
    · rw [h0'.1] at hc'; cases hc'
    · rw [hv] at hc; rw [hv'] at hc'
      cases hc
      cases hc'
      rw [hh] at hh'
      exact hne (by cases hh'; rfl)
theorem OwK.ne_blkN {w : World} {k n lo b : Nat} {e e' : TypeId} {v : Value} {xs cs : List Value} (h : OwK k lo e w v n xs) (hB : Blk e' w b cs) (hne : e ≠ e') : ¬ v.ownBlock = some b := fun hc => by
  obtain ⟨_, h0 | ⟨g, cap, cur, hv, hg, hh, _⟩⟩ := h
  · rw [h0.1] at hc; cases hc
  · rw [hv] at hc
    cases hc
    unfold Blk at hB
    rw [hh] at hB
    exact hne (by cases hB; rfl)
end Go.Vc
namespace Go.Proofs.YtmefbjdioaahdaaGreatDoor
open Go.Vc
theorem keyT_alk {M : List Nat} {w v : Nat} : keyT M w = keyT M v ↔ alk M w v = true := by
  rw [alk_iff]
  unfold keyT
  rw [List.map_inj_left]
  refine forall_congr' fun m => imp_congr_right fun _ => ?_
  unfold bitC
  cases m.testBit w <;> cases m.testBit v <;> simp
theorem keyL_cls {n : Nat} (M : List Nat) : (kcS (keyL n M) (keyL n M).length).1 = (clsS M n).1 := by
  have hl : (keyL n M).length = n := by simp [keyL]
  have := (kcS_cls (M := M) (L := keyL n M) (fun w v hw hv => ?_) (keyL n M).length (Nat.le_refl _)).1
  · rw [this, hl]
  · rw [gt_eq hw, gt_eq hv]
    simp only [keyL, List.getElem_map, List.getElem_range]
    exact keyT_alk
theorem mkL_succ (f : Fr) (V : Nat → Nat) (a : Fm) (i : Nat) : mkL f V a (i + 1) = mkL f V a i ++ [trM f V (partF a i)] := by
  unfold mkL; rw [List.range_succ, List.map_append]; rfl
theorem mdL_succ (f : Fr) (V : Nat → Nat) (a : Fm) (i : Nat) : mdL f V a (i + 1) = mdL f V a i ++ mdOf f V (partF a i) := by
  unfold mdL; rw [List.range_succ, List.flatMap_append, List.flatMap_cons, List.flatMap_nil, List.append_nil]
theorem bxL_app (A B : List Md) : bxL (A ++ B) = bxL A ++ bxL B := by simp [bxL]
theorem dmL_app (A B : List Md) : dmL (A ++ B) = dmL A ++ dmL B := by simp [dmL]
theorem md_len (f : Fr) (V : Nat → Nat) (a : Fm) : ∀ i, (bxL (mdL f V a i)).length ≤ i ∧ (dmL (mdL f V a i)).length ≤ i
  | 0 => ⟨Nat.le_refl _, Nat.le_refl _⟩
  | i + 1 => by
    obtain ⟨h1, h2⟩ := md_len f V a i
    rw [mdL_succ, bxL_app, dmL_app, List.length_append, List.length_append]
    cases partF a i <;> simp [mdOf, bxL, dmL] at * <;> omega
theorem part_good {a : Fm} (ha : Fm.good a) {i : Nat} (hi : i < a.size) : Fm.good (partF a i) := by
  obtain ⟨r, hr⟩ := sfx_cons hi
  exact sfx_all (Q := Fm.good) (fun _ h => good_kids h) i [a] (by simpa using ha) _ (by rw [hr]; simp)
theorem part_size {a : Fm} {i : Nat} (hi : i < a.size) : i + (partF a i).size ≤ a.size := by
  obtain ⟨r, hr⟩ := sfx_cons hi
  have h := sfx_size i [a]
  rw [hr, show sizeL [a] = a.size by simp [sizeL]] at h
  have : sizeL (partF a i :: r) = (partF a i).size + sizeL r := by simp [sizeL]
  omega
theorem part_cells {a : Fm} {i : Nat} (hi : i < a.size) : ∃ r, a.cells.drop (i * 2) = cellsL (partF a i :: r) ++ [] := by
  obtain ⟨r, hr⟩ := sfx_cons hi
  exact ⟨r, by rw [List.append_nil, ← hr, ← sfx_cells]; simp [cellsL]⟩
theorem ok_impl_partA {v : Value} {n i : Nat} {xs : List Value} {f : Fm} {r : List Value} {w : World} (hs : SlK 2 w v n xs) (hx : xs.drop (i * 2) = f.cells ++ r) (hin : i + f.size ≤ n) (hn : n ≤ 1099511627776) : Cal Tryz.prog f_impl_part #[v, .int .i64 (i : Int)] w fun u w' => Ext w w' ∧ ∀ w'', SlK 2 w'' v n xs → FmS w'' u f := by
  apply c_impl_part; unfold S_impl_part
  refine iRet (ok_impl_partEnd hs hx hn) fun w1 h1 => ?_
  refine iRet (ok_impl_partEnd (hs.ext h1) hx hn) fun w2 h2 => ?_
  refine iSlMaxA u_Simpl_Node i_Simpl_Node ((hs.ext h1).ext h2) (by omega) hin fun u hu => ⟨h1.trans h2, fun w'' hs'' => ?_⟩
  have hu := hu w'' hs''
  rw [hx, Nat.add_sub_cancel_left, ← f.cells_len, List.take_left] at hu
  exact hu
theorem ok_impl_firstN {v : Value} {f g : Fm} {gs : List Fm} {w : World} (hs : FmS w v f) (hk : f.kids = g :: gs) (hn : f.size ≤ 1099511627776) : Cal Tryz.prog f_impl_first #[v] w fun u w' => Ext w w' ∧ FmS w' u g := by
  apply c_impl_first; unfold S_impl_first
  have hsz := f.size_kids
  rw [hk] at hsz
  simp only [sizeL, List.map_cons, List.sum_cons] at hsz
  refine iCall ((ok_impl_partA (i := 1) hs (drop_one hk) (by omega) hn).mono ?_)
  rintro u w1 ⟨h1, hu⟩
  exact ⟨h1, hu _ (SlK.ext hs h1)⟩
theorem ok_impl_newFilter {f : Fr} (hf : f.ok) {V : List Nat} (h6 : V.length = 6) (hV : ∀ x ∈ V, x < 2 ^ f.n) {a : Fm} (ha : Fm.good a) (hsz : a.size ≤ 1000000) {va vv vn : Value} {w : World} (hT : TabOk w) (hs : SlN w va f.a) (hv : SlN w vv V) (hn : FmS w vn a) :
    Cal Tryz.prog f_impl_newFilter #[.agg #[.int .i64 (f.n : Int), va, vv], vn] w fun r w' => ∃ b, r = .pointer (some ⟨b, 0, none⟩) ∧ Ext w w' ∧ w.heap.size ≤ b ∧ FlW w' b f V a (clsS (mkL f (fun v => V.getD v 0) a a.size) f.n).1 := by
  have h8 := hf.1
  apply c_impl_newFilter; unfold S_impl_newFilter
  refine iNew fun b2 w1 hb2 x1 hB2 => ?_
  have hB2 : Blk 28 w1 b2 [.int .i64 (f.n : Int), va, vv] := hB2
  refine iLdA hB2 rfl ?_
  obtain ⟨an, ln, cn, rfl⟩ : ∃ an ln cn, vn = .slice an ln cn := by
    obtain ⟨_, an, cn, e, _⟩ := hn
    exact ⟨an, _, cn, e⟩
  refine iBuild (cs := #[.int .i64 (f.n : Int), va, vv, .slice an ln cn, .slice none 0 0, .slice none 0 0, .slice none 0 0]) (by simp [Instr.fill, Value.cells]) ?_
  generalize hvn : Value.slice an ln cn = vn at *
  refine iNew fun bF w2 hbF x2 hBF => ?_
  have hBF : Blk 77 w2 bF [.int .i64 (f.n : Int), va, vv, vn, .slice none 0 0, .slice none 0 0, .slice none 0 0] := hBF
  refine iFa (iFa (iLdB (hB2.ext x2) (i := 0) (v := .int .i64 (f.n : Int)) rfl ?_))
  refine iMk (by omega) (by omega) rfl fun bo w3 hbo x3 hBo => ?_
  generalize hVe : (fun v => V.getD v 0) = VF at *
  have hko : Ow w1.heap.size t_string w3 (.slice (some ⟨bo, 0, none⟩) f.n f.n) (strs (keyL f.n (mkL f VF a 0))) := by
    have e : strs (keyL f.n (mkL f VF a 0)) = List.replicate f.n (sv []) := by
      unfold strs keyL
      rw [List.map_map]
      rw [show List.map (sv ∘ keyT (mkL f VF a 0)) (List.range f.n) = List.map (fun _ => sv []) (List.range f.n) from rfl, List.map_const', List.length_range]
    rw [e]
    exact Ow.ofBlk hBo (by have := x2.size; omega) (by simp) (by omega)
  generalize hvo : (Value.slice (some ⟨bo, 0, none⟩) f.n f.n) = vo at *
  have hnl : a.size ≤ 1000000 := hsz
  refine iLenK hn ?_
  refine iLp (fun i : Nat => [.int .i64 (i : Int)]) (fun i w' => i ≤ a.size ∧ Ext w1 w' ∧ ∃ vb vd, Blk 77 w' bF [.int .i64 (f.n : Int), va, vv, vn, .slice none 0 0, vb, vd] ∧ Ow w1.heap.size t_string w' vo (strs (keyL f.n (mkL f VF a i))) ∧ OwK 2 w1.heap.size 75 w' vb (bxL (mdL f VF a i)).length (cells2 (bxL (mdL f VF a i))) ∧ OwK 2 w1.heap.size 75 w' vd (dmL (mdL f VF a i)).length (cells2 (dmL (mdL f VF a i))) ∧ ∀ c, vb.ownBlock = some c → ¬ vd.ownBlock = some c) (fun i => a.size - i) 0 rfl ⟨Nat.zero_le _, x2.trans x3, _, _, hBF.ext x3, hko, OwK.nil _ _ _ _, OwK.nil _ _ _ _, fun c hc => (by cases hc)⟩ ?_
  rintro i w5 Kn ⟨hi, x5, vb, vd, hB5, hk5, hb5, hd5, hne⟩ hKn
  intro _
  simp only [gx]
  have X5 := x1.trans x5
  refine iLt (iCndP (fun h => ?_) (fun h => ?_))
  · have hi1 : i < a.size := by omega
    obtain ⟨r, hr⟩ := part_cells hi1
    have hgood := part_good ha hi1
    have hpsz := part_size hi1
    have hmk := mkL_succ f VF a i
    have hmd := mdL_succ f VF a i
    obtain ⟨ml1, ml2⟩ := md_len f VF a i
    have mk1 : (mkL f VF a i).length = i := by simp [mkL]
    generalize partF a i = g at *
    obtain ⟨hk, hsy, -⟩ := kind_at hr
    have hg1 := g.size_pos
    refine iRdNode (SlK.ext hn X5) hi1 hk hsy ?_
    refine iNew fun b8 w6 hb8 x6 hB8 => ?_
    refine iStAB hB8 rfl rfl (fun u hu => ?_) fun w7 hu7 hB8' => ?_
    · simp only [List.mem_cons, List.not_mem_nil, or_false] at hu
      rcases hu with rfl | rfl <;> rfl
    have x57 : Ext w5 w7 := x6.upd hu7 (by omega)
    refine iCall ((ok_impl_partA (r := cellsL r) (SlK.ext hn (X5.trans x57)) (by rw [hr]; simp [cellsL]) hpsz (by omega)).mono ?_)
    rintro vp w8 ⟨x8, hpA⟩
    have hpW : ∀ {w'}, Ext w1 w' → FmS w' vp g := fun x => hpA _ (SlK.ext hn (x1.trans x))
    have x58 := x57.trans x8
    have x18 := x5.trans x58
    refine iLdA (hB2.ext x18) rfl ?_
    refine iRet (hVe ▸ ok_impl_truthIn hf (hs.ext (x1.trans x18)) (hv.ext (x1.trans x18)) h6 hV (hpW x18) hgood (by omega)) fun w9 x9 => ?_
    have htl : trM f VF g < 2 ^ 8 := Nat.lt_of_lt_of_le (trM_lt (fun v => by
      rw [← hVe]
      show V.getD v 0 < _
      rcases Nat.lt_or_ge v V.length with h | h
      · exact getD_lt hV h
      · rw [List.getD_eq_getElem?_getD, List.getElem?_eq_none h]; exact Nat.two_pow_pos _) g) (Nat.pow_le_pow_right (by omega) h8)
    have x59 := x58.trans x9
    have x19 := x5.trans x59
    have hB29 := hB2.ext x19
    have hk9 := hk5.ext x59
    refine iLenStr (show SlT w9 vo _ from hk9.sl) ?_
    rw [show (keyL f.n (mkL f VF a i)).length = f.n by simp [keyL]]
    rw [← keyJ_zero f.n _ (trM f VF g)] at hk9
    refine iLp (fun j : Nat => [.int .i64 (j : Int)]) (fun j w' => j ≤ f.n ∧ Ch (fun c => vo.ownBlock = some c) w9 w' ∧ Ow w1.heap.size t_string w' vo (strs (keyJ f.n (mkL f VF a i) (trM f VF g) j))) (fun j => f.n - j) 0 rfl ⟨Nat.zero_le _, (Ext.refl _).ch, hk9⟩ ?_
    rintro j w11 Kn2 ⟨hj, c11, hk11⟩ hKn2
    have x11 : Ext w1 w11 := x19.thenCh c11 fun c hc => (hk9.blk c hc).1
    intro _
    simp only [gx]
    refine iLt (iCndP (fun h2 => ?_) (fun h2 => ?_))
    · have hj1 : j < f.n := by omega
      refine iIaG (show SlT w11 vo _ from hk11.sl) rfl (by rw [keyJ_len]; exact hj1) ?_
      rw [keyJ_at hj1]
      refine iRetQ (fun w' _ => ok_impl_has _ j (by omega) (by omega) w') ?_
      refine iRetQ (fun w' _ => ok_impl_one _ w') ?_
      refine iRetQ (fun w' x' => ok_impl_decimal (by cases (trM f VF g).testBit j <;> decide) (((hT.ext x1).ext x11).ext x')) ?_
      rw [decT_bit]
      refine iCat (by rw [keyT_len, mk1]; simp; omega) ?_
      rw [← keyT_snoc]
      refine iIaOwE hk11 (by rw [strs_len, keyJ_len]; exact hj1) fun bu hbu hwr => ?_
      intro w12 x12
      obtain ⟨hc1, hc2, hc3⟩ := hwr w12 _ rfl (hk11.ext x12)
      rw [List.getElem?_eq_getElem (by rw [strs_len, keyJ_len]; exact hj1)] at hc1
      refine iSt hc1 hc2 rfl ?_
      have ho := hc3 (sv (keyT (mkL f VF a i ++ [trM f VF g]) j))
      have e : (strs (keyJ f.n (mkL f VF a i) (trM f VF g) j)).set j (sv (keyT (mkL f VF a i ++ [trM f VF g]) j)) = strs (keyJ f.n (mkL f VF a i) (trM f VF g) (j + 1)) := by
        rw [← keyJ_succ hj1]; unfold strs; rw [List.map_set]
      rw [e] at ho
      have hu := Upd.setCell w12 bu j (sv (keyT (mkL f VF a i ++ [trM f VF g]) j))
      intro w14 x14
      refine iAdd (by omega) ?_
      refine hKn2 (j + 1) _ ⟨by omega, ?_, ho.ext x14⟩ (by omega)
      exact ((c11.trans (x12.ch (S := fun _ => False)) fun _ e => e.elim).trans (hu.ch (S := fun c => c = bu) rfl) fun c hc => .inl (by subst hc; exact hbu)).trans (x14.ch (S := fun _ => False)) fun _ e => e.elim
    · obtain rfl : j = f.n := by omega
      rw [keyJ_full, ← hmk] at hk11
      have c511 : Ch (fun c => vo.ownBlock = some c) w5 w11 := (x59.ch (S := fun c => vo.ownBlock = some c)).trans c11 fun _ e => .inl e
      have nF : ∀ c, c = bF → ¬ vo.ownBlock = some c := fun c hc h => by subst hc; exact hk5.ne_blk hB5 (by decide) h
      have hB11 := hB5.ch c511 (nF bF rfl)
      have hb11 := OwK.ch hb5 c511 (hb5.ne_owN hk5 (by decide))
      have hd11 := OwK.ch hd5 c511 (hd5.ne_owN hk5 (by decide))
      have h8B : Blk t_impl_Node w9 b8 [.int .i64 (g.kind : Int), .int .i64 (g.sym : Int)] := Blk.ext hB8' (x8.trans x9)
      have hB811 := h8B.ch c11 (hk9.ne_blk h8B (by decide))
      have X11 := x1.trans x11
      have hB211 := hB2.ext x11
      -- the way on
      have fin : ∀ w' vb' vd', Ext w1 w' → Blk 77 w' bF [.int .i64 (f.n : Int), va, vv, vn, .slice none 0 0, vb', vd'] → Ow w1.heap.size t_string w' vo (strs (keyL f.n (mkL f VF a (i + 1)))) → OwK 2 w1.heap.size 75 w' vb' (bxL (mdL f VF a (i + 1))).length (cells2 (bxL (mdL f VF a (i + 1)))) → OwK 2 w1.heap.size 75 w' vd' (dmL (mdL f VF a (i + 1))).length (cells2 (dmL (mdL f VF a (i + 1)))) → (∀ c, vb'.ownBlock = some c → ¬ vd'.ownBlock = some c) → Kn [.int .i64 ((i + 1 : Nat) : Int)] w' := fun w' vb' vd' y1 y2 y3 y4 y5 y6 => hKn (i + 1) _ ⟨by omega, y1, vb', vd', y2, y3, y4, y5, y6⟩ (by omega)
      rw [hmd] at fin
      refine iFa (iLdB hB811 (i := 0) (v := .int .i64 (g.kind : Int)) rfl ?_)
      have plain : mdOf f VF g = [] → Kn [.int .i64 ((i + 1 : Nat) : Int)] w11 := fun h0 => by
        rw [h0, List.append_nil] at fin
        exact fin w11 vb vd x11 hB11 hk11 hb11 hd11 hne
      cases g with
      | var _ => exact iEq (iCndF rfl (iEq (iCndF rfl (iAdd (by omega) (plain rfl)))))
      | fls => exact iEq (iCndF rfl (iEq (iCndF rfl (iAdd (by omega) (plain rfl)))))
      | and _ _ => exact iEq (iCndF rfl (iEq (iCndF rfl (iAdd (by omega) (plain rfl)))))
      | or _ _ => exact iEq (iCndF rfl (iEq (iCndF rfl (iAdd (by omega) (plain rfl)))))
      | imp _ _ => exact iEq (iCndF rfl (iEq (iCndF rfl (iAdd (by omega) (plain rfl)))))
      | box g' =>
        refine iEq (iCndT rfl ?_)
        refine iNil (iFa (iLdB hB11 (i := 5) (v := vb) rfl ?_))
        refine iLdA hB211 rfl ?_
        intro w15 x15
        have hsz' : (Fm.box g').size = 1 + g'.size := rfl
        refine iCall ((ok_impl_firstN (g := g') (gs := []) (hpW (x11.trans x15)) rfl (by omega)).mono ?_)
        rintro vq w16 ⟨x16, hq⟩
        refine ⟨x16, ?_⟩
        have x1116 := x15.trans x16
        refine iRetQ (fun w' x' => hVe ▸ ok_impl_truthIn hf (hs.ext ((X11.trans x1116).trans x')) (hv.ext ((X11.trans x1116).trans x')) h6 hV (SlK.ext hq x') (good_kids hgood g' (by simp [Fm.kids])) (by omega)) ?_
        refine iArr2 (t' := t_i64) (by kernel_rfl) (by kernel_rfl) (by kernel_rfl) ?_
        intro w17 x17
        refine iBs12 fun bb w18 hbb x18' hB18 => ⟨x18', ?_⟩
        intro w19 x19'
        have x1119 := ((x1116.trans x17).trans x18').trans x19'
        have hone : OwK 2 w1.heap.size 75 w19 (.slice (some ⟨bb, 0, none⟩) 1 1) 1 (cells2 [(trM f VF (.box g'), trM f VF g')]) := OwK.ofBlk (hB18.ext x19') (by have := (x11.trans x1116).size; have := x17.size; omega) rfl (by omega)
        have hbA := OwK.ext hb11 x1119
        refine iAppK u_S_2i64 i_S_2i64 rfl (by omega) hbA hone.sl (fun u hu => ?_) (by omega) (by omega) (x11.trans x1119).size fun v' w20 ho' hg' hat' => ?_
        · simp [cells2] at hu; rcases hu with rfl | rfl <;> rfl
        have hch : Ch (fun c => vb.ownBlock = some c) w19 w20 := grown_ch hg' fun b hb => hb
        have hBA := hB11.ext x1119
        have hB20 := hBA.ch hch (hbA.ne_blkN hBA (by decide))
        have hd20 := OwK.ch (OwK.ext hd11 x1119) hch fun c hc hc' => hne c hc' hc
        have hk19 := hk11.ext x1119
        have hk20 := hk19.ch hch fun c hc hc' => hbA.ne_owN hk19 (by decide) c hc' hc
        refine iNil (iFa ?_)
        intro w21 x21
        refine iStB (hB20.ext x21) (i := 5) (by simp) ho'.cell fun hB22 => ?_
        have hu := Upd.setCell w21 bF 5 v'
        intro w23 x23
        refine iAdd (by omega) ?_
        have y1 : Ext w1 w20 := (x11.trans x1119).thenCh hch fun c hc => (hbA.blk c hc).1
        have c2 : Ch (fun c => c = bF) w20 w23 := ((x21.ch (S := fun c => c = bF)).trans (hu.ch (S := fun c => c = bF) rfl) fun _ h => .inl h).trans (x23.ch (S := fun c => c = bF)) fun _ h => .inl h
        have hbF1 : w1.heap.size ≤ bF := by omega
        have e1 : bxL (mdL f VF a i ++ mdOf f VF (.box g')) = bxL (mdL f VF a i) ++ [(trM f VF (.box g'), trM f VF g')] := by rw [bxL_app]; rfl
        have e2 : dmL (mdL f VF a i ++ mdOf f VF (.box g')) = dmL (mdL f VF a i) := by rw [dmL_app]; exact List.append_nil _
        rw [e1, e2, cells2_app, List.length_append, List.length_singleton] at fin
        refine fin w23 v' vd (y1.thenCh c2 fun c hc => by have hc : c = bF := hc; omega) (Blk.ext hB22 x23) (hk20.ch c2 fun c hc h => nF c h hc) (OwK.ch ho' c2 fun c hc h => by have h : c = bF := h; subst h; exact ho'.ne_blkN hB20 (by decide) hc) (OwK.ch hd20 c2 fun c hc h => by have h : c = bF := h; subst h; exact hd20.ne_blkN hB20 (by decide) hc) ?_
        intro c hc hc'
        rcases hat' with h | ⟨c2, h, h2⟩
        · exact hne c (by rw [← h]; exact hc) hc'
        · rw [h] at hc; cases hc
          have := (hd11.blk _ hc').2
          have := x1119.size
          omega
      | dia g' =>
        refine iEq (iCndF rfl (iEq (iCndT rfl ?_)))
        refine iNil (iFa (iLdB hB11 (i := 6) (v := vd) rfl ?_))
        refine iLdA hB211 rfl ?_
        intro w15 x15
        have hsz' : (Fm.dia g').size = 1 + g'.size := rfl
        refine iCall ((ok_impl_firstN (g := g') (gs := []) (hpW (x11.trans x15)) rfl (by omega)).mono ?_)
        rintro vq w16 ⟨x16, hq⟩
        refine ⟨x16, ?_⟩
        have x1116 := x15.trans x16
        refine iRetQ (fun w' x' => hVe ▸ ok_impl_truthIn hf (hs.ext ((X11.trans x1116).trans x')) (hv.ext ((X11.trans x1116).trans x')) h6 hV (SlK.ext hq x') (good_kids hgood g' (by simp [Fm.kids])) (by omega)) ?_
        refine iArr2 (t' := t_i64) (by kernel_rfl) (by kernel_rfl) (by kernel_rfl) ?_
        intro w17 x17
        refine iBs12 fun bb w18 hbb x18' hB18 => ⟨x18', ?_⟩
        intro w19 x19'
        have x1119 := ((x1116.trans x17).trans x18').trans x19'
        have hone : OwK 2 w1.heap.size 75 w19 (.slice (some ⟨bb, 0, none⟩) 1 1) 1 (cells2 [(trM f VF (.dia g'), trM f VF g')]) := OwK.ofBlk (hB18.ext x19') (by have := (x11.trans x1116).size; have := x17.size; omega) rfl (by omega)
        have hdA := OwK.ext hd11 x1119
        refine iAppK u_S_2i64 i_S_2i64 rfl (by omega) hdA hone.sl (fun u hu => ?_) (by omega) (by omega) (x11.trans x1119).size fun v' w20 ho' hg' hat' => ?_
        · simp [cells2] at hu; rcases hu with rfl | rfl <;> rfl
        have hch : Ch (fun c => vd.ownBlock = some c) w19 w20 := grown_ch hg' fun b hb => hb
        have hBA := hB11.ext x1119
        have hB20 := hBA.ch hch (hdA.ne_blkN hBA (by decide))
        have hd20 := OwK.ch (OwK.ext hb11 x1119) hch fun c hc hc' => hne c hc hc'
        have hk19 := hk11.ext x1119
        have hk20 := hk19.ch hch fun c hc hc' => hdA.ne_owN hk19 (by decide) c hc' hc
        refine iNil (iFa ?_)
        intro w21 x21
        refine iStB (hB20.ext x21) (i := 6) (by simp) ho'.cell fun hB22 => ?_
        have hu := Upd.setCell w21 bF 6 v'
        intro w23 x23
        refine iAdd (by omega) ?_
        have y1 : Ext w1 w20 := (x11.trans x1119).thenCh hch fun c hc => (hdA.blk c hc).1
        have c2 : Ch (fun c => c = bF) w20 w23 := ((x21.ch (S := fun c => c = bF)).trans (hu.ch (S := fun c => c = bF) rfl) fun _ h => .inl h).trans (x23.ch (S := fun c => c = bF)) fun _ h => .inl h
        have hbF1 : w1.heap.size ≤ bF := by omega
        have e1 : dmL (mdL f VF a i ++ mdOf f VF (.dia g')) = dmL (mdL f VF a i) ++ [(trM f VF (.dia g'), trM f VF g')] := by rw [dmL_app]; rfl
        have e2 : bxL (mdL f VF a i ++ mdOf f VF (.dia g')) = bxL (mdL f VF a i) := by rw [bxL_app]; exact List.append_nil _
        rw [e1, e2, cells2_app, List.length_append, List.length_singleton] at fin
        refine fin w23 vb v' (y1.thenCh c2 fun c hc => by have hc : c = bF := hc; omega) (Blk.ext hB22 x23) (hk20.ch c2 fun c hc h => nF c h hc) (OwK.ch hd20 c2 fun c hc h => by have h : c = bF := h; subst h; exact hd20.ne_blkN hB20 (by decide) hc) (OwK.ch ho' c2 fun c hc h => by have h : c = bF := h; subst h; exact ho'.ne_blkN hB20 (by decide) hc) ?_
        intro c hc hc'
        rcases hat' with h | ⟨c2, h, h2⟩
        · exact hne c hc (by rw [← h]; exact hc')
        · rw [h] at hc'; cases hc'
          have := (hb11.blk _ hc).2
          have := x1119.size
          omega
  · obtain rfl : i = a.size := by omega
    refine iCall ((ok_impl_divided (show SlT w5 vo _ from hk5.sl) (by simp [keyL]; omega)).mono ?_)
    rintro vc w6 ⟨x6, hc6⟩
    rw [keyL_cls] at hc6
    refine iNil (iFa ?_)
    refine iStB (hB5.ext x6) (i := 4) (by simp) hc6.cell fun hB7 => ?_
    have hu := Upd.setCell w6 bF 4 vc
    have hB6 := hB5.ext x6
    have hbd := OwK.ext hb5 x6
    have hdd := OwK.ext hd5 x6
    have xF := (X5.trans x6).upd hu (by have := x1.size; omega)
    refine ⟨bF, rfl, xF, by have := x1.size; omega, va, vv, vn, vc, vb, vd, hB7, hs.ext xF, hv.ext xF, SlK.ext hn xF, (hc6.upd hu (hc6.ne_blk hB6 (by decide))).sl, ?_, ?_⟩
    · unfold mdM; rw [hVe]
      exact (OwK.ch hbd (hu.ch (S := fun c => c = bF) rfl) fun c hc h => by have h : c = bF := h; subst h; exact hbd.ne_blkN hB6 (by decide) hc).sl
    · unfold mdM; rw [hVe]
      exact (OwK.ch hdd (hu.ch (S := fun c => c = bF) rfl) fun c hc h => by have h : c = bF := h; subst h; exact hdd.ne_blkN hB6 (by decide) hc).sl
end Go.Proofs.YtmefbjdioaahdaaGreatDoor

/- Contracts: the transitive and the symmetric filtration, whether a frame is a filtration, the flags of a frame, in the program. Conditions: the table of powers of ten (FormatInt reads it). -/
namespace Go.Vc
/-- A whole array as a row. -/
theorem iSlArr {P : Program} {w : World} {t e : TypeId} {n b : Nat} {K : Value → Prop} (hu : P.underlying t = some (.array n e)) (hs : (P.info? e).map (fun i => i.size) = some 1) (h : K (.slice (some ⟨b, 0, none⟩) n n)) : xR P w (Instr.sliceAt t (.pointer (some ⟨b, 0, none⟩)) none none none) K := by
  obtain ⟨i2, hi2, hz2⟩ := Option.map_eq_some_iff.1 hs
  refine ⟨_, fun w' _ => ?_, h⟩
  simp [Instr.sliceAt, Instr.sureAddr, Instr.sliceBounds, run_underlying hu, run_size hi2, hz2, Addr.add]
end Go.Vc
namespace Go.Proofs.YtmefbjdioaahdaaGreatDoor
open Go.Vc
/-- A model and a formula, both well formed. -/
structure MdG (f : Fr) (V : List Nat) (a : Fm) : Prop where
  ok : f.ok
  m : modelOk (f.n : Int) (nats f.a) (nats V) = true
  six : V.length = 6
  lt : ∀ x ∈ V, x < 2 ^ f.n
  good : Fm.good a
  size : a.size ≤ 40
theorem MdG.isN {f : Fr} {V : List Nat} {a : Fm} (h : MdG f V a) : isN (rawF a) = true := isN_iff.2 ⟨a, h.good, h.size, rfl⟩
theorem MdG.len {f : Fr} {V : List Nat} {a : Fm} (h : MdG f V a) : (rawF a).length ≤ 1099511627776 := by rw [rawF_len]; have := h.size; omega
/-- The classes and their first worlds. -/
def cM (f : Fr) (V : List Nat) (a : Fm) : List Nat := (clsS (mkL f (fun v => V.getD v 0) a a.size) f.n).1
def fM (f : Fr) (V : List Nat) (a : Fm) : List Nat := (clsS (mkL f (fun v => V.getD v 0) a a.size) f.n).2
theorem cM_ok (f : Fr) (V : List Nat) (a : Fm) : ClsOk (mkL f (fun v => V.getD v 0) a a.size) f.n (cM f V a) (fM f V a) := clsS_ok _ _
theorem cM_gr (f : Fr) (V : List Nat) (a : Fm) : grB 0 (cM f V a) = true ∧ topG 0 (cM f V a) = (fM f V a).length := clsS_gr _ _
theorem fM_le (f : Fr) (V : List Nat) (a : Fm) : (fM f V a).length ≤ f.n := by
  have h1 := (topG_le (cM f V a) 0).2
  rw [(cM_gr f V a).2, (cM_ok f V a).len] at h1
  omega
/-- What comes out: a frame, or none. -/
def filM (t : Nat) (more both : Bool) (f : Fr) (V : List Nat) (a : Fm) : Nat × List Nat := if flagI t f = true then ((fM f V a).length, greA f (fun v => V.getD v 0) a (fM f V a) more both) else (0, [])
theorem gre_any (f : Fr) (V : List Nat) (a : Fm) (more both : Bool) : relA (topG 0 (cM f V a)) (anyP f.n (cM f V a) fun x y => mayB (mdM f V a) more x y && (!both || mayB (mdM f V a) more y x)) = greA f (fun v => V.getD v 0) a (fM f V a) more both := by
  rw [(cM_gr f V a).2]
  refine relA_congr fun x y hx hy => ?_
  exact anyP_first (cM_ok f V a) (H := fun x y => mayB (mdM f V a) more x y && (!both || mayB (mdM f V a) more y x)) (fun w w' v v' h k => by
    show (mayB (mdL f _ a a.size) more w v && _) = _
    unfold mdM
    rw [mayB_congr h k, mayB_congr k h]) hx hy
theorem gra_gre (f : Fr) (V : List Nat) (a : Fm) : graA f V a (cM f V a) = greA f (fun v => V.getD v 0) a (fM f V a) false false := by
  rw [← gre_any]
  unfold graA
  simp
section
variable {f : Fr} {V : List Nat} {a : Fm} {va vv vn : Value} {w : World}
theorem ok_impl_filtrationWith (hM : MdG f V a) (hT : TabOk w) (hs : SlN w va f.a) (hv : SlN w vv V) (hn : FmS w vn a) (t : Nat) (ht : t ≤ 10) {fv : Value} (hfc : isCell fv = true) (H : Nat → Nat → Bool)
    (hH : ∀ b w', Ext w w' → FlW w' b f V a (cM f V a) → ∀ x y, x < f.n → y < f.n → callV Tryz.prog fv [.pointer (some ⟨b, 0, none⟩), .int .i64 (x : Int), .int .i64 (y : Int)] w' fun u w'' => u = .bool (H x y) ∧ Ext w' w'') :
    Cal Tryz.prog f_impl_filtrationWith #[.agg #[.int .i64 (f.n : Int), va, vv], vn, .int .i64 (t : Int), fv] w fun r w' => Ext w w' ∧ ∃ u m g, r = .tuple #[.agg #[.int .i64 ((m : Nat) : Int), u], .int .i64 (if flagI t f = true then 0 else 5)] ∧ Ow w.heap.size t_i64 w' u (ints (nats g)) ∧
      (m, g) = if flagI t f = true then (topG 0 (cM f V a), relA (topG 0 (cM f V a)) (anyP f.n (cM f V a) H)) else (0, []) := by
  have hR : RawS w vn (rawF a) := FmS.raw hn
  apply c_impl_filtrationWith; unfold S_impl_filtrationWith
  refine iNew fun b4 w1 hb4 x1 hB4 => ?_
  refine iNew fun b7 w2 hb7 x2 hB7 => ?_
  refine iNew fun b8 w3 hb8 x3 hB8 => ?_
  have X3 := (x1.trans x2).trans x3
  have hB4 : Blk _ w3 b4 [.int .i64 (f.n : Int), va, vv] := hB4.ext (x2.trans x3)
  rw [isCell_cells hfc] at hB7
  have hB7 : Blk _ w3 b7 [fv] := hB7.ext x3
  have hB8 : Blk 26 w3 b8 [.int .i64 0, .slice none 0 0] := hB8
  have z1 := x1.size
  have z2 := x2.size
  refine iLdA hB4 rfl ?_
  refine iRet (ok_impl_modelCode (l := nats f.a) (vs := nats V) (hs.ext X3) (hv.ext X3) (SlK.ext hR X3) hM.len) fun w4 x4 => ?_
  rw [if_pos ⟨hM.m, hM.isN⟩]
  refine iNe (iCndF rfl ?_)
  refine iFa (iLdP (n := 2) (hB4.ext x4) (by simp) ?_)
  refine iRet (ok_hasFlag_all hM.ok (hs.ext (X3.trans x4)) t ht) fun w7 x7 => ?_
  have x37 := x4.trans x7
  refine iNot (iCnd (fun h => ?_) (fun h => ?_))
  · have h : flagI t f = false := by simpa using h
    rw [h]
    refine iBuild (cs := #[.int .i64 0, .slice none 0 0]) (by simp [Instr.fill]) ?_
    refine iStAB (hB8.ext x37) rfl rfl (fun u hu => by
      simp only [List.mem_cons, List.not_mem_nil, or_false] at hu
      rcases hu with rfl | rfl <;> rfl) fun w8 hu8 hB => ?_
    refine iLdA hB rfl ?_
    exact ⟨(X3.trans x37).upd hu8 (by omega), _, 0, [], rfl, Ow.nil _ _ _, rfl⟩
  · have h : flagI t f = true := by simpa using h
    rw [h]
    refine iLdA (hB4.ext x37) rfl ?_
    have X7 := X3.trans x37
    refine iCall ((ok_impl_newFilter hM.ok hM.six hM.lt hM.good (by have := hM.size; omega) (hT.ext X7) (hs.ext X7) (hv.ext X7) (SlK.ext hn X7)).mono ?_)
    rintro _ w10 ⟨bF, rfl, x10, hbF, hF⟩
    have hF : FlW w10 bF f V a (cM f V a) := hF
    refine iNew fun b11 w11 hb11 x11 hB11 => ?_
    obtain ⟨e11, hB11⟩ : ∃ e, Blk e w11 b11 [.pointer none] := ⟨_, hB11⟩
    refine iStB hB11 (i := 0) (by simp) rfl fun hB12 => ?_
    have hu12 := Upd.setCell w11 b11 0 (.pointer (some ⟨bF, 0, none⟩))
    have x10_12 : Ext w10 (w11.setCell ⟨b11, 0, none⟩ (.pointer (some ⟨bF, 0, none⟩))) := x11.upd hu12 (by omega)
    generalize w11.setCell ⟨b11, 0, none⟩ (.pointer (some ⟨bF, 0, none⟩)) = w12 at *
    have hB12 : Blk e11 w12 b11 [.pointer (some ⟨bF, 0, none⟩)] := hB12
    refine iLdB hB12 rfl ?_
    have x3_12 := (x37.trans x10).trans x10_12
    have X12 := X3.trans x3_12
    refine iCall ((ok_impl_filter_frame hM.ok (hF.ext x10_12) (cM_ok f V a).len (cM_gr f V a).1 H fun x y hx hy w' x' => ?_).mono ?_)
    · refine iClo (f := f_impl_filtrationWith_1) (first := #[]) (cap := #[.pointer (some ⟨b7, 0, none⟩), .pointer (some ⟨b11, 0, none⟩)]) rfl ?_
      refine c_impl_filtrationWith_1 ?_
      unfold S_impl_filtrationWith_1
      refine iLdB ((hB7.ext x3_12).ext x') rfl ?_
      refine iLdB (hB12.ext x') rfl ?_
      exact hH bF w' (X12.trans x') (hF.ext (x10_12.trans x')) x y hx hy
    · rintro _ w13 ⟨x13, u, rfl, ho⟩
      refine iStAB ((hB8.ext x3_12).ext x13) rfl rfl (ho.pair _) fun w14 hu14 hB => ?_
      refine iLdA hB rfl ?_
      exact ⟨(X12.trans x13).upd hu14 (by omega), u, _, _, rfl, (ho.upd hu14 (ho.ne_blk ((hB8.ext x3_12).ext x13) (by decide))).mono X12.size, rfl⟩
/-- Nothing comes of a bad model or a bad formula. -/
theorem bad_impl_filtrationWith {n : Int} {l vs : List Int} {N : List RN} (hb : ¬ (modelOk n l vs = true ∧ isN N = true)) (hs : SlI w va l) (hv : SlI w vv vs) (hn : RawS w vn N) (hN : N.length ≤ 1000) {t : Int} {fv : Value} :
    Ret Tryz.prog f_impl_filtrationWith #[.agg #[.int .i64 n, va, vv], vn, .int .i64 t, fv] w (.tuple #[.agg #[.int .i64 0, .slice none 0 0], .int .i64 1]) := by
  apply c_impl_filtrationWith; unfold S_impl_filtrationWith
  refine iNew fun b4 w1 hb4 x1 hB4 => ?_
  refine iNew fun b7 w2 hb7 x2 hB7 => ?_
  refine iNew fun b8 w3 hb8 x3 hB8 => ?_
  have X3 := (x1.trans x2).trans x3
  have hB4 : Blk _ w3 b4 [.int .i64 n, va, vv] := hB4.ext (x2.trans x3)
  have hB8 : Blk 26 w3 b8 [.int .i64 0, .slice none 0 0] := hB8
  have z1 := x1.size
  have z2 := x2.size
  refine iLdA hB4 rfl ?_
  refine iRet (ok_impl_modelCode (hs.ext X3) (hv.ext X3) (SlK.ext hn X3) (by omega)) fun w4 x4 => ?_
  rw [if_neg hb]
  refine iNe (iCndT rfl ?_)
  refine iBuild (cs := #[.int .i64 0, .slice none 0 0]) (by simp [Instr.fill]) ?_
  refine iStAB (hB8.ext x4) rfl rfl (fun u hu => by
    simp only [List.mem_cons, List.not_mem_nil, or_false] at hu
    rcases hu with rfl | rfl <;> rfl) fun w8 hu8 hB => ?_
  refine iLdA hB rfl ?_
  exact ⟨rfl, (X3.trans x4).upd hu8 (by omega)⟩
theorem ok_impl_TransitiveFiltration (hM : MdG f V a) (hT : TabOk w) (hs : SlN w va f.a) (hv : SlN w vv V) (hn : FmS w vn a) :
    Cal Tryz.prog f_impl_TransitiveFiltration #[.agg #[.int .i64 (f.n : Int), va, vv], vn] w fun r w' => Ext w w' ∧ ∃ u m g, r = .tuple #[.agg #[.int .i64 ((m : Nat) : Int), u], .int .i64 (if flagI 2 f = true then 0 else 5)] ∧ Ow w.heap.size t_i64 w' u (ints (nats g)) ∧ (m, g) = filM 2 true false f V a := by
  apply c_impl_TransitiveFiltration; unfold S_impl_TransitiveFiltration
  refine iNew fun b2 w1 hb2 x1 hB2 => ?_
  refine iNew fun b4 w2 hb4 x2 hB4 => ?_
  have X2 := x1.trans x2
  have hB2 : Blk _ w2 b2 [.int .i64 (f.n : Int), va, vv] := hB2.ext x2
  have hB4 : Blk 26 w2 b4 [.int .i64 0, .slice none 0 0] := hB4
  have z1 := x1.size
  refine iLdA hB2 rfl ?_
  refine iCall ((ok_impl_filtrationWith hM (hT.ext X2) (hs.ext X2) (hv.ext X2) (SlK.ext hn X2) 2 (by omega) (fv := .func (.func f_impl_TransitiveFiltration_1) #[] #[]) rfl (fun x y => mayB (mdM f V a) true x y) fun b w' x' hF x y hx hy => ?_).mono ?_)
  · refine iClo (f := f_impl_TransitiveFiltration_1) (first := #[]) (cap := #[]) rfl ?_
    refine c_impl_TransitiveFiltration_1 ?_
    unfold S_impl_TransitiveFiltration_1
    rw [may_true]
    refine iJnB (mayB (mdM f V a) false x y && keepB (mdM f V a) x y) w' (fun J hJ => ?_) (fun w3 x3 => fun _ => ⟨by first | trivial | rfl, x3⟩)
    refine iRet (ok_impl_filter_allows hM.ok hM.lt hF hx hy) fun w4 x4 => ?_
    refine iCnd (fun h => ?_) (fun h => ?_)
    · rw [h, Bool.true_and] at hJ
      refine iRet (ok_impl_filter_keeps hM.ok hM.lt (hF.ext x4) hx hy) fun w5 x5 => ?_
      exact hJ _ (x4.trans x5)
    · rw [h, Bool.false_and] at hJ
      exact hJ _ x4
  · rintro _ w3 ⟨x3, u, m, g, rfl, ho, hg⟩
    refine iEx (by rfl) (iEx (by rfl) ?_)
    refine iStAB (hB4.ext x3) rfl rfl (ho.pair _) fun w4 hu4 hB => ?_
    refine iLdA hB rfl ?_
    refine ⟨(X2.trans x3).upd hu4 (by omega), u, m, g, rfl, (ho.upd hu4 (ho.ne_blk (hB4.ext x3) (by decide))).mono X2.size, ?_⟩
    rw [hg]
    unfold filM
    have e := gre_any f V a true false
    simp only [Bool.not_false, Bool.true_or, Bool.and_true] at e
    rw [e, (cM_gr f V a).2]
theorem bad_impl_TransitiveFiltration {n : Int} {l vs : List Int} {N : List RN} (hb : ¬ (modelOk n l vs = true ∧ isN N = true)) (hs : SlI w va l) (hv : SlI w vv vs) (hn : RawS w vn N) (hN : N.length ≤ 1000) :
    Ret Tryz.prog f_impl_TransitiveFiltration #[.agg #[.int .i64 n, va, vv], vn] w (.tuple #[.agg #[.int .i64 0, .slice none 0 0], .int .i64 1]) := by
  apply c_impl_TransitiveFiltration; unfold S_impl_TransitiveFiltration
  refine iNew fun b2 w1 hb2 x1 hB2 => ?_
  refine iNew fun b4 w2 hb4 x2 hB4 => ?_
  have X2 := x1.trans x2
  have hB2 : Blk _ w2 b2 [.int .i64 n, va, vv] := hB2.ext x2
  have hB4 : Blk 26 w2 b4 [.int .i64 0, .slice none 0 0] := hB4
  have z1 := x1.size
  refine iLdA hB2 rfl ?_
  refine iRet (bad_impl_filtrationWith hb (hs.ext X2) (hv.ext X2) (SlK.ext hn X2) hN) fun w3 x3 => ?_
  refine iEx (by rfl) (iEx (by rfl) ?_)
  refine iStAB (hB4.ext x3) rfl rfl (fun u hu => by
    simp only [List.mem_cons, List.not_mem_nil, or_false] at hu
    rcases hu with rfl | rfl <;> rfl) fun w4 hu4 hB => ?_
  refine iLdA hB rfl ?_
  exact ⟨rfl, (X2.trans x3).upd hu4 (by omega)⟩
theorem ok_impl_SymmetricFiltration (hM : MdG f V a) (hT : TabOk w) (hs : SlN w va f.a) (hv : SlN w vv V) (hn : FmS w vn a) :
    Cal Tryz.prog f_impl_SymmetricFiltration #[.agg #[.int .i64 (f.n : Int), va, vv], vn] w fun r w' => Ext w w' ∧ ∃ u m g, r = .tuple #[.agg #[.int .i64 ((m : Nat) : Int), u], .int .i64 (if flagI 3 f = true then 0 else 5)] ∧ Ow w.heap.size t_i64 w' u (ints (nats g)) ∧ (m, g) = filM 3 false true f V a := by
  apply c_impl_SymmetricFiltration; unfold S_impl_SymmetricFiltration
  refine iNew fun b2 w1 hb2 x1 hB2 => ?_
  refine iNew fun b4 w2 hb4 x2 hB4 => ?_
  have X2 := x1.trans x2
  have hB2 : Blk _ w2 b2 [.int .i64 (f.n : Int), va, vv] := hB2.ext x2
  have hB4 : Blk 26 w2 b4 [.int .i64 0, .slice none 0 0] := hB4
  have z1 := x1.size
  refine iLdA hB2 rfl ?_
  refine iCall ((ok_impl_filtrationWith hM (hT.ext X2) (hs.ext X2) (hv.ext X2) (SlK.ext hn X2) 3 (by omega) (fv := .func (.func f_impl_SymmetricFiltration_1) #[] #[]) rfl (fun x y => mayB (mdM f V a) false x y && mayB (mdM f V a) false y x) fun b w' x' hF x y hx hy => ?_).mono ?_)
  · refine iClo (f := f_impl_SymmetricFiltration_1) (first := #[]) (cap := #[]) rfl ?_
    refine c_impl_SymmetricFiltration_1 ?_
    unfold S_impl_SymmetricFiltration_1
    refine iJnB (mayB (mdM f V a) false x y && mayB (mdM f V a) false y x) w' (fun J hJ => ?_) (fun w3 x3 => fun _ => ⟨by first | trivial | rfl, x3⟩)
    refine iRet (ok_impl_filter_allows hM.ok hM.lt hF hx hy) fun w4 x4 => ?_
    refine iCnd (fun h => ?_) (fun h => ?_)
    · rw [h, Bool.true_and] at hJ
      refine iRet (ok_impl_filter_allows hM.ok hM.lt (hF.ext x4) hy hx) fun w5 x5 => ?_
      exact hJ _ (x4.trans x5)
    · rw [h, Bool.false_and] at hJ
      exact hJ _ x4
  · rintro _ w3 ⟨x3, u, m, g, rfl, ho, hg⟩
    refine iEx (by rfl) (iEx (by rfl) ?_)
    refine iStAB (hB4.ext x3) rfl rfl (ho.pair _) fun w4 hu4 hB => ?_
    refine iLdA hB rfl ?_
    refine ⟨(X2.trans x3).upd hu4 (by omega), u, m, g, rfl, (ho.upd hu4 (ho.ne_blk (hB4.ext x3) (by decide))).mono X2.size, ?_⟩
    rw [hg]
    unfold filM
    have e := gre_any f V a false true
    simp only [Bool.not_true, Bool.false_or] at e
    rw [e, (cM_gr f V a).2]
theorem bad_impl_SymmetricFiltration {n : Int} {l vs : List Int} {N : List RN} (hb : ¬ (modelOk n l vs = true ∧ isN N = true)) (hs : SlI w va l) (hv : SlI w vv vs) (hn : RawS w vn N) (hN : N.length ≤ 1000) :
    Ret Tryz.prog f_impl_SymmetricFiltration #[.agg #[.int .i64 n, va, vv], vn] w (.tuple #[.agg #[.int .i64 0, .slice none 0 0], .int .i64 1]) := by
  apply c_impl_SymmetricFiltration; unfold S_impl_SymmetricFiltration
  refine iNew fun b2 w1 hb2 x1 hB2 => ?_
  refine iNew fun b4 w2 hb4 x2 hB4 => ?_
  have X2 := x1.trans x2
  have hB2 : Blk _ w2 b2 [.int .i64 n, va, vv] := hB2.ext x2
  have hB4 : Blk 26 w2 b4 [.int .i64 0, .slice none 0 0] := hB4
  have z1 := x1.size
  refine iLdA hB2 rfl ?_
  refine iRet (bad_impl_filtrationWith hb (hs.ext X2) (hv.ext X2) (SlK.ext hn X2) hN) fun w3 x3 => ?_
  refine iEx (by rfl) (iEx (by rfl) ?_)
  refine iStAB (hB4.ext x3) rfl rfl (fun u hu => by
    simp only [List.mem_cons, List.not_mem_nil, or_false] at hu
    rcases hu with rfl | rfl <;> rfl) fun w4 hu4 hB => ?_
  refine iLdA hB rfl ?_
  exact ⟨rfl, (X2.trans x3).upd hu4 (by omega)⟩
theorem ok_impl_IsFiltration (hM : MdG f V a) (hT : TabOk w) (hs : SlN w va f.a) (hv : SlN w vv V) (hn : FmS w vn a) {g : Fr} (hg : g.ok) (hgf : frameOk (g.n : Int) (nats g.a) = true) {vg : Value} (hsg : SlN w vg g.a) :
    Ret Tryz.prog f_impl_IsFiltration #[.agg #[.int .i64 (f.n : Int), va, vv], vn, .agg #[.int .i64 (g.n : Int), vg]] w (.tuple #[.bool (isfB (fM f V a).length (leaA f (cM f V a) (fM f V a).length) (greA f (fun v => V.getD v 0) a (fM f V a) false false) g), .int .i64 0]) := by
  have hR : RawS w vn (rawF a) := FmS.raw hn
  apply c_impl_IsFiltration; unfold S_impl_IsFiltration
  refine iNew fun b3 w1 hb3 x1 hB3 => ?_
  refine iNew fun b5 w2 hb5 x2 hB5 => ?_
  have X2 := x1.trans x2
  have hB3 : Blk _ w2 b3 [.int .i64 (f.n : Int), va, vv] := hB3.ext x2
  have hB5 : Blk _ w2 b5 [.int .i64 (g.n : Int), vg] := hB5
  refine iJnB false w2 (fun J hJ => ?_) (fun w4 x4 => ?_)
  · refine iLdA hB3 rfl ?_
    refine iRet (ok_impl_modelCode (l := nats f.a) (vs := nats V) (hs.ext X2) (hv.ext X2) (SlK.ext hR X2) hM.len) fun w5 x5 => ?_
    rw [if_pos ⟨hM.m, hM.isN⟩]
    refine iNe (iCndF rfl ?_)
    refine iLdA (hB5.ext x5) rfl ?_
    refine iRet (ok_impl_isFrame (l := nats g.a) (hsg.ext (X2.trans x5)) _) fun w6 x6 => iNot ?_
    rw [hgf]
    exact hJ _ (x5.trans x6)
  · intro _
    simp only [gx]
    refine iCndF rfl ?_
    refine iLdA (hB3.ext x4) rfl ?_
    refine iLdA (hB5.ext x4) rfl ?_
    intro w7 x7
    have X7 := (X2.trans x4).trans x7
    refine iCall ((ok_impl_newFilter hM.ok hM.six hM.lt hM.good (by have := hM.size; omega) (hT.ext X7) (hs.ext X7) (hv.ext X7) (SlK.ext hn X7)).mono ?_)
    rintro _ w8 ⟨bF, rfl, x8, hbF, hF⟩
    have hF : FlW w8 bF f V a (cM f V a) := hF
    refine ⟨x8, ?_⟩
    refine iRetQ (fun w' x' => ok_impl_filter_isFiltration hM.ok hM.lt (hF.ext x') (cM_ok f V a).len (cM_gr f V a).1 hg (hsg.ext ((X7.trans x8).trans x'))) ?_
    intro w9 x9
    refine ⟨?_, (X7.trans x8).trans x9⟩
    rw [gra_gre, (cM_gr f V a).2]
theorem ok_impl_FrameFlags {g : Fr} (hg : g.ok) (hgf : frameOk (g.n : Int) (nats g.a) = true) {vg : Value} (hsg : SlN w vg g.a) :
    Cal Tryz.prog f_impl_FrameFlags #[.agg #[.int .i64 (g.n : Int), vg]] w fun r w' => Ext w w' ∧ ∃ u, r = .tuple #[u, .int .i64 0] ∧ SlI w' u (flK g 11) := by
  apply c_impl_FrameFlags; unfold S_impl_FrameFlags
  refine iNew fun b1 w1 hb1 x1 hB1 => ?_
  have hB1 : Blk _ w1 b1 [.int .i64 (g.n : Int), vg] := hB1
  refine iLdA hB1 rfl ?_
  refine iRet (ok_impl_isFrame (l := nats g.a) (hsg.ext x1) _) fun w2 x2 => ?_
  rw [hgf]
  refine iNot (iCndF rfl ?_)
  refine iLdA (hB1.ext x2) rfl ?_
  refine iRet (ok_impl_flagsOf hg (hsg.ext (x1.trans x2))) fun w3 x3 => ?_
  refine iNew fun b4 w4 hb4 x4 hB4 => ?_
  refine iStAB hB4 rfl (by simp [flK]) (fun u hu => by
    simp only [List.mem_map] at hu
    obtain ⟨z, _, rfl⟩ := hu
    rfl) fun w5 hu5 hB => ?_
  refine iSlArr (n := 11) (e := t_i64) (by kernel_rfl) (by kernel_rfl) ?_
  have X4 := ((x1.trans x2).trans x3).trans x4
  refine ⟨X4.upd hu5 (by have := ((x1.trans x2).trans x3).size; omega), _, rfl, ?_⟩
  exact Sl.ofBlk (n := 11) hB (by rw [ints_length, flK_length]) (by omega)
end
end Go.Proofs.YtmefbjdioaahdaaGreatDoor

/- Contracts: what condition 2 allows, in the reference. Conditions: none. -/
namespace Go.Proofs.YtmefbjdioaahdaaGreatDoor
open Go.Vc
/-- A space of the reference: its cells, and what their rows hold. -/
structure SpW (w : World) (cs : List Value) (f : Fr) (V : List Nat) (a : Fm) (c F : List Nat) : Prop where
  ex : ∃ va vv vc vf vb vi vo, cs = [.int .i64 (f.n : Int), va, vv, vc, vf, vb, vi, vo] ∧ SlN w va f.a ∧ SlN w vv V ∧ SlN w vc c ∧ SlN w vf F ∧ Sl w vb ((mdM f V a).map fun d => .bool d.1) ∧ SlN w vi ((mdM f V a).map fun d => d.2.2) ∧ SlN w vo ((mdM f V a).map fun d => d.2.1)
theorem SpW.ext {w w' : World} {cs : List Value} {f : Fr} {V : List Nat} {a : Fm} {c F : List Nat} (h : SpW w cs f V a c F) (x : Ext w w') : SpW w' cs f V a c F := by
  obtain ⟨va, vv, vc, vf, vb, vi, vo, e, h1, h2, h3, h4, h5, h6, h7⟩ := h
  exact ⟨va, vv, vc, vf, vb, vi, vo, e, h1.ext x, h2.ext x, h3.ext x, h4.ext x, h5.ext x, h6.ext x, h7.ext x⟩
theorem ok_spec_l14May {f : Fr} (hf : f.ok) {V : List Nat} (hV : ∀ x ∈ V, x < 2 ^ f.n) {a : Fm} {c F : List Nat} {cs : List Value} {w : World} (hS : SpW w cs f V a c F) {x y : Nat} (hx : x < 8) (hy : y < 8) (more : Bool) :
    Ret Tryz.prog f_spec_l14May #[.agg cs.toArray, .int .i64 (x : Int), .int .i64 (y : Int), .bool more] w (.bool (mayB (mdM f V a) more x y)) := by
  have hlt : ∀ d ∈ mdM f V a, d.2.1 < 2 ^ 8 ∧ d.2.2 < 2 ^ 8 := fun d hd => mdM_lt hf hV hd
  obtain ⟨va, vv, vc, vf, vb, vi, vo, rfl, _, _, _, _, hb, hi, ho⟩ := hS
  generalize mdM f V a = B at *
  apply c_spec_l14May; unfold S_spec_l14May
  refine iNew fun b4 w1 hb4 x1 hB => ?_
  have hB : Blk 48 w1 b4 [.int .i64 (f.n : Int), va, vv, vc, vf, vb, vi, vo] := hB
  have hlen := hb.len
  rw [List.length_map] at hlen
  refine iLp (fun i : Nat => [.int .i64 (i : Int)]) (fun i w' => i ≤ B.length ∧ Ext w1 w' ∧ ∀ j (hj : j < B.length), j < i → mayD more x y B[j] = true) (fun i => B.length - i) 0 rfl ⟨Nat.zero_le _, Ext.refl _, fun j _ hj => by omega⟩ ?_
  rintro i w3 Kn ⟨hi1, x3, hdone⟩ hKn
  have X3 := x1.trans x3
  intro _
  simp only [gx]
  have hB3 := hB.ext x3
  refine iFa (iLdB hB3 (i := 5) (v := vb) rfl ?_)
  refine iLenS (hb.ext X3) ?_
  rw [List.length_map]
  refine iLt (iCndP (fun h => ?_) (fun h => ?_))
  · have hi2 : i < B.length := by omega
    obtain ⟨l1, l2⟩ := hlt _ (List.getElem_mem hi2)
    have rdB : ∀ {w' : World} {K : Value → Prop}, Ext w w' → K (.bool B[i].1) → xIa 1 vb (.int .i64 (i : Int)) fun p => xLd w' p K := fun x' hK => iIaV (hb.ext x') (by rw [List.length_map]; exact hi2) fun p hp => iLd hp (by rw [List.getElem_map]; exact hK)
    have rdO : ∀ {w' : World} {K : Value → Prop}, Ext w w' → K (.int .i64 (B[i].2.1 : Int)) → xIa 1 vo (.int .i64 (i : Int)) fun p => xLd w' p K := fun x' hK => iIaNN (ho.ext x') (by rw [List.length_map]; exact hi2) fun p hp => iLd hp (by
      have e : (B.map fun d => d.2.1).getD i 0 = B[i].2.1 := by simp [hi2]
      rw [e]; exact hK)
    have rdI : ∀ {w' : World} {K : Value → Prop}, Ext w w' → K (.int .i64 (B[i].2.2 : Int)) → xIa 1 vi (.int .i64 (i : Int)) fun p => xLd w' p K := fun x' hK => iIaNN (hi.ext x') (by rw [List.length_map]; exact hi2) fun p hp => iLd hp (by
      have e : (B.map fun d => d.2.2).getD i 0 = B[i].2.2 := by simp [hi2]
      rw [e]; exact hK)
    have no : ∀ w', mayD more x y B[i] = false → Ext w w' → (.bool false : Value) = .bool (mayB B more x y) ∧ Ext w w' := fun w' hn x' => ⟨by
      have : mayB B more x y = false := by
        unfold mayB
        rw [List.all_eq_false]
        exact ⟨_, List.getElem_mem hi2, by rw [hn]; simp⟩
      rw [this], x'⟩
    obtain ⟨db, dO, dI⟩ : ∃ db dO, ∃ dI, B[i] = (db, dO, dI) := ⟨B[i].1, B[i].2.1, B[i].2.2, rfl⟩
    obtain ⟨dI, hd⟩ := dI
    rw [hd] at rdB rdO rdI no l1 l2
    simp only at rdB rdO rdI l1 l2
    refine iJnB (db && (dO.testBit x && (!dI.testBit y || (more && !dO.testBit y)))) w3 (fun J hJ => ?_) (fun w5 x5 => ?_)
    · refine iFa (iLdB hB3 (i := 5) (v := vb) rfl ?_)
      refine rdB X3 ?_
      refine iCnd (fun h1 => ?_) (fun h1 => ?_)
      · subst h1
        refine iFa (iLdB hB3 (i := 7) (v := vo) rfl ?_)
        refine rdO X3 ?_
        refine iRet (ok_spec_l01Bit _ x (by omega) (by omega) w3) fun w6 x6 => ?_
        refine iCnd (fun h2 => ?_) (fun h2 => ?_)
        · refine iFa (iLdB (hB3.ext x6) (i := 6) (v := vi) rfl ?_)
          refine rdI (X3.trans x6) ?_
          refine iRet (ok_spec_l01Bit _ y (by omega) (by omega) w6) fun w7 x7 => iNot ?_
          refine iCnd (fun h3 => ?_) (fun h3 => ?_)
          · rw [h2, h3] at hJ
            exact hJ _ (x6.trans x7)
          · refine iCnd (fun h4 => ?_) (fun h4 => ?_)
            · refine iFa (iLdB (hB3.ext (x6.trans x7)) (i := 7) (v := vo) rfl ?_)
              refine rdO (X3.trans (x6.trans x7)) ?_
              refine iRet (ok_spec_l01Bit _ y (by omega) (by omega) w7) fun w8 x8 => iNot ?_
              rw [h2, h3, h4] at hJ
              exact hJ _ ((x6.trans x7).trans x8)
            · rw [h2, h3, h4] at hJ
              exact hJ _ (x6.trans x7)
        · rw [h2] at hJ
          exact hJ _ x6
      · subst h1
        exact hJ _ (Ext.refl _)
    intro _
    simp only [gx]
    have X5 := X3.trans x5
    have hB5 := hB3.ext x5
    refine iCnd (fun h1 => ?_) (fun h1 => ?_)
    · refine no w5 ?_ X5
      unfold mayD
      revert h1
      cases db <;> cases dO.testBit x <;> cases dI.testBit y <;> cases dO.testBit y <;> cases more <;> simp
    refine iJnB (!db && (!dO.testBit x && (dI.testBit y || (more && dO.testBit y)))) w5 (fun J hJ => ?_) (fun w10 x10 => ?_)
    · refine iFa (iLdB hB5 (i := 5) (v := vb) rfl ?_)
      refine rdB X5 (iNot ?_)
      refine iCnd (fun h1 => ?_) (fun h1 => ?_)
      · have h1 : db = false := by simpa using h1
        subst h1
        refine iFa (iLdB hB5 (i := 7) (v := vo) rfl ?_)
        refine rdO X5 ?_
        refine iRet (ok_spec_l01Bit _ x (by omega) (by omega) w5) fun w6 x6 => iNot ?_
        refine iCnd (fun h2 => ?_) (fun h2 => ?_)
        · refine iFa (iLdB (hB5.ext x6) (i := 6) (v := vi) rfl ?_)
          refine rdI (X5.trans x6) ?_
          refine iRet (ok_spec_l01Bit _ y (by omega) (by omega) w6) fun w7 x7 => ?_
          refine iCnd (fun h3 => ?_) (fun h3 => ?_)
          · rw [h2, h3] at hJ
            exact hJ _ (x6.trans x7)
          · refine iCnd (fun h4 => ?_) (fun h4 => ?_)
            · refine iFa (iLdB (hB5.ext (x6.trans x7)) (i := 7) (v := vo) rfl ?_)
              refine rdO (X5.trans (x6.trans x7)) ?_
              refine iRet (ok_spec_l01Bit _ y (by omega) (by omega) w7) fun w8 x8 => ?_
              rw [h2, h3, h4] at hJ
              exact hJ _ ((x6.trans x7).trans x8)
            · rw [h2, h3, h4] at hJ
              exact hJ _ (x6.trans x7)
        · rw [h2] at hJ
          exact hJ _ x6
      · have h1 : db = true := by simpa using h1
        subst h1
        exact hJ _ (Ext.refl _)
    intro _
    simp only [gx]
    refine iCnd (fun h2 => ?_) (fun h2 => ?_)
    · refine no w10 ?_ (X5.trans x10)
      unfold mayD
      revert h2
      cases db <;> cases dO.testBit x <;> cases dI.testBit y <;> cases dO.testBit y <;> cases more <;> simp
    · refine iAdd (by omega) ?_
      refine hKn (i + 1) _ ⟨by omega, (x3.trans x5).trans x10, fun j hj hji => ?_⟩ (by omega)
      by_cases h3 : j < i
      · exact hdone j hj h3
      · have : j = i := by omega
        subst this
        rw [hd]
        unfold mayD
        revert h1 h2
        cases db <;> cases dO.testBit x <;> cases dI.testBit y <;> cases dO.testBit y <;> cases more <;> simp
  · refine ⟨?_, X3⟩
    have : mayB B more x y = true := by
      unfold mayB
      rw [List.all_eq_true]
      intro d hd
      obtain ⟨j, hj, rfl⟩ := List.getElem_of_mem hd
      exact hdone j hj (by omega)
    rw [this]
end Go.Proofs.YtmefbjdioaahdaaGreatDoor

/- Contracts: the parts of a formula as the reference lists them; families of rows of numbers. Conditions: none. -/
namespace Go.Vc
theorem iBoolEN {p a b : Bool} {K : Value → Prop} (h : K (.bool (p == (a == b)))) : xBoolEq p (.bool a) (.bool b) K := ⟨a, b, rfl, rfl, h⟩
theorem iSlKA {w : World} {k : Nat} {v : Value} {n i j : Nat} {xs : List Value} {ki kj : IntKind} {K : Value → Prop} (hs : SlK k w v n xs) (hi : i ≤ j) (hj : j ≤ n) (h : ∀ r, isCell r = true → (∀ w', SlK k w' v n xs → SlK k w' r (j - i) ((xs.drop (i * k)).take ((j - i) * k))) → K r) : xSl k v (some (.int ki (i : Int))) (some (.int kj (j : Int))) K := by
  obtain ⟨h0, a, c, rfl, h2, h3, h4⟩ := hs
  have hik : i * k ≤ j * k := Nat.mul_le_mul_right _ hi
  have hjk : j * k ≤ n * k := Nat.mul_le_mul_right _ hj
  refine ⟨_, _, _, i, j, rfl, ⟨kj, rfl⟩, ⟨ki, rfl⟩, hi, by omega, h _ rfl ?_⟩
  rintro w' ⟨_, a', c', e', _, _, h4'⟩
  cases e'
  refine ⟨?_, _, _, rfl, by omega, by omega, ?_⟩
  · rw [List.length_take, List.length_drop, Nat.sub_mul]; omega
  · rcases h4' with rfl | ⟨b, o, rfl, hc⟩
    · exact .inl (by omega)
    · by_cases hz : j - i = 0
      · exact .inl hz
      · refine .inr ⟨b, o + i * k, by rw [if_neg (by omega), Option.map_some, addr_add], fun m hm => ?_⟩
        rw [Nat.sub_mul] at hm ⊢
        rw [Nat.add_assoc, hc _ (by omega), List.getElem?_take, if_pos hm, List.getElem?_drop]
end Go.Vc
namespace Go.Proofs.YtmefbjdioaahdaaGreatDoor
open Go.Vc
/-- Rows of numbers that do not share their blocks. -/
structure Rws (lo : Nat) (w : World) (n : Nat) (r : Nat → Value) (X : Nat → List Nat) : Prop where
  row : ∀ i, i < n → Ow lo t_i64 w (r i) (ints (nats (X i)))
  apart : ∀ i j, i < n → j < n → i ≠ j → ∀ c, (r i).ownBlock = some c → ¬ (r j).ownBlock = some c
theorem Rws.ext {lo n : Nat} {w w' : World} {r : Nat → Value} {X : Nat → List Nat} (h : Rws lo w n r X) (x : Ext w w') : Rws lo w' n r X := ⟨fun i hi => (h.row i hi).ext x, h.apart⟩
theorem Rws.upd {lo n b : Nat} {w w' : World} {r : Nat → Value} {X : Nat → List Nat} {e : TypeId} {cs : List Value} (h : Rws lo w n r X) (hB : Blk e w b cs) (hne : t_i64 ≠ e) (hu : Upd b w w') : Rws lo w' n r X := ⟨fun i hi => (h.row i hi).upd hu ((h.row i hi).ne_blk hB hne), h.apart⟩
theorem Rws.ch {lo lo' n : Nat} {w w' : World} {r : Nat → Value} {X : Nat → List Nat} {e : TypeId} {v : Value} {xs : List Value} (h : Rws lo w n r X) (hv : Ow lo' e w v xs) (hne : t_i64 ≠ e) (hc : Ch (fun c => v.ownBlock = some c) w w') : Rws lo w' n r X := ⟨fun i hi => (h.row i hi).ch hc fun _ hk hk' => (h.row i hi).ne_ow hv hne hk hk', h.apart⟩
def upF {α : Type} (r : Nat → α) (k : Nat) (v : α) (i : Nat) : α := if i = k then v else r i
/-- A number more in one of the rows. -/
theorem Rws.app {lo n k q : Nat} {w : World} {r : Nat → Value} {X : Nat → List Nat} (h : Rws lo w n r X) (hk : k < n) (x : Nat) (hB : Blk t_i64 w q [.int .i64 (x : Int)]) (hX : (X k).length ≤ 1000000) (hlo : lo ≤ w.heap.size) {K : Value → World → Prop}
    (hK : ∀ v' w', Rws lo w' n (upF r k v') (upF X k (X k ++ [x])) → Ch (fun c => (r k).ownBlock = some c) w w' → isCell v' = true → K v' w') :
    xOp Tryz.prog (Builtin.append_ #[t_Si64, t_Si64] t_Si64 #[r k, .slice (some ⟨q, 0, none⟩) 1 1]) w K := by
  have hlen : (ints (nats (X k))).length = (X k).length := by rw [ints_length, nats_length]
  refine iAppA u_Si64 i_Si64 rfl (h.row k hk) (Sl.ofBlk (n := 1) hB rfl (by omega)) (fun u hu => by simp at hu; subst hu; rfl) (by rw [hlen]; simp; omega) (by rw [hlen]; simp; omega) hlo fun v' w' ho hg hat => ?_
  have hch : Ch (fun c => (r k).ownBlock = some c) w w' := grown_ch hg fun b hb => hb
  have fresh : ∀ j, j < n → j ≠ k → ∀ c, v'.ownBlock = some c → ¬ (r j).ownBlock = some c := fun j hj hjk c hc hc' => by
    rcases hat with h1 | ⟨c2, h1, h2⟩
    · exact h.apart j k hj hk hjk c hc' (by rw [← h1]; exact hc)
    · rw [h1] at hc
      cases hc
      have := ((h.row j hj).blk _ hc').2
      omega
  refine hK v' w' ⟨fun i hi => ?_, fun i j hi hj hij c hc hc' => ?_⟩ hch ho.cell
  · unfold upF
    by_cases e : i = k
    · rw [if_pos e, if_pos e]
      have e2 : ints (nats (X k ++ [x])) = ints (nats (X k)) ++ [.int .i64 (x : Int)] := by simp [ints, nats]
      rw [e2]; exact ho
    · rw [if_neg e, if_neg e]
      exact (h.row i hi).ch hch fun c hc hc' => h.apart i k hi hk e c hc hc'
  · unfold upF at hc hc'
    by_cases e : i = k
    · rw [if_pos e] at hc
      rw [if_neg (fun e2 => hij (by rw [e, e2]))] at hc'
      exact fresh j hj (fun e2 => hij (by rw [e, e2])) c hc hc'
    · rw [if_neg e] at hc
      by_cases e2 : j = k
      · rw [if_pos e2] at hc'
        exact fresh i hi e c hc' hc
      · rw [if_neg e2] at hc'
        exact h.apart i j hi hj hij c hc hc'
theorem ok_spec_l14Parts {vn : Value} {a : Fm} {w : World} (hn : FmS w vn a) (hsz : a.size ≤ 1000) : Cal Tryz.prog f_spec_l14Parts #[vn] w fun r w' => Ext w w' ∧ ∃ P : List Value, Ow w.heap.size t_Simpl_Node w' r P ∧ P.length = a.size ∧ ∀ i (h : i < P.length), ∀ w'', FmS w'' vn a → FmS w'' P[i] (partF a i) := by
  apply c_spec_l14Parts; unfold S_spec_l14Parts
  refine iBs0 fun v5 w1 hs1 x1 ho1 => ?_
  refine iLp (fun s : Value × Nat => [s.1, .int .i64 (s.2 : Int)]) (fun s w' => s.2 ≤ a.size ∧ Ext w w' ∧ ∃ P : List Value, Ow w.heap.size t_Simpl_Node w' s.1 P ∧ P.length = s.2 ∧ ∀ i (h : i < P.length), ∀ w'', FmS w'' vn a → FmS w'' P[i] (partF a i)) (fun s => a.size - s.2) (v5, 0) rfl ⟨Nat.zero_le _, x1, [], ho1, rfl, fun i h => absurd h (Nat.not_lt_zero _)⟩ ?_
  rintro ⟨u, i⟩ w3 Kn ⟨hi, x3, P, hP, hPl, hPs⟩ hKn
  have hi : i ≤ a.size := hi
  have x3 : Ext w w3 := x3
  have hP : Ow w.heap.size t_Simpl_Node w3 u P := hP
  have hPl : P.length = i := hPl
  intro _
  simp only [gx]
  refine iLenK (SlK.ext hn x3) ?_
  refine iLt (iCndP (fun h => ?_) (fun h => ?_))
  · have hi1 : i < a.size := by omega
    obtain ⟨r, hr⟩ := part_cells hi1
    have hpsz := part_size hi1
    have hr : a.cells.drop (i * 2) = (partF a i).cells ++ cellsL r := by rw [hr]; simp [cellsL]
    refine iRet (ok_spec_l02Part (SlK.ext hn x3) hr (by omega)) fun w4 x4 => ?_
    refine iSlKA (SlK.ext hn (x3.trans x4)) (by omega) hpsz fun v18 hc18 hA => ?_
    have hA : ∀ w'', FmS w'' vn a → FmS w'' v18 (partF a i) := fun w'' h'' => by
      have hu := hA w'' h''
      rw [hr, Nat.add_sub_cancel_left, ← (partF a i).cells_len, List.take_left] at hu
      exact hu
    have X4 := x3.trans x4
    refine iApp1 u_SSimpl_Node i_SSimpl_Node rfl (hP.ext x4) hc18 (by rw [hPl]; omega) (by rw [hPl]; omega) X4.size fun v' w6 ho6 hg6 => ?_
    refine iAdd (by omega) ?_
    refine hKn (v', i + 1) _ ⟨hi1, X4.grown hg6 fun c hc => ((hP.ext x4).blk c hc).1, P ++ [v18], ho6, by rw [List.length_append, hPl]; rfl, fun j hj w'' h'' => ?_⟩ (by show a.size - (i + 1) < a.size - i; omega)
    rw [List.length_append, List.length_singleton] at hj
    by_cases hji : j < i
    · rw [List.getElem_append_left (by omega)]
      exact hPs j (by omega) w'' h''
    · have : j = i := by omega
      subst this
      rw [List.getElem_append_right (by omega)]
      simp only [hPl, Nat.sub_self, List.getElem_singleton]
      exact hA w'' h''
  · have : i = a.size := by omega
    subst this
    exact ⟨x3, P, hP, hPl, hPs⟩
end Go.Proofs.YtmefbjdioaahdaaGreatDoor

/- Contracts: the space of a model and a formula, in the reference. Conditions: none. -/
namespace Go.Proofs.YtmefbjdioaahdaaGreatDoor
open Go.Vc
theorem Rws.congr {lo n : Nat} {w : World} {r : Nat → Value} {X Y : Nat → List Nat} (h : Rws lo w n r X) (e : ∀ i, i < n → X i = Y i) : Rws lo w n r Y := ⟨fun i hi => by rw [← e i hi]; exact h.row i hi, h.apart⟩
/-- What a space is made in: rows of numbers, a row of truth values, the parts, and the block of the space. -/
structure SpS (w0 : World) (b : Nat) (vp : Value) (P : List Value) (w : World) (r : Nat → Value) (X : Nat → List Nat) (vb : Value) (bs : List Bool) (cs : List Value) : Prop where
  x : Ext w0 w
  rows : Rws w0.heap.size w 5 r X
  bool : Ow w0.heap.size t_bool w vb (bs.map Value.bool)
  par : Ow w0.heap.size t_Simpl_Node w vp P
  blk : Blk 48 w b cs
  lo : w0.heap.size ≤ b
section
variable {w0 w : World} {b : Nat} {vp vb : Value} {P cs : List Value} {r : Nat → Value} {X : Nat → List Nat} {bs : List Bool}
theorem SpS.ext {w' : World} (h : SpS w0 b vp P w r X vb bs cs) (x : Ext w w') : SpS w0 b vp P w' r X vb bs cs := ⟨h.x.trans x, h.rows.ext x, h.bool.ext x, h.par.ext x, h.blk.ext x, h.lo⟩
theorem SpS.app {k q : Nat} (h : SpS w0 b vp P w r X vb bs cs) (hk : k < 5) (x : Nat) (hX : (X k).length ≤ 1000000) (hB : Blk t_i64 w q [.int .i64 (x : Int)]) {K : Value → World → Prop}
    (hK : ∀ v' w', SpS w0 b vp P w' (upF r k v') (upF X k (X k ++ [x])) vb bs cs → isCell v' = true → K v' w') :
    xOp Tryz.prog (Builtin.append_ #[t_Si64, t_Si64] t_Si64 #[r k, .slice (some ⟨q, 0, none⟩) 1 1]) w K := by
  refine h.rows.app hk x hB hX h.x.size fun v' w' hR hc hcell => hK v' w' ⟨h.x.thenCh hc fun c hc => ((h.rows.row k hk).blk c hc).1, hR, ?_, ?_, ?_, h.lo⟩ hcell
  · exact h.bool.ch hc fun c hc hc' => h.bool.ne_ow (h.rows.row k hk) (by decide) hc hc'
  · exact h.par.ch hc fun c hc hc' => h.par.ne_ow (h.rows.row k hk) (by decide) hc hc'
  · exact h.blk.ch hc ((h.rows.row k hk).ne_blk h.blk (by decide))
theorem SpS.appA {k : Nat} (h : SpS w0 b vp P w r X vb bs cs) (hk : k < 5) (x : Nat) (hX : (X k).length ≤ 1000000) {K : Value → World → Prop}
    (hK : ∀ v' w', SpS w0 b vp P w' (upF r k v') (upF X k (X k ++ [x])) vb bs cs → isCell v' = true → K v' w') :
    xBs t_i64 (Value.cells (.int .i64 0)) 1 1 [(0, .int .i64 (x : Int))] w fun y w1 => Ext w w1 ∧ ∀ w2, Ext w1 w2 → xOp Tryz.prog (Builtin.append_ #[t_Si64, t_Si64] t_Si64 #[r k, y]) w2 K :=
  iBs1 rfl rfl fun _ _ _ x1 hB => ⟨x1, fun _ x2 => (h.ext (x1.trans x2)).app hk x hX (hB.ext x2) hK⟩
theorem SpS.appB {k : Nat} (h : SpS w0 b vp P w r X vb bs cs) (hk : k < 5) (x : Nat) (hX : (X k).length ≤ 1000000) {K : Value → World → Prop}
    (hK : ∀ v' w', SpS w0 b vp P w' (upF r k v') (upF X k (X k ++ [x])) vb bs cs → isCell v' = true → K v' w') :
    xBs t_i64 (Value.cells (.int .i64 0)) 1 1 [(0, .int .i64 (x : Int))] w fun y w1 => ∀ w2, Ext w1 w2 → xOp Tryz.prog (Builtin.append_ #[t_Si64, t_Si64] t_Si64 #[r k, y]) w2 K :=
  iBs1 rfl rfl fun _ _ _ x1 hB => fun _ x2 => (h.ext (x1.trans x2)).app hk x hX (hB.ext x2) hK
theorem SpS.appC {k : Nat} (h : SpS w0 b vp P w r X vb bs cs) (hk : k < 5) (x : Nat) (hX : (X k).length ≤ 1000000) {K : Value → World → Prop}
    (hK : ∀ v' w', SpS w0 b vp P w' (upF r k v') (upF X k (X k ++ [x])) vb bs cs → isCell v' = true → K v' w') :
    xBs t_i64 (Value.cells (.int .i64 0)) 1 1 [(0, .int .i64 (x : Int))] w fun y w1 => xOp Tryz.prog (Builtin.append_ #[t_Si64, t_Si64] t_Si64 #[r k, y]) w1 K :=
  iBs1 rfl rfl fun _ _ _ x1 hB => (h.ext x1).app hk x hX hB hK
theorem SpS.appBool (h : SpS w0 b vp P w r X vb bs cs) (t : Bool) (hX : bs.length ≤ 1000000) {K : Value → World → Prop}
    (hK : ∀ v' w', SpS w0 b vp P w' r X v' (bs ++ [t]) cs → isCell v' = true → K v' w') :
    xBs t_bool (Value.cells (.bool false)) 1 1 [(0, .bool t)] w fun y w1 => xOp Tryz.prog (Builtin.append_ #[t_Sbool, t_Sbool] t_Sbool #[vb, y]) w1 K := by
  refine iApp1 u_Sbool i_Sbool rfl h.bool rfl (by rw [List.length_map]; omega) (by rw [List.length_map]; omega) h.x.size fun v' w' ho hg => ?_
  have hc : Ch (fun c => vb.ownBlock = some c) w w' := grown_ch hg fun b hb => hb
  refine hK v' w' ⟨h.x.grown hg fun c hc => (h.bool.blk c hc).1, h.rows.ch h.bool (by decide) hc, by rw [List.map_append]; exact ho, ?_, ?_, h.lo⟩ ho.cell
  · exact h.par.ch hc fun c hc hc' => h.par.ne_ow h.bool (by decide) hc hc'
  · exact h.blk.ch hc (h.bool.ne_blk h.blk (by decide))
theorem SpS.put {j : Nat} {v : Value} (h : SpS w0 b vp P w r X vb bs cs) (hj : j < cs.length) (hv : isCell v = true) {K : World → Prop} (hK : ∀ w', SpS w0 b vp P w' r X vb bs (cs.set j v) → K w') : xSt w (.pointer (some ⟨b, j, none⟩)) v K := by
  refine iStB h.blk hj hv fun hB => ?_
  have hu := Upd.setCell w b j v
  exact hK _ ⟨h.x.upd hu h.lo, h.rows.upd h.blk (by decide) hu, h.bool.upd hu (h.bool.ne_blk h.blk (by decide)), h.par.upd hu (h.par.ne_blk h.blk (by decide)), hB, h.lo⟩
end
/-- The rows after the first i nodes. -/
def rwX (f : Fr) (V : List Nat) (a : Fm) (i : Nat) : Nat → List Nat
  | 0 => mkL f (fun v => V.getD v 0) a i
  | 1 => (mdL f (fun v => V.getD v 0) a i).map fun d => d.2.2
  | 2 => (mdL f (fun v => V.getD v 0) a i).map fun d => d.2.1
  | _ => []
/-- The rows after the first u worlds. -/
def rwY (f : Fr) (V : List Nat) (a : Fm) (u : Nat) : Nat → List Nat
  | 0 => mkL f (fun v => V.getD v 0) a a.size
  | 1 => (mdL f (fun v => V.getD v 0) a a.size).map fun d => d.2.2
  | 2 => (mdL f (fun v => V.getD v 0) a a.size).map fun d => d.2.1
  | 3 => (clsS (mkL f (fun v => V.getD v 0) a a.size) u).1
  | _ => (clsS (mkL f (fun v => V.getD v 0) a a.size) u).2
theorem mdL_len (f : Fr) (V : Nat → Nat) (a : Fm) : ∀ i, (mdL f V a i).length ≤ i
  | 0 => Nat.le_refl _
  | i + 1 => by
    have := mdL_len f V a i
    rw [mdL_succ, List.length_append]
    cases partF a i <;> simp [mdOf] at * <;> omega
theorem clsS_len (M : List Nat) (u : Nat) : (clsS M u).1.length = u ∧ (clsS M u).2.length ≤ u := by
  have h := clsS_ok M u
  refine ⟨h.len, ?_⟩
  have h1 := (topG_le (clsS M u).1 0).2
  rw [(clsS_gr M u).2, h.len] at h1
  omega
/-- A space whose rows are the call's own. -/
def SpO (lo : Nat) (w : World) (va vv : Value) (cs : List Value) (f : Fr) (V : List Nat) (a : Fm) (c F : List Nat) : Prop := SlN w va f.a ∧ SlN w vv V ∧ ∃ vc vf vb vi vo, cs = [.int .i64 (f.n : Int), va, vv, vc, vf, vb, vi, vo] ∧ Ow lo t_i64 w vc (ints (nats c)) ∧ Ow lo t_i64 w vf (ints (nats F)) ∧ Ow lo t_bool w vb ((mdM f V a).map fun d => .bool d.1) ∧
  Ow lo t_i64 w vi (ints (nats ((mdM f V a).map fun d => d.2.2))) ∧ Ow lo t_i64 w vo (ints (nats ((mdM f V a).map fun d => d.2.1)))
theorem SpO.sp {lo : Nat} {w : World} {va vv : Value} {cs : List Value} {f : Fr} {V : List Nat} {a : Fm} {c F : List Nat} (h : SpO lo w va vv cs f V a c F) : SpW w cs f V a c F := by
  obtain ⟨h1, h2, vc, vf, vb, vi, vo, e, h3, h4, h5, h6, h7⟩ := h
  exact ⟨va, vv, vc, vf, vb, vi, vo, e, h1, h2, h3.sl, h4.sl, h5.sl, h6.sl, h7.sl⟩
theorem SpO.upd {lo lo' b : Nat} {w w' : World} {va vv : Value} {cs : List Value} {f : Fr} {V : List Nat} {a : Fm} {c F : List Nat} (h : SpO lo w va vv cs f V a c F) (hu : Upd b w w') (hb : b < lo) (hl : lo' ≤ lo) (h1 : SlN w' va f.a) (h2 : SlN w' vv V) : SpO lo' w' va vv cs f V a c F := by
  obtain ⟨_, _, vc, vf, vb, vi, vo, e, h3, h4, h5, h6, h7⟩ := h
  have key : ∀ {e : TypeId} {v : Value} {xs : List Value}, Ow lo e w v xs → Ow lo' e w' v xs := fun h => (h.upd hu (fun hc => by have := (h.blk _ hc).1; omega)).mono hl
  exact ⟨h1, h2, vc, vf, vb, vi, vo, e, key h3, key h4, key h5, key h6, key h7⟩
theorem ok_spec_l14Make {f : Fr} {V : List Nat} {a : Fm} (hM : MdG f V a) {va vv vn : Value} {w : World} (hs : SlN w va f.a) (hv : SlN w vv V) (hn : FmS w vn a) :
    Cal Tryz.prog f_spec_l14Make #[.agg #[.int .i64 (f.n : Int), va, vv], vn] w fun r w' => Ext w w' ∧ ∃ cs, r = .agg cs.toArray ∧ SpO w.heap.size w' va vv cs f V a (cM f V a) (fM f V a) := by
  have h8 := hM.ok.1
  have hsz := hM.size
  have hca : isCell va = true := by
    obtain ⟨_, _, h, _⟩ := hs
    rw [h]; rfl
  have hcv : isCell vv = true := by
    obtain ⟨_, _, h, _⟩ := hv
    rw [h]; rfl
  apply c_spec_l14Make; unfold S_spec_l14Make
  refine iNew fun b2 w1 hb2 x1 hB2 => ?_
  have hB2 : Blk 28 w1 b2 [.int .i64 (f.n : Int), va, vv] := hB2
  refine iNew fun b4 w2 hb4 x2 hB4 => ?_
  have hB4 : Blk 48 w2 b4 [.int .i64 0, .slice none 0 0, .slice none 0 0, .slice none 0 0, .slice none 0 0, .slice none 0 0, .slice none 0 0, .slice none 0 0] := hB4
  have X2 := x1.trans x2
  refine iCall ((ok_spec_l14Parts (SlK.ext hn X2) (by omega)).mono ?_)
  rintro vp w3 ⟨x3, P, hoP, hPl, hPs⟩
  refine iBs0 fun v17 w4 z4 x4 ho17 => ?_
  refine iLdA (((hB2.ext x2).ext x3).ext x4) rfl ?_
  refine iBs0 fun v19 w5 z5 x5 ho19 => ?_
  refine iBs0 fun v20 w6 z6 x6 ho20 => ?_
  refine iBuild (cs := #[.int .i64 (f.n : Int), va, vv, v19, v20, .slice none 0 0, .slice none 0 0, .slice none 0 0]) (by
    have e0 : ∀ cs, (Value.agg cs).cells = cs := fun _ => rfl
    simp [Instr.fill, e0, isCell_cells ho19.cell, isCell_cells ho20.cell]) ?_
  refine iNew fun b7 w7 hb7 x7 hB7 => ?_
  have hB7 : Blk 48 w7 b7 [.int .i64 0, .slice none 0 0, .slice none 0 0, .slice none 0 0, .slice none 0 0, .slice none 0 0, .slice none 0 0, .slice none 0 0] := hB7
  refine iStAB hB7 rfl rfl (fun u hu => by
    simp only [List.mem_cons, List.not_mem_nil, or_false] at hu
    rcases hu with rfl | rfl | rfl | rfl | rfl | rfl | rfl | rfl
    · rfl
    · exact hca
    · exact hcv
    · exact ho19.cell
    · exact ho20.cell
    · rfl
    · rfl
    · rfl) fun w8 hu8 hB8 => ?_
  have x26 := ((x3.trans x4).trans x5).trans x6
  have x68 : Ext w6 w8 := x7.upd hu8 (by omega)
  have zz3 := x3.size
  have zz6 := x26.size
  obtain ⟨r0, hr0⟩ : ∃ r0 : Nat → Value, r0 0 = v17 ∧ r0 1 = .slice none 0 0 ∧ r0 2 = .slice none 0 0 ∧ r0 3 = v19 ∧ r0 4 = v20 := ⟨fun | 0 => v17 | 1 => .slice none 0 0 | 2 => .slice none 0 0 | 3 => v19 | _ => v20, rfl, rfl, rfl, rfl, rfl⟩
  obtain ⟨q0, q1, q2, q3, q4⟩ := hr0
  have hS0 : SpS w2 b7 vp P w8 r0 (rwX f V a 0) (.slice none 0 0) [] [.int .i64 (f.n : Int), va, vv, r0 3, r0 4, .slice none 0 0, r0 1, r0 2] := by
    have own : ∀ i, i < 5 → ∀ c, (r0 i).ownBlock = some c → (i = 0 ∧ w3.heap.size ≤ c ∧ c < w4.heap.size) ∨ (i = 3 ∧ w4.heap.size ≤ c ∧ c < w5.heap.size) ∨ (i = 4 ∧ w5.heap.size ≤ c ∧ c < w6.heap.size) := fun i hi c hc => by
      match i, hi with
      | 0, _ => rw [q0] at hc; exact .inl ⟨rfl, ho17.blk c hc⟩
      | 1, _ => rw [q1] at hc; cases hc
      | 2, _ => rw [q2] at hc; cases hc
      | 3, _ => rw [q3] at hc; exact .inr (.inl ⟨rfl, ho19.blk c hc⟩)
      | 4, _ => rw [q4] at hc; exact .inr (.inr ⟨rfl, ho20.blk c hc⟩)
    refine ⟨x26.trans x68, ⟨fun i hi => ?_, fun i j hi hj hij c hc hc' => ?_⟩, Ow.nil _ _ _, hoP.ext (((x4.trans x5).trans x6).trans x68), ?_, by omega⟩
    · match i, hi with
      | 0, _ => rw [q0]; exact ((ho17.ext ((x5.trans x6).trans x68)).mono zz3)
      | 1, _ => rw [q1]; exact Ow.nil _ _ _
      | 2, _ => rw [q2]; exact Ow.nil _ _ _
      | 3, _ => rw [q3]; exact ((ho19.ext (x6.trans x68)).mono (by omega))
      | 4, _ => rw [q4]; exact ((ho20.ext x68).mono (by omega))
    · have h1 := own i hi c hc
      have h2 := own j hj c hc'
      omega
    · rw [q1, q2, q3, q4]; exact hB8
  rw [← q0]
  have hVlt : ∀ v, V.getD v 0 < 2 ^ f.n := fun v => by
    rcases Nat.lt_or_ge v V.length with h | h
    · exact getD_lt hM.lt h
    · rw [List.getD_eq_getElem?_getD, List.getElem?_eq_none h]; exact Nat.two_pow_pos _
  have hB22 : Blk 28 w2 b2 [.int .i64 (f.n : Int), va, vv] := hB2.ext x2
  refine iLp (fun s : (Nat → Value) × Nat => [s.1 0, .int .i64 (s.2 : Int)]) (fun s w' => s.2 ≤ a.size ∧ ∃ vb, SpS w2 b7 vp P w' s.1 (rwX f V a s.2) vb ((mdL f (fun v => V.getD v 0) a s.2).map fun d => d.1) [.int .i64 (f.n : Int), va, vv, s.1 3, s.1 4, vb, s.1 1, s.1 2] ∧ isCell vb = true) (fun s => a.size - s.2) (r0, 0) rfl ⟨Nat.zero_le _, _, hS0, rfl⟩ ?_
  rintro ⟨r, i⟩ w10 Kn ⟨hi, vb, hS, hcb⟩ hKn
  have hi : i ≤ a.size := hi
  have hS : SpS w2 b7 vp P w10 r (rwX f V a i) vb ((mdL f (fun v => V.getD v 0) a i).map fun d => d.1) [.int .i64 (f.n : Int), va, vv, r 3, r 4, vb, r 1, r 2] := hS
  intro _
  simp only [gx]
  have mk1 : ∀ i, (mkL f (fun v => V.getD v 0) a i).length = i := fun i => by simp [mkL]
  refine iLenS hS.par.sl ?_
  rw [hPl]
  refine iLt (iCndP (fun h => ?_) (fun h => ?_))
  · have hi1 : i < a.size := by omega
    have hgood := part_good hM.good hi1
    have hpsz := part_size hi1
    have hmk := mkL_succ f (fun v => V.getD v 0) a i
    have hmd := mdL_succ f (fun v => V.getD v 0) a i
    have hml := mdL_len f (fun v => V.getD v 0) a i
    have hPart : ∀ {w' : World}, Ext w2 w' → FmS w' (P[i]'(by omega)) (partF a i) := fun x => hPs i (by omega) _ (SlK.ext hn (X2.trans x))
    have hat : P[i]? = some (P[i]'(by omega)) := List.getElem?_eq_getElem _
    generalize P[i]'(by omega) = pt at *
    have rdP : ∀ {w' : World} {K : Value → Prop}, Ow w2.heap.size t_Simpl_Node w' vp P → K pt → xIa 1 vp (.int .i64 (i : Int)) fun p => xLd w' p K := fun ho hK => iIa (j := (i : Int)) ho.sl (by omega) (by omega) fun p hp => iLd (by rw [hp, Int.toNat_natCast, hat]) hK
    generalize partF a i = g at *
    have hg1 := g.size_pos
    refine iLdA (hB22.ext hS.x) rfl ?_
    refine rdP hS.par ?_
    refine iRetQ (fun w' x' => ok_spec_l06Truth hM.ok hM.six hM.lt g (hs.ext ((X2.trans hS.x).trans x')) (hv.ext ((X2.trans hS.x).trans x')) (hPart (hS.x.trans x')) hgood (by omega)) ?_
    intro w11 x11
    refine (hS.ext x11).appB (k := 0) (by omega) _ (by show (mkL f (fun v => V.getD v 0) a i).length ≤ _; rw [mk1]; omega) fun v36 w14 hS14 hc36 => ?_
    intro w15 x15
    have hS15 := hS14.ext x15
    refine rdP hS15.par ?_
    have hp15 := hPart hS15.x
    refine iFld (f := 0) (j := 0) hp15 rfl hg1 (by decide) (kind_fst hp15).1 ?_
    -- the way on without a modality
    have key0 : ∀ j, j < 5 → mdOf f (fun v => V.getD v 0) g = [] → upF (rwX f V a i) 0 (rwX f V a i 0 ++ [trM f (fun v => V.getD v 0) g]) j = rwX f V a (i + 1) j := fun j hj h0 => by
      rw [h0, List.append_nil] at hmd
      match j, hj with
      | 0, _ => show mkL f _ a i ++ _ = mkL f _ a (i + 1); rw [hmk]
      | 1, _ => show List.map _ (mdL f _ a i) = List.map _ (mdL f _ a (i + 1)); rw [hmd]
      | 2, _ => show List.map _ (mdL f _ a i) = List.map _ (mdL f _ a (i + 1)); rw [hmd]
      | 3, _ => rfl
      | 4, _ => rfl
    have plain : ∀ w', SpS w2 b7 vp P w' (upF r 0 v36) (upF (rwX f V a i) 0 (rwX f V a i 0 ++ [trM f (fun v => V.getD v 0) g])) vb ((mdL f (fun v => V.getD v 0) a i).map fun d => d.1) [.int .i64 (f.n : Int), va, vv, r 3, r 4, vb, r 1, r 2] → mdOf f (fun v => V.getD v 0) g = [] → Kn [v36, .int .i64 ((i + 1 : Nat) : Int)] w' := fun w' h' h0 => by
      refine hKn (upF r 0 v36, i + 1) _ ⟨hi1, vb, ?_, hcb⟩ (by show a.size - (i + 1) < a.size - i; omega)
      show SpS w2 b7 vp P w' (upF r 0 v36) (rwX f V a (i + 1)) vb ((mdL f (fun v => V.getD v 0) a (i + 1)).map fun d => d.1) _
      rw [hmd, h0, List.append_nil]
      exact ⟨h'.x, h'.rows.congr fun j hj => key0 j hj h0, h'.bool, h'.par, h'.blk, h'.lo⟩
    -- the way on with a modality
    have modal : ∀ (t : Bool) (g' : Fm), g.kids = [g'] → g'.good → g.size = 1 + g'.size → mdOf f (fun v => V.getD v 0) g = [(t, trM f (fun v => V.getD v 0) g, trM f (fun v => V.getD v 0) g')] → decide (((g.kind : Nat) : Int) = 5) = t → ∀ w17, Ext w15 w17 →
        xFa 5 (.pointer (some ⟨b7, 0, none⟩)) fun v50 => xLd w17 v50 fun v51 => xEq .i64 (.int .i64 (g.kind : Int)) (.int .i64 5) fun v53 => xBs t_bool (Value.cells (.bool false)) 1 1 [(0, v53)] w17 fun v54 w18 => xOp Tryz.prog (Builtin.append_ #[t_Sbool, t_Sbool] t_Sbool #[v51, v54]) w18 fun v55 w19 =>
        xFa 5 (.pointer (some ⟨b7, 0, none⟩)) fun v56 => xSt w19 v56 v55 fun w20 => xFa 6 (.pointer (some ⟨b7, 0, none⟩)) fun v57 => xLd w20 v57 fun v58 => xLdA w20 3 (.pointer (some ⟨b2, 0, none⟩)) fun v59 => xIa 1 vp (.int .i64 (i : Int)) fun v62 => xLd w20 v62 fun v63 =>
        xSl 2 v63 (some (.int .i64 1)) none fun v64 => callQ Tryz.prog (.func (.func f_spec_l06Truth) #[] #[]) [v59, v64] w20 fun v65 => ∀ w21, Ext w20 w21 → xBs t_i64 (Value.cells (.int .i64 0)) 1 1 [(0, v65)] w21 fun v66 w22 => Ext w21 w22 ∧ ∀ w23, Ext w22 w23 → xOp Tryz.prog (Builtin.append_ #[t_Si64, t_Si64] t_Si64 #[v58, v66]) w23 fun v67 w24 =>
        xFa 6 (.pointer (some ⟨b7, 0, none⟩)) fun v68 => ∀ w25, Ext w24 w25 → xSt w25 v68 v67 fun w26 => ∀ w27, Ext w26 w27 → xFa 7 (.pointer (some ⟨b7, 0, none⟩)) fun v69 => xLd w27 v69 fun v70 => xIa 1 v36 (.int .i64 (i : Int)) fun v73 => xLd w27 v73 fun v74 => ∀ w28, Ext w27 w28 →
        xBs t_i64 (Value.cells (.int .i64 0)) 1 1 [(0, v74)] w28 fun v75 w29 => Ext w28 w29 ∧ ∀ w30, Ext w29 w30 → xOp Tryz.prog (Builtin.append_ #[t_Si64, t_Si64] t_Si64 #[v70, v75]) w30 fun v76 w31 => xFa 7 (.pointer (some ⟨b7, 0, none⟩)) fun v77 => ∀ w32, Ext w31 w32 → xSt w32 v77 v76 fun w33 => ∀ w34, Ext w33 w34 →
        xAdd .i64 (.int .i64 (i : Int)) (.int .i64 1) fun v27 => Kn [v36, v27] w34 := by
      intro t g' hkid hgood' hsz' hmo ht w17 x17
      have h17 := hS15.ext x17
      refine iFa (iLdB h17.blk (i := 5) (v := vb) rfl ?_)
      refine iEq ?_
      rw [ht]
      refine h17.appBool t (by rw [List.length_map]; omega) fun v55 w19 h19 hc55 => ?_
      refine iFa (h19.put (j := 5) (by simp) hc55 fun w20 h20 => ?_)
      refine iFa (iLdB h20.blk (i := 6) (v := r 1) rfl ?_)
      refine iLdA (hB22.ext h20.x) rfl ?_
      refine rdP h20.par ?_
      refine iSlKFrom (hPart h20.x) (by omega) fun v64 hv64 => ?_
      have hkf : ∀ {w' : World}, SlK 2 w' v64 (g.size - 1) (g.cells.drop (1 * 2)) → FmS w' v64 g' := fun h' => by
        rw [drop_one hkid, hsz', Nat.add_sub_cancel_left] at h'
        have e : cellsL ([] : List Fm) = [] := rfl
        rw [e, List.append_nil] at h'
        exact h'
      have hf64 := hkf hv64
      refine iRetQ (fun w' x' => ok_spec_l06Truth hM.ok hM.six hM.lt g' (hs.ext ((X2.trans h20.x).trans x')) (hv.ext ((X2.trans h20.x).trans x')) (SlK.ext hf64 x') hgood' (by omega)) ?_
      intro w21 x21
      have h21 := h20.ext x21
      refine h21.appA (k := 1) (by omega) _ (by show (List.map (fun d : Md => d.2.2) (mdL f (fun v => V.getD v 0) a i)).length ≤ _; rw [List.length_map]; omega) fun v67 w24 h24 hc67 => ?_
      refine iFa ?_
      intro w25 x25
      refine (h24.ext x25).put (j := 6) (by simp) hc67 fun w26 h26 => ?_
      intro w27 x27
      have h27 := h26.ext x27
      refine iFa (iLdB h27.blk (i := 7) (v := r 2) rfl ?_)
      have hrow0 : SlN w27 v36 (mkL f (fun v => V.getD v 0) a i ++ [trM f (fun v => V.getD v 0) g]) := (h27.rows.row 0 (by omega)).sl
      refine iIaNN hrow0 (by rw [List.length_append, mk1]; simp) fun p hp => iLd hp ?_
      have eat : (mkL f (fun v => V.getD v 0) a i ++ [trM f (fun v => V.getD v 0) g]).getD i 0 = trM f (fun v => V.getD v 0) g := by
        rw [getD_snoc, mk1, if_neg (Nat.lt_irrefl _), if_pos rfl]
      rw [eat]
      intro w28 x28
      refine (h27.ext x28).appA (k := 2) (by omega) _ (by show (List.map (fun d : Md => d.2.1) (mdL f (fun v => V.getD v 0) a i)).length ≤ _; rw [List.length_map]; omega) fun v76 w31 h31 hc76 => ?_
      refine iFa ?_
      intro w32 x32
      refine (h31.ext x32).put (j := 7) (by simp) hc76 fun w33 h33 => ?_
      intro w34 x34
      refine iAdd (by omega) ?_
      have h34 := h33.ext x34
      refine hKn (upF (upF (upF r 0 v36) 1 v67) 2 v76, i + 1) _ ⟨hi1, v55, ?_, hc55⟩ (by show a.size - (i + 1) < a.size - i; omega)
      rw [hmo] at hmd
      refine ⟨h34.x, h34.rows.congr fun j hj => ?_, ?_, h34.par, h34.blk, h34.lo⟩
      · match j, hj with
        | 0, _ => show mkL f _ a i ++ _ = mkL f _ a (i + 1); rw [hmk]
        | 1, _ => show List.map _ (mdL f _ a i) ++ _ = List.map _ (mdL f _ a (i + 1)); rw [hmd, List.map_append]; rfl
        | 2, _ => show List.map _ (mdL f _ a i) ++ _ = List.map _ (mdL f _ a (i + 1)); rw [hmd, List.map_append]; rfl
        | 3, _ => rfl
        | 4, _ => rfl
      · have e : (mdL f (fun v => V.getD v 0) a (i + 1)).map (fun d => d.1) = (mdL f (fun v => V.getD v 0) a i).map (fun d => d.1) ++ [t] := by rw [hmd, List.map_append]; rfl
        show Ow _ _ _ _ (((mdL f (fun v => V.getD v 0) a (i + 1)).map (fun d => d.1)).map Value.bool)
        rw [e]
        exact h34.bool
    refine iJnB (decide (((g.kind : Nat) : Int) = 5) || decide (((g.kind : Nat) : Int) = 6)) w15 (fun J hJ => ?_) (fun w17 x17 => ?_)
    · refine iEq (iCndP (fun h5 => ?_) (fun h5 => ?_))
      · rw [decide_eq_true h5, Bool.true_or] at hJ
        exact hJ _ (Ext.refl _)
      · rw [decide_eq_false h5, Bool.false_or] at hJ
        exact iEq (hJ _ (Ext.refl _))
    · intro _
      simp only [gx]
      cases g with
      | var _ => exact iCndF rfl (iAdd (by omega) (plain w17 (hS15.ext x17) rfl))
      | fls => exact iCndF rfl (iAdd (by omega) (plain w17 (hS15.ext x17) rfl))
      | and _ _ => exact iCndF rfl (iAdd (by omega) (plain w17 (hS15.ext x17) rfl))
      | or _ _ => exact iCndF rfl (iAdd (by omega) (plain w17 (hS15.ext x17) rfl))
      | imp _ _ => exact iCndF rfl (iAdd (by omega) (plain w17 (hS15.ext x17) rfl))
      | box g' => exact iCndT rfl (modal true g' rfl (good_kids hgood g' (by simp [Fm.kids])) rfl rfl rfl w17 x17)
      | dia g' => exact iCndT rfl (modal false g' rfl (good_kids hgood g' (by simp [Fm.kids])) rfl rfl rfl w17 x17)
  · have : i = a.size := by omega
    subst this
    have hbw : ((mdL f (fun v => V.getD v 0) a a.size).map fun d => d.1).map Value.bool = (mdM f V a).map fun d => Value.bool d.1 := by rw [List.map_map]; rfl
    have hY : SpS w2 b7 vp P w10 r (rwY f V a 0) vb ((mdL f (fun v => V.getD v 0) a a.size).map fun d => d.1) [.int .i64 (f.n : Int), va, vv, r 3, r 4, vb, r 1, r 2] := ⟨hS.x, hS.rows.congr fun j hj => (by match j, hj with
      | 0, _ => rfl
      | 1, _ => rfl
      | 2, _ => rfl
      | 3, _ => rfl
      | 4, _ => rfl), hS.bool, hS.par, hS.blk, hS.lo⟩
    generalize ((mdL f (fun v => V.getD v 0) a a.size).map fun d => d.1) = bs at hY hbw
    refine iLp (fun s : (Nat → Value) × Nat => [.int .i64 (s.2 : Int)]) (fun s w' => s.2 ≤ f.n ∧ s.1 0 = r 0 ∧ SpS w2 b7 vp P w' s.1 (rwY f V a s.2) vb bs [.int .i64 (f.n : Int), va, vv, s.1 3, s.1 4, vb, s.1 1, s.1 2]) (fun s => f.n - s.2) (r, 0) rfl ⟨Nat.zero_le _, rfl, hY⟩ ?_
    rintro ⟨q, u⟩ w36 Kn2 ⟨hu, hq0, hQ⟩ hKn2
    have hu : u ≤ f.n := hu
    have hq0 : q 0 = r 0 := hq0
    have hQ : SpS w2 b7 vp P w36 q (rwY f V a u) vb bs [.int .i64 (f.n : Int), va, vv, q 3, q 4, vb, q 1, q 2] := hQ
    intro _
    simp only [gx]
    refine iFa (iFa (iLdB (hB22.ext hQ.x) (i := 0) (v := .int .i64 (f.n : Int)) rfl ?_))
    refine iLt (iCndP (fun h2 => ?_) (fun h2 => ?_))
    · have hu1 : u < f.n := by omega
      have hMlt : ∀ k, (mkL f (fun v => V.getD v 0) a a.size).getD k 0 < 2 ^ 8 := fun k => by
        rcases Nat.lt_or_ge k (mkL f (fun v => V.getD v 0) a a.size).length with h3 | h3
        · refine Nat.lt_of_lt_of_le (getD_lt (m := 2 ^ f.n) (fun x hx => ?_) h3) (Nat.pow_le_pow_right (by omega) h8)
          obtain ⟨j, _, rfl⟩ := List.mem_map.1 hx
          exact trM_lt hVlt _
        · rw [List.getD_eq_getElem?_getD, List.getElem?_eq_none h3]; decide
      have hrow0 : SlN w36 (r 0) (mkL f (fun v => V.getD v 0) a a.size) := by rw [← hq0]; exact (hQ.rows.row 0 (by omega)).sl
      have hrow4 : SlN w36 (q 4) (clsS (mkL f (fun v => V.getD v 0) a a.size) u).2 := (hQ.rows.row 4 (by omega)).sl
      have hmks := mk1 a.size
      have hYe : ∀ j, j < 3 → rwY f V a u j = rwY f V a (u + 1) j := fun j hj => by
        match j, hj with
        | 0, _ => rfl
        | 1, _ => rfl
        | 2, _ => rfl
      have hY3 : rwY f V a u 3 = (clsS (mkL f (fun v => V.getD v 0) a a.size) u).1 := rfl
      have hY4 : rwY f V a u 4 = (clsS (mkL f (fun v => V.getD v 0) a a.size) u).2 := rfl
      have hY3' : rwY f V a (u + 1) 3 = (clsS (mkL f (fun v => V.getD v 0) a a.size) (u + 1)).1 := rfl
      have hY4' : rwY f V a (u + 1) 4 = (clsS (mkL f (fun v => V.getD v 0) a a.size) (u + 1)).2 := rfl
      have hok := clsS_ok (mkL f (fun v => V.getD v 0) a a.size) u
      obtain ⟨cl1, cl2⟩ := clsS_len (mkL f (fun v => V.getD v 0) a a.size) u
      have hsucc : clsS (mkL f (fun v => V.getD v 0) a a.size) (u + 1) = match (clsS (mkL f (fun v => V.getD v 0) a a.size) u).2.findIdx? fun x => alk (mkL f (fun v => V.getD v 0) a a.size) u x with
        | some k => ((clsS (mkL f (fun v => V.getD v 0) a a.size) u).1 ++ [k], (clsS (mkL f (fun v => V.getD v 0) a a.size) u).2)
        | none => ((clsS (mkL f (fun v => V.getD v 0) a a.size) u).1 ++ [(clsS (mkL f (fun v => V.getD v 0) a a.size) u).2.length], (clsS (mkL f (fun v => V.getD v 0) a a.size) u).2 ++ [u]) := rfl
      generalize clsS (mkL f (fun v => V.getD v 0) a a.size) (u + 1) = C' at *
      generalize clsS (mkL f (fun v => V.getD v 0) a a.size) u = C at *
      obtain ⟨C1, F⟩ := C
      simp only at hsucc cl1 cl2 hY3 hY4 hrow4
      have hFlt : ∀ k, k < F.length → F.getD k 0 < f.n := fun k hk => by
        have h3 := hok.flt (F.getD k 0) (by rw [show F.getD k 0 = F[k] by simp [hk]]; exact List.getElem_mem _)
        omega
      generalize mkL f (fun v => V.getD v 0) a a.size = M at *
      refine iLp (fun s : Option Nat × Nat => [.int .i64 (match s.1 with | none => -1 | some j => (j : Int)), .int .i64 (s.2 : Int)]) (fun s w' => Ext w36 w' ∧ s.2 ≤ F.length ∧ ((s.1 = none ∧ ∀ j, j < s.2 → alk M u (F.getD j 0) = false) ∨ ∃ j, s.1 = some j ∧ s.2 = j + 1 ∧ alk M u (F.getD j 0) = true ∧ ∀ j', j' < j → alk M u (F.getD j' 0) = false)) (fun s => F.length - s.2) (none, 0) rfl ⟨Ext.refl _, Nat.zero_le _, .inl ⟨rfl, fun j hj => absurd hj (Nat.not_lt_zero _)⟩⟩ ?_
      rintro ⟨o, k⟩ w38 Kn3 ⟨x38, hk, hinv⟩ hKn3
      have hk : k ≤ F.length := hk
      intro _
      simp only [gx]
      refine iJnB (decide (k < F.length) && o.isNone) w38 (fun J hJ => ?_) (fun w40 x40 => ?_)
      · refine iFa (iLdB (hQ.blk.ext x38) (i := 4) (v := q 4) rfl ?_)
        refine iLenN (hrow4.ext x38) ?_
        refine iLt (iCndP (fun h3 => ?_) (fun h3 => ?_))
        · rw [decide_eq_true (show k < F.length by omega), Bool.true_and] at hJ
          cases o with
          | none => exact iLt (hJ _ (Ext.refl _))
          | some j =>
            refine iLt ?_
            rw [show decide ((j : Int) < 0) = false from decide_eq_false (by omega)]
            exact hJ _ (Ext.refl _)
        · rw [decide_eq_false (show ¬ k < F.length by omega), Bool.false_and] at hJ
          exact hJ _ (Ext.refl _)
      intro _
      simp only [gx]
      have x3640 := x38.trans x40
      refine iCnd (fun h3 => ?_) (fun h3 => ?_)
      · rw [Bool.and_eq_true, decide_eq_true_eq] at h3
        obtain ⟨hk1, ho⟩ := h3
        have ho : o = none := by cases o <;> simp at ho ⊢
        subst ho
        have hno : ∀ j, j < k → alk M u (F.getD j 0) = false := by
          rcases hinv with ⟨_, h4⟩ | ⟨j, h4, _⟩
          · exact h4
          · cases h4
        have hFk := hFlt k hk1
        refine iLp (fun s : Bool × Nat => [.bool s.1, .int .i64 (s.2 : Int)]) (fun s w' => Ext w40 w' ∧ s.2 ≤ M.length ∧ s.1 = alk (M.take s.2) u (F.getD k 0)) (fun s => M.length - s.2) (true, 0) rfl ⟨Ext.refl _, Nat.zero_le _, rfl⟩ ?_
        rintro ⟨b, i⟩ w42 Kn4 ⟨x42, hi4, hb⟩ hKn4
        have hi4 : i ≤ M.length := hi4
        have hb : b = alk (M.take i) u (F.getD k 0) := hb
        have X42 := x3640.trans x42
        intro _
        simp only [gx]
        refine iLenN (hrow0.ext X42) ?_
        refine iLt (iCndP (fun h5 => ?_) (fun h5 => ?_))
        · have hi5 : i < M.length := by omega
          have hm := hMlt i
          refine iJnB (b && decide ((M.getD i 0).testBit u = (M.getD i 0).testBit (F.getD k 0))) w42 (fun J hJ => ?_) (fun w44 x44 => ?_)
          · refine iCnd (fun h6 => ?_) (fun h6 => ?_)
            · rw [h6, Bool.true_and] at hJ
              refine iIaNN (hrow0.ext X42) hi5 fun p hp => iLd hp ?_
              refine iRetQ (fun w' _ => ok_spec_l01Bit _ u (by omega) (by omega) w') ?_
              refine iIaNN (hrow0.ext X42) hi5 fun p hp => iLd hp ?_
              refine iFa (iLdB (hQ.blk.ext X42) (i := 4) (v := q 4) rfl ?_)
              refine iIaNN (hrow4.ext X42) hk1 fun p hp => iLd hp ?_
              refine iRetQ (fun w' _ => ok_spec_l01Bit _ (F.getD k 0) (by omega) (by omega) w') ?_
              refine iBoolEN ?_
              intro w45 x45
              have e : (true == ((M.getD i 0).testBit u == (M.getD i 0).testBit (F.getD k 0))) = decide ((M.getD i 0).testBit u = (M.getD i 0).testBit (F.getD k 0)) := by
                cases (M.getD i 0).testBit u <;> cases (M.getD i 0).testBit (F.getD k 0) <;> rfl
              rw [e]
              exact hJ _ x45
            · rw [h6, Bool.false_and] at hJ
              intro w46 x46
              exact hJ _ x46
          · intro _
            simp only [gx]
            refine iAdd (by omega) ?_
            refine hKn4 (b && decide ((M.getD i 0).testBit u = (M.getD i 0).testBit (F.getD k 0)), i + 1) _ ⟨x42.trans x44, hi5, ?_⟩ (by show M.length - (i + 1) < M.length - i; omega)
            show (b && decide ((M.getD i 0).testBit u = (M.getD i 0).testBit (F.getD k 0))) = alk (M.take (i + 1)) u (F.getD k 0)
            rw [List.take_succ_eq_append_getElem hi5, hb]
            unfold alk
            rw [List.all_append, show M.getD i 0 = M[i] by simp [hi5]]
            simp
        · have : i = M.length := by omega
          subst this
          rw [List.take_length] at hb
          refine iCnd (fun h6 => ?_) (fun h6 => ?_)
          · refine iAdd (by omega) ?_
            exact hKn3 (some k, k + 1) _ ⟨X42, hk1, .inr ⟨k, rfl, rfl, by rw [← hb]; exact h6, hno⟩⟩ (by show F.length - (k + 1) < F.length - k; omega)
          · refine iAdd (by omega) ?_
            refine hKn3 (none, k + 1) _ ⟨X42, hk1, .inl ⟨rfl, fun j hj => ?_⟩⟩ (by show F.length - (k + 1) < F.length - k; omega)
            have hj : j < k + 1 := hj
            by_cases e : j = k
            · subst e; rw [← hb]; exact h6
            · exact hno j (by omega)
      · have hQ40 := hQ.ext x3640
        -- the way on
        have tail : ∀ (cl : Nat) (q' : Nat → Value) w', q' 0 = r 0 → SpS w2 b7 vp P w' q' (upF (rwY f V a u) 4 C'.2) vb bs [.int .i64 (f.n : Int), va, vv, q' 3, q' 4, vb, q' 1, q' 2] → C'.1 = C1 ++ [cl] →
            xFa 3 (.pointer (some ⟨b7, 0, none⟩)) fun v135 => xLd w' v135 fun v136 => xBs t_i64 (Value.cells (.int .i64 0)) 1 1 [(0, .int .i64 (cl : Int))] w' fun v138 w52 => xOp Tryz.prog (Builtin.append_ #[t_Si64, t_Si64] t_Si64 #[v136, v138]) w52 fun v139 w53 =>
            xFa 3 (.pointer (some ⟨b7, 0, none⟩)) fun v140 => xSt w53 v140 v139 fun w54 => xAdd .i64 (.int .i64 (u : Int)) (.int .i64 1) fun v84 => Kn2 [v84] w54 := by
          intro cl q' w' hq' h' hC
          refine iFa (iLdB h'.blk (i := 3) (v := q' 3) rfl ?_)
          refine h'.appC (k := 3) (by omega) cl (by show (rwY f V a u 3).length ≤ _; rw [hY3, cl1]; omega) fun v139 w53 h53 hc => ?_
          refine iFa (h53.put (j := 3) (by simp) hc fun w54 h54 => ?_)
          refine iAdd (by omega) ?_
          refine hKn2 (upF q' 3 v139, u + 1) _ ⟨hu1, hq', h54.x, h54.rows.congr fun j hj => ?_, h54.bool, h54.par, h54.blk, h54.lo⟩ (by show f.n - (u + 1) < f.n - u; omega)
          match j, hj with
          | 0, _ => exact hYe 0 (by omega)
          | 1, _ => exact hYe 1 (by omega)
          | 2, _ => exact hYe 2 (by omega)
          | 3, _ => show rwY f V a u 3 ++ [cl] = rwY f V a (u + 1) 3; rw [hY3, hY3', hC]
          | 4, _ => exact hY4'.symm
        rcases hinv with ⟨ho, hno⟩ | ⟨j, ho, hkj, haj, hno⟩
        · have ho : o = none := ho
          subst ho
          have hkF : k = F.length := by
            have h4 : ¬ k < F.length := fun h5 => by rw [decide_eq_true h5] at h3; cases h3
            omega
          have hnone : (F.findIdx? fun x => alk M u x) = none := List.findIdx?_eq_none_iff.2 fun x hx => by
            obtain ⟨j, hj, rfl⟩ := List.getElem_of_mem hx
            have := hno j (by show j < k; omega)
            rw [show F.getD j 0 = F[j] by simp [hj]] at this
            exact this
          rw [hnone] at hsucc
          have hsucc : C' = (C1 ++ [F.length], F ++ [u]) := hsucc
          refine iLt ?_
          refine iJnX (fun xs w' => ∃ q', xs = [.int .i64 ((F.length : Nat) : Int)] ∧ q' 0 = r 0 ∧ SpS w2 b7 vp P w' q' (upF (rwY f V a u) 4 C'.2) vb bs [.int .i64 (f.n : Int), va, vv, q' 3, q' 4, vb, q' 1, q' 2]) (fun J hJ => ?_) ?_
          · refine iCndT rfl ?_
            refine iFa (iLdB hQ40.blk (i := 4) (v := q 4) rfl ?_)
            refine iLenN (hrow4.ext x3640) ?_
            refine iFa (iLdB hQ40.blk (i := 4) (v := q 4) rfl ?_)
            refine hQ40.appC (k := 4) (by omega) u (by show (rwY f V a u 4).length ≤ _; rw [hY4]; omega) fun v133 w50 h50 hc => ?_
            refine iFa (h50.put (j := 4) (by simp) hc fun w51 h51 => ?_)
            refine hJ _ _ ⟨upF q 4 v133, rfl, hq0, h51.x, h51.rows.congr fun j hj => ?_, h51.bool, h51.par, h51.blk, h51.lo⟩
            match j, hj with
            | 0, _ => rfl
            | 1, _ => rfl
            | 2, _ => rfl
            | 3, _ => rfl
            | 4, _ => show rwY f V a u 4 ++ [u] = C'.2; rw [hY4, hsucc]
          · rintro _ w' ⟨q', rfl, hq', h'⟩
            intro _
            simp only [gx]
            exact tail F.length q' w' hq' h' (by rw [hsucc])
        · have ho : o = some j := ho
          subst ho
          have hkj : k = j + 1 := hkj
          have hjF : j < F.length := by omega
          have hsome : (F.findIdx? fun x => alk M u x) = some j := List.findIdx?_eq_some_iff_getElem.2 ⟨hjF, by rw [show F.getD j 0 = F[j] by simp [hjF]] at haj; exact haj, fun j' hj' => by
            have := hno j' hj'
            rw [show F.getD j' 0 = F[j']'(by omega) by simp [show j' < F.length by omega]] at this
            rw [this]; simp⟩
          rw [hsome] at hsucc
          have hsucc : C' = (C1 ++ [j], F) := hsucc
          refine iLt ?_
          rw [show decide ((j : Int) < 0) = false from decide_eq_false (by omega)]
          refine iJnX (fun xs w' => xs = [.int .i64 (j : Int)] ∧ w' = w40) (fun J hJ => ?_) ?_
          · exact iCndF rfl (hJ _ _ ⟨rfl, rfl⟩)
          · rintro _ _ ⟨rfl, rfl⟩
            intro _
            simp only [gx]
            refine tail j q _ hq0 ⟨hQ40.x, hQ40.rows.congr fun i hi => ?_, hQ40.bool, hQ40.par, hQ40.blk, hQ40.lo⟩ (by rw [hsucc])
            match i, hi with
            | 0, _ => rfl
            | 1, _ => rfl
            | 2, _ => rfl
            | 3, _ => rfl
            | 4, _ => show rwY f V a u 4 = C'.2; rw [hY4, hsucc]
    · have : u = f.n := by omega
      subst this
      refine iLdA hQ.blk rfl ?_
      have r1 := hQ.rows.row 1 (by omega)
      have r2 := hQ.rows.row 2 (by omega)
      have r3 := hQ.rows.row 3 (by omega)
      have r4 := hQ.rows.row 4 (by omega)
      have hB46 := hB4.ext hQ.x
      refine iStAB hB46 rfl rfl (fun u hu => by
        simp only [List.mem_cons, List.not_mem_nil, or_false] at hu
        rcases hu with rfl | rfl | rfl | rfl | rfl | rfl | rfl | rfl
        · rfl
        · exact hca
        · exact hcv
        · exact r3.cell
        · exact r4.cell
        · exact hcb
        · exact r1.cell
        · exact r2.cell) fun w55 hu55 hB55 => ?_
      refine iLdA hB55 rfl ?_
      have z1 := x1.size
      have xF : Ext w w55 := (X2.trans hQ.x).upd hu55 (by omega)
      have rw_ : ∀ {i : Nat}, i < 5 → Ow w2.heap.size t_i64 w55 (q i) (ints (nats (rwY f V a f.n i))) := fun hi => (hQ.rows.row _ hi).upd hu55 ((hQ.rows.row _ hi).ne_blk hB46 (by decide))
      have zX := X2.size
      refine ⟨xF, _, rfl, hs.ext xF, hv.ext xF, q 3, q 4, vb, q 1, q 2, rfl, (rw_ (i := 3) (by omega)).mono zX, (rw_ (i := 4) (by omega)).mono zX, ?_, (rw_ (i := 1) (by omega)).mono zX, (rw_ (i := 2) (by omega)).mono zX⟩
      rw [← hbw]
      exact (hQ.bool.upd hu55 (hQ.bool.ne_blk hB46 (by decide))).mono zX
end Go.Proofs.YtmefbjdioaahdaaGreatDoor

/- Contracts: the least filtration, in the reference. Conditions: none. -/
namespace Go.Proofs.YtmefbjdioaahdaaGreatDoor
open Go.Vc
theorem ok_spec_l14Least {f : Fr} (hf : f.ok) {V : List Nat} {a : Fm} {c F : List Nat} {cs : List Value} {w : World} (hS : SpW w cs f V a c F) (hcl : c.length = f.n) (hcF : ∀ x, x < f.n → c.getD x 0 < F.length) (hF8 : F.length ≤ 8) :
    Cal Tryz.prog f_spec_l14Least #[.agg cs.toArray] w fun r w' => Ext w w' ∧ Ow w.heap.size t_i64 w' r (ints (nats (leaA f c F.length))) := by
  have h8 := hf.1
  have hfl := hf.2.1
  obtain ⟨va, vv, vc, vf, vb, vi, vo, rfl, ha, _, hc, hfF, _, _, _⟩ := hS
  apply c_spec_l14Least; unfold S_spec_l14Least
  refine iNew fun b1 w1 hb1 x1 hB => ?_
  have hB : Blk 48 w1 b1 [.int .i64 (f.n : Int), va, vv, vc, vf, vb, vi, vo] := hB
  refine iFa (iLdB hB (i := 4) (v := vf) rfl ?_)
  refine iLenN (hfF.ext x1) ?_
  refine iMk (by omega) (by omega) rfl fun bo w3 hbo x3 hBo => ?_
  have X3 := x1.trans x3
  have ez : relA F.length (anyK f.n c (fun w v => (f.a.getD w 0).testBit v) 0 0) = List.replicate F.length 0 := by
    refine (list_eq_iff (n := F.length) (relA_len _ _) List.length_replicate).2 fun x hx y => ?_
    rw [show (List.replicate F.length 0).getD x 0 = 0 by simp [hx], Nat.zero_testBit, Bool.eq_false_iff]
    intro h
    have := (relA_bit.1 h).2.2
    rw [anyK_zero] at this; cases this
  have hoz : Ow w.heap.size t_i64 w3 (.slice (some ⟨bo, 0, none⟩) F.length F.length) (ints (nats (relA F.length (anyK f.n c (fun w v => (f.a.getD w 0).testBit v) 0 0)))) := by
    rw [ez]
    have e : ints (nats (List.replicate F.length 0)) = List.replicate F.length (.int .i64 0) := by simp [ints, nats]
    rw [e]
    exact Ow.ofBlk hBo (by have := x1.size; omega) (by simp) (by omega)
  generalize hvo : (Value.slice (some ⟨bo, 0, none⟩) F.length F.length) = vo' at *
  generalize hH : (fun w v => (f.a.getD w 0).testBit v) = H at *
  have hHe : ∀ x y, H x y = (f.a.getD x 0).testBit y := fun x y => by rw [← hH]
  refine iLp (fun k : Nat => [.int .i64 (k : Int)]) (fun k w' => k ≤ f.n ∧ Ext w1 w' ∧ Ow w.heap.size t_i64 w' vo' (ints (nats (relA F.length (anyK f.n c H k 0))))) (fun k => f.n - k) 0 rfl ⟨Nat.zero_le _, x3, hoz⟩ ?_
  rintro k w5 Kn ⟨hk, x5, ho5⟩ hKn
  intro _
  simp only [gx]
  refine iFa (iFa (iFa (iLdB (hB.ext x5) (i := 0) (v := .int .i64 (f.n : Int)) rfl ?_)))
  refine iLt (iCndP (fun h => ?_) (fun h => ?_))
  · have hk1 : k < f.n := by omega
    refine iLp (fun j : Nat => [.int .i64 (j : Int)]) (fun j w' => j ≤ f.n ∧ Ext w1 w' ∧ Ow w.heap.size t_i64 w' vo' (ints (nats (relA F.length (anyK f.n c H k j))))) (fun j => f.n - j) 0 rfl ⟨Nat.zero_le _, x5, ho5⟩ ?_
    rintro j w7 Kn7 ⟨hj, x7, ho7⟩ hKn7
    have X7 := x1.trans x7
    intro _
    simp only [gx]
    refine iFa (iFa (iFa (iLdB (hB.ext x7) (i := 0) (v := .int .i64 (f.n : Int)) rfl ?_)))
    refine iLt (iCndP (fun h2 => ?_) (fun h2 => ?_))
    · have hj1 : j < f.n := by omega
      have hck := hcF k hk1
      have hcj := hcF j hj1
      have hgk := fr_lt63 hf k
      have hstep := relA_succ (n := f.n) (H := H) hck hcj
      refine iFa (iFa (iFa (iLdB (hB.ext x7) (i := 1) (v := va) rfl ?_)))
      refine iIaNN (ha.ext X7) (by omega) fun p hp => iLd hp ?_
      refine iRet (ok_spec_l01Bit _ j (by omega) (by omega) w7) fun w8 x8 => ?_
      rw [← hHe]
      have y8 := x7.trans x8
      have X8 := x1.trans y8
      have ho8 := ho7.ext x8
      have hc8 := hc.ext X8
      have rdC : ∀ {x : Nat} {K : Value → Prop}, x < f.n → K (.int .i64 ((c.getD x 0 : Nat) : Int)) → xIa 1 vc (.int .i64 (x : Int)) fun p => xLd w8 p K := fun hx hK => iIaNN hc8 (by omega) fun p hp => iLd hp hK
      refine iCnd (fun hh => ?_) (fun hh => ?_)
      · rw [if_pos hh] at hstep
        have hlen : (ints (nats (relA F.length (anyK f.n c H k j)))).length = F.length := by rw [ints_length, nats_length, relA_len]
        refine iFa (iLdB (hB.ext y8) (i := 3) (v := vc) rfl ?_)
        refine rdC hk1 ?_
        refine iFa (iLdB (hB.ext y8) (i := 3) (v := vc) rfl ?_)
        refine rdC hk1 ?_
        refine iIaNN (show SlN w8 vo' _ from ho8.sl) (by rw [relA_len]; exact hck) fun p hp => iLd hp ?_
        refine iFa (iLdB (hB.ext y8) (i := 3) (v := vc) rfl ?_)
        refine rdC hj1 ?_
        refine iRetQ (fun w' _ => ok_spec_l01One _ (by omega) w') ?_
        have g1 := relA_lt hF8 (anyK f.n c H k j) (c.getD k 0)
        have g2 : 2 ^ c.getD j 0 < 2 ^ 8 := Nat.pow_lt_pow_right (by omega) (by omega)
        refine iBOr (by omega) (by omega) ?_
        refine iIaOwE ho8 (by omega) fun bu hbu hwr => ?_
        intro w9 x9
        obtain ⟨hc1, hc2, hc3⟩ := hwr w9 _ rfl (ho8.ext x9)
        rw [List.getElem?_eq_getElem (by omega)] at hc1
        refine iSt hc1 hc2 rfl ?_
        have ho10 := hc3 (.int .i64 (((relA F.length (anyK f.n c H k j)).getD (c.getD k 0) 0 ||| 2 ^ c.getD j 0 : Nat) : Int))
        rw [← ints_nats_set, ← hstep] at ho10
        have hu := Upd.setCell w9 bu (c.getD k 0) (.int .i64 (((relA F.length (anyK f.n c H k j)).getD (c.getD k 0) 0 ||| 2 ^ c.getD j 0 : Nat) : Int))
        have hbu1 : w1.heap.size ≤ bu := by
          have hb' : bo = bu := by rw [← hvo] at hbu; exact Option.some.inj hbu
          have := hbo
          omega
        intro w11 x11
        refine iAdd (by omega) ?_
        exact hKn7 (j + 1) _ ⟨by omega, ((y8.trans x9).upd hu hbu1).trans x11, ho10.ext x11⟩ (by omega)
      · rw [hh, if_neg (by simp)] at hstep
        refine iAdd (by omega) ?_
        exact hKn7 (j + 1) _ ⟨by omega, y8, by rw [hstep]; exact ho8⟩ (by omega)
    · have : j = f.n := by omega
      subst this
      refine iAdd (by omega) ?_
      refine hKn (k + 1) _ ⟨by omega, x7, ?_⟩ (by omega)
      rw [relA_congr fun x y _ _ => (anyK_next f.n c H k x y).symm]
      exact ho7
  · have : k = f.n := by omega
    subst this
    rw [relA_congr fun x y _ _ => anyK_full f.n c H x y] at ho5
    refine ⟨x1.trans x5, ?_⟩
    unfold leaA
    rw [hH]
    exact ho5
end Go.Proofs.YtmefbjdioaahdaaGreatDoor

/- Contracts: what condition 2 allows for all classes, in the reference. Conditions: none. -/
namespace Go.Proofs.YtmefbjdioaahdaaGreatDoor
open Go.Vc
/-- The first k of the classes that a class may see. -/
def greK (P : Nat → Nat → Bool) (x k : Nat) : Nat := setOf ((List.range k).filter (P x))
theorem greK_succ (P : Nat → Nat → Bool) (x k : Nat) : greK P x (k + 1) = if P x k then greK P x k ||| 2 ^ k else greK P x k := by
  unfold greK
  rw [List.range_succ, List.filter_append]
  cases h : P x k
  · simp only [List.filter_cons, List.filter_nil, h]
    simp
  · simp only [List.filter_cons, List.filter_nil, h, if_true]
    rw [setOf_snoc]
theorem greK_lt (P : Nat → Nat → Bool) (x k : Nat) : greK P x k < 2 ^ k := setOf_lt fun _ hy => List.mem_range.1 (List.mem_filter.1 hy).1
theorem ok_spec_l14Greatest {f : Fr} (hf : f.ok) {V : List Nat} (hV : ∀ x ∈ V, x < 2 ^ f.n) {a : Fm} {c F : List Nat} {cs : List Value} {w : World} (hS : SpW w cs f V a c F) (hFn : ∀ u ∈ F, u < f.n) (hF8 : F.length ≤ 8) (more both : Bool) :
    Cal Tryz.prog f_spec_l14Greatest #[.agg cs.toArray, .bool more, .bool both] w fun r w' => Ext w w' ∧ Ow w.heap.size t_i64 w' r (ints (nats (greA f (fun v => V.getD v 0) a F more both))) := by
  have h8 := hf.1
  have hS0 := hS
  obtain ⟨va, vv, vc, vf, vb, vi, vo, rfl, ha, _, hc, hfF, _, _, _⟩ := hS
  generalize hP : (fun x y => mayB (mdL f (fun v => V.getD v 0) a a.size) more (F.getD x 0) (F.getD y 0) && (!both || mayB (mdL f (fun v => V.getD v 0) a a.size) more (F.getD y 0) (F.getD x 0))) = P
  have hPe : ∀ x y, P x y = (mayB (mdM f V a) more (F.getD x 0) (F.getD y 0) && (!both || mayB (mdM f V a) more (F.getD y 0) (F.getD x 0))) := fun x y => by rw [← hP]; rfl
  apply c_spec_l14Greatest; unfold S_spec_l14Greatest
  refine iNew fun b1 w1 hb1 x1 hB => ?_
  have hB : Blk 48 w1 b1 [.int .i64 (f.n : Int), va, vv, vc, vf, vb, vi, vo] := hB
  refine iBs0 fun vz w2 hw2 x2 hoz => ?_
  have hgt : ∀ {x}, x < F.length → F.getD x 0 < 8 := fun {x} hx => by
    have := hFn (F.getD x 0) (by rw [show F.getD x 0 = F[x] by simp [hx]]; exact List.getElem_mem _)
    omega
  refine iLp (fun s : Value × Nat => [s.1, .int .i64 (s.2 : Int)]) (fun s w' => s.2 ≤ F.length ∧ Ext w1 w' ∧ Ow w1.heap.size t_i64 w' s.1 (ints (nats ((List.range s.2).map fun x => greK P x F.length)))) (fun s => F.length - s.2) (vz, 0) rfl ⟨Nat.zero_le _, x2, hoz⟩ ?_
  rintro ⟨u, i⟩ w4 Kn ⟨hi, x4, ho⟩ hKn
  have hi : i ≤ F.length := hi
  have x4 : Ext w1 w4 := x4
  have ho : Ow w1.heap.size t_i64 w4 u (ints (nats ((List.range i).map fun x => greK P x F.length))) := ho
  have X4 := x1.trans x4
  intro _
  simp only [gx]
  refine iFa (iLdB (hB.ext x4) (i := 4) (v := vf) rfl ?_)
  refine iLenN (hfF.ext X4) ?_
  refine iLt (iCndP (fun h => ?_) (fun h => ?_))
  · have hi1 : i < F.length := by omega
    refine iLp (fun j : Nat => [.int .i64 ((greK P i j : Nat) : Int), .int .i64 (j : Int)]) (fun j w' => j ≤ F.length ∧ Ext w4 w') (fun j => F.length - j) 0 rfl ⟨Nat.zero_le _, Ext.refl _⟩ ?_
    rintro j w6 Kn6 ⟨hj, x6⟩ hKn6
    have y6 := x4.trans x6
    have X6 := x1.trans y6
    have hg := greK_lt P i j
    have hg8 : 2 ^ j ≤ 2 ^ 8 := Nat.pow_le_pow_right (by omega) (by omega)
    intro _
    simp only [gx]
    refine iFa (iLdB (hB.ext y6) (i := 4) (v := vf) rfl ?_)
    have hf6 := hfF.ext X6
    refine iLenN hf6 ?_
    refine iLt (iCndP (fun h2 => ?_) (fun h2 => ?_))
    · have hj1 : j < F.length := by omega
      have rdF : ∀ {x : Nat} {K : Value → Prop}, x < F.length → K (.int .i64 ((F.getD x 0 : Nat) : Int)) → xIa 1 vf (.int .i64 (x : Int)) fun p => xLd w6 p K := fun hx hK => iIaNN hf6 hx fun p hp => iLd hp hK
      refine iJnB (P i j) w6 (fun J hJ => ?_) (fun w8 x8 => ?_)
      · rw [hPe] at hJ
        refine iLdA (hB.ext y6) rfl ?_
        refine iFa (iLdB (hB.ext y6) (i := 4) (v := vf) rfl (rdF hi1 ?_))
        refine iFa (iLdB (hB.ext y6) (i := 4) (v := vf) rfl (rdF hj1 ?_))
        refine iRetQ (fun w' h' => ok_spec_l14May hf hV (hS0.ext (X6.trans h')) (hgt hi1) (hgt hj1) more) ?_
        refine iCnd (fun h3 => ?_) (fun h3 => ?_)
        · rw [h3, Bool.true_and] at hJ
          refine iNot ?_
          refine iCnd (fun h4 => ?_) (fun h4 => ?_)
          · rw [h4, Bool.true_or] at hJ
            exact hJ
          · rw [h4, Bool.false_or] at hJ
            refine iLdA (hB.ext y6) rfl ?_
            refine iFa (iLdB (hB.ext y6) (i := 4) (v := vf) rfl (rdF hj1 ?_))
            refine iFa (iLdB (hB.ext y6) (i := 4) (v := vf) rfl (rdF hi1 ?_))
            refine iRetQ (fun w' h' => ok_spec_l14May hf hV (hS0.ext (X6.trans h')) (hgt hj1) (hgt hi1) more) ?_
            exact hJ
        · rw [h3, Bool.false_and] at hJ
          exact hJ
      · intro _
        simp only [gx]
        have hstep := greK_succ P i j
        refine iCnd (fun h3 => ?_) (fun h3 => ?_)
        · rw [if_pos h3] at hstep
          refine iRet (ok_spec_l01One j (by omega) w8) fun w9 x9 => ?_
          have g2 : 2 ^ j < 2 ^ 9 := Nat.pow_lt_pow_right (by omega) (by omega)
          refine iBOr (by omega) (by omega) ?_
          rw [← hstep]
          refine iAdd (by omega) ?_
          exact hKn6 (j + 1) _ ⟨by omega, (x6.trans x8).trans x9⟩ (by omega)
        · rw [h3, if_neg (by simp)] at hstep
          refine iAdd (by omega) ?_
          rw [← hstep]
          exact hKn6 (j + 1) _ ⟨by omega, x6.trans x8⟩ (by omega)
    · have : j = F.length := by omega
      subst this
      refine iBs1 rfl rfl fun b7 w7 hb7 x7 hB7 => ?_
      have ho7 := (ho.ext x6).ext x7
      have hil : (ints (nats ((List.range i).map fun x => greK P x F.length))).length = i := by rw [ints_length, nats_length, List.length_map, List.length_range]
      refine iApp u_Si64 i_Si64 rfl ho7 (Sl.ofBlk (n := 1) hB7 rfl (by omega)) (fun x hx => by simp at hx; subst hx; rfl) (by rw [hil]; simp; omega) (by rw [hil]; simp; omega) (y6.trans x7).size fun u' w9 ho9 hg9 => ?_
      refine iAdd (by omega) ?_
      refine hKn (u', i + 1) _ ⟨hi1, (y6.trans x7).grown hg9 fun c hc => (ho7.blk c hc).1, ?_⟩ (by show F.length - (i + 1) < F.length - i; omega)
      show Ow _ _ _ u' (ints (nats ((List.range (i + 1)).map fun x => greK P x F.length)))
      have e : ints (nats ((List.range (i + 1)).map fun x => greK P x F.length)) = ints (nats ((List.range i).map fun x => greK P x F.length)) ++ [.int .i64 ((greK P i F.length : Nat) : Int)] := by
        rw [List.range_succ, List.map_append]; simp [ints, nats]
      rw [e]; exact ho9
  · have : i = F.length := by omega
    subst this
    refine ⟨X4, ?_⟩
    unfold greA
    rw [hP]
    exact ho.mono x1.size
end Go.Proofs.YtmefbjdioaahdaaGreatDoor

/- Contracts: the transitive and the symmetric filtration, in the reference. Conditions: none. -/
namespace Go.Proofs.YtmefbjdioaahdaaGreatDoor
open Go.Vc
theorem SpW.facts {f : Fr} {V : List Nat} {a : Fm} (hM : MdG f V a) : (cM f V a).length = f.n ∧ (∀ x, x < f.n → (cM f V a).getD x 0 < (fM f V a).length) ∧ (∀ u ∈ fM f V a, u < f.n) ∧ (fM f V a).length ≤ 8 :=
  ⟨(cM_ok f V a).len, fun x hx => ((cM_ok f V a).at_ x hx).1, (cM_ok f V a).flt, Nat.le_trans (fM_le f V a) hM.ok.1⟩
theorem SpW.cells {w : World} {cs : List Value} {f : Fr} {V : List Nat} {a : Fm} {c F : List Nat} (h : SpW w cs f V a c F) : cs.length = 8 ∧ ∀ v ∈ cs, isCell v = true := by
  obtain ⟨va, vv, vc, vf, vb, vi, vo, rfl, h1, h2, h3, h4, h5, h6, h7⟩ := h
  have key : ∀ {v : Value} {xs : List Value}, Sl w v xs → isCell v = true := fun h => by
    obtain ⟨_, _, h, _⟩ := h
    rw [h]; rfl
  refine ⟨rfl, fun u hu => ?_⟩
  simp only [List.mem_cons, List.not_mem_nil, or_false] at hu
  rcases hu with rfl | rfl | rfl | rfl | rfl | rfl | rfl | rfl
  · rfl
  · exact key h1
  · exact key h2
  · exact key h3
  · exact key h4
  · exact key h5
  · exact key h6
  · exact key h7
section
variable {f : Fr} {V : List Nat} {a : Fm} {va vv vn : Value} {w : World}
theorem ok_spec_l14Code (hM : MdG f V a) (hs : SlN w va f.a) (hv : SlN w vv V) (hn : FmS w vn a) :
    Cal Tryz.prog f_spec_l14Code #[.agg #[.int .i64 (f.n : Int), va, vv], vn] w fun r w' => Ext w w' ∧ ∃ cs, r = .tuple #[.agg cs.toArray, .int .i64 0] ∧ SpO w.heap.size w' va vv cs f V a (cM f V a) (fM f V a) := by
  have hR : RawS w vn (rawF a) := FmS.raw hn
  apply c_spec_l14Code; unfold S_spec_l14Code
  refine iNew fun b2 w1 hb2 x1 hB2 => ?_
  refine iNew fun b4 w2 hb4 x2 hB4 => ?_
  have X2 := x1.trans x2
  have z1 := x1.size
  have hB2 : Blk _ w2 b2 [.int .i64 (f.n : Int), va, vv] := hB2.ext x2
  have hB4 : Blk 48 w2 b4 [.int .i64 0, .slice none 0 0, .slice none 0 0, .slice none 0 0, .slice none 0 0, .slice none 0 0, .slice none 0 0, .slice none 0 0] := hB4
  refine iJnB false w2 (fun J hJ => ?_) (fun w4 x4 => ?_)
  · refine iLdA hB2 rfl ?_
    refine iRet (ok_spec_l06Is (l := nats f.a) (vs := nats V) (hs.ext X2) (hv.ext X2)) fun w5 x5 => ?_
    rw [hM.m]
    refine iNot (iCndF rfl ?_)
    refine iRet (ok_spec_l02Is (SlK.ext hR (X2.trans x5)) hM.len) fun w6 x6 => iNot ?_
    rw [hM.isN]
    exact hJ _ (x5.trans x6)
  · intro _
    simp only [gx]
    refine iCndF rfl ?_
    refine iLdA (hB2.ext x4) rfl ?_
    have X4 := X2.trans x4
    refine iCall ((ok_spec_l14Make hM (hs.ext X4) (hv.ext X4) (SlK.ext hn X4)).mono ?_)
    rintro _ w9 ⟨x9, cs, rfl, hS⟩
    obtain ⟨hl, hc⟩ := hS.sp.cells
    refine iStAB (hB4.ext (x4.trans x9)) rfl (by simpa using hl) (fun u hu => hc u (by simpa using hu)) fun w10 hu10 hB => ?_
    refine iLdA hB (by simpa using hl) ?_
    have xF : Ext w w10 := (X4.trans x9).upd hu10 (by omega)
    have zX := X4.size
    exact ⟨xF, cs, by simp, hS.upd hu10 (by have := x4.size; omega) zX (hs.ext xF) (hv.ext xF)⟩
theorem bad_spec_l14Code {n : Int} {l vs : List Int} {N : List RN} (hb : ¬ (modelOk n l vs = true ∧ isN N = true)) (hs : SlI w va l) (hv : SlI w vv vs) (hn : RawS w vn N) (hN : N.length ≤ 1000) :
    Cal Tryz.prog f_spec_l14Code #[.agg #[.int .i64 n, va, vv], vn] w fun r w' => Ext w w' ∧ r = .tuple #[.agg #[.int .i64 0, .slice none 0 0, .slice none 0 0, .slice none 0 0, .slice none 0 0, .slice none 0 0, .slice none 0 0, .slice none 0 0], .int .i64 1] := by
  apply c_spec_l14Code; unfold S_spec_l14Code
  refine iNew fun b2 w1 hb2 x1 hB2 => ?_
  refine iNew fun b4 w2 hb4 x2 hB4 => ?_
  have X2 := x1.trans x2
  have z1 := x1.size
  have hB2 : Blk _ w2 b2 [.int .i64 n, va, vv] := hB2.ext x2
  have hB4 : Blk 48 w2 b4 [.int .i64 0, .slice none 0 0, .slice none 0 0, .slice none 0 0, .slice none 0 0, .slice none 0 0, .slice none 0 0, .slice none 0 0] := hB4
  refine iJnB true w2 (fun J hJ => ?_) (fun w4 x4 => ?_)
  · refine iLdA hB2 rfl ?_
    refine iRet (ok_spec_l06Is (hs.ext X2) (hv.ext X2)) fun w5 x5 => iNot ?_
    refine iCnd (fun h => ?_) (fun h => ?_)
    · exact hJ _ x5
    · have h : modelOk n l vs = true := by simpa using h
      refine iRet (ok_spec_l02Is (SlK.ext hn (X2.trans x5)) (by omega)) fun w6 x6 => iNot ?_
      have hN2 : isN N = false := by
        rw [Bool.eq_false_iff]
        exact fun h2 => hb ⟨h, h2⟩
      rw [hN2]
      exact hJ _ (x5.trans x6)
  · intro _
    simp only [gx]
    refine iCndT rfl ?_
    refine iBuild (cs := #[.int .i64 0, .slice none 0 0, .slice none 0 0, .slice none 0 0, .slice none 0 0, .slice none 0 0, .slice none 0 0, .slice none 0 0]) (by simp [Instr.fill]) ?_
    refine iStAB (hB4.ext x4) rfl rfl (fun u hu => by
      simp only [List.mem_cons, List.not_mem_nil, or_false] at hu
      rcases hu with rfl | rfl | rfl | rfl | rfl | rfl | rfl | rfl <;> rfl) fun w10 hu10 hB => ?_
    refine iLdA hB rfl ?_
    exact ⟨(X2.trans x4).upd hu10 (by omega), rfl⟩
theorem ok_spec_TransitiveFiltration (hM : MdG f V a) (hs : SlN w va f.a) (hv : SlN w vv V) (hn : FmS w vn a) :
    Cal Tryz.prog f_spec_TransitiveFiltration #[.agg #[.int .i64 (f.n : Int), va, vv], vn] w fun r w' => Ext w w' ∧ ∃ u m g, r = .tuple #[.agg #[.int .i64 ((m : Nat) : Int), u], .int .i64 (if flagI 2 f = true then 0 else 5)] ∧ Ow w.heap.size t_i64 w' u (ints (nats g)) ∧ (m, g) = filM 2 true false f V a := by
  obtain ⟨hcl, hcF, hFn, hF8⟩ := SpW.facts hM
  apply c_spec_TransitiveFiltration; unfold S_spec_TransitiveFiltration
  refine iNew fun b2 w1 hb2 x1 hB2 => ?_
  refine iNew fun b4 w2 hb4 x2 hB4 => ?_
  have X2 := x1.trans x2
  have z1 := x1.size
  have hB2 : Blk _ w2 b2 [.int .i64 (f.n : Int), va, vv] := hB2.ext x2
  have hB4 : Blk 26 w2 b4 [.int .i64 0, .slice none 0 0] := hB4
  refine iLdA hB2 rfl ?_
  refine iCall ((ok_spec_l14Code hM (hs.ext X2) (hv.ext X2) (SlK.ext hn X2)).mono ?_)
  rintro _ w3 ⟨x3, cs, rfl, hS⟩
  obtain ⟨hl, hc⟩ := hS.sp.cells
  refine iEx (by rfl) (iEx (by rfl) ?_)
  refine iNew fun b6 w4 hb6 x4 hB6 => ?_
  have hB6 : Blk 48 w4 b6 [.int .i64 0, .slice none 0 0, .slice none 0 0, .slice none 0 0, .slice none 0 0, .slice none 0 0, .slice none 0 0, .slice none 0 0] := hB6
  refine iStAB hB6 rfl (by simpa using hl) (fun u hu => hc u (by simpa using hu)) fun w5 hu5 hB65 => ?_
  have x35 : Ext w3 w5 := x4.upd hu5 (by omega)
  refine iNe (iCndF rfl ?_)
  have x25 := x3.trans x35
  refine iFa (iLdP (n := 2) (hB2.ext x25) (by simp) ?_)
  refine iRet (ok_spec_l05FlagA hM.ok (hs.ext (X2.trans x25)) 2 (by decide)) fun w8 x8 => iNot ?_
  refine iCnd (fun h => ?_) (fun h => ?_)
  · have h : flagI 2 f = false := by simpa using h
    unfold filM
    rw [h]
    refine iBuild (cs := #[.int .i64 0, .slice none 0 0]) (by simp [Instr.fill]) ?_
    refine iStAB (hB4.ext (x25.trans x8)) rfl rfl (fun u hu => by
      simp only [List.mem_cons, List.not_mem_nil, or_false] at hu
      rcases hu with rfl | rfl <;> rfl) fun w9 hu9 hB => ?_
    refine iLdA hB rfl ?_
    exact ⟨((X2.trans x25).trans x8).upd hu9 (by omega), _, 0, [], rfl, Ow.nil _ _ _, rfl⟩
  · have h : flagI 2 f = true := by simpa using h
    unfold filM
    rw [h]
    have x38 := x35.trans x8
    refine iLdA (hB65.ext x8) (by simpa using hl) ?_
    refine iCall ((ok_spec_l14Greatest (cs := cs) hM.ok hM.lt (hS.sp.ext x38) hFn hF8 true false).mono ?_)
    rintro v24 w11 ⟨x11, ho11⟩
    have hgl : (nats (greA f (fun v => V.getD v 0) a (fM f V a) true false)).length = (fM f V a).length := by rw [nats_length]; exact relA_len _ _
    refine iCall ((ok_spec_l05Make (l := nats (greA f (fun v => V.getD v 0) a (fM f V a) true false)) ho11.sl (by omega)).mono ?_)
    rintro _ w12 ⟨x12, v', rfl, ho12⟩
    rw [hgl]
    have X12 := ((x3.trans x38).trans x11).trans x12
    refine iStAB (hB4.ext X12) rfl rfl (ho12.pair _) fun w13 hu13 hB => ?_
    refine iLdA hB rfl ?_
    have hz := ((X2.trans x3).trans x38).trans x11
    exact ⟨(X2.trans X12).upd hu13 (by omega), v', _, _, rfl, (ho12.upd hu13 (ho12.ne_blk (hB4.ext X12) (by decide))).mono hz.size, rfl⟩
theorem bad_spec_TransitiveFiltration {n : Int} {l vs : List Int} {N : List RN} (hb : ¬ (modelOk n l vs = true ∧ isN N = true)) (hs : SlI w va l) (hv : SlI w vv vs) (hn : RawS w vn N) (hN : N.length ≤ 1000) :
    Ret Tryz.prog f_spec_TransitiveFiltration #[.agg #[.int .i64 n, va, vv], vn] w (.tuple #[.agg #[.int .i64 0, .slice none 0 0], .int .i64 1]) := by
  apply c_spec_TransitiveFiltration; unfold S_spec_TransitiveFiltration
  refine iNew fun b2 w1 hb2 x1 hB2 => ?_
  refine iNew fun b4 w2 hb4 x2 hB4 => ?_
  have X2 := x1.trans x2
  have z1 := x1.size
  have hB2 : Blk _ w2 b2 [.int .i64 n, va, vv] := hB2.ext x2
  have hB4 : Blk 26 w2 b4 [.int .i64 0, .slice none 0 0] := hB4
  refine iLdA hB2 rfl ?_
  refine iCall ((bad_spec_l14Code hb (hs.ext X2) (hv.ext X2) (SlK.ext hn X2) hN).mono ?_)
  rintro _ w3 ⟨x3, rfl⟩
  refine iEx (by rfl) (iEx (by rfl) ?_)
  refine iNew fun b6 w4 hb6 x4 hB6 => ?_
  have hB6 : Blk 48 w4 b6 [.int .i64 0, .slice none 0 0, .slice none 0 0, .slice none 0 0, .slice none 0 0, .slice none 0 0, .slice none 0 0, .slice none 0 0] := hB6
  refine iStAB hB6 rfl rfl (fun u hu => by
      simp only [List.mem_cons, List.not_mem_nil, or_false] at hu
      rcases hu with rfl | rfl | rfl | rfl | rfl | rfl | rfl | rfl <;> rfl) fun w5 hu5 hB65 => ?_
  have x35 : Ext w3 w5 := x4.upd hu5 (by omega)
  refine iNe (iCndT rfl ?_)
  refine iBuild (cs := #[.int .i64 0, .slice none 0 0]) (by simp [Instr.fill]) ?_
  refine iStAB (hB4.ext (x3.trans x35)) rfl rfl (fun u hu => by
    simp only [List.mem_cons, List.not_mem_nil, or_false] at hu
    rcases hu with rfl | rfl <;> rfl) fun w9 hu9 hB => ?_
  refine iLdA hB rfl ?_
  exact ⟨rfl, ((X2.trans x3).trans x35).upd hu9 (by omega)⟩
theorem ok_spec_SymmetricFiltration (hM : MdG f V a) (hs : SlN w va f.a) (hv : SlN w vv V) (hn : FmS w vn a) :
    Cal Tryz.prog f_spec_SymmetricFiltration #[.agg #[.int .i64 (f.n : Int), va, vv], vn] w fun r w' => Ext w w' ∧ ∃ u m g, r = .tuple #[.agg #[.int .i64 ((m : Nat) : Int), u], .int .i64 (if flagI 3 f = true then 0 else 5)] ∧ Ow w.heap.size t_i64 w' u (ints (nats g)) ∧ (m, g) = filM 3 false true f V a := by
  obtain ⟨hcl, hcF, hFn, hF8⟩ := SpW.facts hM
  apply c_spec_SymmetricFiltration; unfold S_spec_SymmetricFiltration
  refine iNew fun b2 w1 hb2 x1 hB2 => ?_
  refine iNew fun b4 w2 hb4 x2 hB4 => ?_
  have X2 := x1.trans x2
  have z1 := x1.size
  have hB2 : Blk _ w2 b2 [.int .i64 (f.n : Int), va, vv] := hB2.ext x2
  have hB4 : Blk 26 w2 b4 [.int .i64 0, .slice none 0 0] := hB4
  refine iLdA hB2 rfl ?_
  refine iCall ((ok_spec_l14Code hM (hs.ext X2) (hv.ext X2) (SlK.ext hn X2)).mono ?_)
  rintro _ w3 ⟨x3, cs, rfl, hS⟩
  obtain ⟨hl, hc⟩ := hS.sp.cells
  refine iEx (by rfl) (iEx (by rfl) ?_)
  refine iNew fun b6 w4 hb6 x4 hB6 => ?_
  have hB6 : Blk 48 w4 b6 [.int .i64 0, .slice none 0 0, .slice none 0 0, .slice none 0 0, .slice none 0 0, .slice none 0 0, .slice none 0 0, .slice none 0 0] := hB6
  refine iStAB hB6 rfl (by simpa using hl) (fun u hu => hc u (by simpa using hu)) fun w5 hu5 hB65 => ?_
  have x35 : Ext w3 w5 := x4.upd hu5 (by omega)
  refine iNe (iCndF rfl ?_)
  have x25 := x3.trans x35
  refine iFa (iLdP (n := 2) (hB2.ext x25) (by simp) ?_)
  refine iRet (ok_spec_l05FlagA hM.ok (hs.ext (X2.trans x25)) 3 (by decide)) fun w8 x8 => iNot ?_
  refine iCnd (fun h => ?_) (fun h => ?_)
  · have h : flagI 3 f = false := by simpa using h
    unfold filM
    rw [h]
    refine iBuild (cs := #[.int .i64 0, .slice none 0 0]) (by simp [Instr.fill]) ?_
    refine iStAB (hB4.ext (x25.trans x8)) rfl rfl (fun u hu => by
      simp only [List.mem_cons, List.not_mem_nil, or_false] at hu
      rcases hu with rfl | rfl <;> rfl) fun w9 hu9 hB => ?_
    refine iLdA hB rfl ?_
    exact ⟨((X2.trans x25).trans x8).upd hu9 (by omega), _, 0, [], rfl, Ow.nil _ _ _, rfl⟩
  · have h : flagI 3 f = true := by simpa using h
    unfold filM
    rw [h]
    have x38 := x35.trans x8
    refine iLdA (hB65.ext x8) (by simpa using hl) ?_
    refine iCall ((ok_spec_l14Greatest (cs := cs) hM.ok hM.lt (hS.sp.ext x38) hFn hF8 false true).mono ?_)
    rintro v24 w11 ⟨x11, ho11⟩
    have hgl : (nats (greA f (fun v => V.getD v 0) a (fM f V a) false true)).length = (fM f V a).length := by rw [nats_length]; exact relA_len _ _
    refine iCall ((ok_spec_l05Make (l := nats (greA f (fun v => V.getD v 0) a (fM f V a) false true)) ho11.sl (by omega)).mono ?_)
    rintro _ w12 ⟨x12, v', rfl, ho12⟩
    rw [hgl]
    have X12 := ((x3.trans x38).trans x11).trans x12
    refine iStAB (hB4.ext X12) rfl rfl (ho12.pair _) fun w13 hu13 hB => ?_
    refine iLdA hB rfl ?_
    have hz := ((X2.trans x3).trans x38).trans x11
    exact ⟨(X2.trans X12).upd hu13 (by omega), v', _, _, rfl, (ho12.upd hu13 (ho12.ne_blk (hB4.ext X12) (by decide))).mono hz.size, rfl⟩
theorem bad_spec_SymmetricFiltration {n : Int} {l vs : List Int} {N : List RN} (hb : ¬ (modelOk n l vs = true ∧ isN N = true)) (hs : SlI w va l) (hv : SlI w vv vs) (hn : RawS w vn N) (hN : N.length ≤ 1000) :
    Ret Tryz.prog f_spec_SymmetricFiltration #[.agg #[.int .i64 n, va, vv], vn] w (.tuple #[.agg #[.int .i64 0, .slice none 0 0], .int .i64 1]) := by
  apply c_spec_SymmetricFiltration; unfold S_spec_SymmetricFiltration
  refine iNew fun b2 w1 hb2 x1 hB2 => ?_
  refine iNew fun b4 w2 hb4 x2 hB4 => ?_
  have X2 := x1.trans x2
  have z1 := x1.size
  have hB2 : Blk _ w2 b2 [.int .i64 n, va, vv] := hB2.ext x2
  have hB4 : Blk 26 w2 b4 [.int .i64 0, .slice none 0 0] := hB4
  refine iLdA hB2 rfl ?_
  refine iCall ((bad_spec_l14Code hb (hs.ext X2) (hv.ext X2) (SlK.ext hn X2) hN).mono ?_)
  rintro _ w3 ⟨x3, rfl⟩
  refine iEx (by rfl) (iEx (by rfl) ?_)
  refine iNew fun b6 w4 hb6 x4 hB6 => ?_
  have hB6 : Blk 48 w4 b6 [.int .i64 0, .slice none 0 0, .slice none 0 0, .slice none 0 0, .slice none 0 0, .slice none 0 0, .slice none 0 0, .slice none 0 0] := hB6
  refine iStAB hB6 rfl rfl (fun u hu => by
      simp only [List.mem_cons, List.not_mem_nil, or_false] at hu
      rcases hu with rfl | rfl | rfl | rfl | rfl | rfl | rfl | rfl <;> rfl) fun w5 hu5 hB65 => ?_
  have x35 : Ext w3 w5 := x4.upd hu5 (by omega)
  refine iNe (iCndT rfl ?_)
  refine iBuild (cs := #[.int .i64 0, .slice none 0 0]) (by simp [Instr.fill]) ?_
  refine iStAB (hB4.ext (x3.trans x35)) rfl rfl (fun u hu => by
    simp only [List.mem_cons, List.not_mem_nil, or_false] at hu
    rcases hu with rfl | rfl <;> rfl) fun w9 hu9 hB => ?_
  refine iLdA hB rfl ?_
  exact ⟨rfl, ((X2.trans x3).trans x35).upd hu9 (by omega)⟩
end
end Go.Proofs.YtmefbjdioaahdaaGreatDoor

/- Contracts: how many arrows a filtration may have or not, in the reference. Conditions: none. -/
namespace Go.Proofs.YtmefbjdioaahdaaGreatDoor
open Go.Vc
/-- The arrows between two rows of masks, of the first k rows. -/
def roomK (low high : List Nat) : Nat → Nat
  | 0 => 0
  | k + 1 => roomK low high k + popc (sdiff (high.getD k 0) (low.getD k 0))
theorem roomK_le {low high : List Nat} (h : ∀ k, high.getD k 0 < 2 ^ 8) : ∀ k, roomK low high k ≤ 8 * k
  | 0 => Nat.le_refl _
  | k + 1 => by
    have ih := roomK_le (low := low) h k
    have h1 : sdiff (high.getD k 0) (low.getD k 0) < 2 ^ 8 := sdiff_lt (h k)
    have h2 : popc (sdiff (high.getD k 0) (low.getD k 0)) ≤ 8 := popc_full (m := 8) (by decide) h1
    rw [roomK]; omega
theorem ok_spec_l14Room {f : Fr} (hf : f.ok) {V : List Nat} (hV : ∀ x ∈ V, x < 2 ^ f.n) {a : Fm} {c F : List Nat} {cs : List Value} {w : World} (hS : SpW w cs f V a c F) (hcl : c.length = f.n) (hcF : ∀ x, x < f.n → c.getD x 0 < F.length) (hFn : ∀ u ∈ F, u < f.n) (hF8 : F.length ≤ 8) :
    Ret Tryz.prog f_spec_l14Room #[.agg cs.toArray] w (.int .i64 ((roomK (leaA f c F.length) (greA f (fun v => V.getD v 0) a F false false) F.length : Nat) : Int)) := by
  have hS0 := hS
  obtain ⟨va, vv, vc, vf, vb, vi, vo, rfl, _⟩ := hS
  apply c_spec_l14Room; unfold S_spec_l14Room
  refine iNew fun b1 w1 hb1 x1 hB => ?_
  have hB : Blk 48 w1 b1 [.int .i64 (f.n : Int), va, vv, vc, vf, vb, vi, vo] := hB
  refine iLdA hB rfl (iLdA hB rfl ?_)
  intro w2 x2
  refine iCall ((ok_spec_l14Least hf (hS0.ext (x1.trans x2)) hcl hcF hF8).mono ?_)
  rintro vl w3 ⟨x3, hol⟩
  refine ⟨x3, ?_⟩
  intro w4 x4
  have X4 := ((x1.trans x2).trans x3).trans x4
  refine iCall ((ok_spec_l14Greatest hf hV (hS0.ext X4) hFn hF8 false false).mono ?_)
  rintro vh w5 ⟨x5, hoh⟩
  intro w6 x6
  have X6 := (X4.trans x5).trans x6
  have hsl : SlN w6 vl (leaA f c F.length) := (hol.ext ((x4.trans x5).trans x6)).sl
  have hsh : SlN w6 vh (greA f (fun v => V.getD v 0) a F false false) := (hoh.ext x6).sl
  have ll : (leaA f c F.length).length = F.length := relA_len _ _
  have lh : (greA f (fun v => V.getD v 0) a F false false).length = F.length := relA_len _ _
  have gh : ∀ k, (greA f (fun v => V.getD v 0) a F false false).getD k 0 < 2 ^ 8 := fun k => relA_lt hF8 _ k
  have gl : ∀ k, (leaA f c F.length).getD k 0 < 2 ^ 8 := fun k => relA_lt hF8 _ k
  generalize leaA f c F.length = low at *
  generalize greA f (fun v => V.getD v 0) a F false false = high at *
  refine iLp (fun k : Nat => [.int .i64 ((roomK low high k : Nat) : Int), .int .i64 (k : Int)]) (fun k w' => k ≤ F.length ∧ Ext w6 w') (fun k => F.length - k) 0 rfl ⟨Nat.zero_le _, Ext.refl _⟩ ?_
  rintro k w8 Kn ⟨hk, x8⟩ hKn
  intro _
  simp only [gx]
  refine iLenN (hsl.ext x8) ?_
  rw [ll]
  refine iLt (iCndP (fun h => ?_) (fun h => ?_))
  · have hk1 : k < F.length := by omega
    have g1 := gh k
    have g2 := gl k
    have g3 : sdiff (high.getD k 0) (low.getD k 0) < 2 ^ 8 := sdiff_lt g1
    have hr := roomK_le (low := low) gh k
    have hp := popc_full (m := 8) (by decide) g3
    have hp : popc (sdiff (high.getD k 0) (low.getD k 0)) ≤ 8 := hp
    refine iIaNN (hsh.ext x8) (by omega) fun p hp => iLd hp ?_
    refine iIaNN (hsl.ext x8) (by omega) fun p hp => iLd hp ?_
    refine iBAndNot (by omega) (by omega) ?_
    refine iRetQ (fun w' _ => ok_spec_l01Bits _ (by omega) w') ?_
    refine iAdd (by omega) ?_
    intro w9 x9
    refine iAdd (by omega) ?_
    exact hKn (k + 1) _ ⟨by omega, x8.trans x9⟩ (by omega)
  · have : k = F.length := by omega
    subst this
    exact ⟨by first | trivial | rfl, X6.trans x8⟩
end Go.Proofs.YtmefbjdioaahdaaGreatDoor

/- Contracts: the subsets of a mask, in the reference. Conditions: none. -/
namespace Go.Proofs.YtmefbjdioaahdaaGreatDoor
open Go.Vc
/-- The unions of the first k members of a list. -/
def sbK (ms : List Nat) : Nat → List Nat
  | 0 => [0]
  | k + 1 => sbK ms k ++ (sbK ms k).map fun s => s ||| 2 ^ ms.getD k 0
theorem sbK_len (ms : List Nat) : ∀ k, (sbK ms k).length = 2 ^ k
  | 0 => rfl
  | k + 1 => by rw [sbK, List.length_append, List.length_map, sbK_len ms k, Nat.pow_succ]; omega
theorem sbK_lt {ms : List Nat} (h : ∀ k, ms.getD k 0 < 8) : ∀ k, ∀ s ∈ sbK ms k, s < 2 ^ 8
  | 0, s, hs => by rw [sbK, List.mem_singleton] at hs; subst hs; decide
  | k + 1, s, hs => by
    rw [sbK] at hs
    rcases List.mem_append.1 hs with hs | hs
    · exact sbK_lt h k s hs
    · obtain ⟨t, ht, rfl⟩ := List.mem_map.1 hs
      exact Nat.or_lt_two_pow (sbK_lt h k t ht) (Nat.pow_lt_pow_right (by omega) (h k))
theorem ok_spec_l01Subs {m : Nat} (hm : m < 2 ^ 8) (w : World) : Cal Tryz.prog f_spec_l01Subs #[.int .i64 (m : Int)] w fun r w' => Ext w w' ∧ Ow w.heap.size t_i64 w' r (ints (nats (sbK (mem m) (mem m).length))) := by
  apply c_spec_l01Subs; unfold S_spec_l01Subs
  refine iBs1 rfl rfl fun b1 w1 hb1 x1 hB1 => ?_
  refine iCall ((ok_spec_l01List m (by omega) w1).mono ?_)
  rintro vm w2 ⟨x2, hom⟩
  have X2 := x1.trans x2
  have hl8 : (mem m).length ≤ 8 := popc_full (m := 8) (by decide) hm
  have hms : ∀ k, (mem m).getD k 0 < 8 := fun k => by
    rcases Nat.lt_or_ge k (mem m).length with h | h
    · rw [show (mem m).getD k 0 = (mem m)[k] by simp [h]]
      exact bit_lt_n hm ((mem_mem (by omega)).1 (List.getElem_mem _))
    · rw [List.getD_eq_getElem?_getD, List.getElem?_eq_none h]; decide
  have hvm : ∀ c, vm.ownBlock = some c → w1.heap.size ≤ c ∧ c < w2.heap.size := hom.blk
  generalize mem m = ms at *
  have ho0 : Ow w.heap.size t_i64 w2 (.slice (some ⟨b1, 0, none⟩) 1 1) (ints (nats (sbK ms 0))) := (Ow.ofBlk (n := 1) hB1 (by omega) rfl (by omega)).ext x2
  -- the rows: the call's own, never the members' row
  refine iLp (fun s : Value × Nat => [s.1, .int .i64 (s.2 : Int)]) (fun s w' => s.2 ≤ ms.length ∧ Ext w w' ∧ w2.heap.size ≤ w'.heap.size ∧ Ow w1.heap.size t_i64 w' vm (ints (nats ms)) ∧ (∀ c, s.1.ownBlock = some c → c < w1.heap.size ∨ w2.heap.size ≤ c) ∧ Ow w.heap.size t_i64 w' s.1 (ints (nats (sbK ms s.2)))) (fun s => ms.length - s.2) (.slice (some ⟨b1, 0, none⟩) 1 1, 0) rfl
    ⟨Nat.zero_le _, X2, Nat.le_refl _, hom, fun c hc => .inl (by have hc : some b1 = some c := hc; cases hc; omega), ho0⟩ ?_
  rintro ⟨u, i⟩ w4 Kn ⟨hi, x4, z4, hm4, hne, ho⟩ hKn
  have hi : i ≤ ms.length := hi
  have x4 : Ext w w4 := x4
  have hne : ∀ c, u.ownBlock = some c → c < w1.heap.size ∨ w2.heap.size ≤ c := hne
  have ho : Ow w.heap.size t_i64 w4 u (ints (nats (sbK ms i))) := ho
  intro _
  simp only [gx]
  refine iLenN (show SlN w4 vm ms from hm4.sl) ?_
  refine iLt (iCndP (fun h => ?_) (fun h => ?_))
  · have hi1 : i < ms.length := by omega
    have hsl := sbK_len ms i
    have hpw : 2 ^ i ≤ 2 ^ 7 := Nat.pow_le_pow_right (by omega) (by omega)
    have hslt := sbK_lt hms i
    have hst : sbK ms (i + 1) = sbK ms i ++ (sbK ms i).map fun s => s ||| 2 ^ ms.getD i 0 := rfl
    generalize sbK ms i = S at *
    refine iLenN (show SlN w4 u S from ho.sl) ?_
    refine iLp (fun s : Value × Nat => [s.1, .int .i64 (s.2 : Int)]) (fun s w' => s.2 ≤ S.length ∧ Ext w w' ∧ w2.heap.size ≤ w'.heap.size ∧ Ow w1.heap.size t_i64 w' vm (ints (nats ms)) ∧ (∀ c, s.1.ownBlock = some c → c < w1.heap.size ∨ w2.heap.size ≤ c) ∧ Ow w.heap.size t_i64 w' s.1 (ints (nats (S ++ (S.take s.2).map fun t => t ||| 2 ^ ms.getD i 0)))) (fun s => S.length - s.2) (u, 0) rfl
      ⟨Nat.zero_le _, x4, z4, hm4, hne, by simpa using ho⟩ ?_
    rintro ⟨u6, k⟩ w6 Kn6 ⟨hk, x6, z6, hm6, hne6, ho6⟩ hKn6
    have hk : k ≤ S.length := hk
    have x6 : Ext w w6 := x6
    have hne6 : ∀ c, u6.ownBlock = some c → c < w1.heap.size ∨ w2.heap.size ≤ c := hne6
    have ho6 : Ow w.heap.size t_i64 w6 u6 (ints (nats (S ++ (S.take k).map fun t => t ||| 2 ^ ms.getD i 0))) := ho6
    intro _
    simp only [gx]
    refine iLt (iCndP (fun h2 => ?_) (fun h2 => ?_))
    · have hk1 : k < S.length := by omega
      have hll : (S ++ (S.take k).map fun t => t ||| 2 ^ ms.getD i 0).length = S.length + k := by rw [List.length_append, List.length_map, List.length_take]; omega
      refine iIaNN (show SlN w6 u6 _ from ho6.sl) (by rw [hll]; omega) fun p hp => iLd hp ?_
      have eg : (S ++ (S.take k).map fun t => t ||| 2 ^ ms.getD i 0).getD k 0 = S[k] := by
        rw [List.getD_eq_getElem?_getD, List.getElem?_append_left hk1, List.getElem?_eq_getElem hk1]; rfl
      rw [eg]
      refine iIaNN (show SlN w6 vm ms from hm6.sl) hi1 fun p hp => iLd hp ?_
      have hmi := hms i
      have hsk := hslt _ (List.getElem_mem hk1)
      refine iRetQ (fun w' _ => ok_spec_l01One _ (by omega) w') ?_
      have g2 : 2 ^ ms.getD i 0 < 2 ^ 8 := Nat.pow_lt_pow_right (by omega) hmi
      refine iBOr (by omega) (by omega) ?_
      intro w7 x7
      refine iBs1 rfl rfl fun b8 w8 hb8 x8 hB8 => ?_
      intro w9 x9
      have y9 := (x7.trans x8).trans x9
      have ho9 := ho6.ext y9
      have hm9 := hm6.ext y9
      have hil : (ints (nats (S ++ (S.take k).map fun t => t ||| 2 ^ ms.getD i 0))).length = S.length + k := by rw [ints_length, nats_length, hll]
      refine iAppA u_Si64 i_Si64 rfl ho9 (Sl.ofBlk (n := 1) (hB8.ext x9) rfl (by omega)) (fun x hx => by simp at hx; subst hx; rfl) (by rw [hil]; simp; omega) (by rw [hil]; simp; omega) (x6.trans y9).size fun u' w10 ho10 hg10 hat => ?_
      have hch : Ch (fun c => u6.ownBlock = some c) w9 w10 := grown_ch hg10 fun b hb => hb
      have z9 := y9.size
      intro w11 x11
      refine iAdd (by omega) ?_
      refine hKn6 (u', k + 1) _ ⟨hk1, ((x6.trans y9).grown hg10 fun c hc => (ho9.blk c hc).1).trans x11, Nat.le_trans (Nat.le_trans (Nat.le_trans z6 z9) hch.size) x11.size, (hm9.ch hch fun c hc hu => ?_).ext x11, fun c hc => ?_, ?_⟩ (by show S.length - (k + 1) < S.length - k; omega)
      · have h1 := hvm c hc
        have h2 := hne6 c hu
        omega
      · have hc : u'.ownBlock = some c := hc
        rcases hat with h1 | ⟨c', h1, h2⟩
        · exact hne6 c (by rw [← h1]; exact hc)
        · rw [h1] at hc
          cases hc
          exact .inr (by omega)
      · show Ow _ _ _ u' (ints (nats (S ++ (S.take (k + 1)).map fun t => t ||| 2 ^ ms.getD i 0)))
        have e : ints (nats (S ++ (S.take (k + 1)).map fun t => t ||| 2 ^ ms.getD i 0)) = ints (nats (S ++ (S.take k).map fun t => t ||| 2 ^ ms.getD i 0)) ++ [.int .i64 ((S[k] ||| 2 ^ ms.getD i 0 : Nat) : Int)] := by
          rw [List.take_succ_eq_append_getElem hk1, List.map_append, ← List.append_assoc]
          generalize S ++ (S.take k).map (fun t => t ||| 2 ^ ms.getD i 0) = T
          simp [ints, nats]
        rw [e]
        exact ho10.ext x11
    · have : k = S.length := by omega
      subst this
      rw [List.take_length, ← hst] at ho6
      refine iAdd (by omega) ?_
      exact hKn (u6, i + 1) _ ⟨hi1, x6, z6, hm6, hne6, ho6⟩ (by show ms.length - (i + 1) < ms.length - i; omega)
  · have : i = ms.length := by omega
    subst this
    exact ⟨x4, ho⟩
end Go.Proofs.YtmefbjdioaahdaaGreatDoor

/- Contracts: all p-morphisms between posets in the reference (l01Less, l21All, AllPosetMorphisms). Conditions: none. -/
namespace Go.Vc
theorem lessB_upto : ∀ (a b : List Int) (k : Nat), (∀ i, i < k → a[i]? = b[i]?) → k ≤ a.length → k ≤ b.length → lessB a b = lessB (a.drop k) (b.drop k)
  | _, _, 0, _, _, _ => rfl
  | [], _, _ + 1, _, h, _ => by simp at h
  | _ :: _, [], _ + 1, _, _, h => by simp at h
  | x :: a, y :: b, k + 1, h, h1, h2 => by
    have e : x = y := by have := h 0 (by omega); simpa using this
    subst e
    simp only [lessB, if_true, List.drop_succ_cons]
    exact lessB_upto a b k (fun i hi => by have := h (i + 1) (by omega); simpa using this) (by simpa using h1) (by simpa using h2)
end Go.Vc
namespace Go.Proofs.YtmefbjdioaahdaaGreatDoor
open Go.Vc
end Go.Proofs.YtmefbjdioaahdaaGreatDoor

/- Contracts: cmp.Compare and slices.Compare on int64. Conditions: none. -/
namespace Go.Vc
/-- What slices.Compare answers. -/
def cmpIc (a b : List Int) : Int := if lessB a b = true then -1 else if lessB b a = true then 1 else 0
theorem cmpIc_neg {a b : List Int} : cmpIc a b < 0 ↔ lessB a b = true := by
  unfold cmpIc
  split
  · rename_i h; simp [h]
  · rename_i h
    split <;> simp [h]
end Go.Vc
namespace Go.Proofs.YtmefbjdioaahdaaGreatDoor
open Go.Vc
theorem ok_cmp_isNaN_i64c (x : Int) (w : World) : Ret Tryz.prog f_cmp_isNaN_i64 #[.int .i64 x] w (.bool false) := by
  apply c_cmp_isNaN_i64; unfold S_cmp_isNaN_i64
  refine iNe ?_
  rw [decide_eq_false (fun h => h rfl)]
  exact ⟨rfl, Ext.refl _⟩
theorem ok_cmp_Compare_i64c (x y : Int) (w : World) : Ret Tryz.prog f_cmp_Compare_i64 #[.int .i64 x, .int .i64 y] w (.int .i64 (if x < y then -1 else if y < x then 1 else 0)) := by
  apply c_cmp_Compare_i64; unfold S_cmp_Compare_i64
  refine iRet (ok_cmp_isNaN_i64c x w) fun w1 h1 => ?_
  refine iRet (ok_cmp_isNaN_i64c y w1) fun w2 h2 => ?_
  refine iCndF rfl (iCndF rfl ?_)
  refine iLt ?_
  refine iCndP (fun h => ?_) (fun h => ?_)
  · rw [if_pos h]; exact ⟨rfl, h1.trans h2⟩
  · rw [if_neg h]
    refine iLt ?_
    refine iCndP (fun h => ?_) (fun h => ?_)
    · rw [if_pos h]; exact ⟨rfl, h1.trans h2⟩
    · rw [if_neg h]; exact ⟨rfl, h1.trans h2⟩
theorem ok_slices_CompareXc {va vb : Value} {w : World} {a b : List Int} (ha : SlI w va a) (hb : SlI w vb b) : Ret Tryz.prog f_slices_Compare_Si64_i64 #[va, vb] w (.int .i64 (cmpIc a b)) := by
  apply c_slices_Compare_Si64_i64; unfold S_slices_Compare_Si64_i64
  have hal := ha.len
  have hbl := hb.len
  ((with_reducible refine iLenI (by assumption) ?_))
  refine iLp (fun k : Nat => [.int .i64 (k : Int)]) (fun k w' => k ≤ a.length ∧ k ≤ b.length ∧ Ext w w' ∧ ∀ i, i < k → a[i]? = b[i]?) (fun k => a.length - k) 0 rfl ⟨Nat.zero_le _, Nat.zero_le _, Ext.refl _, fun i hi => by omega⟩ ?_
  rintro k w2 Kn ⟨hka, hkb, h2, heq⟩ hKn
  have ha2 := ha.ext h2
  have hb2 := hb.ext h2
  have hup := lessB_upto a b k heq hka hkb
  have hup2 := lessB_upto b a k (fun i hi => (heq i hi).symm) hkb hka
  (intro _; (try simp only [gx]); (with_reducible refine iLt ?_))
  refine iCndP (fun h5 => ?_) (fun h5 => ?_)
  · have h5a : k < a.length := by omega
    have ea : a.getD k 0 = a[k] := by simp [List.getD_eq_getElem?_getD, h5a]
    ((with_reducible refine iIaN (by assumption) ?_ (fun pa_ hpa_ => ?_)); omega; (with_reducible refine iLd (by assumption) ?_; refine iLenI (by assumption) ?_; refine iLe ?_))
    rw [ea]
    refine iCndP (fun h6 => ?_) (fun h6 => ?_)
    · obtain rfl : k = b.length := by omega
      rw [List.drop_eq_nil_of_le (Nat.le_refl _), List.drop_eq_getElem_cons h5a] at hup hup2
      refine ⟨?_, h2⟩
      unfold cmpIc
      rw [hup, hup2]
      simp [lessB]
    · have h5b : k < b.length := by omega
      have eb : b.getD k 0 = b[k] := by simp [List.getD_eq_getElem?_getD, h5b]
      rw [List.drop_eq_getElem_cons h5a, List.drop_eq_getElem_cons h5b] at hup hup2
      simp only [lessB] at hup hup2
      ((with_reducible refine iIaN (by assumption) ?_ (fun pa_ hpa_ => ?_)); omega; (with_reducible refine iLd (by assumption) ?_))
      rw [eb]
      refine iRet (ok_cmp_Compare_i64c a[k] b[k] w2) fun w3 h3 => ?_
      refine iNe ?_
      refine iCndP (fun h7 => ?_) (fun h7 => ?_)
      · refine ⟨?_, h2.trans h3⟩
        have hne : ¬ a[k] = b[k] := fun e => h7 (by rw [e]; simp)
        unfold cmpIc
        rw [hup, hup2, if_neg hne, if_neg (show ¬ b[k] = a[k] from fun e => hne e.symm)]
        by_cases hlt : a[k] < b[k]
        · rw [if_pos hlt, if_pos (by simpa using hlt)]
        · rw [if_neg hlt, if_pos (by omega), if_neg (by simpa using hlt), if_pos (by rw [decide_eq_true_eq]; omega)]
      · have he : a[k] = b[k] := by
          rcases Int.lt_trichotomy a[k] b[k] with h | h | h
          · exact absurd (by rw [if_pos h]; decide) h7
          · exact h
          · exact absurd (by rw [if_neg (by omega), if_pos h]; decide) h7
        (refine iAdd (by omega) ?_)
        refine hKn (k + 1) _ ⟨by omega, by omega, h2.trans h3, fun i hi => ?_⟩ (by omega)
        by_cases hik : i = k
        · subst hik
          rw [List.getElem?_eq_getElem h5a, List.getElem?_eq_getElem h5b, he]
        · exact heq i (by omega)
  · obtain rfl : k = a.length := by omega
    rw [List.drop_eq_nil_of_le (Nat.le_refl _)] at hup hup2
    ((with_reducible refine iLenI (by assumption) ?_; refine iLenI (by assumption) ?_; refine iLt ?_))
    refine iCndP (fun h6 => ?_) (fun h6 => ?_)
    · have h7 : a.length < b.length := by omega
      refine ⟨?_, h2⟩
      unfold cmpIc
      rw [hup, hup2, List.drop_eq_getElem_cons h7]
      simp [lessB]
    · refine ⟨?_, h2⟩
      unfold cmpIc
      rw [hup, hup2, List.drop_eq_nil_of_le (by omega)]
      simp [lessB]
end Go.Proofs.YtmefbjdioaahdaaGreatDoor

/- Contracts: sorting slices of slices of int64 in place by slices.Compare (the parts of pdqsort). Conditions: none. -/
namespace Go.Vc
/-- An element: a slice, and what it holds. -/
abbrev VL := Value × List Int
instance : Inhabited VL := ⟨(.slice none 0 0, [])⟩
def encV (x : VL) : Value := if isCell x.1 = true then x.1 else .slice none 0 0
theorem encV_cell (x : VL) : isCell (encV x) = true := by
  unfold encV
  split
  · assumption
  · rfl
theorem encV_eq {x : VL} (h : isCell x.1 = true) : encV x = x.1 := if_pos h
abbrev evL (L : List VL) : List Value := L.map encV
theorem evs_len (L : List VL) : (evL L).length = L.length := List.length_map ..
def ltV (a b : VL) : Bool := lessB a.2 b.2
theorem ordrV : Ordr ltV := ⟨fun {a b} h => lessB_asymm a.2 b.2 h, fun {a b c} h k => lessB_trans a.2 b.2 c.2 h k⟩
/-- The rows of the elements can be read. -/
def RowsV (e : TypeId) (w : World) (L : List VL) : Prop := ∀ x ∈ L, Ow 0 e w (encV x) (ints x.2)
theorem RowsV.ext {e : TypeId} {w w' : World} {L : List VL} (h : RowsV e w L) (x : Ext w w') : RowsV e w' L := fun y hy => (h y hy).ext x
theorem RowsV.ch {e e' : TypeId} {w w' : World} {L : List VL} {c : Nat} {cs : List Value} (h : RowsV e w L) (hB : Blk e' w c cs) (hne : e ≠ e') (x : Ch (fun k => k = c) w w') : RowsV e w' L := fun y hy => (h y hy).ch x fun _ hk e => (h y hy).ne_blk hB hne (by rw [← e]; exact hk)
theorem RowsV.turn {lo : Nat} {e e' : TypeId} {v : Value} {w w' : World} {L L' : List VL} (h : RowsV e w L) (hs : Ow lo e' w v (evL L)) (hne : e ≠ e') (ht : Turn lo e' encV v w w' L') (hp : List.Perm L' L) : RowsV e w' L' := fun y hy =>
  (h y (hp.mem_iff.1 hy)).ch ht.ch fun _ hk hk' => (h y (hp.mem_iff.1 hy)).ne_ow hs hne hk hk'
end Go.Vc
namespace Go.Proofs.YtmefbjdioaahdaaGreatDoor
open Go.Vc
abbrev cmpV : Value := .func (.func f_slices_Compare_Si64_i64) #[] #[]
theorem cmp_call {w : World} {L : List VL} {i j : Nat} {K : Value → World → Prop} (hr : RowsV t_i64 w L) (hi : i < L.length) (hj : j < L.length) (h : ∀ w', Ext w w' → K (.bool (ltV (gt L i) (gt L j))) w') : callV Tryz.prog cmpV [encV (gt L i), encV (gt L j)] w fun r w2 => xLt .i64 r (.int .i64 0) fun b => K b w2 := by
  have h1 := (hr (gt L i) (by rw [gt_eq hi]; exact List.getElem_mem _)).sl
  have h2 := (hr (gt L j) (by rw [gt_eq hj]; exact List.getElem_mem _)).sl
  refine iRet (ok_slices_CompareXc h1 h2) fun w' x => ?_
  refine iLt ?_
  have e : decide (cmpIc (gt L i).2 (gt L j).2 < 0) = ltV (gt L i) (gt L j) := by
    rw [Bool.eq_iff_iff, decide_eq_true_eq, cmpIc_neg]; rfl
  rw [e]
  exact h w' x
theorem iCm {w : World} {L : List VL} {i j : Nat} {G : Value → World → Prop} (hr : RowsV t_i64 w L) (hi : i < L.length) (hj : j < L.length) (h : ∀ w', Ext w w' → G (.bool (ltV (gt L i) (gt L j))) w') : ∀ w1, Ext w w1 → callV Tryz.prog cmpV [encV (gt L i), encV (gt L j)] w1 fun r w2 => xLt .i64 r (.int .i64 0) fun b => ∀ w3, Ext w2 w3 → G b w3 :=
  fun _ x1 => cmp_call (hr.ext x1) hi hj fun _ x2 _ x3 => h _ ((x1.trans x2).trans x3)
theorem iCmN {w : World} {L : List VL} {i j : Nat} {G : Value → World → Prop} (hr : RowsV t_i64 w L) (hi : i < L.length) (hj : j < L.length) (h : ∀ w', Ext w w' → G (.bool (!ltV (gt L i) (gt L j))) w') : ∀ w1, Ext w w1 → callV Tryz.prog cmpV [encV (gt L i), encV (gt L j)] w1 fun r w2 => xLt .i64 r (.int .i64 0) fun b => xNot b fun c => ∀ w3, Ext w2 w3 → G c w3 :=
  fun _ x1 => cmp_call (hr.ext x1) hi hj fun _ x2 => iNot fun _ x3 => h _ ((x1.trans x2).trans x3)
theorem ok_slices_insertionSortV {lo : Nat} {w : World} {v : Value} {L : List VL} {a b : Nat} (hs : Ow lo t_Si64 w v (evL L)) (hrw : RowsV t_i64 w L) (hab : a ≤ b) (hb : b ≤ L.length) (hL : L.length ≤ 1152921504606846976) :
    Cal Tryz.prog f_slices_insertionSortCmpFunc_Si64 #[v, .int .i64 (a : Int), .int .i64 (b : Int), cmpV] w fun _ w' => ∃ L', Turn lo t_Si64 encV v w w' L' ∧ SwR a b L L' ∧ Srt ltV a b L' := by
  apply c_slices_insertionSortCmpFunc_Si64; unfold S_slices_insertionSortCmpFunc_Si64
  (refine iAdd (by omega) ?_)
  refine iLp (fun i : Nat => [.int .i64 (i : Int)]) (fun i w' => a + 1 ≤ i ∧ i ≤ b + 1 ∧ ∃ L', Turn lo t_Si64 encV v w w' L' ∧ SwR a b L L' ∧ Srt ltV a i L') (fun i => b + 1 - i) (a + 1) (by simp) ⟨Nat.le_refl _, by omega, L, Turn.refl hs, .refl, Srt.short (Nat.le_refl _)⟩ ?_
  rintro i w2 Kn ⟨hi, hib, L1, ht1, hw1, hs1⟩ hKn
  intro _
  simp only [gx]
  refine iLt ?_
  refine iCndP (fun h => ?_) (fun h => ?_)
  · have hl1 := hw1.len
    refine iLp (fun j : Nat => [.int .i64 (j : Int)]) (fun j w' => a ≤ j ∧ j ≤ i ∧ ∃ L', Turn lo t_Si64 encV v w w' L' ∧ SwR a b L L' ∧ Ins ltV a i j L') (fun j => j) i rfl ⟨by omega, Nat.le_refl _, L1, ht1, hw1, Ins.init hs1⟩ ?_
    rintro j w4 Kn2 ⟨haj, hji, L2, ht2, hw2, hin⟩ hKn2
    have hl2 := hw2.len
    intro _
    simp only [gx]
    refine iJnB (decide (a < j) && ltV (gt L2 j) (gt L2 (j - 1))) w4 (fun J hJ => ?_) (fun w6 h6 => ?_)
    · refine iLt ?_
      refine iCndP (fun h5 => ?_) (fun h5 => ?_)
      · rw [decide_eq_true (show a < j by omega), Bool.true_and] at hJ
        refine iRdO (j := j) ht2.ow rfl (by omega) ?_
        (refine iSub (by omega) ?_)
        refine iRdO (j := j - 1) ht2.ow (by omega) (by omega) ?_
        exact iCm (hrw.turn hs (by decide) ht2 hw2.perm) (by omega) (by omega) hJ
      · rw [decide_eq_false (show ¬ a < j by omega), Bool.false_and] at hJ
        exact fun _ x8 _ x9 => hJ _ (x8.trans x9)
    · intro _
      simp only [gx]
      have ht6 := ht2.ext h6
      cases hc : decide (a < j) && ltV (gt L2 j) (gt L2 (j - 1))
      · refine iCndF rfl ?_
        (refine iAdd (by omega) ?_)
        refine hKn (i + 1) _ ⟨by omega, by omega, L2, ht6, hw2, hin.done ordrV ?_ hji⟩ (by omega)
        rw [Bool.and_eq_false_iff, decide_eq_false_iff_not] at hc
        rcases hc with hc | hc
        · exact .inl (by omega)
        · rcases Nat.lt_or_ge a j with h' | h'
          · exact .inr ⟨h', hc⟩
          · exact .inl h'
      · rw [Bool.and_eq_true, decide_eq_true_eq] at hc
        refine iCndT rfl ?_
        (refine iSub (by omega) ?_; refine iSub (by omega) ?_)
        refine iRdO (j := j - 1) ht6.ow (by omega) (by omega) ?_
        refine iRdO (j := j) ht6.ow rfl (by omega) ?_
        refine iWr2 (i := j) (j := j - 1) encV_cell ht6.ow rfl (by omega) (by omega) (by omega) fun w13 h13 => ?_
        (refine iSub (by omega) ?_)
        rw [show (j : Int) - 1 = ((j - 1 : Nat) : Int) by omega]
        exact hKn2 (j - 1) _ ⟨by omega, by omega, sw L2 j (j - 1), ht6.trans h13, .step hw2 (by omega) (by omega) (by omega) (by omega) hb, hin.swap ordrV hc.1 hji (by omega) hc.2⟩ (by omega)
  · exact ⟨L1, ht1, hw1, hs1.mono (Nat.le_refl _) (by omega)⟩
theorem ok_slices_reverseRangeCmpFunc_Si64 {lo : Nat} {w : World} {v : Value} {L : List VL} {a b : Nat} (hs : Ow lo t_Si64 w v (evL L)) (hab : a ≤ b) (hb : b ≤ L.length) (hL : L.length ≤ 1152921504606846976) :
    Cal Tryz.prog f_slices_reverseRangeCmpFunc_Si64 #[v, .int .i64 (a : Int), .int .i64 (b : Int), cmpV] w fun _ w' => ∃ L', Turn lo t_Si64 encV v w w' L' ∧ SwR a b L L' := by
  apply c_slices_reverseRangeCmpFunc_Si64; unfold S_slices_reverseRangeCmpFunc_Si64
  (refine iSub (by omega) ?_)
  refine iLp (fun s : Nat × Int => [.int .i64 (s.1 : Int), .int .i64 s.2]) (fun s w' => a ≤ s.1 ∧ s.1 ≤ b ∧ -1 ≤ s.2 ∧ s.2 < b ∧ (b : Int) - s.2 ≤ s.1 - a + 1 ∧ ∃ L', Turn lo t_Si64 encV v w w' L' ∧ SwR a b L L') (fun s => b - s.1) (a, (b : Int) - 1) rfl ⟨Nat.le_refl _, hab, by show -1 ≤ (b : Int) - 1; omega, by show (b : Int) - 1 < b; omega, by show (b : Int) - ((b : Int) - 1) ≤ a - a + 1; omega, L, Turn.refl hs, .refl⟩ ?_
  rintro ⟨i, j⟩ w2 Kn ⟨hi, hib, hj, hjb, hij, L1, ht1, hw1⟩ hKn
  have hi : a ≤ i := hi
  have hib : i ≤ b := hib
  have hj : -1 ≤ j := hj
  have hjb : j < b := hjb
  have hij : (b : Int) - j ≤ i - a + 1 := hij
  have hl1 := hw1.len
  intro _
  simp only [gx]
  refine iLt ?_
  refine iCndP (fun h => ?_) (fun h => ?_)
  · refine iRdO (j := j.toNat) ht1.ow (by omega) (by omega) ?_
    refine iRdO (j := i) ht1.ow rfl (by omega) ?_
    refine iWr2 (i := i) (j := j.toNat) encV_cell ht1.ow rfl (by omega) (by omega) (by omega) fun w7 h7 => ?_
    (refine iAdd (by omega) ?_; refine iSub (by omega) ?_)
    exact hKn (i + 1, j - 1) _ ⟨by show a ≤ i + 1; omega, by show i + 1 ≤ b; omega, by show -1 ≤ j - 1; omega, by show j - 1 < b; omega, by show (b : Int) - (j - 1) ≤ ((i + 1 : Nat) : Int) - a + 1; omega, sw L1 i j.toNat, ht1.trans h7, .step hw1 hi (by omega) (by omega) (by omega) hb⟩ (by show b - (i + 1) < b - i; omega)
  · exact ⟨L1, ht1, hw1⟩
theorem ok_slices_siftDownCmpFunc_Si64 {lo0 : Nat} {w : World} {v : Value} {L : List VL} {lo hi first : Nat} (hs : Ow lo0 t_Si64 w v (evL L)) (hrw : RowsV t_i64 w L) (hlo : lo ≤ hi) (hb : first + hi ≤ L.length) (hL : L.length ≤ 1152921504606846976) (hh : Heap ltV first (lo + 1) hi L) :
    Cal Tryz.prog f_slices_siftDownCmpFunc_Si64 #[v, .int .i64 (lo : Int), .int .i64 (hi : Int), .int .i64 (first : Int), cmpV] w fun _ w' => ∃ L', Turn lo0 t_Si64 encV v w w' L' ∧ SwR (first + lo) (first + hi) L L' ∧ Heap ltV first lo hi L' := by
  apply c_slices_siftDownCmpFunc_Si64; unfold S_slices_siftDownCmpFunc_Si64
  refine iLp (fun r : Nat => [.int .i64 (r : Int)]) (fun r w' => lo ≤ r ∧ r ≤ hi ∧ ∃ L', Turn lo0 t_Si64 encV v w w' L' ∧ SwR (first + lo) (first + hi) L L' ∧ Sift ltV first lo hi r L') (fun r => hi - r) lo rfl ⟨Nat.le_refl _, hlo, L, Turn.refl hs, .refl, Sift.init hh⟩ ?_
  rintro r w2 Kn ⟨hr, hrh, L1, ht1, hw1, hsf⟩ hKn
  have hl1 := hw1.len
  intro _
  simp only [gx]
  refine iMul (by omega) ?_
  (refine iAdd (by omega) ?_; (with_reducible refine iLe ?_))
  refine iCndP (fun h => ?_) (fun h => ?_)
  · exact ⟨L1, ht1, hw1, hsf.done fun c hc hch => by omega⟩
  · have hlr : r < hi := by omega
    refine iJnB (decide (2 * r + 2 < hi) && ltV (gt L1 (first + (2 * r + 1))) (gt L1 (first + (2 * r + 2)))) w2 (fun J hJ => ?_) (fun w4 h4 => ?_)
    · (refine iAdd (by omega) ?_; (with_reducible refine iLt ?_))
      refine iCndP (fun h5 => ?_) (fun h5 => ?_)
      · rw [decide_eq_true (show 2 * r + 2 < hi by omega), Bool.true_and] at hJ
        (refine iAdd (by omega) ?_)
        refine iRdO (j := first + (2 * r + 1)) ht1.ow (by omega) (by omega) ?_
        (refine iAdd (by omega) ?_; refine iAdd (by omega) ?_)
        refine iRdO (j := first + (2 * r + 2)) ht1.ow (by omega) (by omega) ?_
        exact iCm (hrw.turn hs (by decide) ht1 hw1.perm) (by omega) (by omega) hJ
      · rw [decide_eq_false (show ¬ 2 * r + 2 < hi by omega), Bool.false_and] at hJ
        exact fun _ x8 _ x9 => hJ _ (x8.trans x9)
    · intro _
      simp only [gx]
      have ht4 := ht1.ext h4
      refine iJnX (fun xs w8 => Ext w4 w8 ∧ ∃ c : Nat, xs = [.int .i64 (c : Int)] ∧ (c = 2 * r + 1 ∨ c = 2 * r + 2) ∧ c < hi ∧ ∀ d, (d = 2 * r + 1 ∨ d = 2 * r + 2) → d < hi → ltV (gt L1 (first + c)) (gt L1 (first + d)) = false) (fun J hJ => ?_) ?_
      · cases hc : decide (2 * r + 2 < hi) && ltV (gt L1 (first + (2 * r + 1))) (gt L1 (first + (2 * r + 2)))
        · refine iCndF rfl ?_
          refine hJ _ _ ⟨Ext.refl _, 2 * r + 1, rfl, .inl rfl, by omega, fun d hd hdh => ?_⟩
          rcases hd with hd | hd
          · subst hd; exact ordrV.rfl _
          · subst hd; rw [decide_eq_true hdh, Bool.true_and] at hc; exact hc
        · rw [Bool.and_eq_true, decide_eq_true_eq] at hc
          refine iCndT rfl ?_
          (refine iAdd (by omega) ?_)
          refine hJ _ _ ⟨Ext.refl _, 2 * r + 2, rfl, .inr rfl, hc.1, fun d hd hdh => ?_⟩
          rcases hd with hd | hd
          · subst hd; exact ordrV.asym hc.2
          · subst hd; exact ordrV.rfl _
      · rintro xs w8 ⟨h8, c, rfl, hc, hch, hmax⟩
        intro _
        simp only [gx]
        have ht8 := ht4.ext h8
        (refine iAdd (by omega) ?_)
        refine iRdO (j := first + r) ht8.ow (by omega) (by omega) ?_
        (refine iAdd (by omega) ?_)
        refine iRdO (j := first + c) ht8.ow (by omega) (by omega) ?_
        refine iCmN (hrw.turn hs (by decide) ht8 hw1.perm) (by omega) (by omega) fun w9 h9 => ?_
        have ht9 := ht8.ext h9
        refine iCnd (fun h5 => ?_) (fun h5 => ?_)
        · refine ⟨L1, ht9, hw1, hsf.done fun d hd hdh => ?_⟩
          have h5 : ltV (gt L1 (first + r)) (gt L1 (first + c)) = false := by simpa using h5
          exact ordrV.tr (hmax d hd hdh) h5
        · have h5 : ltV (gt L1 (first + r)) (gt L1 (first + c)) = true := by simpa using h5
          (refine iAdd (by omega) ?_; refine iAdd (by omega) ?_; refine iAdd (by omega) ?_)
          refine iRdO (j := first + c) ht9.ow (by omega) (by omega) ?_
          (refine iAdd (by omega) ?_)
          refine iRdO (j := first + r) ht9.ow (by omega) (by omega) ?_
          refine iWr2 (i := first + r) (j := first + c) encV_cell ht9.ow (by omega) (by omega) (by omega) (by omega) fun w14 h14 => ?_
          exact hKn c _ ⟨by omega, by omega, sw L1 (first + r) (first + c), ht9.trans h14, .step hw1 (by omega) (by omega) (by omega) (by omega) (by omega), hsf.swap ordrV hr hc hch (by omega) h5 hmax⟩ (by omega)
theorem ok_slices_heapSortCmpFunc_Si64 {lo : Nat} {w : World} {v : Value} {L : List VL} {a b : Nat} (hs : Ow lo t_Si64 w v (evL L)) (hrw : RowsV t_i64 w L) (hab : a < b) (hb : b ≤ L.length) (hL : L.length ≤ 1152921504606846976) :
    Cal Tryz.prog f_slices_heapSortCmpFunc_Si64 #[v, .int .i64 (a : Int), .int .i64 (b : Int), cmpV] w fun _ w' => ∃ L', Turn lo t_Si64 encV v w w' L' ∧ SwR a b L L' ∧ Srt ltV a b L' := by
  apply c_slices_heapSortCmpFunc_Si64; unfold S_slices_heapSortCmpFunc_Si64
  obtain ⟨n, rfl⟩ : ∃ n, b = a + n := ⟨b - a, by omega⟩
  (refine iSub (by omega) ?_; refine iSub (by omega) ?_)
  refine iQuo (by omega) ?_
  refine iLp (fun s : Nat => [.int .i64 ((s : Int) - 1)]) (fun s w' => s ≤ n ∧ ∃ L', Turn lo t_Si64 encV v w w' L' ∧ SwR a (a + n) L L' ∧ Heap ltV a s n L') (fun s => s) ((n - 1) / 2 + 1) (by congr 2; omega) ⟨by omega, L, Turn.refl hs, .refl, fun p c h1 h2 h3 => by omega⟩ ?_
  rintro s w2 Kn ⟨hsn, L1, ht1, hw1, hh⟩ hKn
  have hl1 := hw1.len
  intro _
  simp only [gx]
  refine iLe ?_
  refine iCndP (fun h => ?_) (fun h => ?_)
  · rw [show (s : Int) - 1 = ((s - 1 : Nat) : Int) by omega, show ((a + n : Nat) : Int) - a = (n : Int) by omega]
    refine iCall ?_
    refine (ok_slices_siftDownCmpFunc_Si64 (lo := s - 1) (hi := n) (first := a) ht1.ow (hrw.turn hs (by decide) ht1 hw1.perm) (by omega) (by omega) (by omega) (by rw [show s - 1 + 1 = s by omega]; exact hh)).mono fun _ w3 h3 => ?_
    obtain ⟨L2, ht2, hw2, hh2⟩ := h3
    (refine iSub (by omega) ?_)
    exact hKn (s - 1) _ ⟨by omega, L2, ht1.trans ht2, hw1.trans (hw2.mono (by omega) (Nat.le_refl _) (by omega)), hh2⟩ (by omega)
  · (refine iSub (by omega) ?_)
    have hs0 : s = 0 := by omega
    subst hs0
    refine iLp (fun s : Nat => [.int .i64 ((s : Int) - 1)]) (fun s w' => s ≤ n ∧ ∃ L', Turn lo t_Si64 encV v w w' L' ∧ SwR a (a + n) L L' ∧ Heap ltV a 0 s L' ∧ (∀ p q, a ≤ p → p < q → a + s ≤ q → q < a + n → ltV (gt L' q) (gt L' p) = false)) (fun s => s) n (by congr 2; omega) ⟨Nat.le_refl _, L1, ht1, hw1, hh, fun p q h1 h2 h3 h4 => by omega⟩ ?_
    rintro s w5 Kn5 ⟨hsn, L2, ht2, hw2, hh2, hpr⟩ hKn5
    have hl2 := hw2.len
    intro _
    simp only [gx]
    refine iLe ?_
    refine iCndP (fun h5 => ?_) (fun h5 => ?_)
    · (refine iAdd (by omega) ?_; refine iAdd (by omega) ?_)
      refine iRdO (j := a + (s - 1)) ht2.ow (by omega) (by omega) ?_
      refine iRdO (j := a) ht2.ow rfl (by omega) ?_
      refine iWr2 (i := a) (j := a + (s - 1)) encV_cell ht2.ow rfl (by omega) (by omega) (by omega) fun w10 h10 => ?_
      rw [show (s : Int) - 1 = ((s - 1 : Nat) : Int) by omega]
      have e : ∀ k, gt (sw L2 a (a + (s - 1))) k = if k = a + (s - 1) then gt L2 a else if k = a then gt L2 (a + (s - 1)) else gt L2 k := gt_sw (by omega) (by omega)
      have hw3 : SwR a (a + n) L2 (sw L2 a (a + (s - 1))) := .one (by omega) (by omega) (by omega) (by omega) (by omega)
      have htop := Heap.top ordrV hh2
      refine iCall ?_
      refine (ok_slices_siftDownCmpFunc_Si64 (L := sw L2 a (a + (s - 1))) (lo := 0) (hi := s - 1) (first := a) h10.ow (hrw.turn hs (by decide) (ht2.trans h10) (hw2.trans hw3).perm) (by omega) (by rw [hw3.len]; omega) (by rw [hw3.len]; omega) (fun p c h1 h2 h3 => by
        rw [e, e, if_neg (by omega), if_neg (by omega), if_neg (by omega), if_neg (by omega)]
        exact hh2 p c (by omega) h2 (by omega))).mono fun _ w11 h11 => ?_
      obtain ⟨L4, ht4, hw4, hh4⟩ := h11
      (refine iSub (by omega) ?_)
      refine hKn5 (s - 1) _ ⟨by omega, L4, (ht2.trans h10).trans ht4, (hw2.trans hw3).trans (hw4.mono (by omega) (by omega) (by rw [hw3.len]; omega)), hh4, fun p q h1 h2 h3 h4 => ?_⟩ (by omega)
      rw [hw4.out (k := q) (by omega)]
      have main : ∀ p, a ≤ p → p < q → ltV (gt (sw L2 a (a + (s - 1))) q) (gt (sw L2 a (a + (s - 1))) p) = false := fun p h1 h2 => by
        rw [e, e]
        by_cases hq : q = a + (s - 1)
        · rw [if_pos hq, if_neg (by omega)]
          split
          · exact htop _ (by omega)
          · obtain ⟨k, rfl⟩ : ∃ k, p = a + k := ⟨p - a, by omega⟩
            exact htop _ (by omega)
        · rw [if_neg hq, if_neg (by omega)]
          split
          · exact hpr a q (by omega) (by omega) (by omega) h4
          · split
            · exact hpr _ q (by omega) (by omega) (by omega) h4
            · exact hpr p q h1 h2 (by omega) h4
      rcases Nat.lt_or_ge p (a + (s - 1)) with hp | hp
      · exact hw4.all (p := fun x => ltV (gt (sw L2 a (a + (s - 1))) q) x = false) (fun k hk hk' => main k (by omega) (by omega)) p (by omega) hp
      · rw [hw4.out (k := p) (by omega)]; exact main p h1 h2
    · exact ⟨L2, ht2, hw2, fun p q h1 h2 h3 => hpr p q h1 h2 (by omega) h3⟩
end Go.Proofs.YtmefbjdioaahdaaGreatDoor

/- Contracts: lengths of numbers in bits. Conditions: none. -/
namespace Go.Vc
def len8 : Str := [0, 1, 2, 2, 3, 3, 3, 3, 4, 4, 4, 4, 4, 4, 4, 4, 5, 5, 5, 5, 5, 5, 5, 5, 5, 5, 5, 5, 5, 5, 5, 5, 6, 6, 6, 6, 6, 6, 6, 6, 6, 6, 6, 6, 6, 6, 6, 6, 6, 6, 6, 6, 6, 6, 6, 6, 6, 6, 6, 6, 6, 6, 6, 6,
  7, 7, 7, 7, 7, 7, 7, 7, 7, 7, 7, 7, 7, 7, 7, 7, 7, 7, 7, 7, 7, 7, 7, 7, 7, 7, 7, 7, 7, 7, 7, 7, 7, 7, 7, 7, 7, 7, 7, 7, 7, 7, 7, 7, 7, 7, 7, 7, 7, 7, 7, 7, 7, 7, 7, 7, 7, 7, 7, 7, 7, 7, 7, 7,
  8, 8, 8, 8, 8, 8, 8, 8, 8, 8, 8, 8, 8, 8, 8, 8, 8, 8, 8, 8, 8, 8, 8, 8, 8, 8, 8, 8, 8, 8, 8, 8, 8, 8, 8, 8, 8, 8, 8, 8, 8, 8, 8, 8, 8, 8, 8, 8, 8, 8, 8, 8, 8, 8, 8, 8, 8, 8, 8, 8, 8, 8, 8, 8,
  8, 8, 8, 8, 8, 8, 8, 8, 8, 8, 8, 8, 8, 8, 8, 8, 8, 8, 8, 8, 8, 8, 8, 8, 8, 8, 8, 8, 8, 8, 8, 8, 8, 8, 8, 8, 8, 8, 8, 8, 8, 8, 8, 8, 8, 8, 8, 8, 8, 8, 8, 8, 8, 8, 8, 8, 8, 8, 8, 8, 8, 8, 8, 8]
theorem len8_ok : ∀ x : Fin 256, x.val < 2 ^ (len8.getD x.val 0).toNat ∧ (1 ≤ x.val → 2 ^ (len8.getD x.val 0).toNat ≤ 2 * x.val) ∧ (len8.getD x.val 0).toNat ≤ 8 := by decide +kernel
theorem iShrV {a j : Nat} {K : Value → Prop} (hj : j ≤ 64) (h : K (.int .u64 ((a / 2 ^ j : Nat) : Int))) : xSh iShr .u64 (.int .u64 (a : Int)) (.int .u64 (j : Int)) K := by
  refine ⟨_, _, _, rfl, rfl, by omega, ?_⟩
  rw [show iShr .u64 (a : Int) (j : Int) = ((a / 2 ^ j : Nat) : Int) by
    unfold iShr
    rw [Int.toNat_natCast, show IntKind.u64.bits = 64 from rfl, Nat.min_eq_left hj, Int.fdiv_eq_ediv_of_nonneg _ (Int.le_of_lt (Int.pow_pos (by omega)))]
    push_cast
    rfl]
  exact h
end Go.Vc
namespace Go.Proofs.YtmefbjdioaahdaaGreatDoor
open Go.Vc
set_option maxRecDepth 20000 in
theorem ok_math_bits_Len64 {n : Nat} (hn : n < 2 ^ 63) (w : World) : Cal Tryz.prog f_math_bits_Len64 #[.int .u64 (n : Int)] w fun r w' => Ext w w' ∧ ∃ k : Nat, r = .int .i64 (k : Int) ∧ n < 2 ^ k ∧ (1 ≤ n → 2 ^ k ≤ 2 * n) ∧ k ≤ 64 := by
  apply c_math_bits_Len64; unfold S_math_bits_Len64
  -- at each join: what is left of n, and by how many bits it was shifted
  have stage : ∀ {x m s : Nat}, x = n / 2 ^ m → x / 2 ^ s = n / 2 ^ (m + s) := fun {x m s} h => by rw [h, Nat.div_div_eq_div_mul, ← Nat.pow_add]
  ((with_reducible refine iLe ?_))
  refine iJnX (fun xs w' => Ext w w' ∧ ∃ x m : Nat, xs = [.int .u64 (x : Int), .int .i64 (m : Int)] ∧ x = n / 2 ^ m ∧ x < 2 ^ 32 ∧ (1 ≤ m → 1 ≤ x) ∧ m ≤ 32) (fun J hJ => ?_) ?_
  · refine iCndP (fun h => ?_) (fun h => ?_)
    · refine iShrV (j := 32) (by omega) ?_
      exact hJ _ _ ⟨Ext.refl _, _, 32, rfl, rfl, by omega, by omega, by omega⟩
    · exact hJ _ _ ⟨Ext.refl _, n, 0, rfl, by simp, by omega, by omega, by omega⟩
  rintro xs w2 ⟨h2, x, m, rfl, hx, hx32, hm1, hm⟩
  intro _
  simp only [gx]
  ((with_reducible refine iLe ?_))
  refine iJnX (fun xs w' => Ext w w' ∧ ∃ x m : Nat, xs = [.int .u64 (x : Int), .int .i64 (m : Int)] ∧ x = n / 2 ^ m ∧ x < 2 ^ 16 ∧ (1 ≤ m → 1 ≤ x) ∧ m ≤ 48) (fun J hJ => ?_) ?_
  · refine iCndP (fun h => ?_) (fun h => ?_)
    · refine iShrV (j := 16) (by omega) ?_
      (refine iAdd (by omega) ?_)
      exact hJ _ _ ⟨h2, _, m + 16, rfl, stage hx, by omega, by omega, by omega⟩
    · exact hJ _ _ ⟨h2, x, m, rfl, hx, by omega, hm1, by omega⟩
  rintro xs w4 ⟨h4, x, m, rfl, hx, hx16, hm1, hm⟩
  intro _
  simp only [gx]
  ((with_reducible refine iLe ?_))
  refine iJnX (fun xs w' => Ext w w' ∧ ∃ x m : Nat, xs = [.int .u64 (x : Int), .int .i64 (m : Int)] ∧ x = n / 2 ^ m ∧ x < 2 ^ 8 ∧ (1 ≤ m → 1 ≤ x) ∧ m ≤ 56) (fun J hJ => ?_) ?_
  · refine iCndP (fun h => ?_) (fun h => ?_)
    · refine iShrV (j := 8) (by omega) ?_
      (refine iAdd (by omega) ?_)
      exact hJ _ _ ⟨h4, _, m + 8, rfl, stage hx, by omega, by omega, by omega⟩
    · exact hJ _ _ ⟨h4, x, m, rfl, hx, by omega, hm1, by omega⟩
  rintro xs w6 ⟨h6, x, m, rfl, hx, hx8, hm1, hm⟩
  intro _
  simp only [gx]
  obtain ⟨t1, t2, t3⟩ : x < 2 ^ (len8.getD x 0).toNat ∧ (1 ≤ x → 2 ^ (len8.getD x 0).toNat ≤ 2 * x) ∧ (len8.getD x 0).toNat ≤ 8 := len8_ok ⟨x, hx8⟩
  refine ⟨_, _, rfl, ?_⟩
  rw [IntWalk.u8_in _ (by omega)]
  refine iIs (l := len8) (j := x) (by show x < 256; omega) ?_
  refine iConv64 (by omega) ?_
  refine iAdd (by omega) ?_
  refine ⟨h6, m + (len8.getD x 0).toNat, by first | rfl | (push_cast; rfl), ?_, fun h1 => ?_, by omega⟩
  · have := Nat.lt_div_mul_add (a := n) (b := 2 ^ m) (Nat.two_pow_pos m)
    rw [← hx] at this
    have h3 : (x + 1) * 2 ^ m ≤ 2 ^ (len8.getD x 0).toNat * 2 ^ m := Nat.mul_le_mul_right _ t1
    rw [Nat.pow_add, Nat.mul_comm (2 ^ m)]
    rw [Nat.add_mul] at h3
    omega
  · rcases Nat.eq_zero_or_pos x with h0 | h0
    · have hm0 : m = 0 := by omega
      subst hm0
      simp at hx
      omega
    · have h3 := Nat.mul_le_mul_left (2 ^ m) (t2 h0)
      have h4 : 2 ^ m * x ≤ n := by rw [hx]; exact Nat.mul_div_le n (2 ^ m)
      rw [Nat.pow_add]
      rw [Nat.mul_left_comm] at h3
      omega
theorem ok_math_bits_Len {n : Nat} (hn : n < 2 ^ 63) (w : World) : Cal Tryz.prog f_math_bits_Len #[.int .u64 (n : Int)] w fun r w' => Ext w w' ∧ ∃ k : Nat, r = .int .i64 (k : Int) ∧ n < 2 ^ k ∧ (1 ≤ n → 2 ^ k ≤ 2 * n) ∧ k ≤ 64 := by
  apply c_math_bits_Len; unfold S_math_bits_Len
  exact iCall (ok_math_bits_Len64 hn w)
end Go.Proofs.YtmefbjdioaahdaaGreatDoor

/- Contracts: the helpers of pdqsort that draw places. Conditions: none. -/
namespace Go.Vc
theorem iAndV {a : Int} {m : Nat} {K : Value → Prop} (hm : m < 2 ^ 64) (h : ∀ x : Nat, x ≤ m → K (.int .u64 (x : Int))) : xBits iAnd .u64 (.int .u64 a) (.int .u64 (m : Int)) K := by
  refine ⟨_, _, rfl, rfl, ?_⟩
  have e : iAnd .u64 a (m : Int) = (((BitVec.ofInt 64 a &&& BitVec.ofInt 64 (m : Int)).toNat : Nat) : Int) := by
    rw [show iAnd .u64 a (m : Int) = IntKind.u64.wrap ((BitVec.ofInt 64 a &&& BitVec.ofInt 64 (m : Int)).toNat : Nat) from rfl]
    exact IntWalk.u64_in _ (by have := (BitVec.ofInt 64 a &&& BitVec.ofInt 64 (m : Int)).isLt; omega)
  rw [e]
  refine h _ ?_
  rw [BitVec.toNat_and, ofInt_nat, BitVec.toNat_ofNat, Nat.mod_eq_of_lt (a := m) (by omega)]
  exact Nat.and_le_right
theorem iStCV {e : TypeId} {w : World} {b : Nat} {old v : Value} {K : World → Prop} (hb : Blk e w b [old]) (hv : isCell v = true) (h : ∀ w', Blk e w' b [v] → Ch (fun c => c = b) w w' → K w') : xSt w (.pointer (some ⟨b, 0, none⟩)) v K :=
  iStB hb (by simp) hv fun h2 => h _ h2 ((Upd.setCell w b 0 v).ch rfl)
end Go.Vc
namespace Go.Proofs.YtmefbjdioaahdaaGreatDoor
open Go.Vc
theorem ok_slices_nextPowerOfTwoV {n : Nat} (h1 : 1 ≤ n) (hn : n ≤ 1152921504606846976) (w : World) : Cal Tryz.prog f_slices_nextPowerOfTwo #[.int .i64 (n : Int)] w fun r w' => Ext w w' ∧ ∃ m : Nat, r = .int .u64 (m : Int) ∧ 1 ≤ m ∧ m ≤ 2 * n := by
  apply c_slices_nextPowerOfTwo; unfold S_slices_nextPowerOfTwo
  refine iConvU (by omega) ?_
  refine iCall ?_
  refine (ok_math_bits_Len (by omega) w).mono fun r w1 h => ?_
  obtain ⟨h1', k, rfl, hk1, hk2, hk3⟩ := h
  have hk := hk2 h1
  refine ⟨_, _, _, rfl, rfl, by omega, ?_⟩
  have e : iShl .u64 1 (k : Int) = ((2 ^ k : Nat) : Int) := by
    rw [show iShl .u64 1 (k : Int) = IntKind.u64.wrap (1 * 2 ^ min (k : Int).toNat 64) from rfl, Int.toNat_natCast, Nat.min_eq_left hk3, Int.one_mul, show ((2 : Int) ^ k) = ((2 ^ k : Nat) : Int) by push_cast; rfl]
    exact IntWalk.u64_in _ (by omega)
  rw [e]
  exact ⟨h1', 2 ^ k, rfl, Nat.two_pow_pos k, hk⟩
theorem ok_slices_xorshift_NextV {e : TypeId} {w : World} {b : Nat} {x : Int} (hb : Blk e w b [.int .u64 x]) : Cal Tryz.prog f_slices_xorshift_Next #[.pointer (some ⟨b, 0, none⟩)] w fun r w' => ∃ y : Int, r = .int .u64 y ∧ Blk e w' b [.int .u64 y] ∧ Ch (fun c => c = b) w w' := by
  apply c_slices_xorshift_Next; unfold S_slices_xorshift_Next
  ((with_reducible refine iNil ?_); refine iLdB (by assumption) (by first | rfl | simp) ?_; (with_reducible refine iNil ?_); refine iLdB (by assumption) (by first | rfl | simp) ?_)
  refine ⟨_, _, _, rfl, rfl, by omega, ?_⟩
  refine ⟨_, _, rfl, rfl, ?_⟩
  ((with_reducible refine iNil ?_))
  intro w1 h1
  refine iStCV (hb.ext h1) rfl fun w2 hb2 h2 => ?_
  intro w3 h3
  have hb3 := hb2.ext h3
  have c3 := ch_ext ((h1.ch.trans h2 fun _ e => .inl e)) h3
  clear hb2 h2
  ((with_reducible refine iNil ?_); refine iLdB (by assumption) (by first | rfl | simp) ?_; (with_reducible refine iNil ?_); refine iLdB (by assumption) (by first | rfl | simp) ?_)
  refine ⟨_, _, _, rfl, rfl, by omega, ?_⟩
  refine ⟨_, _, rfl, rfl, ?_⟩
  ((with_reducible refine iNil ?_))
  intro w4 h4
  refine iStCV (hb3.ext h4) rfl fun w5 hb5 h5 => ?_
  intro w6 h6
  have hb6 := hb5.ext h6
  have c6 := ch_ext (ch_self (ch_ext c3 h4) h5) h6
  clear hb5 hb3 hb c3
  ((with_reducible refine iNil ?_); refine iLdB (by assumption) (by first | rfl | simp) ?_; (with_reducible refine iNil ?_); refine iLdB (by assumption) (by first | rfl | simp) ?_)
  refine ⟨_, _, _, rfl, rfl, by omega, ?_⟩
  refine ⟨_, _, rfl, rfl, ?_⟩
  ((with_reducible refine iNil ?_))
  intro w7 h7
  refine iStCV (hb6.ext h7) rfl fun w8 hb8 h8 => ?_
  intro w9 h9
  have hb9 := hb8.ext h9
  have c9 := ch_ext (ch_self (ch_ext c6 h7) h8) h9
  clear hb8 hb6 c6
  ((with_reducible refine iNil ?_); refine iLdB (by assumption) (by first | rfl | simp) ?_)
  exact ⟨_, rfl, hb9, c9⟩
theorem ok_slices_breakPatternsCmpFunc_Si64 {lo : Nat} {w : World} {v : Value} {L : List VL} {a b : Nat} (hs : Ow lo t_Si64 w v (evL L)) (hab : a ≤ b) (hb : b ≤ L.length) (hL : L.length ≤ 1152921504606846976) :
    Cal Tryz.prog f_slices_breakPatternsCmpFunc_Si64 #[v, .int .i64 (a : Int), .int .i64 (b : Int), cmpV] w fun _ w' => ∃ L', Turn lo t_Si64 encV v w w' L' ∧ SwR a b L L' := by
  apply c_slices_breakPatternsCmpFunc_Si64; unfold S_slices_breakPatternsCmpFunc_Si64
  obtain ⟨n, rfl⟩ : ∃ n, b = a + n := ⟨b - a, by omega⟩
  refine iSub (by omega) ?_
  rw [show ((a + n : Nat) : Int) - a = (n : Int) by omega]
  refine iLe ?_
  refine iCndP (fun h => ?_) (fun h => ?_)
  · refine iConvU (by omega) ?_
    refine iNew fun c w1 hc1 h1 hb1 => ?_
    refine iStB hb1 (by simp [Value.cells]) rfl fun hb2 => ?_
    have x2 : Ext w (w1.setCell ⟨c, 0, none⟩ (.int .u64 (n : Int))) := ext_set h1 (by show w.heap.size ≤ c; omega) _
    refine iCall ?_
    refine (ok_slices_nextPowerOfTwoV (by omega) (by omega) _).mono fun r w3 h3 => ?_
    obtain ⟨h3, m, rfl, hm1, hm2⟩ := h3
    have hb3 := hb2.ext h3
    have hs3 := (hs.ext x2).ext h3
    have hne : v.ownBlock ≠ some c := hs.lt (by omega)
    refine iQuo (by omega) ?_
    refine iMul (by omega) ?_
    refine iAdd (by omega) ?_
    refine iSub (by omega) ?_
    refine iLp (fun i : Nat => [.int .i64 (i : Int)]) (fun i w' => a + n / 4 * 2 - 1 ≤ i ∧ (∃ x, Blk 164 w' c [.int .u64 x]) ∧ ∃ L', Turn lo t_Si64 encV v w w' L' ∧ SwR a (a + n) L L') (fun i => a + n - i) (a + n / 4 * 2 - 1) (by congr 2; omega)
      ⟨Nat.le_refl _, ⟨_, hb3⟩, L, ⟨hs3, ((x2.trans h3).ch)⟩, .refl⟩ ?_
    rintro i w5 Kn ⟨hi, ⟨x, hb5⟩, L1, ht1, hw1⟩ hKn
    have hl1 := hw1.len
    intro _
    simp only [gx]
    refine iQuo (by omega) ?_
    refine iMul (by omega) ?_
    refine iAdd (by omega) ?_
    refine iAdd (by omega) ?_
    refine iLe ?_
    refine iCndP (fun h5 => ?_) (fun h5 => ?_)
    · refine iCall ?_
      refine (ok_slices_xorshift_NextV hb5).mono fun r w6 h6 => ?_
      obtain ⟨y, rfl, hb6, hc6⟩ := h6
      have hs6 := ht1.ow.ch hc6 fun c' hc' e => hne (e ▸ hc')
      refine ⟨_, _, rfl, rfl, ?_⟩
      rw [show IntKind.u64.wrap ((m : Int) - 1) = ((m - 1 : Nat) : Int) by rw [IntWalk.u64_in _ (by omega)]; omega]
      refine iAndV (by omega) fun x hx => ?_
      refine iConv64 (by omega) ?_
      refine iLe ?_
      refine iJnX (fun xs w8 => Ext w6 w8 ∧ ∃ z : Nat, xs = [.int .i64 (z : Int)] ∧ z < n) (fun J hJ => ?_) ?_
      · refine iCndP (fun h7 => ?_) (fun h7 => ?_)
        · refine iSub (by omega) ?_
          rw [show (x : Int) - n = ((x - n : Nat) : Int) by omega]
          exact hJ _ _ ⟨Ext.refl _, x - n, rfl, by omega⟩
        · exact hJ _ _ ⟨Ext.refl _, x, rfl, by omega⟩
      rintro xs w8 ⟨h8, z, rfl, hz⟩
      intro _
      simp only [gx]
      have hs8 := hs6.ext h8
      have hb8 := hb6.ext h8
      have hc8 := ch_ext hc6 h8
      refine iAdd (by omega) ?_
      refine iAdd (by omega) ?_
      refine iRdO (j := a + z) hs8 (by omega) (by omega) ?_
      refine iRdO (j := i) hs8 rfl (by omega) ?_
      refine iWr2 (i := i) (j := a + z) encV_cell hs8 rfl (by omega) (by omega) (by omega) fun w13 h13 => ?_
      refine iAdd (by omega) ?_
      refine hKn (i + 1) _ ⟨by omega, ⟨_, hb8.ch h13.ch fun e => hne e⟩, sw L1 i (a + z), ⟨h13.ow, ?_⟩, .step hw1 (by omega) (by omega) (by omega) (by omega) hb⟩ (by omega)
      refine (ht1.ch.trans hc8 fun c' e => .inr ?_).trans h13.ch fun _ e => .inl e
      omega
    · exact ⟨L1, ht1, hw1⟩
  · exact ⟨L, Turn.refl hs, .refl⟩
end Go.Proofs.YtmefbjdioaahdaaGreatDoor

/- Contracts: pivots, partitions and the trial of insertion of pdqsort. Conditions: none. -/
namespace Go.Proofs.YtmefbjdioaahdaaGreatDoor
open Go.Vc
theorem ok_slices_order2CmpFunc_Si64 {lo : Nat} {e : TypeId} {w : World} {v : Value} {L : List VL} {i j c n : Nat} (hs : Ow lo t_Si64 w v (evL L)) (hrw : RowsV t_i64 w L) (hi : i < L.length) (hj : j < L.length) (_hte : t_i64 ≠ e) (hb : Blk e w c [.int .i64 (n : Int)]) (hn : n ≤ 1000) :
    Cal Tryz.prog f_slices_order2CmpFunc_Si64 #[v, .int .i64 (i : Int), .int .i64 (j : Int), .pointer (some ⟨c, 0, none⟩), cmpV] w fun r w' => ∃ i' j' m : Nat, r = .tuple #[.int .i64 (i' : Int), .int .i64 (j' : Int)] ∧ ((i' = i ∧ j' = j) ∨ (i' = j ∧ j' = i)) ∧ m ≤ n + 1 ∧ Blk e w' c [.int .i64 (m : Int)] ∧ Ch (fun d => d = c) w w' := by
  apply c_slices_order2CmpFunc_Si64; unfold S_slices_order2CmpFunc_Si64
  refine iRdO (j := j) hs rfl hj ?_
  refine iRdO (j := i) hs rfl hi ?_
  refine iCm hrw (by omega) (by omega) fun w1 h1 => ?_
  have hb1 := hb.ext h1
  refine iCnd (fun h => ?_) (fun h => ?_)
  · ((with_reducible refine iNil ?_); refine iLdB (by assumption) (by first | rfl | simp) ?_; refine iAdd (by omega) ?_; (with_reducible refine iNil ?_))
    refine iStCV hb1 rfl fun w2 hb2 hc2 => ?_
    exact ⟨j, i, n + 1, rfl, .inr ⟨rfl, rfl⟩, Nat.le_refl _, hb2, (h1.ch.trans hc2 fun _ e => .inl e)⟩
  · exact ⟨i, j, n, rfl, .inl ⟨rfl, rfl⟩, by omega, hb1, h1.ch⟩
theorem ok_slices_medianCmpFunc_Si64 {lo : Nat} {e : TypeId} {w : World} {v : Value} {L : List VL} {i j k c n : Nat} (hs : Ow lo t_Si64 w v (evL L)) (hrw : RowsV t_i64 w L) (hne : v.ownBlock ≠ some c) (hi : i < L.length) (hj : j < L.length) (hk : k < L.length) (hte : t_i64 ≠ e) (hb : Blk e w c [.int .i64 (n : Int)]) (hn : n ≤ 900) :
    Cal Tryz.prog f_slices_medianCmpFunc_Si64 #[v, .int .i64 (i : Int), .int .i64 (j : Int), .int .i64 (k : Int), .pointer (some ⟨c, 0, none⟩), cmpV] w fun r w' => ∃ t m : Nat, r = .int .i64 (t : Int) ∧ (t = i ∨ t = j ∨ t = k) ∧ m ≤ n + 3 ∧ Blk e w' c [.int .i64 (m : Int)] ∧ Ch (fun d => d = c) w w' := by
  apply c_slices_medianCmpFunc_Si64; unfold S_slices_medianCmpFunc_Si64
  refine iCall ?_
  refine (ok_slices_order2CmpFunc_Si64 hs hrw hi hj hte hb (by omega)).mono fun r w1 h1 => ?_
  obtain ⟨i1, j1, n1, rfl, h1, hn1, hb1, hc1⟩ := h1
  have hs1 := hs.ch hc1 fun d hd e => hne (e ▸ hd)
  have hrw1 := hrw.ch hb hte hc1
  ((with_reducible refine iE20 ?_; refine iE21 ?_))
  refine iCall ?_
  refine (ok_slices_order2CmpFunc_Si64 (i := j1) hs1 hrw1 (by rcases h1 with h | h <;> omega) hk hte hb1 (by omega)).mono fun r w2 h2 => ?_
  obtain ⟨j2, k2, n2, rfl, h2, hn2, hb2, hc2⟩ := h2
  have hs2 := hs1.ch hc2 fun d hd e => hne (e ▸ hd)
  have hrw2 := hrw1.ch hb1 hte hc2
  ((with_reducible refine iE20 ?_; refine iE21 ?_))
  refine iCall ?_
  refine (ok_slices_order2CmpFunc_Si64 (i := i1) (j := j2) hs2 hrw2 (by rcases h1 with h | h <;> omega) (by rcases h1 with h | h <;> rcases h2 with h' | h' <;> omega) hte hb2 (by omega)).mono fun r w3 h3 => ?_
  obtain ⟨i3, j3, n3, rfl, h3, hn3, hb3, hc3⟩ := h3
  ((with_reducible refine iE20 ?_; refine iE21 ?_))
  exact ⟨j3, n3, rfl, by rcases h1 with h | h <;> rcases h2 with h' | h' <;> rcases h3 with h'' | h'' <;> omega, by omega, hb3, ch_self (ch_self hc1 hc2) hc3⟩
theorem ok_slices_medianAdjacentCmpFunc_Si64 {lo : Nat} {e : TypeId} {w : World} {v : Value} {L : List VL} {i c n : Nat} (hs : Ow lo t_Si64 w v (evL L)) (hrw : RowsV t_i64 w L) (hne : v.ownBlock ≠ some c) (h1 : 1 ≤ i) (hi : i + 1 < L.length) (hL : L.length ≤ 1152921504606846976) (hte : t_i64 ≠ e) (hb : Blk e w c [.int .i64 (n : Int)]) (hn : n ≤ 900) :
    Cal Tryz.prog f_slices_medianAdjacentCmpFunc_Si64 #[v, .int .i64 (i : Int), .pointer (some ⟨c, 0, none⟩), cmpV] w fun r w' => ∃ t m : Nat, r = .int .i64 (t : Int) ∧ (t = i - 1 ∨ t = i ∨ t = i + 1) ∧ m ≤ n + 3 ∧ Blk e w' c [.int .i64 (m : Int)] ∧ Ch (fun d => d = c) w w' := by
  apply c_slices_medianAdjacentCmpFunc_Si64; unfold S_slices_medianAdjacentCmpFunc_Si64
  (refine iSub (by omega) ?_; refine iAdd (by omega) ?_)
  rw [show (i : Int) - 1 = ((i - 1 : Nat) : Int) by omega]
  refine iCall ?_
  exact ok_slices_medianCmpFunc_Si64 (i := i - 1) (j := i) (k := i + 1) hs hrw hne (by omega) (by omega) hi hte hb hn
theorem ok_slices_choosePivotCmpFunc_Si64 {lo : Nat} {w : World} {v : Value} {L : List VL} {a b : Nat} (hs : Ow lo t_Si64 w v (evL L)) (hrw : RowsV t_i64 w L) (hab : a + 8 ≤ b) (hb : b ≤ L.length) (hL : L.length ≤ 1152921504606846976) :
    Cal Tryz.prog f_slices_choosePivotCmpFunc_Si64 #[v, .int .i64 (a : Int), .int .i64 (b : Int), cmpV] w fun r w' => Ext w w' ∧ ∃ t : Nat, ∃ x : Int, r = .tuple #[.int .i64 (t : Int), .int .i64 x] ∧ a ≤ t ∧ t < b := by
  apply c_slices_choosePivotCmpFunc_Si64; unfold S_slices_choosePivotCmpFunc_Si64
  obtain ⟨n, rfl⟩ : ∃ n, b = a + n := ⟨b - a, by omega⟩
  refine iSub (by omega) ?_
  rw [show ((a + n : Nat) : Int) - a = (n : Int) by omega]
  refine iNew fun c w1 hc1 h1 hb1 => ?_
  have hne : v.ownBlock ≠ some c := hs.lt (by omega)
  have hs1 := hs.ext h1
  have hrw1 := hrw.ext h1
  have new : ∀ {w' : World}, Ch (fun d => d = c) w1 w' → Ext w w' := fun {w'} h => h1.thenCh h fun d e => by omega
  refine iQuo (by omega) ?_
  refine iMul (by omega) ?_
  refine iAdd (by omega) ?_
  refine iQuo (by omega) ?_
  refine iMul (by omega) ?_
  refine iAdd (by omega) ?_
  refine iQuo (by omega) ?_
  refine iMul (by omega) ?_
  refine iAdd (by omega) ?_
  refine iLe ?_
  rw [show (a : Int) + (n : Int) / 4 * 1 = ((a + n / 4 * 1 : Nat) : Int) by omega, show (a : Int) + (n : Int) / 4 * 2 = ((a + n / 4 * 2 : Nat) : Int) by omega, show (a : Int) + (n : Int) / 4 * 3 = ((a + n / 4 * 3 : Nat) : Int) by omega]
  refine iJnX (fun xs w' => ∃ t m : Nat, xs = [.int .i64 (t : Int)] ∧ a ≤ t ∧ t < a + n ∧ Blk 3 w' c [.int .i64 (m : Int)] ∧ Ch (fun d => d = c) w1 w') (fun J hJ => ?_) ?_
  · refine iCndP (fun h => ?_) (fun h => ?_)
    · refine iLe ?_
      refine iJnX (fun xs w' => ∃ i j k m : Nat, xs = [.int .i64 (i : Int), .int .i64 (j : Int), .int .i64 (k : Int)] ∧ a ≤ i ∧ i < a + n ∧ a ≤ j ∧ j < a + n ∧ a ≤ k ∧ k < a + n ∧ m ≤ 9 ∧ Blk 3 w' c [.int .i64 (m : Int)] ∧ Ch (fun d => d = c) w1 w') (fun J' hJ' => ?_) ?_
      · refine iCndP (fun h5 => ?_) (fun h5 => ?_)
        · refine iCall ?_
          refine (ok_slices_medianAdjacentCmpFunc_Si64 (n := 0) hs1 hrw1 hne (by omega) (by omega) hL (by decide) hb1 (by omega)).mono fun r w2 h2 => ?_
          obtain ⟨i, m1, rfl, hi, hm1, hb2, hc2⟩ := h2
          have hs2 := hs1.ch hc2 fun d hd e => hne (e ▸ hd)
          have hrw2 := hrw1.ch hb1 (by decide) hc2
          refine iCall ?_
          refine (ok_slices_medianAdjacentCmpFunc_Si64 hs2 hrw2 hne (by omega) (by omega) hL (by decide) hb2 (by omega)).mono fun r w3 h3 => ?_
          obtain ⟨j, m2, rfl, hj, hm2, hb3, hc3⟩ := h3
          have hs3 := hs2.ch hc3 fun d hd e => hne (e ▸ hd)
          have hrw3 := hrw2.ch hb2 (by decide) hc3
          refine iCall ?_
          refine (ok_slices_medianAdjacentCmpFunc_Si64 hs3 hrw3 hne (by omega) (by omega) hL (by decide) hb3 (by omega)).mono fun r w4 h4 => ?_
          obtain ⟨k, m3, rfl, hk, hm3, hb4, hc4⟩ := h4
          exact hJ' _ _ ⟨i, j, k, m3, rfl, by omega, by omega, by omega, by omega, by omega, by omega, by omega, hb4, ch_self (ch_self hc2 hc3) hc4⟩
        · exact hJ' _ _ ⟨_, _, _, 0, rfl, by omega, by omega, by omega, by omega, by omega, by omega, by omega, hb1, (Ext.refl _).ch⟩
      rintro xs w5 ⟨i, j, k, m, rfl, h11, h12, h21, h22, h31, h32, hm, hb5, hc5⟩
      intro _
      simp only [gx]
      have hs5 := hs1.ch hc5 fun d hd e => hne (e ▸ hd)
      have hrw5 := hrw1.ch hb1 (by decide) hc5
      refine iCall ?_
      refine (ok_slices_medianCmpFunc_Si64 hs5 hrw5 hne (i := i) (j := j) (k := k) (by omega) (by omega) (by omega) (by decide) hb5 (by omega)).mono fun r w6 h6 => ?_
      obtain ⟨t, m', rfl, ht, hm', hb6, hc6⟩ := h6
      exact hJ _ _ ⟨t, m', rfl, by omega, by omega, hb6, ch_self hc5 hc6⟩
    · omega
  rintro xs w3 ⟨t, m, rfl, ht1, ht2, hb3, hc3⟩
  intro _
  simp only [gx]
  (refine iLdB (by assumption) (by first | rfl | simp) ?_; (with_reducible refine iEq ?_))
  refine iCndP (fun h => ?_) (fun h => ?_)
  · exact ⟨new hc3, t, 1, rfl, ht1, ht2⟩
  · ((with_reducible refine iEq ?_))
    refine iCndP (fun h => ?_) (fun h => ?_)
    · exact ⟨new hc3, t, 2, rfl, ht1, ht2⟩
    · exact ⟨new hc3, t, 0, rfl, ht1, ht2⟩
theorem ok_slices_partitionEqualCmpFunc_Si64 {lo : Nat} {w : World} {v : Value} {L : List VL} {a b t : Nat} (hs : Ow lo t_Si64 w v (evL L)) (hrw : RowsV t_i64 w L) (hat : a ≤ t) (htb : t < b) (hb : b ≤ L.length) (hL : L.length ≤ 1152921504606846976) :
    Cal Tryz.prog f_slices_partitionEqualCmpFunc_Si64 #[v, .int .i64 (a : Int), .int .i64 (b : Int), .int .i64 (t : Int), cmpV] w fun r w' => ∃ L' : List VL, ∃ m : Nat, r = .int .i64 (m : Int) ∧ Turn lo t_Si64 encV v w w' L' ∧ SwR a b L L' ∧ a < m ∧ m ≤ b ∧ (∀ k, a ≤ k → k < m → ltV (gt L t) (gt L' k) = false) := by
  apply c_slices_partitionEqualCmpFunc_Si64; unfold S_slices_partitionEqualCmpFunc_Si64
  refine iRdO (j := t) hs rfl (by omega) ?_
  refine iRdO (j := a) hs rfl (by omega) ?_
  refine iWr2 (i := a) (j := t) encV_cell hs rfl rfl (by omega) (by omega) fun w5 h5 => ?_
  have e0 : gt (sw L a t) a = gt L t := by rw [gt_sw (by omega) (by omega)]; split <;> simp_all
  (refine iAdd (by omega) ?_; refine iSub (by omega) ?_)
  refine iLp (fun s : Nat × Int => [.int .i64 (s.1 : Int), .int .i64 s.2]) (fun s w' => a + 1 ≤ s.1 ∧ s.1 ≤ b ∧ (s.1 : Int) - 1 ≤ s.2 + 1 ∧ s.2 < b ∧ ∃ L', Turn lo t_Si64 encV v w w' L' ∧ SwR a b L L' ∧ gt L' a = gt L t ∧ ∀ k, a ≤ k → k < s.1 → ltV (gt L t) (gt L' k) = false) (fun s => b - s.1) (a + 1, (b : Int) - 1) rfl
    ⟨Nat.le_refl _, by show a + 1 ≤ b; omega, by show ((a + 1 : Nat) : Int) - 1 ≤ (b : Int) - 1 + 1; omega, by show (b : Int) - 1 < b; omega, sw L a t, h5, .one (Nat.le_refl _) (by omega) hat htb hb, e0, fun k h1 h2 => by have h2 : k < a + 1 := h2; rw [show k = a by omega, e0]; exact ordrV.rfl _⟩ ?_
  rintro ⟨i0, j0⟩ w7 Kn ⟨hi0, hib0, hij0, hjb0, L1, ht1, hw1, he1, hq1⟩ hKn
  have hi0 : a + 1 ≤ i0 := hi0
  have hib0 : i0 ≤ b := hib0
  have hij0 : (i0 : Int) - 1 ≤ j0 + 1 := hij0
  have hjb0 : j0 < b := hjb0
  have hq1 : ∀ k, a ≤ k → k < i0 → ltV (gt L t) (gt L1 k) = false := hq1
  have hl1 := hw1.len
  intro _
  simp only [gx]
  refine iLp (fun i : Nat => [.int .i64 (i : Int)]) (fun i w' => i0 ≤ i ∧ i ≤ b ∧ (i : Int) - 1 ≤ j0 + 1 ∧ Ext w7 w' ∧ ∀ k, a ≤ k → k < i → ltV (gt L t) (gt L1 k) = false) (fun i => b - i) i0 rfl ⟨Nat.le_refl _, hib0, hij0, Ext.refl _, hq1⟩ ?_
  rintro i w9 Kn9 ⟨hi, hib, hij, h9, hq⟩ hKn9
  intro _
  simp only [gx]
  have ht9 := ht1.ext h9
  refine iJnB (decide ((i : Int) ≤ j0) && !ltV (gt L1 a) (gt L1 i)) w9 (fun J hJ => ?_) (fun w11 h11 => ?_)
  · refine iLe ?_
    refine iCndP (fun h => ?_) (fun h => ?_)
    · rw [decide_eq_true h, Bool.true_and] at hJ
      refine iRdO (j := a) ht9.ow rfl (by omega) ?_
      refine iRdO (j := i) ht9.ow rfl (by omega) ?_
      exact iCmN (hrw.turn hs (by decide) ht9 hw1.perm) (by omega) (by omega) hJ
    · rw [decide_eq_false h, Bool.false_and] at hJ
      exact fun _ x8 _ x9 => hJ _ (x8.trans x9)
  intro _
  simp only [gx]
  have h9' := h9.trans h11
  cases hc : decide ((i : Int) ≤ j0) && !ltV (gt L1 a) (gt L1 i)
  rotate_left
  · rw [Bool.and_eq_true, decide_eq_true_eq, Bool.not_eq_true'] at hc
    refine iCndT rfl ?_
    (refine iAdd (by omega) ?_)
    refine hKn9 (i + 1) _ ⟨by omega, by omega, by omega, h9', fun k h1 h2 => ?_⟩ (by omega)
    by_cases hk : k = i
    · rw [hk, ← he1]; exact hc.2
    · exact hq k h1 (by omega)
  refine iCndF rfl ?_
  refine iLp (fun j : Int => [.int .i64 j]) (fun j w' => j ≤ j0 ∧ (i : Int) - 1 ≤ j + 1 ∧ Ext w7 w' ∧ (j < j0 → (i : Int) - 1 ≤ j)) (fun j => (j + 2).toNat) j0 rfl ⟨Int.le_refl _, hij, h9', fun h => by omega⟩ ?_
  rintro j w15 Kn15 ⟨hjj, hij2, h15, hij3⟩ hKn15
  intro _
  simp only [gx]
  have ht15 := ht1.ext h15
  refine iJnB (decide ((i : Int) ≤ j) && ltV (gt L1 a) (gt L1 j.toNat)) w15 (fun J hJ => ?_) (fun w17 h17 => ?_)
  · refine iLe ?_
    refine iCndP (fun h => ?_) (fun h => ?_)
    · rw [decide_eq_true h, Bool.true_and] at hJ
      refine iRdO (j := a) ht15.ow rfl (by omega) ?_
      refine iRdO (j := j.toNat) ht15.ow (by omega) (by omega) ?_
      exact iCm (hrw.turn hs (by decide) ht15 hw1.perm) (by omega) (by omega) hJ
    · rw [decide_eq_false h, Bool.false_and] at hJ
      exact fun _ x8 _ x9 => hJ _ (x8.trans x9)
  intro _
  simp only [gx]
  have ht17 := ht15.ext h17
  cases hc2 : decide ((i : Int) ≤ j) && ltV (gt L1 a) (gt L1 j.toNat)
  rotate_left
  · rw [Bool.and_eq_true, decide_eq_true_eq] at hc2
    refine iCndT rfl ?_
    refine iSub (by omega) ?_
    exact hKn15 (j - 1) _ ⟨by omega, by omega, h15.trans h17, fun _ => by omega⟩ (by omega)
  refine iCndF rfl ?_
  refine iLt ?_
  refine iCndP (fun h => ?_) (fun h => ?_)
  · exact ⟨L1, i, rfl, ht17, hw1, by omega, hib, hq⟩
  · have hlt : ltV (gt L1 a) (gt L1 j.toNat) = false := by
      rw [decide_eq_true (show (i : Int) ≤ j by omega), Bool.true_and] at hc2; exact hc2
    refine iRdO (j := j.toNat) ht17.ow (by omega) (by omega) ?_
    refine iRdO (j := i) ht17.ow rfl (by omega) ?_
    refine iWr2 (i := i) (j := j.toNat) encV_cell ht17.ow rfl (by omega) (by omega) (by omega) fun w24 h24 => ?_
    refine iAdd (by omega) ?_
    refine iSub (by omega) ?_
    have eS : ∀ k, gt (sw L1 i j.toNat) k = if k = j.toNat then gt L1 i else if k = i then gt L1 j.toNat else gt L1 k := gt_sw (by omega) (by omega)
    refine hKn (i + 1, j - 1) _ ⟨by show a + 1 ≤ i + 1; omega, by show i + 1 ≤ b; omega, by show ((i + 1 : Nat) : Int) - 1 ≤ j - 1 + 1; omega, by show j - 1 < b; omega, sw L1 i j.toNat, ht17.trans h24, .step hw1 (by omega) (by omega) (by omega) (by omega) hb, by rw [eS, if_neg (by omega), if_neg (by omega)]; exact he1, fun k h1 h2 => ?_⟩ (by show b - (i + 1) < b - i0; omega)
    have h2 : k < i + 1 := h2
    rw [eS]
    by_cases hk : k = i
    · subst hk
      split
      · rename_i hkj; rw [← hkj, he1] at hlt; exact hlt
      · rw [if_pos rfl, ← he1]; exact hlt
    · rw [if_neg (by omega), if_neg hk]; exact hq k h1 (by omega)
end Go.Proofs.YtmefbjdioaahdaaGreatDoor

/- Contracts: partition, the trial of insertion and pdqsort itself, on strings. Conditions: none. -/
namespace Go.Vc
theorem part_endV {L : List VL} {a b j : Nat} {pv : VL} (haj : a ≤ j) (hjb : j < b) (hb : b ≤ L.length) (he : gt L a = pv) (h1 : ∀ k, a + 1 ≤ k → k ≤ j → ltV (gt L k) pv = true) (h2 : ∀ k, j < k → k < b → ltV (gt L k) pv = false) : Parted ltV a b j (sw L j a) := by
  have e : ∀ k, gt (sw L j a) k = if k = a then gt L j else if k = j then gt L a else gt L k := gt_sw (by omega) (by omega)
  have ej : gt (sw L j a) j = pv := by
    rw [e]
    split
    · rename_i h; rw [h]; exact he
    · rw [if_pos rfl]; exact he
  refine ⟨fun k hk hk' => ?_, fun k hk hk' => ?_⟩
  · rw [ej, e]
    by_cases hka : k = a
    · rw [if_pos hka]; exact h1 j (by omega) (Nat.le_refl _)
    · rw [if_neg hka, if_neg (by omega)]; exact h1 k (by omega) (by omega)
  · rw [ej, e, if_neg (by omega), if_neg (by omega)]; exact h2 k hk hk'
end Go.Vc
namespace Go.Proofs.YtmefbjdioaahdaaGreatDoor
open Go.Vc
theorem ok_slices_partitionCmpFunc_Si64 {lo : Nat} {w : World} {v : Value} {L : List VL} {a b t : Nat} (hs : Ow lo t_Si64 w v (evL L)) (hrw : RowsV t_i64 w L) (hat : a ≤ t) (htb : t < b) (hb : b ≤ L.length) (hL : L.length ≤ 1152921504606846976) :
    Cal Tryz.prog f_slices_partitionCmpFunc_Si64 #[v, .int .i64 (a : Int), .int .i64 (b : Int), .int .i64 (t : Int), cmpV] w fun r w' => ∃ L' : List VL, ∃ m : Nat, ∃ y : Bool, r = .tuple #[.int .i64 (m : Int), .bool y] ∧ Turn lo t_Si64 encV v w w' L' ∧ SwR a b L L' ∧ a ≤ m ∧ m < b ∧ Parted ltV a b m L' := by
  apply c_slices_partitionCmpFunc_Si64; unfold S_slices_partitionCmpFunc_Si64
  refine iRdO (j := t) hs rfl (by omega) ?_
  refine iRdO (j := a) hs rfl (by omega) ?_
  refine iWr2 (i := a) (j := t) encV_cell hs rfl rfl (by omega) (by omega) fun w7 h5 => ?_
  have h5 : Turn lo t_Si64 encV v w w7 (sw L a t) := h5
  have e0 : gt (sw L a t) a = gt L t := by rw [gt_sw (by omega) (by omega)]; split <;> simp_all
  have hw0 : SwR a b L (sw L a t) := .one (Nat.le_refl _) (by omega) hat htb hb
  have hl0 := hw0.len
  generalize sw L a t = L0 at h5 e0 hw0 hl0
  (refine iAdd (by omega) ?_; refine iSub (by omega) ?_)
  obtain ⟨i0, hi0⟩ : ∃ i0, i0 = a + 1 := ⟨_, rfl⟩
  obtain ⟨j0, hj0⟩ : ∃ j0 : Int, j0 = (b : Int) - 1 := ⟨_, rfl⟩
  rw [show (a : Int) + 1 = (i0 : Int) by omega, ← hj0]
  refine iLp (fun i : Nat => [.int .i64 (i : Int)]) (fun i w' => i0 ≤ i ∧ (i : Int) ≤ j0 + 1 ∧ Ext w7 w' ∧ ∀ k, a + 1 ≤ k → k < i → ltV (gt L0 k) (gt L t) = true) (fun i => b - i) i0 rfl ⟨Nat.le_refl _, by omega, Ext.refl _, fun k h1 h2 => by omega⟩ ?_
  rintro i w9 Kn9 ⟨hi, hij, h9, hq⟩ hKn9
  intro _
  simp only [gx]
  have ht9 := h5.ext h9
  refine iJnB (decide ((i : Int) ≤ j0) && ltV (gt L0 i) (gt L0 a)) w9 (fun J hJ => ?_) (fun w11 h11 => ?_)
  · refine iLe ?_
    refine iCndP (fun h => ?_) (fun h => ?_)
    · rw [decide_eq_true h, Bool.true_and] at hJ
      refine iRdO (j := i) ht9.ow rfl (by omega) ?_
      refine iRdO (j := a) ht9.ow rfl (by omega) ?_
      exact iCm (hrw.turn hs (by decide) ht9 hw0.perm) (by omega) (by omega) hJ
    · rw [decide_eq_false h, Bool.false_and] at hJ
      exact fun _ x8 _ x9 => hJ _ (x8.trans x9)
  intro _
  simp only [gx]
  have h9' := h9.trans h11
  cases hc : decide ((i : Int) ≤ j0) && ltV (gt L0 i) (gt L0 a)
  rotate_left
  · rw [Bool.and_eq_true, decide_eq_true_eq] at hc
    refine iCndT rfl ?_
    (refine iAdd (by omega) ?_)
    refine hKn9 (i + 1) _ ⟨by omega, by omega, h9', fun k h1 h2 => ?_⟩ (by omega)
    by_cases hk : k = i
    · rw [hk, ← e0]; exact hc.2
    · exact hq k h1 (by omega)
  refine iCndF rfl ?_
  refine iLp (fun j : Int => [.int .i64 j]) (fun j w' => j ≤ j0 ∧ (i : Int) ≤ j + 1 ∧ Ext w7 w' ∧ ∀ k : Nat, j < k → k < b → ltV (gt L0 k) (gt L t) = false) (fun j => (j + 2).toNat) j0 rfl ⟨Int.le_refl _, hij, h9', fun k h1 h2 => by omega⟩ ?_
  rintro j w15 Kn15 ⟨hjj, hij2, h15, hq2⟩ hKn15
  intro _
  simp only [gx]
  have ht15 := h5.ext h15
  refine iJnB (decide ((i : Int) ≤ j) && !ltV (gt L0 j.toNat) (gt L0 a)) w15 (fun J hJ => ?_) (fun w17 h17 => ?_)
  · refine iLe ?_
    refine iCndP (fun h => ?_) (fun h => ?_)
    · rw [decide_eq_true h, Bool.true_and] at hJ
      refine iRdO (j := j.toNat) ht15.ow (by omega) (by omega) ?_
      refine iRdO (j := a) ht15.ow rfl (by omega) ?_
      exact iCmN (hrw.turn hs (by decide) ht15 hw0.perm) (by omega) (by omega) hJ
    · rw [decide_eq_false h, Bool.false_and] at hJ
      exact fun _ x8 _ x9 => hJ _ (x8.trans x9)
  intro _
  simp only [gx]
  have ht17 := ht15.ext h17
  cases hc2 : decide ((i : Int) ≤ j) && !ltV (gt L0 j.toNat) (gt L0 a)
  rotate_left
  · rw [Bool.and_eq_true, decide_eq_true_eq, Bool.not_eq_true'] at hc2
    refine iCndT rfl ?_
    refine iSub (by omega) ?_
    refine hKn15 (j - 1) _ ⟨by omega, by omega, h15.trans h17, fun k h1 h2 => ?_⟩ (by omega)
    by_cases hk : (k : Int) = j
    · rw [show k = j.toNat by omega, ← e0]; exact hc2.2
    · exact hq2 k (by omega) h2
  refine iCndF rfl ?_
  refine iLt ?_
  refine iCndP (fun h => ?_) (fun h => ?_)
  · refine iRdO (j := a) ht17.ow rfl (by omega) ?_
    refine iRdO (j := j.toNat) ht17.ow (by omega) (by omega) ?_
    refine iWr2 (i := j.toNat) (j := a) encV_cell ht17.ow (by omega) rfl (by omega) (by omega) fun w22 h22 => ?_
    exact ⟨sw L0 j.toNat a, j.toNat, true, by rw [Int.toNat_of_nonneg (by omega)], ht17.trans h22, .step hw0 (by omega) (by omega) (Nat.le_refl _) (by omega) hb, by omega, by omega, part_endV (by omega) (by omega) (by omega) e0 (fun k h1 h2 => hq k h1 (by omega)) (fun k h1 h2 => hq2 k (by omega) h2)⟩
  have hlt1 : ltV (gt L0 i) (gt L t) = false := by
    rw [decide_eq_true (show (i : Int) ≤ j0 by omega), Bool.true_and, e0] at hc; exact hc
  have hlt2 : ltV (gt L0 j.toNat) (gt L t) = true := by
    rw [decide_eq_true (show (i : Int) ≤ j by omega), Bool.true_and, Bool.not_eq_false', e0] at hc2; exact hc2
  have hne : i ≠ j.toNat := fun e => by rw [e, hlt2] at hlt1; cases hlt1
  refine iRdO (j := j.toNat) ht17.ow (by omega) (by omega) ?_
  refine iRdO (j := i) ht17.ow rfl (by omega) ?_
  refine iWr2 (i := i) (j := j.toNat) encV_cell ht17.ow rfl (by omega) (by omega) (by omega) fun w24 h24 => ?_
  refine iAdd (by omega) ?_
  refine iSub (by omega) ?_
  have eS : ∀ k, gt (sw L0 i j.toNat) k = if k = j.toNat then gt L0 i else if k = i then gt L0 j.toNat else gt L0 k := gt_sw (by omega) (by omega)
  have nx1 : ∀ k, a + 1 ≤ k → k < i + 1 → ltV (gt (sw L0 i j.toNat) k) (gt L t) = true := fun k h1 h2 => by
    rw [eS, if_neg (by omega)]
    by_cases hk : k = i
    · rw [if_pos hk]; exact hlt2
    · rw [if_neg hk]; exact hq k h1 (by omega)
  have nx2 : ∀ k : Nat, j - 1 < k → k < b → ltV (gt (sw L0 i j.toNat) k) (gt L t) = false := fun k h1 h2 => by
    rw [eS]
    by_cases hk : k = j.toNat
    · rw [if_pos hk]; exact hlt1
    · rw [if_neg hk, if_neg (by omega)]; exact hq2 k (by omega) h2
  have nxe : gt (sw L0 i j.toNat) a = gt L t := by rw [eS, if_neg (by omega), if_neg (by omega)]; exact e0
  refine iLp (fun s : Nat × Int => [.int .i64 (s.1 : Int), .int .i64 s.2]) (fun s w' => a + 1 ≤ s.1 ∧ (s.1 : Int) ≤ s.2 + 1 ∧ s.2 < b ∧ ∃ L', Turn lo t_Si64 encV v w w' L' ∧ SwR a b L L' ∧ gt L' a = gt L t ∧ (∀ k, a + 1 ≤ k → k < s.1 → ltV (gt L' k) (gt L t) = true) ∧ ∀ k : Nat, s.2 < k → k < b → ltV (gt L' k) (gt L t) = false) (fun s => b - s.1) (i + 1, j - 1) rfl
    ⟨by show a + 1 ≤ i + 1; omega, by show ((i + 1 : Nat) : Int) ≤ j - 1 + 1; omega, by show j - 1 < b; omega, sw L0 i j.toNat, ht17.trans h24, .step hw0 (by omega) (by omega) (by omega) (by omega) hb, nxe, nx1, nx2⟩ ?_
  clear hKn9 hKn15 nxe nx1 nx2 eS hq hq2
  rintro ⟨i1, j1⟩ w29 Kn ⟨hi1, hij1, hjb1, L1, ht1, hw1, he1, hq1, hq21⟩ hKn
  have hi1 : a + 1 ≤ i1 := hi1
  have hij1 : (i1 : Int) ≤ j1 + 1 := hij1
  have hjb1 : j1 < b := hjb1
  have hl1 := hw1.len
  intro _
  simp only [gx]
  refine iLp (fun i : Nat => [.int .i64 (i : Int)]) (fun i w' => i1 ≤ i ∧ (i : Int) ≤ j1 + 1 ∧ Ext w29 w' ∧ ∀ k, a + 1 ≤ k → k < i → ltV (gt L1 k) (gt L t) = true) (fun i => b - i) i1 rfl ⟨Nat.le_refl _, by omega, Ext.refl _, hq1⟩ ?_
  rintro i w9 Kn9 ⟨hi, hij, h9, hq⟩ hKn9
  intro _
  simp only [gx]
  have ht9 := ht1.ext h9
  refine iJnB (decide ((i : Int) ≤ j1) && ltV (gt L1 i) (gt L1 a)) w9 (fun J hJ => ?_) (fun w11 h11 => ?_)
  · refine iLe ?_
    refine iCndP (fun h => ?_) (fun h => ?_)
    · rw [decide_eq_true h, Bool.true_and] at hJ
      refine iRdO (j := i) ht9.ow rfl (by omega) ?_
      refine iRdO (j := a) ht9.ow rfl (by omega) ?_
      exact iCm (hrw.turn hs (by decide) ht9 hw1.perm) (by omega) (by omega) hJ
    · rw [decide_eq_false h, Bool.false_and] at hJ
      exact fun _ x8 _ x9 => hJ _ (x8.trans x9)
  intro _
  simp only [gx]
  have h9' := h9.trans h11
  cases hc : decide ((i : Int) ≤ j1) && ltV (gt L1 i) (gt L1 a)
  rotate_left
  · rw [Bool.and_eq_true, decide_eq_true_eq] at hc
    refine iCndT rfl ?_
    (refine iAdd (by omega) ?_)
    refine hKn9 (i + 1) _ ⟨by omega, by omega, h9', fun k h1 h2 => ?_⟩ (by omega)
    by_cases hk : k = i
    · rw [hk, ← he1]; exact hc.2
    · exact hq k h1 (by omega)
  refine iCndF rfl ?_
  refine iLp (fun j : Int => [.int .i64 j]) (fun j w' => j ≤ j1 ∧ (i : Int) ≤ j + 1 ∧ Ext w29 w' ∧ ∀ k : Nat, j < k → k < b → ltV (gt L1 k) (gt L t) = false) (fun j => (j + 2).toNat) j1 rfl ⟨Int.le_refl _, hij, h9', hq21⟩ ?_
  rintro j w15 Kn15 ⟨hjj, hij2, h15, hq2⟩ hKn15
  intro _
  simp only [gx]
  have ht15 := ht1.ext h15
  refine iJnB (decide ((i : Int) ≤ j) && !ltV (gt L1 j.toNat) (gt L1 a)) w15 (fun J hJ => ?_) (fun w17 h17 => ?_)
  · refine iLe ?_
    refine iCndP (fun h => ?_) (fun h => ?_)
    · rw [decide_eq_true h, Bool.true_and] at hJ
      refine iRdO (j := j.toNat) ht15.ow (by omega) (by omega) ?_
      refine iRdO (j := a) ht15.ow rfl (by omega) ?_
      exact iCmN (hrw.turn hs (by decide) ht15 hw1.perm) (by omega) (by omega) hJ
    · rw [decide_eq_false h, Bool.false_and] at hJ
      exact fun _ x8 _ x9 => hJ _ (x8.trans x9)
  intro _
  simp only [gx]
  have ht17 := ht15.ext h17
  cases hc2 : decide ((i : Int) ≤ j) && !ltV (gt L1 j.toNat) (gt L1 a)
  rotate_left
  · rw [Bool.and_eq_true, decide_eq_true_eq, Bool.not_eq_true'] at hc2
    refine iCndT rfl ?_
    refine iSub (by omega) ?_
    refine hKn15 (j - 1) _ ⟨by omega, by omega, h15.trans h17, fun k h1 h2 => ?_⟩ (by omega)
    by_cases hk : (k : Int) = j
    · rw [show k = j.toNat by omega, ← he1]; exact hc2.2
    · exact hq2 k (by omega) h2
  refine iCndF rfl ?_
  refine iLt ?_
  refine iCndP (fun h => ?_) (fun h => ?_)
  · refine iRdO (j := a) ht17.ow rfl (by omega) ?_
    refine iRdO (j := j.toNat) ht17.ow (by omega) (by omega) ?_
    refine iWr2 (i := j.toNat) (j := a) encV_cell ht17.ow (by omega) rfl (by omega) (by omega) fun w22 h22 => ?_
    exact ⟨sw L1 j.toNat a, j.toNat, false, by rw [Int.toNat_of_nonneg (by omega)], ht17.trans h22, .step hw1 (by omega) (by omega) (Nat.le_refl _) (by omega) hb, by omega, by omega, part_endV (by omega) (by omega) (by omega) he1 (fun k h1 h2 => hq k h1 (by omega)) (fun k h1 h2 => hq2 k (by omega) h2)⟩
  have hlt1 : ltV (gt L1 i) (gt L t) = false := by
    rw [decide_eq_true (show (i : Int) ≤ j1 by omega), Bool.true_and, he1] at hc; exact hc
  have hlt2 : ltV (gt L1 j.toNat) (gt L t) = true := by
    rw [decide_eq_true (show (i : Int) ≤ j by omega), Bool.true_and, Bool.not_eq_false', he1] at hc2; exact hc2
  have hne : i ≠ j.toNat := fun e => by rw [e, hlt2] at hlt1; cases hlt1
  refine iRdO (j := j.toNat) ht17.ow (by omega) (by omega) ?_
  refine iRdO (j := i) ht17.ow rfl (by omega) ?_
  refine iWr2 (i := i) (j := j.toNat) encV_cell ht17.ow rfl (by omega) (by omega) (by omega) fun w24 h24 => ?_
  refine iAdd (by omega) ?_
  refine iSub (by omega) ?_
  have eS : ∀ k, gt (sw L1 i j.toNat) k = if k = j.toNat then gt L1 i else if k = i then gt L1 j.toNat else gt L1 k := gt_sw (by omega) (by omega)
  have nx1 : ∀ k, a + 1 ≤ k → k < i + 1 → ltV (gt (sw L1 i j.toNat) k) (gt L t) = true := fun k h1 h2 => by
    rw [eS, if_neg (by omega)]
    by_cases hk : k = i
    · rw [if_pos hk]; exact hlt2
    · rw [if_neg hk]; exact hq k h1 (by omega)
  have nx2 : ∀ k : Nat, j - 1 < k → k < b → ltV (gt (sw L1 i j.toNat) k) (gt L t) = false := fun k h1 h2 => by
    rw [eS]
    by_cases hk : k = j.toNat
    · rw [if_pos hk]; exact hlt1
    · rw [if_neg hk, if_neg (by omega)]; exact hq2 k (by omega) h2
  have nxe : gt (sw L1 i j.toNat) a = gt L t := by rw [eS, if_neg (by omega), if_neg (by omega)]; exact he1
  exact hKn (i + 1, j - 1) _ ⟨by show a + 1 ≤ i + 1; omega, by show ((i + 1 : Nat) : Int) ≤ j - 1 + 1; omega, by show j - 1 < b; omega, sw L1 i j.toNat, ht17.trans h24, .step hw1 (by omega) (by omega) (by omega) (by omega) hb, nxe, nx1, nx2⟩ (by show b - (i + 1) < b - i1; omega)
theorem ok_slices_partialInsertionSortCmpFunc_Si64 {lo : Nat} {w : World} {v : Value} {L : List VL} {a b : Nat} (hs : Ow lo t_Si64 w v (evL L)) (hrw : RowsV t_i64 w L) (hab : a < b) (hb : b ≤ L.length) (hL : L.length ≤ 1152921504606846976) (hbl : Blw ltV a b L) :
    Cal Tryz.prog f_slices_partialInsertionSortCmpFunc_Si64 #[v, .int .i64 (a : Int), .int .i64 (b : Int), cmpV] w fun r w' => ∃ y : Bool, ∃ L' : List VL, r = .bool y ∧ Turn lo t_Si64 encV v w w' L' ∧ SwR a b L L' ∧ (y = true → Srt ltV a b L') := by
  apply c_slices_partialInsertionSortCmpFunc_Si64; unfold S_slices_partialInsertionSortCmpFunc_Si64
  (refine iAdd (by omega) ?_)
  refine iLp (fun s : Nat × Nat => [.int .i64 (s.1 : Int), .int .i64 (s.2 : Int)]) (fun s w' => a + 1 ≤ s.1 ∧ s.1 ≤ b ∧ s.2 ≤ 5 ∧ ∃ L', Turn lo t_Si64 encV v w w' L' ∧ SwR a b L L' ∧ Srt ltV a s.1 L') (fun s => 5 - s.2) (a + 1, 0) rfl ⟨Nat.le_refl _, by show a + 1 ≤ b; omega, Nat.zero_le _, L, Turn.refl hs, .refl, Srt.short (Nat.le_refl _)⟩ ?_
  rintro ⟨i0, r⟩ w2 Kn ⟨hi0, hib0, hr, L1, ht1, hw1, hs1⟩ hKn
  have hi0 : a + 1 ≤ i0 := hi0
  have hib0 : i0 ≤ b := hib0
  have hr : r ≤ 5 := hr
  have hs1 : Srt ltV a i0 L1 := hs1
  have hl1 := hw1.len
  intro _
  simp only [gx]
  refine iLt ?_
  refine iCndP (fun h5 => ?_) (fun h5 => ?_)
  rotate_left
  · exact ⟨false, L1, rfl, ht1, hw1, fun h => by cases h⟩
  refine iLp (fun i : Nat => [.int .i64 (i : Int)]) (fun i w' => i0 ≤ i ∧ i ≤ b ∧ Ext w2 w' ∧ Srt ltV a i L1) (fun i => b - i) i0 rfl ⟨Nat.le_refl _, hib0, Ext.refl _, hs1⟩ ?_
  rintro i w4 Kn4 ⟨hi, hib, h4, hsi⟩ hKn4
  intro _
  simp only [gx]
  have ht4 := ht1.ext h4
  refine iJnB (decide (i < b) && !ltV (gt L1 i) (gt L1 (i - 1))) w4 (fun J hJ => ?_) (fun w6 h6 => ?_)
  · refine iLt ?_
    refine iCndP (fun h => ?_) (fun h => ?_)
    · rw [decide_eq_true (show i < b by omega), Bool.true_and] at hJ
      refine iRdO (j := i) ht4.ow rfl (by omega) ?_
      refine iSub (by omega) ?_
      refine iRdO (j := i - 1) ht4.ow (by omega) (by omega) ?_
      exact iCmN (hrw.turn hs (by decide) ht4 hw1.perm) (by omega) (by omega) hJ
    · rw [decide_eq_false (show ¬ i < b by omega), Bool.false_and] at hJ
      exact fun _ x8 _ x9 => hJ _ (x8.trans x9)
  intro _
  simp only [gx]
  have ht6 := ht4.ext h6
  cases hc : decide (i < b) && !ltV (gt L1 i) (gt L1 (i - 1))
  rotate_left
  · rw [Bool.and_eq_true, decide_eq_true_eq, Bool.not_eq_true'] at hc
    refine iCndT rfl ?_
    refine iAdd (by omega) ?_
    refine hKn4 (i + 1) _ ⟨by omega, by omega, h4.trans h6, fun p q g1 g2 g3 => ?_⟩ (by omega)
    by_cases hq : q = i
    · subst hq
      by_cases hp : p = q - 1
      · rw [hp]; exact hc.2
      · exact ordrV.tr (hsi p (q - 1) g1 (by omega) (by omega)) hc.2
    · exact hsi p q g1 g2 (by omega)
  refine iCndF rfl ?_
  refine iEq ?_
  refine iCndP (fun h => ?_) (fun h => ?_)
  · have : i = b := by omega
    subst this
    exact ⟨true, L1, rfl, ht6, hw1, fun _ => hsi⟩
  have hlt : ltV (gt L1 i) (gt L1 (i - 1)) = true := by
    rw [decide_eq_true (show i < b by omega), Bool.true_and, Bool.not_eq_false'] at hc; exact hc
  refine iSub (by omega) ?_
  refine iLt ?_
  refine iCndP (fun h7 => ?_) (fun h7 => ?_)
  · exact ⟨false, L1, rfl, ht6, hw1, fun h => by cases h⟩
  refine iSub (by omega) ?_
  refine iSub (by omega) ?_
  refine iRdO (j := i - 1) ht6.ow (by omega) (by omega) ?_
  refine iRdO (j := i) ht6.ow rfl (by omega) ?_
  refine iWr2 (i := i) (j := i - 1) encV_cell ht6.ow rfl (by omega) (by omega) (by omega) fun w13 h13 => ?_
  have h13 : Turn lo t_Si64 encV v w6 w13 (sw L1 i (i - 1)) := h13
  have hw2 : SwR a b L1 (sw L1 i (i - 1)) := .one (by omega) (by omega) (by omega) (by omega) (by omega)
  have hs2 : Srt ltV a (i - 1) (sw L1 i (i - 1)) := (hsi.mono (Nat.le_refl _) (by omega)).out (SwR.one (a := i - 1) (b := b) (by omega) (by omega) (by omega) (by omega) (by omega)) (.inr (Nat.le_refl _))
  have ht13 := ht6.trans h13
  have hw13 := hw1.trans hw2
  generalize sw L1 i (i - 1) = L2 at h13 hw2 hs2 ht13 hw13
  have hl2 := hw13.len
  have hbl2 : Blw ltV a b L2 := hbl.keep hw13 (Nat.le_refl _) (Nat.le_refl _)
  refine iSub (by omega) ?_
  refine iLe ?_
  refine iJnX (fun _ w' => ∃ L', Turn lo t_Si64 encV v w w' L' ∧ SwR a b L L' ∧ Srt ltV a i L') (fun J hJ => ?_) ?_
  · refine iCndP (fun h8 => ?_) (fun h8 => ?_)
    · refine iSub (by omega) ?_
      refine iLp (fun j : Nat => [.int .i64 (j : Int)]) (fun j w' => a ≤ j ∧ j ≤ i - 1 ∧ ∃ L', Turn lo t_Si64 encV v w w' L' ∧ SwR a b L L' ∧ Blw ltV a b L' ∧ Ins ltV a (i - 1) j L') (fun j => j) (i - 1) (by congr 2; omega) ⟨by omega, Nat.le_refl _, L2, ht13, hw13, hbl2, Ins.init hs2⟩ ?_
      rintro j w17 Kn17 ⟨haj, hji, L3, ht3, hw3, hbl3, hin⟩ hKn17
      have hl3 := hw3.len
      intro _
      simp only [gx]
      refine iLe ?_
      refine iCndP (fun h9 => ?_) (fun h9 => ?_)
      · refine iRdO (j := j) ht3.ow rfl (by omega) ?_
        refine iSub (by omega) ?_
        refine iRdO (j := j - 1) ht3.ow (by omega) (by omega) ?_
        refine iCmN (hrw.turn hs (by decide) ht3 hw3.perm) (by omega) (by omega) fun w18 h18 => ?_
        have ht18 := ht3.ext h18
        refine iCnd (fun h10 => ?_) (fun h10 => ?_)
        · have h10 : ltV (gt L3 j) (gt L3 (j - 1)) = false := by simpa using h10
          refine hJ _ _ ⟨L3, ht18, hw3, ?_⟩
          have := hin.done ordrV (by rcases Nat.lt_or_ge a j with h' | h'; exact .inr ⟨h', h10⟩; exact .inl h') hji
          rwa [show i - 1 + 1 = i by omega] at this
        · have h10 : ltV (gt L3 j) (gt L3 (j - 1)) = true := by simpa using h10
          have haj' : a < j := by
            rcases Nat.lt_or_ge a j with h' | h'
            · exact h'
            · have e : j = a := by omega
              subst e
              have := hbl3 j (Nat.le_refl _) (by omega) (by omega)
              rw [h10] at this; cases this
          refine iSub (by omega) ?_
          refine iSub (by omega) ?_
          refine iRdO (j := j - 1) ht18.ow (by omega) (by omega) ?_
          refine iRdO (j := j) ht18.ow rfl (by omega) ?_
          refine iWr2 (i := j) (j := j - 1) encV_cell ht18.ow rfl (by omega) (by omega) (by omega) fun w23 h23 => ?_
          refine iSub (by omega) ?_
          rw [show (j : Int) - 1 = ((j - 1 : Nat) : Int) by omega]
          have hw4 : SwR a b L3 (sw L3 j (j - 1)) := .one (by omega) (by omega) (by omega) (by omega) (by omega)
          exact hKn17 (j - 1) _ ⟨by omega, by omega, sw L3 j (j - 1), ht18.trans h23, hw3.trans hw4, hbl3.keep hw4 (Nat.le_refl _) (Nat.le_refl _), hin.swap ordrV haj' hji (by omega) h10⟩ (by omega)
      · refine hJ _ _ ⟨L3, ht3, hw3, ?_⟩
        have := hin.done ordrV (.inl (by omega)) hji
        rwa [show i - 1 + 1 = i by omega] at this
    · exact hJ _ _ ⟨L2, ht13, hw13, Srt.short (by omega)⟩
  rintro xs w15 ⟨L3, ht3, hw3, hs3⟩
  have hl3 := hw3.len
  intro _
  refine iSub (by omega) ?_
  refine iLe ?_
  refine iCndP (fun h8 => ?_) (fun h8 => ?_)
  · refine iAdd (by omega) ?_
    refine iLp (fun j : Nat => [.int .i64 (j : Int)]) (fun j w' => i + 1 ≤ j ∧ j ≤ b ∧ ∃ L', Turn lo t_Si64 encV v w w' L' ∧ SwR a b L L' ∧ Srt ltV a i L') (fun j => b - j) (i + 1) rfl ⟨Nat.le_refl _, by omega, L3, ht3, hw3, hs3⟩ ?_
    rintro j w25 Kn25 ⟨hij, hjb, L4, ht4, hw4, hs4⟩ hKn25
    have hl4 := hw4.len
    intro _
    simp only [gx]
    refine iLt ?_
    refine iCndP (fun h9 => ?_) (fun h9 => ?_)
    · refine iRdO (j := j) ht4.ow rfl (by omega) ?_
      refine iSub (by omega) ?_
      refine iRdO (j := j - 1) ht4.ow (by omega) (by omega) ?_
      refine iCmN (hrw.turn hs (by decide) ht4 hw4.perm) (by omega) (by omega) fun w26 h26 => ?_
      have ht26 := ht4.ext h26
      refine iCnd (fun h10 => ?_) (fun h10 => ?_)
      · refine iAdd (by omega) ?_
        exact hKn (i, r + 1) _ ⟨by show a + 1 ≤ i; omega, hib, by show r + 1 ≤ 5; omega, L4, ht26, hw4, hs4⟩ (by show 5 - (r + 1) < 5 - r; omega)
      · refine iSub (by omega) ?_
        refine iSub (by omega) ?_
        refine iRdO (j := j - 1) ht26.ow (by omega) (by omega) ?_
        refine iRdO (j := j) ht26.ow rfl (by omega) ?_
        refine iWr2 (i := j) (j := j - 1) encV_cell ht26.ow rfl (by omega) (by omega) (by omega) fun w31 h31 => ?_
        refine iAdd (by omega) ?_
        exact hKn25 (j + 1) _ ⟨by omega, by omega, sw L4 j (j - 1), ht26.trans h31, .step hw4 (by omega) (by omega) (by omega) (by omega) hb, hs4.out (SwR.one (a := i) (b := b) (by omega) (by omega) (by omega) (by omega) (by omega)) (.inr (Nat.le_refl _))⟩ (by omega)
    · refine iAdd (by omega) ?_
      exact hKn (i, r + 1) _ ⟨by show a + 1 ≤ i; omega, hib, by show r + 1 ≤ 5; omega, L4, ht4, hw4, hs4⟩ (by show 5 - (r + 1) < 5 - r; omega)
  · refine iAdd (by omega) ?_
    exact hKn (i, r + 1) _ ⟨by show a + 1 ≤ i; omega, hib, by show r + 1 ≤ 5; omega, L3, ht3, hw3, hs3⟩ (by show 5 - (r + 1) < 5 - r; omega)
theorem ok_slices_pdqsortCmpFunc_Si64 {lo : Nat} {v : Value} : ∀ (n : Nat) {w : World} {L : List VL} {a b : Nat} {lim : Int}, b - a ≤ n → Ow lo t_Si64 w v (evL L) → RowsV t_i64 w L → a ≤ b → b ≤ L.length → L.length ≤ 1152921504606846976 → Blw ltV a b L → 0 ≤ lim ∧ lim ≤ 64 →
    Cal Tryz.prog f_slices_pdqsortCmpFunc_Si64 #[v, .int .i64 (a : Int), .int .i64 (b : Int), .int .i64 lim, cmpV] w fun _ w' => ∃ L', Turn lo t_Si64 encV v w w' L' ∧ SwR a b L L' ∧ Srt ltV a b L' := by
  intro n
  induction n using Nat.strongRecOn with
  | ind n ih =>
  intro w L a0 b0 lim0 hn hs hrw hab hb hL hbl hlim
  apply c_slices_pdqsortCmpFunc_Si64; unfold S_slices_pdqsortCmpFunc_Si64
  refine iLp (fun s : Nat × Nat × Int × Bool × Bool => [.int .i64 (s.1 : Int), .int .i64 (s.2.1 : Int), .int .i64 s.2.2.1, .bool s.2.2.2.1, .bool s.2.2.2.2]) (fun s w' => a0 ≤ s.1 ∧ s.1 ≤ s.2.1 ∧ s.2.1 ≤ b0 ∧ (0 ≤ s.2.2.1 ∧ s.2.2.1 ≤ 64) ∧ ∃ L', Turn lo t_Si64 encV v w w' L' ∧ SwR a0 b0 L L' ∧ Blw ltV s.1 s.2.1 L' ∧ Crs ltV a0 b0 s.1 s.2.1 L') (fun s => s.2.1 - s.1) (a0, b0, lim0, true, true) rfl
    ⟨Nat.le_refl _, hab, Nat.le_refl _, hlim, L, Turn.refl hs, .refl, hbl, Crs.all⟩ ?_
  rintro ⟨a, b, lim, bal, par⟩ w2 Kn ⟨ha, hab, hbb, hlim, L1, ht1, hw1, hbl1, hcr1⟩ hKn
  have ha : a0 ≤ a := ha
  have hab : a ≤ b := hab
  have hbb : b ≤ b0 := hbb
  have hlim : 0 ≤ lim ∧ lim ≤ 64 := hlim
  have hbl1 : Blw ltV a b L1 := hbl1
  have hcr1 : Crs ltV a0 b0 a b L1 := hcr1
  have hl1 := hw1.len
  intro _
  simp only [gx]
  -- a sorted window closes the work
  have fin : ∀ {L' L'' : List VL} {w' : World} {a b : Nat}, Turn lo t_Si64 encV v w w' L'' → SwR a0 b0 L L' → SwR a b L' L'' → a0 ≤ a → b ≤ b0 → Crs ltV a0 b0 a b L' → Srt ltV a b L'' → ∃ L', Turn lo t_Si64 encV v w w' L' ∧ SwR a0 b0 L L' ∧ Srt ltV a0 b0 L' :=
    fun {L' L'' w' a b} h1 h2 h3 h4 h5 h6 h7 => ⟨L'', h1, h2.trans (h3.mono h4 h5 (by rw [h2.len]; exact hb)), h6.done h3 h4 h5 h7⟩
  refine iSub (by omega) ?_
  refine iLe ?_
  refine iCndP (fun h => ?_) (fun h => ?_)
  · refine iCall ?_
    refine (ok_slices_insertionSortV ht1.ow (hrw.turn hs (by decide) ht1 hw1.perm) hab (by omega) (by omega)).mono fun _ w3 h3 => ?_
    obtain ⟨L2, ht2, hw2, hs2⟩ := h3
    exact fin (ht1.trans ht2) hw1 hw2 ha hbb hcr1 hs2
  refine iEq ?_
  refine iCndP (fun h0 => ?_) (fun h0 => ?_)
  · refine iCall ?_
    refine (ok_slices_heapSortCmpFunc_Si64 ht1.ow (hrw.turn hs (by decide) ht1 hw1.perm) (by omega) (by omega) (by omega)).mono fun _ w3 h3 => ?_
    obtain ⟨L2, ht2, hw2, hs2⟩ := h3
    exact fin (ht1.trans ht2) hw1 hw2 ha hbb hcr1 hs2
  refine iNot ?_
  refine iJnX (fun xs w' => ∃ l2 : Int, ∃ L', xs = [.int .i64 l2] ∧ (0 ≤ l2 ∧ l2 ≤ 64) ∧ Turn lo t_Si64 encV v w w' L' ∧ SwR a b L1 L') (fun J hJ => ?_) ?_
  · refine iCnd (fun _ => ?_) (fun _ => ?_)
    · refine iCall ?_
      refine (ok_slices_breakPatternsCmpFunc_Si64 ht1.ow hab (by omega) (by omega)).mono fun _ w3 h3 => ?_
      obtain ⟨L2, ht2, hw2⟩ := h3
      refine iSub (by omega) ?_
      exact hJ _ _ ⟨lim - 1, L2, rfl, by omega, ht1.trans ht2, hw2⟩
    · exact hJ _ _ ⟨lim, L1, rfl, hlim, ht1, .refl⟩
  rintro xs w6 ⟨lim, L2, rfl, hlim, ht2, hw2⟩
  have hl2 := hw2.len
  intro _
  simp only [gx]
  refine iCall ?_
  refine (ok_slices_choosePivotCmpFunc_Si64 ht2.ow (hrw.turn hs (by decide) ht2 (hw2.perm.trans hw1.perm)) (by omega) (by omega) (by omega)).mono fun r w8 h8 => ?_
  obtain ⟨h8, t, x, rfl, hat, htb⟩ := h8
  have ht8 := ht2.ext h8
  refine iE20 ?_
  refine iE21 ?_
  refine iEq ?_
  refine iJnX (fun xs w' => ∃ t : Nat, ∃ x : Int, ∃ L', xs = [.int .i64 (t : Int), .int .i64 x] ∧ a ≤ t ∧ t < b ∧ Turn lo t_Si64 encV v w w' L' ∧ SwR a b L1 L') (fun J hJ => ?_) ?_
  · refine iCndP (fun _ => ?_) (fun _ => ?_)
    · refine iCall ?_
      refine (ok_slices_reverseRangeCmpFunc_Si64 ht8.ow hab (by omega) (by omega)).mono fun _ w3 h3 => ?_
      obtain ⟨L3, ht3, hw3⟩ := h3
      refine iSub (by omega) ?_
      refine iSub (by omega) ?_
      refine iSub (by omega) ?_
      exact hJ _ _ ⟨b - 1 - (t - a), 1, L3, by congr 2; omega, by omega, by omega, ht8.trans ht3, hw2.trans hw3⟩
    · exact hJ _ _ ⟨t, x, L2, rfl, hat, htb, ht8, hw2⟩
  clear hat htb
  rintro xs w10 ⟨t, x, L3, rfl, hat, htb, ht3, hw3⟩
  intro _
  simp only [gx]
  refine iJnX (fun xs w' => ∃ y : Bool, xs = [.bool y] ∧ Ext w10 w') (fun J hJ => ?_) ?_
  · refine iCnd (fun _ => ?_) (fun _ => ?_)
    · refine iCnd (fun _ => ?_) (fun _ => ?_)
      · refine iEq ?_
        exact hJ _ _ ⟨_, rfl, Ext.refl _⟩
      · exact hJ _ _ ⟨false, rfl, Ext.refl _⟩
    · exact hJ _ _ ⟨false, rfl, Ext.refl _⟩
  rintro xs w13 ⟨y, rfl, h13⟩
  intro _
  simp only [gx]
  have ht13 := ht3.ext h13
  have hl3 := hw3.len
  refine iJnX (fun _ w' => ∃ L', Turn lo t_Si64 encV v w w' L' ∧ SwR a b L1 L') (fun J hJ => ?_) ?_
  · refine iCnd (fun _ => ?_) (fun _ => ?_)
    · refine iCall ?_
      refine (ok_slices_partialInsertionSortCmpFunc_Si64 ht13.ow (hrw.turn hs (by decide) ht13 (hw3.perm.trans hw1.perm)) (by omega) (by omega) (by omega) (hbl1.keep hw3 (Nat.le_refl _) (Nat.le_refl _))).mono fun r w3 h3 => ?_
      obtain ⟨y', L4, rfl, ht4, hw4, hs4⟩ := h3
      refine iCnd (fun hy => ?_) (fun hy => ?_)
      · exact fin (ht13.trans ht4) hw1 (hw3.trans hw4) ha hbb hcr1 (hs4 hy)
      · exact hJ _ _ ⟨L4, ht13.trans ht4, hw3.trans hw4⟩
    · exact hJ _ _ ⟨L3, ht13, hw3⟩
  clear ht3 hw3 ht13 ht8 ht2 hw2 hl2 hl3
  rintro xs w15 ⟨L3, ht3, hw3⟩
  have hl3 := hw3.len
  have hw3' : SwR a0 b0 L L3 := hw1.trans (hw3.mono ha hbb (by omega))
  have hbl3 : Blw ltV a b L3 := hbl1.keep hw3 (Nat.le_refl _) (Nat.le_refl _)
  have hcr3 : Crs ltV a0 b0 a b L3 := hcr1.keep hw3 ha hbb
  intro _
  refine iJnB (decide (0 < a) && !ltV (gt L3 (a - 1)) (gt L3 t)) w15 (fun J hJ => ?_) (fun w18 h18 => ?_)
  · refine iLt ?_
    refine iCndP (fun h5 => ?_) (fun h5 => ?_)
    · rw [decide_eq_true (show 0 < a by omega), Bool.true_and] at hJ
      refine iSub (by omega) ?_
      refine iRdO (j := a - 1) ht3.ow (by omega) (by omega) ?_
      refine iRdO (j := t) ht3.ow rfl (by omega) ?_
      exact iCmN (hrw.turn hs (by decide) ht3 hw3'.perm) (by omega) (by omega) hJ
    · rw [decide_eq_false (show ¬ 0 < a by omega), Bool.false_and] at hJ
      exact fun _ x8 _ x9 => hJ _ (x8.trans x9)
  intro _
  simp only [gx]
  have ht18 := ht3.ext h18
  cases hc : decide (0 < a) && !ltV (gt L3 (a - 1)) (gt L3 t)
  rotate_left
  · rw [Bool.and_eq_true, decide_eq_true_eq, Bool.not_eq_true'] at hc
    refine iCndT rfl ?_
    refine iCall ?_
    refine (ok_slices_partitionEqualCmpFunc_Si64 ht18.ow (hrw.turn hs (by decide) ht18 hw3'.perm) hat htb (by omega) (by omega)).mono fun r w21 h21 => ?_
    obtain ⟨L4, m, rfl, ht4, hw4, ham, hmb, hle⟩ := h21
    have hge : ∀ k, a ≤ k → k < b → ltV (gt L4 k) (gt L3 t) = false := hw4.all (p := fun z => ltV z (gt L3 t) = false) fun k hk hk' => ordrV.tr hc.2 (hbl3 k hk hk' (by omega))
    refine hKn (m, b, lim, bal, par) _ ⟨by show a0 ≤ m; omega, hmb, hbb, hlim, L4, ht18.trans ht4, hw3'.trans (hw4.mono ha hbb (by rw [hw3'.len]; omega)), equal_blw ordrV hge hle ham, equal_up ordrV (hcr3.keep hw4 ha hbb) hge hle hmb⟩ (by show b - m < b - a; omega)
  refine iCndF rfl ?_
  refine iCall ?_
  refine (ok_slices_partitionCmpFunc_Si64 ht18.ow (hrw.turn hs (by decide) ht18 hw3'.perm) hat htb (by omega) (by omega)).mono fun r w22 h22 => ?_
  obtain ⟨L4, m, y', rfl, ht4, hw4, ham, hmb, hpt⟩ := h22
  have hl4 := hw4.len
  have ht22 := ht18.trans ht4
  have hw4' : SwR a0 b0 L L4 := hw3'.trans (hw4.mono ha hbb (by rw [hw3'.len]; omega))
  have hbl4 : Blw ltV a b L4 := hbl3.keep hw4 (Nat.le_refl _) (Nat.le_refl _)
  have hcr4 : Crs ltV a0 b0 a b L4 := hcr3.keep hw4 ha hbb
  refine iE20 ?_
  refine iE21 ?_
  refine iSub (by omega) ?_
  refine iSub (by omega) ?_
  refine iQuo (by omega) ?_
  refine iLt ?_
  refine iCndP (fun h5 => ?_) (fun h5 => ?_)
  · refine iLe ?_
    refine iCall ?_
    refine (ih (m - a) (by omega) (Nat.le_refl _) ht22.ow (hrw.turn hs (by decide) ht22 hw4'.perm) ham (by omega) (by omega) (hbl4.low (by omega)) hlim).mono fun _ w23 h23 => ?_
    obtain ⟨L5, ht5, hw5, hs5⟩ := h23
    have hw5' : SwR a b L4 L5 := hw5.mono (Nat.le_refl _) (by omega) (by omega)
    have hpt5 := hpt.lowS hw5
    refine iAdd (by omega) ?_
    exact hKn (m + 1, b, lim, _, y') _ ⟨by show a0 ≤ m + 1; omega, by show m + 1 ≤ b; omega, hbb, hlim, L5, ht22.trans ht5, hw4'.trans (hw5'.mono ha hbb (by rw [hw4'.len]; omega)), hpt5.blw, hpt5.up ordrV (hcr4.keep hw5' ha hbb) hs5⟩ (by show b - (m + 1) < b - a; omega)
  · refine iLe ?_
    refine iAdd (by omega) ?_
    refine iCall ?_
    refine (ih (b - (m + 1)) (by omega) (a := m + 1) (Nat.le_refl _) ht22.ow (hrw.turn hs (by decide) ht22 hw4'.perm) (by omega) (by omega) (by omega) hpt.blw hlim).mono fun _ w23 h23 => ?_
    obtain ⟨L5, ht5, hw5, hs5⟩ := h23
    have hw5' : SwR a b L4 L5 := hw5.mono (by omega) (Nat.le_refl _) (by omega)
    have hpt5 := hpt.highS hw5
    exact hKn (a, m, lim, _, y') _ ⟨ha, ham, by show m ≤ b0; omega, hlim, L5, ht22.trans ht5, hw4'.trans (hw5'.mono ha hbb (by rw [hw4'.len]; omega)), (hbl4.keep hw5' (Nat.le_refl _) (Nat.le_refl _)).low (Nat.le_of_lt hmb), hpt5.down ordrV (hcr4.keep hw5' ha hbb) hs5⟩ (by show m - a < b - a; omega)
theorem ok_slices_SortFunc_SSi64_Si64 {lo : Nat} {w : World} {v : Value} {L : List VL} (hs : Ow lo t_Si64 w v (evL L)) (hrw : RowsV t_i64 w L) (hL : L.length ≤ 1152921504606846976) :
    Cal Tryz.prog f_slices_SortFunc_SSi64_Si64 #[v, cmpV] w fun _ w' => ∃ L' : List VL, Ow lo t_Si64 w' v (evL L') ∧ Ch (fun c => v.ownBlock = some c) w w' ∧ List.Perm L' L ∧ L'.Pairwise fun x y => ltV y x = false := by
  apply c_slices_SortFunc_SSi64_Si64; unfold S_slices_SortFunc_SSi64_Si64
  refine iLenS hs.sl ?_
  rw [evs_len]
  refine iConvU (by omega) ?_
  refine iCall ?_
  refine (ok_math_bits_Len (by omega) w).mono fun r w1 h1 => ?_
  obtain ⟨h1, k, rfl, -, -, hk⟩ := h1
  refine iCall ?_
  refine (ok_slices_pdqsortCmpFunc_Si64 (a := 0) (b := L.length) (lim := (k : Int)) L.length (by omega) (hs.ext h1) (hrw.ext h1) (Nat.zero_le _) (Nat.le_refl _) hL (fun k _ _ h => by omega) (by omega)).mono fun _ w2 h2 => ?_
  obtain ⟨L', ht, hw, hst⟩ := h2
  rw [← hw.len] at hst
  exact ⟨L', ht.ow, (h1.ch (S := fun c => v.ownBlock = some c)).trans ht.ch fun _ e => .inl e, hw.perm, hst.pairwise⟩
end Go.Proofs.YtmefbjdioaahdaaGreatDoor
