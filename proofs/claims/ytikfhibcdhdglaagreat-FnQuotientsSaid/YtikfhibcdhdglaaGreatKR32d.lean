/- The proof of FnQuotients, part 4 of 5. Conditions: none. -/
import Derived.Test.YtikfhibcdhdglaaGreatKR32c
import Derived.Lib.AppendZerosOnto
import Derived.Lib.Overlaps
import Derived.Laws.StructEq
/- Contracts: lists of classes, which of them are congruences, the program's quotient and least form of a poset. Conditions: none. -/
namespace Go.Proofs.YtikfhibcdhdglaaGreat
open Go.Vc
theorem toNat_nats (c : List Nat) : (nats c).map Int.toNat = c := by
  unfold nats
  rw [List.map_map]
  exact (List.map_congr_left fun x _ => (rfl : (Int.toNat ∘ Int.ofNat) x = id x)).trans (List.map_id c)
/-- The list is a congruence of the frame. -/
def congB (f : Fr) (l : List Int) : Bool := decide (l.length = f.n) && (clsI 0 l && corB f (l.map Int.toNat))
theorem congB_nats (f : Fr) (c : List Nat) : congB f (nats c) = (decide (c.length = f.n) && (grB 0 c && corB f c)) := by
  unfold congB
  rw [nats_length, toNat_nats]
  have := clsI_of c 0
  rw [show ((0 : Nat) : Int) = 0 from rfl] at this
  rw [this]
theorem congB_iff {f : Fr} {l : List Int} : congB f l = true ↔ ∃ c, l = nats c ∧ c.length = f.n ∧ grB 0 c = true ∧ corB f c = true := by
  constructor
  · intro h
    have h' := h
    unfold congB at h'
    rw [Bool.and_eq_true, Bool.and_eq_true] at h'
    obtain ⟨c, rfl, hg⟩ := clsI_nats l 0 h'.2.1
    rw [congB_nats, Bool.and_eq_true, Bool.and_eq_true, decide_eq_true_eq] at h
    exact ⟨c, rfl, h⟩
  · rintro ⟨c, rfl, h⟩
    rw [congB_nats, Bool.and_eq_true, Bool.and_eq_true, decide_eq_true_eq]
    exact h
theorem ok_slices_MaxG {v : Value} {w : World} {c : List Nat} (hs : SlN w v c) (hg : grB 0 c = true) (hn : 0 < c.length) : Ret Tryz.prog f_slices_Max_Si64_i64 #[v] w (.int .i64 ((topG 0 c - 1 : Nat) : Int)) := by
  have hcap := hs.len
  have hone : topG 0 (c.take 1) = 1 := by
    rw [topG_take hn]
    have h1 := grB_at hg hn
    have h2 : topG 0 (c.take 0) = 0 := rfl
    rw [h2] at h1 ⊢
    rw [if_pos (by omega)]
  apply c_slices_Max_Si64_i64; unfold S_slices_Max_Si64_i64
  refine iLenN hs ?_
  refine iLt ?_
  refine iJnE True w (fun J hJ => iCndF (decide_eq_false (by omega)) (hJ _ (Ext.refl _) trivial)) fun w0 x0 _ => ?_
  intro _
  refine iIaNN (hs.ext x0) hn fun p hp => iLd hp ?_
  have h0 : c.getD 0 0 = topG 0 (c.take 1) - 1 := by
    have h1 := grB_at hg hn
    have h2 : topG 0 (c.take 0) = 0 := rfl
    rw [h2] at h1
    omega
  rw [h0]
  refine iLp (fun k : Nat => [.int .i64 ((topG 0 (c.take k) - 1 : Nat) : Int), .int .i64 (k : Int)]) (fun k w' => 1 ≤ k ∧ k ≤ c.length ∧ Ext w w') (fun k => c.length - k) 1 (by rw [hone]; rfl) ⟨Nat.le_refl _, hn, x0⟩ ?_
  rintro k w2 Kn ⟨hk1, hk, x2⟩ hKn
  have hs2 := hs.ext x2
  intro _
  simp only [gx]
  refine iLenN hs2 ?_
  refine iLt (iCndP (fun h => ?_) (fun h => ?_))
  · have hkl : k < c.length := by omega
    refine iIaNN hs2 hkl fun p hp => iLd hp ?_
    have h1 := grB_at hg hkl
    have hp1 := (topG_le ((c.take k).drop 1) 1).1
    have hpos : 1 ≤ topG 0 (c.take k) := by
      have e : topG 0 (c.take k) = topG (topG 0 ((c.take k).take 1)) ((c.take k).drop 1) := by rw [← topG_app, List.take_append_drop]
      rw [List.take_take, Nat.min_eq_left hk1, hone] at e
      omega
    refine iMaxN (iAdd (by omega) ?_)
    rw [show max (topG 0 (c.take k) - 1) (c.getD k 0) = topG 0 (c.take (k + 1)) - 1 by
      rw [topG_take hkl]
      split <;> omega]
    exact hKn (k + 1) _ ⟨by omega, by omega, x2⟩ (by omega)
  · rw [List.take_of_length_le (by omega)]
    exact ⟨rfl, x2⟩
theorem ok_impl_classCount {v : Value} {w : World} {c : List Nat} (hs : SlN w v c) (hg : grB 0 c = true) : Ret Tryz.prog f_impl_classCount #[v] w (.int .i64 ((topG 0 c : Nat) : Int)) := by
  have hcap := hs.len
  have ht := topG_le c 0
  apply c_impl_classCount; unfold S_impl_classCount
  refine iLenN hs ?_
  refine iEq (iCndP (fun h => ?_) (fun h => ?_))
  · have : c = [] := List.length_eq_zero_iff.1 (by omega)
    subst this
    exact ⟨rfl, Ext.refl _⟩
  · have hn : 0 < c.length := by omega
    have hpos : 1 ≤ topG 0 c := by
      have := grB_lt c 0 hg _ (List.getElem_mem hn)
      omega
    refine iRet (ok_slices_MaxG hs hg hn) fun w1 x1 => ?_
    refine iAdd (by omega) ?_
    rw [show ((topG 0 c - 1 : Nat) : Int) + 1 = (topG 0 c : Int) by omega]
    exact ⟨rfl, x1⟩
theorem ok_impl_quotientRelation {f : Fr} (hf : f.ok) {v vc : Value} {w : World} (hs : SlN w v f.a) {c : List Nat} (hc : SlN w vc c) (hg : grB 0 c = true) (hl : c.length = f.n) : Cal Tryz.prog f_impl_quotientRelation #[v, vc] w fun r w' => Ext w w' ∧ Ow w.heap.size t_i64 w' r (ints (nats (qR f c f.n))) := by
  have h8 := hf.1
  have ht := topG_le c 0
  apply c_impl_quotientRelation; unfold S_impl_quotientRelation
  refine iRet (ok_impl_classCount hc hg) fun w1 x1 => ?_
  refine iMk (by omega) (by omega) rfl fun b w2 hb x2 hB => ?_
  have X2 := x1.trans x2
  have hs1 := x1.size
  have ho : Ow w.heap.size t_i64 w2 (.slice (some ⟨b, 0, none⟩) (topG 0 c) (topG 0 c)) (ints (nats (qR f c 0))) := by
    have : ints (nats (qR f c 0)) = List.replicate (topG 0 c) (.int .i64 0) := by simp [qR, ints, nats]
    rw [this]
    exact Ow.ofBlk hB (by omega) (List.length_replicate) (by omega)
  generalize hvv : (Value.slice (some ⟨b, 0, none⟩) (topG 0 c) (topG 0 c)) = vo at *
  refine iLenN (hs.ext X2) ?_
  refine iLp (fun k : Nat => [.int .i64 (k : Int)]) (fun k w' => k ≤ f.n ∧ Ext w w' ∧ Ow w.heap.size t_i64 w' vo (ints (nats (qR f c k)))) (fun k => f.n - k) 0 rfl ⟨Nat.zero_le _, X2, ho⟩ ?_
  rintro k w3 Kn ⟨hk, x3, ho⟩ hKn
  intro _
  simp only [gx]
  rw [hf.2.1]
  refine iLt (iCndP (fun h => ?_) (fun h => ?_))
  · have hkn : k < f.n := by omega
    have hs3 := hs.ext x3
    have hc3 := hc.ext x3
    have hyk : c.getD k 0 < topG 0 c := grB_lt c 0 hg _ (getD_mem (by omega))
    have hql := qR_len f c k
    have hqk : (ints (nats (qR f c k))).length = topG 0 c := by rw [ints_length, nats_length, hql]
    refine iIaNN hs3 (by rw [hf.2.1]; exact hkn) fun p hp => iLd hp ?_
    refine iIaNN hc3 (by omega) fun p hp => iLd hp ?_
    refine iIaNN (l := qR f c k) ho.sl (by omega) fun p hp => iLd hp ?_
    refine iRetQ (fun w4 x4 => ok_impl_mapMask (hc3.ext x4) (by omega) (fun y hy => by have := grB_lt c 0 hg y hy; omega) (f.a.getD k 0) (by rw [hl]; exact hf.lt hkn)) ?_
    have hq1 : (qR f c k).getD (c.getD k 0) 0 < 2 ^ topG 0 c := qR_lt hf hg k (by omega) _ (getD_mem (by omega))
    have hq2 : img c (f.a.getD k 0) < 2 ^ topG 0 c := img_ltQ (grB_lt c 0 hg) (fr63 hf _)
    have hp63 : 2 ^ topG 0 c ≤ 2 ^ 8 := Nat.pow_le_pow_right (by omega) (by omega)
    refine iBOr (by omega) (by omega) ?_
    refine iIaOwE ho (j := c.getD k 0) (by omega) fun bu hbu hwr => ?_
    intro w5 x5
    obtain ⟨h1, h2, h3⟩ := hwr w5 _ rfl (ho.ext x5)
    rw [List.getElem?_eq_getElem (by omega)] at h1
    refine iSt h1 h2 rfl ?_
    have ho5 := h3 (.int .i64 (((qR f c k).getD (c.getD k 0) 0 ||| img c (f.a.getD k 0) : Nat) : Int))
    rw [← ints_nats_set] at ho5
    have hu := Upd.setCell w5 bu (c.getD k 0) (.int .i64 (((qR f c k).getD (c.getD k 0) 0 ||| img c (f.a.getD k 0) : Nat) : Int))
    have X5 := (x3.trans x5).upd hu (ho.blk bu hbu).1
    intro w6 x6
    refine iAdd (by omega) ?_
    exact hKn (k + 1) _ ⟨hkn, X5.trans x6, ho5.ext x6⟩ (by omega)
  · obtain rfl : k = f.n := by omega
    exact ⟨x3, ho⟩
theorem ok_impl_areClasses {v : Value} {w : World} {l : List Int} (hs : SlI w v l) : Ret Tryz.prog f_impl_areClasses #[v] w (.bool (clsI 0 l)) := by
  have hcap := hs.len
  apply c_impl_areClasses; unfold S_impl_areClasses
  refine iLenI hs ?_
  refine iLp (fun s : Nat × Nat => [.int .i64 (s.1 : Int), .int .i64 (s.2 : Int)]) (fun s w' => s.2 ≤ l.length ∧ s.1 ≤ s.2 ∧ Ext w w' ∧ clsI 0 l = clsI (s.1 : Int) (l.drop s.2)) (fun s => l.length - s.2) (0, 0) rfl ⟨Nat.zero_le _, Nat.le_refl _, Ext.refl _, rfl⟩ ?_
  rintro ⟨t, k⟩ w2 Kn ⟨hk, ht, x2, he⟩ hKn
  have hk : k ≤ l.length := hk
  have ht : t ≤ k := ht
  have he : clsI 0 l = clsI (t : Int) (l.drop k) := he
  have x2 : Ext w w2 := x2
  intro _
  simp only [gx]
  refine iLt (iCndP (fun h => ?_) (fun h => ?_))
  · have hkl : k < l.length := by omega
    rw [List.drop_eq_getElem_cons hkl] at he
    have he : clsI 0 l = (decide (0 ≤ l[k] ∧ l[k] ≤ (t : Int)) && clsI (if l[k] = (t : Int) then (t : Int) + 1 else (t : Int)) (l.drop (k + 1))) := he
    refine iIaN (hs.ext x2) hkl fun p hp => iLd hp ?_
    rw [show l.getD k 0 = l[k] by simp [hkl]]
    refine iRet (ok_impl_inRange _ _ _ w2) fun w3 x3 => iNot ?_
    by_cases h1 : 0 ≤ l[k] ∧ l[k] ≤ (t : Int)
    · rw [decide_eq_true h1, Bool.true_and] at he
      rw [decide_eq_true h1]
      refine iCndF rfl ?_
      refine iEq (iCndP (fun h2 => ?_) (fun h2 => ?_))
      · rw [if_pos h2] at he
        refine iAdd (by omega) (iAdd (by omega) ?_)
        exact hKn (t + 1, k + 1) _ ⟨by show k + 1 ≤ l.length; omega, by show t + 1 ≤ k + 1; omega, x2.trans x3, he⟩ (by show l.length - (k + 1) < l.length - k; omega)
      · rw [if_neg h2] at he
        refine iAdd (by omega) ?_
        exact hKn (t, k + 1) _ ⟨by show k + 1 ≤ l.length; omega, by show t ≤ k + 1; omega, x2.trans x3, he⟩ (by show l.length - (k + 1) < l.length - k; omega)
    · rw [decide_eq_false h1, Bool.false_and] at he
      rw [decide_eq_false h1, he]
      exact iCndT rfl ⟨rfl, x2.trans x3⟩
  · rw [List.drop_of_length_le (by omega)] at he
    rw [he]
    exact ⟨rfl, x2⟩
theorem ok_impl_isMorphism_cls {f : Fr} (hf : f.ok) {v0 v1 v : Value} {w : World} (h0 : SlN w v0 f.a) {c : List Nat} (h1 : SlN w v1 (qR f c f.n)) (n1 : Int) (hs : SlN w v c) (hl : c.length = f.n) (hg : grB 0 c = true) :
    Ret Tryz.prog f_impl_isMorphism #[.agg #[.int .i64 (f.n : Int), v0], .agg #[.int .i64 n1, v1], v] w (.bool (corB f c)) := by
  have hf8 := hf.1
  have ht := topG_le c 0
  apply c_impl_isMorphism; unfold S_impl_isMorphism
  refine iNew fun b3 w1 hb3 x1 hB3 => ?_
  refine iNew fun b4 w2 hb4 x2 hB4 => ?_
  refine iNew fun b5 w3 hb5 x3 hB5 => ?_
  have hB3 : Blk _ w3 b3 [.int .i64 (f.n : Int), v0] := (hB3.ext x2).ext x3
  have hB4 : Blk _ w3 b4 [.int .i64 n1, v1] := hB4.ext x3
  have hcv : Value.cells v = #[v] := by obtain ⟨a, c, rfl, _⟩ := hs; rfl
  have hB5 : Blk 24 w3 b5 [v] := by rw [hcv] at hB5; exact hB5
  have hX := (x1.trans x2).trans x3
  refine iLdA hB3 rfl ?_
  refine iRet (v := .bool (corB f c)) ?_ fun w4 x4 => ⟨rfl, hX.trans x4⟩
  have key := ok_impl_Frame_everyWorld (n := f.n) (fv := .func (.func f_impl_isMorphism_1) #[] #[.pointer (some ⟨b5, 0, none⟩), .pointer (some ⟨b3, 0, none⟩), .pointer (some ⟨b4, 0, none⟩)]) (u := v0) (fun x => decide (img c (f.a.getD x 0) = (qR f c f.n).getD (c.getD x 0) 0)) (by omega) w3 ?_
  · have : (List.range f.n).all (fun x => decide (img c (f.a.getD x 0) = (qR f c f.n).getD (c.getD x 0) 0)) = corB f c := by
      rw [Bool.eq_iff_iff, cor_iff hf hg, List.all_eq_true, hl]
      exact ⟨fun h x hx => of_decide_eq_true (h x (List.mem_range.2 hx)), fun h x hx => decide_eq_true (h x (List.mem_range.1 hx))⟩
    rw [this] at key; exact key
  intro w' x' x hx
  refine iClo rfl ?_
  refine c_impl_isMorphism_1 ?_; unfold S_impl_isMorphism_1
  have hw := hX.trans x'
  have hxl : f.a.getD x 0 < 2 ^ c.length := by rw [hl]; exact hf.lt hx
  have hyx : c.getD x 0 < topG 0 c := grB_lt c 0 hg _ (getD_mem (by omega))
  refine iLdB (hB5.ext x') (v := v) rfl ?_
  refine iFa (iLdB (hB3.ext x') (i := 1) (v := v0) rfl ?_)
  refine iIaNN (h0.ext hw) (by rw [hf.2.1]; exact hx) fun p hp => iLd hp ?_
  refine iRetQ (fun w'' x'' => ok_impl_mapMask ((hs.ext hw).ext x'') (by omega) (fun y h => by have := grB_lt c 0 hg y h; omega) _ hxl) ?_
  refine iFa (iLdB (hB4.ext x') (i := 1) (v := v1) rfl ?_)
  refine iLdB (hB5.ext x') (v := v) rfl ?_
  refine iIaNN (hs.ext hw) (by omega) fun p hp => iLd hp ?_
  refine iIaNN (h1.ext hw) (by rw [qR_len]; exact hyx) fun p hp => iLd hp ?_
  refine iEq ?_
  refine fun w1 x1 => ⟨?_, x1⟩
  congr 1
  exact decide_eq_decide.2 (by omega)
theorem ok_impl_isCongruence {f : Fr} (hf : f.ok) {v0 v : Value} {w : World} (h0 : SlN w v0 f.a) {l : List Int} (hs : SlI w v l) : Ret Tryz.prog f_impl_isCongruence #[.agg #[.int .i64 (f.n : Int), v0], v] w (.bool (congB f l)) := by
  have hf8 := hf.1
  have hcap := hs.len
  apply c_impl_isCongruence; unfold S_impl_isCongruence
  refine iNew fun b w1 hb x1 hB => ?_
  have hB : Blk _ w1 b [.int .i64 (f.n : Int), v0] := hB
  have hs1 := hs.ext x1
  refine iJnB (!(decide (l.length = f.n) && clsI 0 l)) w1 (fun J hJ => ?_) (fun w3 x3 => ?_)
  · refine iRetQ (fun w' h' => ok_impl_size_i64 (Sl.ext hs1 h')) ?_
    rw [ints_length]
    refine iFa (iLdB hB (i := 0) (v := .int .i64 (f.n : Int)) rfl ?_)
    refine iNe (iCndP (fun h => ?_) (fun h => ?_))
    · have e : (!(decide (l.length = f.n) && clsI 0 l)) = true := by rw [decide_eq_false (by omega)]; rfl
      rw [e] at hJ
      exact fun w4 x4 => hJ _ x4
    · refine iRetQ (fun w' h' => ok_impl_areClasses (hs1.ext h')) ?_
      refine iNot ?_
      rw [decide_eq_true (show l.length = f.n by omega), Bool.true_and] at hJ
      exact fun w4 x4 => hJ _ x4
  · intro _
    simp only [gx]
    cases hg : decide (l.length = f.n) && clsI 0 l
    · refine iCndT rfl ⟨?_, x1.trans x3⟩
      unfold congB
      rw [← Bool.and_assoc, hg, Bool.false_and]
    · rw [Bool.and_eq_true, decide_eq_true_eq] at hg
      obtain ⟨c, rfl, hgr⟩ := clsI_nats l 0 hg.2
      have hl := hg.1
      rw [nats_length] at hl
      rw [congB_nats, decide_eq_true hl, hgr, Bool.true_and, Bool.true_and]
      refine iCndF rfl (iLdA (hB.ext x3) rfl ?_)
      refine iFa (iLdB (hB.ext x3) (i := 1) (v := v0) rfl ?_)
      intro w6 x6
      have X6 := (x1.trans x3).trans x6
      refine iCall ((ok_impl_quotientRelation hf (h0.ext X6) (hs.ext X6) hgr hl).mono ?_)
      rintro r w7 ⟨x7, ho⟩
      refine ⟨x7, fun w8 x8 => ?_⟩
      refine iCall ((ok_impl_frameOf (ho.ext x8)).mono ?_)
      rintro _ w9 ⟨x9, v', rfl, ho'⟩
      have X9 := ((X6.trans x7).trans x8).trans x9
      refine ⟨x9, iRetQ (fun w' h' => ok_impl_isMorphism_cls hf (h0.ext (X9.trans h')) (SlI.ext ho'.sl h') _ (hs.ext (X9.trans h')) hl hgr) ?_⟩
      exact fun w10 x10 => ⟨rfl, X9.trans x10⟩
/-- What QuotientPoset answers. -/
def quoOut (n : Int) (l m : List Int) : Int × List Int × Int :=
  if posetOk n l = true then (if congB (frOf n l) m = true then (((quoF (frOf n l) (m.map Int.toNat)).n : Int), nats (quoF (frOf n l) (m.map Int.toNat)).a, 0) else (0, [], 5)) else (0, [], 1)
theorem quoOut_bad {n : Int} {l m : List Int} (h : posetOk n l = false) : quoOut n l m = (0, [], 1) := by unfold quoOut; rw [if_neg (by rw [h]; exact Bool.false_ne_true)]
theorem quoOut_no {n : Int} {l m : List Int} (h : posetOk n l = true) (h2 : congB (frOf n l) m = false) : quoOut n l m = (0, [], 5) := by unfold quoOut; rw [if_pos h, if_neg (by rw [h2]; exact Bool.false_ne_true)]
theorem quoOut_at {n : Int} {l : List Int} {c : List Nat} (h : posetOk n l = true) (h2 : congB (frOf n l) (nats c) = true) : quoOut n l (nats c) = (((quoF (frOf n l) c).n : Int), nats (quoF (frOf n l) c).a, 0) := by unfold quoOut; rw [if_pos h, if_pos h2, toNat_nats]
theorem ok_impl_QuotientPoset {n : Int} {l m : List Int} {v vm : Value} {w : World} (hs : SlI w v l) (hm : SlI w vm m) : Cal Tryz.prog f_impl_QuotientPoset #[.agg #[.int .i64 n, v], vm] w fun r w' => Ext w w' ∧ ∃ u, r = .tuple #[.agg #[.int .i64 (quoOut n l m).1, u], .int .i64 (quoOut n l m).2.2] ∧ Ow w.heap.size t_i64 w' u (ints (quoOut n l m).2.1) := by
  apply c_impl_QuotientPoset; unfold S_impl_QuotientPoset
  refine iNew fun b1 w1 hb1 x1 hB1 => ?_
  refine iNew fun b2 w2 hb2 x2 hB2 => ?_
  have hB1 : Blk _ w2 b1 [.int .i64 n, v] := hB1.ext x2
  have X2 := x1.trans x2
  have hz1 := x1.size
  refine iLdA hB1 rfl ?_
  refine iRet (ok_impl_isPoset (hs.ext X2) n) fun w3 x3 => iNot ?_
  have X3 := X2.trans x3
  cases hp : posetOk n l
  · rw [quoOut_bad hp]
    refine iCndT rfl (iBuild (cs := #[.int .i64 0, .slice none 0 0]) (by simp [Instr.fill]) ?_)
    refine iStAB (hB2.ext x3) rfl rfl ((Ow.nil 0 t_i64 w3).pair 0) fun w4 hu hB => iLdA hB rfl ?_
    exact ⟨X3.upd hu (by omega), _, rfl, Ow.nil _ _ _⟩
  obtain ⟨hP, hn, hl⟩ := posetOk_po hp
  have hf := hP.ok
  refine iCndF rfl (iLdA (hB1.ext x3) rfl ?_)
  refine iRet (ok_impl_Poset_frame (hs.ext X3) n) fun w6 x6 => ?_
  have X6 := X3.trans x6
  have hs6 : SlN w6 v (frOf n l).a := by
    have := hs.ext X6
    rw [hl] at this; exact this
  have hfl : (l.length : Int) = ((frOf n l).n : Int) := by
    have := (posetOk_frame hp).2
    omega
  rw [hfl]
  refine iRet (ok_impl_isCongruence hf hs6 (hm.ext X6)) fun w7 x7 => iNot ?_
  have X7 := X6.trans x7
  cases hc : congB (frOf n l) m
  · rw [quoOut_no hp hc]
    refine iCndT rfl (iBuild (cs := #[.int .i64 0, .slice none 0 0]) (by simp [Instr.fill]) ?_)
    refine iStAB (hB2.ext (x3.trans (x6.trans x7))) rfl rfl ((Ow.nil 0 t_i64 w7).pair 0) fun w4 hu hB => iLdA hB rfl ?_
    exact ⟨X7.upd hu (by omega), _, rfl, Ow.nil _ _ _⟩
  obtain ⟨c, rfl, hcl, hg, hcor⟩ := congB_iff.1 hc
  rw [quoOut_at hp hc]
  refine iCndF rfl ?_
  refine iFa (iLdB (hB1.ext (x3.trans (x6.trans x7))) (i := 1) (v := v) rfl ?_)
  refine iCall ((ok_impl_quotientRelation hf (hs6.ext x7) (hm.ext X7) hg hcl).mono ?_)
  rintro r w10 ⟨x10, ho⟩
  refine iCall ((ok_impl_posetOf ho).mono ?_)
  rintro _ w11 ⟨x11, rfl⟩
  have hq : qR (frOf n l) c (frOf n l).n = (quoF (frOf n l) c).a := by
    have := qR_quoL hf hg hcor
    rw [hcl] at this; exact this
  rw [hq] at ho ⊢
  have hql : (quoF (frOf n l) c).a.length = (quoF (frOf n l) c).n := quoF_a hcl hg
  rw [hql]
  have ho := ho.ext x11
  have hz := X7.size
  have hB11 := hB2.ext (((x3.trans (x6.trans x7)).trans x10).trans x11)
  have hne : r.ownBlock ≠ some b2 := fun e => by have := (ho.blk b2 e).1; have := (hB2.ext (x3.trans (x6.trans x7))).lt; omega
  refine iStAB hB11 rfl rfl (ho.pair _) fun w12 hu hB => iLdA hB rfl ?_
  exact ⟨((X7.trans x10).trans x11).upd hu (by omega), _, rfl, (ho.mono hz).upd hu hne⟩
theorem ok_spec_l21Partition {v : Value} {w : World} {l : List Int} (hs : SlI w v l) (n : Int) : Ret Tryz.prog f_spec_l21Partition #[v, .int .i64 n] w (.bool (clsI 0 l && decide ((l.length : Int) = n))) := by
  have hcap := hs.len
  apply c_spec_l21Partition; unfold S_spec_l21Partition
  refine iLp (fun s : Nat × Nat => [.int .i64 (s.1 : Int), .int .i64 (s.2 : Int)]) (fun s w' => s.2 ≤ l.length ∧ s.1 ≤ s.2 ∧ Ext w w' ∧ clsI 0 l = clsI (s.1 : Int) (l.drop s.2)) (fun s => l.length - s.2) (0, 0) rfl ⟨Nat.zero_le _, Nat.le_refl _, Ext.refl _, rfl⟩ ?_
  rintro ⟨t, k⟩ w2 Kn ⟨hk, ht, x2, he⟩ hKn
  have hk : k ≤ l.length := hk
  have ht : t ≤ k := ht
  have he : clsI 0 l = clsI (t : Int) (l.drop k) := he
  have x2 : Ext w w2 := x2
  intro _
  simp only [gx]
  refine iLenI (hs.ext x2) ?_
  refine iLt (iCndP (fun h => ?_) (fun h => ?_))
  · have hkl : k < l.length := by omega
    have eg : l.getD k 0 = l[k] := by simp [hkl]
    rw [List.drop_eq_getElem_cons hkl] at he
    have he : clsI 0 l = (decide (0 ≤ l[k] ∧ l[k] ≤ (t : Int)) && clsI (if l[k] = (t : Int) then (t : Int) + 1 else (t : Int)) (l.drop (k + 1))) := he
    refine iIaN (hs.ext x2) hkl fun p hp => iLd hp ?_
    rw [eg]
    refine iRet (ok_spec_l01In _ _ _ w2) fun w3 x3 => iNot ?_
    by_cases h1 : 0 ≤ l[k] ∧ l[k] ≤ (t : Int)
    · rw [decide_eq_true h1, Bool.true_and] at he
      rw [decide_eq_true h1]
      refine iCndF rfl ?_
      refine iIaN (hs.ext (x2.trans x3)) hkl fun p hp => iLd hp ?_
      rw [eg]
      refine iEq (iCndP (fun h2 => ?_) (fun h2 => ?_))
      · rw [if_pos h2] at he
        refine iAdd (by omega) (iAdd (by omega) ?_)
        exact hKn (t + 1, k + 1) _ ⟨by show k + 1 ≤ l.length; omega, by show t + 1 ≤ k + 1; omega, x2.trans x3, he⟩ (by show l.length - (k + 1) < l.length - k; omega)
      · rw [if_neg h2] at he
        refine iAdd (by omega) ?_
        exact hKn (t, k + 1) _ ⟨by show k + 1 ≤ l.length; omega, by show t ≤ k + 1; omega, x2.trans x3, he⟩ (by show l.length - (k + 1) < l.length - k; omega)
    · rw [decide_eq_false h1, Bool.false_and] at he
      rw [decide_eq_false h1, he]
      exact iCndT rfl ⟨by rw [Bool.false_and], x2.trans x3⟩
  · rw [List.drop_of_length_le (by omega)] at he
    rw [he]
    refine iLenI (hs.ext x2) (iEq ⟨?_, x2⟩)
    show Value.bool _ = .bool (true && _)
    rw [Bool.true_and]
theorem ok_spec_QuotientPoset {n : Int} {l m : List Int} {v vm : Value} {w : World} (hs : SlI w v l) (hm : SlI w vm m) : Cal Tryz.prog f_spec_QuotientPoset #[.agg #[.int .i64 n, v], vm] w fun r w' => Ext w w' ∧ ∃ u, r = .tuple #[.agg #[.int .i64 (quoOut n l m).1, u], .int .i64 (quoOut n l m).2.2] ∧ Ow w.heap.size t_i64 w' u (ints (quoOut n l m).2.1) := by
  apply c_spec_QuotientPoset; unfold S_spec_QuotientPoset
  refine iNew fun b1 w1 hb1 x1 hB1 => ?_
  refine iNew fun b2 w2 hb2 x2 hB2 => ?_
  have hB1 : Blk _ w2 b1 [.int .i64 n, v] := hB1.ext x2
  have X2 := x1.trans x2
  have hz1 := x1.size
  refine iLdA hB1 rfl ?_
  refine iRet (ok_spec_l16Is (hs.ext X2) n) fun w3 x3 => iNot ?_
  have X3 := X2.trans x3
  have hm3 := hm.ext X3
  cases hp : posetOk n l
  · rw [quoOut_bad hp]
    refine iCndT rfl (iBuild (cs := #[.int .i64 0, .slice none 0 0]) (by simp [Instr.fill]) ?_)
    refine iStAB (hB2.ext x3) rfl rfl ((Ow.nil 0 t_i64 w3).pair 0) fun w4 hu hB => iLdA hB rfl ?_
    exact ⟨X3.upd hu (by omega), _, rfl, Ow.nil _ _ _⟩
  obtain ⟨hP, hn, hl⟩ := posetOk_po hp
  have hf := hP.ok
  have h8 := hf.1
  have hs3 : SlN w3 v (frOf n l).a := by
    have := hs.ext X3
    rw [hl] at this; exact this
  refine iCndF rfl ?_
  have hB13 : Blk _ w3 b1 [.int .i64 n, v] := hB1.ext x3
  refine iJnB (!congB (frOf n l) m) w3 (fun J hJ => ?_) (fun w7 x7 => ?_)
  · refine iFa (iLdB hB13 (i := 0) (v := .int .i64 n) rfl ?_)
    refine iRet (ok_spec_l21Partition hm3 n) fun w8 x8 => iNot ?_
    cases hpt : clsI 0 m && decide ((m.length : Int) = n)
    · have e : congB (frOf n l) m = false := by
        refine Bool.eq_false_iff.2 fun h => ?_
        unfold congB at h
        rw [Bool.and_eq_true, Bool.and_eq_true, decide_eq_true_eq] at h
        rw [h.2.1, Bool.true_and, decide_eq_false_iff_not] at hpt
        exact hpt (by rw [h.1]; omega)
      rw [e] at hJ
      exact iCndT rfl (hJ _ x8)
    · rw [Bool.and_eq_true, decide_eq_true_eq] at hpt
      obtain ⟨c, rfl, hg⟩ := clsI_nats m 0 hpt.1
      have hcl : c.length = (frOf n l).n := by
        have := hpt.2
        rw [nats_length] at this; omega
      have htop := topG_le c 0
      refine iCndF rfl (iLdA (hB13.ext x8) rfl ?_)
      rw [hn]
      refine iRet (ok_spec_l21Correct hf (hs3.ext x8) (hm3.ext x8) hcl fun y hy => by have := grB_lt c 0 hg y hy; omega) fun w9 x9 => iNot ?_
      rw [congB_nats, decide_eq_true hcl, hg, Bool.true_and, Bool.true_and] at hJ
      exact hJ _ (x8.trans x9)
  · intro _
    simp only [gx]
    have X7 := X3.trans x7
    cases hc : congB (frOf n l) m
    · rw [quoOut_no hp hc]
      refine iCndT rfl (iBuild (cs := #[.int .i64 0, .slice none 0 0]) (by simp [Instr.fill]) ?_)
      refine iStAB (hB2.ext (x3.trans x7)) rfl rfl ((Ow.nil 0 t_i64 w7).pair 0) fun w4 hu hB => iLdA hB rfl ?_
      exact ⟨X7.upd hu (by omega), _, rfl, Ow.nil _ _ _⟩
    obtain ⟨c, rfl, hcl, hg, hcor⟩ := congB_iff.1 hc
    have htop := topG_le c 0
    rw [quoOut_at hp hc]
    refine iCndF rfl (iLdA (hB13.ext x7) rfl ?_)
    have hcall := ok_spec_l21Quotient hf (hs3.ext x7) (hm3.ext x7) hcl fun y hy => by have := grB_lt c 0 hg y hy; omega
    rw [← hn] at hcall
    refine iCall (hcall.mono ?_)
    rintro _ w12 ⟨x12, u, rfl, ho⟩
    have hql : (quoL (frOf n l) c (frOf n l).n).length = (quoF (frOf n l) c).n := quoF_a hcl hg
    rw [hql]
    have hz := X7.size
    have hB11 := hB2.ext ((x3.trans x7).trans x12)
    have hne : u.ownBlock ≠ some b2 := fun e => by have := (ho.blk b2 e).1; have := (hB2.ext (x3.trans x7)).lt; omega
    refine iStAB hB11 rfl rfl (ho.pair _) fun w13 hu hB => iLdA hB rfl ?_
    exact ⟨(X7.trans x12).upd hu (by omega), _, rfl, (ho.mono hz).upd hu hne⟩
end Go.Proofs.YtikfhibcdhdglaaGreat

/- Contracts: all p-morphisms between posets in the reference (l01Less, l21All, AllPosetMorphisms). Conditions: none. -/
namespace Go.Vc
theorem lessB_upto : ∀ (a b : List Int) (k : Nat), (∀ i, i < k → a[i]? = b[i]?) → k ≤ a.length → k ≤ b.length → lessB a b = lessB (a.drop k) (b.drop k)
  | _, _, 0, _, _, _ => rfl
  | [], _, _ + 1, _, h, _ => by simp at h
  | _ :: _, [], _ + 1, _, _, h => by simp at h
  | x :: a, y :: b, k + 1, h, h1, h2 => by
    have e : x = y := by have := h 0 (by omega); simpa using this
    subst e
    simp only [lessB, if_true, List.drop_succ_cons]
    exact lessB_upto a b k (fun i hi => by have := h (i + 1) (by omega); simpa using this) (by simpa using h1) (by simpa using h2)
end Go.Vc
namespace Go.Proofs.YtikfhibcdhdglaaGreat
open Go.Vc
end Go.Proofs.YtikfhibcdhdglaaGreat

/- Contracts: the least form of a frame in the reference (l01Has, l05Orders, l05Least, LeastFrame), and how lists are compared. Conditions: none. -/
namespace Go.Vc
theorem freeL_succ (l : List Nat) (v : Nat) : freeL (v + 1) l = freeL v l ++ (if l.contains v then [] else [v]) := by
  unfold freeL
  rw [List.range_succ, List.filter_append]
  cases h : l.contains v
  · have h2 : ¬ v ∈ l := by simpa using h
    simp [h2]
  · have h2 : v ∈ l := by simpa using h
    simp [h2]
end Go.Vc
namespace Go.Proofs.YtikfhibcdhdglaaGreat
open Go.Vc
theorem ok_cmp_isNaN_i64 (x : Int) (w : World) : Ret Tryz.prog f_cmp_isNaN_i64 #[.int .i64 x] w (.bool false) := by
  apply c_cmp_isNaN_i64; unfold S_cmp_isNaN_i64
  refine iNe ?_
  rw [decide_eq_false (fun h => h rfl)]
  exact ⟨rfl, Ext.refl _⟩
theorem ok_cmp_Compare_i64 (x y : Int) (w : World) : Ret Tryz.prog f_cmp_Compare_i64 #[.int .i64 x, .int .i64 y] w (.int .i64 (if x < y then -1 else if y < x then 1 else 0)) := by
  apply c_cmp_Compare_i64; unfold S_cmp_Compare_i64
  refine iRet (ok_cmp_isNaN_i64 x w) fun w1 h1 => ?_
  refine iRet (ok_cmp_isNaN_i64 y w1) fun w2 h2 => ?_
  refine iCndF rfl (iCndF rfl ?_)
  refine iLt ?_
  refine iCndP (fun h => ?_) (fun h => ?_)
  · rw [if_pos h]; exact ⟨rfl, h1.trans h2⟩
  · rw [if_neg h]
    refine iLt ?_
    refine iCndP (fun h => ?_) (fun h => ?_)
    · rw [if_pos h]; exact ⟨rfl, h1.trans h2⟩
    · rw [if_neg h]; exact ⟨rfl, h1.trans h2⟩
theorem ok_slices_Compare_Si64_i64 {va vb : Value} {w : World} {a b : List Int} (ha : SlI w va a) (hb : SlI w vb b) : Cal Tryz.prog f_slices_Compare_Si64_i64 #[va, vb] w fun v w' => Ext w w' ∧ ∃ r : Int, v = .int .i64 r ∧ (r < 0 ↔ lessB a b = true) := by
  apply c_slices_Compare_Si64_i64; unfold S_slices_Compare_Si64_i64
  have hal := ha.len
  have hbl := hb.len
  ((with_reducible refine iLenI (by assumption) ?_))
  refine iLp (fun k : Nat => [.int .i64 (k : Int)]) (fun k w' => k ≤ a.length ∧ k ≤ b.length ∧ Ext w w' ∧ ∀ i, i < k → a[i]? = b[i]?) (fun k => a.length - k) 0 rfl ⟨Nat.zero_le _, Nat.zero_le _, Ext.refl _, fun i hi => by omega⟩ ?_
  rintro k w2 Kn ⟨hka, hkb, h2, heq⟩ hKn
  have ha2 := ha.ext h2
  have hb2 := hb.ext h2
  have hup := lessB_upto a b k heq hka hkb
  (intro _; (try simp only [gx]); (with_reducible refine iLt ?_))
  refine iCndP (fun h5 => ?_) (fun h5 => ?_)
  · have h5a : k < a.length := by omega
    have ea : a.getD k 0 = a[k] := by simp [List.getD_eq_getElem?_getD, h5a]
    ((with_reducible refine iIaN (by assumption) ?_ (fun pa_ hpa_ => ?_)); omega; (with_reducible refine iLd (by assumption) ?_; refine iLenI (by assumption) ?_; refine iLe ?_))
    rw [ea]
    refine iCndP (fun h6 => ?_) (fun h6 => ?_)
    · obtain rfl : k = b.length := by omega
      refine ⟨h2, 1, rfl, ?_⟩
      rw [hup, List.drop_eq_nil_of_le (Nat.le_refl _), List.drop_eq_getElem_cons h5a]
      simp [lessB]
    · have h5b : k < b.length := by omega
      have eb : b.getD k 0 = b[k] := by simp [List.getD_eq_getElem?_getD, h5b]
      rw [List.drop_eq_getElem_cons h5a, List.drop_eq_getElem_cons h5b] at hup
      simp only [lessB] at hup
      ((with_reducible refine iIaN (by assumption) ?_ (fun pa_ hpa_ => ?_)); omega; (with_reducible refine iLd (by assumption) ?_))
      rw [eb]
      refine iRet (ok_cmp_Compare_i64 a[k] b[k] w2) fun w3 h3 => ?_
      refine iNe ?_
      refine iCndP (fun h7 => ?_) (fun h7 => ?_)
      · refine ⟨h2.trans h3, _, rfl, ?_⟩
        have hne : ¬ a[k] = b[k] := fun e => h7 (by rw [e]; simp)
        rw [hup, if_neg hne]
        by_cases hlt : a[k] < b[k]
        · rw [if_pos hlt]; simp [hlt]
        · rw [if_neg hlt, if_pos (by omega)]; simp [hlt]
      · have he : a[k] = b[k] := by
          rcases Int.lt_trichotomy a[k] b[k] with h | h | h
          · exact absurd (by rw [if_pos h]; decide) h7
          · exact h
          · exact absurd (by rw [if_neg (by omega), if_pos h]; decide) h7
        (refine iAdd (by omega) ?_)
        refine hKn (k + 1) _ ⟨by omega, by omega, h2.trans h3, fun i hi => ?_⟩ (by omega)
        by_cases hik : i = k
        · subst hik
          rw [List.getElem?_eq_getElem h5a, List.getElem?_eq_getElem h5b, he]
        · exact heq i (by omega)
  · obtain rfl : k = a.length := by omega
    rw [List.drop_eq_nil_of_le (Nat.le_refl _)] at hup
    ((with_reducible refine iLenI (by assumption) ?_; refine iLenI (by assumption) ?_; refine iLt ?_))
    refine iCndP (fun h6 => ?_) (fun h6 => ?_)
    · have h7 : a.length < b.length := by omega
      refine ⟨h2, -1, rfl, ?_⟩
      rw [hup, List.drop_eq_getElem_cons h7]
      simp [lessB]
    · refine ⟨h2, 0, rfl, ?_⟩
      rw [hup, List.drop_eq_nil_of_le (by omega)]
      simp [lessB]
end Go.Proofs.YtikfhibcdhdglaaGreat

/- Contracts: the least form of a frame in the program (reordered, permutations, leastRelation, LeastFrame). Conditions: none. -/
namespace Go.Vc
section
variable {w : World}
/-- 'make([]T, 0, n)'. -/
theorem iMk0 {e : TypeId} {z : Value} {bytes n : Nat} {k : IntKind} {K : Value → World → Prop} (h1 : bytes * n ≤ 2 ^ 48) (h2 : (n : Int) ≤ 9223372036854775807) (hz : isCell z = true)
    (h : ∀ v w', Ext w w' → Ow w.heap.size e w' v [] → (∀ c, v.ownBlock = some c → c = w.heap.size) → K v w') : xMk e (Value.cells z) 1 bytes (.int k 0) (.int k (n : Int)) w K := by
  refine ⟨k, k, 0, n, rfl, rfl, Nat.zero_le _, h2, by exact_mod_cast h1, ?_⟩
  refine h _ _ (Ext.alloc w _) ⟨rfl, .inr ⟨w.heap.size, n, _, rfl, Nat.le_refl _, heap_alloc_new w _, Nat.zero_le _, by simpa [maxLen] using (by omega : n ≤ 9223372036854775807), ?_, by simp⟩⟩ ?_
  · rw [isCell_cells hz]; simp
  · intro c hc
    simp [Value.ownBlock] at hc
    exact hc.symm
theorem iIa0 {b n c : Nat} {j : Nat} {k : IntKind} {K : Value → Prop} (hj : j < n) (h : K (.pointer (some ⟨b, j, none⟩))) : xIa 1 (.slice (some ⟨b, 0, none⟩) n c) (.int k (j : Int)) K := iIaL hj (by rw [Nat.zero_add]; exact h)
end
theorem ints_get {l : List Nat} {k : Nat} (h : k < l.length) : (ints (nats l))[k]? = some (.int .i64 ((l.getD k 0 : Nat) : Int)) := by
  simp [ints, nats, List.getD_eq_getElem?_getD, h]
theorem ints_set (l : List Nat) (k y : Nat) : (ints (nats l)).set k (.int .i64 (y : Int)) = ints (nats (l.set k y)) := by
  simp [ints, nats, List.map_set]
theorem getD_set (l : List Nat) (i j y : Nat) (hi : i < l.length) : (l.set i y).getD j 0 = if i = j then y else l.getD j 0 := by
  simp only [List.getD_eq_getElem?_getD, List.getElem?_set]
  by_cases h : i = j
  · subst h; simp [hi]
  · simp [h]
theorem sqz_map {o : List Nat} {n : Nat} (ho : isOrd n o) (hn : n ≤ 62) {T : List Nat} (hT : ∀ j, j < n → T.getD (o.getD j 0) 0 = j) {m : Nat} (hm : m < 2 ^ n) : setOf ((mem m).map fun y => T.getD y 0) = sqz o m := by
  have hm63 : m < 2 ^ 63 := Nat.lt_of_lt_of_le hm (Nat.pow_le_pow_right (by omega) (by omega))
  apply Nat.eq_of_testBit_eq
  intro j
  rw [setOf_testBit, sqz_bit, Bool.eq_iff_iff, Bool.and_eq_true, decide_eq_true_eq, ho.1]
  simp only [List.contains_eq_mem, decide_eq_true_eq, List.mem_map]
  constructor
  · rintro ⟨y, hy, rfl⟩
    have hy := (mem_mem hm63).1 hy
    have hyn : y < n := by
      rcases Nat.lt_or_ge y n with h | h
      · exact h
      · rw [Nat.testBit_lt_two_pow (Nat.lt_of_lt_of_le hm (Nat.pow_le_pow_right (by omega) h))] at hy; cases hy
    obtain ⟨h1, h2⟩ := ord_idx hn ho hyn
    have := hT _ h1
    rw [h2] at this
    rw [this]
    exact ⟨h1, by rw [h2]; exact hy⟩
  · rintro ⟨h1, h2⟩
    exact ⟨_, (mem_mem hm63).2 h2, hT j h1⟩
end Go.Vc
namespace Go.Proofs.YtikfhibcdhdglaaGreat
open Go.Vc
theorem ok_impl_reordered {va vo : Value} {w : World} {a o : List Nat} {n : Nat} (ha : SlN w va a) (hu : SlN w vo o) (hn : n ≤ 8) (hal : a.length = n) (ho : isOrd n o) (ham : ∀ x ∈ a, x < 2 ^ n) : Cal Tryz.prog f_impl_reordered #[va, vo] w fun r w' => Ext w w' ∧ Ow w.heap.size t_i64 w' r (ints (nats (rnb a o))) := by
  apply c_impl_reordered; unfold S_impl_reordered
  have hol := ho.1
  refine iLenN hu ?_
  refine iMk (by omega) (by omega) rfl fun c w1 hc1 h1 hB1 => ?_
  refine iLenN (hu.ext h1) ?_
  have e0 : List.replicate o.length (Value.int .i64 0) = ints (nats (List.replicate n 0)) := by simp [ints, nats, hol]
  rw [e0] at hB1
  refine iLp (fun k : Nat => [.int .i64 (k : Int)]) (fun k w' => k ≤ n ∧ Ext w w' ∧ w1.heap.size ≤ w'.heap.size ∧ ∃ T : List Nat, T.length = n ∧ Blk t_i64 w' c (ints (nats T)) ∧ ∀ j, j < k → T.getD (o.getD j 0) 0 = j) (fun k => n - k) 0 rfl ⟨Nat.zero_le _, h1, Nat.le_refl _, _, List.length_replicate, hB1, fun j hj => by omega⟩ ?_
  rintro k w3 Kn ⟨hk, h3, h3s, T, hTl, hB3, hT⟩ hKn
  have hu3 := hu.ext h3
  have ha3 := ha.ext h3
  (intro _; (try simp only [gx]); (with_reducible refine iLt ?_))
  refine iCndP (fun h4 => ?_) (fun h4 => ?_)
  · have hk1 : k < n := by omega
    have hok := ord_get ho hk1
    ((with_reducible refine iIaNN (by assumption) ?_ (fun pa_ hpa_ => ?_)); omega; (with_reducible refine iLd (by assumption) ?_))
    refine iIa0 (by omega) ?_
    have hTl2 : o.getD k 0 < (ints (nats T)).length := by rw [ints_length, nats_length]; omega
    refine iStB hB3 hTl2 rfl fun hB4 => ?_
    rw [ints_set] at hB4
    have hu4 := Upd.setCell w3 c (o.getD k 0) (.int .i64 (k : Int))
    have h4 := h3.upd hu4 (by omega)
    have hs4 := hu4.size
    (refine iAdd (by omega) ?_)
    refine hKn (k + 1) _ ⟨by omega, h4, by omega, _, by rw [List.length_set, hTl], hB4, fun j hj => ?_⟩ (by omega)
    rw [getD_set _ _ _ _ (by omega)]
    by_cases hjk : j = k
    · subst hjk; rw [if_pos rfl]
    · rw [if_neg (fun e => hjk (ord_inj ho hk1 (by omega) e).symm)]
      exact hT j (by omega)
  · have e : k = n := by omega
    subst e
    ((with_reducible refine iLenN (by assumption) ?_))
    refine iMk (by omega) (by omega) rfl fun d w5 hd5 h5 hB5 => ?_
    have e0 : List.replicate o.length (Value.int .i64 0) = ints (nats ((rnb a o).take 0 ++ List.replicate (k - 0) 0)) := by simp [ints, nats, hol]
    rw [e0] at hB5
    have hBc5 := hB3.ext h5
    have hcd : c ≠ d := by have := hB3.lt; omega
    have h15 := h3.trans h5
    refine iLenN (hu.ext h15) ?_
    have hd0 : w.heap.size ≤ d := by have := h3.size; omega
    refine iLp (fun i : Nat => [.int .i64 (i : Int)]) (fun i w' => i ≤ k ∧ Ext w w' ∧ Blk t_i64 w' c (ints (nats T)) ∧ Blk t_i64 w' d (ints (nats ((rnb a o).take i ++ List.replicate (k - i) 0)))) (fun i => k - i) 0 rfl ⟨Nat.zero_le _, h15, hBc5, hB5⟩ ?_
    rintro i w7 Kn7 ⟨hi, h7, hBc7, hB7⟩ hKn7
    have hu7 := hu.ext h7
    have ha7 := ha.ext h7
    have hrl : (rnb a o).length = k := by rw [rnb_len, hol]
    (intro _; (try simp only [gx]); (with_reducible refine iLt ?_))
    refine iCndP (fun h8 => ?_) (fun h8 => ?_)
    · have hi1 : i < k := by omega
      have hoi := ord_get ho hi1
      ((with_reducible refine iIaNN (by assumption) ?_ (fun pa_ hpa_ => ?_)); omega; (with_reducible refine iLd (by assumption) ?_); (with_reducible refine iIaNN (by assumption) ?_ (fun pa_ hpa_ => ?_)); omega; (with_reducible refine iLd (by assumption) ?_))
      have hax : a.getD (o.getD i 0) 0 < 2 ^ k := getD_lt ham (by omega)
      have hax63 : a.getD (o.getD i 0) 0 < 2 ^ 63 := Nat.lt_of_lt_of_le hax (Nat.pow_le_pow_right (by omega) (by omega))
      refine iCall ((ok_impl_membersOf _ hax63 w7).mono ?_)
      rintro vm w8 ⟨h8', hom⟩
      have h78 := h7.trans h8'
      have hBc8 := hBc7.ext h8'
      have hB8 := hB7.ext h8'
      have eR : List.replicate (k - i) 0 = setOf (((mem (a.getD (o.getD i 0) 0)).take 0).map fun y => T.getD y 0) :: List.replicate (k - (i + 1)) 0 := by
        rw [show k - i = k - (i + 1) + 1 by omega, List.replicate_succ]; rfl
      rw [eR] at hB8
      have hvm : SlN w8 vm (mem (a.getD (o.getD i 0) 0)) := hom.sl
      have hml := hvm.len
      have htl : ((rnb a o).take i).length = i := by rw [List.length_take]; omega
      refine iLenN hvm ?_
      refine iLp (fun s : Nat => [.int .i64 (s : Int)]) (fun s w' => s ≤ (mem (a.getD (o.getD i 0) 0)).length ∧ Ext w w' ∧ SlN w' vm (mem (a.getD (o.getD i 0) 0)) ∧ Ow w7.heap.size t_i64 w' vm (ints (nats (mem (a.getD (o.getD i 0) 0)))) ∧ Blk t_i64 w' c (ints (nats T)) ∧ Blk t_i64 w' d (ints (nats ((rnb a o).take i ++ setOf (((mem (a.getD (o.getD i 0) 0)).take s).map fun y => T.getD y 0) :: List.replicate (k - (i + 1)) 0)))) (fun s => (mem (a.getD (o.getD i 0) 0)).length - s) 0 rfl ⟨Nat.zero_le _, h78, hvm, hom, hBc8, hB8⟩ ?_
      rintro s w10 Kn10 ⟨hs, h10, hv10, ho10, hBc10, hB10⟩ hKn10
      (intro _; (try simp only [gx]); (with_reducible refine iLt ?_))
      refine iCndP (fun h11 => ?_) (fun h11 => ?_)
      · have hs1 : s < (mem (a.getD (o.getD i 0) 0)).length := by omega
        have hy : (mem (a.getD (o.getD i 0) 0)).getD s 0 = (mem (a.getD (o.getD i 0) 0))[s] := getD_of_lt hs1
        have hyt := (mem_mem hax63).1 (List.getElem_mem hs1)
        have hyk : (mem (a.getD (o.getD i 0) 0))[s] < k := by
          rcases Nat.lt_or_ge (mem (a.getD (o.getD i 0) 0))[s] k with h | h
          · exact h
          · rw [Nat.testBit_lt_two_pow (Nat.lt_of_lt_of_le hax (Nat.pow_le_pow_right (by omega) h))] at hyt; cases hyt
        obtain ⟨hj1, hj2⟩ := ord_idx (by omega) ho hyk
        have hTy := hT _ hj1
        rw [hj2] at hTy
        have hllen : ((rnb a o).take i ++ setOf (((mem (a.getD (o.getD i 0) 0)).take s).map fun y => T.getD y 0) :: List.replicate (k - (i + 1)) 0).length = k := by
          rw [List.length_append, List.length_cons, List.length_replicate, htl]; omega
        have hgx : ((rnb a o).take i ++ setOf (((mem (a.getD (o.getD i 0) 0)).take s).map fun y => T.getD y 0) :: List.replicate (k - (i + 1)) 0).getD i 0 = setOf (((mem (a.getD (o.getD i 0) 0)).take s).map fun y => T.getD y 0) := by
          rw [List.getD_eq_getElem?_getD, List.getElem?_append_right (by omega), htl, Nat.sub_self]; rfl
        have hst : setOf (((mem (a.getD (o.getD i 0) 0)).take s).map fun y => T.getD y 0) < 2 ^ 62 := by
          refine setOf_lt fun y hy => ?_
          obtain ⟨x, hx, rfl⟩ := List.mem_map.1 hy
          have hxt := (mem_mem hax63).1 (List.mem_of_mem_take hx)
          have hxk : x < k := by
            rcases Nat.lt_or_ge x k with h | h
            · exact h
            · rw [Nat.testBit_lt_two_pow (Nat.lt_of_lt_of_le hax (Nat.pow_le_pow_right (by omega) h))] at hxt; cases hxt
          obtain ⟨q1, q2⟩ := ord_idx (by omega) ho hxk
          have := hT _ q1
          rw [q2] at this
          omega
        ((with_reducible refine iIaNN (by assumption) ?_ (fun pa_ hpa_ => ?_)); omega; (with_reducible refine iLd (by assumption) ?_))
        refine iIa0 (by omega) ?_
        refine iLdB hB10 (ints_get (by omega)) ?_
        rw [hgx, hy]
        refine iIa0 (by omega) ?_
        refine iLdB hBc10 (ints_get (by omega)) ?_
        rw [hTy]
        refine iShlOne (by omega) ?_
        refine iBOr (by omega) (Nat.pow_lt_pow_right (by omega) (by omega)) ?_
        refine iIa0 (by omega) ?_
        intro w11 h11'
        refine iStB (hB10.ext h11') (by rw [ints_length, nats_length]; omega) rfl fun hB12 => ?_
        rw [ints_set] at hB12
        have hu12 := Upd.setCell w11 d i (.int .i64 ((setOf (((mem (a.getD (o.getD i 0) 0)).take s).map fun y => T.getD y 0) ||| 2 ^ o.idxOf (mem (a.getD (o.getD i 0) 0))[s] : Nat) : Int))
        have h12 := (h10.trans h11').upd hu12 hd0
        have hBc12 := (hBc10.ext h11').upd hu12 hcd
        have ho12 := (ho10.ext h11').upd hu12 (fun hc => by
          have := (hom.blk _ hc).1
          have := hB7.lt
          omega)
        have eset : ((rnb a o).take i ++ setOf (((mem (a.getD (o.getD i 0) 0)).take s).map fun y => T.getD y 0) :: List.replicate (k - (i + 1)) 0).set i (setOf (((mem (a.getD (o.getD i 0) 0)).take s).map fun y => T.getD y 0) ||| 2 ^ o.idxOf (mem (a.getD (o.getD i 0) 0))[s]) = (rnb a o).take i ++ setOf (((mem (a.getD (o.getD i 0) 0)).take (s + 1)).map fun y => T.getD y 0) :: List.replicate (k - (i + 1)) 0 := by
          rw [List.set_append_right _ _ (by omega), htl, Nat.sub_self, List.take_succ_eq_append_getElem hs1, List.map_append, List.map_singleton, setOf_snoc, hTy]; rfl
        rw [eset] at hB12
        intro w13 h13
        (refine iAdd (by omega) ?_)
        exact hKn10 (s + 1) _ ⟨by omega, h12.trans h13, (ho12.ext h13).sl, ho12.ext h13, hBc12.ext h13, hB12.ext h13⟩ (by omega)
      · have e : s = (mem (a.getD (o.getD i 0) 0)).length := by omega
        subst e
        rw [List.take_length, sqz_map ho (by omega) hT hax] at hB10
        have er : (rnb a o).take (i + 1) = (rnb a o).take i ++ [sqz o (a.getD (o.getD i 0) 0)] := by
          have hog : o.getD i 0 = o[i] := getD_of_lt (by omega)
          have hr : (rnb a o)[i]'(by omega) = sqz o (a.getD (o.getD i 0) 0) := by rw [hog]; simp only [rnb, List.getElem_map]
          rw [List.take_succ_eq_append_getElem (by omega), hr]
        (refine iAdd (by omega) ?_)
        refine hKn7 (i + 1) _ ⟨by omega, h10, hBc10, ?_⟩ (by omega)
        rw [er, List.append_assoc]; exact hB10
    · have e : i = k := by omega
      subst e
      refine ⟨h7, ?_⟩
      have e1 : (rnb a o).take i ++ List.replicate (i - i) 0 = rnb a o := by
        rw [Nat.sub_self, List.replicate_zero, List.append_nil, ← hrl, List.take_length]
      rw [e1] at hB7
      rw [hol]
      exact Ow.ofBlk hB7 hd0 (by rw [ints_length, nats_length, hrl]) (by omega)
end Go.Proofs.YtikfhibcdhdglaaGreat

/- Contracts: the least form of a frame in the program (permutations, leastRelation, LeastFrame). Conditions: none. -/
namespace Go.Vc
end Go.Vc
namespace Go.Proofs.YtikfhibcdhdglaaGreat
open Go.Vc
theorem ok_impl_leastRelation_1 {lo ba c : Nat} {vo va z : Value} {w w0 : World} {a o b : List Nat} {n : Nat} (hX : Ext w0 w) (ha : SlN w0 va a) (hn : n ≤ 6) (hal : a.length = n) (ho : isOrd n o) (ham : ∀ x ∈ a, x < 2 ^ n) (hu : SlN w vo o)
    (hBa : Blk t_Si64 w ba [va]) (hBc : Blk t_Si64 w c [z]) (hz : Ow lo t_i64 w z (ints (nats b))) (hlo : lo ≤ w.heap.size) :
    Cal Tryz.prog f_impl_leastRelation_1 #[vo, .pointer (some ⟨ba, 0, none⟩), .pointer (some ⟨c, 0, none⟩)] w fun _ w' => Ch (fun k => k = c) w w' ∧ ∃ z', Blk t_Si64 w' c [z'] ∧ Ow lo t_i64 w' z' (ints (nats (updB a b o))) ∧ (z' = z ∨ ∀ g, z'.ownBlock = some g → w.heap.size ≤ g) := by
  apply c_impl_leastRelation_1; unfold S_impl_leastRelation_1
  refine iLdB hBa rfl ?_
  refine iCall ((ok_impl_reordered (ha.ext hX) hu (by omega) hal ho ham).mono ?_)
  rintro r w1 ⟨h1, hor⟩
  have hBc1 := hBc.ext h1
  have hz1 := hz.ext h1
  refine iLdB hBc1 rfl ?_
  refine iCall ((ok_slices_Compare_Si64_i64 hor.sl hz1.sl).mono ?_)
  rintro _ w2 ⟨h2, q, rfl, hq⟩
  have hBc2 := hBc1.ext h2
  have hor2 := hor.ext h2
  refine iLt ?_
  refine iCndP (fun h3 => ?_) (fun h3 => ?_)
  · refine iStB hBc2 (by simp) hor.cell fun hBc3 => ?_
    have hu3 := Upd.setCell w2 c 0 r
    refine ⟨((h1.trans h2).ch (S := fun k => k = c)).trans (hu3.ch (S := fun k => k = c) rfl) (fun _ h => .inl h), r, hBc3, ?_, .inr fun g hg => (hor.blk g hg).1⟩
    rw [updB, if_pos (hq.1 h3)]
    exact (hor2.mono hlo).upd hu3 (hor2.ne_blk hBc2 (by decide))
  · refine ⟨(h1.trans h2).ch, z, hBc2, ?_, .inl rfl⟩
    rw [updB, if_neg (fun h => h3 (hq.2 h))]
    exact hz1.ext h2
/-- What holds while the program goes through the orders. -/
structure PSt (w0 : World) (lo n bo bn bf bg ba c : Nat) (eF eG : TypeId) (va : Value) (a im : List Nat) (w : World) (v z : Value) (l : List (List Nat)) : Prop where
  ext : Ext w0 w
  kbo : Blk t_Si64 w bo [v]
  kbn : Blk t_i64 w bn [.int .i64 (n : Int)]
  kbf : Blk eF w bf [.func (.func f_impl_leastRelation_1) #[] #[.pointer (some ⟨ba, 0, none⟩), .pointer (some ⟨c, 0, none⟩)]]
  kbg : Blk eG w bg [.func (.func f_impl_permutations_1) #[] #[.pointer (some ⟨bo, 0, none⟩), .pointer (some ⟨bn, 0, none⟩), .pointer (some ⟨bf, 0, none⟩), .pointer (some ⟨bg, 0, none⟩)]]
  kba : Blk t_Si64 w ba [va]
  kc : Blk t_Si64 w c [z]
  ow : Ow lo t_i64 w v (ints (nats im))
  kz : Ow lo t_i64 w z (ints (nats (l.foldl (updB a) a)))
  vz : ∀ k, v.ownBlock = some k → z.ownBlock ≠ some k
  vn : v.ownBlock ≠ some bn
  zn : z.ownBlock ≠ some bn
theorem PSt.later {w0 : World} {lo n bo bn bf bg ba c : Nat} {eF eG : TypeId} {va : Value} {a im : List Nat} {w w' : World} {v z : Value} {l : List (List Nat)} (h : PSt w0 lo n bo bn bf bg ba c eF eG va a im w v z l) (k : Ext w w') : PSt w0 lo n bo bn bf bg ba c eF eG va a im w' v z l :=
  ⟨h.ext.trans k, h.kbo.ext k, h.kbn.ext k, h.kbf.ext k, h.kbg.ext k, h.kba.ext k, h.kc.ext k, h.ow.ext k, h.kz.ext k, h.vz, h.vn, h.zn⟩
/-- The blocks are different ones. -/
structure PBk (w0 : World) (lo bo bn bf bg ba c : Nat) (eF eG : TypeId) : Prop where
  lo : lo = w0.heap.size
  eF : t_i64 ≠ eF ∧ t_Si64 ≠ eF
  eG : t_i64 ≠ eG ∧ t_Si64 ≠ eG
  oa : bo ≠ ba
  oc : bo ≠ c
  ac : ba ≠ c
  bo : w0.heap.size ≤ bo
  c : w0.heap.size ≤ c
/-- The order's cell is written. -/
theorem PSt.put {w0 : World} {lo n bo bn bf bg ba c : Nat} {eF eG : TypeId} {va : Value} {a im im' : List Nat} {w w' : World} {v v' z : Value} {l : List (List Nat)} (hk : PBk w0 lo bo bn bf bg ba c eF eG) (h : PSt w0 lo n bo bn bf bg ba c eF eG va a im w v z l)
    (hg : w.grownBy w' v.ownBlock) (hv : Ow lo t_i64 w' v' (ints (nats im'))) (hat : v'.ownBlock = v.ownBlock ∨ ∃ k, v'.ownBlock = some k ∧ w.heap.size ≤ k) {K : World → Prop}
    (hK : ∀ w'', PSt w0 lo n bo bn bf bg ba c eF eG va a im' w'' v' z l → K w'') : xSt w' (.pointer (some ⟨bo, 0, none⟩)) v' K := by
  have hgc := grown_ch (S := fun k => v.ownBlock = some k) hg (fun k hk => hk)
  have hne : ∀ {e : TypeId} {b : Nat} {cs : List Value}, Blk e w b cs → t_i64 ≠ e → v.ownBlock ≠ some b := fun hb he => h.ow.ne_blk hb he
  have hbo := h.kbo.ch hgc (hne h.kbo (by decide))
  refine iStB hbo (by simp) hv.cell fun hbo2 => hK _ ?_
  have hu := Upd.setCell w' bo 0 v'
  have hX := h.ext
  have hbn' : bo ≠ bn := fun e => by
    have := Blk.ne_blk h.kbn h.kbo (by decide)
    exact this e.symm
  exact ⟨(h.ext.grown hg fun k hk' => hk.lo ▸ (h.ow.blk k hk').1).upd hu hk.bo, hbo2, (h.kbn.ch hgc h.vn).upd hu (fun e => hbn' e.symm), (h.kbf.ch hgc (hne h.kbf hk.eF.1)).upd hu (Blk.ne_blk h.kbf h.kbo (fun e => hk.eF.2 e.symm)), (h.kbg.ch hgc (hne h.kbg hk.eG.1)).upd hu (Blk.ne_blk h.kbg h.kbo (fun e => hk.eG.2 e.symm)),
    (h.kba.ch hgc (hne h.kba (by decide))).upd hu (fun e => hk.oa e.symm), (h.kc.ch hgc (hne h.kc (by decide))).upd hu (fun e => hk.oc e.symm), hv.upd hu (hv.ne_blk hbo (by decide)),
    (h.kz.ch hgc (fun k hz hv => h.vz k hv hz)).upd hu (h.kz.ne_blk h.kbo (by decide)), by
      intro k hk' hz
      rcases hat with h1 | ⟨k', h1, h2⟩
      · exact h.vz k (by rw [← h1]; exact hk') hz
      · rw [h1] at hk'; cases hk'
        have := (h.kz.blk k hz).2
        omega, by
      intro hb
      rcases hat with h1 | ⟨k', h1, h2⟩
      · exact h.vn (by rw [← h1]; exact hb)
      · rw [h1] at hb; cases hb
        have := h.kbn.lt
        omega, h.zn⟩
theorem ok_impl_permutations_1 {w0 : World} {lo n bo bn bf bg ba c : Nat} {eF eG : TypeId} {va : Value} {a : List Nat} (hk : PBk w0 lo bo bn bf bg ba c eF eG) (ha : SlN w0 va a) (hn : n ≤ 6) (hal : a.length = n) (ham : ∀ x ∈ a, x < 2 ^ n) :
    ∀ (d : Nat) (im : List Nat) (w : World) (v z : Value) (l : List (List Nat)), im.length + d = n → (∀ x ∈ im, x < n) → im.Nodup → PSt w0 lo n bo bn bf bg ba c eF eG va a im w v z l →
      Cal Tryz.prog f_impl_permutations_1 #[.int .i64 ((setOf im : Nat) : Int), .pointer (some ⟨bo, 0, none⟩), .pointer (some ⟨bn, 0, none⟩), .pointer (some ⟨bf, 0, none⟩), .pointer (some ⟨bg, 0, none⟩)] w fun _ w' => ∃ v' z', PSt w0 lo n bo bn bf bg ba c eF eG va a im w' v' z' (l ++ gr n d im) := by
  intro d
  induction d with
  | zero =>
    intro im w v z l hlen hlt hnd hst
    apply c_impl_permutations_1; unfold S_impl_permutations_1
    have hbo := hst.kbo
    have hbn := hst.kbn
    have hsl : SlN w v im := hst.ow.sl
    refine iLdB hbo rfl ?_
    refine iRetQ (fun w' h' => ok_impl_size_i64 (Sl.ext hst.ow.sl h')) ?_
    rw [ints_length, nats_length]
    refine iLdB hbn rfl ?_
    refine iEq ?_
    intro w1 h1
    have hst1 := hst.later h1
    refine iCndP (fun h2 => ?_) (fun h2 => absurd (show (im.length : Int) = n by omega) h2)
    refine iLdB hst1.kbf rfl ?_
    refine iLdB hst1.kbo rfl ?_
    refine iClo rfl ((ok_impl_leastRelation_1 (n := n) (o := im) hst1.ext ha hn hal ⟨by omega, hlt, hnd⟩ ham hst1.ow.sl hst1.kba hst1.kc hst1.kz (by rw [hk.lo]; exact hst1.ext.size)).mono ?_)
    rintro _ w2 ⟨hch, z', hc2, hz2, hzz⟩
    have hne : ∀ {e : TypeId} {b : Nat} {cs : List Value}, Blk e w1 b cs → t_Si64 ≠ e → b ≠ c := fun hb he => Blk.ne_blk hb hst1.kc (fun h => he h.symm)
    refine ⟨v, z', ?_⟩
    have e : (l ++ gr n 0 im).foldl (updB a) a = updB a (l.foldl (updB a) a) im := by rw [List.foldl_append]; rfl
    refine ⟨hst1.ext.thenCh hch (fun k hk' => hk' ▸ hk.c), hst1.kbo.ch hch hk.oc, hst1.kbn.ch hch (hne hst1.kbn (by decide)), hst1.kbf.ch hch (hne hst1.kbf hk.eF.2), hst1.kbg.ch hch (hne hst1.kbg hk.eG.2), hst1.kba.ch hch hk.ac, hc2, hst1.ow.ch hch (fun k hk' he => hst1.ow.ne_blk hst1.kc (by decide) (he ▸ hk')), by rw [e]; exact hz2, ?_, hst1.vn, ?_⟩
    · intro k hv hz
      rcases hzz with rfl | hzz
      · exact hst1.vz k hv hz
      · have := (hst1.ow.blk k hv).2
        have := hzz k hz
        omega
    · intro hz
      rcases hzz with rfl | hzz
      · exact hst1.zn hz
      · have := hst1.kbn.lt
        have := hzz _ hz
        omega
  | succ d ih =>
    intro im w v z l hlen hlt hnd hst
    apply c_impl_permutations_1; unfold S_impl_permutations_1
    refine iLdB hst.kbo rfl ?_
    refine iRetQ (fun w' h' => ok_impl_size_i64 (Sl.ext hst.ow.sl h')) ?_
    rw [ints_length, nats_length]
    refine iLdB hst.kbn rfl ?_
    refine iEq ?_
    intro w1 h1
    have hst1 := hst.later h1
    refine iCndP (fun h2 => absurd h2 (by omega)) (fun h2 => ?_)
    refine iLdB hst1.kbn rfl ?_
    have hus : setOf im < 2 ^ n := setOf_lt hlt
    have hus63 : setOf im < 2 ^ 62 := Nat.lt_of_lt_of_le hus (Nat.pow_le_pow_right (by omega) (by omega))
    refine iLp (fun k : Nat => [.int .i64 (k : Int)]) (fun k w' => k ≤ n ∧ ∃ v z, PSt w0 lo n bo bn bf bg ba c eF eG va a im w' v z (l ++ (freeL k im).flatMap fun y => gr n d (im ++ [y]))) (fun k => n - k) 0 rfl ⟨Nat.zero_le _, v, z, by simpa [freeL] using hst1⟩ ?_
    rintro k w4 Kn ⟨hkn, v4, z4, hst4⟩ hKn
    (intro _; (try simp only [gx]); (with_reducible refine iLt ?_))
    refine iCndP (fun h5 => ?_) (fun h5 => ?_)
    · have hk1 : k < n := by omega
      refine iRet (ok_impl_has (setOf im) k (by omega) (by omega) w4) fun w5 h5' => ?_
      have hst5 := hst4.later h5'
      rw [setOf_testBit]
      refine iNot ?_
      have hfs := freeL_succ im k
      refine iCnd (fun hc => ?_) (fun hc => ?_)
      · have hc : im.contains k = false := by simpa using hc
        rw [hc] at hfs
        have hc' : ¬ k ∈ im := by simpa using hc
        refine iLdB hst5.kbo rfl ?_
        have hil : (ints (nats im)).length = im.length := by rw [ints_length, nats_length]
        refine iApp1A u_Si64 i_Si64 rfl hst5.ow rfl (by omega) (by omega) (by rw [hk.lo]; exact hst5.ext.size) fun v' w7 ho hgr hat => ?_
        rw [ints_snoc] at ho
        refine PSt.put hk hst5 hgr ho hat fun w8 hst8 => ?_
        refine iLdB hst8.kbg rfl ?_
        refine iShlOne (by omega) ?_
        refine iBOr (by omega) (Nat.pow_lt_pow_right (by omega) (by omega)) ?_
        intro w9 h9
        have hst9 := hst8.later h9
        rw [← setOf_snoc]
        refine iClo rfl ((ih (im ++ [k]) w9 v' z4 _ (by rw [List.length_append, List.length_singleton]; omega) (fun x hx => by
          rcases List.mem_append.1 hx with hx | hx
          · exact hlt x hx
          · simp at hx; omega) (by
          rw [List.nodup_append]
          exact ⟨hnd, by simp, fun x hx y hy => by
            simp at hy
            subst hy
            intro e
            subst e
            exact hc' hx⟩) hst9).mono ?_)
        rintro _ w10 ⟨v10, z10, hst10⟩
        intro w11 h11
        have hst11 := hst10.later h11
        refine iLdB hst11.kbo rfl ?_
        refine iLdB hst11.kbo rfl ?_
        have how := hst11.ow
        rw [← ints_snoc] at how
        refine iLenS hst11.ow.sl ?_
        rw [ints_length, nats_length, List.length_append, List.length_singleton]
        refine iSub (by omega) ?_
        rw [show (((im.length + 1 : Nat) : Int) - 1) = ((ints (nats im)).length : Int) by omega]
        refine iSlDown how fun v12 hb12 ho12 => ?_
        refine PSt.put hk hst11 (grown_refl w11 _) ho12 (.inl hb12) fun w12 hst12 => ?_
        (refine iAdd (by omega) ?_)
        refine hKn (k + 1) _ ⟨by omega, v12, z10, ?_⟩ (by omega)
        rw [hfs]
        simpa using hst12
      · have hc : im.contains k = true := by simpa using hc
        rw [hc] at hfs
        (refine iAdd (by omega) ?_)
        refine hKn (k + 1) _ ⟨by omega, v4, z4, ?_⟩ (by omega)
        rw [hfs]
        simpa using hst5
    · have e : k = n := by omega
      subst e
      exact ⟨v4, z4, hst4⟩
theorem ok_impl_leastRelation {va : Value} {w : World} {a : List Nat} {n : Nat} (ha : SlN w va a) (hca : isCell va = true) (hn : n ≤ 6) (hal : a.length = n) (ham : ∀ x ∈ a, x < 2 ^ n) : Cal Tryz.prog f_impl_leastRelation #[va] w fun r w' => Ext w w' ∧ Ow w.heap.size t_i64 w' r (ints (nats (least a))) := by
  apply c_impl_leastRelation; unfold S_impl_leastRelation
  rw [isCell_cells hca]
  refine iNew fun ba w1 hba h1 hBa => ?_
  refine iLdB hBa rfl ?_
  refine iCall ((ok_slices_Clone_Si64_i64 (ha.ext h1) (by rw [nats_length]; omega)).mono ?_)
  rintro z w2 ⟨h2, hoz⟩
  refine iNew fun c w3 hc3 h3 hBc => ?_
  have hoz3 := hoz.ext h3
  refine iStB hBc (by simp [Value.cells]) hoz.cell fun hBc4 => ?_
  have hu4 := Upd.setCell w3 c 0 z
  have hs1 := h1.size
  have hs2 := h2.size
  have hs3 := h3.size
  have hX3 := h1.trans (h2.trans h3)
  have hX4 := hX3.upd hu4 (by omega)
  have hBa2 := (hBa.ext h2)
  have hlt := hBa2.lt
  have hBa4 := (hBa2.ext h3).upd hu4 (by omega)
  have hoz4 := hoz3.upd hu4 (hoz3.ne_blk hBc (by decide))
  have hs4 := hu4.size
  generalize w3.setCell ⟨c, 0, none⟩ z = w4 at *
  refine iLdB hBa4 rfl ?_
  refine iRet (ok_impl_size_i64 (Sl.ext ha hX4)) fun w5 h5 => ?_
  rw [ints_length, nats_length, hal]
  have hX5 := hX4.trans h5
  have hs5 := h5.size
  have hBa5 := hBa4.ext h5
  have hBc5 := Blk.ext hBc4 h5
  have hoz5 := hoz4.ext h5
  suffices hP : Cal Tryz.prog f_impl_permutations #[.int .i64 (n : Int), .func (.func f_impl_leastRelation_1) #[] #[.pointer (some ⟨ba, 0, none⟩), .pointer (some ⟨c, 0, none⟩)]] w5 fun _ w' => Ext w w' ∧ ∃ z', Blk t_Si64 w' c [z'] ∧ Ow w.heap.size t_i64 w' z' (ints (nats (least a))) by
    refine iCall (hP.mono ?_)
    rintro _ w6 ⟨hX6, z', hc6, hz6⟩
    refine iLdB hc6 rfl ?_
    exact ⟨hX6, hz6⟩
  apply c_impl_permutations; unfold S_impl_permutations
  refine iNew fun bn w6 hbn h6 hBn => ?_
  refine iNew fun bf w7 hbf h7 hBf => ?_
  have hBn7 := hBn.ext h7
  refine iLdB hBn7 rfl ?_
  refine iMk0 (by omega) (by omega) rfl fun v w8 h8 hov hvb => ?_
  refine iNew fun bo w9 hbo h9 hBo => ?_
  refine iStB hBo (by simp [Value.cells]) hov.cell fun hBo10 => ?_
  have hu10 := Upd.setCell w9 bo 0 v
  have hs6 := h6.size
  have hs7 := h7.size
  have hs8 := h8.size
  have hs9 := h9.size
  have hs10 := hu10.size
  have h59 := h6.trans (h7.trans (h8.trans h9))
  have hX10 := (hX5.trans h59).upd hu10 (by omega)
  have hBc5l := hBc5.lt
  have hBa5l := hBa5.lt
  have hBc10 := (hBc5.ext h59).upd hu10 (by omega)
  have hBa10 := (hBa5.ext h59).upd hu10 (by omega)
  have hoz10 := (hoz5.ext h59).upd hu10 (fun hc => by have := (hoz5.blk _ hc).2; omega)
  have hBn10 := ((hBn7.ext h8).ext h9).upd hu10 (by omega)
  have hBf10 := ((hBf.ext h8).ext h9).upd hu10 (by omega)
  have hov10 := (hov.ext h9).upd hu10 (fun hc => by have := (hov.blk _ hc).2; omega)
  generalize w9.setCell ⟨bo, 0, none⟩ v = w10 at *
  refine iNew fun bg w11 hbg h11 hBg => ?_
  refine iStB hBg (by simp [Value.cells]) rfl fun hBg12 => ?_
  have hu12 := Upd.setCell w11 bg 0 (.func (.func f_impl_permutations_1) #[] #[.pointer (some ⟨bo, 0, none⟩), .pointer (some ⟨bn, 0, none⟩), .pointer (some ⟨bf, 0, none⟩), .pointer (some ⟨bg, 0, none⟩)])
  have hs11 := h11.size
  have hs12 := hu12.size
  have hX12 := (hX10.trans h11).upd hu12 (by omega)
  have hBo10l := Blk.lt hBo10
  have hBc12 := (hBc10.ext h11).upd hu12 (by omega)
  have hBa12 := (hBa10.ext h11).upd hu12 (by omega)
  have hoz12 := (hoz10.ext h11).upd hu12 (fun hc => by have := (hoz5.blk _ hc).2; omega)
  have hBn12 := (hBn10.ext h11).upd hu12 (by omega)
  have hBf12 := (hBf10.ext h11).upd hu12 (by omega)
  have hov12 := (hov10.ext h11).upd hu12 (fun hc => by have := (hov.blk _ hc).2; omega)
  have hBo12 := (Blk.ext hBo10 h11).upd hu12 (by omega)
  refine iLdB hBg12 rfl ?_
  have hPB : PBk w w.heap.size bo bn bf bg ba c 179 205 := ⟨rfl, by decide, by decide, by omega, by omega, by omega, by omega, by omega⟩
  have hPS : PSt w w.heap.size n bo bn bf bg ba c _ _ va a [] (w11.setCell ⟨bg, 0, none⟩ (.func (.func f_impl_permutations_1) #[] #[.pointer (some ⟨bo, 0, none⟩), .pointer (some ⟨bn, 0, none⟩), .pointer (some ⟨bf, 0, none⟩), .pointer (some ⟨bg, 0, none⟩)])) v z [] :=
    ⟨hX12, hBo12, hBn12, hBf12, hBg12, hBa12, hBc12, hov12.mono (by omega), hoz12.mono (by omega), fun k hk hz => by have := hvb k hk; have := (hoz5.blk k hz).2; omega, fun hc => by have := hvb _ hc; omega, fun hc => by have := (hoz5.blk _ hc).2; omega⟩
  refine iClo rfl ((ok_impl_permutations_1 hPB ha hn hal ham n [] _ v z [] (by simp) (by simp) (by simp) hPS).mono ?_)
  rintro _ w13 ⟨v', z', hst⟩
  refine ⟨hst.ext, z', hst.kc, ?_⟩
  have hz := hst.kz
  rw [List.nil_append, ords_eq] at hz
  unfold least
  rw [hal]
  exact hz
end Go.Proofs.YtikfhibcdhdglaaGreat

/- Contracts: all lists of classes, handed to a visitor one after the other; all congruences. Conditions: none. -/
namespace Go.Proofs.YtikfhibcdhdglaaGreat
open Go.Vc
theorem grB_snoc {c : List Nat} (h : grB 0 c = true) {u : Nat} (hu : u ≤ topG 0 c) : grB 0 (c ++ [u]) = true := by
  rw [grB_app, h, Bool.true_and]
  simp only [grB, Bool.and_eq_true, decide_eq_true_eq]
  exact ⟨hu, trivial⟩
theorem max_topG {t u : Nat} (hu : u ≤ t) : max t (u + 1) = if u = t then t + 1 else t := by split <;> omega
/-- A visitor of lists of classes: J holds of the blocks S, of the lists that have come, and of the world. -/
structure VisG (vis : Value) (n z : Nat) where
  J : (Nat → Prop) → List (List Nat) → World → Prop
  below : ∀ {S l w}, J S l w → ∀ k, S k → k < w.heap.size
  keep : ∀ {S T l w w'}, J S l w → Ch T w w' → (∀ b, T b → ¬ S b ∧ z ≤ b) → J S l w'
  visit : ∀ {S l w v lo c}, J S l w → Ow lo t_i64 w v (ints (nats c)) → c.length = n → grB 0 c = true → (∀ b, v.ownBlock = some b → ¬ S b) → l.length < 1000000 →
    callV Tryz.prog vis [v] w fun _ w' => ∃ S', J S' (l ++ [c]) w' ∧ Ch S w w' ∧ ∀ k, S' k → S k ∨ w.heap.size ≤ k
structure GrK (z : Nat) (w0 : World) (bo : Nat) (eF eG : TypeId) : Prop where
  eF : eF ≠ t_i64 ∧ eF ≠ t_Si64
  eG : eG ≠ t_i64 ∧ eG ≠ t_Si64
  bo : w0.heap.size ≤ bo
  z : z ≤ w0.heap.size
/-- The state of the growing: the lists l have come, the row holds c. -/
structure GrS {vis : Value} {n z : Nat} (V : VisG vis n z) (S0 : Nat → Prop) (w0 : World) (bo bn bf bg : Nat) (eF eG : TypeId) (c : List Nat) (S : Nat → Prop) (l : List (List Nat)) (w : World) (v : Value) : Prop where
  ch : Ch S0 w0 w
  sub : ∀ k, S k → S0 k ∨ w0.heap.size ≤ k
  kbo : Blk t_Si64 w bo [v]
  kbn : Blk t_i64 w bn [.int .i64 (n : Int)]
  kbf : Blk eF w bf [vis]
  kbg : Blk eG w bg [.func (.func f_impl_allClasses_1) #[] #[.pointer (some ⟨bo, 0, none⟩), .pointer (some ⟨bn, 0, none⟩), .pointer (some ⟨bf, 0, none⟩), .pointer (some ⟨bg, 0, none⟩)]]
  ow : Ow w0.heap.size t_i64 w v (ints (nats c))
  inv : V.J S l w
  nS : ¬ S bo ∧ ¬ S bn ∧ ¬ S bf ∧ ¬ S bg
  nv : ∀ b, v.ownBlock = some b → ¬ S b ∧ b ≠ bn
section
variable {vis : Value} {n z : Nat} {V : VisG vis n z} {S0 : Nat → Prop} {w0 : World} {bo bn bf bg : Nat} {eF eG : TypeId}
theorem GrS.later {c : List Nat} {S : Nat → Prop} {l : List (List Nat)} {w w' : World} {v : Value} (h : GrS V S0 w0 bo bn bf bg eF eG c S l w v) (x : Ext w w') : GrS V S0 w0 bo bn bf bg eF eG c S l w' v :=
  ⟨h.ch.trans (x.ch (S := S0)) fun _ k => .inl k, h.sub, h.kbo.ext x, h.kbn.ext x, h.kbf.ext x, h.kbg.ext x, h.ow.ext x, V.keep h.inv (x.ch (S := fun _ => False)) fun _ k => k.elim, h.nS, h.nv⟩
/-- The row's cell is written. -/
theorem GrS.put {c c' : List Nat} {S : Nat → Prop} {l : List (List Nat)} {w w' : World} {v v' : Value} (hk : GrK z w0 bo eF eG) (h : GrS V S0 w0 bo bn bf bg eF eG c S l w v)
    (hg : w.grownBy w' v.ownBlock) (hv : Ow w0.heap.size t_i64 w' v' (ints (nats c'))) (hat : v'.ownBlock = v.ownBlock ∨ ∃ k, v'.ownBlock = some k ∧ w.heap.size ≤ k) {K : World → Prop}
    (hK : ∀ w'', GrS V S0 w0 bo bn bf bg eF eG c' S l w'' v' → K w'') : xSt w' (.pointer (some ⟨bo, 0, none⟩)) v' K := by
  have hgc := grown_ch (S := fun k => v.ownBlock = some k) hg (fun k hk => hk)
  have hne : ∀ {e : TypeId} {b : Nat} {cs : List Value}, Blk e w b cs → t_i64 ≠ e → v.ownBlock ≠ some b := fun hb he => h.ow.ne_blk hb he
  have hbo := h.kbo.ch hgc (hne h.kbo (by decide))
  refine iStB hbo (by simp) hv.cell fun hbo2 => hK _ ?_
  have hu := Upd.setCell w' bo 0 v'
  have hbn' : bo ≠ bn := fun e => by
    have := Blk.ne_blk h.kbn h.kbo (by decide)
    exact this e.symm
  have hC : Ch (fun k => v.ownBlock = some k ∨ k = bo) w (w'.setCell ⟨bo, 0, none⟩ v') := (hgc.mono fun _ h => .inl h).trans (hu.ch (S := fun k => v.ownBlock = some k ∨ k = bo) (.inr rfl)) fun _ h => .inl h
  refine ⟨h.ch.trans hC fun b hb => .inr ?_, h.sub, hbo2, (h.kbn.ch hgc fun e => (h.nv _ e).2 rfl).upd hu (fun e => hbn' e.symm), (h.kbf.ch hgc (hne h.kbf fun e => hk.eF.1 e.symm)).upd hu (Blk.ne_blk h.kbf h.kbo hk.eF.2), (h.kbg.ch hgc (hne h.kbg fun e => hk.eG.1 e.symm)).upd hu (Blk.ne_blk h.kbg h.kbo hk.eG.2), hv.upd hu (hv.ne_blk hbo (by decide)),
    V.keep h.inv hC fun b hb => ⟨fun hS => ?_, Nat.le_trans hk.z ?_⟩, h.nS, fun b hb => ?_⟩
  · rcases hb with hb | hb
    · exact (h.ow.blk b hb).1
    · rw [hb]; exact hk.bo
  · rcases hb with hb | hb
    · exact (h.nv b hb).1 hS
    · subst hb; exact h.nS.1 hS
  · rcases hb with hb | hb
    · exact (h.ow.blk b hb).1
    · rw [hb]; exact hk.bo
  · rcases hat with h1 | ⟨k', h1, h2⟩
    · exact h.nv b (by rw [← h1]; exact hb)
    · rw [h1] at hb
      cases hb
      refine ⟨fun hS => ?_, fun e => ?_⟩
      · have := V.below h.inv _ hS
        omega
      · have := h.kbn.lt
        omega
theorem ok_impl_allClasses_1 (hk : GrK z w0 bo eF eG) (hn : n ≤ 6) :
    ∀ (d : Nat) (c : List Nat) (w : World) (v : Value) (S : Nat → Prop) (l : List (List Nat)), c.length + d = n → grB 0 c = true → l.length + 6 ^ d ≤ 46656 → GrS V S0 w0 bo bn bf bg eF eG c S l w v →
      Cal Tryz.prog f_impl_allClasses_1 #[.int .i64 ((topG 0 c : Nat) : Int), .pointer (some ⟨bo, 0, none⟩), .pointer (some ⟨bn, 0, none⟩), .pointer (some ⟨bf, 0, none⟩), .pointer (some ⟨bg, 0, none⟩)] w fun _ w' => ∃ v' S', GrS V S0 w0 bo bn bf bg eF eG c S' (l ++ growL d (topG 0 c) c) w' v' := by
  intro d
  induction d with
  | zero =>
    intro c w v S l hlen hg hb hst
    apply c_impl_allClasses_1; unfold S_impl_allClasses_1
    refine iLdB hst.kbo rfl ?_
    refine iRetQ (fun w' h' => ok_impl_size_i64 (Sl.ext hst.ow.sl h')) ?_
    rw [ints_length, nats_length]
    refine iLdB hst.kbn rfl ?_
    refine iEq ?_
    intro w1 h1
    have hst1 := hst.later h1
    refine iCndP (fun h2 => ?_) (fun h2 => absurd (show (c.length : Int) = n by omega) h2)
    refine iLdB hst1.kbf rfl ?_
    refine iLdB hst1.kbo rfl ?_
    refine (V.visit hst1.inv hst1.ow (by omega) hg (fun b hb => (hst1.nv b hb).1) (by omega)).mono ?_
    rintro _ w2 ⟨S', hJ, hch, hS'⟩
    have nb : ∀ {e : TypeId} {b : Nat} {cs : List Value}, Blk e w1 b cs → ¬ S b → ¬ S' b := fun hB hn h => (hS' _ h).elim hn fun h => by have := hB.lt; omega
    obtain ⟨n1, n2, n3, n4⟩ := hst1.nS
    refine ⟨v, S', hst1.ch.trans hch hst1.sub, fun b hb => (hS' b hb).elim (hst1.sub b) fun h => .inr (Nat.le_trans hst1.ch.size h), hst1.kbo.ch hch n1, hst1.kbn.ch hch n2, hst1.kbf.ch hch n3, hst1.kbg.ch hch n4, hst1.ow.ch hch fun b hb => (hst1.nv b hb).1, hJ, ⟨nb hst1.kbo n1, nb hst1.kbn n2, nb hst1.kbf n3, nb hst1.kbg n4⟩, fun b hb => ⟨fun h => (hS' b h).elim (hst1.nv b hb).1 fun h => by have := (hst1.ow.blk b hb).2; omega, (hst1.nv b hb).2⟩⟩
  | succ d ih =>
    intro c w v S l hlen hg hb hst
    have htop := topG_le c 0
    apply c_impl_allClasses_1; unfold S_impl_allClasses_1
    refine iLdB hst.kbo rfl ?_
    refine iRetQ (fun w' h' => ok_impl_size_i64 (Sl.ext hst.ow.sl h')) ?_
    rw [ints_length, nats_length]
    refine iLdB hst.kbn rfl ?_
    refine iEq ?_
    intro w1 h1
    have hst1 := hst.later h1
    refine iCndP (fun h2 => absurd h2 (by omega)) (fun h2 => ?_)
    refine iAdd (by omega) ?_
    have hgl : ∀ u, ((List.range u).flatMap fun u => growL d (if u = topG 0 c then topG 0 c + 1 else topG 0 c) (c ++ [u])).length ≤ u * 6 ^ d := fun u => by
      have := flatMap_len (fun u => growL d (if u = topG 0 c then topG 0 c + 1 else topG 0 c) (c ++ [u])) (6 ^ d) (List.range u) fun x _ => growL_len d _ _ (by split <;> omega)
      rwa [List.length_range] at this
    refine iLp (fun k : Nat => [.int .i64 (k : Int)]) (fun k w' => k ≤ topG 0 c + 1 ∧ ∃ v S', GrS V S0 w0 bo bn bf bg eF eG c S' (l ++ (List.range k).flatMap fun u => growL d (if u = topG 0 c then topG 0 c + 1 else topG 0 c) (c ++ [u])) w' v) (fun k => topG 0 c + 1 - k) 0 rfl ⟨Nat.zero_le _, v, S, by simpa using hst1⟩ ?_
    rintro k w4 Kn ⟨hkn, v4, S4, hst4⟩ hKn
    intro _
    simp only [gx]
    refine iLt (iCndP (fun h5 => ?_) (fun h5 => ?_))
    · have hk1 : k ≤ topG 0 c := by omega
      refine iLdB hst4.kbo rfl ?_
      have hil : (ints (nats c)).length = c.length := by rw [ints_length, nats_length]
      refine iApp1A u_Si64 i_Si64 rfl hst4.ow rfl (by omega) (by omega) hst4.ch.size fun v' w7 ho hgr hat => ?_
      rw [ints_snoc] at ho
      refine GrS.put hk hst4 hgr ho hat fun w8 hst8 => ?_
      refine iLdB hst8.kbg rfl ?_
      refine iAdd (by omega) ?_
      rw [show (k : Int) + 1 = ((k + 1 : Nat) : Int) by omega]
      refine iMaxN ?_
      rw [max_topG hk1, ← topG_snoc]
      have hg2 := grB_snoc hg hk1
      have hlk := hgl k
      have hp6 : 6 ^ (d + 1) = 6 * 6 ^ d := by rw [Nat.pow_succ, Nat.mul_comm]
      have hk6 : (k + 1) * 6 ^ d ≤ 6 * 6 ^ d := Nat.mul_le_mul_right _ (by omega)
      rw [Nat.add_mul, Nat.one_mul] at hk6
      refine iClo rfl ((ih (c ++ [k]) w8 v' S4 _ (by rw [List.length_append, List.length_singleton]; omega) hg2 (by rw [List.length_append]; omega) hst8).mono ?_)
      rintro _ w10 ⟨v10, S10, hst10⟩
      have hst11 := hst10
      refine iLdB hst11.kbo rfl ?_
      refine iLdB hst11.kbo rfl ?_
      have how := hst11.ow
      rw [← ints_snoc] at how
      refine iLenS hst11.ow.sl ?_
      rw [ints_length, nats_length, List.length_append, List.length_singleton]
      refine iSub (by omega) ?_
      rw [show (((c.length + 1 : Nat) : Int) - 1) = ((ints (nats c)).length : Int) by omega]
      refine iSlDown how fun v12 hb12 ho12 => ?_
      refine GrS.put hk hst11 (grown_refl w10 _) ho12 (.inl hb12) fun w12 hst12 => ?_
      refine iAdd (by omega) ?_
      refine hKn (k + 1) _ ⟨by omega, v12, S10, ?_⟩ (by omega)
      rw [flatMap_range_succ, ← List.append_assoc]
      rw [topG_snoc] at hst12
      exact hst12
    · have e : k = topG 0 c + 1 := by omega
      subst e
      exact ⟨v4, S4, hst4⟩
end
theorem ok_impl_allClasses {vis : Value} {n z : Nat} (V : VisG vis n z) (hcv : isCell vis = true) (hn : n ≤ 6) {S0 : Nat → Prop} {w : World} (hz : z ≤ w.heap.size) (hJ : V.J S0 [] w) :
    Cal Tryz.prog f_impl_allClasses #[.int .i64 (n : Int), vis] w fun _ w' => ∃ S', V.J S' (clsL n) w' ∧ Ch S0 w w' ∧ ∀ k, S' k → S0 k ∨ w.heap.size ≤ k := by
  have hSlt : ∀ b, S0 b → b < w.heap.size := V.below hJ
  apply c_impl_allClasses; unfold S_impl_allClasses
  refine iNew fun bn w6 hbn h6 hBn => ?_
  refine iNew fun bf w7 hbf h7 hBf => ?_
  rw [isCell_cells hcv] at hBf
  have hBn7 := hBn.ext h7
  refine iLdB hBn7 rfl ?_
  refine iMk0 (by omega) (by omega) rfl fun v w8 h8 hov hvb => ?_
  refine iNew fun bo w9 hbo h9 hBo => ?_
  refine iStB hBo (by simp [Value.cells]) hov.cell fun hBo10 => ?_
  have hu10 := Upd.setCell w9 bo 0 v
  have hs6 := h6.size
  have hs7 := h7.size
  have hs8 := h8.size
  have hs9 := h9.size
  have hs10 := hu10.size
  have h59 := h6.trans (h7.trans (h8.trans h9))
  have hX10 := h59.upd hu10 (by omega)
  have hBn10 := ((hBn7.ext h8).ext h9).upd hu10 (by omega)
  have hBf10 := ((hBf.ext h8).ext h9).upd hu10 (by omega)
  have hov10 := (hov.ext h9).upd hu10 (fun hc => by have := (hov.blk _ hc).2; omega)
  generalize w9.setCell ⟨bo, 0, none⟩ v = w10 at *
  refine iNew fun bg w11 hbg h11 hBg => ?_
  refine iStB hBg (by simp [Value.cells]) rfl fun hBg12 => ?_
  have hu12 := Upd.setCell w11 bg 0 (.func (.func f_impl_allClasses_1) #[] #[.pointer (some ⟨bo, 0, none⟩), .pointer (some ⟨bn, 0, none⟩), .pointer (some ⟨bf, 0, none⟩), .pointer (some ⟨bg, 0, none⟩)])
  have hs11 := h11.size
  have hs12 := hu12.size
  have hX12 := (hX10.trans h11).upd hu12 (by omega)
  have hBo10l := Blk.lt hBo10
  have hBn12 := (hBn10.ext h11).upd hu12 (by omega)
  have hBf12 := (hBf10.ext h11).upd hu12 (by omega)
  have hov12 := (hov10.ext h11).upd hu12 (fun hc => by have := (hov.blk _ hc).2; omega)
  have hBo12 := (Blk.ext hBo10 h11).upd hu12 (by omega)
  refine iLdB hBg12 rfl ?_
  have hK : GrK z w bo 179 205 := ⟨by decide, by decide, by omega, hz⟩
  have hS : GrS V S0 w bo bn bf bg _ _ [] S0 [] (w11.setCell ⟨bg, 0, none⟩ (.func (.func f_impl_allClasses_1) #[] #[.pointer (some ⟨bo, 0, none⟩), .pointer (some ⟨bn, 0, none⟩), .pointer (some ⟨bf, 0, none⟩), .pointer (some ⟨bg, 0, none⟩)])) v :=
    ⟨hX12.ch, fun _ h => .inl h, hBo12, hBn12, hBf12, hBg12, hov12.mono (by omega), V.keep hJ (hX12.ch (S := fun _ => False)) fun _ h => h.elim, ⟨fun h => by have := hSlt _ h; omega, fun h => by have := hSlt _ h; omega, fun h => by have := hSlt _ h; omega, fun h => by have := hSlt _ h; omega⟩, fun b hb => ⟨fun h => by have := hSlt _ h; have := (hov.blk b hb).1; omega, fun e => by have := (hov.blk b hb).1; omega⟩⟩
  refine iClo rfl ((ok_impl_allClasses_1 hK hn n [] _ v S0 [] (by simp) rfl (by rw [List.length_nil, Nat.zero_add]; exact Nat.le_trans (Nat.pow_le_pow_right (by omega) hn) (by decide)) hS).mono ?_)
  rintro _ w13 ⟨v', S', hst⟩
  exact ⟨S', hst.inv, hst.ch, hst.sub⟩
theorem LLw.ne {lo : Nat} {w : World} {v : Value} {P : List VC} (h : LLw lo w v P) {e : TypeId} {b : Nat} {cs : List Value} (hb : Blk e w b cs) (h1 : t_Si64 ≠ e) (h2 : t_i64 ≠ e) : v.ownBlock ≠ some b ∧ ∀ p ∈ P, p.1.ownBlock ≠ some b :=
  ⟨h.row.ne_blk hb h1, fun p hp => (h.each p hp).ne_blk hb h2⟩
theorem LLw.ch {lo : Nat} {S : Nat → Prop} {w w' : World} {v : Value} {P : List VC} (h : LLw lo w v P) (k : Ch S w w') (hn : ∀ b, S b → v.ownBlock ≠ some b ∧ ∀ p ∈ P, p.1.ownBlock ≠ some b) : LLw lo w' v P :=
  ⟨h.row.ch k fun b hb hS => (hn b hS).1 hb, fun p hp => (h.each p hp).ch k fun b hb hS => (hn b hS).2 p hp hb⟩
theorem iApLLd {lo : Nat} {w : World} {v x : Value} {P : List VC} {c : List Nat} {K : Value → World → Prop} (hlo : lo ≤ w.heap.size) (h : LLw lo w v P) (hx : Ow lo t_i64 w x (ints (nats c))) (hP : P.length ≤ 1099511627776)
    (hK : ∀ v' w', LLw lo w' v' (P ++ [(x, c)]) → Ch (fun b => v.ownBlock = some b) w w' → (v'.ownBlock = v.ownBlock ∨ ∃ b, v'.ownBlock = some b ∧ w.heap.size ≤ b) → K v' w') : xBs t_Si64 (Value.cells (.slice none 0 0)) 1 1 [(0, x)] w fun y w1 => Ext w w1 ∧ ∀ w2, Ext w1 w2 → xOp Tryz.prog (Builtin.append_ #[t_SSi64, t_SSi64] t_SSi64 #[v, y]) w2 K := by
  refine iBs1 rfl hx.cell fun b w1 _ h1 hB => ⟨h1, fun w2 h2 => ?_⟩
  have h12 := h1.trans h2
  have hz := h12.size
  refine iAppA u_SSi64 i_SSi64 rfl (h.row.ext h12) (Sl.ofBlk (hB.ext h2) rfl (by omega)) (by simpa using hx.cell) (by rw [List.length_map]; show (P.length + 1) * _ ≤ _; omega) (by rw [List.length_map]; show P.length + 1 ≤ _; omega) (by omega) fun v' w' ho hg hat => ?_
  have hC := grown_ch (S := fun b => v.ownBlock = some b) hg fun b hb => hb
  refine hK v' w' ?_ ((h12.ch (S := fun b => v.ownBlock = some b)).trans hC fun _ h => .inl h) (hat.imp id fun ⟨b, h1, h2⟩ => ⟨b, h1, by omega⟩)
  have key : ∀ {u : Value} {d : List Value}, Ow lo t_i64 w2 u d → Ow lo t_i64 w' u d := fun {u d} hu => hu.ch hC fun b hb hv => by
    obtain ⟨_, h1⟩ := hu.ty hb
    obtain ⟨_, h2⟩ := (h.row.ext h12).ty hv
    rw [h1] at h2
    injection h2 with h2
    injection h2 with _ h2
    exact absurd h2 (by decide)
  refine ⟨by simpa using ho, fun p hp => ?_⟩
  rcases List.mem_append.1 hp with hp | hp
  · exact key ((h.each p hp).ext h12)
  · rw [List.mem_singleton] at hp
    subst hp
    exact key (hx.ext h12)
theorem ok_impl_congruences_1 {f : Fr} (hf : f.ok) {v0 vc vo : Value} {w : World} {bF bO lo : Nat} {P : List VC} {c : List Nat} (hs : SlN w v0 f.a) (hBf : Blk 86 w bF [.int .i64 (f.n : Int), v0]) (hBo : Blk t_SSi64 w bO [vo]) (hP : LLw lo w vo P) (hc : SlN w vc c) (hg : grB 0 c = true) (hl : c.length = f.n) (hlen : P.length ≤ 1000000) (hlo : lo ≤ w.heap.size) :
    Cal Tryz.prog f_impl_congruences_1 #[vc, .pointer (some ⟨bF, 0, none⟩), .pointer (some ⟨bO, 0, none⟩)] w fun _ w' => ∃ vo' P', Blk t_SSi64 w' bO [vo'] ∧ LLw lo w' vo' P' ∧ P'.map Prod.snd = P.map Prod.snd ++ (if corB f c = true then [c] else []) ∧ Ch (fun k => k = bO ∨ vo.ownBlock = some k) w w' ∧ (vo'.ownBlock = vo.ownBlock ∨ ∃ b, vo'.ownBlock = some b ∧ w.heap.size ≤ b) ∧ ∀ p ∈ P', p ∈ P ∨ ∀ b, p.1.ownBlock = some b → w.heap.size ≤ b := by
  have h8 := hf.1
  apply c_impl_congruences_1; unfold S_impl_congruences_1
  refine iLdA hBf rfl ?_
  refine iRet (ok_impl_isCongruence hf hs hc) fun w1 x1 => ?_
  have hBf := hBf.ext x1
  have hBo := hBo.ext x1
  have hP1 := hP.ext x1
  rw [congB_nats, decide_eq_true hl, hg, Bool.true_and, Bool.true_and]
  cases hb : corB f c
  · refine iCndF rfl ⟨vo, P, hBo, hP1, by simp, x1.ch, .inl rfl, fun p hp => .inl hp⟩
  refine iCndT rfl ?_
  refine iLdB hBo (v := vo) rfl ?_
  intro wa xa
  refine iCall ((ok_slices_Clone_Si64_i64 (hc.ext (x1.trans xa)) (by rw [nats_length]; omega)).mono ?_)
  rintro z wb ⟨xb, hz⟩
  refine ⟨xb, fun w2 xc => ?_⟩
  have x2 : Ext w1 w2 := (xa.trans xb).trans xc
  have hs1 := x1.size
  have hsa := xa.size
  have hs2 := x2.size
  refine iApLLd (by omega) (hP1.ext x2) ((hz.ext xc).mono (by omega)) (by omega) fun vo' w3 hP3 hch3 hat => ?_
  intro wd xd
  have hBo3 := ((hBo.ext x2).ch hch3 fun e => hP1.row.ne_blk hBo (by decide) e).ext xd
  have hP3 := hP3.ext xd
  refine iStB hBo3 (i := 0) (by simp) hP3.row.cell fun hBo4 => ?_
  have hu := Upd.setCell wd bO 0 vo'
  have hne := hP3.ne hBo3 (by decide) (by decide)
  intro we xe
  refine ⟨vo', _, Blk.ext hBo4 xe, (hP3.ch (hu.ch (S := fun k => k = bO) rfl) (fun b hb => by rw [hb]; exact hne)).ext xe, by simp, ?_, ?_, fun p hp => ?_⟩
  · have hC3 : Ch (fun k => k = bO ∨ vo.ownBlock = some k) w wd := (((x1.trans x2).ch (S := fun k => k = bO ∨ vo.ownBlock = some k)).trans (hch3.mono fun _ h => (.inr h : _ = bO ∨ _)) fun b h => .inl h).trans (xd.ch (S := fun _ => False)) fun b h => h.elim
    exact (hC3.trans (hu.ch (S := fun k => k = bO ∨ vo.ownBlock = some k) (.inl rfl)) fun b h => .inl h).trans (xe.ch (S := fun _ => False)) fun b h => h.elim
  · exact hat.imp id fun ⟨b, h1, h2⟩ => ⟨b, h1, by omega⟩
  · rcases List.mem_append.1 hp with hp | hp
    · exact .inl hp
    · rw [List.mem_singleton] at hp
      subst hp
      exact .inr fun b hb => by have := (hz.blk b hb).1; omega
/-- The program's visitor: it keeps the congruences. -/
def visCong (f : Fr) (hf : f.ok) (v0 : Value) (w0 : World) (hs : SlN w0 v0 f.a) (bF bO : Nat) : VisG (.func (.func f_impl_congruences_1) #[] #[.pointer (some ⟨bF, 0, none⟩), .pointer (some ⟨bO, 0, none⟩)]) f.n w0.heap.size where
  J S A w := Ext w0 w ∧ w0.heap.size ≤ bO ∧ Blk 86 w bF [.int .i64 (f.n : Int), v0] ∧ ∃ vo P, S = (fun k => k = bF ∨ k = bO ∨ vo.ownBlock = some k ∨ ∃ p ∈ P, p.1.ownBlock = some k) ∧ Blk t_SSi64 w bO [vo] ∧ LLw w0.heap.size w vo P ∧ P.map Prod.snd = A.filter (corB f)
  below := by
    rintro S A w ⟨hX, hbO, hBf, vo, P, rfl, hBo, hP, hA⟩ k (rfl | rfl | hk | ⟨p, hp, hk⟩)
    · exact hBf.lt
    · exact hBo.lt
    · exact (hP.row.blk k hk).2
    · exact ((hP.each p hp).blk k hk).2
  keep := by
    rintro S T A w w' ⟨hX, hbO, hBf, vo, P, rfl, hBo, hP, hA⟩ hch hT
    refine ⟨hX.thenCh hch fun b hb => (hT b hb).2, hbO, hBf.ch hch fun h => (hT _ h).1 (.inl rfl), vo, P, rfl, hBo.ch hch fun h => (hT _ h).1 (.inr (.inl rfl)), hP.ch hch fun b hb => ⟨fun h => (hT b hb).1 (.inr (.inr (.inl h))), fun p hp h => (hT b hb).1 (.inr (.inr (.inr ⟨p, hp, h⟩)))⟩, hA⟩
  visit := by
    rintro S A w v lo c ⟨hX, hbO, hBf, vo, P, rfl, hBo, hP, hA⟩ ho hl hg hn hlen
    have hPl : P.length ≤ A.length := by
      have h1 := congrArg List.length hA
      rw [List.length_map] at h1
      rw [h1]
      exact List.length_filter_le _ _
    refine iClo rfl ((ok_impl_congruences_1 hf (hs.ext hX) hBf hBo hP ho.sl hg hl (by omega) hX.size).mono ?_)
    rintro _ w' ⟨vo', P', hBo', hP', hA', hch, hat, hnew⟩
    have hne := hP.row.ne_blk hBf (by decide)
    have hneO := hBf.ne_blk hBo (by decide)
    refine ⟨_, ⟨hX.thenCh hch fun b hb => ?_, hbO, hBf.ch hch fun h => h.elim (fun h => hneO h) fun h => hne h, vo', P', rfl, hBo', hP', ?_⟩, hch.mono fun b hb => ?_, fun b hb => ?_⟩
    · rcases hb with rfl | hb
      · exact hbO
      · exact (hP.row.blk b hb).1
    · rw [hA', hA, List.filter_append]
      congr 1
      cases hcb : corB f c
      · rw [if_neg (by simp)]; simp [hcb]
      · rw [if_pos rfl]; simp [hcb]
    · rcases hb with rfl | hb
      · exact .inr (.inl rfl)
      · exact .inr (.inr (.inl hb))
    · rcases hb with rfl | rfl | hb | ⟨p, hp, hb⟩
      · exact .inl (.inl rfl)
      · exact .inl (.inr (.inl rfl))
      · rcases hat with h | ⟨b', h, hb'⟩
        · exact .inl (.inr (.inr (.inl (by rw [← h]; exact hb))))
        · rw [h] at hb; cases hb; exact .inr hb'
      · rcases hnew p hp with h | h
        · exact .inl (.inr (.inr (.inr ⟨p, h, hb⟩)))
        · exact .inr (h b hb)
theorem ok_impl_congruences {f : Fr} (hf : f.ok) (h6 : f.n ≤ 6) {v0 : Value} {w : World} (hs : SlN w v0 f.a) :
    Cal Tryz.prog f_impl_congruences #[.agg #[.int .i64 (f.n : Int), v0]] w fun r w' => Ext w w' ∧ ∃ P, LLw w.heap.size w' r P ∧ P.map Prod.snd = congL f := by
  apply c_impl_congruences; unfold S_impl_congruences
  refine iNew fun bF w1 hbF x1 hBF => ?_
  have hBF : Blk 86 w1 bF [.int .i64 (f.n : Int), v0] := hBF
  refine iNew fun bO w2 hbO x2 hBO => ?_
  have hBO : Blk t_SSi64 w2 bO [.slice none 0 0] := hBO
  have hs1 := x1.size
  have X2 := x1.trans x2
  have hBF2 := hBF.ext x2
  refine iFa (iLdB hBF2 (i := 0) (v := .int .i64 (f.n : Int)) rfl ?_)
  refine iCall ((ok_impl_allClasses (visCong f hf v0 w hs bF bO) rfl h6 (S0 := fun k => k = bF ∨ k = bO ∨ (Value.slice none 0 0).ownBlock = some k ∨ ∃ p ∈ ([] : List VC), p.1.ownBlock = some k) X2.size ⟨X2, by omega, hBF2, .slice none 0 0, [], rfl, hBO, ⟨Ow.nil _ _ _, fun p hp => absurd hp (by simp)⟩, rfl⟩).mono ?_)
  rintro _ w3 ⟨S', ⟨hX, _, _, vo, P, _, hBo, hP, hA⟩, hch, _⟩
  refine iLdB hBo (v := vo) rfl ?_
  exact ⟨hX, P, hP, hA⟩
end Go.Proofs.YtikfhibcdhdglaaGreat

/- Memory: rows of elements of two cells that a call turns in place. No function in sight. Conditions: none. -/
namespace Go.Vc
/-- A row of cap elements of two cells, whole. -/
def Rx (e : TypeId) (w : World) (g cap : Nat) (cur : List Value) : Prop := Blk e w g cur ∧ cur.length = cap * 2 ∧ cap ≤ 9223372036854775807
theorem OwK.rx {lo n : Nat} {e : TypeId} {w : World} {v : Value} {xs : List Value} (h : OwK 2 lo e w v n xs) (hn : 0 < n) :
    ∃ g cap cur, v = .slice (some ⟨g, 0, none⟩) n cap ∧ lo ≤ g ∧ n ≤ cap ∧ Rx e w g cap cur ∧ cur.take (n * 2) = xs := by
  obtain ⟨_, ⟨_, h0⟩ | ⟨g, cap, cur, hv, hg, hh, h1, h2, h3, h4⟩⟩ := h
  · omega
  · exact ⟨g, cap, cur.toList, hv, hg, h1, ⟨by unfold Blk; rw [Array.toArray_toList]; exact hh, by simpa using h3, h2⟩, h4⟩
section
variable {P : Program} {w : World} {e : TypeId} {g cap : Nat} {cur : List Value}
theorem Rx.own {lo n : Nat} {xs : List Value} (h : Rx e w g cap cur) (hl : lo ≤ g) (hn : n ≤ cap) (hx : cur.take (n * 2) = xs) : OwK 2 lo e w (.slice (some ⟨g, 0, none⟩) n cap) n xs :=
  ⟨by rw [← hx, List.length_take, h.2.1]; omega, .inr ⟨g, cap, cur.toArray, rfl, hl, h.1, hn, h.2.2, by simpa using h.2.1, by simpa using hx⟩⟩
theorem Rx.cell (h : Rx e w g cap cur) (i : Nat) : w.cell? ⟨g, i, none⟩ = cur[i]? := by
  have := h.1
  unfold Blk at this
  simp [World.cell?, this]
theorem Rx.sl (h : Rx e w g cap cur) {l m c o : Nat} (ho : 0 < m → o = l * 2) (hm : l + m ≤ cap) (hc : m ≤ c) (hcm : c ≤ 9223372036854775807) : SlK 2 w (.slice (some ⟨g, o, none⟩) m c) m ((cur.drop (l * 2)).take (m * 2)) := by
  rcases Nat.eq_zero_or_pos m with rfl | h0
  · exact ⟨by simp, _, c, rfl, hc, hcm, .inl rfl⟩
  · have ho := ho h0
    subst ho
    refine ⟨by rw [List.length_take, List.length_drop, h.2.1]; omega, _, c, rfl, hc, hcm, .inr ⟨g, l * 2, rfl, fun i hi => ?_⟩⟩
    rw [h.cell (l * 2 + i), List.getElem?_take, if_pos hi, List.getElem?_drop]
/-- A part of a list put anew. -/
def putX (cur : List Value) (o : Nat) (ys : List Value) : List Value := cur.take o ++ ys ++ cur.drop (o + ys.length)
theorem putX_len {cur : List Value} {o : Nat} {ys : List Value} (h : o + ys.length ≤ cur.length) : (putX cur o ys).length = cur.length := by
  unfold putX; rw [List.length_append, List.length_append, List.length_take, List.length_drop]; omega
theorem putX_low {cur : List Value} {o n : Nat} {ys : List Value} (h : o + ys.length ≤ cur.length) (hn : n ≤ o) : (putX cur o ys).take n = cur.take n := by
  unfold putX
  rw [List.append_assoc, List.take_append_of_le_length (by rw [List.length_take]; omega), List.take_take, Nat.min_eq_left hn]
theorem Rx.set (h : Rx e w g cap cur) {cur' : List Value} (hl : cur'.length = cur.length) : Rx e (w.setRow g cur'.toArray) g cap cur' ∧ Ch (fun c => c = g) w (w.setRow g cur'.toArray) :=
  ⟨⟨setRow_heap w g cur.toArray _ e (0, 0) h.1, by rw [hl]; exact h.2.1, h.2.2⟩, ⟨rfl, rfl, rfl, by rw [setRow_size]; exact Nat.le_refl _, fun c _ hc => setRow_other w g c _ hc⟩⟩
/-- 'clear' of n elements. -/
theorem iClrX {t ty : TypeId} {o l n c bytes : Nat} {z : Value} {K : Value → World → Prop} (ht : P.underlying t = some (.slice e)) (hi : (P.info? e).map (fun i => (i.zero, i.size, i.bytes)) = some (some z, 2, bytes)) (hz : z.cells.size = 2) (hzc : ∀ u ∈ z.cells.toList, isCell u = true)
    (hR : Rx e w g cap cur) (ho : o = l * 2) (hn : 0 < n) (hfit : l + n ≤ cap)
    (h : ∀ ys w', ys.length = n * 2 → Rx e w' g cap (putX cur (l * 2) ys) → Ch (fun c => c = g) w w' → K (.tuple #[]) w') :
    xOp P (Builtin.clear_ #[t] ty #[.slice (some ⟨g, o, none⟩) n c]) w K := by
  subst ho
  obtain ⟨inf, hi, h3⟩ := Option.map_eq_some_iff.1 hi
  simp only [Prod.mk.injEq] at h3
  obtain ⟨hz0, hsz, -⟩ := h3
  have hl3 := hR.2.1
  have hzl : (Builtin.zeroCells z.cells n).toList.length = n * 2 := by rw [Array.length_toList, size_zeroCells, hz]
  have hst := run_storeCells_at P g (l * 2) e (Builtin.zeroCells z.cells n).toList 0 cur.toArray w hR.1 (by simp only [List.size_toArray]; omega) (fun u hu => isCell_one (by
    obtain ⟨i, hi, rfl⟩ := List.getElem_of_mem hu
    rw [hzl] at hi
    simp only [Builtin.zeroCells, Array.getElem_toList, Array.getElem_map]
    refine hzc _ ?_
    have hlt : (Array.range (n * z.cells.size))[i]'(by rw [Array.size_range, hz]; exact hi) % z.cells.size < z.cells.size := Nat.mod_lt _ (by omega)
    rw [getElem!_pos z.cells _ hlt]
    simp))
  obtain ⟨h1, h2⟩ := hR.set (cur' := putX cur (l * 2) (Builtin.zeroCells z.cells n).toList) (putX_len (by omega))
  simp only [Nat.add_zero] at hst
  refine ⟨_, _, ?_, h _ _ hzl h1 h2⟩
  obtain ⟨m, rfl⟩ : ∃ m, n = m + 1 := ⟨n - 1, by omega⟩
  simp [Builtin.clear_, run_underlying ht, zeroValue, run_info hi, hz0, hst, putX]
end
/-! ### Parts of slices of elements of two cells -/
theorem iTX {g o n c l : Nat} {ki : IntKind} {K : Value → Prop} (hl : l ≤ n) (hc : n ≤ c) (h : ∀ o', (l < c → o' = o + l * 2) → K (.slice (some ⟨g, o', none⟩) (n - l) (c - l))) : xSl 2 (.slice (some ⟨g, o, none⟩) n c) (some (.int ki (l : Int))) none K := by
  refine ⟨_, _, _, l, n, rfl, rfl, ⟨ki, rfl⟩, hl, hc, ?_⟩
  split
  · rename_i e
    exact h o (fun hlt => by omega)
  · rw [Option.map_some, addr_add]
    exact h _ fun _ => rfl
theorem iHX {g o n c k : Nat} {ki : IntKind} {K : Value → Prop} (hk : k ≤ c) (h : K (.slice (some ⟨g, o, none⟩) k c)) : xSl 2 (.slice (some ⟨g, o, none⟩) n c) none (some (.int ki (k : Int))) K := by
  refine ⟨_, _, _, 0, k, rfl, ⟨ki, rfl⟩, rfl, Nat.zero_le _, hk, ?_⟩
  have e : (if c = 0 then some (⟨g, o, none⟩ : Addr) else (some (⟨g, o, none⟩ : Addr)).map (·.add (0 * 2))) = some ⟨g, o, none⟩ := by
    split
    · rfl
    · rw [Option.map_some, addr_add, Nat.zero_mul, Nat.add_zero]
  rw [e, Nat.sub_zero, Nat.sub_zero]
  exact h
/-! ### Rows of a count and a slice -/
section
variable {P : Program} {w : World}
end
end Go.Vc

/- Memory: rows of a count and a slice that a call turns in place; how such rows are compared. Conditions: none. -/
namespace Go.Vc
/-- An element: a count, a slice, and what the slice holds. -/
abbrev PR := Int × Value × List Int
def keyR (r : PR) : Int × List Int := (r.1, r.2.2)
instance : Inhabited PR := ⟨(0, .slice none 0 0, [])⟩
def valR (r : PR) : Value := .agg #[.int .i64 r.1, r.2.1]
def cellsR (L : List PR) : List Value := L.flatMap fun r => [.int .i64 r.1, r.2.1]
theorem cellsR_app (A B : List PR) : cellsR (A ++ B) = cellsR A ++ cellsR B := by simp [cellsR]
theorem cellsR_len : ∀ L : List PR, (cellsR L).length = L.length * 2
  | [] => rfl
  | a :: L => by
    have := cellsR_len L
    have e : cellsR (a :: L) = [.int .i64 a.1, a.2.1] ++ cellsR L := rfl
    rw [e, List.length_append, this, List.length_cons, List.length_cons, List.length_cons, List.length_nil]; omega
theorem cellsR_at (L : List PR) {i : Nat} (hi : i < L.length) : (cellsR L)[i * 2]? = some (.int .i64 (gt L i).1) ∧ (cellsR L)[i * 2 + 1]? = some (gt L i).2.1 := by
  have := flat2_get (fun r : PR => Value.int .i64 r.1) (fun r => r.2.1) L i (gt L i) (by rw [gt_eq hi]; exact List.getElem?_eq_getElem hi)
  rw [show i * 2 = 2 * i by omega]
  exact this
theorem cellsR_set : ∀ (L : List PR) (j : Nat) (r : PR), j < L.length → ((cellsR L).set (j * 2) (.int .i64 r.1)).set (j * 2 + 1) r.2.1 = cellsR (L.set j r)
  | [], j, r, h => by simp at h
  | a :: L, 0, r, _ => rfl
  | a :: L, j + 1, r, h => by
    have := cellsR_set L j r (by simpa using h)
    have e : cellsR (a :: L) = .int .i64 a.1 :: a.2.1 :: cellsR L := rfl
    have e2 : cellsR ((a :: L).set (j + 1) r) = .int .i64 a.1 :: a.2.1 :: cellsR (L.set j r) := rfl
    rw [e, e2, ← this, show (j + 1) * 2 = j * 2 + 1 + 1 by omega]
    rfl
theorem cellsR_take (L : List PR) (k : Nat) : (cellsR L).take (k * 2) = cellsR (L.take k) := by
  rcases Nat.lt_or_ge L.length k with h | h
  · rw [List.take_of_length_le (by rw [cellsR_len]; omega), List.take_of_length_le (by omega)]
  · conv => lhs; rw [← List.take_append_drop k L, cellsR_app]
    rw [List.take_append_of_le_length (by rw [cellsR_len, List.length_take]; omega), List.take_of_length_le (by rw [cellsR_len, List.length_take]; omega)]
theorem cellsR_drop (L : List PR) (k : Nat) : (cellsR L).drop (k * 2) = cellsR (L.drop k) := by
  rcases Nat.lt_or_ge L.length k with h | h
  · rw [List.drop_of_length_le (by rw [cellsR_len]; omega), List.drop_of_length_le (by omega)]; rfl
  · conv => lhs; rw [← List.take_append_drop k L, cellsR_app]
    rw [List.drop_append, List.drop_of_length_le (by rw [cellsR_len, List.length_take]; omega), List.nil_append, cellsR_len, List.length_take, Nat.min_eq_left h, Nat.sub_self, List.drop_zero]
/-- A row of such elements of the call's own; each slice of the call's own too, in a row of its own. -/
abbrev RowR (lo : Nat) (e : TypeId) (w : World) (v : Value) (L : List PR) : Prop := OwK 2 lo e w v L.length (cellsR L)
section
variable {P : Program}
/-- Reading an element. -/
theorem iRdX {w : World} {v : Value} {L : List PR} {z : Int} {j : Nat} {k : IntKind} {K : Value → Prop} (hs : SlK 2 w v L.length (cellsR L)) (hz : z = (j : Int)) (hj : j < L.length) (h : K (valR (gt L j))) : xIa 2 v (.int k z) fun p => xLdA w 2 p K := by
  subst hz
  refine iIaK hs hj fun b o hcell => ?_
  obtain ⟨h0, h1⟩ := cellsR_at L hj
  refine ⟨_, #[.int .i64 (gt L j).1, (gt L j).2.1], rfl, rfl, fun i hi => ?_, h⟩
  rw [addr_add, hcell i hi]
  match i, hi with
  | 0, _ => exact h0
  | 1, _ => exact h1
/-- Writing an element. -/
theorem iStX {lo : Nat} {e : TypeId} {w : World} {v : Value} {L : List PR} {r : PR} {z : Int} {j : Nat} {k : IntKind} {K : World → Prop} (hs : RowR lo e w v L) (hz : z = (j : Int)) (hj : j < L.length) (hr : isCell r.2.1 = true)
    (h : ∀ w', RowR lo e w' v (L.set j r) → Ch (fun c => v.ownBlock = some c) w w' → K w') : xIa 2 v (.int k z) fun p => ∀ w1, Ext w w1 → xStA P w1 2 p (valR r) K := by
  subst hz
  obtain ⟨hl, ⟨-, h0⟩ | ⟨g, cap, cur, hv, hg, hh, h1, h2, h3, h4⟩⟩ := id hs
  · omega
  subst hv
  refine ⟨_, _, _, _, _, rfl, rfl, by omega, by omega, fun w1 x1 => ?_⟩
  rw [Int.toNat_natCast, addr_add, Nat.zero_add]
  have hs1 := hs.ext x1
  have ha : ∀ i, (⟨g, j * 2, none⟩ : Addr).add i = ⟨g, j * 2 + i, none⟩ := fun i => addr_add _ _ _
  have hcl := cellsR_len L
  have c0 : isCell (.int .i64 r.1) = true := rfl
  have s1 : (store ⟨g, j * 2, none⟩ (.int .i64 r.1)).run P w1 = .ok () (w1.setCell ⟨g, j * 2, none⟩ (.int .i64 r.1)) := by
    rw [run_store P w1 _ _ _ (isCell_one c0), World.ownsRow.cellAt hs1 (j * 2) (by omega), List.getElem?_eq_getElem (by omega)]
    simp [World.ownsRow.frozenAt hs1 (j * 2)]
  have hs2 : w1.setCell ⟨g, j * 2, none⟩ (.int .i64 r.1) |>.ownsRow lo e 2 (.slice (some ⟨g, 0, none⟩) L.length cap) L.length ((cellsR L).set (j * 2) (.int .i64 r.1)) := (World.ownsRow.stored hs1 (j * 2) _).1
  have s2 : (store ⟨g, j * 2 + 1, none⟩ r.2.1).run P (w1.setCell ⟨g, j * 2, none⟩ (.int .i64 r.1)) = .ok () ((w1.setCell ⟨g, j * 2, none⟩ (.int .i64 r.1)).setCell ⟨g, j * 2 + 1, none⟩ r.2.1) := by
    rw [run_store P _ _ _ _ (isCell_one hr), World.ownsRow.cellAt hs2 (j * 2 + 1) (by omega), List.getElem?_eq_getElem (by rw [List.length_set]; omega)]
    simp [World.ownsRow.frozenAt hs2 (j * 2 + 1)]
  have hs3 := (World.ownsRow.stored hs2 (j * 2 + 1) r.2.1).1
  rw [cellsR_set L j r hj] at hs3
  refine ⟨_, _, rfl, rfl, ?_, h _ (by show OwK 2 lo e _ _ _ _; rw [List.length_set]; exact hs3) ((x1.ch (S := fun c => (Value.slice (some ⟨g, 0, none⟩) L.length cap).ownBlock = some c)).trans (((Upd.setCell w1 g (j * 2) (.int .i64 r.1)).trans (Upd.setCell _ g (j * 2 + 1) r.2.1)).ch (S := fun c => (Value.slice (some ⟨g, 0, none⟩) L.length cap).ownBlock = some c) rfl) fun _ e => .inl e)⟩
  show (storeCells ⟨g, j * 2, none⟩ [.int .i64 r.1, r.2.1] 0).run P w1 = _
  simp only [storeCells, Sem.run_bind, ha, Nat.add_zero, Nat.zero_add, s1, s2, Result.andThen_ok, Sem.run_pure]
end

/-- What slices.Compare answers. -/
def cmpI (a b : List Int) : Int := if lessB a b = true then -1 else if lessB b a = true then 1 else 0
theorem cmpI_neg {a b : List Int} : cmpI a b < 0 ↔ lessB a b = true := by
  unfold cmpI
  split
  · rename_i h; simp [h]
  · rename_i h
    split <;> simp [h]
def cmpR (x y : Int × List Int) : Int := if x.1 < y.1 then -1 else if y.1 < x.1 then 1 else cmpI x.2 y.2
theorem cmpR_neg (x y : Int × List Int) : decide (cmpR x y < 0) = ltP x y := by
  rw [Bool.eq_iff_iff, decide_eq_true_eq, ltP_true]
  unfold cmpR
  split
  · rename_i h; exact ⟨fun _ => .inl h, fun _ => by decide⟩
  · split
    · rename_i h1 h2; exact ⟨fun h => absurd h (by decide), fun h => by omega⟩
    · rename_i h1 h2
      rw [cmpI_neg]
      exact ⟨fun h => .inr ⟨by omega, h⟩, fun h => by
        rcases h with h | h
        · omega
        · exact h.2⟩
theorem cmpR_ne (x y : Int × List Int) : decide (¬ cmpR x y = 0) = (ltP x y || ltP y x) := by
  rw [Bool.eq_iff_iff, decide_eq_true_eq, Bool.or_eq_true, ltP_true, ltP_true]
  unfold cmpR
  split
  · rename_i h; exact ⟨fun _ => .inl (.inl h), fun _ => by decide⟩
  · split
    · rename_i h1 h2; exact ⟨fun _ => .inr (.inl h2), fun _ => by decide⟩
    · rename_i h1 h2
      unfold cmpI
      split
      · rename_i h; exact ⟨fun _ => .inl (.inr ⟨by omega, h⟩), fun _ => by decide⟩
      · rename_i h3
        split
        · rename_i h; exact ⟨fun _ => .inr (.inr ⟨by omega, h⟩), fun _ => by decide⟩
        · rename_i h4
          exact ⟨fun h => absurd rfl h, fun h => by
            rcases h with (h | h) | (h | h)
            · omega
            · exact absurd h.2 h3
            · omega
            · exact absurd h.2 h4⟩
end Go.Vc
namespace Go.Proofs.YtikfhibcdhdglaaGreat
open Go.Vc
theorem ok_slices_CompareX {va vb : Value} {w : World} {a b : List Int} (ha : SlI w va a) (hb : SlI w vb b) : Ret Tryz.prog f_slices_Compare_Si64_i64 #[va, vb] w (.int .i64 (cmpI a b)) := by
  apply c_slices_Compare_Si64_i64; unfold S_slices_Compare_Si64_i64
  have hal := ha.len
  have hbl := hb.len
  ((with_reducible refine iLenI (by assumption) ?_))
  refine iLp (fun k : Nat => [.int .i64 (k : Int)]) (fun k w' => k ≤ a.length ∧ k ≤ b.length ∧ Ext w w' ∧ ∀ i, i < k → a[i]? = b[i]?) (fun k => a.length - k) 0 rfl ⟨Nat.zero_le _, Nat.zero_le _, Ext.refl _, fun i hi => by omega⟩ ?_
  rintro k w2 Kn ⟨hka, hkb, h2, heq⟩ hKn
  have ha2 := ha.ext h2
  have hb2 := hb.ext h2
  have hup := lessB_upto a b k heq hka hkb
  have hup2 := lessB_upto b a k (fun i hi => (heq i hi).symm) hkb hka
  (intro _; (try simp only [gx]); (with_reducible refine iLt ?_))
  refine iCndP (fun h5 => ?_) (fun h5 => ?_)
  · have h5a : k < a.length := by omega
    have ea : a.getD k 0 = a[k] := by simp [List.getD_eq_getElem?_getD, h5a]
    ((with_reducible refine iIaN (by assumption) ?_ (fun pa_ hpa_ => ?_)); omega; (with_reducible refine iLd (by assumption) ?_; refine iLenI (by assumption) ?_; refine iLe ?_))
    rw [ea]
    refine iCndP (fun h6 => ?_) (fun h6 => ?_)
    · obtain rfl : k = b.length := by omega
      rw [List.drop_eq_nil_of_le (Nat.le_refl _), List.drop_eq_getElem_cons h5a] at hup hup2
      refine ⟨?_, h2⟩
      unfold cmpI
      rw [hup, hup2]
      simp [lessB]
    · have h5b : k < b.length := by omega
      have eb : b.getD k 0 = b[k] := by simp [List.getD_eq_getElem?_getD, h5b]
      rw [List.drop_eq_getElem_cons h5a, List.drop_eq_getElem_cons h5b] at hup hup2
      simp only [lessB] at hup hup2
      ((with_reducible refine iIaN (by assumption) ?_ (fun pa_ hpa_ => ?_)); omega; (with_reducible refine iLd (by assumption) ?_))
      rw [eb]
      refine iRet (ok_cmp_Compare_i64 a[k] b[k] w2) fun w3 h3 => ?_
      refine iNe ?_
      refine iCndP (fun h7 => ?_) (fun h7 => ?_)
      · refine ⟨?_, h2.trans h3⟩
        have hne : ¬ a[k] = b[k] := fun e => h7 (by rw [e]; simp)
        unfold cmpI
        rw [hup, hup2, if_neg hne, if_neg (show ¬ b[k] = a[k] from fun e => hne e.symm)]
        by_cases hlt : a[k] < b[k]
        · rw [if_pos hlt, if_pos (by simpa using hlt)]
        · rw [if_neg hlt, if_pos (by omega), if_neg (by simpa using hlt), if_pos (by rw [decide_eq_true_eq]; omega)]
      · have he : a[k] = b[k] := by
          rcases Int.lt_trichotomy a[k] b[k] with h | h | h
          · exact absurd (by rw [if_pos h]; decide) h7
          · exact h
          · exact absurd (by rw [if_neg (by omega), if_pos h]; decide) h7
        (refine iAdd (by omega) ?_)
        refine hKn (k + 1) _ ⟨by omega, by omega, h2.trans h3, fun i hi => ?_⟩ (by omega)
        by_cases hik : i = k
        · subst hik
          rw [List.getElem?_eq_getElem h5a, List.getElem?_eq_getElem h5b, he]
        · exact heq i (by omega)
  · obtain rfl : k = a.length := by omega
    rw [List.drop_eq_nil_of_le (Nat.le_refl _)] at hup hup2
    ((with_reducible refine iLenI (by assumption) ?_; refine iLenI (by assumption) ?_; refine iLt ?_))
    refine iCndP (fun h6 => ?_) (fun h6 => ?_)
    · have h7 : a.length < b.length := by omega
      refine ⟨?_, h2⟩
      unfold cmpI
      rw [hup, hup2, List.drop_eq_getElem_cons h7]
      simp [lessB]
    · refine ⟨?_, h2⟩
      unfold cmpI
      rw [hup, hup2, List.drop_eq_nil_of_le (by omega)]
      simp [lessB]
end Go.Proofs.YtikfhibcdhdglaaGreat

/- Contracts: lengths of numbers in bits. Conditions: none. -/
namespace Go.Vc
def len8 : Str := [0, 1, 2, 2, 3, 3, 3, 3, 4, 4, 4, 4, 4, 4, 4, 4, 5, 5, 5, 5, 5, 5, 5, 5, 5, 5, 5, 5, 5, 5, 5, 5, 6, 6, 6, 6, 6, 6, 6, 6, 6, 6, 6, 6, 6, 6, 6, 6, 6, 6, 6, 6, 6, 6, 6, 6, 6, 6, 6, 6, 6, 6, 6, 6,
  7, 7, 7, 7, 7, 7, 7, 7, 7, 7, 7, 7, 7, 7, 7, 7, 7, 7, 7, 7, 7, 7, 7, 7, 7, 7, 7, 7, 7, 7, 7, 7, 7, 7, 7, 7, 7, 7, 7, 7, 7, 7, 7, 7, 7, 7, 7, 7, 7, 7, 7, 7, 7, 7, 7, 7, 7, 7, 7, 7, 7, 7, 7, 7,
  8, 8, 8, 8, 8, 8, 8, 8, 8, 8, 8, 8, 8, 8, 8, 8, 8, 8, 8, 8, 8, 8, 8, 8, 8, 8, 8, 8, 8, 8, 8, 8, 8, 8, 8, 8, 8, 8, 8, 8, 8, 8, 8, 8, 8, 8, 8, 8, 8, 8, 8, 8, 8, 8, 8, 8, 8, 8, 8, 8, 8, 8, 8, 8,
  8, 8, 8, 8, 8, 8, 8, 8, 8, 8, 8, 8, 8, 8, 8, 8, 8, 8, 8, 8, 8, 8, 8, 8, 8, 8, 8, 8, 8, 8, 8, 8, 8, 8, 8, 8, 8, 8, 8, 8, 8, 8, 8, 8, 8, 8, 8, 8, 8, 8, 8, 8, 8, 8, 8, 8, 8, 8, 8, 8, 8, 8, 8, 8]
theorem len8_ok : ∀ x : Fin 256, x.val < 2 ^ (len8.getD x.val 0).toNat ∧ (1 ≤ x.val → 2 ^ (len8.getD x.val 0).toNat ≤ 2 * x.val) ∧ (len8.getD x.val 0).toNat ≤ 8 := by decide +kernel
theorem iShrV {a j : Nat} {K : Value → Prop} (hj : j ≤ 64) (h : K (.int .u64 ((a / 2 ^ j : Nat) : Int))) : xSh iShr .u64 (.int .u64 (a : Int)) (.int .u64 (j : Int)) K := by
  refine ⟨_, _, _, rfl, rfl, by omega, ?_⟩
  rw [show iShr .u64 (a : Int) (j : Int) = ((a / 2 ^ j : Nat) : Int) by
    unfold iShr
    rw [Int.toNat_natCast, show IntKind.u64.bits = 64 from rfl, Nat.min_eq_left hj, Int.fdiv_eq_ediv_of_nonneg _ (Int.le_of_lt (Int.pow_pos (by omega)))]
    push_cast
    rfl]
  exact h
end Go.Vc
namespace Go.Proofs.YtikfhibcdhdglaaGreat
open Go.Vc
set_option maxRecDepth 20000 in
theorem ok_math_bits_Len64 {n : Nat} (hn : n < 2 ^ 63) (w : World) : Cal Tryz.prog f_math_bits_Len64 #[.int .u64 (n : Int)] w fun r w' => Ext w w' ∧ ∃ k : Nat, r = .int .i64 (k : Int) ∧ n < 2 ^ k ∧ (1 ≤ n → 2 ^ k ≤ 2 * n) ∧ k ≤ 64 := by
  apply c_math_bits_Len64; unfold S_math_bits_Len64
  -- at each join: what is left of n, and by how many bits it was shifted
  have stage : ∀ {x m s : Nat}, x = n / 2 ^ m → x / 2 ^ s = n / 2 ^ (m + s) := fun {x m s} h => by rw [h, Nat.div_div_eq_div_mul, ← Nat.pow_add]
  ((with_reducible refine iLe ?_))
  refine iJnX (fun xs w' => Ext w w' ∧ ∃ x m : Nat, xs = [.int .u64 (x : Int), .int .i64 (m : Int)] ∧ x = n / 2 ^ m ∧ x < 2 ^ 32 ∧ (1 ≤ m → 1 ≤ x) ∧ m ≤ 32) (fun J hJ => ?_) ?_
  · refine iCndP (fun h => ?_) (fun h => ?_)
    · refine iShrV (j := 32) (by omega) ?_
      exact hJ _ _ ⟨Ext.refl _, _, 32, rfl, rfl, by omega, by omega, by omega⟩
    · exact hJ _ _ ⟨Ext.refl _, n, 0, rfl, by simp, by omega, by omega, by omega⟩
  rintro xs w2 ⟨h2, x, m, rfl, hx, hx32, hm1, hm⟩
  intro _
  simp only [gx]
  ((with_reducible refine iLe ?_))
  refine iJnX (fun xs w' => Ext w w' ∧ ∃ x m : Nat, xs = [.int .u64 (x : Int), .int .i64 (m : Int)] ∧ x = n / 2 ^ m ∧ x < 2 ^ 16 ∧ (1 ≤ m → 1 ≤ x) ∧ m ≤ 48) (fun J hJ => ?_) ?_
  · refine iCndP (fun h => ?_) (fun h => ?_)
    · refine iShrV (j := 16) (by omega) ?_
      (refine iAdd (by omega) ?_)
      exact hJ _ _ ⟨h2, _, m + 16, rfl, stage hx, by omega, by omega, by omega⟩
    · exact hJ _ _ ⟨h2, x, m, rfl, hx, by omega, hm1, by omega⟩
  rintro xs w4 ⟨h4, x, m, rfl, hx, hx16, hm1, hm⟩
  intro _
  simp only [gx]
  ((with_reducible refine iLe ?_))
  refine iJnX (fun xs w' => Ext w w' ∧ ∃ x m : Nat, xs = [.int .u64 (x : Int), .int .i64 (m : Int)] ∧ x = n / 2 ^ m ∧ x < 2 ^ 8 ∧ (1 ≤ m → 1 ≤ x) ∧ m ≤ 56) (fun J hJ => ?_) ?_
  · refine iCndP (fun h => ?_) (fun h => ?_)
    · refine iShrV (j := 8) (by omega) ?_
      (refine iAdd (by omega) ?_)
      exact hJ _ _ ⟨h4, _, m + 8, rfl, stage hx, by omega, by omega, by omega⟩
    · exact hJ _ _ ⟨h4, x, m, rfl, hx, by omega, hm1, by omega⟩
  rintro xs w6 ⟨h6, x, m, rfl, hx, hx8, hm1, hm⟩
  intro _
  simp only [gx]
  obtain ⟨t1, t2, t3⟩ : x < 2 ^ (len8.getD x 0).toNat ∧ (1 ≤ x → 2 ^ (len8.getD x 0).toNat ≤ 2 * x) ∧ (len8.getD x 0).toNat ≤ 8 := len8_ok ⟨x, hx8⟩
  refine ⟨_, _, rfl, ?_⟩
  rw [IntWalk.u8_in _ (by omega)]
  refine iIs (l := len8) (j := x) (by show x < 256; omega) ?_
  refine iConv64 (by omega) ?_
  refine iAdd (by omega) ?_
  refine ⟨h6, m + (len8.getD x 0).toNat, by first | rfl | (push_cast; rfl), ?_, fun h1 => ?_, by omega⟩
  · have := Nat.lt_div_mul_add (a := n) (b := 2 ^ m) (Nat.two_pow_pos m)
    rw [← hx] at this
    have h3 : (x + 1) * 2 ^ m ≤ 2 ^ (len8.getD x 0).toNat * 2 ^ m := Nat.mul_le_mul_right _ t1
    rw [Nat.pow_add, Nat.mul_comm (2 ^ m)]
    rw [Nat.add_mul] at h3
    omega
  · rcases Nat.eq_zero_or_pos x with h0 | h0
    · have hm0 : m = 0 := by omega
      subst hm0
      simp at hx
      omega
    · have h3 := Nat.mul_le_mul_left (2 ^ m) (t2 h0)
      have h4 : 2 ^ m * x ≤ n := by rw [hx]; exact Nat.mul_div_le n (2 ^ m)
      rw [Nat.pow_add]
      rw [Nat.mul_left_comm] at h3
      omega
theorem ok_math_bits_Len {n : Nat} (hn : n < 2 ^ 63) (w : World) : Cal Tryz.prog f_math_bits_Len #[.int .u64 (n : Int)] w fun r w' => Ext w w' ∧ ∃ k : Nat, r = .int .i64 (k : Int) ∧ n < 2 ^ k ∧ (1 ≤ n → 2 ^ k ≤ 2 * n) ∧ k ≤ 64 := by
  apply c_math_bits_Len; unfold S_math_bits_Len
  exact iCall (ok_math_bits_Len64 hn w)
end Go.Proofs.YtikfhibcdhdglaaGreat

/- Contracts: sorting few rows of a count and a slice; slices.Clone and Delete on them. Conditions: none. -/
namespace Go.Vc
/-- The call's own row v holds L', and nothing else has turned. -/
structure TurnR (lo : Nat) (e : TypeId) (v : Value) (w w' : World) (L' : List PR) : Prop where
  ow : RowR lo e w' v L'
  ch : Ch (fun c => v.ownBlock = some c) w w'
theorem TurnR.ext {lo : Nat} {e : TypeId} {v : Value} {w w' w'' : World} {L : List PR} (h : TurnR lo e v w w' L) (k : Ext w' w'') : TurnR lo e v w w'' L :=
  ⟨h.ow.ext k, h.ch.trans (k.ch (S := fun _ => False)) fun _ e => e.elim⟩
theorem iWrX2 {P : Program} {lo : Nat} {e : TypeId} {w : World} {v : Value} {L : List PR} {z z' : Int} {i j : Nat} {k k' : IntKind} {x y : PR} {K : World → Prop} (hs : RowR lo e w v L) (hz : z = (i : Int)) (hz' : z' = (j : Int)) (hi : i < L.length) (hj : j < L.length) (hx : isCell x.2.1 = true) (hy : isCell y.2.1 = true)
    (h : ∀ w', TurnR lo e v w w' ((L.set i x).set j y) → K w') :
    xIa 2 v (.int k z) fun p => ∀ w1, Ext w w1 → xStA P w1 2 p (valR x) fun w2 => xIa 2 v (.int k' z') fun q => ∀ w3, Ext w2 w3 → xStA P w3 2 q (valR y) fun w4 => ∀ w5, Ext w4 w5 → K w5 :=
  iStX hs hz hi hx fun w2 hs2 hc2 => iStX hs2 hz' (by rw [List.length_set]; exact hj) hy fun w4 hs4 hc4 w5 h5 =>
    h w5 (TurnR.ext ⟨hs4, hc2.trans hc4 fun _ e => .inl e⟩ h5)
end Go.Vc
namespace Go.Proofs.YtikfhibcdhdglaaGreat
open Go.Vc
theorem ok_cmp_Or_int {e : TypeId} {b : Nat} {w : World} {x y : Int} (hB : Blk e w b [.int .i64 x, .int .i64 y]) : Ret Tryz.prog f_cmp_Or_int #[.slice (some ⟨b, 0, none⟩) 2 2] w (.int .i64 (if x ≠ 0 then x else y)) := by
  apply c_cmp_Or_int; unfold S_cmp_Or_int
  have hs : SlI w (.slice (some ⟨b, 0, none⟩) 2 2) [x, y] := Sl.ofBlk hB rfl (by omega)
  refine iLenL ?_
  refine iLp (fun k : Nat => [.int .i64 (k : Int)]) (fun k w' => k ≤ 2 ∧ Ext w w' ∧ (1 ≤ k → x = 0) ∧ (2 ≤ k → y = 0)) (fun k => 2 - k) 0 rfl ⟨by omega, Ext.refl w, by omega, by omega⟩ ?_
  rintro k w2 Kn ⟨hk, h2, hx, hy⟩ hKn
  have hs2 := hs.ext h2
  intro _
  simp only [gx]
  refine iLt (iCndP (fun h => ?_) (fun h => ?_))
  · have hk2 : k < 2 := by omega
    have e0 : [x, y].getD 0 0 = x := rfl
    have e1 : [x, y].getD 1 0 = y := rfl
    ((with_reducible refine iIaN (by assumption) ?_ (fun pa_ hpa_ => ?_)); omega; (with_reducible refine iLd (by assumption) ?_; refine iNe ?_))
    refine iCndP (fun h3 => ?_) (fun h3 => ?_)
    · rcases (by omega : k = 0 ∨ k = 1) with rfl | rfl
      · have h3 : ¬ x = 0 := by simpa using h3
        rw [if_pos h3]
        exact ⟨by first | trivial | rfl, h2⟩
      · have h3 : ¬ y = 0 := by simpa using h3
        rw [if_neg (by simpa using hx (by omega))]
        exact ⟨by first | trivial | rfl, h2⟩
    · (refine iAdd (by omega) ?_)
      refine hKn (k + 1) _ ⟨by omega, h2, fun _ => ?_, fun _ => ?_⟩ (by omega)
      · rcases (by omega : k = 0 ∨ k = 1) with rfl | rfl
        · simpa using h3
        · exact hx (by omega)
      · have hk1 : k = 1 := by omega
        subst hk1
        simpa using h3
  · have hx := hx (by omega)
    have hy := hy (by omega)
    rw [if_neg (by simpa using hx), hy]
    exact ⟨by first | trivial | rfl, h2⟩
theorem ok_impl_compareFrames {w : World} {a b : PR} (ha : SlI w a.2.1 a.2.2) (hb : SlI w b.2.1 b.2.2) : Ret Tryz.prog f_impl_compareFrames #[valR a, valR b] w (.int .i64 (cmpR (keyR a) (keyR b))) := by
  apply c_impl_compareFrames; unfold S_impl_compareFrames
  refine iNew fun b2 w1 hb2 x1 hB2 => ?_
  refine iNew fun b3 w2 hb3 x2 hB3 => ?_
  have hB2 : Blk _ w2 b2 [.int .i64 a.1, a.2.1] := hB2.ext x2
  have hB3 : Blk _ w2 b3 [.int .i64 b.1, b.2.1] := hB3
  have hX := x1.trans x2
  ((with_reducible refine iFa ?_); refine iLdB (by assumption) (by first | rfl | simp) ?_; (with_reducible refine iFa ?_); refine iLdB (by assumption) (by first | rfl | simp) ?_)
  refine iRetQ (fun w' _ => ok_cmp_Compare_i64 a.1 b.1 w') ?_
  ((with_reducible refine iFa ?_); refine iLdB (by assumption) (by first | rfl | simp) ?_; (with_reducible refine iFa ?_); refine iLdB (by assumption) (by first | rfl | simp) ?_)
  refine iRetQ (fun w' h' => ok_slices_CompareX (ha.ext (hX.trans h')) (hb.ext (hX.trans h'))) ?_
  intro w3 x3
  refine iBs2 rfl rfl rfl fun c w4 hc x4 hC => ?_
  refine iRetQ (fun w' h' => ok_cmp_Or_int (hC.ext h')) ?_
  intro w5 x5
  refine ⟨?_, ((hX.trans x3).trans x4).trans x5⟩
  unfold cmpR keyR
  by_cases h1 : a.1 < b.1
  · rw [if_pos h1, if_pos h1]; rfl
  · rw [if_neg h1, if_neg h1]
    by_cases h2 : b.1 < a.1
    · rw [if_pos h2, if_pos h2]; rfl
    · rw [if_neg h2, if_neg h2]; rfl
/-- The order on rows. -/
def ltR (a b : PR) : Bool := ltP (keyR a) (keyR b)
theorem ordrR : Ordr ltR := ⟨fun h => ordP.o.asym h, fun h k => ordP.o.tr h k⟩
end Go.Proofs.YtikfhibcdhdglaaGreat

/- Contracts: sorting rows of frames in place by compareFrames (the parts of pdqsort). Conditions: none. -/
namespace Go.Vc
section
variable {P : Program}
/-- A row of frames of one's own whose slices are cells. -/
structure RowF (lo : Nat) (e : TypeId) (w : World) (v : Value) (L : List PR) : Prop where
  row : RowR lo e w v L
  cells : ∀ r ∈ L, isCell r.2.1 = true
theorem RowF.ext {lo : Nat} {e : TypeId} {w w' : World} {v : Value} {L : List PR} (h : RowF lo e w v L) (x : Ext w w') : RowF lo e w' v L := ⟨OwK.ext h.row x, h.cells⟩
theorem RowF.ch {lo : Nat} {e : TypeId} {S : Nat → Prop} {w w' : World} {v : Value} {L : List PR} (h : RowF lo e w v L) (x : Ch S w w') (hn : ∀ c, v.ownBlock = some c → ¬ S c) : RowF lo e w' v L := ⟨OwK.ch h.row x hn, h.cells⟩
theorem RowF.lt {lo : Nat} {e : TypeId} {w : World} {v : Value} {L : List PR} (h : RowF lo e w v L) {c : Nat} (hc : w.heap.size ≤ c) : v.ownBlock ≠ some c := fun e => by have := (OwK.blk h.row c e).2; omega
/-- The call's own row v holds L', and nothing else has turned. -/
structure TurnF (lo : Nat) (e : TypeId) (v : Value) (w w' : World) (L' : List PR) : Prop where
  ow : RowF lo e w' v L'
  ch : Ch (fun c => v.ownBlock = some c) w w'
theorem TurnF.refl {lo : Nat} {e : TypeId} {v : Value} {w : World} {L : List PR} (h : RowF lo e w v L) : TurnF lo e v w w L := ⟨h, (Ext.refl w).ch⟩
theorem TurnF.ext {lo : Nat} {e : TypeId} {v : Value} {w w' w'' : World} {L : List PR} (h : TurnF lo e v w w' L) (k : Ext w' w'') : TurnF lo e v w w'' L :=
  ⟨h.ow.ext k, h.ch.trans (k.ch (S := fun _ => False)) fun _ e => e.elim⟩
theorem TurnF.trans {lo : Nat} {e : TypeId} {v : Value} {w w' w'' : World} {L L' : List PR} (h : TurnF lo e v w w' L) (k : TurnF lo e v w' w'' L') : TurnF lo e v w w'' L' :=
  ⟨k.ow, h.ch.trans k.ch fun _ e => .inl e⟩
theorem iRdFr {lo : Nat} {e : TypeId} {w : World} {v : Value} {L : List PR} {z : Int} {j : Nat} {k : IntKind} {K : Value → Prop} (hs : RowF lo e w v L) (hz : z = (j : Int)) (hj : j < L.length) (h : K (valR (gt L j))) : xIa 2 v (.int k z) fun p => xLdA w 2 p K := iRdX hs.row.sl hz hj h
theorem iWrF {lo : Nat} {e : TypeId} {w : World} {v : Value} {L : List PR} {z z' : Int} {i j : Nat} {k k' : IntKind} {K : World → Prop} (hs : RowF lo e w v L) (hz : z = (i : Int)) (hz' : z' = (j : Int)) (hi : i < L.length) (hj : j < L.length)
    (h : ∀ w', TurnF lo e v w w' ((L.set i (gt L j)).set j (gt L i)) → K w') :
    xIa 2 v (.int k z) fun p => ∀ w1, Ext w w1 → xStA P w1 2 p (valR (gt L j)) fun w2 => xIa 2 v (.int k' z') fun q => ∀ w3, Ext w2 w3 → xStA P w3 2 q (valR (gt L i)) fun w4 => ∀ w5, Ext w4 w5 → K w5 := by
  have c : ∀ {m : Nat}, m < L.length → isCell (gt L m).2.1 = true := fun {m} hm => hs.cells _ (by rw [gt_eq hm]; exact List.getElem_mem _)
  exact iWrX2 hs.row hz hz' hi hj (c hj) (c hi) fun w' ht => h w' ⟨⟨ht.ow, fun r hr => hs.cells r ((sw_perm hi hj).mem_iff.1 hr)⟩, ht.ch⟩
/-- The slices of the frames can be read. -/
def RowsF (e : TypeId) (w : World) (L : List PR) : Prop := ∀ x ∈ L, Ow 0 e w x.2.1 (ints x.2.2)
theorem RowsF.ext {e : TypeId} {w w' : World} {L : List PR} (h : RowsF e w L) (x : Ext w w') : RowsF e w' L := fun y hy => (h y hy).ext x
theorem RowsF.ch {e e' : TypeId} {w w' : World} {L : List PR} {c : Nat} {cs : List Value} (h : RowsF e w L) (hB : Blk e' w c cs) (hne : e ≠ e') (x : Ch (fun k => k = c) w w') : RowsF e w' L := fun y hy => (h y hy).ch x fun _ hk e => (h y hy).ne_blk hB hne (by rw [← e]; exact hk)
theorem RowsF.turn {lo : Nat} {e e' : TypeId} {v : Value} {w w' : World} {L L' : List PR} (h : RowsF e w L) (hs : RowF lo e' w v L) (hne : e' ≠ e) (ht : TurnF lo e' v w w' L') (hp : List.Perm L' L) : RowsF e w' L' := fun y hy =>
  (h y (hp.mem_iff.1 hy)).ch ht.ch fun _ hk hk' => OwK.ne_ow hs.row (h y (hp.mem_iff.1 hy)) hne hk' hk
end
end Go.Vc
namespace Go.Proofs.YtikfhibcdhdglaaGreat
open Go.Vc
abbrev cmpF : Value := .func (.func f_impl_compareFrames) #[] #[]
theorem cmp_callF {w : World} {L : List PR} {i j : Nat} {K : Value → World → Prop} (hr : RowsF t_i64 w L) (hi : i < L.length) (hj : j < L.length) (h : ∀ w', Ext w w' → K (.bool (ltR (gt L i) (gt L j))) w') : callV Tryz.prog cmpF [valR (gt L i), valR (gt L j)] w fun r w2 => xLt .i64 r (.int .i64 0) fun b => K b w2 := by
  have h1 := (hr (gt L i) (by rw [gt_eq hi]; exact List.getElem_mem _)).sl
  have h2 := (hr (gt L j) (by rw [gt_eq hj]; exact List.getElem_mem _)).sl
  refine iRet (ok_impl_compareFrames h1 h2) fun w' x => ?_
  refine iLt ?_
  rw [cmpR_neg]
  exact h w' x
theorem iCmF {w : World} {L : List PR} {i j : Nat} {G : Value → World → Prop} (hr : RowsF t_i64 w L) (hi : i < L.length) (hj : j < L.length) (h : ∀ w', Ext w w' → G (.bool (ltR (gt L i) (gt L j))) w') : ∀ w1, Ext w w1 → callV Tryz.prog cmpF [valR (gt L i), valR (gt L j)] w1 fun r w2 => xLt .i64 r (.int .i64 0) fun b => ∀ w3, Ext w2 w3 → G b w3 :=
  fun _ x1 => cmp_callF (hr.ext x1) hi hj fun _ x2 _ x3 => h _ ((x1.trans x2).trans x3)
theorem iCmNF {w : World} {L : List PR} {i j : Nat} {G : Value → World → Prop} (hr : RowsF t_i64 w L) (hi : i < L.length) (hj : j < L.length) (h : ∀ w', Ext w w' → G (.bool (!ltR (gt L i) (gt L j))) w') : ∀ w1, Ext w w1 → callV Tryz.prog cmpF [valR (gt L i), valR (gt L j)] w1 fun r w2 => xLt .i64 r (.int .i64 0) fun b => xNot b fun c => ∀ w3, Ext w2 w3 → G c w3 :=
  fun _ x1 => cmp_callF (hr.ext x1) hi hj fun _ x2 => iNot fun _ x3 => h _ ((x1.trans x2).trans x3)
theorem ok_slices_insertionSortPF {lo : Nat} {w : World} {v : Value} {L : List PR} {a b : Nat} (hs : RowF lo t_impl_Frame w v L) (hrw : RowsF t_i64 w L) (hab : a ≤ b) (hb : b ≤ L.length) (hL : L.length ≤ 1152921504606846976) :
    Cal Tryz.prog f_slices_insertionSortCmpFunc_impl_Frame #[v, .int .i64 (a : Int), .int .i64 (b : Int), cmpF] w fun _ w' => ∃ L', TurnF lo t_impl_Frame v w w' L' ∧ SwR a b L L' ∧ Srt ltR a b L' := by
  apply c_slices_insertionSortCmpFunc_impl_Frame; unfold S_slices_insertionSortCmpFunc_impl_Frame
  (refine iAdd (by omega) ?_)
  refine iLp (fun i : Nat => [.int .i64 (i : Int)]) (fun i w' => a + 1 ≤ i ∧ i ≤ b + 1 ∧ ∃ L', TurnF lo t_impl_Frame v w w' L' ∧ SwR a b L L' ∧ Srt ltR a i L') (fun i => b + 1 - i) (a + 1) (by simp) ⟨Nat.le_refl _, by omega, L, TurnF.refl hs, .refl, Srt.short (Nat.le_refl _)⟩ ?_
  rintro i w2 Kn ⟨hi, hib, L1, ht1, hw1, hs1⟩ hKn
  intro _
  simp only [gx]
  refine iLt ?_
  refine iCndP (fun h => ?_) (fun h => ?_)
  · have hl1 := hw1.len
    refine iLp (fun j : Nat => [.int .i64 (j : Int)]) (fun j w' => a ≤ j ∧ j ≤ i ∧ ∃ L', TurnF lo t_impl_Frame v w w' L' ∧ SwR a b L L' ∧ Ins ltR a i j L') (fun j => j) i rfl ⟨by omega, Nat.le_refl _, L1, ht1, hw1, Ins.init hs1⟩ ?_
    rintro j w4 Kn2 ⟨haj, hji, L2, ht2, hw2, hin⟩ hKn2
    have hl2 := hw2.len
    intro _
    simp only [gx]
    refine iJnB (decide (a < j) && ltR (gt L2 j) (gt L2 (j - 1))) w4 (fun J hJ => ?_) (fun w6 h6 => ?_)
    · refine iLt ?_
      refine iCndP (fun h5 => ?_) (fun h5 => ?_)
      · rw [decide_eq_true (show a < j by omega), Bool.true_and] at hJ
        refine iRdFr (j := j) ht2.ow rfl (by omega) ?_
        (refine iSub (by omega) ?_)
        refine iRdFr (j := j - 1) ht2.ow (by omega) (by omega) ?_
        exact iCmF (hrw.turn hs (by decide) ht2 hw2.perm) (by omega) (by omega) hJ
      · rw [decide_eq_false (show ¬ a < j by omega), Bool.false_and] at hJ
        exact fun _ x8 _ x9 => hJ _ (x8.trans x9)
    · intro _
      simp only [gx]
      have ht6 := ht2.ext h6
      cases hc : decide (a < j) && ltR (gt L2 j) (gt L2 (j - 1))
      · refine iCndF rfl ?_
        (refine iAdd (by omega) ?_)
        refine hKn (i + 1) _ ⟨by omega, by omega, L2, ht6, hw2, hin.done ordrR ?_ hji⟩ (by omega)
        rw [Bool.and_eq_false_iff, decide_eq_false_iff_not] at hc
        rcases hc with hc | hc
        · exact .inl (by omega)
        · rcases Nat.lt_or_ge a j with h' | h'
          · exact .inr ⟨h', hc⟩
          · exact .inl h'
      · rw [Bool.and_eq_true, decide_eq_true_eq] at hc
        refine iCndT rfl ?_
        (refine iSub (by omega) ?_; refine iSub (by omega) ?_)
        refine iRdFr (j := j - 1) ht6.ow (by omega) (by omega) ?_
        refine iRdFr (j := j) ht6.ow rfl (by omega) ?_
        refine iWrF (i := j) (j := j - 1) ht6.ow rfl (by omega) (by omega) (by omega) fun w13 h13 => ?_
        (refine iSub (by omega) ?_)
        rw [show (j : Int) - 1 = ((j - 1 : Nat) : Int) by omega]
        exact hKn2 (j - 1) _ ⟨by omega, by omega, sw L2 j (j - 1), ht6.trans h13, .step hw2 (by omega) (by omega) (by omega) (by omega) hb, hin.swap ordrR hc.1 hji (by omega) hc.2⟩ (by omega)
  · exact ⟨L1, ht1, hw1, hs1.mono (Nat.le_refl _) (by omega)⟩
theorem ok_slices_reverseRangeCmpFunc_impl_Frame {lo : Nat} {w : World} {v : Value} {L : List PR} {a b : Nat} (hs : RowF lo t_impl_Frame w v L) (hab : a ≤ b) (hb : b ≤ L.length) (hL : L.length ≤ 1152921504606846976) :
    Cal Tryz.prog f_slices_reverseRangeCmpFunc_impl_Frame #[v, .int .i64 (a : Int), .int .i64 (b : Int), cmpF] w fun _ w' => ∃ L', TurnF lo t_impl_Frame v w w' L' ∧ SwR a b L L' := by
  apply c_slices_reverseRangeCmpFunc_impl_Frame; unfold S_slices_reverseRangeCmpFunc_impl_Frame
  (refine iSub (by omega) ?_)
  refine iLp (fun s : Nat × Int => [.int .i64 (s.1 : Int), .int .i64 s.2]) (fun s w' => a ≤ s.1 ∧ s.1 ≤ b ∧ -1 ≤ s.2 ∧ s.2 < b ∧ (b : Int) - s.2 ≤ s.1 - a + 1 ∧ ∃ L', TurnF lo t_impl_Frame v w w' L' ∧ SwR a b L L') (fun s => b - s.1) (a, (b : Int) - 1) rfl ⟨Nat.le_refl _, hab, by show -1 ≤ (b : Int) - 1; omega, by show (b : Int) - 1 < b; omega, by show (b : Int) - ((b : Int) - 1) ≤ a - a + 1; omega, L, TurnF.refl hs, .refl⟩ ?_
  rintro ⟨i, j⟩ w2 Kn ⟨hi, hib, hj, hjb, hij, L1, ht1, hw1⟩ hKn
  have hi : a ≤ i := hi
  have hib : i ≤ b := hib
  have hj : -1 ≤ j := hj
  have hjb : j < b := hjb
  have hij : (b : Int) - j ≤ i - a + 1 := hij
  have hl1 := hw1.len
  intro _
  simp only [gx]
  refine iLt ?_
  refine iCndP (fun h => ?_) (fun h => ?_)
  · refine iRdFr (j := j.toNat) ht1.ow (by omega) (by omega) ?_
    refine iRdFr (j := i) ht1.ow rfl (by omega) ?_
    refine iWrF (i := i) (j := j.toNat) ht1.ow rfl (by omega) (by omega) (by omega) fun w7 h7 => ?_
    (refine iAdd (by omega) ?_; refine iSub (by omega) ?_)
    exact hKn (i + 1, j - 1) _ ⟨by show a ≤ i + 1; omega, by show i + 1 ≤ b; omega, by show -1 ≤ j - 1; omega, by show j - 1 < b; omega, by show (b : Int) - (j - 1) ≤ ((i + 1 : Nat) : Int) - a + 1; omega, sw L1 i j.toNat, ht1.trans h7, .step hw1 hi (by omega) (by omega) (by omega) hb⟩ (by show b - (i + 1) < b - i; omega)
  · exact ⟨L1, ht1, hw1⟩
theorem ok_slices_siftDownCmpFunc_impl_Frame {lo0 : Nat} {w : World} {v : Value} {L : List PR} {lo hi first : Nat} (hs : RowF lo0 t_impl_Frame w v L) (hrw : RowsF t_i64 w L) (hlo : lo ≤ hi) (hb : first + hi ≤ L.length) (hL : L.length ≤ 1152921504606846976) (hh : Heap ltR first (lo + 1) hi L) :
    Cal Tryz.prog f_slices_siftDownCmpFunc_impl_Frame #[v, .int .i64 (lo : Int), .int .i64 (hi : Int), .int .i64 (first : Int), cmpF] w fun _ w' => ∃ L', TurnF lo0 t_impl_Frame v w w' L' ∧ SwR (first + lo) (first + hi) L L' ∧ Heap ltR first lo hi L' := by
  apply c_slices_siftDownCmpFunc_impl_Frame; unfold S_slices_siftDownCmpFunc_impl_Frame
  refine iLp (fun r : Nat => [.int .i64 (r : Int)]) (fun r w' => lo ≤ r ∧ r ≤ hi ∧ ∃ L', TurnF lo0 t_impl_Frame v w w' L' ∧ SwR (first + lo) (first + hi) L L' ∧ Sift ltR first lo hi r L') (fun r => hi - r) lo rfl ⟨Nat.le_refl _, hlo, L, TurnF.refl hs, .refl, Sift.init hh⟩ ?_
  rintro r w2 Kn ⟨hr, hrh, L1, ht1, hw1, hsf⟩ hKn
  have hl1 := hw1.len
  intro _
  simp only [gx]
  refine iMul (by omega) ?_
  (refine iAdd (by omega) ?_; (with_reducible refine iLe ?_))
  refine iCndP (fun h => ?_) (fun h => ?_)
  · exact ⟨L1, ht1, hw1, hsf.done fun c hc hch => by omega⟩
  · have hlr : r < hi := by omega
    refine iJnB (decide (2 * r + 2 < hi) && ltR (gt L1 (first + (2 * r + 1))) (gt L1 (first + (2 * r + 2)))) w2 (fun J hJ => ?_) (fun w4 h4 => ?_)
    · (refine iAdd (by omega) ?_; (with_reducible refine iLt ?_))
      refine iCndP (fun h5 => ?_) (fun h5 => ?_)
      · rw [decide_eq_true (show 2 * r + 2 < hi by omega), Bool.true_and] at hJ
        (refine iAdd (by omega) ?_)
        refine iRdFr (j := first + (2 * r + 1)) ht1.ow (by omega) (by omega) ?_
        (refine iAdd (by omega) ?_; refine iAdd (by omega) ?_)
        refine iRdFr (j := first + (2 * r + 2)) ht1.ow (by omega) (by omega) ?_
        exact iCmF (hrw.turn hs (by decide) ht1 hw1.perm) (by omega) (by omega) hJ
      · rw [decide_eq_false (show ¬ 2 * r + 2 < hi by omega), Bool.false_and] at hJ
        exact fun _ x8 _ x9 => hJ _ (x8.trans x9)
    · intro _
      simp only [gx]
      have ht4 := ht1.ext h4
      refine iJnX (fun xs w8 => Ext w4 w8 ∧ ∃ c : Nat, xs = [.int .i64 (c : Int)] ∧ (c = 2 * r + 1 ∨ c = 2 * r + 2) ∧ c < hi ∧ ∀ d, (d = 2 * r + 1 ∨ d = 2 * r + 2) → d < hi → ltR (gt L1 (first + c)) (gt L1 (first + d)) = false) (fun J hJ => ?_) ?_
      · cases hc : decide (2 * r + 2 < hi) && ltR (gt L1 (first + (2 * r + 1))) (gt L1 (first + (2 * r + 2)))
        · refine iCndF rfl ?_
          refine hJ _ _ ⟨Ext.refl _, 2 * r + 1, rfl, .inl rfl, by omega, fun d hd hdh => ?_⟩
          rcases hd with hd | hd
          · subst hd; exact ordrR.rfl _
          · subst hd; rw [decide_eq_true hdh, Bool.true_and] at hc; exact hc
        · rw [Bool.and_eq_true, decide_eq_true_eq] at hc
          refine iCndT rfl ?_
          (refine iAdd (by omega) ?_)
          refine hJ _ _ ⟨Ext.refl _, 2 * r + 2, rfl, .inr rfl, hc.1, fun d hd hdh => ?_⟩
          rcases hd with hd | hd
          · subst hd; exact ordrR.asym hc.2
          · subst hd; exact ordrR.rfl _
      · rintro xs w8 ⟨h8, c, rfl, hc, hch, hmax⟩
        intro _
        simp only [gx]
        have ht8 := ht4.ext h8
        (refine iAdd (by omega) ?_)
        refine iRdFr (j := first + r) ht8.ow (by omega) (by omega) ?_
        (refine iAdd (by omega) ?_)
        refine iRdFr (j := first + c) ht8.ow (by omega) (by omega) ?_
        refine iCmNF (hrw.turn hs (by decide) ht8 hw1.perm) (by omega) (by omega) fun w9 h9 => ?_
        have ht9 := ht8.ext h9
        refine iCnd (fun h5 => ?_) (fun h5 => ?_)
        · refine ⟨L1, ht9, hw1, hsf.done fun d hd hdh => ?_⟩
          have h5 : ltR (gt L1 (first + r)) (gt L1 (first + c)) = false := by simpa using h5
          exact ordrR.tr (hmax d hd hdh) h5
        · have h5 : ltR (gt L1 (first + r)) (gt L1 (first + c)) = true := by simpa using h5
          (refine iAdd (by omega) ?_; refine iAdd (by omega) ?_; refine iAdd (by omega) ?_)
          refine iRdFr (j := first + c) ht9.ow (by omega) (by omega) ?_
          (refine iAdd (by omega) ?_)
          refine iRdFr (j := first + r) ht9.ow (by omega) (by omega) ?_
          refine iWrF (i := first + r) (j := first + c) ht9.ow (by omega) (by omega) (by omega) (by omega) fun w14 h14 => ?_
          exact hKn c _ ⟨by omega, by omega, sw L1 (first + r) (first + c), ht9.trans h14, .step hw1 (by omega) (by omega) (by omega) (by omega) (by omega), hsf.swap ordrR hr hc hch (by omega) h5 hmax⟩ (by omega)
theorem ok_slices_heapSortCmpFunc_impl_Frame {lo : Nat} {w : World} {v : Value} {L : List PR} {a b : Nat} (hs : RowF lo t_impl_Frame w v L) (hrw : RowsF t_i64 w L) (hab : a < b) (hb : b ≤ L.length) (hL : L.length ≤ 1152921504606846976) :
    Cal Tryz.prog f_slices_heapSortCmpFunc_impl_Frame #[v, .int .i64 (a : Int), .int .i64 (b : Int), cmpF] w fun _ w' => ∃ L', TurnF lo t_impl_Frame v w w' L' ∧ SwR a b L L' ∧ Srt ltR a b L' := by
  apply c_slices_heapSortCmpFunc_impl_Frame; unfold S_slices_heapSortCmpFunc_impl_Frame
  obtain ⟨n, rfl⟩ : ∃ n, b = a + n := ⟨b - a, by omega⟩
  (refine iSub (by omega) ?_; refine iSub (by omega) ?_)
  refine iQuo (by omega) ?_
  refine iLp (fun s : Nat => [.int .i64 ((s : Int) - 1)]) (fun s w' => s ≤ n ∧ ∃ L', TurnF lo t_impl_Frame v w w' L' ∧ SwR a (a + n) L L' ∧ Heap ltR a s n L') (fun s => s) ((n - 1) / 2 + 1) (by congr 2; omega) ⟨by omega, L, TurnF.refl hs, .refl, fun p c h1 h2 h3 => by omega⟩ ?_
  rintro s w2 Kn ⟨hsn, L1, ht1, hw1, hh⟩ hKn
  have hl1 := hw1.len
  intro _
  simp only [gx]
  refine iLe ?_
  refine iCndP (fun h => ?_) (fun h => ?_)
  · rw [show (s : Int) - 1 = ((s - 1 : Nat) : Int) by omega, show ((a + n : Nat) : Int) - a = (n : Int) by omega]
    refine iCall ?_
    refine (ok_slices_siftDownCmpFunc_impl_Frame (lo := s - 1) (hi := n) (first := a) ht1.ow (hrw.turn hs (by decide) ht1 hw1.perm) (by omega) (by omega) (by omega) (by rw [show s - 1 + 1 = s by omega]; exact hh)).mono fun _ w3 h3 => ?_
    obtain ⟨L2, ht2, hw2, hh2⟩ := h3
    (refine iSub (by omega) ?_)
    exact hKn (s - 1) _ ⟨by omega, L2, ht1.trans ht2, hw1.trans (hw2.mono (by omega) (Nat.le_refl _) (by omega)), hh2⟩ (by omega)
  · (refine iSub (by omega) ?_)
    have hs0 : s = 0 := by omega
    subst hs0
    refine iLp (fun s : Nat => [.int .i64 ((s : Int) - 1)]) (fun s w' => s ≤ n ∧ ∃ L', TurnF lo t_impl_Frame v w w' L' ∧ SwR a (a + n) L L' ∧ Heap ltR a 0 s L' ∧ (∀ p q, a ≤ p → p < q → a + s ≤ q → q < a + n → ltR (gt L' q) (gt L' p) = false)) (fun s => s) n (by congr 2; omega) ⟨Nat.le_refl _, L1, ht1, hw1, hh, fun p q h1 h2 h3 h4 => by omega⟩ ?_
    rintro s w5 Kn5 ⟨hsn, L2, ht2, hw2, hh2, hpr⟩ hKn5
    have hl2 := hw2.len
    intro _
    simp only [gx]
    refine iLe ?_
    refine iCndP (fun h5 => ?_) (fun h5 => ?_)
    · (refine iAdd (by omega) ?_; refine iAdd (by omega) ?_)
      refine iRdFr (j := a + (s - 1)) ht2.ow (by omega) (by omega) ?_
      refine iRdFr (j := a) ht2.ow rfl (by omega) ?_
      refine iWrF (i := a) (j := a + (s - 1)) ht2.ow rfl (by omega) (by omega) (by omega) fun w10 h10 => ?_
      rw [show (s : Int) - 1 = ((s - 1 : Nat) : Int) by omega]
      have e : ∀ k, gt (sw L2 a (a + (s - 1))) k = if k = a + (s - 1) then gt L2 a else if k = a then gt L2 (a + (s - 1)) else gt L2 k := gt_sw (by omega) (by omega)
      have hw3 : SwR a (a + n) L2 (sw L2 a (a + (s - 1))) := .one (by omega) (by omega) (by omega) (by omega) (by omega)
      have htop := Heap.top ordrR hh2
      refine iCall ?_
      refine (ok_slices_siftDownCmpFunc_impl_Frame (L := sw L2 a (a + (s - 1))) (lo := 0) (hi := s - 1) (first := a) h10.ow (hrw.turn hs (by decide) (ht2.trans h10) (hw2.trans hw3).perm) (by omega) (by rw [hw3.len]; omega) (by rw [hw3.len]; omega) (fun p c h1 h2 h3 => by
        rw [e, e, if_neg (by omega), if_neg (by omega), if_neg (by omega), if_neg (by omega)]
        exact hh2 p c (by omega) h2 (by omega))).mono fun _ w11 h11 => ?_
      obtain ⟨L4, ht4, hw4, hh4⟩ := h11
      (refine iSub (by omega) ?_)
      refine hKn5 (s - 1) _ ⟨by omega, L4, (ht2.trans h10).trans ht4, (hw2.trans hw3).trans (hw4.mono (by omega) (by omega) (by rw [hw3.len]; omega)), hh4, fun p q h1 h2 h3 h4 => ?_⟩ (by omega)
      rw [hw4.out (k := q) (by omega)]
      have main : ∀ p, a ≤ p → p < q → ltR (gt (sw L2 a (a + (s - 1))) q) (gt (sw L2 a (a + (s - 1))) p) = false := fun p h1 h2 => by
        rw [e, e]
        by_cases hq : q = a + (s - 1)
        · rw [if_pos hq, if_neg (by omega)]
          split
          · exact htop _ (by omega)
          · obtain ⟨k, rfl⟩ : ∃ k, p = a + k := ⟨p - a, by omega⟩
            exact htop _ (by omega)
        · rw [if_neg hq, if_neg (by omega)]
          split
          · exact hpr a q (by omega) (by omega) (by omega) h4
          · split
            · exact hpr _ q (by omega) (by omega) (by omega) h4
            · exact hpr p q h1 h2 (by omega) h4
      rcases Nat.lt_or_ge p (a + (s - 1)) with hp | hp
      · exact hw4.all (p := fun x => ltR (gt (sw L2 a (a + (s - 1))) q) x = false) (fun k hk hk' => main k (by omega) (by omega)) p (by omega) hp
      · rw [hw4.out (k := p) (by omega)]; exact main p h1 h2
    · exact ⟨L2, ht2, hw2, fun p q h1 h2 h3 => hpr p q h1 h2 (by omega) h3⟩
end Go.Proofs.YtikfhibcdhdglaaGreat

/- Contracts: the helpers of pdqsort that draw places. Conditions: none. -/
namespace Go.Vc
theorem iAndW {a : Int} {m : Nat} {K : Value → Prop} (hm : m < 2 ^ 64) (h : ∀ x : Nat, x ≤ m → K (.int .u64 (x : Int))) : xBits iAnd .u64 (.int .u64 a) (.int .u64 (m : Int)) K := by
  refine ⟨_, _, rfl, rfl, ?_⟩
  have e : iAnd .u64 a (m : Int) = (((BitVec.ofInt 64 a &&& BitVec.ofInt 64 (m : Int)).toNat : Nat) : Int) := by
    rw [show iAnd .u64 a (m : Int) = IntKind.u64.wrap ((BitVec.ofInt 64 a &&& BitVec.ofInt 64 (m : Int)).toNat : Nat) from rfl]
    exact IntWalk.u64_in _ (by have := (BitVec.ofInt 64 a &&& BitVec.ofInt 64 (m : Int)).isLt; omega)
  rw [e]
  refine h _ ?_
  rw [BitVec.toNat_and, ofInt_nat, BitVec.toNat_ofNat, Nat.mod_eq_of_lt (a := m) (by omega)]
  exact Nat.and_le_right
theorem iStW {e : TypeId} {w : World} {b : Nat} {old v : Value} {K : World → Prop} (hb : Blk e w b [old]) (hv : isCell v = true) (h : ∀ w', Blk e w' b [v] → Ch (fun c => c = b) w w' → K w') : xSt w (.pointer (some ⟨b, 0, none⟩)) v K :=
  iStB hb (by simp) hv fun h2 => h _ h2 ((Upd.setCell w b 0 v).ch rfl)
end Go.Vc
namespace Go.Proofs.YtikfhibcdhdglaaGreat
open Go.Vc
theorem ok_slices_nextPowerOfTwo {n : Nat} (h1 : 1 ≤ n) (hn : n ≤ 1152921504606846976) (w : World) : Cal Tryz.prog f_slices_nextPowerOfTwo #[.int .i64 (n : Int)] w fun r w' => Ext w w' ∧ ∃ m : Nat, r = .int .u64 (m : Int) ∧ 1 ≤ m ∧ m ≤ 2 * n := by
  apply c_slices_nextPowerOfTwo; unfold S_slices_nextPowerOfTwo
  refine iConvU (by omega) ?_
  refine iCall ?_
  refine (ok_math_bits_Len (by omega) w).mono fun r w1 h => ?_
  obtain ⟨h1', k, rfl, hk1, hk2, hk3⟩ := h
  have hk := hk2 h1
  refine ⟨_, _, _, rfl, rfl, by omega, ?_⟩
  have e : iShl .u64 1 (k : Int) = ((2 ^ k : Nat) : Int) := by
    rw [show iShl .u64 1 (k : Int) = IntKind.u64.wrap (1 * 2 ^ min (k : Int).toNat 64) from rfl, Int.toNat_natCast, Nat.min_eq_left hk3, Int.one_mul, show ((2 : Int) ^ k) = ((2 ^ k : Nat) : Int) by push_cast; rfl]
    exact IntWalk.u64_in _ (by omega)
  rw [e]
  exact ⟨h1', 2 ^ k, rfl, Nat.two_pow_pos k, hk⟩
theorem ok_slices_xorshift_Next {e : TypeId} {w : World} {b : Nat} {x : Int} (hb : Blk e w b [.int .u64 x]) : Cal Tryz.prog f_slices_xorshift_Next #[.pointer (some ⟨b, 0, none⟩)] w fun r w' => ∃ y : Int, r = .int .u64 y ∧ Blk e w' b [.int .u64 y] ∧ Ch (fun c => c = b) w w' := by
  apply c_slices_xorshift_Next; unfold S_slices_xorshift_Next
  ((with_reducible refine iNil ?_); refine iLdB (by assumption) (by first | rfl | simp) ?_; (with_reducible refine iNil ?_); refine iLdB (by assumption) (by first | rfl | simp) ?_)
  refine ⟨_, _, _, rfl, rfl, by omega, ?_⟩
  refine ⟨_, _, rfl, rfl, ?_⟩
  ((with_reducible refine iNil ?_))
  intro w1 h1
  refine iStW (hb.ext h1) rfl fun w2 hb2 h2 => ?_
  intro w3 h3
  have hb3 := hb2.ext h3
  have c3 := ch_ext ((h1.ch.trans h2 fun _ e => .inl e)) h3
  clear hb2 h2
  ((with_reducible refine iNil ?_); refine iLdB (by assumption) (by first | rfl | simp) ?_; (with_reducible refine iNil ?_); refine iLdB (by assumption) (by first | rfl | simp) ?_)
  refine ⟨_, _, _, rfl, rfl, by omega, ?_⟩
  refine ⟨_, _, rfl, rfl, ?_⟩
  ((with_reducible refine iNil ?_))
  intro w4 h4
  refine iStW (hb3.ext h4) rfl fun w5 hb5 h5 => ?_
  intro w6 h6
  have hb6 := hb5.ext h6
  have c6 := ch_ext (ch_self (ch_ext c3 h4) h5) h6
  clear hb5 hb3 hb c3
  ((with_reducible refine iNil ?_); refine iLdB (by assumption) (by first | rfl | simp) ?_; (with_reducible refine iNil ?_); refine iLdB (by assumption) (by first | rfl | simp) ?_)
  refine ⟨_, _, _, rfl, rfl, by omega, ?_⟩
  refine ⟨_, _, rfl, rfl, ?_⟩
  ((with_reducible refine iNil ?_))
  intro w7 h7
  refine iStW (hb6.ext h7) rfl fun w8 hb8 h8 => ?_
  intro w9 h9
  have hb9 := hb8.ext h9
  have c9 := ch_ext (ch_self (ch_ext c6 h7) h8) h9
  clear hb8 hb6 c6
  ((with_reducible refine iNil ?_); refine iLdB (by assumption) (by first | rfl | simp) ?_)
  exact ⟨_, rfl, hb9, c9⟩
theorem ok_slices_breakPatternsCmpFunc_impl_Frame {lo : Nat} {w : World} {v : Value} {L : List PR} {a b : Nat} (hs : RowF lo t_impl_Frame w v L) (hab : a ≤ b) (hb : b ≤ L.length) (hL : L.length ≤ 1152921504606846976) :
    Cal Tryz.prog f_slices_breakPatternsCmpFunc_impl_Frame #[v, .int .i64 (a : Int), .int .i64 (b : Int), cmpF] w fun _ w' => ∃ L', TurnF lo t_impl_Frame v w w' L' ∧ SwR a b L L' := by
  apply c_slices_breakPatternsCmpFunc_impl_Frame; unfold S_slices_breakPatternsCmpFunc_impl_Frame
  obtain ⟨n, rfl⟩ : ∃ n, b = a + n := ⟨b - a, by omega⟩
  refine iSub (by omega) ?_
  rw [show ((a + n : Nat) : Int) - a = (n : Int) by omega]
  refine iLe ?_
  refine iCndP (fun h => ?_) (fun h => ?_)
  · refine iConvU (by omega) ?_
    refine iNew fun c w1 hc1 h1 hb1 => ?_
    refine iStB hb1 (by simp [Value.cells]) rfl fun hb2 => ?_
    have x2 : Ext w (w1.setCell ⟨c, 0, none⟩ (.int .u64 (n : Int))) := ext_set h1 (by show w.heap.size ≤ c; omega) _
    refine iCall ?_
    refine (ok_slices_nextPowerOfTwo (by omega) (by omega) _).mono fun r w3 h3 => ?_
    obtain ⟨h3, m, rfl, hm1, hm2⟩ := h3
    have hb3 := hb2.ext h3
    have hs3 := (hs.ext x2).ext h3
    have hne : v.ownBlock ≠ some c := hs.lt (by omega)
    refine iQuo (by omega) ?_
    refine iMul (by omega) ?_
    refine iAdd (by omega) ?_
    refine iSub (by omega) ?_
    refine iLp (fun i : Nat => [.int .i64 (i : Int)]) (fun i w' => a + n / 4 * 2 - 1 ≤ i ∧ (∃ x, Blk 225 w' c [.int .u64 x]) ∧ ∃ L', TurnF lo t_impl_Frame v w w' L' ∧ SwR a (a + n) L L') (fun i => a + n - i) (a + n / 4 * 2 - 1) (by congr 2; omega)
      ⟨Nat.le_refl _, ⟨_, hb3⟩, L, ⟨hs3, ((x2.trans h3).ch)⟩, .refl⟩ ?_
    rintro i w5 Kn ⟨hi, ⟨x, hb5⟩, L1, ht1, hw1⟩ hKn
    have hl1 := hw1.len
    intro _
    simp only [gx]
    refine iQuo (by omega) ?_
    refine iMul (by omega) ?_
    refine iAdd (by omega) ?_
    refine iAdd (by omega) ?_
    refine iLe ?_
    refine iCndP (fun h5 => ?_) (fun h5 => ?_)
    · refine iCall ?_
      refine (ok_slices_xorshift_Next hb5).mono fun r w6 h6 => ?_
      obtain ⟨y, rfl, hb6, hc6⟩ := h6
      have hs6 := ht1.ow.ch hc6 fun c' hc' e => hne (e ▸ hc')
      refine ⟨_, _, rfl, rfl, ?_⟩
      rw [show IntKind.u64.wrap ((m : Int) - 1) = ((m - 1 : Nat) : Int) by rw [IntWalk.u64_in _ (by omega)]; omega]
      refine iAndW (by omega) fun x hx => ?_
      refine iConv64 (by omega) ?_
      refine iLe ?_
      refine iJnX (fun xs w8 => Ext w6 w8 ∧ ∃ z : Nat, xs = [.int .i64 (z : Int)] ∧ z < n) (fun J hJ => ?_) ?_
      · refine iCndP (fun h7 => ?_) (fun h7 => ?_)
        · refine iSub (by omega) ?_
          rw [show (x : Int) - n = ((x - n : Nat) : Int) by omega]
          exact hJ _ _ ⟨Ext.refl _, x - n, rfl, by omega⟩
        · exact hJ _ _ ⟨Ext.refl _, x, rfl, by omega⟩
      rintro xs w8 ⟨h8, z, rfl, hz⟩
      intro _
      simp only [gx]
      have hs8 := hs6.ext h8
      have hb8 := hb6.ext h8
      have hc8 := ch_ext hc6 h8
      refine iAdd (by omega) ?_
      refine iAdd (by omega) ?_
      refine iRdFr (j := a + z) hs8 (by omega) (by omega) ?_
      refine iRdFr (j := i) hs8 rfl (by omega) ?_
      refine iWrF (i := i) (j := a + z) hs8 rfl (by omega) (by omega) (by omega) fun w13 h13 => ?_
      refine iAdd (by omega) ?_
      refine hKn (i + 1) _ ⟨by omega, ⟨_, hb8.ch h13.ch fun e => hne e⟩, sw L1 i (a + z), ⟨h13.ow, ?_⟩, .step hw1 (by omega) (by omega) (by omega) (by omega) hb⟩ (by omega)
      refine (ht1.ch.trans hc8 fun c' e => .inr ?_).trans h13.ch fun _ e => .inl e
      omega
    · exact ⟨L1, ht1, hw1⟩
  · exact ⟨L, TurnF.refl hs, .refl⟩
end Go.Proofs.YtikfhibcdhdglaaGreat

/- Contracts: pivots, partitions and the trial of insertion of pdqsort. Conditions: none. -/
namespace Go.Proofs.YtikfhibcdhdglaaGreat
open Go.Vc
theorem ok_slices_order2CmpFunc_impl_Frame {lo : Nat} {e : TypeId} {w : World} {v : Value} {L : List PR} {i j c n : Nat} (hs : RowF lo t_impl_Frame w v L) (hrw : RowsF t_i64 w L) (hi : i < L.length) (hj : j < L.length) (_hte : t_i64 ≠ e) (hb : Blk e w c [.int .i64 (n : Int)]) (hn : n ≤ 1000) :
    Cal Tryz.prog f_slices_order2CmpFunc_impl_Frame #[v, .int .i64 (i : Int), .int .i64 (j : Int), .pointer (some ⟨c, 0, none⟩), cmpF] w fun r w' => ∃ i' j' m : Nat, r = .tuple #[.int .i64 (i' : Int), .int .i64 (j' : Int)] ∧ ((i' = i ∧ j' = j) ∨ (i' = j ∧ j' = i)) ∧ m ≤ n + 1 ∧ Blk e w' c [.int .i64 (m : Int)] ∧ Ch (fun d => d = c) w w' := by
  apply c_slices_order2CmpFunc_impl_Frame; unfold S_slices_order2CmpFunc_impl_Frame
  refine iRdFr (j := j) hs rfl hj ?_
  refine iRdFr (j := i) hs rfl hi ?_
  refine iCmF hrw (by omega) (by omega) fun w1 h1 => ?_
  have hb1 := hb.ext h1
  refine iCnd (fun h => ?_) (fun h => ?_)
  · ((with_reducible refine iNil ?_); refine iLdB (by assumption) (by first | rfl | simp) ?_; refine iAdd (by omega) ?_; (with_reducible refine iNil ?_))
    refine iStW hb1 rfl fun w2 hb2 hc2 => ?_
    exact ⟨j, i, n + 1, rfl, .inr ⟨rfl, rfl⟩, Nat.le_refl _, hb2, (h1.ch.trans hc2 fun _ e => .inl e)⟩
  · exact ⟨i, j, n, rfl, .inl ⟨rfl, rfl⟩, by omega, hb1, h1.ch⟩
theorem ok_slices_medianCmpFunc_impl_Frame {lo : Nat} {e : TypeId} {w : World} {v : Value} {L : List PR} {i j k c n : Nat} (hs : RowF lo t_impl_Frame w v L) (hrw : RowsF t_i64 w L) (hne : v.ownBlock ≠ some c) (hi : i < L.length) (hj : j < L.length) (hk : k < L.length) (hte : t_i64 ≠ e) (hb : Blk e w c [.int .i64 (n : Int)]) (hn : n ≤ 900) :
    Cal Tryz.prog f_slices_medianCmpFunc_impl_Frame #[v, .int .i64 (i : Int), .int .i64 (j : Int), .int .i64 (k : Int), .pointer (some ⟨c, 0, none⟩), cmpF] w fun r w' => ∃ t m : Nat, r = .int .i64 (t : Int) ∧ (t = i ∨ t = j ∨ t = k) ∧ m ≤ n + 3 ∧ Blk e w' c [.int .i64 (m : Int)] ∧ Ch (fun d => d = c) w w' := by
  apply c_slices_medianCmpFunc_impl_Frame; unfold S_slices_medianCmpFunc_impl_Frame
  refine iCall ?_
  refine (ok_slices_order2CmpFunc_impl_Frame hs hrw hi hj hte hb (by omega)).mono fun r w1 h1 => ?_
  obtain ⟨i1, j1, n1, rfl, h1, hn1, hb1, hc1⟩ := h1
  have hs1 := hs.ch hc1 fun d hd e => hne (e ▸ hd)
  have hrw1 := hrw.ch hb hte hc1
  ((with_reducible refine iE20 ?_; refine iE21 ?_))
  refine iCall ?_
  refine (ok_slices_order2CmpFunc_impl_Frame (i := j1) hs1 hrw1 (by rcases h1 with h | h <;> omega) hk hte hb1 (by omega)).mono fun r w2 h2 => ?_
  obtain ⟨j2, k2, n2, rfl, h2, hn2, hb2, hc2⟩ := h2
  have hs2 := hs1.ch hc2 fun d hd e => hne (e ▸ hd)
  have hrw2 := hrw1.ch hb1 hte hc2
  ((with_reducible refine iE20 ?_; refine iE21 ?_))
  refine iCall ?_
  refine (ok_slices_order2CmpFunc_impl_Frame (i := i1) (j := j2) hs2 hrw2 (by rcases h1 with h | h <;> omega) (by rcases h1 with h | h <;> rcases h2 with h' | h' <;> omega) hte hb2 (by omega)).mono fun r w3 h3 => ?_
  obtain ⟨i3, j3, n3, rfl, h3, hn3, hb3, hc3⟩ := h3
  ((with_reducible refine iE20 ?_; refine iE21 ?_))
  exact ⟨j3, n3, rfl, by rcases h1 with h | h <;> rcases h2 with h' | h' <;> rcases h3 with h'' | h'' <;> omega, by omega, hb3, ch_self (ch_self hc1 hc2) hc3⟩
theorem ok_slices_medianAdjacentCmpFunc_impl_Frame {lo : Nat} {e : TypeId} {w : World} {v : Value} {L : List PR} {i c n : Nat} (hs : RowF lo t_impl_Frame w v L) (hrw : RowsF t_i64 w L) (hne : v.ownBlock ≠ some c) (h1 : 1 ≤ i) (hi : i + 1 < L.length) (hL : L.length ≤ 1152921504606846976) (hte : t_i64 ≠ e) (hb : Blk e w c [.int .i64 (n : Int)]) (hn : n ≤ 900) :
    Cal Tryz.prog f_slices_medianAdjacentCmpFunc_impl_Frame #[v, .int .i64 (i : Int), .pointer (some ⟨c, 0, none⟩), cmpF] w fun r w' => ∃ t m : Nat, r = .int .i64 (t : Int) ∧ (t = i - 1 ∨ t = i ∨ t = i + 1) ∧ m ≤ n + 3 ∧ Blk e w' c [.int .i64 (m : Int)] ∧ Ch (fun d => d = c) w w' := by
  apply c_slices_medianAdjacentCmpFunc_impl_Frame; unfold S_slices_medianAdjacentCmpFunc_impl_Frame
  (refine iSub (by omega) ?_; refine iAdd (by omega) ?_)
  rw [show (i : Int) - 1 = ((i - 1 : Nat) : Int) by omega]
  refine iCall ?_
  exact ok_slices_medianCmpFunc_impl_Frame (i := i - 1) (j := i) (k := i + 1) hs hrw hne (by omega) (by omega) hi hte hb hn
theorem ok_slices_choosePivotCmpFunc_impl_Frame {lo : Nat} {w : World} {v : Value} {L : List PR} {a b : Nat} (hs : RowF lo t_impl_Frame w v L) (hrw : RowsF t_i64 w L) (hab : a + 8 ≤ b) (hb : b ≤ L.length) (hL : L.length ≤ 1152921504606846976) :
    Cal Tryz.prog f_slices_choosePivotCmpFunc_impl_Frame #[v, .int .i64 (a : Int), .int .i64 (b : Int), cmpF] w fun r w' => Ext w w' ∧ ∃ t : Nat, ∃ x : Int, r = .tuple #[.int .i64 (t : Int), .int .i64 x] ∧ a ≤ t ∧ t < b := by
  apply c_slices_choosePivotCmpFunc_impl_Frame; unfold S_slices_choosePivotCmpFunc_impl_Frame
  obtain ⟨n, rfl⟩ : ∃ n, b = a + n := ⟨b - a, by omega⟩
  refine iSub (by omega) ?_
  rw [show ((a + n : Nat) : Int) - a = (n : Int) by omega]
  refine iNew fun c w1 hc1 h1 hb1 => ?_
  have hne : v.ownBlock ≠ some c := hs.lt (by omega)
  have hs1 := hs.ext h1
  have hrw1 := hrw.ext h1
  have new : ∀ {w' : World}, Ch (fun d => d = c) w1 w' → Ext w w' := fun {w'} h => h1.thenCh h fun d e => by omega
  refine iQuo (by omega) ?_
  refine iMul (by omega) ?_
  refine iAdd (by omega) ?_
  refine iQuo (by omega) ?_
  refine iMul (by omega) ?_
  refine iAdd (by omega) ?_
  refine iQuo (by omega) ?_
  refine iMul (by omega) ?_
  refine iAdd (by omega) ?_
  refine iLe ?_
  rw [show (a : Int) + (n : Int) / 4 * 1 = ((a + n / 4 * 1 : Nat) : Int) by omega, show (a : Int) + (n : Int) / 4 * 2 = ((a + n / 4 * 2 : Nat) : Int) by omega, show (a : Int) + (n : Int) / 4 * 3 = ((a + n / 4 * 3 : Nat) : Int) by omega]
  refine iJnX (fun xs w' => ∃ t m : Nat, xs = [.int .i64 (t : Int)] ∧ a ≤ t ∧ t < a + n ∧ Blk 3 w' c [.int .i64 (m : Int)] ∧ Ch (fun d => d = c) w1 w') (fun J hJ => ?_) ?_
  · refine iCndP (fun h => ?_) (fun h => ?_)
    · refine iLe ?_
      refine iJnX (fun xs w' => ∃ i j k m : Nat, xs = [.int .i64 (i : Int), .int .i64 (j : Int), .int .i64 (k : Int)] ∧ a ≤ i ∧ i < a + n ∧ a ≤ j ∧ j < a + n ∧ a ≤ k ∧ k < a + n ∧ m ≤ 9 ∧ Blk 3 w' c [.int .i64 (m : Int)] ∧ Ch (fun d => d = c) w1 w') (fun J' hJ' => ?_) ?_
      · refine iCndP (fun h5 => ?_) (fun h5 => ?_)
        · refine iCall ?_
          refine (ok_slices_medianAdjacentCmpFunc_impl_Frame (n := 0) hs1 hrw1 hne (by omega) (by omega) hL (by decide) hb1 (by omega)).mono fun r w2 h2 => ?_
          obtain ⟨i, m1, rfl, hi, hm1, hb2, hc2⟩ := h2
          have hs2 := hs1.ch hc2 fun d hd e => hne (e ▸ hd)
          have hrw2 := hrw1.ch hb1 (by decide) hc2
          refine iCall ?_
          refine (ok_slices_medianAdjacentCmpFunc_impl_Frame hs2 hrw2 hne (by omega) (by omega) hL (by decide) hb2 (by omega)).mono fun r w3 h3 => ?_
          obtain ⟨j, m2, rfl, hj, hm2, hb3, hc3⟩ := h3
          have hs3 := hs2.ch hc3 fun d hd e => hne (e ▸ hd)
          have hrw3 := hrw2.ch hb2 (by decide) hc3
          refine iCall ?_
          refine (ok_slices_medianAdjacentCmpFunc_impl_Frame hs3 hrw3 hne (by omega) (by omega) hL (by decide) hb3 (by omega)).mono fun r w4 h4 => ?_
          obtain ⟨k, m3, rfl, hk, hm3, hb4, hc4⟩ := h4
          exact hJ' _ _ ⟨i, j, k, m3, rfl, by omega, by omega, by omega, by omega, by omega, by omega, by omega, hb4, ch_self (ch_self hc2 hc3) hc4⟩
        · exact hJ' _ _ ⟨_, _, _, 0, rfl, by omega, by omega, by omega, by omega, by omega, by omega, by omega, hb1, (Ext.refl _).ch⟩
      rintro xs w5 ⟨i, j, k, m, rfl, h11, h12, h21, h22, h31, h32, hm, hb5, hc5⟩
      intro _
      simp only [gx]
      have hs5 := hs1.ch hc5 fun d hd e => hne (e ▸ hd)
      have hrw5 := hrw1.ch hb1 (by decide) hc5
      refine iCall ?_
      refine (ok_slices_medianCmpFunc_impl_Frame hs5 hrw5 hne (i := i) (j := j) (k := k) (by omega) (by omega) (by omega) (by decide) hb5 (by omega)).mono fun r w6 h6 => ?_
      obtain ⟨t, m', rfl, ht, hm', hb6, hc6⟩ := h6
      exact hJ _ _ ⟨t, m', rfl, by omega, by omega, hb6, ch_self hc5 hc6⟩
    · omega
  rintro xs w3 ⟨t, m, rfl, ht1, ht2, hb3, hc3⟩
  intro _
  simp only [gx]
  (refine iLdB (by assumption) (by first | rfl | simp) ?_; (with_reducible refine iEq ?_))
  refine iCndP (fun h => ?_) (fun h => ?_)
  · exact ⟨new hc3, t, 1, rfl, ht1, ht2⟩
  · ((with_reducible refine iEq ?_))
    refine iCndP (fun h => ?_) (fun h => ?_)
    · exact ⟨new hc3, t, 2, rfl, ht1, ht2⟩
    · exact ⟨new hc3, t, 0, rfl, ht1, ht2⟩
theorem ok_slices_partitionEqualCmpFunc_impl_Frame {lo : Nat} {w : World} {v : Value} {L : List PR} {a b t : Nat} (hs : RowF lo t_impl_Frame w v L) (hrw : RowsF t_i64 w L) (hat : a ≤ t) (htb : t < b) (hb : b ≤ L.length) (hL : L.length ≤ 1152921504606846976) :
    Cal Tryz.prog f_slices_partitionEqualCmpFunc_impl_Frame #[v, .int .i64 (a : Int), .int .i64 (b : Int), .int .i64 (t : Int), cmpF] w fun r w' => ∃ L' : List PR, ∃ m : Nat, r = .int .i64 (m : Int) ∧ TurnF lo t_impl_Frame v w w' L' ∧ SwR a b L L' ∧ a < m ∧ m ≤ b ∧ (∀ k, a ≤ k → k < m → ltR (gt L t) (gt L' k) = false) := by
  apply c_slices_partitionEqualCmpFunc_impl_Frame; unfold S_slices_partitionEqualCmpFunc_impl_Frame
  refine iRdFr (j := t) hs rfl (by omega) ?_
  refine iRdFr (j := a) hs rfl (by omega) ?_
  refine iWrF (i := a) (j := t) hs rfl rfl (by omega) (by omega) fun w5 h5 => ?_
  have e0 : gt (sw L a t) a = gt L t := by rw [gt_sw (by omega) (by omega)]; split <;> simp_all
  (refine iAdd (by omega) ?_; refine iSub (by omega) ?_)
  refine iLp (fun s : Nat × Int => [.int .i64 (s.1 : Int), .int .i64 s.2]) (fun s w' => a + 1 ≤ s.1 ∧ s.1 ≤ b ∧ (s.1 : Int) - 1 ≤ s.2 + 1 ∧ s.2 < b ∧ ∃ L', TurnF lo t_impl_Frame v w w' L' ∧ SwR a b L L' ∧ gt L' a = gt L t ∧ ∀ k, a ≤ k → k < s.1 → ltR (gt L t) (gt L' k) = false) (fun s => b - s.1) (a + 1, (b : Int) - 1) rfl
    ⟨Nat.le_refl _, by show a + 1 ≤ b; omega, by show ((a + 1 : Nat) : Int) - 1 ≤ (b : Int) - 1 + 1; omega, by show (b : Int) - 1 < b; omega, sw L a t, h5, .one (Nat.le_refl _) (by omega) hat htb hb, e0, fun k h1 h2 => by have h2 : k < a + 1 := h2; rw [show k = a by omega, e0]; exact ordrR.rfl _⟩ ?_
  rintro ⟨i0, j0⟩ w7 Kn ⟨hi0, hib0, hij0, hjb0, L1, ht1, hw1, he1, hq1⟩ hKn
  have hi0 : a + 1 ≤ i0 := hi0
  have hib0 : i0 ≤ b := hib0
  have hij0 : (i0 : Int) - 1 ≤ j0 + 1 := hij0
  have hjb0 : j0 < b := hjb0
  have hq1 : ∀ k, a ≤ k → k < i0 → ltR (gt L t) (gt L1 k) = false := hq1
  have hl1 := hw1.len
  intro _
  simp only [gx]
  refine iLp (fun i : Nat => [.int .i64 (i : Int)]) (fun i w' => i0 ≤ i ∧ i ≤ b ∧ (i : Int) - 1 ≤ j0 + 1 ∧ Ext w7 w' ∧ ∀ k, a ≤ k → k < i → ltR (gt L t) (gt L1 k) = false) (fun i => b - i) i0 rfl ⟨Nat.le_refl _, hib0, hij0, Ext.refl _, hq1⟩ ?_
  rintro i w9 Kn9 ⟨hi, hib, hij, h9, hq⟩ hKn9
  intro _
  simp only [gx]
  have ht9 := ht1.ext h9
  refine iJnB (decide ((i : Int) ≤ j0) && !ltR (gt L1 a) (gt L1 i)) w9 (fun J hJ => ?_) (fun w11 h11 => ?_)
  · refine iLe ?_
    refine iCndP (fun h => ?_) (fun h => ?_)
    · rw [decide_eq_true h, Bool.true_and] at hJ
      refine iRdFr (j := a) ht9.ow rfl (by omega) ?_
      refine iRdFr (j := i) ht9.ow rfl (by omega) ?_
      exact iCmNF (hrw.turn hs (by decide) ht9 hw1.perm) (by omega) (by omega) hJ
    · rw [decide_eq_false h, Bool.false_and] at hJ
      exact fun _ x8 _ x9 => hJ _ (x8.trans x9)
  intro _
  simp only [gx]
  have h9' := h9.trans h11
  cases hc : decide ((i : Int) ≤ j0) && !ltR (gt L1 a) (gt L1 i)
  rotate_left
  · rw [Bool.and_eq_true, decide_eq_true_eq, Bool.not_eq_true'] at hc
    refine iCndT rfl ?_
    (refine iAdd (by omega) ?_)
    refine hKn9 (i + 1) _ ⟨by omega, by omega, by omega, h9', fun k h1 h2 => ?_⟩ (by omega)
    by_cases hk : k = i
    · rw [hk, ← he1]; exact hc.2
    · exact hq k h1 (by omega)
  refine iCndF rfl ?_
  refine iLp (fun j : Int => [.int .i64 j]) (fun j w' => j ≤ j0 ∧ (i : Int) - 1 ≤ j + 1 ∧ Ext w7 w' ∧ (j < j0 → (i : Int) - 1 ≤ j)) (fun j => (j + 2).toNat) j0 rfl ⟨Int.le_refl _, hij, h9', fun h => by omega⟩ ?_
  rintro j w15 Kn15 ⟨hjj, hij2, h15, hij3⟩ hKn15
  intro _
  simp only [gx]
  have ht15 := ht1.ext h15
  refine iJnB (decide ((i : Int) ≤ j) && ltR (gt L1 a) (gt L1 j.toNat)) w15 (fun J hJ => ?_) (fun w17 h17 => ?_)
  · refine iLe ?_
    refine iCndP (fun h => ?_) (fun h => ?_)
    · rw [decide_eq_true h, Bool.true_and] at hJ
      refine iRdFr (j := a) ht15.ow rfl (by omega) ?_
      refine iRdFr (j := j.toNat) ht15.ow (by omega) (by omega) ?_
      exact iCmF (hrw.turn hs (by decide) ht15 hw1.perm) (by omega) (by omega) hJ
    · rw [decide_eq_false h, Bool.false_and] at hJ
      exact fun _ x8 _ x9 => hJ _ (x8.trans x9)
  intro _
  simp only [gx]
  have ht17 := ht15.ext h17
  cases hc2 : decide ((i : Int) ≤ j) && ltR (gt L1 a) (gt L1 j.toNat)
  rotate_left
  · rw [Bool.and_eq_true, decide_eq_true_eq] at hc2
    refine iCndT rfl ?_
    refine iSub (by omega) ?_
    exact hKn15 (j - 1) _ ⟨by omega, by omega, h15.trans h17, fun _ => by omega⟩ (by omega)
  refine iCndF rfl ?_
  refine iLt ?_
  refine iCndP (fun h => ?_) (fun h => ?_)
  · exact ⟨L1, i, rfl, ht17, hw1, by omega, hib, hq⟩
  · have hlt : ltR (gt L1 a) (gt L1 j.toNat) = false := by
      rw [decide_eq_true (show (i : Int) ≤ j by omega), Bool.true_and] at hc2; exact hc2
    refine iRdFr (j := j.toNat) ht17.ow (by omega) (by omega) ?_
    refine iRdFr (j := i) ht17.ow rfl (by omega) ?_
    refine iWrF (i := i) (j := j.toNat) ht17.ow rfl (by omega) (by omega) (by omega) fun w24 h24 => ?_
    refine iAdd (by omega) ?_
    refine iSub (by omega) ?_
    have eS : ∀ k, gt (sw L1 i j.toNat) k = if k = j.toNat then gt L1 i else if k = i then gt L1 j.toNat else gt L1 k := gt_sw (by omega) (by omega)
    refine hKn (i + 1, j - 1) _ ⟨by show a + 1 ≤ i + 1; omega, by show i + 1 ≤ b; omega, by show ((i + 1 : Nat) : Int) - 1 ≤ j - 1 + 1; omega, by show j - 1 < b; omega, sw L1 i j.toNat, ht17.trans h24, .step hw1 (by omega) (by omega) (by omega) (by omega) hb, by rw [eS, if_neg (by omega), if_neg (by omega)]; exact he1, fun k h1 h2 => ?_⟩ (by show b - (i + 1) < b - i0; omega)
    have h2 : k < i + 1 := h2
    rw [eS]
    by_cases hk : k = i
    · subst hk
      split
      · rename_i hkj; rw [← hkj, he1] at hlt; exact hlt
      · rw [if_pos rfl, ← he1]; exact hlt
    · rw [if_neg (by omega), if_neg hk]; exact hq k h1 (by omega)
end Go.Proofs.YtikfhibcdhdglaaGreat

/- Contracts: partition, the trial of insertion and pdqsort itself, on strings. Conditions: none. -/
namespace Go.Proofs.YtikfhibcdhdglaaGreat
open Go.Vc
theorem part_endF {L : List PR} {a b j : Nat} {pv : PR} (haj : a ≤ j) (hjb : j < b) (hb : b ≤ L.length) (he : gt L a = pv) (h1 : ∀ k, a + 1 ≤ k → k ≤ j → ltR (gt L k) pv = true) (h2 : ∀ k, j < k → k < b → ltR (gt L k) pv = false) : Parted ltR a b j (sw L j a) := by
  have e : ∀ k, gt (sw L j a) k = if k = a then gt L j else if k = j then gt L a else gt L k := gt_sw (by omega) (by omega)
  have ej : gt (sw L j a) j = pv := by
    rw [e]
    split
    · rename_i h; rw [h]; exact he
    · rw [if_pos rfl]; exact he
  refine ⟨fun k hk hk' => ?_, fun k hk hk' => ?_⟩
  · rw [ej, e]
    by_cases hka : k = a
    · rw [if_pos hka]; exact h1 j (by omega) (Nat.le_refl _)
    · rw [if_neg hka, if_neg (by omega)]; exact h1 k (by omega) (by omega)
  · rw [ej, e, if_neg (by omega), if_neg (by omega)]; exact h2 k hk hk'
theorem ok_slices_partitionCmpFunc_impl_Frame {lo : Nat} {w : World} {v : Value} {L : List PR} {a b t : Nat} (hs : RowF lo t_impl_Frame w v L) (hrw : RowsF t_i64 w L) (hat : a ≤ t) (htb : t < b) (hb : b ≤ L.length) (hL : L.length ≤ 1152921504606846976) :
    Cal Tryz.prog f_slices_partitionCmpFunc_impl_Frame #[v, .int .i64 (a : Int), .int .i64 (b : Int), .int .i64 (t : Int), cmpF] w fun r w' => ∃ L' : List PR, ∃ m : Nat, ∃ y : Bool, r = .tuple #[.int .i64 (m : Int), .bool y] ∧ TurnF lo t_impl_Frame v w w' L' ∧ SwR a b L L' ∧ a ≤ m ∧ m < b ∧ Parted ltR a b m L' := by
  apply c_slices_partitionCmpFunc_impl_Frame; unfold S_slices_partitionCmpFunc_impl_Frame
  refine iRdFr (j := t) hs rfl (by omega) ?_
  refine iRdFr (j := a) hs rfl (by omega) ?_
  refine iWrF (i := a) (j := t) hs rfl rfl (by omega) (by omega) fun w7 h5 => ?_
  have h5 : TurnF lo t_impl_Frame v w w7 (sw L a t) := h5
  have e0 : gt (sw L a t) a = gt L t := by rw [gt_sw (by omega) (by omega)]; split <;> simp_all
  have hw0 : SwR a b L (sw L a t) := .one (Nat.le_refl _) (by omega) hat htb hb
  have hl0 := hw0.len
  generalize sw L a t = L0 at h5 e0 hw0 hl0
  (refine iAdd (by omega) ?_; refine iSub (by omega) ?_)
  obtain ⟨i0, hi0⟩ : ∃ i0, i0 = a + 1 := ⟨_, rfl⟩
  obtain ⟨j0, hj0⟩ : ∃ j0 : Int, j0 = (b : Int) - 1 := ⟨_, rfl⟩
  rw [show (a : Int) + 1 = (i0 : Int) by omega, ← hj0]
  refine iLp (fun i : Nat => [.int .i64 (i : Int)]) (fun i w' => i0 ≤ i ∧ (i : Int) ≤ j0 + 1 ∧ Ext w7 w' ∧ ∀ k, a + 1 ≤ k → k < i → ltR (gt L0 k) (gt L t) = true) (fun i => b - i) i0 rfl ⟨Nat.le_refl _, by omega, Ext.refl _, fun k h1 h2 => by omega⟩ ?_
  rintro i w9 Kn9 ⟨hi, hij, h9, hq⟩ hKn9
  intro _
  simp only [gx]
  have ht9 := h5.ext h9
  refine iJnB (decide ((i : Int) ≤ j0) && ltR (gt L0 i) (gt L0 a)) w9 (fun J hJ => ?_) (fun w11 h11 => ?_)
  · refine iLe ?_
    refine iCndP (fun h => ?_) (fun h => ?_)
    · rw [decide_eq_true h, Bool.true_and] at hJ
      refine iRdFr (j := i) ht9.ow rfl (by omega) ?_
      refine iRdFr (j := a) ht9.ow rfl (by omega) ?_
      exact iCmF (hrw.turn hs (by decide) ht9 hw0.perm) (by omega) (by omega) hJ
    · rw [decide_eq_false h, Bool.false_and] at hJ
      exact fun _ x8 _ x9 => hJ _ (x8.trans x9)
  intro _
  simp only [gx]
  have h9' := h9.trans h11
  cases hc : decide ((i : Int) ≤ j0) && ltR (gt L0 i) (gt L0 a)
  rotate_left
  · rw [Bool.and_eq_true, decide_eq_true_eq] at hc
    refine iCndT rfl ?_
    (refine iAdd (by omega) ?_)
    refine hKn9 (i + 1) _ ⟨by omega, by omega, h9', fun k h1 h2 => ?_⟩ (by omega)
    by_cases hk : k = i
    · rw [hk, ← e0]; exact hc.2
    · exact hq k h1 (by omega)
  refine iCndF rfl ?_
  refine iLp (fun j : Int => [.int .i64 j]) (fun j w' => j ≤ j0 ∧ (i : Int) ≤ j + 1 ∧ Ext w7 w' ∧ ∀ k : Nat, j < k → k < b → ltR (gt L0 k) (gt L t) = false) (fun j => (j + 2).toNat) j0 rfl ⟨Int.le_refl _, hij, h9', fun k h1 h2 => by omega⟩ ?_
  rintro j w15 Kn15 ⟨hjj, hij2, h15, hq2⟩ hKn15
  intro _
  simp only [gx]
  have ht15 := h5.ext h15
  refine iJnB (decide ((i : Int) ≤ j) && !ltR (gt L0 j.toNat) (gt L0 a)) w15 (fun J hJ => ?_) (fun w17 h17 => ?_)
  · refine iLe ?_
    refine iCndP (fun h => ?_) (fun h => ?_)
    · rw [decide_eq_true h, Bool.true_and] at hJ
      refine iRdFr (j := j.toNat) ht15.ow (by omega) (by omega) ?_
      refine iRdFr (j := a) ht15.ow rfl (by omega) ?_
      exact iCmNF (hrw.turn hs (by decide) ht15 hw0.perm) (by omega) (by omega) hJ
    · rw [decide_eq_false h, Bool.false_and] at hJ
      exact fun _ x8 _ x9 => hJ _ (x8.trans x9)
  intro _
  simp only [gx]
  have ht17 := ht15.ext h17
  cases hc2 : decide ((i : Int) ≤ j) && !ltR (gt L0 j.toNat) (gt L0 a)
  rotate_left
  · rw [Bool.and_eq_true, decide_eq_true_eq, Bool.not_eq_true'] at hc2
    refine iCndT rfl ?_
    refine iSub (by omega) ?_
    refine hKn15 (j - 1) _ ⟨by omega, by omega, h15.trans h17, fun k h1 h2 => ?_⟩ (by omega)
    by_cases hk : (k : Int) = j
    · rw [show k = j.toNat by omega, ← e0]; exact hc2.2
    · exact hq2 k (by omega) h2
  refine iCndF rfl ?_
  refine iLt ?_
  refine iCndP (fun h => ?_) (fun h => ?_)
  · refine iRdFr (j := a) ht17.ow rfl (by omega) ?_
    refine iRdFr (j := j.toNat) ht17.ow (by omega) (by omega) ?_
    refine iWrF (i := j.toNat) (j := a) ht17.ow (by omega) rfl (by omega) (by omega) fun w22 h22 => ?_
    exact ⟨sw L0 j.toNat a, j.toNat, true, by rw [Int.toNat_of_nonneg (by omega)], ht17.trans h22, .step hw0 (by omega) (by omega) (Nat.le_refl _) (by omega) hb, by omega, by omega, part_endF (by omega) (by omega) (by omega) e0 (fun k h1 h2 => hq k h1 (by omega)) (fun k h1 h2 => hq2 k (by omega) h2)⟩
  have hlt1 : ltR (gt L0 i) (gt L t) = false := by
    rw [decide_eq_true (show (i : Int) ≤ j0 by omega), Bool.true_and, e0] at hc; exact hc
  have hlt2 : ltR (gt L0 j.toNat) (gt L t) = true := by
    rw [decide_eq_true (show (i : Int) ≤ j by omega), Bool.true_and, Bool.not_eq_false', e0] at hc2; exact hc2
  have hne : i ≠ j.toNat := fun e => by rw [e, hlt2] at hlt1; cases hlt1
  refine iRdFr (j := j.toNat) ht17.ow (by omega) (by omega) ?_
  refine iRdFr (j := i) ht17.ow rfl (by omega) ?_
  refine iWrF (i := i) (j := j.toNat) ht17.ow rfl (by omega) (by omega) (by omega) fun w24 h24 => ?_
  refine iAdd (by omega) ?_
  refine iSub (by omega) ?_
  have eS : ∀ k, gt (sw L0 i j.toNat) k = if k = j.toNat then gt L0 i else if k = i then gt L0 j.toNat else gt L0 k := gt_sw (by omega) (by omega)
  have nx1 : ∀ k, a + 1 ≤ k → k < i + 1 → ltR (gt (sw L0 i j.toNat) k) (gt L t) = true := fun k h1 h2 => by
    rw [eS, if_neg (by omega)]
    by_cases hk : k = i
    · rw [if_pos hk]; exact hlt2
    · rw [if_neg hk]; exact hq k h1 (by omega)
  have nx2 : ∀ k : Nat, j - 1 < k → k < b → ltR (gt (sw L0 i j.toNat) k) (gt L t) = false := fun k h1 h2 => by
    rw [eS]
    by_cases hk : k = j.toNat
    · rw [if_pos hk]; exact hlt1
    · rw [if_neg hk, if_neg (by omega)]; exact hq2 k (by omega) h2
  have nxe : gt (sw L0 i j.toNat) a = gt L t := by rw [eS, if_neg (by omega), if_neg (by omega)]; exact e0
  refine iLp (fun s : Nat × Int => [.int .i64 (s.1 : Int), .int .i64 s.2]) (fun s w' => a + 1 ≤ s.1 ∧ (s.1 : Int) ≤ s.2 + 1 ∧ s.2 < b ∧ ∃ L', TurnF lo t_impl_Frame v w w' L' ∧ SwR a b L L' ∧ gt L' a = gt L t ∧ (∀ k, a + 1 ≤ k → k < s.1 → ltR (gt L' k) (gt L t) = true) ∧ ∀ k : Nat, s.2 < k → k < b → ltR (gt L' k) (gt L t) = false) (fun s => b - s.1) (i + 1, j - 1) rfl
    ⟨by show a + 1 ≤ i + 1; omega, by show ((i + 1 : Nat) : Int) ≤ j - 1 + 1; omega, by show j - 1 < b; omega, sw L0 i j.toNat, ht17.trans h24, .step hw0 (by omega) (by omega) (by omega) (by omega) hb, nxe, nx1, nx2⟩ ?_
  clear hKn9 hKn15 nxe nx1 nx2 eS hq hq2
  rintro ⟨i1, j1⟩ w29 Kn ⟨hi1, hij1, hjb1, L1, ht1, hw1, he1, hq1, hq21⟩ hKn
  have hi1 : a + 1 ≤ i1 := hi1
  have hij1 : (i1 : Int) ≤ j1 + 1 := hij1
  have hjb1 : j1 < b := hjb1
  have hl1 := hw1.len
  intro _
  simp only [gx]
  refine iLp (fun i : Nat => [.int .i64 (i : Int)]) (fun i w' => i1 ≤ i ∧ (i : Int) ≤ j1 + 1 ∧ Ext w29 w' ∧ ∀ k, a + 1 ≤ k → k < i → ltR (gt L1 k) (gt L t) = true) (fun i => b - i) i1 rfl ⟨Nat.le_refl _, by omega, Ext.refl _, hq1⟩ ?_
  rintro i w9 Kn9 ⟨hi, hij, h9, hq⟩ hKn9
  intro _
  simp only [gx]
  have ht9 := ht1.ext h9
  refine iJnB (decide ((i : Int) ≤ j1) && ltR (gt L1 i) (gt L1 a)) w9 (fun J hJ => ?_) (fun w11 h11 => ?_)
  · refine iLe ?_
    refine iCndP (fun h => ?_) (fun h => ?_)
    · rw [decide_eq_true h, Bool.true_and] at hJ
      refine iRdFr (j := i) ht9.ow rfl (by omega) ?_
      refine iRdFr (j := a) ht9.ow rfl (by omega) ?_
      exact iCmF (hrw.turn hs (by decide) ht9 hw1.perm) (by omega) (by omega) hJ
    · rw [decide_eq_false h, Bool.false_and] at hJ
      exact fun _ x8 _ x9 => hJ _ (x8.trans x9)
  intro _
  simp only [gx]
  have h9' := h9.trans h11
  cases hc : decide ((i : Int) ≤ j1) && ltR (gt L1 i) (gt L1 a)
  rotate_left
  · rw [Bool.and_eq_true, decide_eq_true_eq] at hc
    refine iCndT rfl ?_
    (refine iAdd (by omega) ?_)
    refine hKn9 (i + 1) _ ⟨by omega, by omega, h9', fun k h1 h2 => ?_⟩ (by omega)
    by_cases hk : k = i
    · rw [hk, ← he1]; exact hc.2
    · exact hq k h1 (by omega)
  refine iCndF rfl ?_
  refine iLp (fun j : Int => [.int .i64 j]) (fun j w' => j ≤ j1 ∧ (i : Int) ≤ j + 1 ∧ Ext w29 w' ∧ ∀ k : Nat, j < k → k < b → ltR (gt L1 k) (gt L t) = false) (fun j => (j + 2).toNat) j1 rfl ⟨Int.le_refl _, hij, h9', hq21⟩ ?_
  rintro j w15 Kn15 ⟨hjj, hij2, h15, hq2⟩ hKn15
  intro _
  simp only [gx]
  have ht15 := ht1.ext h15
  refine iJnB (decide ((i : Int) ≤ j) && !ltR (gt L1 j.toNat) (gt L1 a)) w15 (fun J hJ => ?_) (fun w17 h17 => ?_)
  · refine iLe ?_
    refine iCndP (fun h => ?_) (fun h => ?_)
    · rw [decide_eq_true h, Bool.true_and] at hJ
      refine iRdFr (j := j.toNat) ht15.ow (by omega) (by omega) ?_
      refine iRdFr (j := a) ht15.ow rfl (by omega) ?_
      exact iCmNF (hrw.turn hs (by decide) ht15 hw1.perm) (by omega) (by omega) hJ
    · rw [decide_eq_false h, Bool.false_and] at hJ
      exact fun _ x8 _ x9 => hJ _ (x8.trans x9)
  intro _
  simp only [gx]
  have ht17 := ht15.ext h17
  cases hc2 : decide ((i : Int) ≤ j) && !ltR (gt L1 j.toNat) (gt L1 a)
  rotate_left
  · rw [Bool.and_eq_true, decide_eq_true_eq, Bool.not_eq_true'] at hc2
    refine iCndT rfl ?_
    refine iSub (by omega) ?_
    refine hKn15 (j - 1) _ ⟨by omega, by omega, h15.trans h17, fun k h1 h2 => ?_⟩ (by omega)
    by_cases hk : (k : Int) = j
    · rw [show k = j.toNat by omega, ← he1]; exact hc2.2
    · exact hq2 k (by omega) h2
  refine iCndF rfl ?_
  refine iLt ?_
  refine iCndP (fun h => ?_) (fun h => ?_)
  · refine iRdFr (j := a) ht17.ow rfl (by omega) ?_
    refine iRdFr (j := j.toNat) ht17.ow (by omega) (by omega) ?_
    refine iWrF (i := j.toNat) (j := a) ht17.ow (by omega) rfl (by omega) (by omega) fun w22 h22 => ?_
    exact ⟨sw L1 j.toNat a, j.toNat, false, by rw [Int.toNat_of_nonneg (by omega)], ht17.trans h22, .step hw1 (by omega) (by omega) (Nat.le_refl _) (by omega) hb, by omega, by omega, part_endF (by omega) (by omega) (by omega) he1 (fun k h1 h2 => hq k h1 (by omega)) (fun k h1 h2 => hq2 k (by omega) h2)⟩
  have hlt1 : ltR (gt L1 i) (gt L t) = false := by
    rw [decide_eq_true (show (i : Int) ≤ j1 by omega), Bool.true_and, he1] at hc; exact hc
  have hlt2 : ltR (gt L1 j.toNat) (gt L t) = true := by
    rw [decide_eq_true (show (i : Int) ≤ j by omega), Bool.true_and, Bool.not_eq_false', he1] at hc2; exact hc2
  have hne : i ≠ j.toNat := fun e => by rw [e, hlt2] at hlt1; cases hlt1
  refine iRdFr (j := j.toNat) ht17.ow (by omega) (by omega) ?_
  refine iRdFr (j := i) ht17.ow rfl (by omega) ?_
  refine iWrF (i := i) (j := j.toNat) ht17.ow rfl (by omega) (by omega) (by omega) fun w24 h24 => ?_
  refine iAdd (by omega) ?_
  refine iSub (by omega) ?_
  have eS : ∀ k, gt (sw L1 i j.toNat) k = if k = j.toNat then gt L1 i else if k = i then gt L1 j.toNat else gt L1 k := gt_sw (by omega) (by omega)
  have nx1 : ∀ k, a + 1 ≤ k → k < i + 1 → ltR (gt (sw L1 i j.toNat) k) (gt L t) = true := fun k h1 h2 => by
    rw [eS, if_neg (by omega)]
    by_cases hk : k = i
    · rw [if_pos hk]; exact hlt2
    · rw [if_neg hk]; exact hq k h1 (by omega)
  have nx2 : ∀ k : Nat, j - 1 < k → k < b → ltR (gt (sw L1 i j.toNat) k) (gt L t) = false := fun k h1 h2 => by
    rw [eS]
    by_cases hk : k = j.toNat
    · rw [if_pos hk]; exact hlt1
    · rw [if_neg hk, if_neg (by omega)]; exact hq2 k (by omega) h2
  have nxe : gt (sw L1 i j.toNat) a = gt L t := by rw [eS, if_neg (by omega), if_neg (by omega)]; exact he1
  exact hKn (i + 1, j - 1) _ ⟨by show a + 1 ≤ i + 1; omega, by show ((i + 1 : Nat) : Int) ≤ j - 1 + 1; omega, by show j - 1 < b; omega, sw L1 i j.toNat, ht17.trans h24, .step hw1 (by omega) (by omega) (by omega) (by omega) hb, nxe, nx1, nx2⟩ (by show b - (i + 1) < b - i1; omega)
theorem ok_slices_partialInsertionSortCmpFunc_impl_Frame {lo : Nat} {w : World} {v : Value} {L : List PR} {a b : Nat} (hs : RowF lo t_impl_Frame w v L) (hrw : RowsF t_i64 w L) (hab : a < b) (hb : b ≤ L.length) (hL : L.length ≤ 1152921504606846976) (hbl : Blw ltR a b L) :
    Cal Tryz.prog f_slices_partialInsertionSortCmpFunc_impl_Frame #[v, .int .i64 (a : Int), .int .i64 (b : Int), cmpF] w fun r w' => ∃ y : Bool, ∃ L' : List PR, r = .bool y ∧ TurnF lo t_impl_Frame v w w' L' ∧ SwR a b L L' ∧ (y = true → Srt ltR a b L') := by
  apply c_slices_partialInsertionSortCmpFunc_impl_Frame; unfold S_slices_partialInsertionSortCmpFunc_impl_Frame
  (refine iAdd (by omega) ?_)
  refine iLp (fun s : Nat × Nat => [.int .i64 (s.1 : Int), .int .i64 (s.2 : Int)]) (fun s w' => a + 1 ≤ s.1 ∧ s.1 ≤ b ∧ s.2 ≤ 5 ∧ ∃ L', TurnF lo t_impl_Frame v w w' L' ∧ SwR a b L L' ∧ Srt ltR a s.1 L') (fun s => 5 - s.2) (a + 1, 0) rfl ⟨Nat.le_refl _, by show a + 1 ≤ b; omega, Nat.zero_le _, L, TurnF.refl hs, .refl, Srt.short (Nat.le_refl _)⟩ ?_
  rintro ⟨i0, r⟩ w2 Kn ⟨hi0, hib0, hr, L1, ht1, hw1, hs1⟩ hKn
  have hi0 : a + 1 ≤ i0 := hi0
  have hib0 : i0 ≤ b := hib0
  have hr : r ≤ 5 := hr
  have hs1 : Srt ltR a i0 L1 := hs1
  have hl1 := hw1.len
  intro _
  simp only [gx]
  refine iLt ?_
  refine iCndP (fun h5 => ?_) (fun h5 => ?_)
  rotate_left
  · exact ⟨false, L1, rfl, ht1, hw1, fun h => by cases h⟩
  refine iLp (fun i : Nat => [.int .i64 (i : Int)]) (fun i w' => i0 ≤ i ∧ i ≤ b ∧ Ext w2 w' ∧ Srt ltR a i L1) (fun i => b - i) i0 rfl ⟨Nat.le_refl _, hib0, Ext.refl _, hs1⟩ ?_
  rintro i w4 Kn4 ⟨hi, hib, h4, hsi⟩ hKn4
  intro _
  simp only [gx]
  have ht4 := ht1.ext h4
  refine iJnB (decide (i < b) && !ltR (gt L1 i) (gt L1 (i - 1))) w4 (fun J hJ => ?_) (fun w6 h6 => ?_)
  · refine iLt ?_
    refine iCndP (fun h => ?_) (fun h => ?_)
    · rw [decide_eq_true (show i < b by omega), Bool.true_and] at hJ
      refine iRdFr (j := i) ht4.ow rfl (by omega) ?_
      refine iSub (by omega) ?_
      refine iRdFr (j := i - 1) ht4.ow (by omega) (by omega) ?_
      exact iCmNF (hrw.turn hs (by decide) ht4 hw1.perm) (by omega) (by omega) hJ
    · rw [decide_eq_false (show ¬ i < b by omega), Bool.false_and] at hJ
      exact fun _ x8 _ x9 => hJ _ (x8.trans x9)
  intro _
  simp only [gx]
  have ht6 := ht4.ext h6
  cases hc : decide (i < b) && !ltR (gt L1 i) (gt L1 (i - 1))
  rotate_left
  · rw [Bool.and_eq_true, decide_eq_true_eq, Bool.not_eq_true'] at hc
    refine iCndT rfl ?_
    refine iAdd (by omega) ?_
    refine hKn4 (i + 1) _ ⟨by omega, by omega, h4.trans h6, fun p q g1 g2 g3 => ?_⟩ (by omega)
    by_cases hq : q = i
    · subst hq
      by_cases hp : p = q - 1
      · rw [hp]; exact hc.2
      · exact ordrR.tr (hsi p (q - 1) g1 (by omega) (by omega)) hc.2
    · exact hsi p q g1 g2 (by omega)
  refine iCndF rfl ?_
  refine iEq ?_
  refine iCndP (fun h => ?_) (fun h => ?_)
  · have : i = b := by omega
    subst this
    exact ⟨true, L1, rfl, ht6, hw1, fun _ => hsi⟩
  have hlt : ltR (gt L1 i) (gt L1 (i - 1)) = true := by
    rw [decide_eq_true (show i < b by omega), Bool.true_and, Bool.not_eq_false'] at hc; exact hc
  refine iSub (by omega) ?_
  refine iLt ?_
  refine iCndP (fun h7 => ?_) (fun h7 => ?_)
  · exact ⟨false, L1, rfl, ht6, hw1, fun h => by cases h⟩
  refine iSub (by omega) ?_
  refine iSub (by omega) ?_
  refine iRdFr (j := i - 1) ht6.ow (by omega) (by omega) ?_
  refine iRdFr (j := i) ht6.ow rfl (by omega) ?_
  refine iWrF (i := i) (j := i - 1) ht6.ow rfl (by omega) (by omega) (by omega) fun w13 h13 => ?_
  have h13 : TurnF lo t_impl_Frame v w6 w13 (sw L1 i (i - 1)) := h13
  have hw2 : SwR a b L1 (sw L1 i (i - 1)) := .one (by omega) (by omega) (by omega) (by omega) (by omega)
  have hs2 : Srt ltR a (i - 1) (sw L1 i (i - 1)) := (hsi.mono (Nat.le_refl _) (by omega)).out (SwR.one (a := i - 1) (b := b) (by omega) (by omega) (by omega) (by omega) (by omega)) (.inr (Nat.le_refl _))
  have ht13 := ht6.trans h13
  have hw13 := hw1.trans hw2
  generalize sw L1 i (i - 1) = L2 at h13 hw2 hs2 ht13 hw13
  have hl2 := hw13.len
  have hbl2 : Blw ltR a b L2 := hbl.keep hw13 (Nat.le_refl _) (Nat.le_refl _)
  refine iSub (by omega) ?_
  refine iLe ?_
  refine iJnX (fun _ w' => ∃ L', TurnF lo t_impl_Frame v w w' L' ∧ SwR a b L L' ∧ Srt ltR a i L') (fun J hJ => ?_) ?_
  · refine iCndP (fun h8 => ?_) (fun h8 => ?_)
    · refine iSub (by omega) ?_
      refine iLp (fun j : Nat => [.int .i64 (j : Int)]) (fun j w' => a ≤ j ∧ j ≤ i - 1 ∧ ∃ L', TurnF lo t_impl_Frame v w w' L' ∧ SwR a b L L' ∧ Blw ltR a b L' ∧ Ins ltR a (i - 1) j L') (fun j => j) (i - 1) (by congr 2; omega) ⟨by omega, Nat.le_refl _, L2, ht13, hw13, hbl2, Ins.init hs2⟩ ?_
      rintro j w17 Kn17 ⟨haj, hji, L3, ht3, hw3, hbl3, hin⟩ hKn17
      have hl3 := hw3.len
      intro _
      simp only [gx]
      refine iLe ?_
      refine iCndP (fun h9 => ?_) (fun h9 => ?_)
      · refine iRdFr (j := j) ht3.ow rfl (by omega) ?_
        refine iSub (by omega) ?_
        refine iRdFr (j := j - 1) ht3.ow (by omega) (by omega) ?_
        refine iCmNF (hrw.turn hs (by decide) ht3 hw3.perm) (by omega) (by omega) fun w18 h18 => ?_
        have ht18 := ht3.ext h18
        refine iCnd (fun h10 => ?_) (fun h10 => ?_)
        · have h10 : ltR (gt L3 j) (gt L3 (j - 1)) = false := by simpa using h10
          refine hJ _ _ ⟨L3, ht18, hw3, ?_⟩
          have := hin.done ordrR (by rcases Nat.lt_or_ge a j with h' | h'; exact .inr ⟨h', h10⟩; exact .inl h') hji
          rwa [show i - 1 + 1 = i by omega] at this
        · have h10 : ltR (gt L3 j) (gt L3 (j - 1)) = true := by simpa using h10
          have haj' : a < j := by
            rcases Nat.lt_or_ge a j with h' | h'
            · exact h'
            · have e : j = a := by omega
              subst e
              have := hbl3 j (Nat.le_refl _) (by omega) (by omega)
              rw [h10] at this; cases this
          refine iSub (by omega) ?_
          refine iSub (by omega) ?_
          refine iRdFr (j := j - 1) ht18.ow (by omega) (by omega) ?_
          refine iRdFr (j := j) ht18.ow rfl (by omega) ?_
          refine iWrF (i := j) (j := j - 1) ht18.ow rfl (by omega) (by omega) (by omega) fun w23 h23 => ?_
          refine iSub (by omega) ?_
          rw [show (j : Int) - 1 = ((j - 1 : Nat) : Int) by omega]
          have hw4 : SwR a b L3 (sw L3 j (j - 1)) := .one (by omega) (by omega) (by omega) (by omega) (by omega)
          exact hKn17 (j - 1) _ ⟨by omega, by omega, sw L3 j (j - 1), ht18.trans h23, hw3.trans hw4, hbl3.keep hw4 (Nat.le_refl _) (Nat.le_refl _), hin.swap ordrR haj' hji (by omega) h10⟩ (by omega)
      · refine hJ _ _ ⟨L3, ht3, hw3, ?_⟩
        have := hin.done ordrR (.inl (by omega)) hji
        rwa [show i - 1 + 1 = i by omega] at this
    · exact hJ _ _ ⟨L2, ht13, hw13, Srt.short (by omega)⟩
  rintro xs w15 ⟨L3, ht3, hw3, hs3⟩
  have hl3 := hw3.len
  intro _
  refine iSub (by omega) ?_
  refine iLe ?_
  refine iCndP (fun h8 => ?_) (fun h8 => ?_)
  · refine iAdd (by omega) ?_
    refine iLp (fun j : Nat => [.int .i64 (j : Int)]) (fun j w' => i + 1 ≤ j ∧ j ≤ b ∧ ∃ L', TurnF lo t_impl_Frame v w w' L' ∧ SwR a b L L' ∧ Srt ltR a i L') (fun j => b - j) (i + 1) rfl ⟨Nat.le_refl _, by omega, L3, ht3, hw3, hs3⟩ ?_
    rintro j w25 Kn25 ⟨hij, hjb, L4, ht4, hw4, hs4⟩ hKn25
    have hl4 := hw4.len
    intro _
    simp only [gx]
    refine iLt ?_
    refine iCndP (fun h9 => ?_) (fun h9 => ?_)
    · refine iRdFr (j := j) ht4.ow rfl (by omega) ?_
      refine iSub (by omega) ?_
      refine iRdFr (j := j - 1) ht4.ow (by omega) (by omega) ?_
      refine iCmNF (hrw.turn hs (by decide) ht4 hw4.perm) (by omega) (by omega) fun w26 h26 => ?_
      have ht26 := ht4.ext h26
      refine iCnd (fun h10 => ?_) (fun h10 => ?_)
      · refine iAdd (by omega) ?_
        exact hKn (i, r + 1) _ ⟨by show a + 1 ≤ i; omega, hib, by show r + 1 ≤ 5; omega, L4, ht26, hw4, hs4⟩ (by show 5 - (r + 1) < 5 - r; omega)
      · refine iSub (by omega) ?_
        refine iSub (by omega) ?_
        refine iRdFr (j := j - 1) ht26.ow (by omega) (by omega) ?_
        refine iRdFr (j := j) ht26.ow rfl (by omega) ?_
        refine iWrF (i := j) (j := j - 1) ht26.ow rfl (by omega) (by omega) (by omega) fun w31 h31 => ?_
        refine iAdd (by omega) ?_
        exact hKn25 (j + 1) _ ⟨by omega, by omega, sw L4 j (j - 1), ht26.trans h31, .step hw4 (by omega) (by omega) (by omega) (by omega) hb, hs4.out (SwR.one (a := i) (b := b) (by omega) (by omega) (by omega) (by omega) (by omega)) (.inr (Nat.le_refl _))⟩ (by omega)
    · refine iAdd (by omega) ?_
      exact hKn (i, r + 1) _ ⟨by show a + 1 ≤ i; omega, hib, by show r + 1 ≤ 5; omega, L4, ht4, hw4, hs4⟩ (by show 5 - (r + 1) < 5 - r; omega)
  · refine iAdd (by omega) ?_
    exact hKn (i, r + 1) _ ⟨by show a + 1 ≤ i; omega, hib, by show r + 1 ≤ 5; omega, L3, ht3, hw3, hs3⟩ (by show 5 - (r + 1) < 5 - r; omega)
theorem ok_slices_pdqsortCmpFunc_impl_Frame {lo : Nat} {v : Value} : ∀ (n : Nat) {w : World} {L : List PR} {a b : Nat} {lim : Int}, b - a ≤ n → RowF lo t_impl_Frame w v L → RowsF t_i64 w L → a ≤ b → b ≤ L.length → L.length ≤ 1152921504606846976 → Blw ltR a b L → 0 ≤ lim ∧ lim ≤ 64 →
    Cal Tryz.prog f_slices_pdqsortCmpFunc_impl_Frame #[v, .int .i64 (a : Int), .int .i64 (b : Int), .int .i64 lim, cmpF] w fun _ w' => ∃ L', TurnF lo t_impl_Frame v w w' L' ∧ SwR a b L L' ∧ Srt ltR a b L' := by
  intro n
  induction n using Nat.strongRecOn with
  | ind n ih =>
  intro w L a0 b0 lim0 hn hs hrw hab hb hL hbl hlim
  apply c_slices_pdqsortCmpFunc_impl_Frame; unfold S_slices_pdqsortCmpFunc_impl_Frame
  refine iLp (fun s : Nat × Nat × Int × Bool × Bool => [.int .i64 (s.1 : Int), .int .i64 (s.2.1 : Int), .int .i64 s.2.2.1, .bool s.2.2.2.1, .bool s.2.2.2.2]) (fun s w' => a0 ≤ s.1 ∧ s.1 ≤ s.2.1 ∧ s.2.1 ≤ b0 ∧ (0 ≤ s.2.2.1 ∧ s.2.2.1 ≤ 64) ∧ ∃ L', TurnF lo t_impl_Frame v w w' L' ∧ SwR a0 b0 L L' ∧ Blw ltR s.1 s.2.1 L' ∧ Crs ltR a0 b0 s.1 s.2.1 L') (fun s => s.2.1 - s.1) (a0, b0, lim0, true, true) rfl
    ⟨Nat.le_refl _, hab, Nat.le_refl _, hlim, L, TurnF.refl hs, .refl, hbl, Crs.all⟩ ?_
  rintro ⟨a, b, lim, bal, par⟩ w2 Kn ⟨ha, hab, hbb, hlim, L1, ht1, hw1, hbl1, hcr1⟩ hKn
  have ha : a0 ≤ a := ha
  have hab : a ≤ b := hab
  have hbb : b ≤ b0 := hbb
  have hlim : 0 ≤ lim ∧ lim ≤ 64 := hlim
  have hbl1 : Blw ltR a b L1 := hbl1
  have hcr1 : Crs ltR a0 b0 a b L1 := hcr1
  have hl1 := hw1.len
  intro _
  simp only [gx]
  -- a sorted window closes the work
  have fin : ∀ {L' L'' : List PR} {w' : World} {a b : Nat}, TurnF lo t_impl_Frame v w w' L'' → SwR a0 b0 L L' → SwR a b L' L'' → a0 ≤ a → b ≤ b0 → Crs ltR a0 b0 a b L' → Srt ltR a b L'' → ∃ L', TurnF lo t_impl_Frame v w w' L' ∧ SwR a0 b0 L L' ∧ Srt ltR a0 b0 L' :=
    fun {L' L'' w' a b} h1 h2 h3 h4 h5 h6 h7 => ⟨L'', h1, h2.trans (h3.mono h4 h5 (by rw [h2.len]; exact hb)), h6.done h3 h4 h5 h7⟩
  refine iSub (by omega) ?_
  refine iLe ?_
  refine iCndP (fun h => ?_) (fun h => ?_)
  · refine iCall ?_
    refine (ok_slices_insertionSortPF ht1.ow (hrw.turn hs (by decide) ht1 hw1.perm) hab (by omega) (by omega)).mono fun _ w3 h3 => ?_
    obtain ⟨L2, ht2, hw2, hs2⟩ := h3
    exact fin (ht1.trans ht2) hw1 hw2 ha hbb hcr1 hs2
  refine iEq ?_
  refine iCndP (fun h0 => ?_) (fun h0 => ?_)
  · refine iCall ?_
    refine (ok_slices_heapSortCmpFunc_impl_Frame ht1.ow (hrw.turn hs (by decide) ht1 hw1.perm) (by omega) (by omega) (by omega)).mono fun _ w3 h3 => ?_
    obtain ⟨L2, ht2, hw2, hs2⟩ := h3
    exact fin (ht1.trans ht2) hw1 hw2 ha hbb hcr1 hs2
  refine iNot ?_
  refine iJnX (fun xs w' => ∃ l2 : Int, ∃ L', xs = [.int .i64 l2] ∧ (0 ≤ l2 ∧ l2 ≤ 64) ∧ TurnF lo t_impl_Frame v w w' L' ∧ SwR a b L1 L') (fun J hJ => ?_) ?_
  · refine iCnd (fun _ => ?_) (fun _ => ?_)
    · refine iCall ?_
      refine (ok_slices_breakPatternsCmpFunc_impl_Frame ht1.ow hab (by omega) (by omega)).mono fun _ w3 h3 => ?_
      obtain ⟨L2, ht2, hw2⟩ := h3
      refine iSub (by omega) ?_
      exact hJ _ _ ⟨lim - 1, L2, rfl, by omega, ht1.trans ht2, hw2⟩
    · exact hJ _ _ ⟨lim, L1, rfl, hlim, ht1, .refl⟩
  rintro xs w6 ⟨lim, L2, rfl, hlim, ht2, hw2⟩
  have hl2 := hw2.len
  intro _
  simp only [gx]
  refine iCall ?_
  refine (ok_slices_choosePivotCmpFunc_impl_Frame ht2.ow (hrw.turn hs (by decide) ht2 (hw2.perm.trans hw1.perm)) (by omega) (by omega) (by omega)).mono fun r w8 h8 => ?_
  obtain ⟨h8, t, x, rfl, hat, htb⟩ := h8
  have ht8 := ht2.ext h8
  refine iE20 ?_
  refine iE21 ?_
  refine iEq ?_
  refine iJnX (fun xs w' => ∃ t : Nat, ∃ x : Int, ∃ L', xs = [.int .i64 (t : Int), .int .i64 x] ∧ a ≤ t ∧ t < b ∧ TurnF lo t_impl_Frame v w w' L' ∧ SwR a b L1 L') (fun J hJ => ?_) ?_
  · refine iCndP (fun _ => ?_) (fun _ => ?_)
    · refine iCall ?_
      refine (ok_slices_reverseRangeCmpFunc_impl_Frame ht8.ow hab (by omega) (by omega)).mono fun _ w3 h3 => ?_
      obtain ⟨L3, ht3, hw3⟩ := h3
      refine iSub (by omega) ?_
      refine iSub (by omega) ?_
      refine iSub (by omega) ?_
      exact hJ _ _ ⟨b - 1 - (t - a), 1, L3, by congr 2; omega, by omega, by omega, ht8.trans ht3, hw2.trans hw3⟩
    · exact hJ _ _ ⟨t, x, L2, rfl, hat, htb, ht8, hw2⟩
  clear hat htb
  rintro xs w10 ⟨t, x, L3, rfl, hat, htb, ht3, hw3⟩
  intro _
  simp only [gx]
  refine iJnX (fun xs w' => ∃ y : Bool, xs = [.bool y] ∧ Ext w10 w') (fun J hJ => ?_) ?_
  · refine iCnd (fun _ => ?_) (fun _ => ?_)
    · refine iCnd (fun _ => ?_) (fun _ => ?_)
      · refine iEq ?_
        exact hJ _ _ ⟨_, rfl, Ext.refl _⟩
      · exact hJ _ _ ⟨false, rfl, Ext.refl _⟩
    · exact hJ _ _ ⟨false, rfl, Ext.refl _⟩
  rintro xs w13 ⟨y, rfl, h13⟩
  intro _
  simp only [gx]
  have ht13 := ht3.ext h13
  have hl3 := hw3.len
  refine iJnX (fun _ w' => ∃ L', TurnF lo t_impl_Frame v w w' L' ∧ SwR a b L1 L') (fun J hJ => ?_) ?_
  · refine iCnd (fun _ => ?_) (fun _ => ?_)
    · refine iCall ?_
      refine (ok_slices_partialInsertionSortCmpFunc_impl_Frame ht13.ow (hrw.turn hs (by decide) ht13 (hw3.perm.trans hw1.perm)) (by omega) (by omega) (by omega) (hbl1.keep hw3 (Nat.le_refl _) (Nat.le_refl _))).mono fun r w3 h3 => ?_
      obtain ⟨y', L4, rfl, ht4, hw4, hs4⟩ := h3
      refine iCnd (fun hy => ?_) (fun hy => ?_)
      · exact fin (ht13.trans ht4) hw1 (hw3.trans hw4) ha hbb hcr1 (hs4 hy)
      · exact hJ _ _ ⟨L4, ht13.trans ht4, hw3.trans hw4⟩
    · exact hJ _ _ ⟨L3, ht13, hw3⟩
  clear ht3 hw3 ht13 ht8 ht2 hw2 hl2 hl3
  rintro xs w15 ⟨L3, ht3, hw3⟩
  have hl3 := hw3.len
  have hw3' : SwR a0 b0 L L3 := hw1.trans (hw3.mono ha hbb (by omega))
  have hbl3 : Blw ltR a b L3 := hbl1.keep hw3 (Nat.le_refl _) (Nat.le_refl _)
  have hcr3 : Crs ltR a0 b0 a b L3 := hcr1.keep hw3 ha hbb
  intro _
  refine iJnB (decide (0 < a) && !ltR (gt L3 (a - 1)) (gt L3 t)) w15 (fun J hJ => ?_) (fun w18 h18 => ?_)
  · refine iLt ?_
    refine iCndP (fun h5 => ?_) (fun h5 => ?_)
    · rw [decide_eq_true (show 0 < a by omega), Bool.true_and] at hJ
      refine iSub (by omega) ?_
      refine iRdFr (j := a - 1) ht3.ow (by omega) (by omega) ?_
      refine iRdFr (j := t) ht3.ow rfl (by omega) ?_
      exact iCmNF (hrw.turn hs (by decide) ht3 hw3'.perm) (by omega) (by omega) hJ
    · rw [decide_eq_false (show ¬ 0 < a by omega), Bool.false_and] at hJ
      exact fun _ x8 _ x9 => hJ _ (x8.trans x9)
  intro _
  simp only [gx]
  have ht18 := ht3.ext h18
  cases hc : decide (0 < a) && !ltR (gt L3 (a - 1)) (gt L3 t)
  rotate_left
  · rw [Bool.and_eq_true, decide_eq_true_eq, Bool.not_eq_true'] at hc
    refine iCndT rfl ?_
    refine iCall ?_
    refine (ok_slices_partitionEqualCmpFunc_impl_Frame ht18.ow (hrw.turn hs (by decide) ht18 hw3'.perm) hat htb (by omega) (by omega)).mono fun r w21 h21 => ?_
    obtain ⟨L4, m, rfl, ht4, hw4, ham, hmb, hle⟩ := h21
    have hge : ∀ k, a ≤ k → k < b → ltR (gt L4 k) (gt L3 t) = false := hw4.all (p := fun z => ltR z (gt L3 t) = false) fun k hk hk' => ordrR.tr hc.2 (hbl3 k hk hk' (by omega))
    refine hKn (m, b, lim, bal, par) _ ⟨by show a0 ≤ m; omega, hmb, hbb, hlim, L4, ht18.trans ht4, hw3'.trans (hw4.mono ha hbb (by rw [hw3'.len]; omega)), equal_blw ordrR hge hle ham, equal_up ordrR (hcr3.keep hw4 ha hbb) hge hle hmb⟩ (by show b - m < b - a; omega)
  refine iCndF rfl ?_
  refine iCall ?_
  refine (ok_slices_partitionCmpFunc_impl_Frame ht18.ow (hrw.turn hs (by decide) ht18 hw3'.perm) hat htb (by omega) (by omega)).mono fun r w22 h22 => ?_
  obtain ⟨L4, m, y', rfl, ht4, hw4, ham, hmb, hpt⟩ := h22
  have hl4 := hw4.len
  have ht22 := ht18.trans ht4
  have hw4' : SwR a0 b0 L L4 := hw3'.trans (hw4.mono ha hbb (by rw [hw3'.len]; omega))
  have hbl4 : Blw ltR a b L4 := hbl3.keep hw4 (Nat.le_refl _) (Nat.le_refl _)
  have hcr4 : Crs ltR a0 b0 a b L4 := hcr3.keep hw4 ha hbb
  refine iE20 ?_
  refine iE21 ?_
  refine iSub (by omega) ?_
  refine iSub (by omega) ?_
  refine iQuo (by omega) ?_
  refine iLt ?_
  refine iCndP (fun h5 => ?_) (fun h5 => ?_)
  · refine iLe ?_
    refine iCall ?_
    refine (ih (m - a) (by omega) (Nat.le_refl _) ht22.ow (hrw.turn hs (by decide) ht22 hw4'.perm) ham (by omega) (by omega) (hbl4.low (by omega)) hlim).mono fun _ w23 h23 => ?_
    obtain ⟨L5, ht5, hw5, hs5⟩ := h23
    have hw5' : SwR a b L4 L5 := hw5.mono (Nat.le_refl _) (by omega) (by omega)
    have hpt5 := hpt.lowS hw5
    refine iAdd (by omega) ?_
    exact hKn (m + 1, b, lim, _, y') _ ⟨by show a0 ≤ m + 1; omega, by show m + 1 ≤ b; omega, hbb, hlim, L5, ht22.trans ht5, hw4'.trans (hw5'.mono ha hbb (by rw [hw4'.len]; omega)), hpt5.blw, hpt5.up ordrR (hcr4.keep hw5' ha hbb) hs5⟩ (by show b - (m + 1) < b - a; omega)
  · refine iLe ?_
    refine iAdd (by omega) ?_
    refine iCall ?_
    refine (ih (b - (m + 1)) (by omega) (a := m + 1) (Nat.le_refl _) ht22.ow (hrw.turn hs (by decide) ht22 hw4'.perm) (by omega) (by omega) (by omega) hpt.blw hlim).mono fun _ w23 h23 => ?_
    obtain ⟨L5, ht5, hw5, hs5⟩ := h23
    have hw5' : SwR a b L4 L5 := hw5.mono (by omega) (Nat.le_refl _) (by omega)
    have hpt5 := hpt.highS hw5
    exact hKn (a, m, lim, _, y') _ ⟨ha, ham, by show m ≤ b0; omega, hlim, L5, ht22.trans ht5, hw4'.trans (hw5'.mono ha hbb (by rw [hw4'.len]; omega)), (hbl4.keep hw5' (Nat.le_refl _) (Nat.le_refl _)).low (Nat.le_of_lt hmb), hpt5.down ordrR (hcr4.keep hw5' ha hbb) hs5⟩ (by show m - a < b - a; omega)
theorem ok_slices_SortFunc_Simpl_Frame_impl_Frame {lo : Nat} {w : World} {v : Value} {L : List PR} (hs : RowF lo t_impl_Frame w v L) (hrw : RowsF t_i64 w L) (hL : L.length ≤ 1152921504606846976) :
    Cal Tryz.prog f_slices_SortFunc_Simpl_Frame_impl_Frame #[v, cmpF] w fun _ w' => ∃ L' : List PR, RowF lo t_impl_Frame w' v L' ∧ Ch (fun c => v.ownBlock = some c) w w' ∧ List.Perm L' L ∧ L'.Pairwise fun x y => ltR y x = false := by
  apply c_slices_SortFunc_Simpl_Frame_impl_Frame; unfold S_slices_SortFunc_Simpl_Frame_impl_Frame
  refine iLenK hs.row.sl ?_
  refine iConvU (by omega) ?_
  refine iCall ?_
  refine (ok_math_bits_Len (by omega) w).mono fun r w1 h1 => ?_
  obtain ⟨h1, k, rfl, -, -, hk⟩ := h1
  refine iCall ?_
  refine (ok_slices_pdqsortCmpFunc_impl_Frame (a := 0) (b := L.length) (lim := (k : Int)) L.length (by omega) (hs.ext h1) (hrw.ext h1) (Nat.zero_le _) (Nat.le_refl _) hL (fun k _ _ h => by omega) (by omega)).mono fun _ w2 h2 => ?_
  obtain ⟨L', ht, hw, hst⟩ := h2
  rw [← hw.len] at hst
  exact ⟨L', ht.ow, (h1.ch (S := fun c => v.ownBlock = some c)).trans ht.ch fun _ e => .inl e, hw.perm, hst.pairwise⟩
end Go.Proofs.YtikfhibcdhdglaaGreat

/- Contracts: CompactFunc on rows of frames. Conditions: none. -/
namespace Go.Vc
abbrev ddR (L : List PR) : List PR := ddA ltP keyR L
theorem ltP_ne {a b : Int × List Int} : (ltP a b || ltP b a) = decide (¬ b = a) := by
  have irr : ∀ a, ltP a a = false := fun a => Bool.eq_false_iff.2 fun h => by
    have := ordP.o.asym h
    rw [h] at this; cases this
  rw [Bool.eq_iff_iff, Bool.or_eq_true, decide_eq_true_eq]
  constructor
  · rintro (h | h) e
    · subst e; rw [irr] at h; cases h
    · subst e; rw [irr] at h; cases h
  · intro h
    rcases ordP.tot a b with h1 | h1 | h1
    · exact .inl h1
    · exact absurd h1.symm h
    · exact .inr h1
theorem ddR_take {L : List PR} {i : Nat} (h0 : 1 ≤ i) (hi : i < L.length) : ddR (L.take (i + 1)) = if keyR (gt L i) = keyR (gt L (i - 1)) then ddR (L.take i) else ddR (L.take i) ++ [gt L i] := by
  rw [ddR, ddA_take h0 hi, ltP_ne]
  by_cases h : keyR (gt L i) = keyR (gt L (i - 1))
  · rw [if_pos h, if_neg (by simp [h])]
  · rw [if_neg h, if_pos (by simpa using h)]
theorem ddR_idk {L : List PR} : ∀ k, k ≤ L.length → (∀ i, 1 ≤ i → i < k → ¬ keyR (gt L i) = keyR (gt L (i - 1))) → ddR (L.take k) = L.take k := by
  intro k
  induction k with
  | zero => intro _ _; rfl
  | succ k ih =>
    intro hk h
    rcases Nat.eq_zero_or_pos k with h0 | h0
    · subst h0
      rw [ddR, ddA_one (by omega), List.take_succ_eq_append_getElem (by omega), gt_eq (by omega)]; rfl
    · rw [ddR_take h0 (by omega), if_neg (h k h0 (by omega)), ih (by omega) fun i h1 h2 => h i h1 (by omega), List.take_succ_eq_append_getElem (by omega), gt_eq (by omega)]
theorem ddR_id {L : List PR} (h : ∀ i, 1 ≤ i → i < L.length → ¬ keyR (gt L i) = keyR (gt L (i - 1))) : ddR L = L := by
  have := ddR_idk L.length (Nat.le_refl _) h
  rwa [List.take_length] at this
theorem gt_drop {α : Type} [Inhabited α] (L : List α) {k j : Nat} (h : k + j < L.length) : gt (L.drop k) j = gt L (k + j) := by
  rw [gt_eq h, gt_eq (by rw [List.length_drop]; omega), List.getElem_drop]
theorem RowF.at {e : TypeId} {w : World} {L : List PR} (h : RowsF e w L) {i : Nat} (hi : i < L.length) : SlI w (gt L i).2.1 (gt L i).2.2 := (h _ (by rw [gt_eq hi]; exact List.getElem_mem _)).sl
/-- The tail of a row of frames. -/
theorem RowF.tail {lo : Nat} {e : TypeId} {w : World} {g n cap k : Nat} {M : List PR} (h : RowF lo e w (.slice (some ⟨g, 0, none⟩) n cap) M) (hn : M.length = n) (hk : k < n) (hc : n ≤ cap) : SlK 2 w (.slice (some ⟨g, 0 + k * 2, none⟩) (n - k) (cap - k)) (M.drop k).length (cellsR (M.drop k)) := by
  subst hn
  obtain ⟨g', cap', cur, e1, hg, hcap, hR, hx⟩ := OwK.rx h.row (by omega)
  injection e1 with e1 e2 e3
  injection e1 with e1
  injection e1 with e1
  subst e1
  subst e3
  have hcm := hR.2.2
  have := hR.sl (l := k) (m := M.length - k) (c := cap - k) (o := 0 + k * 2) (fun _ => by omega) (by omega) (by omega) (by omega)
  rw [List.length_drop]
  have e : (cur.drop (k * 2)).take ((M.length - k) * 2) = cellsR (M.drop k) := by
    rw [← cellsR_drop, ← hx, List.drop_take]
    congr 1; omega
  rwa [e] at this
theorem iStX0 {P : Program} {lo : Nat} {e : TypeId} {w : World} {v : Value} {L : List PR} {r : PR} {z : Int} {j : Nat} {k : IntKind} {K : World → Prop} (hs : RowR lo e w v L) (hz : z = (j : Int)) (hj : j < L.length) (hr : isCell r.2.1 = true)
    (h : ∀ w', RowR lo e w' v (L.set j r) → Ch (fun c => v.ownBlock = some c) w w' → K w') : xIa 2 v (.int k z) fun p => xStA P w 2 p (valR r) K := by
  obtain ⟨ad, n, c, k, j, h1, h2, h3, h4, h5⟩ := iStX (P := P) hs hz hj hr h
  exact ⟨ad, n, c, k, j, h1, h2, h3, h4, h5 w (Ext.refl w)⟩
end Go.Vc
namespace Go.Proofs.YtikfhibcdhdglaaGreat
open Go.Vc
theorem ok_slices_CompactFuncF {lo : Nat} {w : World} {v eqf : Value} {L : List PR} (hs : RowF lo t_impl_Frame w v L) (hrw : RowsF t_i64 w L) (hL : L.length ≤ 1152921504606846976)
    (heq : ∀ {w' : World} {x y : PR}, SlI w' x.2.1 x.2.2 → SlI w' y.2.1 y.2.2 → callV Tryz.prog eqf [valR x, valR y] w' fun r w'' => r = .bool (decide (keyR x = keyR y)) ∧ Ext w' w'') :
    Cal Tryz.prog f_slices_CompactFunc_Simpl_Frame_impl_Frame #[v, eqf] w fun r w' => RowF lo t_impl_Frame w' r (ddR L) ∧ Ch (fun c => v.ownBlock = some c) w w' ∧ r.ownBlock = v.ownBlock := by
  apply c_slices_CompactFunc_Simpl_Frame_impl_Frame; unfold S_slices_CompactFunc_Simpl_Frame_impl_Frame
  refine iLenK hs.row.sl ?_
  refine iLt (iCndP (fun h => ?_) (fun h => ?_))
  · rw [ddR_id (fun i h1 h2 => by omega)]
    exact ⟨hs, (Ext.refl w).ch, rfl⟩
  obtain ⟨g, cap, cur, hv, hg, hcap, hR, hx⟩ := OwK.rx hs.row (by omega)
  have hcm := hR.2.2
  refine iLp (fun k : Nat => [.int .i64 (k : Int)]) (fun k w' => 1 ≤ k ∧ k ≤ L.length ∧ Ext w w' ∧ ∀ i, 1 ≤ i → i < k → ¬ keyR (gt L i) = keyR (gt L (i - 1))) (fun k => L.length - k) 1 rfl ⟨Nat.le_refl _, by omega, Ext.refl _, fun i h1 h2 => by omega⟩ ?_
  rintro k w2 Kn ⟨hk1, hkn, h2, hne⟩ hKn
  have hs2 := hs.ext h2
  intro _
  simp only [gx]
  refine iLenK hs2.row.sl ?_
  refine iLt (iCndP (fun h3 => ?_) (fun h3 => ?_))
  rotate_left
  · rw [ddR_id (fun i h1 h2 => hne i h1 (by omega))]
    exact ⟨hs2, h2.ch, by first | trivial | rfl⟩
  refine iRdFr (j := k) hs2 rfl (by omega) ?_
  refine iSub (by omega) ?_
  refine iRdFr (j := k - 1) hs2 (by omega) (by omega) ?_
  have hr2 := hrw.ext h2
  intro w3 x3
  refine (heq ((RowF.at hr2 (by omega)).ext x3) ((RowF.at hr2 (by omega)).ext x3)).mono ?_
  rintro _ w4 ⟨rfl, x4⟩ w5 x5
  have h25 := (x3.trans x4).trans x5
  have hs5 := hs2.ext h25
  refine iCndP (fun h4 => ?_) (fun h4 => ?_)
  rotate_left
  · refine iAdd (by omega) ?_
    refine hKn (k + 1) _ ⟨by omega, by omega, h2.trans h25, fun i h1 h5 => ?_⟩ (by omega)
    by_cases hi : i = k
    · subst hi; exact h4
    · exact hne i h1 (by omega)
  subst hv
  refine iTX (l := k) (by omega) hcap fun o' ho' => ?_
  have ho' := ho' (by omega)
  subst ho'
  refine iLp (fun s : Nat × Nat => [.int .i64 (s.1 : Int), .int .i64 (s.2 : Int)]) (fun s w' => k ≤ s.1 ∧ s.1 + 1 ≤ k + s.2 ∧ k + s.2 ≤ L.length ∧ ∃ M, TurnF lo t_impl_Frame (.slice (some ⟨g, 0, none⟩) L.length cap) w w' M ∧ M.length = L.length ∧ M.take s.1 = ddR (L.take (k + s.2)) ∧ ∀ j, k + s.2 ≤ j + 1 → gt M j = gt L j) (fun s => L.length - s.2) (k, 1) rfl
    ⟨Nat.le_refl _, Nat.le_refl _, by show k + 1 ≤ L.length; omega, L, ⟨hs5, (h2.trans h25).ch⟩, rfl, by show L.take k = ddR (L.take (k + 1)); rw [ddR_take hk1 (by omega), if_pos h4, ddR_idk k (by omega) hne], fun _ _ => rfl⟩ ?_
  rintro ⟨kk, k2⟩ w5' Kn5 ⟨hkk, hkk2, hk2, M, ht, hM, hMt, hMe⟩ hKn5
  have hkk : k ≤ kk := hkk
  have hkk2 : kk + 1 ≤ k + k2 := hkk2
  have hk2 : k + k2 ≤ L.length := hk2
  have hMt : M.take kk = ddR (L.take (k + k2)) := hMt
  have hMe : ∀ j, k + k2 ≤ j + 1 → gt M j = gt L j := hMe
  intro _
  simp only [gx]
  refine iLenL ?_
  refine iLt (iCndP (fun h5 => ?_) (fun h5 => ?_))
  · have htl := ht.ow.tail hM (k := k) (by omega) hcap
    refine iRdX (j := k2) htl rfl (by rw [List.length_drop]; omega) ?_
    rw [gt_drop M (by omega)]
    refine iSub (by omega) ?_
    refine iRdX (j := k2 - 1) htl (by omega) (by rw [List.length_drop]; omega) ?_
    rw [gt_drop M (by omega)]
    have e1 := hMe (k + k2) (by omega)
    have e2 := hMe (k + (k2 - 1)) (by omega)
    have hr5 : RowsF t_i64 w5' L := fun y hy => (hrw y hy).ch ht.ch fun c hc hc' => OwK.ne_ow hs.row (hrw y hy) (by decide) hc' hc
    intro w6 x6
    refine (heq (by rw [e1]; exact (RowF.at hr5 (by omega)).ext x6) (by rw [e2]; exact (RowF.at hr5 (by omega)).ext x6)).mono ?_
    rintro _ w7 ⟨rfl, x7⟩
    refine iNot ?_
    intro w8 x8
    have ht8 := ht.ext ((x6.trans x7).trans x8)
    have edd := ddR_take (L := L) (i := k + k2) (by omega) (by omega)
    rw [← e1, show k + k2 - 1 = k + (k2 - 1) by omega, ← e2] at edd
    by_cases h6 : keyR (gt M (k + k2)) = keyR (gt M (k + (k2 - 1)))
    · rw [if_pos h6, ← hMt] at edd
      rw [decide_eq_true h6]
      refine iCndF rfl (iAdd (by omega) ?_)
      exact hKn5 (kk, k2 + 1) _ ⟨hkk, by show kk + 1 ≤ k + (k2 + 1); omega, by show k + (k2 + 1) ≤ L.length; omega, M, ht8, hM, edd.symm, fun j hj => hMe j (by have hj : k + (k2 + 1) ≤ j + 1 := hj; omega)⟩ (by show L.length - (k2 + 1) < L.length - k2; omega)
    · rw [if_neg h6, ← hMt] at edd
      rw [decide_eq_false h6]
      refine iCndT rfl ?_
      have htl8 := ht8.ow.tail hM (k := k) (by omega) hcap
      refine iRdX (j := k2) htl8 rfl (by rw [List.length_drop]; omega) ?_
      rw [gt_drop M (by omega)]
      have hcell : isCell (gt M (k + k2)).2.1 = true := ht.ow.cells _ (by rw [gt_eq (by omega)]; exact List.getElem_mem _)
      have hrow8 := ht8.ow.row
      rw [← hM] at hrow8
      refine iStX0 (j := kk) (by rw [← hM]; exact hrow8) rfl (by omega) hcell fun w11 hw11 hc11 => ?_
      refine iAdd (by omega) ?_
      refine iAdd (by omega) ?_
      refine hKn5 (kk + 1, k2 + 1) _ ⟨by show k ≤ kk + 1; omega, by show kk + 1 + 1 ≤ k + (k2 + 1); omega, by show k + (k2 + 1) ≤ L.length; omega, M.set kk (gt M (k + k2)), ⟨⟨hw11, fun r hr => ?_⟩, ht8.ch.trans hc11 fun _ e => .inl e⟩, by rw [List.length_set]; exact hM, ?_, fun j hj => ?_⟩ (by show L.length - (k2 + 1) < L.length - k2; omega)
      · rcases List.mem_or_eq_of_mem_set hr with h | rfl
        · exact ht.ow.cells r h
        · exact hcell
      · show (M.set kk (gt M (k + k2))).take (kk + 1) = ddR (L.take (k + (k2 + 1)))
        rw [show k + (k2 + 1) = k + k2 + 1 by omega, edd, List.take_succ_eq_append_getElem (by rw [List.length_set]; omega), List.getElem_set_self, List.take_set_of_le (Nat.le_refl _)]
      · have hj : k + (k2 + 1) ≤ j + 1 := hj
        rw [gt_set _ (by omega), if_neg (by omega)]
        exact hMe j (by omega)
  · have hend : k + k2 = L.length := by omega
    rw [hend, List.take_length] at hMt
    obtain ⟨g', cap', cur', e1, hg', hcap', hR', hx'⟩ := OwK.rx ht.ow.row (by omega)
    rw [hM] at e1
    injection e1 with e1 e2 e3
    injection e1 with e1
    injection e1 with e1
    subst e1
    subst e3
    refine iTX (l := kk) (by omega) hcap fun o2 ho2 => ?_
    have ho2 := ho2 (by omega)
    subst ho2
    refine iClrX (l := kk) u_Simpl_Frame i_Simpl_Frame rfl (by simp [Value.cells, isCell]) hR' (by omega) (by omega) (by omega) fun ys w12 hys hR12 hc12 => ?_
    refine iHX (k := kk) (by omega) ?_
    have hS : ∀ c, c = g → (Value.slice (some ⟨g, 0, none⟩) L.length cap).ownBlock = some c := fun c e => by rw [e]; rfl
    rw [← hMt]
    have hlen : (M.take kk).length = kk := by rw [List.length_take]; omega
    refine ⟨⟨?_, fun r hr => ht.ow.cells r (List.mem_of_mem_take hr)⟩, ht.ch.trans (hc12.mono hS) fun _ h => .inl h, rfl⟩
    show OwK 2 lo _ w12 _ _ _
    rw [hlen]
    have hcl := hR'.2.1
    refine hR12.own hg (by omega) ?_
    rw [putX_low (by omega) (by omega), ← cellsR_take, ← hx', List.take_take, Nat.min_eq_left (by omega)]
end Go.Proofs.YtikfhibcdhdglaaGreat

/- Contracts: LeastPoset, CorrectPartitions, RootedImages. Conditions: none. -/
namespace Go.Vc
/-- 'append(s, Struct{n, u})' to a row whose slices are cells. -/
theorem RowF.app {P : Program} {lo : Nat} {t e ty : TypeId} {bytes : Nat} (ht : P.underlying t = some (.slice e)) (hi : (P.info? e).map (fun i => (i.zero, i.size, i.bytes)) = some (some (.agg #[.int .i64 0, .slice none 0 0]), 2, bytes)) (hby : bytes ≤ 1000) {w : World} {v u : Value} {L : List PR} {n : Int} (l : List Int) {K : Value → World → Prop}
    (hp : RowF lo e w v L) (hu : isCell u = true) (hlo : lo ≤ w.heap.size) (hb : L.length ≤ 1000000000)
    (hk : ∀ v' w', RowF lo e w' v' (L ++ [(n, u, l)]) → Ch (fun c => v.ownBlock = some c) w w' → K v' w') :
    xBs e (Value.cells (.agg #[.int .i64 0, .slice none 0 0])) 2 1 [(0, .agg #[.int .i64 n, u])] w fun y w1 => xOp P (Builtin.append_ #[t, t] ty #[v, y]) w1 K := by
  refine iBsA fun b w1 hb1 h1 hB => ?_
  have hs := (OwK.ofBlk (k := 2) (lo := w.heap.size) hB (by omega) rfl (by omega)).sl
  have hm : (L.length + 1) * bytes ≤ 1000000001 * 1000 := Nat.mul_le_mul (by omega) hby
  refine iAppK (k := 2) ht hi rfl (by omega) (OwK.ext hp.row h1) hs (fun x hx => ?_) (by omega) (by omega) (Nat.le_trans hlo h1.size) fun v' w' ho' hg _ => hk v' w' ⟨?_, fun r hr => ?_⟩ ((h1.ch (S := fun c => v.ownBlock = some c)).trans (grown_ch hg fun c hc => hc) fun _ h => .inl h)
  · simp only [List.mem_cons, List.not_mem_nil, or_false] at hx
    rcases hx with rfl | rfl
    · rfl
    · exact hu
  · show OwK 2 lo e w' v' _ _
    rw [List.length_append, cellsR_app]
    exact ho'
  · rcases List.mem_append.1 hr with hr | hr
    · exact hp.cells r hr
    · rw [List.mem_singleton] at hr
      subst hr; exact hu
theorem RowF.mono {lo lo' : Nat} {e : TypeId} {w : World} {v : Value} {L : List PR} (h : RowF lo e w v L) (hl : lo' ≤ lo) : RowF lo' e w v L := ⟨OwK.mono h.row hl, h.cells⟩
theorem RowF.nil (lo : Nat) (e : TypeId) (w : World) : RowF lo e w (.slice none 0 0) [] := ⟨OwK.nil _ _ _ _, fun r hr => absurd hr (by simp)⟩
theorem RowsF.chR {lo : Nat} {e e' : TypeId} {w w' : World} {v : Value} {L M : List PR} (h : RowsF e w L) (hs : RowF lo e' w v M) (hne : e' ≠ e) (hc : Ch (fun c => v.ownBlock = some c) w w') : RowsF e w' L := fun y hy => (h y hy).ch hc fun _ hk hk' => OwK.ne_ow hs.row (h y hy) hne hk' hk
theorem cmpR_zero (x y : Int × List Int) : decide (cmpR x y = 0) = decide (x = y) := by
  have h1 := cmpR_ne x y
  rw [ltP_ne] at h1
  have h2 : (¬ cmpR x y = 0) ↔ ¬ y = x := by
    rw [← decide_eq_decide]; exact h1
  exact decide_eq_decide.2 ⟨fun h => Classical.byContradiction fun h3 => (h2.2 fun e => h3 e.symm) h, fun h => Classical.byContradiction fun h3 => h2.1 h3 h.symm⟩
end Go.Vc
namespace Go.Proofs.YtikfhibcdhdglaaGreat
open Go.Vc
theorem ok_impl_LeastPoset {q : Fr} (hq : Po q) (h6 : q.n ≤ 6) {v : Value} {w : World} (hs : SlN w v q.a) (hcell : isCell v = true) : Cal Tryz.prog f_impl_LeastPoset #[.agg #[.int .i64 (q.n : Int), v]] w fun r w' => Ext w w' ∧ ∃ u, r = .tuple #[.agg #[.int .i64 (q.n : Int), u], .int .i64 0] ∧ Ow w.heap.size t_i64 w' u (ints (nats (least q.a))) := by
  apply c_impl_LeastPoset; unfold S_impl_LeastPoset
  refine iNew fun b1 w1 hb1 x1 hB1 => ?_
  refine iNew fun b2 w2 hb2 x2 hB2 => ?_
  have hB1 : Blk _ w2 b1 [.int .i64 (q.n : Int), v] := hB1.ext x2
  have X2 := x1.trans x2
  have hz1 := x1.size
  have hlp := (least_po hq).ok
  refine iLdA hB1 rfl ?_
  refine iRet (ok_impl_isPoset (hs.ext X2) _) fun w3 x3 => iNot ?_
  rw [posetOk_of hq]
  have X3 := X2.trans x3
  refine iCndF rfl ?_
  refine iFa (iLdB (hB1.ext x3) (i := 0) (v := .int .i64 (q.n : Int)) rfl ?_)
  refine iLt (iCndF (decide_eq_false (by omega)) ?_)
  refine iFa (iLdB (hB1.ext x3) (i := 1) (v := v) rfl ?_)
  refine iCall ((ok_impl_leastRelation (hs.ext X3) hcell h6 hq.ok.2.1 hq.ok.2.2).mono ?_)
  rintro r w8 ⟨x8, ho⟩
  refine iCall ((ok_impl_posetOf ho).mono ?_)
  rintro _ w9 ⟨x9, rfl⟩
  have hlen : (least q.a).length = q.n := hlp.2.1
  rw [hlen]
  have ho := ho.ext x9
  have hz := X3.size
  have hB9 := hB2.ext ((x3.trans x8).trans x9)
  have hne : r.ownBlock ≠ some b2 := fun e => by have := (ho.blk b2 e).1; have := (hB2.ext x3).lt; omega
  refine iStAB hB9 rfl rfl (ho.pair _) fun w12 hu hB => iLdA hB rfl ?_
  exact ⟨((X3.trans x8).trans x9).upd hu (by omega), _, rfl, (ho.mono hz).upd hu hne⟩
theorem ok_impl_CorrectPartitions {f : Fr} (hP : Po f) {v : Value} {w : World} (hs : SlN w v f.a) : Cal Tryz.prog f_impl_CorrectPartitions #[.agg #[.int .i64 (f.n : Int), v]] w fun r w' => Ext w w' ∧ ∃ u, r = .tuple #[u, .int .i64 (if f.n ≤ 6 then 0 else 3)] ∧ (f.n ≤ 6 → ∃ P, LLw w.heap.size w' u P ∧ P.map Prod.snd = congL f) := by
  apply c_impl_CorrectPartitions; unfold S_impl_CorrectPartitions
  refine iNew fun b1 w1 hb1 x1 hB1 => ?_
  have hB1 : Blk _ w1 b1 [.int .i64 (f.n : Int), v] := hB1
  refine iLdA hB1 rfl ?_
  refine iRet (ok_impl_isPoset (hs.ext x1) _) fun w2 x2 => iNot ?_
  rw [posetOk_of hP]
  refine iCndF rfl ?_
  refine iFa (iLdB (hB1.ext x2) (i := 0) (v := .int .i64 (f.n : Int)) rfl ?_)
  have X2 := x1.trans x2
  refine iLt (iCndP (fun h => ?_) (fun h => ?_))
  · rw [if_neg (by omega)]
    exact ⟨X2, _, rfl, fun h => by omega⟩
  · refine iLdA (hB1.ext x2) rfl ?_
    refine iRet (ok_impl_Poset_frame (hs.ext X2) _) fun w3 x3 => ?_
    rw [nats_length, hP.ok.2.1]
    have X3 := X2.trans x3
    refine iCall ((ok_impl_congruences hP.ok (by omega) (hs.ext X3)).mono ?_)
    rintro r w4 ⟨x4, P, hL, hA⟩
    rw [if_pos (by omega)]
    exact ⟨X3.trans x4, _, rfl, fun _ => ⟨P, hL.mono X3.size, hA⟩⟩
theorem ok_impl_RootedImages_1 {w : World} {x y : PR} (hx : SlI w x.2.1 x.2.2) (hy : SlI w y.2.1 y.2.2) : callV Tryz.prog (.func (.func f_impl_RootedImages_1) #[] #[]) [valR x, valR y] w fun r w' => r = .bool (decide (keyR x = keyR y)) ∧ Ext w w' := by
  refine iCall (c_impl_RootedImages_1 ?_)
  unfold S_impl_RootedImages_1
  refine iNew fun b1 w1 hb1 x1 hB1 => ?_
  refine iNew fun b2 w2 hb2 x2 hB2 => ?_
  have hB1 : Blk _ w2 b1 [.int .i64 x.1, x.2.1] := hB1.ext x2
  have hB2 : Blk _ w2 b2 [.int .i64 y.1, y.2.1] := hB2
  have X2 := x1.trans x2
  refine iLdA hB1 rfl (iLdA hB2 rfl ?_)
  refine iRet (ok_impl_compareFrames (a := x) (b := y) (hx.ext X2) (hy.ext X2)) fun w3 x3 => ?_
  refine iEq ⟨?_, X2.trans x3⟩
  rw [cmpR_zero]
/-- All elements are rooted images of f. -/
def ImL (f : Fr) (L : List PR) : Prop := ∀ r ∈ L, ∃ g, ImOk f g ∧ keyR r = ((g.n : Int), nats g.a)
theorem ok_impl_RootedImages {f : Fr} (hP : Po f) {v : Value} {w : World} (hs : SlN w v f.a) : Cal Tryz.prog f_impl_RootedImages #[.agg #[.int .i64 (f.n : Int), v]] w fun r w' => Ext w w' ∧ ∃ u, r = .tuple #[u, .int .i64 (if f.n ≤ 5 then 0 else 3)] ∧ (f.n ≤ 5 → ∃ L, RowF w.heap.size t_impl_Poset w' u L ∧ RowsF t_i64 w' L ∧ ImL f L ∧ (0 < f.n → 0 < L.length)) := by
  have h8 := hP.ok.1
  apply c_impl_RootedImages; unfold S_impl_RootedImages
  refine iNew fun b1 w1 hb1 x1 hB1 => ?_
  have hB1 : Blk _ w1 b1 [.int .i64 (f.n : Int), v] := hB1
  refine iLdA hB1 rfl ?_
  refine iRet (ok_impl_isPoset (hs.ext x1) _) fun w2 x2 => iNot ?_
  rw [posetOk_of hP]
  refine iCndF rfl ?_
  refine iFa (iLdB (hB1.ext x2) (i := 0) (v := .int .i64 (f.n : Int)) rfl ?_)
  have X2 := x1.trans x2
  refine iLt (iCndP (fun h => ?_) (fun h => ?_))
  · rw [if_neg (by omega)]
    exact ⟨X2, _, rfl, fun h => by omega⟩
  have hn5 : f.n ≤ 5 := by omega
  rw [if_pos hn5]
  refine iLdA (hB1.ext x2) rfl ?_
  refine iCall ((ok_impl_Poset_upsets hP.ok (hs.ext X2)).mono ?_)
  rintro vu w3 ⟨x3, hou⟩
  have X3 := X2.trans x3
  have hB13 := (hB1.ext x2).ext x3
  have hul := upsets_len hP.ok
  refine iLenN (l := upsets f) hou.sl ?_
  refine iLp (fun s : Value × Nat => [s.1, .int .i64 (s.2 : Int)]) (fun s w' => s.2 ≤ (upsets f).length ∧ Ext w3 w' ∧ ∃ L, RowF w3.heap.size t_impl_Frame w' s.1 L ∧ RowsF t_i64 w' L ∧ ImL f L ∧ L.length ≤ s.2 * 7776 ∧ ∀ m ∈ (upsets f).take s.2, ∀ c ∈ congL (partFr f m), Rooted (quoF (partFr f m) c) → 0 < L.length) (fun s => (upsets f).length - s.2) (.slice none 0 0, 0) rfl
    ⟨Nat.zero_le _, Ext.refl _, [], RowF.nil _ _ _, fun r hr => absurd hr (by simp), fun r hr => absurd hr (by simp), Nat.zero_le _, fun m hm => absurd hm (by simp)⟩ ?_
  rintro ⟨vF, i⟩ w5 Kn ⟨hi, x5, L, hL, hR, hI, hLl, hpos⟩ hKn
  have hi : i ≤ (upsets f).length := hi
  have x5 : Ext w3 w5 := x5
  have hL : RowF w3.heap.size t_impl_Frame w5 vF L := hL
  have hLl : L.length ≤ i * 7776 := hLl
  have hpos : ∀ m ∈ (upsets f).take i, ∀ c ∈ congL (partFr f m), Rooted (quoF (partFr f m) c) → 0 < L.length := hpos
  have hi256 : i * 7776 ≤ 256 * 7776 := Nat.mul_le_mul_right _ (by omega)
  intro _
  simp only [gx]
  refine iLt (iCndP (fun h1 => ?_) (fun h1 => ?_))
  · have hik : i < (upsets f).length := by omega
    have hm : (upsets f).getD i 0 ∈ upsets f := getD_mem hik
    refine iIaNN (l := upsets f) (hou.ext x5).sl hik fun p hp => iLd hp ?_
    generalize hmm : (upsets f).getD i 0 = m at *
    have hmlt := upsets_lt hm
    have hpp := part_po hP hmlt
    have hpn : (partFr f m).n ≤ 5 := Nat.le_trans (mem_len hP.ok hmlt) hn5
    refine iLdA (hB13.ext x5) rfl ?_
    refine iCall ((ok_impl_Poset_on hP.ok (hs.ext (X3.trans x5)) m hmlt).mono ?_)
    rintro _ w6 ⟨x6, vp, rfl, hop⟩
    refine iNew fun b7 w7 hb7 x7 hB7 => ?_
    have hop7 := hop.ext x7
    refine iStAB hB7 rfl rfl (hop7.pair _) fun w8 hu8 hB8 => ?_
    have x58 : Ext w5 w8 := (x6.trans x7).upd hu8 (by have := x6.size; omega)
    have hop8 : Ow w5.heap.size t_i64 w8 vp (ints (nats (partFr f m).a)) := hop7.upd hu8 fun e => by have := (hop.blk _ e).2; omega
    refine iLdA hB8 rfl ?_
    refine iRet (ok_impl_Poset_frame hop8.sl _) fun w9 x9 => ?_
    rw [nats_length, hpp.ok.2.1]
    refine iCall ((ok_impl_congruences hpp.ok (by omega) (hop8.ext x9).sl).mono ?_)
    rintro vl w10 ⟨x10, P, hPL, hPA⟩
    have x510 := (x58.trans x9).trans x10
    have hz5 := x5.size
    have hPl : P.length ≤ 7776 := by
      have h2 := congrArg List.length hPA
      rw [List.length_map] at h2
      rw [h2]
      exact Nat.le_trans (congL_len (by omega)) (Nat.le_trans (Nat.pow_le_pow_right (by omega) hpn) (by decide))
    refine iLenS hPL.row.sl ?_
    rw [List.length_map]
    have hB810 : Blk t_impl_Poset w10 b7 [.int .i64 ((partFr f m).n : Int), vp] := Blk.ext (Blk.ext hB8 x9) x10
    have hop10 := ((hop8.ext x9).ext x10).mono hz5
    have hPL10 := hPL.mono (show w3.heap.size ≤ w9.heap.size by have := (x58.trans x9).size; omega)
    refine iLp (fun s : Value × Nat => [s.1, .int .i64 (s.2 : Int)]) (fun s w' => s.2 ≤ P.length ∧ Ext w3 w' ∧ Blk t_impl_Poset w' b7 [.int .i64 ((partFr f m).n : Int), vp] ∧ Ow w3.heap.size t_i64 w' vp (ints (nats (partFr f m).a)) ∧ LLw w3.heap.size w' vl P ∧ ∃ M, RowF w3.heap.size t_impl_Frame w' s.1 M ∧ RowsF t_i64 w' M ∧ ImL f M ∧ M.length ≤ L.length + s.2 ∧ (0 < L.length → 0 < M.length) ∧ ∀ c ∈ (congL (partFr f m)).take s.2, Rooted (quoF (partFr f m) c) → 0 < M.length) (fun s => P.length - s.2) (vF, 0) rfl
      ⟨Nat.zero_le _, x5.trans x510, hB810, hop10, hPL10, L, hL.ext x510, hR.ext x510, hI, Nat.le_refl _, id, fun c hc => absurd hc (by simp)⟩ ?_
    rintro ⟨vG, j⟩ w12 Kn12 ⟨hj, x12, hB12, hop12, hPL12, M, hM, hRM, hIM, hMl, hMp, hMc⟩ hKn12
    have hj : j ≤ P.length := hj
    have x12 : Ext w3 w12 := x12
    have hM : RowF w3.heap.size t_impl_Frame w12 vG M := hM
    have hMl : M.length ≤ L.length + j := hMl
    have hMc : ∀ c ∈ (congL (partFr f m)).take j, Rooted (quoF (partFr f m) c) → 0 < M.length := hMc
    intro _
    simp only [gx]
    refine iLt (iCndP (fun h2 => ?_) (fun h2 => ?_))
    · have hjk : j < P.length := by omega
      refine hPL12.at hjk ?_
      have hrow := hPL12.each _ (List.getElem_mem hjk)
      have hcg : P[j].2 ∈ congL (partFr f m) := by rw [← hPA]; exact List.mem_map.2 ⟨_, List.getElem_mem hjk, rfl⟩
      have htk : (congL (partFr f m)).take (j + 1) = (congL (partFr f m)).take j ++ [P[j].2] := by
        rw [← hPA, ← List.map_take, List.take_succ_eq_append_getElem hjk, List.map_append, List.map_take]; rfl
      generalize P[j].2 = c at *
      obtain ⟨hcl, hg, hcor⟩ := mem_congL.1 hcg
      have hqp := quo_po hpp hcl hg hcor
      have hq6 : (quoF (partFr f m) c).n ≤ 6 := by
        have := (topG_le c 0).2
        show topG 0 c ≤ 6
        omega
      refine iFa (iLdB hB12 (i := 1) (v := vp) rfl ?_)
      refine iCall ((ok_impl_quotientRelation hpp.ok hop12.sl hrow.sl hg hcl).mono ?_)
      rintro vq w13 ⟨x13, hoq⟩
      refine iCall ((ok_impl_posetOf hoq).mono ?_)
      rintro _ w14 ⟨x14, rfl⟩
      have hq : qR (partFr f m) c (partFr f m).n = (quoF (partFr f m) c).a := by
        have := qR_quoL hpp.ok hg hcor
        rw [hcl] at this; exact this
      rw [hq] at hoq ⊢
      have hql : (quoF (partFr f m) c).a.length = (quoF (partFr f m) c).n := quoF_a hcl hg
      rw [hql]
      refine iNew fun b10 w15 hb10 x15 hB15 => ?_
      have hoq15 := (hoq.ext x14).ext x15
      refine iStAB hB15 rfl rfl (hoq15.pair _) fun w16 hu16 hB16 => ?_
      have x1216 : Ext w12 w16 := ((x13.trans x14).trans x15).upd hu16 (by have := (x13.trans x14).size; omega)
      have hoq16 : Ow w12.heap.size t_i64 w16 vq (ints (nats (quoF (partFr f m) c).a)) := hoq15.upd hu16 fun e => by have := ((hoq.ext x14).blk _ e).2; omega
      have hB16 : Blk t_impl_Poset w16 b10 [.int .i64 ((quoF (partFr f m) c).n : Int), vq] := hB16
      refine iLdA hB16 rfl ?_
      refine iRet (ok_impl_rootZ hqp.ok hoq16.sl) fun w17 x17 => ?_
      have x1217 := x1216.trans x17
      by_cases hrt : Rooted (quoF (partFr f m) c)
      · have hz : rootZ (quoF (partFr f m) c) = (rootN (quoF (partFr f m) c) : Int) := by unfold rootZ; rw [if_pos (rooted_iff.1 hrt)]
        rw [hz]
        refine iLe (iCndT (decide_eq_true (by omega)) ?_)
        refine iFa (iLdB (Blk.ext hB16 x17) (i := 1) (v := vq) rfl ?_)
        refine iCall ((ok_impl_leastRelation (hoq16.ext x17).sl hoq16.cell hq6 hqp.ok.2.1 hqp.ok.2.2).mono ?_)
        rintro ve w18 ⟨x18, hoe⟩
        refine iCall ((ok_impl_frameOf hoe).mono ?_)
        rintro _ w19 ⟨x19, ve', rfl, hoe'⟩
        have x1219 := (x1217.trans x18).trans x19
        have hlen : (nats (least (quoF (partFr f m) c).a)).length = (imF f m c).n := by rw [nats_length]; exact (least_po hqp).ok.2.1
        rw [hlen]
        have hM19 := hM.ext x1219
        have hR19 := hRM.ext x1219
        have hz12 := x12.size
        have hz19 := x1219.size
        refine RowF.app (t := t_Simpl_Frame) u_Simpl_Frame i_Simpl_Frame (by decide) (nats (least (quoF (partFr f m) c).a)) hM19 hoe'.cell (by omega) (by omega) fun v21 w21 hM21 hc21 => ?_
        refine iAdd (by omega) ?_
        have hne : ∀ {e : TypeId} {b : Nat} {cs : List Value}, Blk e w19 b cs → t_impl_Frame ≠ e → ¬ vG.ownBlock = some b := fun hb he => OwK.ne_blk hM19.row hb he
        refine hKn12 (v21, j + 1) _ ⟨hjk, (x12.trans x1219).thenCh hc21 fun b hb => (OwK.blk hM.row b hb).1, (hB12.ext x1219).ch hc21 (hne (hB12.ext x1219) (by decide)), (hop12.ext x1219).ch hc21 fun b hb hv => OwK.ne_ow hM19.row (hop12.ext x1219) (by decide) hv hb, (hPL12.ext x1219).ch hc21 fun b hb => ⟨fun hv => OwK.ne_ow hM19.row (hPL12.ext x1219).row (by decide) hb hv, fun p hp hv => OwK.ne_ow hM19.row ((hPL12.ext x1219).each p hp) (by decide) hb hv⟩, _, hM21, ?_, ?_, ?_, fun _ => by simp, fun _ _ _ => by simp⟩ (by show P.length - (j + 1) < P.length - j; omega)
        · intro r hr
          rcases List.mem_append.1 hr with hr | hr
          · exact hR19.chR hM19 (by decide) hc21 r hr
          · rw [List.mem_singleton] at hr
            subst hr
            have hoe0 : Ow 0 t_i64 w19 ve' (ints (nats (least (quoF (partFr f m) c).a))) := hoe'.mono (Nat.zero_le _)
            exact hoe0.ch hc21 fun b hb hv => OwK.ne_ow hM19.row hoe0 (by decide) hv hb
        · intro r hr
          rcases List.mem_append.1 hr with hr | hr
          · exact hIM r hr
          · rw [List.mem_singleton] at hr
            subst hr
            exact ⟨imF f m c, im_ok hP hm hcg hrt, rfl⟩
        · rw [List.length_append, List.length_singleton]
          show M.length + 1 ≤ L.length + (j + 1)
          omega
      · have hz : rootZ (quoF (partFr f m) c) = -1 := by unfold rootZ; rw [if_neg fun h => hrt (rooted_iff.2 h)]
        rw [hz]
        refine iLe (iCndF (decide_eq_false (by omega)) ?_)
        refine iAdd (by omega) ?_
        refine hKn12 (vG, j + 1) _ ⟨hjk, x12.trans x1217, hB12.ext x1217, hop12.ext x1217, hPL12.ext x1217, M, hM.ext x1217, hRM.ext x1217, hIM, by show M.length ≤ L.length + (j + 1); omega, hMp, fun c' hc' hr' => ?_⟩ (by show P.length - (j + 1) < P.length - j; omega)
        have hc' : c' ∈ (congL (partFr f m)).take (j + 1) := hc'
        rw [htk] at hc'
        rcases List.mem_append.1 hc' with hc' | hc'
        · exact hMc c' hc' hr'
        · rw [List.mem_singleton] at hc'
          subst hc'
          exact absurd hr' hrt
    · refine iAdd (by omega) ?_
      refine hKn (vG, i + 1) _ ⟨hik, x12, M, hM, hRM, hIM, ?_, fun m' hm' c hc hr => ?_⟩ (by show (upsets f).length - (i + 1) < (upsets f).length - i; omega)
      · show M.length ≤ (i + 1) * 7776
        rw [Nat.add_mul]
        omega
      · have hm' : m' ∈ (upsets f).take (i + 1) := hm'
        rw [List.take_succ_eq_append_getElem hik] at hm'
        rcases List.mem_append.1 hm' with hm' | hm'
        · exact hMp (hpos m' hm' c hc hr)
        · rw [List.mem_singleton] at hm'
          have e : (upsets f)[i] = m := by rw [← hmm]; simp [hik]
          rw [hm', e] at hc hr
          refine hMc c ?_ hr
          have hPc : (congL (partFr f m)).length ≤ j := by
            have h3 := congrArg List.length hPA
            rw [List.length_map] at h3
            omega
          rw [List.take_of_length_le hPc]
          exact hc
  · have hie : i = (upsets f).length := by omega
    have hpos2 : 0 < f.n → 0 < L.length := fun h0 => by
      obtain ⟨m, hm, hc, hr⟩ := im_some hP h0
      refine hpos m ?_ _ hc hr
      rw [hie, List.take_length]
      exact hm
    refine iCall ((ok_slices_SortFunc_Simpl_Frame_impl_Frame hL hR (by omega)).mono ?_)
    rintro _ w22 ⟨L2, hL2, hc22, hperm, hsort⟩
    have hR2 : RowsF t_i64 w22 L2 := fun y hy => hR.chR hL (by decide) hc22 y (hperm.mem_iff.1 hy)
    have hl2 := hperm.length_eq
    refine iCall ((ok_slices_CompactFuncF hL2 hR2 (by omega) fun hx hy => ok_impl_RootedImages_1 hx hy).mono ?_)
    rintro vM w23 ⟨hM, hc23, hown⟩
    have hsub : List.Sublist (ddR L2) L2 := by
      have := (ddA_spec (key := keyR) ordP hsort L2.length (Nat.le_refl _)).1
      rwa [List.take_length] at this
    have hRM : RowsF t_i64 w23 (ddR L2) := fun y hy => hR2.chR hL2 (by decide) hc23 y (hsub.subset hy)
    have hIM : ImL f (ddR L2) := fun y hy => hI y (hperm.mem_iff.1 (hsub.subset hy))
    have hMpos : 0 < f.n → 0 < (ddR L2).length := fun h0 => by
      have h1 := hpos2 h0
      have h2 := (ddA_spec (key := keyR) ordP hsort L2.length (Nat.le_refl _)).2.2 (keyR (gt L2 0)) (by rw [List.take_length]; exact List.mem_map.2 ⟨_, by rw [gt_eq (by omega)]; exact List.getElem_mem _, rfl⟩)
      rw [List.take_length] at h2
      obtain ⟨r, hr, _⟩ := List.mem_map.1 h2
      exact List.length_pos_of_mem hr
    have hMl : (ddR L2).length ≤ 256 * 7776 := Nat.le_trans hsub.length_le (by omega)
    have x23 : Ext w3 w23 := (x5.thenCh hc22 fun b hb => (OwK.blk hL.row b hb).1).thenCh hc23 fun b hb => (OwK.blk hL2.row b hb).1
    generalize ddR L2 = M at *
    refine iLenK hM.row.sl ?_
    refine iLp (fun s : Value × Nat => [s.1, .int .i64 (s.2 : Int)]) (fun s w' => s.2 ≤ M.length ∧ Ext w23 w' ∧ RowF w23.heap.size t_impl_Poset w' s.1 (M.take s.2)) (fun s => M.length - s.2) (.slice none 0 0, 0) rfl ⟨Nat.zero_le _, Ext.refl _, RowF.nil _ _ _⟩ ?_
    rintro ⟨vo, k⟩ w25 Kn25 ⟨hk, x25, hO⟩ hKn25
    have hk : k ≤ M.length := hk
    have x25 : Ext w23 w25 := x25
    have hO : RowF w23.heap.size t_impl_Poset w25 vo (M.take k) := hO
    intro _
    simp only [gx]
    refine iLt (iCndP (fun h2 => ?_) (fun h2 => ?_))
    · have hkl : k < M.length := by omega
      have hgm : gt M k ∈ M := by rw [gt_eq hkl]; exact List.getElem_mem _
      refine iRdFr (j := k) (hM.ext x25) rfl hkl ?_
      have htk : M.take (k + 1) = M.take k ++ [gt M k] := by rw [List.take_succ_eq_append_getElem hkl, gt_eq hkl]
      obtain ⟨g, hg, hkey⟩ := hIM _ hgm
      have hrow := hRM.ext x25 _ hgm
      generalize gt M k = r at *
      obtain ⟨rn, rv, rl⟩ := r
      simp only [keyR, Prod.mk.injEq] at hkey
      obtain ⟨rfl, rfl⟩ := hkey
      refine iNew fun b13 w26 hb13 x26 hB26 => ?_
      have hr26 := hrow.ext x26
      refine iStAB hB26 rfl rfl (hr26.pair _) fun w27 hu27 hB27 => ?_
      have x27 : Ext w25 w27 := x26.upd hu27 (by omega)
      have hr27 := hrow.ext x27
      have hB27 : Blk t_impl_Frame w27 b13 [.int .i64 (g.n : Int), rv] := hB27
      refine iFa (iLdB hB27 (i := 1) (v := rv) rfl ?_)
      refine iCall ((ok_impl_posetOf hr27).mono ?_)
      rintro _ w28 ⟨x28, rfl⟩
      rw [hg.po.ok.2.1]
      have hz25 := ((x25.trans x27).trans x28).size
      refine RowF.app (t := t_Simpl_Poset) u_Simpl_Poset i_Simpl_Poset (by decide) (nats g.a) (hO.ext (x27.trans x28)) hrow.cell hz25 (by rw [List.length_take]; omega) fun v30 w30 hO30 hc30 => ?_
      refine iAdd (by omega) ?_
      exact hKn25 (v30, k + 1) _ ⟨hkl, ((x25.trans x27).trans x28).thenCh hc30 fun b hb => (OwK.blk hO.row b hb).1, by show RowF _ _ _ _ (M.take (k + 1)); rw [htk]; exact hO30⟩ (by show M.length - (k + 1) < M.length - k; omega)
    · have hke : k = M.length := by omega
      subst hke
      rw [List.take_length] at hO
      exact ⟨(X3.trans x23).trans x25, _, rfl, fun _ => ⟨M, hO.mono (Nat.le_trans X3.size x23.size), hRM.ext x25, hIM, hMpos⟩⟩
end Go.Proofs.YtikfhibcdhdglaaGreat

/- Contracts: the parts of a formula, in the program and in the reference. Conditions: none. -/
namespace Go.Vc
/-! ### Formulas by their kinds and parts -/
/-! ### Steps -/
section
variable {P : Program} {w : World}
end
end Go.Vc
namespace Go.Proofs.YtikfhibcdhdglaaGreat
open Go.Vc
end Go.Proofs.YtikfhibcdhdglaaGreat

/- Rows of nodes of any kind and sign: which of them are formulas. No program in sight. Conditions: none. -/
namespace Go.Vc
end Go.Vc

/- Contracts: where a formula is forced on a poset, by the program's stack. Conditions: none. -/
namespace Go.Proofs.YtikfhibcdhdglaaGreat
open Go.Vc
end Go.Proofs.YtikfhibcdhdglaaGreat

/- Contracts: which rows of nodes are formulas, in the reference. Conditions: none. -/
namespace Go.Vc
end Go.Vc
namespace Go.Proofs.YtikfhibcdhdglaaGreat
open Go.Vc
end Go.Proofs.YtikfhibcdhdglaaGreat

/- Contracts: which rows of nodes are formulas, in the program; lists of them. Conditions: none. -/
namespace Go.Vc
end Go.Vc
namespace Go.Proofs.YtikfhibcdhdglaaGreat
open Go.Vc
/-! ### Variables -/
end Go.Proofs.YtikfhibcdhdglaaGreat

/- Contracts: valuations; forcing in the reference; IsForcedAt; Shows in the program and the reference. Conditions: none. -/
namespace Go.Proofs.YtikfhibcdhdglaaGreat
open Go.Vc
/-! ### Formulas -/
/-! ### Jankov's formulas are plain -/

/-! ### Valuations -/
/-! ### Forcing in the reference -/
/-! ### IsForcedAt, where all is well -/
end Go.Proofs.YtikfhibcdhdglaaGreat

/- Contracts: Shows in the program and the reference; ShowingValues. Conditions: none. -/
namespace Go.Proofs.YtikfhibcdhdglaaGreat
open Go.Vc
/-! ### ShowingValues, where there is a part -/
end Go.Proofs.YtikfhibcdhdglaaGreat

/- Contracts: drawn posets with valuations (l17Draw, DrawShows). Conditions: none. -/
namespace Go.Vc
theorem Ow.srcD {e e' : TypeId} {lo : Nat} {w0 w w' : World} {vc v : Value} {b : Nat} {xs : List Value} (h : Ow lo e' w v xs) (hS : Vc.Src e w0 vc b w) (hne : e' ≠ e) (k : Ch (fun c => c = b) w w') : Ow lo e' w' v xs :=
  h.ch k fun c hc h' => hS.neOw h hne (by rw [hc, h'])
end Go.Vc
namespace Go.Proofs.YtikfhibcdhdglaaGreat
open Go.Vc
end Go.Proofs.YtikfhibcdhdglaaGreat

/- Contracts: the reference's list of all partitions of a poset. Conditions: none. -/
namespace Go.Vc
def topC (l : List Nat) : Nat := l.foldl (fun t y => max t (y + 1)) 0
theorem topC_snoc (l : List Nat) (y : Nat) : topC (l ++ [y]) = max (topC l) (y + 1) := by simp [topC]
theorem topC_le {x : Nat} {l : List Nat} (h : ∀ y ∈ l, y < x) : topC l ≤ x := by
  have key : ∀ (l : List Nat) (t : Nat), (∀ y ∈ l, y < x) → t ≤ x → l.foldl (fun t y => max t (y + 1)) t ≤ x := by
    intro l
    induction l with
    | nil => exact fun t _ ht => ht
    | cons a l ih =>
      intro t hl ht
      have := hl a List.mem_cons_self
      exact ih _ (fun y hy => hl y (List.mem_cons_of_mem _ hy)) (by show max t (a + 1) ≤ x; omega)
  exact key l 0 h (Nat.zero_le _)
theorem topC_range : ∀ x : Nat, topC (List.range x) = x
  | 0 => rfl
  | x + 1 => by rw [List.range_succ, topC_snoc, topC_range x]; omega
/-- Lists of classes of the first x points, the finest among them. -/
structure PtL (x : Nat) (P : List VC) : Prop where
  all : ∀ p ∈ P, p.2.length = x ∧ ∀ y ∈ p.2, y < x
  size : P.length ≤ 9 ^ x
  disc : ∃ p ∈ P, p.2 = List.range x
end Go.Vc
namespace Go.Proofs.YtikfhibcdhdglaaGreat
open Go.Vc
theorem ok_spec_l21Partitions {f : Fr} (hf : f.ok) {v : Value} {w : World} (hs : SlN w v f.a) :
    Cal Tryz.prog f_spec_l21Partitions #[.agg #[.int .i64 (f.n : Int), v]] w fun r w' => Ext w w' ∧ ∃ Q, LLw w.heap.size w' r Q ∧ 0 < Q.length ∧ Q.length ≤ 9 ^ 8 ∧ ∀ p ∈ Q, p.2.length = f.n ∧ (∀ y ∈ p.2, y < f.n) ∧ corB f p.2 = true := by
  have h8 := hf.1
  have hpow : ∀ {x : Nat}, x ≤ 8 → 9 ^ x ≤ 43046721 := fun {x} hx => Nat.le_trans (Nat.pow_le_pow_right (by omega) hx) (by decide)
  apply c_spec_l21Partitions; unfold S_spec_l21Partitions
  refine iNew fun b w1 hb x1 hB => ?_
  have hB : Blk _ w1 b [.int .i64 (f.n : Int), v] := hB
  have hs1 := hs.ext x1
  refine iBs0 fun v12 w2 hw2 x2 ho12 => ?_
  refine iBs1 rfl ho12.cell fun b13 w3 hb13 x3 hB13 => ?_
  have hL0 : LLw w1.heap.size w3 (.slice (some ⟨b13, 0, none⟩) 1 1) [(v12, [])] := ⟨Ow.ofBlk hB13 (by omega) rfl (by omega), fun p hp => by
    rw [List.mem_singleton] at hp
    subst hp; exact ho12.ext x3⟩
  refine iLp (fun s : Value × Nat => [s.1, .int .i64 (s.2 : Int)]) (fun s w' => s.2 ≤ f.n ∧ Ext w1 w' ∧ ∃ P, LLw w1.heap.size w' s.1 P ∧ PtL s.2 P) (fun s => f.n - s.2) (.slice (some ⟨b13, 0, none⟩) 1 1, 0) rfl
    ⟨Nat.zero_le _, x2.trans x3, _, hL0, ⟨fun p hp => by
      rw [List.mem_singleton] at hp
      subst hp; exact ⟨rfl, by simp⟩, by simp, _, List.mem_singleton.2 rfl, rfl⟩⟩ ?_
  rintro ⟨vl, x⟩ w5 Kn ⟨hx, x5, P, hP, hPt⟩ hKn
  have hx : x ≤ f.n := hx
  have x5 : Ext w1 w5 := x5
  have hP : LLw w1.heap.size w5 vl P := hP
  have hPt : PtL x P := hPt
  have hs5 := x5.size
  intro _
  simp only [gx]
  refine iFa (iLdB (hB.ext x5) (v := .int .i64 (f.n : Int)) rfl ?_)
  refine iLt (iCndP (fun h => ?_) (fun h => ?_))
  · have hxn : x < f.n := by omega
    have h9 := hpow (x := x) (by omega)
    have hsz := hPt.size
    refine iBs0 fun vn w6 hw6 x6 hon => ?_
    have hN0 : LLw w5.heap.size w6 vn [] := ⟨hon, fun p hp => absurd hp (by simp)⟩
    refine iLp (fun s : Value × Nat => [s.1, .int .i64 (s.2 : Int)]) (fun s w' => s.2 ≤ P.length ∧ Ext w5 w' ∧ ∃ Q, LLw w5.heap.size w' s.1 Q ∧ (∀ p ∈ Q, p.2.length = x + 1 ∧ ∀ y ∈ p.2, y < x + 1) ∧ Q.length ≤ 9 * s.2 ∧ ((∃ p ∈ P.take s.2, p.2 = List.range x) → ∃ p ∈ Q, p.2 = List.range (x + 1))) (fun s => P.length - s.2) (vn, 0) rfl
      ⟨Nat.zero_le _, x6, [], hN0, by simp, by simp, by simp⟩ ?_
    rintro ⟨vn, i⟩ w8 Kn8 ⟨hi, x8, Q, hQ, hQa, hQs, hQd⟩ hKn8
    have hi : i ≤ P.length := hi
    have x8 : Ext w5 w8 := x8
    have hQ : LLw w5.heap.size w8 vn Q := hQ
    have hQs : Q.length ≤ 9 * i := hQs
    have hQd : (∃ p ∈ P.take i, p.2 = List.range x) → ∃ p ∈ Q, p.2 = List.range (x + 1) := hQd
    intro _
    simp only [gx]
    have hP8 := hP.ext x8
    refine iLenS hP8.row.sl ?_
    rw [List.length_map]
    refine iLt (iCndP (fun h2 => ?_) (fun h2 => ?_))
    · have hiP : i < P.length := by omega
      obtain ⟨hrl, hry⟩ := hPt.all _ (List.getElem_mem hiP)
      have hrow8 : SlN w8 P[i].1 P[i].2 := (hP8.each _ (List.getElem_mem hiP)).sl
      refine iLp (fun k : Nat => [.int .i64 ((topC (P[i].2.take k) : Nat) : Int), .int .i64 (k : Int)]) (fun k w' => k ≤ x ∧ Ext w8 w') (fun k => x - k) 0 rfl ⟨Nat.zero_le _, Ext.refl _⟩ ?_
      rintro k w10 Kn10 ⟨hk, x10⟩ hKn10
      have hP10 := hP8.ext x10
      have hrow10 := hrow8.ext x10
      intro _
      simp only [gx]
      refine hP10.at hiP (iLenN hrow10 ?_)
      refine iLt (iCndP (fun h3 => ?_) (fun h3 => ?_))
      · have hkl : k < P[i].2.length := by omega
        refine hP10.at hiP (iIaNN hrow10 hkl fun p hp => iLd hp ?_)
        have hyk := hry _ (List.getElem_mem hkl)
        have hg : P[i].2.getD k 0 = P[i].2[k] := by simp [hkl]
        rw [hg]
        refine iAdd (by omega) ?_
        rw [show ((P[i].2[k] : Nat) : Int) + 1 = ((P[i].2[k] + 1 : Nat) : Int) by omega]
        refine iMaxN (iAdd (by omega) ?_)
        rw [← topC_snoc, ← List.take_succ_eq_append_getElem hkl]
        exact hKn10 (k + 1) _ ⟨by omega, x10⟩ (by omega)
      · obtain rfl : k = x := by omega
        rw [List.take_of_length_le (by omega)]
        have htop := topC_le hry
        refine iLp (fun s : Value × Nat => [s.1, .int .i64 (s.2 : Int)]) (fun s w' => s.2 ≤ topC P[i].2 + 1 ∧ Ext w5 w' ∧ ∃ R, LLw w5.heap.size w' s.1 R ∧ (∀ p ∈ R, p.2.length = k + 1 ∧ ∀ y ∈ p.2, y < k + 1) ∧ R.length ≤ 9 * i + s.2 ∧ ((∃ p ∈ P.take i, p.2 = List.range k) → ∃ p ∈ R, p.2 = List.range (k + 1)) ∧ ∀ u, u < s.2 → ∃ p ∈ R, p.2 = P[i].2 ++ [u]) (fun s => topC P[i].2 + 1 - s.2) (vn, 0) rfl
          ⟨Nat.zero_le _, x8.trans x10, Q, hQ.ext x10, hQa, by simpa using hQs, hQd, by simp⟩ ?_
        rintro ⟨vn, u⟩ w12 Kn12 ⟨hu, x12, R, hR, hRa, hRs, hRd, hRu⟩ hKn12
        have hu : u ≤ topC P[i].2 + 1 := hu
        have x12 : Ext w5 w12 := x12
        have hR : LLw w5.heap.size w12 vn R := hR
        have hRs : R.length ≤ 9 * i + u := hRs
        have hRu : ∀ u', u' < u → ∃ p ∈ R, p.2 = P[i].2 ++ [u'] := hRu
        intro _
        simp only [gx]
        refine iLe (iCndP (fun h4 => ?_) (fun h4 => ?_))
        · have hut : u ≤ topC P[i].2 := by omega
          have hP12 := hP.ext x12
          refine hP12.at hiP ?_
          have hrow12 : SlN w12 P[i].1 P[i].2 := (hP12.each _ (List.getElem_mem hiP)).sl
          refine iCall ((ok_spec_l01Own (l := nats P[i].2) hrow12 (by rw [nats_length]; omega)).mono ?_)
          rintro v56 w13 ⟨x13, ho56⟩
          refine iApp1 u_Si64 i_Si64 rfl ho56 rfl (by rw [ints_length, nats_length]; omega) (by rw [ints_length, nats_length]; omega) x13.size fun v59 w15 ho59 hg15 => ?_
          have x15 : Ext w12 w15 := x13.grown hg15 fun b hb => (ho56.blk b hb).1
          have ho59 : Ow w12.heap.size t_i64 w15 v59 (ints (nats (P[i].2 ++ [u]))) := by simpa [ints, nats] using ho59
          have hs12 := x12.size
          have hs15 := x15.size
          refine iApLL (by omega) (hR.ext x15) (ho59.mono hs12) (by omega) fun vn' w17 hR17 hch17 _ => ?_
          refine iAdd (by omega) ?_
          refine hKn12 (vn', u + 1) _ ⟨by show u + 1 ≤ topC P[i].2 + 1; omega, (x12.trans x15).thenCh hch17 fun b hb => (hR.row.blk b hb).1, _, hR17, fun p hp => ?_, by rw [List.length_append, List.length_singleton]; show R.length + 1 ≤ 9 * i + (u + 1); omega, fun hd => ?_, fun u' hu' => ?_⟩ (by show topC P[i].2 + 1 - (u + 1) < topC P[i].2 + 1 - u; omega)
          · rcases List.mem_append.1 hp with hp | hp
            · exact hRa p hp
            · rw [List.mem_singleton] at hp
              subst hp
              refine ⟨by show (P[i].2 ++ [u]).length = k + 1; rw [List.length_append, List.length_singleton]; omega, fun y hy => ?_⟩
              rcases List.mem_append.1 hy with hy | hy
              · have := hry y hy; omega
              · rw [List.mem_singleton] at hy; omega
          · obtain ⟨p, hp, he⟩ := hRd hd
            exact ⟨p, List.mem_append_left _ hp, he⟩
          · have hu' : u' < u + 1 := hu'
            rcases Nat.lt_succ_iff_lt_or_eq.1 hu' with h | rfl
            · obtain ⟨p, hp, he⟩ := hRu u' h
              exact ⟨p, List.mem_append_left _ hp, he⟩
            · exact ⟨_, List.mem_append_right _ (List.mem_singleton.2 rfl), rfl⟩
        · refine iAdd (by omega) ?_
          refine hKn8 (vn, i + 1) _ ⟨hiP, x12, R, hR, hRa, by show R.length ≤ 9 * (i + 1); omega, fun hd => ?_⟩ (by show P.length - (i + 1) < P.length - i; omega)
          obtain ⟨p, hp, he⟩ := hd
          have hp : p ∈ P.take (i + 1) := hp
          rw [List.take_succ_eq_append_getElem hiP] at hp
          rcases List.mem_append.1 hp with hp | hp
          · exact hRd ⟨p, hp, he⟩
          · rw [List.mem_singleton] at hp
            subst hp
            have ht : topC P[i].2 = k := by rw [he, topC_range]
            obtain ⟨p, hp, he2⟩ := hRu k (by omega)
            exact ⟨p, hp, by rw [he2, he, List.range_succ]⟩
    · refine iAdd (by omega) ?_
      have hi2 : i = P.length := by omega
      subst hi2
      refine hKn (vn, x + 1) _ ⟨hxn, x5.trans x8, Q, hQ.mono hs5, ⟨hQa, ?_, hQd ?_⟩⟩ (by show f.n - (x + 1) < f.n - x; omega)
      · show Q.length ≤ 9 ^ (x + 1)
        rw [Nat.pow_succ]; omega
      · rw [List.take_length]; exact hPt.disc
  · obtain rfl : x = f.n := by omega
    have h9 := hpow (x := f.n) (by omega)
    have hsz := hPt.size
    refine iBs0 fun vo w18 hw18 x18 hoo => ?_
    have hO0 : LLw w1.heap.size w18 vo [] := ⟨hoo.mono hs5, fun p hp => absurd hp (by simp)⟩
    refine iLp (fun s : Value × Nat => [s.1, .int .i64 (s.2 : Int)]) (fun s w' => s.2 ≤ P.length ∧ Ext w5 w' ∧ (∀ b, s.1.ownBlock = some b → w5.heap.size ≤ b) ∧ ∃ Q, LLw w1.heap.size w' s.1 Q ∧ Q.length ≤ s.2 ∧ (∀ p ∈ Q, p.2.length = f.n ∧ (∀ y ∈ p.2, y < f.n) ∧ corB f p.2 = true) ∧ ((∃ p ∈ P.take s.2, p.2 = List.range f.n) → 0 < Q.length)) (fun s => P.length - s.2) (vo, 0) rfl
      ⟨Nat.zero_le _, x18, fun b hb => (hoo.blk b hb).1, [], hO0, Nat.le_refl _, by simp, by simp⟩ ?_
    rintro ⟨vo, i⟩ w20 Kn20 ⟨hi, x20, hob, Q, hQ, hQs, hQa, hQd⟩ hKn20
    have hi : i ≤ P.length := hi
    have x20 : Ext w5 w20 := x20
    have hob : ∀ b, vo.ownBlock = some b → w5.heap.size ≤ b := hob
    have hQ : LLw w1.heap.size w20 vo Q := hQ
    have hQs : Q.length ≤ i := hQs
    have hQd : (∃ p ∈ P.take i, p.2 = List.range f.n) → 0 < Q.length := hQd
    have hP20 := hP.ext x20
    intro _
    simp only [gx]
    refine iLenS hP20.row.sl ?_
    rw [List.length_map]
    refine iLt (iCndP (fun h2 => ?_) (fun h2 => ?_))
    · have hiP : i < P.length := by omega
      obtain ⟨hrl, hry⟩ := hPt.all _ (List.getElem_mem hiP)
      refine iLdA (hB.ext (x5.trans x20)) rfl ?_
      refine hP20.at hiP ?_
      have hrow : SlN w20 P[i].1 P[i].2 := (hP20.each _ (List.getElem_mem hiP)).sl
      have hsp := x5.trans x20
      refine iRetQ (fun w' x' => ok_spec_l21Correct hf ((hs1.ext hsp).ext x') (hrow.ext x') hrl (fun y hy => by have := hry y hy; omega)) ?_
      intro w21 x21
      cases hcb : corB f P[i].2
      · refine iCndF rfl (iAdd (by omega) ?_)
        refine hKn20 (vo, i + 1) _ ⟨hiP, x20.trans x21, hob, Q, hQ.ext x21, by show Q.length ≤ i + 1; omega, hQa, fun hd => ?_⟩ (by show P.length - (i + 1) < P.length - i; omega)
        obtain ⟨p, hp, he⟩ := hd
        have hp : p ∈ P.take (i + 1) := hp
        rw [List.take_succ_eq_append_getElem hiP] at hp
        rcases List.mem_append.1 hp with hp | hp
        · exact hQd ⟨p, hp, he⟩
        · rw [List.mem_singleton] at hp
          subst hp
          rw [he, corB_range] at hcb
          cases hcb
      · refine iCndT rfl ?_
        have hP21 := hP20.ext x21
        refine hP21.at hiP ?_
        have hs20 := hsp.size
        have hs21 := x21.size
        refine iApLL (by omega) (hQ.ext x21) (hP21.each _ (List.getElem_mem hiP)) (by omega) fun vo' w23 hQ23 hch23 hat => ?_
        refine iAdd (by omega) ?_
        have hs520 := x20.size
        refine hKn20 (vo', i + 1) _ ⟨hiP, (x20.trans x21).thenCh hch23 hob, fun b hb => ?_, _, hQ23, by rw [List.length_append, List.length_singleton]; show Q.length + 1 ≤ i + 1; omega, fun p hp => ?_, fun _ => by rw [List.length_append, List.length_singleton]; omega⟩ (by show P.length - (i + 1) < P.length - i; omega)
        · rcases hat with h | ⟨c, h, hc⟩
          · exact hob b (by rw [← h]; exact hb)
          · have hb : vo'.ownBlock = some b := hb
            rw [h] at hb
            injection hb with hb
            omega
        · rcases List.mem_append.1 hp with hp | hp
          · exact hQa p hp
          · rw [List.mem_singleton] at hp
            subst hp
            exact ⟨hrl, hry, hcb⟩
    · have hi2 : i = P.length := by omega
      subst hi2
      rw [List.take_length] at hQd
      exact ⟨x1.trans (x5.trans x20), Q, hQ.mono x1.size, hQd hPt.disc, by omega, hQa⟩
end Go.Proofs.YtikfhibcdhdglaaGreat

/- Contracts: a drawn poset with a partition. Conditions: none. -/
namespace Go.Proofs.YtikfhibcdhdglaaGreat
open Go.Vc
theorem ints_put (l : List Int) (j : Nat) (z : Int) : (ints l).set j (.int .i64 z) = ints (l.set j z) := by unfold ints; rw [List.map_set]
theorem ok_spec_DrawQuotientPoset {vc : Value} {w : World} {bs : List Nat} (hc : SlB w vc bs) : Cal Tryz.prog f_spec_DrawQuotientPoset #[vc] w fun r w' => Ext w w' ∧ ∃ (n : Int) (l : List Int) (v : Value) (m : List Int) (vm : Value),
    r = .tuple #[.agg #[.int .i64 n, v], vm] ∧ Ow w.heap.size t_i64 w' v (ints l) ∧ Ow w.heap.size t_i64 w' vm (ints m) := by
  apply c_spec_DrawQuotientPoset; unfold S_spec_DrawQuotientPoset
  refine iNew fun b2 w1 hb2 x1 hB2 => ?_
  have hB2 : Blk 26 w1 b2 [.int .i64 0, .slice none 0 0] := hB2
  have hc1 := hc.ext x1
  refine iCall ((ok_spec_l01FromE hc1).mono ?_)
  rintro _ w2 ⟨b, rfl, hS2⟩
  have hb := hS2.lo
  have x2 := hS2.ext
  refine iCall ((ok_spec_l16Draw (by decide) hc1 hS2 5 (by omega)).mono ?_)
  rintro _ w3 ⟨⟨n, l, v, rfl, hll, ho⟩, hS3, hch3⟩
  have hB2 := (hB2.ext x2).ch hch3 (by omega)
  have hz1 := x1.size
  have hz2 := x2.size
  have X3 : Ext w w3 := (x1.trans x2).thenCh hch3 fun c h => by omega
  have hz3 := X3.size
  have ho := ho.mono (show w.heap.size ≤ w2.heap.size by omega)
  have hblt := hS3.lt
  refine iNew fun b5 w4 hb5 x4 hB5 => ?_
  refine iStAB hB5 rfl rfl ((ho.ext x4).pair n) fun w5 hu5 hB5 => ?_
  have hB5 : Blk 26 w5 b5 [.int .i64 n, v] := hB5
  have x35 : Ext w3 w5 := x4.upd hu5 (by omega)
  have ho5 := ho.ext x35
  have hS5 := hS3.later x35
  have hB25 := hB2.ext x35
  have X5 := X3.trans x35
  have hb2l := hB2.lt
  refine iLdA hB5 rfl ?_
  refine iRet (ok_spec_l16Is ho5.sl n) fun w6 x6 => iNot ?_
  have hS6 := hS5.later x6
  have hB5 := hB5.ext x6
  have ho6 := ho5.ext x6
  have hB26 := hB25.ext x6
  have X6 := X5.trans x6
  have hz6 := X6.size
  cases hp : posetOk n l
  · refine iCndT rfl (iLdA hB5 rfl ?_)
    refine iBs1 rfl rfl fun g w7 hg x7 hG => ?_
    have hom : Ow w.heap.size t_i64 w7 (.slice (some ⟨g, 0, none⟩) 1 1) (ints [0]) := Ow.ofBlk hG (by omega) rfl (by omega)
    have hB27 := hB26.ext x7
    have ho7 := ho6.ext x7
    refine iStAB hB27 rfl rfl (ho7.pair n) fun w8 hu8 hB8 => iLdA hB8 rfl ?_
    exact ⟨(X6.trans x7).upd hu8 (by omega), n, l, v, [0], _, rfl, ho7.upd hu8 (ho7.ne_blk hB27 (by decide)), hom.upd hu8 (hom.ne_blk hB27 (by decide))⟩
  · obtain ⟨hP, hn0, hl0⟩ := posetOk_po hp
    have hp8 := hP.ok.1
    have hQs : ∀ {w' : World}, SlI w' v l → SlN w' v (frOf n l).a := fun h => by
      unfold SlN
      rw [← hl0]; exact h
    refine iCndF rfl (iLdA hB5 rfl ?_)
    have hU := ok_spec_l21Partitions hP.ok (hQs ho6.sl)
    rw [← hn0] at hU
    refine iCall (hU.mono ?_)
    rintro vp w10 ⟨x10, Q, hQ, hQ0, hQs9, hQa⟩
    have hS10 := hS6.later x10
    refine iLenS hQ.row.sl ?_
    rw [List.length_map]
    refine iCall ((ok_spec_l01Next hc1 hS10 (Q.length : Nat)).mono ?_)
    rintro _ w11 ⟨⟨j, rfl, hj, _⟩, hS11, hch11⟩
    have hj : j < Q.length := by have := hj (by omega); omega
    have hQ11 : LLw w6.heap.size w11 vp Q := ⟨hQ.row.ch hch11 fun c hc' e => (hS10.neOw hQ.row (by decide)) (by rw [hc', e]), fun p hp => (hQ.each p hp).srcD hS10 (by decide) hch11⟩
    refine hQ11.at hj ?_
    obtain ⟨hql, hqy, _⟩ := hQa _ (List.getElem_mem hj)
    have hC11 : Ch (fun c => c = b) w6 w11 := ch_self x10.ch hch11
    refine iCall ((ok_spec_l01Own (hQ11.each _ (List.getElem_mem hj)).sl (by rw [nats_length]; omega)).mono ?_)
    rintro vm w12 ⟨x12, hom⟩
    have hS12 := hS11.later x12
    have hC12 : Ch (fun c => c = b) w6 w12 := ch_self hC11 x12.ch
    have hz11 := hC11.size
    have hvm : ∀ c, vm.ownBlock = some c → w11.heap.size ≤ c := fun c h => (hom.blk c h).1
    have hom := hom.mono (show w.heap.size ≤ w11.heap.size by omega)
    have ho12 : Ow w.heap.size t_i64 w12 v (ints l) := ((ho6.ext x10).srcD hS10 (by decide) hch11).ext x12
    have hB2c := hB26.ch hC12 (by omega)
    have hB5c := hB5.ch hC12 (by omega)
    have hml : (nats Q[j].2).length = (frOf n l).n := by rw [nats_length, hql]
    generalize nats Q[j].2 = m at *
    refine iJnX (fun xs wq => ∃ t, xs = [.bool t] ∧ (t = true → 0 < m.length) ∧ Vc.Src 143 w1 vc b wq ∧ Ch (fun c => c = b) w12 wq) (fun J hJ => ?_) ?_
    · refine iCall ((ok_spec_l01Next hc1 hS12 6).mono ?_)
      rintro _ w15 ⟨⟨x, rfl, _, _⟩, hS15, hch15⟩
      refine iEq (iCndP (fun _ => ?_) (fun _ => hJ _ _ ⟨false, rfl, fun h => (by cases h), hS15, hch15⟩))
      refine iLenI (hom.srcD hS12 (by decide) hch15).sl ?_
      exact iLt (hJ _ _ ⟨_, rfl, fun h => by have := of_decide_eq_true h; omega, hS15, hch15⟩)
    rintro _ w14 ⟨t, rfl, ht, hS14, hch14⟩
    intro _
    simp only [gx]
    have hom14 := hom.srcD hS12 (by decide) hch14
    have ho14 := ho12.srcD hS12 (by decide) hch14
    have hC14 : Ch (fun c => c = b) w6 w14 := ch_self hC12 hch14
    have hz12 := hC12.size
    have hB2d := hB2c.ch hch14 (by omega)
    have hB5d := hB5c.ch hch14 (by omega)
    refine iJnX (fun xs wq => xs = [] ∧ ∃ m', Ow w.heap.size t_i64 wq vm (ints m') ∧ Ow w.heap.size t_i64 wq v (ints l) ∧ Blk 26 wq b2 [.int .i64 0, .slice none 0 0] ∧ Blk 26 wq b5 [.int .i64 n, v] ∧ Ext w wq) (fun J hJ => ?_) ?_
    · have X14 : Ext w w14 := X6.thenCh hC14 fun c h => by omega
      cases t
      · exact iCndF rfl (hJ _ _ ⟨rfl, m, hom14, ho14, hB2d, hB5d, X14⟩)
      refine iCndT rfl ?_
      have hm0 := ht rfl
      refine iLenI hom14.sl ?_
      refine iCall ((ok_spec_l01Next hc1 hS14 (m.length : Nat)).mono ?_)
      rintro _ w18 ⟨⟨i, rfl, hi, _⟩, hS18, hch18⟩
      have hi : i < m.length := by have := hi (by omega); omega
      refine iCall ((ok_spec_l01Next hc1 hS18 4).mono ?_)
      rintro _ w19 ⟨⟨y, rfl, hy, _⟩, hS19, hch19⟩
      refine iCall ((ok_spec_l01Next hc1 hS19 4).mono ?_)
      rintro _ w20 ⟨⟨z, rfl, hz, _⟩, hS20, hch20⟩
      have hy := hy (by omega)
      have hz := hz (by omega)
      refine iQuo (by omega) ?_
      refine iSub (by omega) ?_
      have hC20 : Ch (fun c => c = b) w14 w20 := (hch18.trans hch19 fun _ h => .inl h).trans hch20 fun _ h => .inl h
      have hom20 : Ow w.heap.size t_i64 w20 vm (ints m) := ((hom14.srcD hS14 (by decide) hch18).srcD hS18 (by decide) hch19).srcD hS19 (by decide) hch20
      have ho20 : Ow w.heap.size t_i64 w20 v (ints l) := ((ho14.srcD hS14 (by decide) hch18).srcD hS18 (by decide) hch19).srcD hS19 (by decide) hch20
      have hz14 := hC14.size
      have hB2e := hB2d.ch hC20 (by omega)
      have hB5e := hB5d.ch hC20 (by omega)
      refine iIaOwE hom20 (j := i) (by rw [ints_length]; exact hi) fun bu hbu hwr => ?_
      obtain ⟨h1, h2, h3⟩ := hwr w20 _ rfl hom20
      rw [List.getElem?_eq_getElem (by rw [ints_length]; exact hi)] at h1
      refine iSt h1 h2 rfl ?_
      have h3 := h3 (.int .i64 ((y : Int) - (z : Int) / 3))
      rw [ints_put] at h3
      have hu := Upd.setCell w20 bu i (.int .i64 ((y : Int) - (z : Int) / 3))
      have hbo := hom20.blk bu hbu
      have hne : v.ownBlock ≠ some bu := fun e => by
        have h4 := hvm bu hbu
        have h5 := (ho6.blk bu e).2
        omega
      refine hJ _ _ ⟨rfl, _, h3, ho20.upd hu hne, hB2e.upd hu fun e => hom20.ne_blk hB2e (by decide) (by rw [e]; exact hbu), hB5e.upd hu fun e => hom20.ne_blk hB5e (by decide) (by rw [e]; exact hbu), ?_⟩
      exact (X14.thenCh hC20 fun c h => by omega).upd hu hbo.1
    rintro _ w17 ⟨rfl, m', hom17, ho17, hB2f, hB5f, X17⟩
    intro _
    refine iLdA hB5f rfl ?_
    refine iStAB hB2f rfl rfl (ho17.pair n) fun w22 hu22 hB22 => iLdA hB22 rfl ?_
    exact ⟨X17.upd hu22 (by omega), n, l, v, m', vm, rfl, ho17.upd hu22 (ho17.ne_blk hB2f (by decide)), hom17.upd hu22 (hom17.ne_blk hB2f (by decide))⟩
end Go.Proofs.YtikfhibcdhdglaaGreat

/- Contracts: UpsetOf, PartOfPoset, IsPosetMorphism at a morphism, IsPoset, the laws' full set. Conditions: none. -/
namespace Go.Proofs.YtikfhibcdhdglaaGreat
open Go.Vc
theorem ok_impl_IsPosetMorphism_good {f g : Fr} (hf : Po f) (hg : Po g) {v0 v1 v : Value} {w : World} (h0 : SlN w v0 f.a) (h1 : SlN w v1 g.a) {im : List Nat} (hs : SlN w v im) (hl : im.length = f.n) (hy : ∀ y ∈ im, y < g.n) (hm : ∀ x, x < f.n → img im (f.a.getD x 0) = g.a.getD (im.getD x 0) 0) :
    Ret Tryz.prog f_impl_IsPosetMorphism #[.agg #[.int .i64 (f.n : Int), v0], .agg #[.int .i64 (g.n : Int), v1], v] w (.tuple #[.bool true, .int .i64 0]) := by
  apply c_impl_IsPosetMorphism; unfold S_impl_IsPosetMorphism
  refine iNew fun b3 w1 _ x1 hB3 => ?_
  refine iNew fun b4 w2 _ x2 hB4 => ?_
  have hB3 : Blk _ w2 b3 [.int .i64 (f.n : Int), v0] := hB3.ext x2
  have hB4 : Blk _ w2 b4 [.int .i64 (g.n : Int), v1] := hB4
  have X2 := x1.trans x2
  refine iLdA hB3 rfl (iLdA hB4 rfl ?_)
  refine iBs22 fun bb w3 hbb x3 hBB => ?_
  have X3 := X2.trans x3
  refine iRet (ok_impl_arePosets (h0.ext X3) (h1.ext X3) (f.n : Int) (g.n : Int) hBB) fun w4 x4 => ?_
  unfold codeP
  rw [posetOk_ofJ hf, posetOk_ofJ hg]
  refine iNe (iCndF rfl ?_)
  refine iLdA ((hB3.ext x3).ext x4) rfl (iLdA ((hB4.ext x3).ext x4) rfl ?_)
  have X4 := X3.trans x4
  exact iRet (ok_impl_isPosetMorphism_good hf.ok hg.ok (h0.ext X4) (h1.ext X4) (hs.ext X4) hl hy hm) fun w5 x5 => ⟨rfl, X4.trans x5⟩
theorem ok_impl_IsPoset {v : Value} {w : World} {l : List Int} (hs : SlI w v l) (n : Int) : Ret Tryz.prog f_impl_IsPoset #[.agg #[.int .i64 n, v]] w (.bool (posetOk n l)) := by
  apply c_impl_IsPoset; unfold S_impl_IsPoset
  refine iNew fun b w1 _ x1 hB => ?_
  refine iLdA hB rfl ?_
  exact iRet (ok_impl_isPoset (hs.ext x1) n) fun w2 x2 => ⟨rfl, x1.trans x2⟩
end Go.Proofs.YtikfhibcdhdglaaGreat

/- The laws' helpers: sizes of codes, equal lists and frames. Conditions: none. -/
namespace Go.Vc
end Go.Vc
namespace Go.Proofs.YtikfhibcdhdglaaGreat
open Go.Vc
theorem ok_laws_big {vc : Value} {w : World} {bs : List Nat} (hc : SlB w vc bs) : Ret Tryz.prog f_laws_big #[vc] w (.bool (decide ((4096 : Int) < (bs.length : Nat)))) := by
  apply c_laws_big; unfold S_laws_big
  refine iLenB hc ?_
  refine iLt ?_
  exact ⟨rfl, Ext.refl _⟩
theorem ok_laws_likeInts {v v' : Value} {w : World} {l l' : List Int} (hs : SlI w v l) (hs' : SlI w v' l') : Ret Tryz.prog f_laws_likeInts #[v, v'] w (.bool (decide (l = l'))) := by
  apply c_laws_likeInts; unfold S_laws_likeInts
  have hl := hs.len
  have hl' := hs'.len
  ((with_reducible refine iLenI (by assumption) ?_; refine iLenI (by assumption) ?_; refine iNe ?_))
  refine iCndP (fun h => ?_) (fun h => ?_)
  · rw [decide_eq_false (fun e => h (by rw [e]))]
    exact ⟨rfl, Ext.refl _⟩
  · have h : l.length = l'.length := by omega
    refine iLp (fun k : Nat => [.int .i64 (k : Int)]) (fun k w' => k ≤ l.length ∧ Ext w w' ∧ l.take k = l'.take k) (fun k => l.length - k) 0 rfl ⟨Nat.zero_le _, Ext.refl _, by simp⟩ ?_
    rintro k w2 Kn ⟨hk, h2, he⟩ hKn
    have hs2 := hs.ext h2
    have hs2' := hs'.ext h2
    (intro _; (try simp only [gx]); (with_reducible refine iLenI (by assumption) ?_; refine iLt ?_))
    refine iCndP (fun h3 => ?_) (fun h3 => ?_)
    · have hk1 : k < l.length := by omega
      have hk2 : k < l'.length := by omega
      have e1 : l.getD k 0 = l[k] := by simp [List.getD_eq_getElem?_getD, hk1]
      have e2 : l'.getD k 0 = l'[k] := by simp [List.getD_eq_getElem?_getD, hk2]
      ((with_reducible refine iIaN (by assumption) ?_ (fun pa_ hpa_ => ?_)); omega; (with_reducible refine iLd (by assumption) ?_); (with_reducible refine iIaN (by assumption) ?_ (fun pa_ hpa_ => ?_)); omega; (with_reducible refine iLd (by assumption) ?_; refine iNe ?_))
      rw [e1, e2]
      intro w3 h4
      refine iCndP (fun h5 => ?_) (fun h5 => ?_)
      · rw [decide_eq_false (fun e => by subst e; exact h5 rfl)]
        exact ⟨rfl, h2.trans h4⟩
      · (refine iAdd (by omega) ?_)
        refine hKn (k + 1) _ ⟨by omega, h2.trans h4, ?_⟩ (by omega)
        rw [List.take_succ_eq_append_getElem hk1, List.take_succ_eq_append_getElem hk2, he]
        congr 2
        exact Classical.not_not.1 h5
    · obtain rfl : k = l.length := by omega
      rw [List.take_length, h, List.take_length] at he
      rw [decide_eq_true he]
      exact ⟨rfl, h2⟩
end Go.Proofs.YtikfhibcdhdglaaGreat

/- The law on quotients: its contract. Conditions: none. -/
namespace Go.Vc
theorem iBoolQ {p a b : Bool} {K : Value → Prop} (h : K (.bool (p == (a == b)))) : xBoolEq p (.bool a) (.bool b) K := ⟨a, b, rfl, rfl, h⟩
end Go.Vc
namespace Go.Proofs.YtikfhibcdhdglaaGreat
open Go.Vc
theorem image_zeroQ {f g : Fr} (hf : Po f) (hg : Po g) {c : List Nat} (hc : c ∈ leaves (fitsB f g true false) g.n f.n []) : (imageOut (f.n : Int) (nats f.a) (g.n : Int) (nats g.a)).2 = 0 := by
  have h0 := posetOk_of hf
  have h1 := posetOk_of hg
  unfold imageOut firstOut
  rw [h0, h1, (posetOk_frame h0).1, (posetOk_frame h1).1, frOf_nats, frOf_nats]
  simp only [Bool.and_self, if_true]
  split
  · rename_i e
    rw [e] at hc; simp at hc
  · rfl
theorem part_zeroQ {f g : Fr} (hf : Po f) (hg : Po g) (h : Bel f g) : (partRes (f.n : Int) (nats f.a) (g.n : Int) (nats g.a)).2.2 = 0 := by
  unfold partRes
  rw [posetOk_of hf, posetOk_of hg, frOf_nats, frOf_nats, (bel_iff hf hg.ok).2 h]
  rfl
theorem ok_laws_samePoset9Q {w : World} {n : Int} {l : List Int} {va vb : Value} (ha : SlI w va l) (hb : SlI w vb l) : Ret Tryz.prog f_laws_samePoset9 #[.agg #[.int .i64 n, va], .agg #[.int .i64 n, vb]] w (.bool true) := by
  apply c_laws_samePoset9; unfold S_laws_samePoset9
  refine iNew fun b2 w1 hb2 x1 hB2 => ?_
  refine iNew fun b3 w2 hb3 x2 hB3 => ?_
  have hB2 : Blk _ w2 b2 [.int .i64 n, va] := hB2.ext x2
  have hB3 : Blk _ w2 b3 [.int .i64 n, vb] := hB3
  have hX := x1.trans x2
  refine iJnB true w2 (fun J hJ => ?_) (fun w4 h4 => ?_)
  · ((with_reducible refine iFa ?_); refine iLdB (by assumption) (by first | rfl | simp) ?_; (with_reducible refine iFa ?_); refine iLdB (by assumption) (by first | rfl | simp) ?_; (with_reducible refine iEq ?_))
    refine iCndP (fun _ => ?_) (fun h => absurd rfl h)
    ((with_reducible refine iFa ?_); refine iLdB (by assumption) (by first | rfl | simp) ?_; (with_reducible refine iFa ?_); refine iLdB (by assumption) (by first | rfl | simp) ?_)
    refine iRet (ok_laws_likeInts (ha.ext hX) (hb.ext hX)) fun w5 x5 => ?_
    rw [decide_eq_true rfl]
    exact hJ w5 x5
  · intro _
    simp only [gx]
    exact ⟨by first | trivial | rfl, hX.trans h4⟩
theorem ok_laws_FnQuotients {w : World} {vc : Value} {bs : List Nat} (hc : SlB w vc bs) : Ret Tryz.prog f_laws_FnQuotients #[vc] w (.bool true) := by
  apply c_laws_FnQuotients; unfold S_laws_FnQuotients
  refine iRet (ok_laws_big hc) fun w1 x1 => ?_
  refine iCndP (fun _ => ⟨rfl, x1⟩) (fun _ => ?_)
  refine iCall ((ok_spec_DrawQuotientPoset (hc.ext x1)).mono ?_)
  rintro _ w2 ⟨x2, n, l, v, m, vm, rfl, hov, hom⟩
  refine iEx (by rfl) (iEx (by rfl) ?_)
  have X2 := x1.trans x2
  refine iNew fun b3 w3 hb3 x3 hB3 => ?_
  refine iStAB hB3 rfl rfl ((hov.ext x3).pair n) fun w4 hu4 hB3 => ?_
  have hB3 : Blk 26 w4 b3 [.int .i64 n, v] := hB3
  have x24 : Ext w2 w4 := x3.upd hu4 (by omega)
  have hs4 : SlI w4 v l := (hov.ext x24).sl
  have hm4 : SlI w4 vm m := (hom.ext x24).sl
  have X4 := X2.trans x24
  refine iLdA hB3 rfl ?_
  refine iCall ((ok_impl_QuotientPoset hs4 hm4).mono ?_)
  rintro _ w5 ⟨x5, vq, rfl, hoq⟩
  refine iEx (by rfl) (iEx (by rfl) ?_)
  refine iNew fun b5 w6 hb5 x6 hB5 => ?_
  refine iStAB hB5 rfl rfl ((hoq.ext x6).pair _) fun w7 hu7 hB5 => ?_
  have x57 : Ext w5 w7 := x6.upd hu7 (by omega)
  have x47 := x5.trans x57
  refine iLdA (hB3.ext x47) rfl ?_
  refine iCall ((ok_spec_QuotientPoset (hs4.ext x47) (hm4.ext x47)).mono ?_)
  rintro _ w8 ⟨x8, vr, rfl, hor⟩
  refine iEx (by rfl) (iEx (by rfl) ?_)
  refine iNew fun b7 w9 hb7 x9 hB7 => ?_
  refine iStAB hB7 rfl rfl ((hor.ext x9).pair _) fun w10 hu10 hB7 => ?_
  have x810 : Ext w8 w10 := x9.upd hu10 (by omega)
  have x410 := (x47.trans x8).trans x810
  have hB5 : Blk 26 w10 b5 [.int .i64 (quoOut n l m).1, vq] := (Blk.ext hB5 x8).ext x810
  have hq10 : SlI w10 vq (quoOut n l m).2.1 := (((hoq.ext x57).ext x8).ext x810).sl
  have hr10 : SlI w10 vr (quoOut n l m).2.1 := (hor.ext x810).sl
  refine iJnB false w10 (fun J hJ => ?_) (fun w12 x12 => fun _ => iCndF rfl ?_)
  · refine iNe (iCndF (decide_eq_false fun h => h rfl) ?_)
    refine iLdA hB5 rfl (iLdA hB7 rfl ?_)
    refine iRet (ok_laws_samePoset9Q hq10 hr10) fun w13 x13 => iNot ?_
    exact hJ _ x13
  have x412 := x410.trans x12
  have X12 := X4.trans x412
  refine iEq (iCndP (fun _ => ⟨rfl, X12⟩) (fun h1 => ?_))
  have hpo : posetOk n l = true := by
    cases hp : posetOk n l
    · rw [quoOut_bad hp] at h1; exact absurd rfl h1
    · rfl
  obtain ⟨hP, hn0, hl0⟩ := posetOk_po hpo
  have hf8 := hP.ok.1
  have hz : (quoOut n l m).2.2 = 0 ↔ congB (frOf n l) m = true := by
    cases hcg : congB (frOf n l) m
    · rw [quoOut_no hpo hcg]; simp
    · obtain ⟨c, rfl, _⟩ := congB_iff.1 hcg
      rw [quoOut_at hpo hcg]; simp
  have hB312 := hB3.ext x412
  have hB512 := hB5.ext x12
  have hs12 : SlN w12 v (frOf n l).a := by
    have := hs4.ext x412
    rw [hl0] at this; exact this
  refine iEq ?_
  refine iJnE True w12 (fun J hJ => ?_) (fun w15 x15 _ => fun _ => ?_)
  · refine iCndP (fun h0 => ?_) (fun _ => hJ _ (Ext.refl _) trivial)
    obtain ⟨c, rfl, hcl, hg, hcor⟩ := congB_iff.1 (hz.1 h0)
    have hqo := quoOut_at hpo (hz.1 h0)
    rw [hqo] at hq10 hB512
    have hqp := quo_po hP hcl hg hcor
    have hq12 : SlN w12 vq (quoF (frOf n l) c).a := hq10.ext x12
    refine iLdA hB312 rfl (iLdA hB512 rfl ?_)
    have hmor := fun {w'} (x : Ext w12 w') => ok_impl_IsPosetMorphism_good hP hqp (hs12.ext x) (hq12.ext x) ((hm4.ext x412).ext x) hcl (grB_lt c 0 hg) (fun x hx => quo_mor hP.ok hcl hg hcor hx)
    rw [← hn0] at hmor
    refine iRet (hmor (Ext.refl _)) fun w16 x16 => ?_
    refine iEx (by rfl) (iEx (by rfl) ?_)
    refine iLdA (hB312.ext x16) rfl (iLdA (hB512.ext x16) rfl ?_)
    refine iCall ((ok_impl_FindImage (hs12.ext x16) (hq12.ext x16) n _).mono ?_)
    rintro _ w17 ⟨x17, vi, rfl, _⟩
    have him := image_zeroQ hP hqp (quo_leaf hP hcl hg hcor)
    rw [← hn0] at him
    refine iEx (by rfl) (iEx (by rfl) ?_)
    have hB5' := hB512.ext (x16.trans x17)
    have e0 : (imageOut n (nats (frOf n l).a) ((quoF (frOf n l) c).n : Int) (nats (quoF (frOf n l) c).a)).2 = 0 := him
    refine iJnB false w17 (fun J2 hJ2 => ?_) (fun w19 x19 => fun _ => iCndF rfl (hJ _ ((x16.trans x17).trans x19) trivial))
    rw [e0]
    refine iAdd (by omega) (iNe (iCndF (by decide) ?_))
    refine iNot (iCndF rfl ?_)
    refine iLdA hB5' rfl ?_
    refine iRet (ok_impl_IsPoset (hq12.ext (x16.trans x17)) _) fun w20 x20 => iNot ?_
    rw [posetOk_of hqp]
    exact hJ2 _ x20
  have hB315 := hB312.ext x15
  have hs15 := hs12.ext x15
  have X15 := X12.trans x15
  refine iLdA hB315 rfl ?_
  have hcp := ok_impl_CorrectPartitions hP hs15
  rw [← hn0] at hcp
  refine iCall (hcp.mono ?_)
  rintro _ w21 ⟨x21, vl, rfl, hlist⟩
  refine iEx (by rfl) (iEx (by rfl) ?_)
  have X21 := X15.trans x21
  refine iEq ?_
  refine iJnE True w21 (fun J hJ => ?_) (fun w23 x23 _ => fun _ => ?_)
  · refine iCndP (fun h5 => ?_) (fun _ => hJ _ (Ext.refl _) trivial)
    have h6 : (frOf n l).n ≤ 6 := by
      refine Classical.byContradiction fun h => ?_
      rw [if_neg h] at h5
      cases h5
    obtain ⟨P, hPL, hPA⟩ := hlist h6
    have hPl : P.length ≤ 6 ^ (frOf n l).n := by
      have h2 := congrArg List.length hPA
      rw [List.length_map] at h2
      rw [h2]
      exact congL_len h6
    have hPl2 : P.length ≤ 46656 := Nat.le_trans hPl (Nat.le_trans (Nat.pow_le_pow_right (by omega) h6) (by decide))
    refine iLp (fun s : Bool × Nat => [.bool s.1, .int .i64 (s.2 : Int)]) (fun s w' => s.2 ≤ P.length ∧ Ext w21 w' ∧ s.1 = (P.take s.2).any fun p => decide (nats p.2 = m)) (fun s => P.length - s.2) (false, 0) rfl ⟨Nat.zero_le _, Ext.refl _, rfl⟩ ?_
    rintro ⟨fd, k⟩ w25 Kn ⟨hk, x25, hfd⟩ hKn
    have hk : k ≤ P.length := hk
    have x25 : Ext w21 w25 := x25
    have hfd : fd = (P.take k).any fun p => decide (nats p.2 = m) := hfd
    have hPL25 := hPL.ext x25
    intro _
    simp only [gx]
    refine iLenS hPL25.row.sl ?_
    rw [List.length_map]
    refine iLt (iCndP (fun h => ?_) (fun h => ?_))
    · have hkl : k < P.length := by omega
      have htk : ((P.take (k + 1)).any fun p => decide (nats p.2 = m)) = (fd || decide (nats P[k].2 = m)) := by
        rw [List.take_succ_eq_append_getElem hkl, List.any_append, ← hfd]; simp
      refine iJnB (fd || decide (nats P[k].2 = m)) w25 (fun J2 hJ2 => ?_) (fun w27 x27 => fun _ => ?_)
      · cases fd
        · refine iCndF rfl (hPL25.at hkl ?_)
          refine iRet (ok_laws_likeInts (hPL25.each _ (List.getElem_mem hkl)).sl (hm4.ext (((x412.trans x15).trans x21).trans x25))) fun w28 x28 => ?_
          rw [Bool.false_or] at hJ2
          exact hJ2 _ x28
        · rw [Bool.true_or] at hJ2
          exact iCndT rfl (hJ2 _ (Ext.refl _))
      · simp only [gx]
        refine iAdd (by omega) ?_
        exact hKn (fd || decide (nats P[k].2 = m), k + 1) _ ⟨hkl, x25.trans x27, htk.symm⟩ (by show P.length - (k + 1) < P.length - k; omega)
    · have hke : k = P.length := by omega
      have hfin : fd = decide ((quoOut n l m).2.2 = 0) := by
        rw [hfd, hke, List.take_length, Bool.eq_iff_iff, decide_eq_true_eq, hz, List.any_eq_true, congB_iff]
        constructor
        · rintro ⟨p, hp, hpe⟩
          have hpm : p.2 ∈ congL (frOf n l) := by rw [← hPA]; exact List.mem_map.2 ⟨p, hp, rfl⟩
          exact ⟨p.2, (of_decide_eq_true hpe).symm, mem_congL.1 hpm⟩
        · rintro ⟨c, rfl, h⟩
          have hcm := mem_congL.2 h
          rw [← hPA] at hcm
          obtain ⟨p, hp, rfl⟩ := List.mem_map.1 hcm
          exact ⟨p, hp, decide_eq_true rfl⟩
      refine iEq (iBoolQ ?_)
      rw [← hfin]
      refine iCndF (by cases fd <;> rfl) (hJ _ x25 trivial)
  have hB323 := (hB315.ext x21).ext x23
  have hs23 := (hs15.ext x21).ext x23
  have X23 := X21.trans x23
  refine iLdA hB323 rfl ?_
  have hri := ok_impl_RootedImages hP hs23
  rw [← hn0] at hri
  refine iCall (hri.mono ?_)
  rintro _ w29 ⟨x29, vi, rfl, hims⟩
  refine iEx (by rfl) (iEx (by rfl) ?_)
  have X29 := X23.trans x29
  have hB329 := hB323.ext x29
  have hs29 := hs23.ext x29
  refine iNe (iCndP (fun h5 => ?_) (fun h5 => ?_))
  · have h6 : ¬ (frOf n l).n ≤ 5 := fun h => h5 (by rw [if_pos h])
    rw [if_neg h6]
    refine iEq ⟨rfl, X29⟩
  have hn5 : (frOf n l).n ≤ 5 := by
    refine Classical.byContradiction fun h => h5 ?_
    rw [if_neg h]; decide
  obtain ⟨L, hL, hR, hI, hpos⟩ := hims hn5
  have hLc := hL.row.sl.len
  refine iLp (fun k : Nat => [.int .i64 (k : Int)]) (fun k w' => k ≤ L.length ∧ Ext w29 w') (fun k => L.length - k) 0 rfl ⟨Nat.zero_le _, Ext.refl _⟩ ?_
  rintro k w31 Kn ⟨hk, x31⟩ hKn
  have hL31 := hL.ext x31
  intro _
  simp only [gx]
  refine iLenK hL31.row.sl ?_
  refine iLt (iCndP (fun h => ?_) (fun h => ?_))
  · have hkl : k < L.length := by omega
    have hgm : gt L k ∈ L := by rw [gt_eq hkl]; exact List.getElem_mem _
    refine iRdFr (j := k) hL31 rfl hkl ?_
    have hrd : ∀ {w' : World} {K : Value → Prop}, Ext w29 w' → K (valR (gt L k)) → xIa 2 vi (.int .i64 (k : Int)) fun p => xLdA w' 2 p K := fun x hK => iRdFr (j := k) (hL.ext x) rfl hkl hK
    obtain ⟨g, hg, hkey⟩ := hI _ hgm
    have hrow := hR _ hgm
    have hcl := hL.cells _ hgm
    generalize gt L k = r at *
    obtain ⟨rn, rv, rl⟩ := r
    simp only [keyR, Prod.mk.injEq] at hkey
    obtain ⟨rfl, rfl⟩ := hkey
    have hg6 : g.n ≤ 6 := by have := (hg.n hP).2; omega
    have hrv : ∀ {w'}, Ext w29 w' → SlN w' rv g.a := fun x => (hrow.ext x).sl
    refine iRet (ok_impl_RootOf hg.po hg.root (hrv x31)) fun w32 x32 => ?_
    refine iEx (by rfl) (iEx (by rfl) ?_)
    have X32 := x31.trans x32
    refine iLdA (hB329.ext X32) rfl ?_
    refine hrd X32 ?_
    intro w33 x33
    have X33 := X32.trans x33
    refine iCall ((ok_impl_FindPart (hs29.ext X33) (hrv X33) n _).mono ?_)
    rintro _ w34 ⟨x34, vz, rfl, _⟩
    refine iEx (by rfl) (iEx (by rfl) (iEx (by rfl) ?_))
    have hpz := part_zeroQ hP hg.po hg.bel
    rw [← hn0] at hpz
    have e0 : (partRes n (nats (frOf n l).a) (g.n : Int) (nats g.a)).2.2 = 0 := hpz
    rw [e0]
    intro w35 x35
    have X35 := (X33.trans x34).trans x35
    refine hrd X35 ?_
    refine iCall ((ok_impl_LeastPoset hg.po hg6 (hrv X35) hcl).mono ?_)
    rintro _ w36 ⟨x36, ve, rfl, hoe⟩
    rw [hg.least] at hoe
    refine iEx (by rfl) (iEx (by rfl) ?_)
    refine iNew fun b25 w37 hb25 x37 hB25 => ?_
    refine iStAB hB25 rfl rfl ((hoe.ext x37).pair _) fun w38 hu38 hB25 => ?_
    have x3638 : Ext w36 w38 := x37.upd hu38 (by omega)
    have X38 := (X35.trans x36).trans x3638
    refine iJnB false w38 (fun J hJ => ?_) (fun w40 x40 => fun _ => iCndF rfl ?_)
    · refine iAdd (by omega) (iAdd (by omega) (iNe (iCndF (by decide) ?_)))
      refine iLdA hB25 rfl ?_
      refine hrd X38 ?_
      refine iRetQ (fun w' x' => ok_laws_samePoset9Q ((hoe.ext x3638).ext x').sl (hrv (X38.trans x'))) ?_
      refine iNot ?_
      exact fun w42 x42 => hJ _ x42
    · refine iAdd (by omega) ?_
      exact hKn (k + 1) _ ⟨hkl, X38.trans x40⟩ (by omega)
  · refine iLenK hL31.row.sl ?_
    refine iLt ?_
    refine iFa (iLdB (hB329.ext x31) (i := 0) (v := .int .i64 n) rfl ?_)
    refine iLt (iBoolQ ⟨?_, X29.trans x31⟩)
    have e : decide ((0 : Int) < (L.length : Nat)) = decide ((0 : Int) < n) := by
      refine decide_eq_decide.2 ⟨fun h => ?_, fun h => ?_⟩
      · obtain ⟨g, hg, _⟩ := hI (gt L 0) (by rw [gt_eq (by omega)]; exact List.getElem_mem _)
        have := hg.n hP
        omega
      · have := hpos (by omega)
        omega
    rw [e]
    simp
end Go.Proofs.YtikfhibcdhdglaaGreat
