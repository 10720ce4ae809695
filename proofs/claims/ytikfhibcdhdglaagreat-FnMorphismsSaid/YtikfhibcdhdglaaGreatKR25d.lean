/- The proof of FnMorphisms, part 4 of 5. Conditions: none. -/
import Derived.Test.YtikfhibcdhdglaaGreatKR25c
import Derived.Lib.AppendZerosOnto
import Derived.Lib.Overlaps
import Derived.RangeFuncNested
import Derived.RangeFuncCalls
import Derived.RangeFuncLeaves
import Derived.RangeFuncRecord
import Derived.Sort.LoopGhostIn
import Derived.TacticsIn
import Derived.OrdersIn
/- Contracts: drawn posets (l16Shuffle, l16Some, l16Rooted, l16Draw) and lists of them (l34Some). Conditions: none. -/
namespace Go.Vc
theorem rnb_rel {a o : List Nat} {n : Nat} (ho : o.length = n) : RelOk n (rnb a o) := by
  refine ⟨by simp [rnb, ho], fun x hx => ?_⟩
  obtain ⟨y, _, rfl⟩ := List.mem_map.1 hx
  rw [← ho]
  exact sqzK_lt o (a.getD y 0) o.length
end Go.Vc
namespace Go.Proofs.YtikfhibcdhdglaaGreat
open Go.Vc
theorem ok_spec_l16Shuffle {e : TypeId} (hne : t_i64 ≠ e) {w0 : World} {vc : Value} {bs : List Nat} (hc : SlB w0 vc bs) {b : Nat} {w : World} (hS : Vc.Src e w0 vc b w) (n : Nat) (hn : n ≤ 30) :
    Drw Tryz.prog f_spec_l16Shuffle #[.pointer (some ⟨b, 0, none⟩), .int .i64 (n : Int)] e w0 vc b w fun v w' => ∃ o : List Nat, o.length = n ∧ (∀ x ∈ o, x < n) ∧ Ow w.heap.size t_i64 w' v (ints (nats o)) := by
  apply c_spec_l16Shuffle; unfold S_spec_l16Shuffle
  refine iBs0 fun v0 w1 _ h1 ho => ?_
  refine iLp (fun s : Value × Nat => [s.1, .int .i64 (s.2 : Int)]) (fun s w' => s.2 ≤ n ∧ Ext w w' ∧ Ow w.heap.size t_i64 w' s.1 (ints (nats (List.range s.2)))) (fun s => n - s.2) (v0, 0) rfl ⟨Nat.zero_le _, h1, ho⟩ ?_
  rintro ⟨u, k⟩ w3 Kn ⟨hk, h3, ho3⟩ hKn
  have hk : k ≤ n := hk
  have ho3 : Ow w.heap.size t_i64 w3 u (ints (nats (List.range k))) := ho3
  (intro _; (try simp only [gx]); (with_reducible refine iLt ?_))
  refine iCndP (fun h4 => ?_) (fun h4 => ?_)
  · have hil : (ints (nats (List.range k))).length = k := by rw [ints_length, nats_length, List.length_range]
    refine iApp1 u_Si64 i_Si64 rfl ho3 rfl (by omega) (by omega) h3.size fun v' w5 ho' hg' => ?_
    rw [ints_snoc, ← List.range_succ] at ho'
    (refine iAdd (by omega) ?_)
    exact hKn (v', k + 1) _ ⟨by show k + 1 ≤ n; omega, h3.grown hg' (fun c hc => (ho3.blk c hc).1), ho'⟩ (by show n - (k + 1) < n - k; omega)
  · have ek : k = n := by omega
    subst ek
    (refine iSub (by omega) ?_)
    have hS3 := hS.later h3
    refine iLp (fun i : Int => [.int .i64 i]) (fun i w' => -1 ≤ i ∧ i < k ∧ Vc.Src e w0 vc b w' ∧ Ch (fun c => c = b) w w' ∧ ∃ o : List Nat, o.length = k ∧ (∀ x ∈ o, x < k) ∧ Ow w.heap.size t_i64 w' u (ints (nats o))) (fun i => (i + 1).toNat) ((k : Int) - 1) rfl ⟨by omega, by omega, hS3, h3.ch, List.range k, List.length_range, fun x hx => List.mem_range.1 hx, ho3⟩ ?_
    rintro i w7 Kn7 ⟨hi0, hi1, hS7, hC7, o, hol, hlt, ho7⟩ hKn7
    (intro _; (try simp only [gx]); (with_reducible refine iLt ?_))
    refine iCndP (fun h8 => ?_) (fun h8 => ⟨⟨o, hol, hlt, ho7⟩, hS7, hC7⟩)
    obtain ⟨m, rfl⟩ := Int.eq_ofNat_of_zero_le (show 0 ≤ i by omega)
    have hm : m < k := by omega
    have hil : ∀ p : List Nat, p.length = k → (ints (nats p)).length = k := fun p hp => by rw [ints_length, nats_length, hp]
    (refine iAdd (by omega) ?_)
    refine iCall ((ok_spec_l01Next hc hS7 ((m : Int) + 1)).mono ?_)
    rintro _ w8 ⟨⟨x, rfl, hx, _⟩, hS8, hch8⟩
    have hx := hx (by omega)
    have hxk : x < k := by omega
    have ho8 := ho7.ch hch8 (fun c hc h => hS7.neOw ho7 hne (by rw [hc, h]))
    have hs8 : SlN w8 u o := ho8.sl
    have hC8 := ch_self hC7 hch8
    have hgm : o.getD m 0 < k := by rw [getD_of_lt (by omega)]; exact hlt _ (List.getElem_mem (by omega))
    have hgx : o.getD x 0 < k := by rw [getD_of_lt (by omega)]; exact hlt _ (List.getElem_mem (by omega))
    refine iIaNN hs8 (by omega) fun p1 hp1 => ?_
    refine iLd hp1 ?_
    refine iIaNN hs8 (by omega) fun p2 hp2 => ?_
    refine iLd hp2 ?_
    have hoil := hil o hol
    refine iIaOwE ho8 (by omega) fun bu hbu hwr => ?_
    obtain ⟨hc1, hc2, hc3⟩ := hwr w8 _ rfl ho8
    rw [List.getElem?_eq_getElem (by omega)] at hc1
    refine iSt hc1 hc2 rfl ?_
    have ho9 := hc3 (.int .i64 ((o.getD x 0 : Nat) : Int))
    rw [← ints_nats_set] at ho9
    have hu9 := Upd.setCell w8 bu m (.int .i64 ((o.getD x 0 : Nat) : Int))
    have hbu1 := (ho8.blk bu hbu).1
    have hbub : b ≠ bu := fun e => hS8.neOw ho8 hne (by rw [hbu, e])
    have hlow := hS8.ext.size
    have hl2 : (o.set m (o.getD x 0)).length = k := by rw [List.length_set]; exact hol
    have hil2 := hil _ hl2
    refine iIaOwE ho9 (by omega) fun bu' hbu' hwr' => ?_
    have e : bu' = bu := by rw [hbu] at hbu'; injection hbu' with e; exact e.symm
    subst e
    obtain ⟨hd1, hd2, hd3⟩ := hwr' _ _ rfl ho9
    rw [List.getElem?_eq_getElem (by omega)] at hd1
    refine iSt hd1 hd2 rfl ?_
    have ho10 := hd3 (.int .i64 ((o.getD m 0 : Nat) : Int))
    rw [← ints_nats_set] at ho10
    have hu10 := Upd.setCell (w8.setCell ⟨bu', m, none⟩ (.int .i64 ((o.getD x 0 : Nat) : Int))) bu' x (.int .i64 ((o.getD m 0 : Nat) : Int))
    have hu := hu9.trans hu10
    have hwlo : w0.heap.size ≤ bu' := Nat.le_trans hS.ext.size hbu1
    (refine iSub (by omega) ?_)
    refine hKn7 ((m : Int) - 1) _ ⟨by omega, by omega, hS8.upd hu hbub hwlo, ch_new hC8 (hu.ch (S := fun c => c = bu') rfl) (fun c hc => by rw [hc]; exact hbu1) (Nat.le_refl _), _, by rw [List.length_set]; exact hl2, fun z hz => ?_, ho10⟩ (by omega)
    rcases List.mem_or_eq_of_mem_set hz with hz | hz
    · rcases List.mem_or_eq_of_mem_set hz with hz | hz
      · exact hlt z hz
      · rw [hz]; exact hgx
    · rw [hz]; exact hgm
theorem ok_spec_l16Some {e : TypeId} (hne : t_i64 ≠ e) {w0 : World} {vc : Value} {bs : List Nat} (hc : SlB w0 vc bs) {b : Nat} {w : World} (hS : Vc.Src e w0 vc b w) (size : Nat) (hw : size ≤ 30) :
    Drw Tryz.prog f_spec_l16Some #[.pointer (some ⟨b, 0, none⟩), .int .i64 (size : Int)] e w0 vc b w fun r w' => ∃ (n : Nat) (a : List Nat) (v : Value), r = .agg #[.int .i64 (n : Int), v] ∧ n ≤ size ∧ RelOk n a ∧ Ow w.heap.size t_i64 w' v (ints (nats a)) := by
  apply c_spec_l16Some; unfold S_spec_l16Some
  have hlow := hS.ext.size
  refine iNew fun b4 w1 hb4 h1 hB4 => ?_
  obtain ⟨e4, hne4, hB4⟩ : ∃ e', t_i64 ≠ e' ∧ Blk e' w1 b4 [.int .i64 0, .slice none 0 0] := ⟨_, by decide, hB4⟩
  have hbb4 : b4 ≠ b := by have := hS.lt; omega
  have hS1 := hS.later h1
  (refine iAdd (by omega) ?_)
  refine iCall ((ok_spec_l01Next hc hS1 ((size : Int) + 1)).mono ?_)
  rintro _ w2 ⟨⟨n, rfl, hnw, _⟩, hS2, hch2⟩
  have hnw := hnw (by omega)
  have hB2 := hB4.ch hch2 hbb4
  have hC2 := ch_self (h1.ch (S := fun c => c = b)) hch2
  refine iBs0 fun v17 w3 _ h3 ho3 => ?_
  have hS3 := hS2.later h3
  have hC3 := ch_ext hC2 h3
  have hB3 := hB2.ext h3
  have ho3 := ho3.mono (Nat.le_trans h1.size hch2.size)
  refine iCall ((ok_spec_l01Next hc hS3 3).mono ?_)
  rintro _ w4 ⟨⟨thin, rfl, hth, _⟩, hS4, hch4⟩
  have hth := hth (by omega)
  have hlo1 := h1.size
  have h62 : 2 ^ n ≤ 2 ^ 62 := Nat.pow_le_pow_right (by omega) (by omega)
  have hpos := Nat.two_pow_pos n
  -- the end: a copy, handed back
  have fin : ∀ (u : Value) (a : List Nat) (w' : World) (Q : Value → World → Prop), RelOk n a → Ow w.heap.size t_i64 w' u (ints (nats a)) → Vc.Src e w0 vc b w' → Ch (fun c => c = b) w w' → Blk e4 w' b4 [.int .i64 0, .slice none 0 0] →
      (∀ r w'', (∃ (n : Nat) (a : List Nat) (v : Value), r = .agg #[.int .i64 (n : Int), v] ∧ n ≤ size ∧ RelOk n a ∧ Ow w.heap.size t_i64 w'' v (ints (nats a))) ∧ Vc.Src e w0 vc b w'' ∧ Ch (fun c => c = b) w w'' → Q r w'') →
      callV Tryz.prog (.func (.func f_spec_l16Make) #[] #[]) [u] w' fun v w2 => xStA Tryz.prog w2 2 (.pointer (some ⟨b4, 0, none⟩)) v fun w3 => xLdA w3 2 (.pointer (some ⟨b4, 0, none⟩)) fun r => Q r w3 := by
    intro u a w' Q ha hu hSw hCw hBw hQ
    refine iCall ((ok_spec_l16Make hu.sl (by rw [ha.1]; omega)).mono ?_)
    rintro _ w5 ⟨h5, v', rfl, ho'⟩
    rw [ha.1]
    have hB5 := hBw.ext h5
    refine iStAB hB5 rfl rfl (ho'.pair _) fun w6 hu6 hB6 => ?_
    refine iLdA hB6 rfl ?_
    have hCs := hCw.size
    refine hQ _ _ ⟨⟨n, a, v', rfl, by omega, ha, (ho'.mono hCs).upd hu6 (fun e => by have := (ho'.blk b4 e).1; have := hBw.lt; omega)⟩, (hSw.later h5).upd hu6 (fun e => hbb4 e.symm) (by omega), ?_⟩
    exact (ch_ext hCw h5).trans (hu6.ch (S := fun c => c = b4) rfl) (fun c hc => .inr (by omega))
  refine iLp (fun s : Value × Nat => [s.1, .int .i64 (s.2 : Int)]) (fun s w' => s.2 ≤ n ∧ Vc.Src e w0 vc b w' ∧ Ch (fun c => c = b) w w' ∧ Blk e4 w' b4 [.int .i64 0, .slice none 0 0] ∧ ∃ l, l.length = s.2 ∧ (∀ x ∈ l, x < 2 ^ n) ∧ Ow w.heap.size t_i64 w' s.1 (ints (nats l))) (fun s => n - s.2) (v17, 0) rfl
    ⟨Nat.zero_le _, hS4, ch_self hC3 hch4, hB3.ch hch4 hbb4, [], rfl, fun x hx => by (cases hx), ho3.ch hch4 (fun c hc h => hS3.neOw ho3 hne (by rw [hc, h]))⟩ ?_
  rintro ⟨u, k⟩ w6 Kn ⟨hk, hS6, hC6, hB6, l, hl, hlt, ho6⟩ hKn
  have hk : k ≤ n := hk
  have hl : l.length = k := hl
  have ho6 : Ow w.heap.size t_i64 w6 u (ints (nats l)) := ho6
  (intro _; (try simp only [gx]); (with_reducible refine iLt ?_))
  refine iCndP (fun h7 => ?_) (fun h7 => ?_)
  · have hk1 : k < n := by omega
    refine iRet (ok_spec_l01Full n (by omega) w6) fun w7 h8 => ?_
    (refine iAdd (by omega) ?_)
    have hS7 := hS6.later h8
    refine iCall ((ok_spec_l01Next hc hS7 (((2 ^ n - 1 : Nat) : Int) + 1)).mono ?_)
    rintro _ w8 ⟨⟨x, rfl, hx, _⟩, hS8, hch8⟩
    have hx := hx (by omega)
    have hB7 := hB6.ext h8
    have ho7 := ho6.ext h8
    have ho8 := ho7.ch hch8 (fun c hc h => hS7.neOw ho7 hne (by rw [hc, h]))
    (refine iAdd (by omega) ?_)
    have e1 : (k : Int) + 1 = ((k + 1 : Nat) : Int) := by omega
    rw [e1]
    have h2k : 2 ^ (k + 1) ≤ 2 ^ 62 := Nat.pow_le_pow_right (by omega) (by omega)
    refine iRet (ok_spec_l01Full (k + 1) (by omega) w8) fun w9 h9 => ?_
    refine iBAndNot (by omega) (by omega) ?_
    have hx2 : sdiff x (2 ^ (k + 1) - 1) < 2 ^ n := sdiff_lt (by omega)
    have hS9 := hS8.later h9
    refine iLp (fun s : Nat × Nat => [.int .i64 (s.1 : Int), .int .i64 (s.2 : Int)]) (fun s w' => s.2 ≤ thin ∧ s.1 < 2 ^ n ∧ Vc.Src e w0 vc b w' ∧ Ch (fun c => c = b) w w' ∧ Blk e4 w' b4 [.int .i64 0, .slice none 0 0] ∧ Ow w.heap.size t_i64 w' u (ints (nats l))) (fun s => thin - s.2) (sdiff x (2 ^ (k + 1) - 1), 0) rfl
      ⟨Nat.zero_le _, hx2, hS9, ch_ext (ch_self (ch_ext hC6 h8) hch8) h9, (hB7.ch hch8 hbb4).ext h9, ho8.ext h9⟩ ?_
    rintro ⟨m, j⟩ wA KnA ⟨hj, hm, hSA, hCA, hBA, hoA⟩ hKnA
    have hj : j ≤ thin := hj
    have hm : m < 2 ^ n := hm
    (intro _; (try simp only [gx]); (with_reducible refine iLt ?_))
    refine iCndP (fun h9 => ?_) (fun h9 => ?_)
    · refine iRet (ok_spec_l01Full n (by omega) wA) fun wB hB => ?_
      (refine iAdd (by omega) ?_)
      have hSB := hSA.later hB
      have hoB := hoA.ext hB
      refine iCall ((ok_spec_l01Next hc hSB (((2 ^ n - 1 : Nat) : Int) + 1)).mono ?_)
      rintro _ wC ⟨⟨y, rfl, hy, _⟩, hSC, hchC⟩
      have hy := hy (by omega)
      refine iBAnd (by omega) (by omega) ?_
      (refine iAdd (by omega) ?_)
      exact hKnA (m &&& y, j + 1) _ ⟨by show j + 1 ≤ thin; omega, Nat.lt_of_le_of_lt Nat.and_le_left hm, hSC, ch_self (ch_ext hCA hB) hchC, (hBA.ext hB).ch hchC hbb4, hoB.ch hchC (fun c hc h => hSB.neOw hoB hne (by rw [hc, h]))⟩ (by show thin - (j + 1) < thin - j; omega)
    · have hil : (ints (nats l)).length = k := by rw [ints_length, nats_length, hl]
      have hCAs := hCA.size
      refine iApp1A u_Si64 i_Si64 rfl hoA rfl (by omega) (by omega) hCAs fun v' wD ho' hg' _ => ?_
      rw [ints_snoc] at ho'
      have hgc := grown_ch (S := fun c => u.ownBlock = some c) hg' (fun k hk => hk)
      (refine iAdd (by omega) ?_)
      refine hKn (v', k + 1) _ ⟨by show k + 1 ≤ n; omega, hSA.ch hgc (hSA.neOw hoA hne) (fun c hc => by have := (hoA.blk c hc).1; omega), ch_new hCA hgc (fun c hc => (hoA.blk c hc).1) (Nat.le_refl _), hBA.grown hg' (hoA.ne_blk hBA hne4), _, by rw [List.length_append, hl]; rfl, fun z hz => ?_, ho'⟩ (by show n - (k + 1) < n - k; omega)
      rcases List.mem_append.1 hz with hz | hz
      · exact hlt z hz
      · simp at hz; subst hz; exact hm
  · have ek : k = n := by omega
    have hrel : RelOk n l := ⟨by omega, hlt⟩
    refine iCall ((ok_spec_l01Reflexive (by omega) hrel ho6.sl).mono ?_)
    rintro u1 wA ⟨hA, a1, hr1, ho1⟩
    refine iCall ((ok_spec_l01Closure (by omega) hr1 ho1.sl).mono ?_)
    rintro u2 wB ⟨hB, a2, hr2, ho2⟩
    have hXB := hA.trans hB
    have hSB := hS6.later hXB
    have hCB := ch_ext hC6 hXB
    have hBB := hB6.ext hXB
    have ho2 := ho2.mono (Nat.le_trans hC6.size hA.size)
    refine iCall ((ok_spec_l01Next hc hSB 2).mono ?_)
    rintro _ wC ⟨⟨q, rfl, _, _⟩, hSC, hchC⟩
    have hCC := ch_self hCB hchC
    have hBC := hBB.ch hchC hbb4
    have hoC := ho2.ch hchC (fun c hc h => hSB.neOw ho2 hne (by rw [hc, h]))
    ((with_reducible refine iEq ?_))
    refine iCndP (fun h0 => ?_) (fun h0 => ?_)
    · exact fin u2 a2 wC _ hr2 hoC hSC hCC hBC (fun r w'' h => h)
    · refine iCall ((ok_spec_l16Shuffle hne hc hSC n (by omega)).mono ?_)
      rintro vo wD ⟨⟨o, hol, holt, hoo⟩, hSD, hchD⟩
      have hCD := ch_self hCC hchD
      have hBD := hBC.ch hchD hbb4
      have hoD := hoC.ch hchD (fun c hc h => hSC.neOw hoC hne (by rw [hc, h]))
      have hs2 : SlN wD u2 a2 := hoD.sl
      have hso : SlN wD vo o := hoo.sl
      refine iCall ((ok_spec_l05Renumber hs2 hso (by omega) (fun x hx => ⟨by rw [hr2.1]; exact holt x hx, by have := holt x hx; omega⟩) (fun x hx => Nat.lt_of_lt_of_le (hr2.2 x hx) h62)).mono ?_)
      rintro u3 wE ⟨hE, ho3'⟩
      exact fin u3 (rnb a2 o) wE _ (rnb_rel hol) (ho3'.mono hCD.size) (hSD.later hE) (ch_ext hCD hE) (hBD.ext hE) (fun r w'' h => h)
theorem ok_spec_l16JoinT {n : Nat} {a : List Nat} (hn : n ≤ 8) (ha : RelOk n a) {v u : Value} {w : World} (hs : SlN w v [1]) (ht : SlN w u a) : Cal Tryz.prog f_spec_l16Join #[.agg #[.int .i64 ((1 : Nat) : Int), v], .agg #[.int .i64 (n : Int), u], .bool true] w fun r w' => Ext w w' ∧ ∃ (l : List Nat) (v' : Value), RelOk (n + 1) l ∧ r = .agg #[.int .i64 ((n + 1 : Nat) : Int), v'] ∧ Ow w.heap.size t_i64 w' v' (ints (nats l)) := by
  apply c_spec_l16Join; unfold S_spec_l16Join
  have hal := ha.1
  have h28 : 2 ^ n ≤ 2 ^ 8 := Nat.pow_le_pow_right (by omega) hn
  have hpos := Nat.two_pow_pos n
  have hsucc : 2 ^ (n + 1) = 2 * 2 ^ n := by rw [Nat.pow_succ]; omega
  refine iNew fun b1 w1 hb1 h1 hB1 => ?_
  refine iNew fun b2 w2 hb2 h2 hB2 => ?_
  refine iNew fun b3 w3 hb3 h3 hB3 => ?_
  have hX3 := h1.trans (h2.trans h3)
  have hB1 : Blk _ w3 b1 [.int .i64 ((1 : Nat) : Int), v] := (hB1.ext h2).ext h3
  have hB2 : Blk _ w3 b2 [.int .i64 (n : Int), u] := hB2.ext h3
  refine iBs0 fun vo w4 _ h4 ho => ?_
  have hgo : ∀ y : Nat, y < 2 ^ n → y <<< 1 < 2 ^ (n + 1) := fun y hy => by rw [Nat.shiftLeft_eq]; omega
  refine iLp (fun s : Value × Nat => [s.1, .int .i64 (s.2 : Int)]) (fun s w' => s.2 ≤ 1 ∧ Ext w3 w' ∧ ∃ l : List Nat, l.length = s.2 ∧ (∀ x ∈ l, x < 2 ^ (n + 1)) ∧ Ow w3.heap.size t_i64 w' s.1 (ints (nats l))) (fun s => 1 - s.2) (vo, 0) rfl ⟨Nat.zero_le _, h4, [], rfl, fun x hx => by (cases hx), ho⟩ ?_
  rintro ⟨vo, k⟩ w6 Kn ⟨hk, h6, l, hl, hlt, ho6⟩ hKn
  have hk : k ≤ 1 := hk
  have hl : l.length = k := hl
  have ho6 : Ow w3.heap.size t_i64 w6 vo (ints (nats l)) := ho6
  have hB16 := hB1.ext h6
  have hB26 := hB2.ext h6
  have hs6 := hs.ext (hX3.trans h6)
  (intro _; (try simp only [gx]); (with_reducible refine iFa ?_); refine iLdB (by assumption) (by first | rfl | simp) ?_; (with_reducible refine iLenN (by assumption) ?_; refine iLt ?_))
  refine iCndP (fun h7 => ?_) (fun h7 => ?_)
  · have hk0 : k = 0 := by simp at h7; omega
    subst hk0
    refine iFa ?_
    refine iLdB hB16 (by first | rfl | simp) ?_
    refine iIaNN hs6 (j := 0) (by simp) fun p hp => ?_
    refine iLd hp ?_
    refine iJn ?_
    refine iCndT rfl ?_
    refine iFa ?_
    refine iLdB hB26 (by first | rfl | simp) ?_
    refine iRetQ (fun w' _ => ok_spec_l01Full n (by omega) w') ?_
    refine iFa ?_
    refine iLdB hB16 (by first | rfl | simp) ?_
    refine iConvU (by omega) ?_
    refine iShlN (a := 2 ^ n - 1) (k := 1) (by omega) (by omega) ?_
    have h2n : (2 ^ n - 1) <<< 1 < 2 ^ (n + 1) := hgo _ (by omega)
    have h29 : 2 ^ (n + 1) ≤ 2 ^ 9 := Nat.pow_le_pow_right (by omega) (by omega)
    refine iBOr (a := ([1] : List Nat).getD 0 0) (b := (2 ^ n - 1) <<< 1) (by show (1 : Nat) < 2 ^ 63; omega) (by omega) ?_
    intro w9 h9
    (intro _; (try simp only [gx]))
    have hm : ([1] : List Nat).getD 0 0 ||| (2 ^ n - 1) <<< 1 < 2 ^ (n + 1) := Nat.or_lt_two_pow (by show (1 : Nat) < _; omega) h2n
    have ho9 := ho6.ext h9
    have hil : (ints (nats l)).length = 0 := by rw [ints_length, nats_length, hl]
    refine iApp1 u_Si64 i_Si64 rfl ho9 rfl (by omega) (by omega) (h6.trans h9).size fun v' wB ho' hg' => ?_
    rw [ints_snoc] at ho'
    (refine iAdd (by omega) ?_)
    refine hKn (v', 1) _ ⟨Nat.le_refl _, (h6.trans h9).grown hg' (fun c hc => (ho9.blk c hc).1), _, by rw [List.length_append, hl]; rfl, fun x hx => ?_, ho'⟩ (by show 1 - 1 < 1 - 0; omega)
    rcases List.mem_append.1 hx with hx | hx
    · exact hlt x hx
    · simp only [List.mem_singleton] at hx; subst hx; exact hm
  · have hk1 : k = 1 := by simp at h7; omega
    subst hk1
    refine iLp (fun s : Value × Nat => [s.1, .int .i64 (s.2 : Int)]) (fun s w' => s.2 ≤ n ∧ Ext w3 w' ∧ ∃ l : List Nat, l.length = 1 + s.2 ∧ (∀ x ∈ l, x < 2 ^ (n + 1)) ∧ Ow w3.heap.size t_i64 w' s.1 (ints (nats l))) (fun s => n - s.2) (vo, 0) rfl ⟨Nat.zero_le _, h6, l, hl, hlt, ho6⟩ ?_
    rintro ⟨vo', k⟩ w13 Kn' ⟨hk, h13, l', hl', hlt', ho13⟩ hKn'
    have hk : k ≤ n := hk
    have hl' : l'.length = 1 + k := hl'
    have ho13 : Ow w3.heap.size t_i64 w13 vo' (ints (nats l')) := ho13
    have hB113 := hB1.ext h13
    have hB213 := hB2.ext h13
    have ht13 := ht.ext (hX3.trans h13)
    (intro _; (try simp only [gx]); (with_reducible refine iFa ?_); refine iLdB (by assumption) (by first | rfl | simp) ?_; (with_reducible refine iLenN (by assumption) ?_; refine iLt ?_))
    refine iCndP (fun h8 => ?_) (fun h8 => ?_)
    · have hk1 : k < n := by omega
      have hgk : a.getD k 0 < 2 ^ n := ha.get (by omega) k
      ((with_reducible refine iFa ?_); refine iLdB (by assumption) (by first | rfl | simp) ?_; (with_reducible refine iIaNN (by assumption) ?_ (fun pa_ hpa_ => ?_)); omega; (with_reducible refine iLd (by assumption) ?_; refine iFa ?_); refine iLdB (by assumption) (by first | rfl | simp) ?_)
      refine iConvU (by omega) ?_
      refine iShlN (k := 1) (by omega) (by omega) ?_
      intro w14 hA
      refine iBs1 rfl rfl fun bb w15 hbb hC hBb => ?_
      (try refine ⟨hC, ?_⟩)
      intro w16 hD
      have hX16 := h13.trans (hA.trans (hC.trans hD))
      have ho16 := ((ho13.ext hA).ext hC).ext hD
      have hil : (ints (nats l')).length = 1 + k := by rw [ints_length, nats_length, hl']
      refine iApp u_Si64 i_Si64 rfl ho16 (Sl.ofBlk (hBb.ext hD) rfl (by omega)) (fun x hx => by simp at hx; subst hx; rfl) (by simp only [List.length_singleton]; omega) (by simp only [List.length_singleton]; omega) hX16.size fun v' wB ho' hg' => ?_
      rw [ints_snoc] at ho'
      intro w18 hE
      (refine iAdd (by omega) ?_)
      refine hKn' (v', k + 1) _ ⟨by show k + 1 ≤ n; omega, (hX16.grown hg' (fun c hc => (ho16.blk c hc).1)).trans hE, _, by rw [List.length_append, hl']; rfl, fun x hx => ?_, ho'.ext hE⟩ (by show n - (k + 1) < n - k; omega)
      rcases List.mem_append.1 hx with hx | hx
      · exact hlt' x hx
      · simp only [List.mem_singleton] at hx; subst hx; exact hgo _ hgk
    · have hk2 : k = n := by omega
      subst hk2
      have hsl : SlN w13 vo' l' := ho13.sl
      refine iCall ((ok_spec_l16Make hsl (by omega)).mono ?_)
      rintro _ w19 ⟨h19, v', rfl, ho'⟩
      rw [hl', Nat.add_comm]
      have hB3 := (hB3.ext h13).ext h19
      have hX19 := hX3.trans (h13.trans h19)
      have hXs := (hX3.trans h13).size
      have hne : v'.ownBlock ≠ some b3 := fun e => by
        have := (ho'.blk b3 e).1
        have h3s := h3.size
        have h13s := h13.size
        omega
      have hsz := (h1.trans h2).size
      refine iStAB hB3 rfl rfl (ho'.pair _) fun w20 hu hB20 => ?_
      refine iLdA hB20 rfl ?_
      exact ⟨hX19.upd hu (by omega), l', _, ⟨by omega, hlt'⟩, rfl, (ho'.mono hXs).upd hu hne⟩
end Go.Proofs.YtikfhibcdhdglaaGreat

/- Contracts: drawn posets (l16Rooted, l16Draw) and lists of them (l34Some, DrawGreatestLogics). Conditions: none. -/
namespace Go.Vc
end Go.Vc
namespace Go.Proofs.YtikfhibcdhdglaaGreat
open Go.Vc
theorem ok_spec_l16Rooted {e : TypeId} (hne : t_i64 ≠ e) {w0 : World} {vc : Value} {bs : List Nat} (hc : SlB w0 vc bs) {b : Nat} {w : World} (hS : Vc.Src e w0 vc b w) (size : Nat) (hw : size ≤ 8) :
    Drw Tryz.prog f_spec_l16Rooted #[.pointer (some ⟨b, 0, none⟩), .int .i64 ((size + 1 : Nat) : Int)] e w0 vc b w fun r w' => ∃ (n : Nat) (a : List Nat) (v : Value), r = .agg #[.int .i64 (n : Int), v] ∧ n ≤ size + 1 ∧ RelOk n a ∧ Ow w.heap.size t_i64 w' v (ints (nats a)) := by
  apply c_spec_l16Rooted; unfold S_spec_l16Rooted
  have hlow := hS.ext.size
  refine iNew fun b4 w1 hb4 h1 hB4 => ?_
  obtain ⟨e4, hne4, hB4⟩ : ∃ e', t_i64 ≠ e' ∧ Blk e' w1 b4 [.int .i64 0, .slice none 0 0] := ⟨_, by decide, hB4⟩
  have hbb4 : b4 ≠ b := by have := hS.lt; omega
  refine iBs1 rfl rfl fun bb w2 hbb h2 hBb => ?_
  have hsb : SlN w2 (.slice (some ⟨bb, 0, none⟩) 1 1) [1] := Sl.ofBlk hBb rfl (by omega)
  refine iCall ((ok_spec_l16Make hsb (by simp)).mono ?_)
  rintro _ w3 ⟨h3, vp, rfl, hop⟩
  have hX3 := h1.trans (h2.trans h3)
  have hS3 := hS.later hX3
  (refine iSub (by omega) ?_)
  have e1 : ((size + 1 : Nat) : Int) - 1 = (size : Int) := by omega
  rw [e1]
  refine iCall ((ok_spec_l16Some hne hc hS3 size (by omega)).mono ?_)
  rintro _ w4 ⟨⟨n, a, v, rfl, hn, ha, hov⟩, hS4, hch4⟩
  have hop4 := hop.ch hch4 (fun c hc h => hS3.neOw hop hne (by rw [hc, h]))
  refine iCall ((ok_spec_l16JoinT (by omega) ha hop4.sl hov.sl).mono ?_)
  rintro _ w5 ⟨h5, l, v', hl, rfl, hov'⟩
  have hB5 := (((hB4.ext h2).ext h3).ch hch4 hbb4).ext h5
  have hC4 : Ch (fun c => c = b) w w4 := ch_self hX3.ch hch4
  have hC5 := ch_ext hC4 h5
  refine iStAB hB5 rfl rfl (hov'.pair _) fun w6 hu hB6 => ?_
  refine iLdA hB6 rfl ?_
  have hlo' := hov'.mono hC4.size
  refine ⟨⟨n + 1, l, v', rfl, by omega, hl, hlo'.upd hu (hlo'.ne_blk hB5 hne4)⟩, (hS4.later h5).upd hu (fun e => hbb4 e.symm) (by omega), hC5.trans (hu.ch (S := fun c => c = b4) rfl) (fun c hc => .inr (by omega))⟩
theorem ok_spec_l16Draw {e : TypeId} (hne : t_i64 ≠ e) {w0 : World} {vc : Value} {bs : List Nat} (hc : SlB w0 vc bs) {b : Nat} {w : World} (hS : Vc.Src e w0 vc b w) (size : Nat) (hw : size ≤ 8) :
    Drw Tryz.prog f_spec_l16Draw #[.pointer (some ⟨b, 0, none⟩), .int .i64 ((size + 1 : Nat) : Int)] e w0 vc b w fun r w' => ∃ (n : Int) (l : List Int) (v : Value), r = .agg #[.int .i64 n, v] ∧ l.length ≤ size + 2 ∧ Ow w.heap.size t_i64 w' v (ints l) := by
  apply c_spec_l16Draw; unfold S_spec_l16Draw
  have hlow := hS.ext.size
  refine iNew fun b4 w1 hb4 h1 hB4 => ?_
  obtain ⟨e4, hne4, hB4⟩ : ∃ e', t_i64 ≠ e' ∧ Blk e' w1 b4 [.int .i64 0, .slice none 0 0] := ⟨_, by decide, hB4⟩
  have hbb4 : b4 ≠ b := by have := hS.lt; omega
  have hS1 := hS.later h1
  refine iCall ((ok_spec_l16Some hne hc hS1 (size + 1) (by omega)).mono ?_)
  rintro _ w2 ⟨⟨n, a, v, rfl, hnw, ha, ho2⟩, hS2, hch2⟩
  have hB2 := hB4.ch hch2 hbb4
  have hC2 := ch_self (h1.ch (S := fun c => c = b)) hch2
  have hs1 := h1.size
  have ho2 := ho2.mono hs1
  refine iNew fun b5 w3 hb5 h3 hB5 => ?_
  have hC2s := hC2.size
  have hS3 := hS2.later h3
  have hbb5 : b5 ≠ b := by have := hS2.lt; omega
  have hb45 : b4 ≠ b5 := by have := hB2.lt; omega
  have hB3 := hB2.ext h3
  have ho3 := ho2.ext h3
  refine iStAB hB5 rfl rfl (ho3.pair _) fun w4 hu hB5' => ?_
  obtain ⟨e5, hne5, hB5⟩ : ∃ e', t_i64 ≠ e' ∧ Blk e' w4 b5 [.int .i64 (n : Int), v] := ⟨_, by decide, hB5'⟩
  have hS4 := hS3.upd hu (fun e => hbb5 e.symm) (by omega)
  have hC4 : Ch (fun c => c = b) w w4 := (ch_ext hC2 h3).trans (hu.ch (S := fun c => c = b5) rfl) (fun c hc => .inr (by omega))
  have hB4' := hB3.upd hu hb45
  have ho4 := ho3.upd hu (fun e => by have := (ho2.blk b5 e).2; omega)
  refine iCall ((ok_spec_l01Next hc hS4 3).mono ?_)
  rintro _ w5 ⟨⟨q0, rfl, _, _⟩, hS5, hch5⟩
  have hC5 := ch_self hC4 hch5
  have hB45 := hB4'.ch hch5 hbb4
  have hB55 := hB5.ch hch5 hbb5
  have ho5 := ho4.ch hch5 (fun c hc h => hS4.neOw ho4 hne (by rw [hc, h]))
  -- the end
  have fin : ∀ (m : Int) (l : List Int) (u : Value) (w' : World) (Q : Value → World → Prop), l.length ≤ size + 2 → Ow w.heap.size t_i64 w' u (ints l) → Vc.Src e w0 vc b w' → Ch (fun c => c = b) w w' → Blk e4 w' b4 [.int .i64 0, .slice none 0 0] → Blk e5 w' b5 [.int .i64 m, u] →
      (∀ r w'', (∃ (n : Int) (l : List Int) (v : Value), r = .agg #[.int .i64 n, v] ∧ l.length ≤ size + 2 ∧ Ow w.heap.size t_i64 w'' v (ints l)) ∧ Vc.Src e w0 vc b w'' ∧ Ch (fun c => c = b) w w'' → Q r w'') →
      xLdA w' 2 (.pointer (some ⟨b5, 0, none⟩)) fun v47 => xStA Tryz.prog w' 2 (.pointer (some ⟨b4, 0, none⟩)) v47 fun w9 => xLdA w9 2 (.pointer (some ⟨b4, 0, none⟩)) fun r => Q r w9 := by
    intro m l u w' Q hl hu hSw hCw hB4w hB5w hQ
    refine iLdA hB5w rfl ?_
    refine iStAB hB4w rfl rfl (hu.pair _) fun w6 hu6 hB6 => ?_
    refine iLdA hB6 rfl ?_
    exact hQ _ _ ⟨⟨m, l, u, rfl, hl, hu.upd hu6 (hu.ne_blk hB4w hne4)⟩, hSw.upd hu6 (fun e => hbb4 e.symm) (by omega), hCw.trans (hu6.ch (S := fun c => c = b4) rfl) (fun c hc => .inr (by omega))⟩
  -- the first choice
  ((with_reducible refine iEq ?_))
  refine iJnX (fun xs wq => xs = [] ∧ ∃ (n : Nat) (a : List Nat) (v : Value), n ≤ size + 1 ∧ RelOk n a ∧ Ow w.heap.size t_i64 wq v (ints (nats a)) ∧ Vc.Src e w0 vc b wq ∧ Ch (fun c => c = b) w wq ∧ Blk e4 wq b4 [.int .i64 0, .slice none 0 0] ∧ Blk e5 wq b5 [.int .i64 (n : Int), v]) (fun J hJ => ?_) ?_
  · refine iCndP (fun h3' => ?_) (fun h3' => ?_)
    · refine iCall ((ok_spec_l16Rooted hne hc hS5 size hw).mono ?_)
      rintro _ w8 ⟨⟨n', a', v', rfl, hn', ha', ho8⟩, hS8, hch8⟩
      have hB48 := hB45.ch hch8 hbb4
      have hB58 := hB55.ch hch8 hbb5
      have hC8 := ch_self hC5 hch8
      have ho8 := ho8.mono hC5.size
      refine iStAB hB58 rfl rfl (ho8.pair _) fun w9 hu9 hB59 => ?_
      exact hJ [] w9 ⟨rfl, n', a', v', hn', ha', ho8.upd hu9 (ho8.ne_blk hB58 hne5), hS8.upd hu9 (fun e => hbb5 e.symm) (by omega), hC8.trans (hu9.ch (S := fun c => c = b5) rfl) (fun c hc => .inr (by omega)), hB48.upd hu9 hb45, hB59⟩
    · exact hJ [] w5 ⟨rfl, n, a, v, hnw, ha, ho5, hS5, hC5, hB45, hB55⟩
  clear ho2 ho3 ho4 ho5 hnw ha hB5 hB5' hB55 hu
  rintro _ wq ⟨rfl, n, a, v, hnw, ha, hoq, hSq, hCq, hB4q, hB5q⟩
  intro _
  have hal : (nats a).length = n := by rw [nats_length, ha.1]
  refine iCall ((ok_spec_l01Next hc hSq 40).mono ?_)
  rintro _ w5 ⟨⟨q, rfl, _, _⟩, hS5, hch5⟩
  have hC5 := ch_self hCq hch5
  have hB45 := hB4q.ch hch5 hbb4
  have hB55 := hB5q.ch hch5 hbb5
  have ho5 := hoq.ch hch5 (fun c hc h => hSq.neOw hoq hne (by rw [hc, h]))
  ((with_reducible refine iEq ?_))
  refine iCndP (fun h0 => ?_) (fun h0 => ?_)
  · ((with_reducible refine iFa ?_); refine iLdB (by assumption) (by first | rfl | simp) ?_; refine iAdd (by omega) ?_)
    refine iBs3 rfl rfl rfl rfl fun c w6 hc6 h6 hB6 => ?_
    have hS6 := hS5.later h6
    have hcb : c ≠ b := by have := hS5.lt; omega
    refine iCall ((ok_spec_l01Pick hc hS6 (l := [-1, 9, (n : Int) + 1]) rfl hB6 hcb (by simp) (by simp)).mono ?_)
    rintro _ w7 ⟨⟨x, rfl, _⟩, hS7, hch7⟩
    have hB57 := (hB55.ext h6).ch hch7 hbb5
    have hB47 := (hB45.ext h6).ch hch7 hbb4
    have ho6 := ho5.ext h6
    have ho7 := ho6.ch hch7 (fun c hc h => hS6.neOw ho6 hne (by rw [hc, h]))
    ((with_reducible refine iFa ?_))
    refine iStB hB57 (by simp) rfl fun hB58 => ?_
    have hu8 := Upd.setCell w7 b5 0 (.int .i64 x)
    exact fin x (nats a) v _ _ (by omega) (ho7.upd hu8 (ho7.ne_blk hB57 hne5)) (hS7.upd hu8 (fun e => hbb5 e.symm) (by omega)) ((ch_self (ch_ext hC5 h6) hch7).trans (hu8.ch (S := fun c => c = b5) rfl) (fun c hc => .inr (by omega))) (hB47.upd hu8 hb45) hB58 (fun r w'' h => h)
  ((with_reducible refine iEq ?_))
  refine iCndP (fun h1' => ?_) (fun h1' => ?_)
  · ((with_reducible refine iFa ?_); refine iLdB (by assumption) (by first | rfl | simp) ?_)
    refine iCall ((ok_spec_l01Own ho5.sl (by omega)).mono ?_)
    rintro u w11 ⟨h11, hou⟩
    have hC5s := hC5.size
    have hil : (ints (nats a)).length = n := by rw [ints_length, hal]
    refine iApp1A u_Si64 i_Si64 rfl hou rfl (by omega) (by omega) h11.size fun v' w13 ho' hg' _ => ?_
    have hX13 : Ext w5 w13 := h11.grown hg' (fun c hc => (hou.blk c hc).1)
    have hB513 := hB55.ext hX13
    ((with_reducible refine iFa ?_))
    refine iStB hB513 (by simp) ho'.cell fun hB514 => ?_
    have hu14 := Upd.setCell w13 b5 1 v'
    have e1 : ints (nats a) ++ [.int .i64 0] = ints (nats a ++ [0]) := by simp [ints]
    rw [e1] at ho'
    have ho13 := ho'.mono hC5s
    exact fin (n : Int) (nats a ++ [0]) v' _ _ (by rw [List.length_append, hal]; simp; omega) (ho13.upd hu14 (ho13.ne_blk hB513 hne5)) ((hS5.later hX13).upd hu14 (fun e => hbb5 e.symm) (by omega)) ((ch_ext hC5 hX13).trans (hu14.ch (S := fun c => c = b5) rfl) (fun c hc => .inr (by omega))) ((hB45.ext hX13).upd hu14 hb45) hB514 (fun r w'' h => h)
  ((with_reducible refine iEq ?_))
  refine iCndP (fun h2' => ?_) (fun h2' => ?_)
  · ((with_reducible refine iFa ?_); refine iLdB (by assumption) (by first | rfl | simp) ?_; (with_reducible refine iLt ?_))
    refine iCndP (fun hn0 => ?_) (fun hn0 => ?_)
    · have hst : ∀ (w' : World) (i : Nat) (x : Value), [Value.int .i64 (n : Int), v][i]? = some x → Ch (fun c => c = b) w5 w' → xLd w' (.pointer (some ⟨b5, i, none⟩)) fun u => u = x := fun w' i x hx hc' => iLdB (hB55.ch hc' hbb5) hx rfl
      refine ⟨fun c => c = b, ?_⟩
      ((with_reducible refine iFa ?_); refine iLdB (by assumption) (by first | rfl | simp) ?_)
      refine ⟨fun w' h => hst w' 1 _ rfl h, ?_⟩
      ((with_reducible refine iFa ?_); refine iLdB (by assumption) (by first | rfl | simp) ?_)
      refine ⟨fun w' h => hst w' 0 _ rfl h, ?_⟩
      ((with_reducible refine iFa ?_); refine iLdB (by assumption) (by first | rfl | simp) ?_)
      refine ⟨fun w' h => hst w' 0 _ rfl h, ?_⟩
      intro w21 h21
      have hS21 := hS5.later h21
      refine iCall ((ok_spec_l01Next hc hS21 (n : Int)).mono ?_)
      rintro _ w22 ⟨⟨x, rfl, hx, _⟩, hS22, hch22⟩
      have hx := hx (by omega)
      refine ⟨hch22, ?_⟩
      refine ⟨_, fun w' _ => iRet (ok_spec_l01Full n (by omega) w') fun w'' h => ⟨rfl, h⟩, ?_⟩
      have h62 : 2 ^ n ≤ 2 ^ 62 := Nat.pow_le_pow_right (by omega) (by omega)
      (refine iAdd (by omega) ?_)
      intro w23 h23
      have hS23 := hS22.later h23
      refine iCall ((ok_spec_l01Next hc hS23 (((2 ^ n - 1 : Nat) : Int) + 2)).mono ?_)
      rintro _ w26 ⟨⟨y, rfl, hy, _⟩, hS26, hch26⟩
      have hy := hy (by omega)
      refine ⟨hch26, ?_⟩
      (refine iSub (by omega) ?_)
      have hch526 : Ch (fun c => c = b) w5 w26 := ch_self (ch_ext (ch_self (h21.ch) hch22) h23) hch26
      have ho26 := ho5.ch hch526 (fun c hc h => hS5.neOw ho5 hne (by rw [hc, h]))
      have hil : (ints (nats a)).length = n := by rw [ints_length, hal]
      refine iIaOwE ho26 (by omega) fun bu hbu hwr => ?_
      intro w27 h27
      have ho27 := ho26.ext h27
      obtain ⟨hc1, hc2, hc3⟩ := hwr w27 _ rfl ho27
      rw [List.getElem?_eq_getElem (by omega)] at hc1
      refine iSt hc1 hc2 rfl ?_
      have ho28 := hc3 (.int .i64 ((y : Int) - 1))
      have e1 : (ints (nats a)).set x (.int .i64 ((y : Int) - 1)) = ints ((nats a).set x ((y : Int) - 1)) := by simp [ints, List.map_set]
      rw [e1] at ho28
      have hu28 := Upd.setCell w27 bu x (.int .i64 ((y : Int) - 1))
      have hbu1 := (ho26.blk bu hbu).1
      have hB527 := (hB55.ch hch526 hbb5).ext h27
      have hB427 := (hB45.ch hch526 hbb4).ext h27
      have hbu5 : b5 ≠ bu := fun e => ho27.ne_blk hB527 hne5 (by rw [hbu, e])
      have hbu4 : b4 ≠ bu := fun e => ho27.ne_blk hB427 hne4 (by rw [hbu, e])
      have hS27 := hS26.later h27
      have hbub : b ≠ bu := fun e => hS27.neOw ho27 hne (by rw [hbu, e])
      intro w29 h29
      exact fin (n : Int) ((nats a).set x ((y : Int) - 1)) v w29 _ (by rw [List.length_set]; omega) (ho28.ext h29) ((hS27.upd hu28 hbub (by omega)).later h29) (ch_ext ((ch_ext (ch_self hC5 hch526) h27).trans (hu28.ch (S := fun c => c = bu) rfl) (fun c hc => .inr (by omega))) h29) ((hB427.upd hu28 hbu4).ext h29) ((hB527.upd hu28 hbu5).ext h29) (fun r w'' h => h)
    · exact fin (n : Int) (nats a) v w5 _ (by omega) ho5 hS5 hC5 hB45 hB55 (fun r w'' h => h)
  · exact fin (n : Int) (nats a) v w5 _ (by omega) ho5 hS5 hC5 hB45 hB55 (fun r w'' h => h)
end Go.Proofs.YtikfhibcdhdglaaGreat

/- Contracts: disjunctions of variables in the program and the reference. Conditions: none. -/
namespace Go.Vc
end Go.Vc
namespace Go.Proofs.YtikfhibcdhdglaaGreat
open Go.Vc
end Go.Proofs.YtikfhibcdhdglaaGreat

/- Contracts: the disjunction of the least elements of a set, in the program and the reference. Conditions: none. -/
namespace Go.Proofs.YtikfhibcdhdglaaGreat
open Go.Vc
end Go.Proofs.YtikfhibcdhdglaaGreat

/- Contracts: premises and conclusion of Jankov's formulas, in the program and the reference. Conditions: none. -/
namespace Go.Vc
theorem impM_lt (f : Fr) (a b : Nat) : impM f a b < 2 ^ f.n := setOf_lt fun _ hy => List.mem_range.1 (List.mem_filter.1 hy).1
end Go.Vc
namespace Go.Proofs.YtikfhibcdhdglaaGreat
open Go.Vc
end Go.Proofs.YtikfhibcdhdglaaGreat

/- Contracts: where a formula is forced on a poset, by the program's stack. Conditions: none. -/
namespace Go.Proofs.YtikfhibcdhdglaaGreat
open Go.Vc
/-- Variables below 6, no modalities. -/
def Fm.pl : Fm → Prop
  | .var v => v < 6
  | .fls => True
  | .and a b => Fm.pl a ∧ Fm.pl b
  | .or a b => Fm.pl a ∧ Fm.pl b
  | .imp a b => Fm.pl a ∧ Fm.pl b
  | .box _ => False
  | .dia _ => False
theorem pl_kids {f : Fm} (h : Fm.pl f) : ∀ g ∈ f.kids, Fm.pl g := by
  intro g hg
  cases f with
  | var v => cases hg
  | fls => cases hg
  | and a b => simp only [Fm.kids, List.mem_cons, List.not_mem_nil, or_false] at hg; rcases hg with rfl | rfl <;> first | exact h.1 | exact h.2
  | or a b => simp only [Fm.kids, List.mem_cons, List.not_mem_nil, or_false] at hg; rcases hg with rfl | rfl <;> first | exact h.1 | exact h.2
  | imp a b => simp only [Fm.kids, List.mem_cons, List.not_mem_nil, or_false] at hg; rcases hg with rfl | rfl <;> first | exact h.1 | exact h.2
  | box a => exact h.elim
  | dia a => exact h.elim
/-- The formulas of which what begins at node n is made. -/
def sfx : List Fm → Nat → List Fm
  | fs, 0 => fs
  | [], _ + 1 => []
  | f :: fs, n + 1 => sfx (f.kids ++ fs) n
theorem sfx_succ : ∀ (n : Nat) (fs : List Fm), sfx fs (n + 1) = match sfx fs n with | f :: r => f.kids ++ r | [] => []
  | 0, [] => rfl
  | 0, f :: fs => by simp [sfx]
  | n + 1, [] => rfl
  | n + 1, f :: fs => sfx_succ n (f.kids ++ fs)
theorem sfx_size : ∀ (n : Nat) (fs : List Fm), sizeL (sfx fs n) = sizeL fs - n
  | 0, fs => by simp [sfx]
  | n + 1, [] => by simp [sfx, sizeL]
  | n + 1, f :: fs => by
    show sizeL (sfx (f.kids ++ fs) n) = _
    have h1 := f.size_kids
    rw [sfx_size n, sizeL_app, show sizeL (f :: fs) = f.size + sizeL fs by simp [sizeL]]
    omega
theorem sfx_cells : ∀ (n : Nat) (fs : List Fm), (cellsL fs).drop (n * 2) = cellsL (sfx fs n)
  | 0, fs => by simp [sfx]
  | n + 1, [] => by simp [sfx, cellsL]
  | n + 1, f :: fs => by
    show _ = cellsL (sfx (f.kids ++ fs) n)
    rw [← sfx_cells n, cellsL_app, show cellsL (f :: fs) = f.cells ++ cellsL fs by simp [cellsL], f.cells_kids, List.append_assoc, show (n + 1) * 2 = n * 2 + 2 by omega, ← List.drop_drop]
    rw [show (nd f.kind f.sym ++ (cellsL f.kids ++ cellsL fs)).drop (n * 2) = (nd f.kind f.sym ++ (cellsL f.kids ++ cellsL fs)).drop (n * 2) from rfl, List.drop_drop, show n * 2 + 2 = 2 + n * 2 by omega, ← List.drop_drop]
    rfl
theorem sfx_all {Q : Fm → Prop} (hQ : ∀ f, Q f → ∀ g ∈ f.kids, Q g) : ∀ (n : Nat) (fs : List Fm), (∀ f ∈ fs, Q f) → ∀ f ∈ sfx fs n, Q f
  | 0, fs, h => by simpa [sfx] using h
  | n + 1, [], h => by simp [sfx]
  | n + 1, f :: fs, h => by
    show ∀ g ∈ sfx (f.kids ++ fs) n, Q g
    refine sfx_all hQ n _ fun g hg => ?_
    rcases List.mem_append.1 hg with hg | hg
    · exact hQ f (h f List.mem_cons_self) g hg
    · exact h g (List.mem_cons_of_mem _ hg)
/-- The stack when nodes from n on are done. -/
def stk (f : Fr) (V : Nat → Nat) (a : Fm) (n : Nat) : List Nat := ((sfx [a] n).map (frc f V)).reverse
theorem frc_lt2 {f : Fr} {V : Nat → Nat} (hV : ∀ v, V v < 2 ^ f.n) : ∀ a, frc f V a < 2 ^ f.n
  | .var v => hV v
  | .fls => Nat.two_pow_pos _
  | .and _ b => Nat.and_lt_two_pow _ (frc_lt2 hV b)
  | .or a b => Nat.or_lt_two_pow (frc_lt2 hV a) (frc_lt2 hV b)
  | .imp _ _ => impM_lt _ _ _
  | .box _ => Nat.two_pow_pos _
  | .dia _ => Nat.two_pow_pos _
theorem ok_forced_1 {lo b : Nat} {e : TypeId} {w : World} {v x : Value} {xs : List Value} (hB : Blk e w b [v]) (ho : Ow lo t_i64 w v (xs ++ [x])) (hne : t_i64 ≠ e) :
    Cal Tryz.prog f_impl_Poset_forced_1 #[.pointer (some ⟨b, 0, none⟩)] w fun r w' => r = x ∧ ∃ v', Blk e w' b [v'] ∧ Ow lo t_i64 w' v' xs ∧ Ch (fun c => c = b) w w' := by
  have hl := ho.sl.len
  rw [List.length_append, List.length_singleton] at hl
  apply c_impl_Poset_forced_1; unfold S_impl_Poset_forced_1
  refine iLdB hB (v := v) rfl (iLdB hB (v := v) rfl ?_)
  refine iLenS ho.sl ?_
  rw [List.length_append, List.length_singleton]
  refine iSub (by omega) ?_
  rw [show ((xs.length + 1 : Nat) : Int) - 1 = (xs.length : Int) by omega]
  refine iIa (j := (xs.length : Int)) ho.sl (by omega) (by simp; omega) fun p hp => ?_
  refine iLd (v := x) (by rw [hp]; simp) ?_
  refine iLdB hB (v := v) rfl (iLdB hB (v := v) rfl ?_)
  refine iLenS ho.sl ?_
  rw [List.length_append, List.length_singleton]
  refine iSub (by omega) ?_
  rw [show ((xs.length + 1 : Nat) : Int) - 1 = (xs.length : Int) by omega]
  refine iSlDown ho fun v' hb' ho' => ?_
  have hnb : v'.ownBlock ≠ some b := by rw [hb']; exact ho.ne_blk hB hne
  refine iStB hB (i := 0) (by simp) ho'.cell fun hB' => ?_
  exact ⟨rfl, v', hB', ho'.other hnb _, (Upd.setCell w b 0 v').ch rfl⟩
theorem ok_impl_forced {f : Fr} (hf : f.ok) {va vv vn : Value} {w : World} (hs : SlN w va f.a) {vals : List Nat} (hv : SlN w vv vals) (h6 : vals.length = 6) (hlt : ∀ x ∈ vals, x < 2 ^ f.n) {a : Fm} (ha : FmS w vn a) (hpl : Fm.pl a) (hsz : a.size ≤ 1000000) :
    Ret Tryz.prog f_impl_Poset_forced #[.agg #[.int .i64 (f.n : Int), va], vv, vn] w (.int .i64 ((frc f (fun v => vals.getD v 0) a : Nat) : Int)) := by
  obtain ⟨V, hVe⟩ : ∃ V : Nat → Nat, V = fun v => vals.getD v 0 := ⟨_, rfl⟩
  rw [← hVe]
  have hV : ∀ v, V v < 2 ^ f.n := fun v => by
    rw [hVe]
    show vals.getD v 0 < _
    rcases Nat.lt_or_ge v vals.length with h | h
    · exact getD_lt hlt h
    · rw [List.getD_eq_getElem?_getD, List.getElem?_eq_none h]; exact Nat.two_pow_pos _
  have h63 : ∀ g, frc f V g < 2 ^ 63 := fun g => Nat.lt_of_lt_of_le (frc_lt2 hV g) (Nat.pow_le_pow_right (by omega) (by have := hf.1; omega))
  apply c_impl_Poset_forced; unfold S_impl_Poset_forced
  refine iNew fun b3 w1 hb3 x1 hB3 => ?_
  have hB3 : Blk _ w1 b3 [.int .i64 (f.n : Int), va] := hB3
  refine iNew fun b7 w2 hb7 x2 hB7 => ?_
  have hB7 : Blk _ w2 b7 [.slice none 0 0] := hB7
  have hx := x1.trans x2
  refine iLenK (ha.ext hx) ?_
  refine iSub (by omega) ?_
  have hlo : w.heap.size ≤ w2.heap.size := hx.size
  have hsa : sizeL [a] = a.size := by simp [sizeL]
  refine iLp (fun n : Nat => [.int .i64 ((n : Int) - 1)]) (fun n w' => n ≤ a.size ∧ Ext w w' ∧ Blk 26 w' b3 [.int .i64 (f.n : Int), va] ∧ ∃ v, Blk 24 w' b7 [v] ∧ Ow w.heap.size t_i64 w' v (ints (nats (stk f V a n)))) (fun n => n) a.size rfl ⟨Nat.le_refl _, hx, hB3.ext x2, _, hB7, ?_⟩ ?_
  · have : stk f V a a.size = [] := by
      have h1 := sfx_size a.size [a]
      rw [hsa, Nat.sub_self] at h1
      have h2 := sizeL_len (sfx [a] a.size)
      have : sfx [a] a.size = [] := List.length_eq_zero_iff.1 (by omega)
      unfold stk; rw [this]; rfl
    rw [this]
    exact Ow.nil _ _ _
  rintro n w4 Kn ⟨hn, x4, hB3, v, hB7, ho⟩ hKn
  intro _
  simp only [gx]
  have hs4 := hs.ext x4
  have hv4 := hv.ext x4
  have ha4 := ha.ext x4
  have hsub : ∀ {w'}, Ch (fun c => c = b7) w4 w' → Ext w w' := fun hc => x4.thenCh hc fun c h => by subst h; have := x1.size; omega
  refine iLe (iCndP (fun h => ?_) (fun h => ?_))
  · obtain ⟨m, rfl⟩ : ∃ m, n = m + 1 := ⟨n - 1, by omega⟩
    have hm : m < a.size := by omega
    rw [show ((m + 1 : Nat) : Int) - 1 = (m : Int) by omega]
    obtain ⟨g, r, hg⟩ : ∃ g r, sfx [a] m = g :: r := by
      have h1 := sfx_size m [a]
      rw [hsa] at h1
      cases hc : sfx [a] m with
      | nil => rw [hc] at h1; simp [sizeL] at h1; omega
      | cons g r => exact ⟨g, r, rfl⟩
    have hpg : Fm.pl g := sfx_all (Q := Fm.pl) (fun _ h => pl_kids h) m [a] (by simpa using hpl) g (by rw [hg]; simp)
    have hcell : a.cells.drop (m * 2) = cellsL (g :: r) ++ [] := by
      rw [List.append_nil, ← hg, ← sfx_cells]; simp [cellsL]
    obtain ⟨hk, hsy, -⟩ := kind_at hcell
    have hnext : sfx [a] (m + 1) = g.kids ++ r := by rw [sfx_succ, hg]
    have hst : stk f V a (m + 1) = (r.map (frc f V)).reverse ++ (g.kids.map (frc f V)).reverse := by
      unfold stk; rw [hnext, List.map_append, List.reverse_append]
    have hst0 : stk f V a m = (r.map (frc f V)).reverse ++ [frc f V g] := by
      unfold stk; rw [hg, List.map_cons, List.reverse_cons]
    rw [hst] at ho
    -- the way on: the stack without the parts, and the value
    have go : ∀ w6 v6, Ext w w6 → Blk 26 w6 b3 [.int .i64 (f.n : Int), va] → Blk 24 w6 b7 [v6] → Ow w.heap.size t_i64 w6 v6 (ints (nats ((r.map (frc f V)).reverse))) →
        xLd w6 (.pointer (some ⟨b7, 0, none⟩)) fun v58 => xBs t_i64 (Value.cells (.int .i64 0)) 1 1 [(0, (.int .i64 ((frc f V g : Nat) : Int)))] w6 fun v60 w21 => xOp Tryz.prog (Builtin.append_ #[24, 24] 24 #[v58, v60]) w21 fun v61 w22 =>
        xSt w22 (.pointer (some ⟨b7, 0, none⟩)) v61 fun w23 => xSub .i64 (.int .i64 (m : Int)) (.int .i64 1) fun v19 => Kn [v19] w23 := by
      intro w6 v6 x6 hB36 hB76 ho6
      refine iLdB hB76 (v := v6) rfl ?_
      have hrl : r.length ≤ a.size := by
        have h1 := sfx_size m [a]
        rw [hsa, hg] at h1
        have h2 := sizeL_len (g :: r)
        rw [List.length_cons] at h2
        omega
      refine iApp1 u_Si64 i_Si64 rfl ho6 rfl (by simp [ints, nats]; omega) (by simp [ints, nats]; omega) (by have := x6.size; omega) fun v7 w7 ho7 hg7 => ?_
      have hnb6 := ho6.ne_blk hB76 (show t_i64 ≠ 24 by decide)
      have hB77 : Blk 24 w7 b7 [v6] := by
        unfold Blk at hB76 ⊢
        rw [hg7.block b7 (heap_lt hB76) fun e => hnb6 e.symm]; exact hB76
      have hnb3 := ho6.ne_blk hB36 (show t_i64 ≠ 26 by decide)
      have hB37 : Blk 26 w7 b3 [.int .i64 (f.n : Int), va] := by
        unfold Blk at hB36 ⊢
        rw [hg7.block b3 (heap_lt hB36) fun e => hnb3 e.symm]; exact hB36
      have x7 : Ext w w7 := x6.grown hg7 fun b hb => (ho6.blk b hb).1
      refine iStB hB77 (i := 0) (by simp) ho7.cell fun hB78 => ?_
      have hnb7 := ho7.ne_blk hB77 (show t_i64 ≠ 24 by decide)
      refine iSub (by omega) ?_
      refine hKn m _ ⟨by omega, ?_, hB37.other (hB37.ne_blk hB77 (by decide)) _, v7, hB78, ?_⟩ (by omega)
      · exact ext_set x7 (by have := x1.size; show w.heap.size ≤ b7; omega) _
      · have := ho7.other (i := 0) hnb7 v7
        rw [hst0]
        simpa [ints, nats] using this
    refine iFld (f := 0) ha4 rfl hm (by decide) hk ?_
    cases g with
    | var z =>
      refine iEq (iCndT (by first | rfl | decide) ?_)
      refine iFld (f := 1) ha4 rfl hm (by decide) hsy ?_
      have hz : z < 6 := hpg
      refine iIaNN (j := z) hv4 (by omega) fun p hp => iLd hp ?_
      intro _
      simp only [gx]
      have e : frc f V (.var z) = vals.getD z 0 := by simp only [frc, hVe]
      have := go w4 v x4 hB3 hB7 (by simpa [Fm.kids] using ho)
      rw [e] at this
      exact this
    | fls =>
      refine iEq (iCndF (by first | rfl | decide) ?_)
      refine iEq (iCndF (by first | rfl | decide) ?_)
      refine iEq (iCndF (by first | rfl | decide) ?_)
      refine iEq (iCndF (by first | rfl | decide) ?_)
      intro _; intro _; intro _; intro _
      simp only [gx]
      exact go w4 v x4 hB3 hB7 (by simpa [Fm.kids] using ho)
    | and p q =>
      refine iEq (iCndF (by first | rfl | decide) ?_)
      refine iEq (iCndT (by first | rfl | decide) ?_)
      have ho : Ow w.heap.size t_i64 w4 v (ints (nats ((r.map (frc f V)).reverse)) ++ [.int .i64 ((frc f V q : Nat) : Int)] ++ [.int .i64 ((frc f V p : Nat) : Int)]) := by simpa [Fm.kids, ints, nats] using ho
      refine iClo rfl ((ok_forced_1 hB7 ho (by decide)).mono ?_)
      rintro u1 w5 ⟨rfl, v5, hB75, ho5, c5⟩
      refine iClo rfl ((ok_forced_1 hB75 ho5 (by decide)).mono ?_)
      rintro u2 w6 ⟨rfl, v6, hB76, ho6, c6⟩
      refine iBAnd (h63 _) (h63 _) ?_
      intro _; intro _
      simp only [gx]
      have c46 : Ch (fun c => c = b7) w4 w6 := c5.trans c6 fun b hb => .inl hb
      exact go w6 v6 (hsub c46) (hB3.ch c46 (hB3.ne_blk hB7 (by decide))) hB76 ho6
    | or p q =>
      refine iEq (iCndF (by first | rfl | decide) ?_)
      refine iEq (iCndF (by first | rfl | decide) ?_)
      refine iEq (iCndT (by first | rfl | decide) ?_)
      have ho : Ow w.heap.size t_i64 w4 v (ints (nats ((r.map (frc f V)).reverse)) ++ [.int .i64 ((frc f V q : Nat) : Int)] ++ [.int .i64 ((frc f V p : Nat) : Int)]) := by simpa [Fm.kids, ints, nats] using ho
      refine iClo rfl ((ok_forced_1 hB7 ho (by decide)).mono ?_)
      rintro u1 w5 ⟨rfl, v5, hB75, ho5, c5⟩
      refine iClo rfl ((ok_forced_1 hB75 ho5 (by decide)).mono ?_)
      rintro u2 w6 ⟨rfl, v6, hB76, ho6, c6⟩
      refine iBOr (h63 _) (h63 _) ?_
      intro _; intro _; intro _
      simp only [gx]
      have c46 : Ch (fun c => c = b7) w4 w6 := c5.trans c6 fun b hb => .inl hb
      exact go w6 v6 (hsub c46) (hB3.ch c46 (hB3.ne_blk hB7 (by decide))) hB76 ho6
    | imp p q =>
      refine iEq (iCndF (by first | rfl | decide) ?_)
      refine iEq (iCndF (by first | rfl | decide) ?_)
      refine iEq (iCndF (by first | rfl | decide) ?_)
      refine iEq (iCndT (by first | rfl | decide) ?_)
      have ho : Ow w.heap.size t_i64 w4 v (ints (nats ((r.map (frc f V)).reverse)) ++ [.int .i64 ((frc f V q : Nat) : Int)] ++ [.int .i64 ((frc f V p : Nat) : Int)]) := by simpa [Fm.kids, ints, nats] using ho
      refine iClo rfl ((ok_forced_1 hB7 ho (by decide)).mono ?_)
      rintro u1 w5 ⟨rfl, v5, hB75, ho5, c5⟩
      have hB35 := hB3.ch c5 (hB3.ne_blk hB7 (by decide))
      refine ⟨fun c => c = b7, iLdA hB35 rfl ⟨fun w7 c7 => iLdA (hB35.ch c7 (hB35.ne_blk hB75 (by decide))) rfl rfl, fun w6 x6 => ?_⟩⟩
      have hB76 := hB75.ext x6
      refine iClo rfl ((ok_forced_1 hB76 (ho5.ext x6) (by decide)).mono ?_)
      rintro u2 w7 ⟨rfl, v7, hB77, ho7, c7⟩
      refine ⟨c7, _, fun w8 c8 => iCall ((ok_impl_imply hf ?_ _ _ (frc_lt2 hV p) (frc_lt2 hV q)).mono fun _ _ h => h), ?_⟩
      · have c48 : Ch (fun c => c = b7) w4 w8 := ((c5.trans x6.ch (S' := fun c => c = b7) fun b hb => .inl hb).trans c7 fun b hb => .inl hb).trans c8 fun b hb => .inl hb
        exact hs.ext (hsub c48)
      · intro w8 x8
        have c48 : Ch (fun c => c = b7) w4 w8 := ((c5.trans x6.ch (S' := fun c => c = b7) fun b hb => .inl hb).trans c7 fun b hb => .inl hb).trans x8.ch (S' := fun c => c = b7) fun b hb => .inl hb
        intro _; intro _; intro _; intro _
        simp only [gx]
        exact go w8 v7 (hsub c48) (hB3.ch c48 (hB3.ne_blk hB7 (by decide))) (hB77.ext x8) (ho7.ext x8)
    | box p => exact hpg.elim
    | dia p => exact hpg.elim
  · have h0 : n = 0 := by omega
    subst h0
    have e : stk f V a 0 = [frc f V a] := by simp [stk, sfx]
    rw [e] at ho
    refine iLdB hB7 (v := v) rfl ?_
    refine iIa (j := 0) ho.sl (by omega) (by simp [ints, nats]) fun p hp => ?_
    refine iLd (v := .int .i64 ((frc f V a : Nat) : Int)) (by rw [hp]; simp [ints, nats]) ⟨rfl, x4⟩
end Go.Proofs.YtikfhibcdhdglaaGreat

/- Plain facts on duals of maps: they tell the maps apart; as many as the maps. No program in sight. Conditions: none. -/
namespace Go.Vc
section
variable {α : Type} {lt : α → α → Bool}
end
end Go.Vc

/- Contracts: the frame of an algebra in the program; isomorphic algebras. Conditions: none. -/
namespace Go.Proofs.YtikfhibcdhdglaaGreat
open Go.Vc
end Go.Proofs.YtikfhibcdhdglaaGreat

/- Contracts: duals of maps in the program and in the reference. Conditions: none. -/
namespace Go.Proofs.YtikfhibcdhdglaaGreat
open Go.Vc
end Go.Proofs.YtikfhibcdhdglaaGreat

/- Contracts: premises in the reference, conclusions, TellingFormulas. Conditions: none. -/
namespace Go.Proofs.YtikfhibcdhdglaaGreat
open Go.Vc
theorem frOf_natsJ (g : Fr) : frOf (g.n : Int) (nats g.a) = g := by
  unfold frOf nats
  rw [Int.toNat_natCast, List.map_map]
  have : (Int.toNat ∘ fun (x : Nat) => (x : Int)) = id := by funext x; simp
  first
    | rw [this, List.map_id]
    | simp [Function.comp_def]
theorem poB_ofJ {f : Fr} (hp : Po f) : poB f = true := by
  unfold poB
  rw [Bool.and_eq_true, Bool.and_eq_true]
  refine ⟨?_, (flagB_trans hp.ok).2 hp.trans, flagB_iff.2 fun x _ => ⟨by unfold flag1; simp, fun y _ => ?_⟩⟩
  · rw [flagB_refl, List.all_eq_true]
    exact fun x hx => hp.refl x (List.mem_range.1 hx)
  · unfold flag2
    cases h1 : (f.a.getD x 0).testBit y
    · rfl
    · cases h2 : (f.a.getD y 0).testBit x
      · simp
      · simp [hp.anti x y h1 h2]
theorem posetOk_ofJ {f : Fr} (hp : Po f) : posetOk (f.n : Int) (nats f.a) = true := by
  unfold posetOk frameOk
  rw [frOf_natsJ, poB_ofJ hp, Bool.and_true, Bool.and_eq_true, Bool.and_eq_true, decide_eq_true_eq, decide_eq_true_eq, List.all_eq_true, Int.toNat_natCast]
  refine ⟨⟨⟨by omega, by have := hp.ok.1; omega⟩, by rw [nats_length, hp.ok.2.1]⟩, fun z hz => ?_⟩
  obtain ⟨m, hm, rfl⟩ := List.mem_map.1 hz
  have := hp.ok.2.2 m hm
  unfold maskB
  rw [decide_eq_true_eq]
  generalize 2 ^ f.n = k at *
  show 0 ≤ (m : Int) ∧ (m : Int) ≤ ((k - 1 : Nat) : Int)
  omega
end Go.Proofs.YtikfhibcdhdglaaGreat

/- Contracts: maps between posets, masks drawn back and spread, roots, the code of Jankov's formulas. Conditions: none. -/
namespace Go.Proofs.YtikfhibcdhdglaaGreat
open Go.Vc
theorem ok_impl_mapMask {v : Value} {w : World} {im : List Nat} (hs : SlN w v im) (hl : im.length ≤ 60) (hy : ∀ y ∈ im, y < 60) (m : Nat) (hm : m < 2 ^ im.length) : Ret Tryz.prog f_impl_mapMask #[v, .int .i64 (m : Int)] w (.int .i64 ((img im m : Nat) : Int)) := by
  have hm63 : m < 2 ^ 63 := Nat.lt_of_lt_of_le hm (Nat.pow_le_pow_right (by omega) (by omega))
  have hml : (mem m).length ≤ 63 := memK_length_le m 63
  have hmb : ∀ x, x ∈ mem m → x < im.length := fun x hx => bit_lt_n hm ((mem_mem hm63).1 hx)
  apply c_impl_mapMask; unfold S_impl_mapMask
  refine iCall ((ok_impl_membersOf m hm63 w).mono ?_)
  rintro u w1 ⟨x1, ho⟩
  have hu : SlN w1 u (mem m) := ho.sl
  have e : ∀ k, setOf (((mem m).take k).map fun i => im.getD i 0) < 2 ^ 60 := fun k => setOf_lt fun y hy' => by
    obtain ⟨i, hi, rfl⟩ := List.mem_map.1 hy'
    exact getD_lt hy (hmb i (List.mem_of_mem_take hi))
  refine iLenN hu ?_
  refine iLp (fun k : Nat => [.int .i64 ((setOf (((mem m).take k).map fun i => im.getD i 0) : Nat) : Int), .int .i64 (k : Int)]) (fun k w' => k ≤ (mem m).length ∧ Ext w1 w') (fun k => (mem m).length - k) 0 rfl ⟨Nat.zero_le _, Ext.refl _⟩ ?_
  rintro k w2 Kn ⟨hk, x2⟩ hKn
  have hu2 := hu.ext x2
  have hs2 := hs.ext (x1.trans x2)
  intro _
  simp only [gx]
  refine iLt (iCndP (fun h => ?_) (fun h => ?_))
  · have hk1 : k < (mem m).length := by omega
    refine iIaNN hu2 hk1 fun p hp => iLd hp ?_
    have hg : (mem m).getD k 0 = (mem m)[k] := by simp [hk1]
    have hx : (mem m).getD k 0 < im.length := by rw [hg]; exact hmb _ (List.getElem_mem hk1)
    refine iIaNN hs2 hx fun p hp => iLd hp ?_
    have hyy := getD_lt hy hx
    refine iShlOne (by omega) ?_
    have h1 := e k
    have h2 : 2 ^ im.getD ((mem m).getD k 0) 0 < 2 ^ 60 := Nat.pow_lt_pow_right (by omega) hyy
    refine iBOr (by omega) (by omega) ?_
    refine iAdd (by omega) ?_
    rw [show setOf (((mem m).take k).map fun i => im.getD i 0) ||| 2 ^ im.getD ((mem m).getD k 0) 0 = setOf (((mem m).take (k + 1)).map fun i => im.getD i 0) by
      rw [List.take_succ_eq_append_getElem hk1, List.map_append, List.map_singleton, setOf_snoc, hg]]
    exact hKn (k + 1) _ ⟨by omega, x2⟩ (by omega)
  · rw [List.take_of_length_le (by omega)]
    refine ⟨?_, x1.trans x2⟩
    have : img im m = setOf ((mem m).map fun i => im.getD i 0) := by
      unfold img imgK
      have : memK m im.length = mem m := by
        obtain ⟨d, hd⟩ : ∃ d, 63 = im.length + d := ⟨63 - im.length, by omega⟩
        unfold mem
        rw [hd]
        exact (memK_high (fun j hj => Nat.testBit_lt_two_pow (Nat.lt_of_lt_of_le hm (Nat.pow_le_pow_right (by omega) hj))) d).symm
      rw [this]
    rw [this]
theorem ok_impl_isMorphism_good {f g : Fr} (hf : f.ok) (hg : g.ok) {v0 v1 v : Value} {w : World} (h0 : SlN w v0 f.a) (h1 : SlN w v1 g.a) {im : List Nat} (hs : SlN w v im) (hl : im.length = f.n) (hy : ∀ y ∈ im, y < g.n) (hm : ∀ x, x < f.n → img im (f.a.getD x 0) = g.a.getD (im.getD x 0) 0) :
    Ret Tryz.prog f_impl_isMorphism #[.agg #[.int .i64 (f.n : Int), v0], .agg #[.int .i64 (g.n : Int), v1], v] w (.bool true) := by
  have hf8 := hf.1
  have hg8 := hg.1
  apply c_impl_isMorphism; unfold S_impl_isMorphism
  refine iNew fun b3 w1 hb3 x1 hB3 => ?_
  refine iNew fun b4 w2 hb4 x2 hB4 => ?_
  refine iNew fun b5 w3 hb5 x3 hB5 => ?_
  have hB3 : Blk _ w3 b3 [.int .i64 (f.n : Int), v0] := (hB3.ext x2).ext x3
  have hB4 : Blk _ w3 b4 [.int .i64 (g.n : Int), v1] := hB4.ext x3
  have hcv : Value.cells v = #[v] := by obtain ⟨a, c, rfl, _⟩ := hs; rfl
  have hB5 : Blk 24 w3 b5 [v] := by rw [hcv] at hB5; exact hB5
  have hX := (x1.trans x2).trans x3
  refine iLdA hB3 rfl ?_
  refine iRet (v := .bool true) ?_ fun w4 x4 => ⟨rfl, hX.trans x4⟩
  have key := ok_impl_Frame_everyWorld (n := f.n) (fv := .func (.func f_impl_isMorphism_1) #[] #[.pointer (some ⟨b5, 0, none⟩), .pointer (some ⟨b3, 0, none⟩), .pointer (some ⟨b4, 0, none⟩)]) (u := v0) (fun _ => true) (by omega) w3 ?_
  · have : (List.range f.n).all (fun _ => true) = true := by simp
    rw [this] at key; exact key
  intro w' x' x hx
  refine iClo rfl ?_
  refine c_impl_isMorphism_1 ?_; unfold S_impl_isMorphism_1
  have hw := hX.trans x'
  have hxl : f.a.getD x 0 < 2 ^ im.length := by rw [hl]; exact hf.lt hx
  refine iLdB (hB5.ext x') (v := v) rfl ?_
  refine iFa (iLdB (hB3.ext x') (i := 1) (v := v0) rfl ?_)
  refine iIaNN (h0.ext hw) (by rw [hf.2.1]; exact hx) fun p hp => iLd hp ?_
  refine iRetQ (fun w'' x'' => ok_impl_mapMask ((hs.ext hw).ext x'') (by omega) (fun y h => by have := hy y h; omega) _ hxl) ?_
  refine iFa (iLdB (hB4.ext x') (i := 1) (v := v1) rfl ?_)
  refine iLdB (hB5.ext x') (v := v) rfl ?_
  refine iIaNN (hs.ext hw) (by omega) fun p hp => iLd hp ?_
  have hyx : im.getD x 0 < g.n := getD_lt hy (by omega)
  refine iIaNN (h1.ext hw) (by rw [hg.2.1]; exact hyx) fun p hp => iLd hp ?_
  refine iEq ?_
  rw [hm x hx, decide_eq_true rfl]
  exact fun w1 x1 => ⟨rfl, x1⟩
theorem ok_impl_hasWorldP {v : Value} (n x : Int) (hn : -1000 ≤ n ∧ n ≤ 1000) (w : World) : Ret Tryz.prog f_impl_Frame_hasWorld #[.agg #[.int .i64 n, v], .int .i64 x] w (.bool (decide (0 ≤ x ∧ x ≤ n - 1))) := by
  apply c_impl_Frame_hasWorld; unfold S_impl_Frame_hasWorld
  refine iNew fun b w1 hb h1 hB => ?_
  have hB : Blk _ w1 b [.int .i64 n, v] := hB
  refine iFa (iLdB hB (v := .int .i64 n) rfl ?_)
  refine iSub (by omega) ?_
  exact iRet (ok_impl_inRange _ _ _ w1) fun w2 h2 => ⟨rfl, h1.trans h2⟩
theorem ok_impl_isMap_goodP {v0 v1 v : Value} {w : World} {im : List Nat} {n0 n1 : Nat} (hs : SlN w v im) (hl : im.length = n0) (hy : ∀ y ∈ im, y < n1) (hn : n0 ≤ 1000 ∧ n1 ≤ 1000) : Ret Tryz.prog f_impl_isMap #[.agg #[.int .i64 (n0 : Int), v0], .agg #[.int .i64 (n1 : Int), v1], v] w (.bool true) := by
  apply c_impl_isMap; unfold S_impl_isMap
  refine iNew fun b w1 hb h1 hB => ?_
  refine iNew fun b2 w2 hb2 h2 hB2 => ?_
  have hX := h1.trans h2
  have hB : Blk _ w2 b [.int .i64 (n0 : Int), v0] := hB.ext h2
  have hB2 : Blk _ w2 b2 [.int .i64 (n1 : Int), v1] := hB2
  have hs2 : SlI w2 v (nats im) := hs.ext hX
  refine iJnB true w2 (fun J hJ => ?_) (fun w4 h4 => fun _ => ⟨rfl, hX.trans h4⟩)
  refine iRetQ (fun w' x => ok_impl_size_i64 (Sl.ext hs2 x)) ?_
  rw [ints_length, nats_length]
  refine iFa (iLdB hB (v := .int .i64 (n0 : Int)) rfl ?_)
  refine iEq (iCndP (fun _ => ?_) (fun h => absurd (by omega) h))
  refine iRetQ (fun w' x => ok_slices_ContainsFunc_Si64_i64 (hs2.ext x) (fun y => !decide (0 ≤ y ∧ y ≤ (n1 : Int) - 1)) (fun w3 x3 y hy' => ?_)) ?_
  · refine iClo rfl ?_
    refine c_impl_isMap_1 ?_
    unfold S_impl_isMap_1
    refine iLdA ((hB2.ext x).ext x3) rfl ?_
    refine iRet (ok_impl_hasWorldP _ _ (by omega) w3) fun w4 h4 => ?_
    exact iNot ⟨rfl, h4⟩
  · have e : (nats im).any (fun y => !decide (0 ≤ y ∧ y ≤ (n1 : Int) - 1)) = false := List.any_eq_false.2 fun y hy' => by
      obtain ⟨i, hi, rfl⟩ := List.mem_map.1 hy'
      have := hy i hi
      have h2 : decide (0 ≤ Int.ofNat i ∧ Int.ofNat i ≤ (n1 : Int) - 1) = true := decide_eq_true ⟨Int.natCast_nonneg _, by show (i : Int) ≤ _; omega⟩
      rw [h2]; simp
    rw [e]
    refine iNot ?_
    intro w5 h5
    exact hJ w5 h5
theorem ok_impl_isPosetMorphism_good {f g : Fr} (hf : f.ok) (hg : g.ok) {v0 v1 v : Value} {w : World} (h0 : SlN w v0 f.a) (h1 : SlN w v1 g.a) {im : List Nat} (hs : SlN w v im) (hl : im.length = f.n) (hy : ∀ y ∈ im, y < g.n) (hm : ∀ x, x < f.n → img im (f.a.getD x 0) = g.a.getD (im.getD x 0) 0) :
    Ret Tryz.prog f_impl_isPosetMorphism #[.agg #[.int .i64 (f.n : Int), v0], .agg #[.int .i64 (g.n : Int), v1], v] w (.bool true) := by
  have hf8 := hf.1
  have hg8 := hg.1
  have hfr : ∀ {w' : World}, Ext w w' → Ret Tryz.prog f_impl_Poset_frame #[.agg #[.int .i64 (f.n : Int), v0]] w' (.agg #[.int .i64 (f.n : Int), v0]) := fun x => by
    have := ok_impl_Poset_frame (h0.ext x) (f.n : Int)
    rw [nats_length, hf.2.1] at this; exact this
  have hgr : ∀ {w' : World}, Ext w w' → Ret Tryz.prog f_impl_Poset_frame #[.agg #[.int .i64 (g.n : Int), v1]] w' (.agg #[.int .i64 (g.n : Int), v1]) := fun x => by
    have := ok_impl_Poset_frame (h1.ext x) (g.n : Int)
    rw [nats_length, hg.2.1] at this; exact this
  apply c_impl_isPosetMorphism; unfold S_impl_isPosetMorphism
  refine iNew fun b3 w1 hb3 x1 hB3 => ?_
  refine iNew fun b4 w2 hb4 x2 hB4 => ?_
  have hB3 : Blk _ w2 b3 [.int .i64 (f.n : Int), v0] := hB3.ext x2
  have hB4 : Blk _ w2 b4 [.int .i64 (g.n : Int), v1] := hB4
  have hX := x1.trans x2
  refine iJnB true w2 (fun J hJ => ?_) (fun w4 h4 => fun _ => ⟨rfl, hX.trans h4⟩)
  refine iLdA hB3 rfl (iLdA hB4 rfl ?_)
  intro w5 x5
  have c5 := hX.trans x5
  refine iRet (hfr c5) fun w6 x6 => ⟨x6, fun w7 x7 => ?_⟩
  have c7 := (c5.trans x6).trans x7
  refine iRet (hgr c7) fun w8 x8 => ?_
  have c8 := c7.trans x8
  refine iRetQ (fun w' x => ok_impl_isMap_goodP ((hs.ext c8).ext x) hl hy (by omega)) ?_
  refine iCndT rfl ?_
  have d8 := ((x5.trans x6).trans x7).trans x8
  refine iLdA (hB3.ext d8) rfl (iLdA (hB4.ext d8) rfl ?_)
  intro w9 x9
  have c9 := c8.trans x9
  refine iRet (hfr c9) fun w10 x10 => ⟨x10, fun w11 x11 => ?_⟩
  have c11 := (c9.trans x10).trans x11
  refine iRet (hgr c11) fun w12 x12 => ?_
  have c12 := c11.trans x12
  refine iRetQ (fun w' x => ok_impl_isMorphism_good hf hg ((h0.ext c12).ext x) ((h1.ext c12).ext x) ((hs.ext c12).ext x) hl hy hm) ?_
  exact fun w13 x13 => hJ _ ((((d8.trans x9).trans x10).trans x11).trans (x12.trans x13))
/-! ### Spread -/
/-! ### Roots, where there may be none -/
end Go.Proofs.YtikfhibcdhdglaaGreat

/- Contracts: which rows of nodes are formulas, in the reference. Conditions: none. -/
namespace Go.Vc
/-- A row of nodes that can be read; a row of the call's own. -/
abbrev RawS (w : World) (v : Value) (N : List RN) : Prop := SlK 2 w v N.length (cellsN N)
theorem goN_drop {N : List RN} {j : Nat} (hj : j < N.length) (o : Nat) : goN (N.drop j) (o + 1) = goN (N.drop (j + 1)) (o + arZ N[j].1) := by
  rw [List.drop_eq_getElem_cons hj]; rfl
/-- The end of the formula that begins at i, or -1. -/
def endN (N : List RN) (i : Nat) : Int := match goN (N.drop i) 1 with
  | some R => ((N.length - R.length : Nat) : Int)
  | none => -1
theorem goN_len : ∀ (N : List RN) (o : Nat) (R : List RN), goN N o = some R → R.length ≤ N.length
  | N, 0, R, h => by rw [goN_zero] at h; cases h; exact Nat.le_refl _
  | [], _ + 1, _, h => by cases h
  | q :: N, o + 1, R, h => by
    rw [goN_cons] at h
    have := goN_len N _ R h
    rw [List.length_cons]; omega
theorem endN_tree {N : List RN} (h : N.all okN = true) (hp : 0 < N.length) : decide (endN N 0 = (N.length : Int)) = treeN N := by
  unfold treeN endN
  rw [h, Bool.true_and, List.drop_zero]
  cases hg : goN N 1 with
  | none => 
    refine decide_eq_decide.2 ⟨fun e => ?_, fun e => by cases e⟩
    have e : (-1 : Int) = (N.length : Int) := e
    omega
  | some R =>
    have hl := goN_len N 1 R hg
    refine decide_eq_decide.2 ⟨fun e => ?_, fun e => ?_⟩
    · have e : ((N.length - R.length : Nat) : Int) = (N.length : Int) := e
      have : R = [] := List.length_eq_zero_iff.1 (by omega)
      rw [this]
    · cases e
      show ((N.length - 0 : Nat) : Int) = _
      rw [Nat.sub_zero]
theorem okN_nat {q : RN} (h : okN q = true) : ∃ k s : Nat, q = ((k : Int), (s : Int)) ∧ k ≤ 6 ∧ s ≤ 5 := by
  obtain ⟨⟨h1, h2⟩, ⟨h3, h4⟩, _⟩ := okN_iff.1 h
  obtain ⟨a, b⟩ := q
  have h1 : 0 ≤ a := h1
  have h2 : a ≤ 6 := h2
  have h3 : 0 ≤ b := h3
  have h4 : b ≤ 5 := h4
  refine ⟨a.toNat, b.toNat, ?_, by omega, by omega⟩
  rw [Int.toNat_of_nonneg h1, Int.toNat_of_nonneg h3]
end Go.Vc
namespace Go.Proofs.YtikfhibcdhdglaaGreat
open Go.Vc
theorem FmS.raw {w : World} {v : Value} {f : Fm} (h : FmS w v f) : RawS w v (rawF f) := by
  show SlK 2 w v (rawF f).length (cellsN (rawF f))
  rw [rawF_len, cellsN_raw]; exact h
theorem RawS.fm {w : World} {v : Value} {f : Fm} (h : RawS w v (rawF f)) : FmS w v f := by
  have h : SlK 2 w v (rawF f).length (cellsN (rawF f)) := h
  rwa [rawF_len, cellsN_raw] at h
end Go.Proofs.YtikfhibcdhdglaaGreat

/- Contracts: which rows of nodes are formulas, in the program; lists of them. Conditions: none. -/
namespace Go.Vc
/-- A whole element of k cells. -/
theorem iRdAgg6 {P : Program} {sz n j : Nat} {w : World} {v : Value} {xs ys : List Value} {k : IntKind} {K : Value → Prop} (hs : SlK sz w v n xs) (hj : j < n) (hl : ys.length = sz) (hy : ∀ i, i < sz → xs[j * sz + i]? = ys[i]?) (h : K (.agg ys.toArray)) : xIa sz v (.int k (j : Int)) fun p => xLdA w sz p K := by
  have _ := P
  refine iIaK hs hj fun b o hc => ?_
  refine ⟨_, ys.toArray, rfl, by simpa using hl, fun i hi => ?_, h⟩
  have e : (⟨b, o, none⟩ : Addr).add i = ⟨b, o + i, none⟩ := by
    simp only [Addr.add]; split
    · rename_i e; simp [e]
    · rfl
  rw [e, hc i hi, hy i hi]
  simp
/-- A variable of several cells is made and set. -/
theorem iVar6 {P : Program} {w : World} {e : TypeId} {n : Nat} {cs : Array Value} {a : Array Value} {K : Value → World → Prop} (hn : cs.size = n) (ha : a.size = n) (hc : ∀ v ∈ a.toList, isCell v = true)
    (h : ∀ b w', w.heap.size ≤ b → Ext w w' → Blk e w' b a.toList → K (.pointer (some ⟨b, 0, none⟩)) w') : xNew cs e w fun v w1 => xStA P w1 n v (.agg a) fun w2 => K v w2 := by
  refine iNew fun b w1 hb h1 hB => ?_
  refine iStAB hB (by simpa using hn) ha hc fun w2 hu hB2 => ?_
  exact h b w2 (by omega) (h1.upd hu (by omega)) hB2
end Go.Vc
namespace Go.Proofs.YtikfhibcdhdglaaGreat
open Go.Vc
theorem ok_impl_isVariableN (x : Int) (w : World) : Ret Tryz.prog f_impl_isVariable #[.int .i64 x] w (.bool (decide (0 ≤ x ∧ x ≤ 5))) := by
  apply c_impl_isVariable; unfold S_impl_isVariable
  exact iRet (ok_impl_inRange x 0 5 w) fun w1 h1 => ⟨rfl, h1⟩
theorem ok_impl_isNodeN (q : RN) (w : World) : Ret Tryz.prog f_impl_isNode #[.agg #[.int .i64 q.1, .int .i64 q.2]] w (.bool (okN q)) := by
  obtain ⟨k, s⟩ := q
  show Ret Tryz.prog f_impl_isNode #[.agg #[.int .i64 k, .int .i64 s]] w (.bool (okN (k, s)))
  have e : okN (k, s) = (decide (0 ≤ k ∧ k ≤ 6) && (decide (0 ≤ s ∧ s ≤ 5) && (decide (k = 0) || decide (s = 0)))) := rfl
  apply c_impl_isNode; unfold S_impl_isNode
  refine iNew fun p w1 _ x1 hB => ?_
  have hB : Blk _ w1 p [.int .i64 k, .int .i64 s] := hB
  refine iFa (iLdB hB (v := .int .i64 k) rfl ?_)
  refine iEq (iCndP (fun h0 => ?_) (fun h0 => ?_))
  · refine iFa (iLdB hB (v := .int .i64 s) rfl ?_)
    refine iRet (ok_impl_isVariableN _ w1) fun w2 x2 => ⟨?_, x1.trans x2⟩
    rw [e, decide_eq_true h0, decide_eq_true (by omega : 0 ≤ k ∧ k ≤ 6)]
    simp
  · refine iJnB (okN (k, s)) w1 (fun J hJ => ?_) (fun w2 x2 => fun _ => ⟨rfl, x1.trans x2⟩)
    refine iFa (iLdB hB (v := .int .i64 k) rfl ?_)
    refine iRet (ok_impl_inRange _ _ _ w1) fun w2 x2 => ?_
    rw [e, decide_eq_false h0] at hJ
    by_cases c1 : 1 ≤ k ∧ k ≤ 6
    · rw [decide_eq_true c1]
      refine iCndT rfl ?_
      refine iFa (iLdB (hB.ext x2) (v := .int .i64 s) rfl ?_)
      refine iEq ?_
      rw [decide_eq_true (by omega : 0 ≤ k ∧ k ≤ 6), Bool.true_and, Bool.false_or] at hJ
      by_cases c2 : s = 0
      · rw [decide_eq_true c2] at hJ ⊢
        rw [decide_eq_true (by omega : 0 ≤ s ∧ s ≤ 5)] at hJ
        exact hJ _ x2
      · rw [decide_eq_false c2] at hJ ⊢
        rw [Bool.and_false] at hJ
        exact hJ _ x2
    · rw [decide_eq_false c1]
      rw [decide_eq_false (by omega : ¬ (0 ≤ k ∧ k ≤ 6)), Bool.false_and] at hJ
      exact iCndF rfl (hJ _ x2)
theorem ok_ContainsFunc_N {v fv : Value} {N : List RN} {w : World} (hs : RawS w v N) (p : RN → Bool) (hf : ∀ q ∈ N, ∀ w', Ext w w' → callV Tryz.prog fv [.agg #[.int .i64 q.1, .int .i64 q.2]] w' fun u w'' => u = .bool (p q) ∧ Ext w' w'') :
    Ret Tryz.prog f_slices_ContainsFunc_Simpl_Node_impl_Node #[v, fv] w (.bool (N.any p)) := by
  have hln := hs.len
  apply c_slices_ContainsFunc_Simpl_Node_impl_Node; unfold S_slices_ContainsFunc_Simpl_Node_impl_Node
  refine iRet (v := .int .i64 (match N.findIdx? p with | some i => (i : Int) | none => -1)) ?_ fun w1 x1 => iLe ⟨?_, x1⟩
  · apply c_slices_IndexFunc_Simpl_Node_impl_Node; unfold S_slices_IndexFunc_Simpl_Node_impl_Node
    refine iLenK hs ?_
    refine iLp (fun i : Nat => [.int .i64 (i : Int)]) (fun i w' => i ≤ N.length ∧ Ext w w' ∧ ∀ x ∈ N.take i, p x = false) (fun i => N.length - i) 0 rfl ⟨Nat.zero_le _, Ext.refl _, by simp⟩ ?_
    rintro i w2 Kn ⟨hi, h2, hno⟩ hKn
    intro _
    simp only [gx]
    refine iLt (iCndP (fun h => ?_) (fun h => ?_))
    · have hil : i < N.length := by omega
      have hat := cellsN_at hil
      refine iRdAgg6 (P := Tryz.prog) (ys := [.int .i64 N[i].1, .int .i64 N[i].2]) (hs.ext h2) (by omega) rfl (fun j hj => ?_) ?_
      · rcases j with _ | _ | j
        · exact hat.1
        · exact hat.2
        · omega
      refine (hf _ (List.getElem_mem hil) w2 h2).mono ?_
      rintro u w3 ⟨rfl, x3⟩
      cases hp : p N[i]
      · refine iCndF (by first | rfl | exact hp) ?_
        refine iAdd (by omega) ?_
        refine hKn (i + 1) _ ⟨by omega, h2.trans x3, ?_⟩ (by omega)
        rw [List.take_succ_eq_append_getElem hil]
        intro x hx
        rcases List.mem_append.1 hx with hx | hx
        · exact hno x hx
        · simp at hx; rw [hx]; exact hp
      · refine iCndT (by first | rfl | exact hp) ⟨?_, h2.trans x3⟩
        have : N.findIdx? p = some i := List.findIdx?_eq_some_iff_getElem.2 ⟨hil, hp, fun j hj => by
          have := hno (N[j]'(by omega)) (List.mem_take_iff_getElem.2 ⟨j, by omega, rfl⟩)
          simp [this]⟩
        rw [this]
    · refine ⟨?_, h2⟩
      rw [List.take_of_length_le (by omega)] at hno
      have : N.findIdx? p = none := List.findIdx?_eq_none_iff.2 hno
      rw [this]
  · cases h : N.findIdx? p with
    | none =>
      have := List.findIdx?_eq_none_iff.1 h
      have h2 : N.any p = false := List.any_eq_false.2 fun x hx => by simp [this x hx]
      simp [h2]
    | some i =>
      obtain ⟨hi, hp, _⟩ := List.findIdx?_eq_some_iff_getElem.1 h
      have h2 : N.any p = true := List.any_eq_true.2 ⟨N[i], List.getElem_mem _, hp⟩
      simp [h2]
theorem ok_impl_partEndN {v : Value} {N : List RN} {i : Nat} {w : World} (hs : RawS w v N) (hok : N.all okN = true) (hi : i ≤ N.length) (hn : N.length ≤ 1099511627776) : Ret Tryz.prog f_impl_partEnd #[v, .int .i64 (i : Int)] w (.int .i64 (endN N i)) := by
  apply c_impl_partEnd; unfold S_impl_partEnd
  refine iLp (fun s : Nat × Nat => [.int .i64 (s.1 : Int), .int .i64 (s.2 : Int)]) (fun s w' => Ext w w' ∧ s.1 ≤ N.length ∧ s.2 ≤ 1 + 2 * s.1 ∧ goN (N.drop s.1) s.2 = goN (N.drop i) 1) (fun s => N.length - s.1) (i, 1) rfl ⟨Ext.refl _, hi, by show 1 ≤ 1 + 2 * i; omega, rfl⟩ ?_
  rintro ⟨j, o⟩ w2 Kn ⟨x2, hj, ho, hg⟩ hKn
  have hj : j ≤ N.length := hj
  have ho : o ≤ 1 + 2 * j := ho
  have hg : goN (N.drop j) o = goN (N.drop i) 1 := hg
  intro _
  simp only [gx]
  refine iLt (iCndP (fun h3 => ?_) (fun h3 => ?_))
  · obtain ⟨o', rfl⟩ : ∃ o', o = o' + 1 := ⟨o - 1, by omega⟩
    refine iLenK (SlK.ext hs x2) ?_
    refine iLe (iCndP (fun h4 => ?_) (fun h4 => ?_))
    · obtain rfl : j = N.length := by omega
      rw [List.drop_length] at hg
      refine ⟨?_, x2⟩
      unfold endN
      rw [← hg]; rfl
    · have hj1 : j < N.length := by omega
      have hat := cellsN_at hj1
      obtain ⟨k, s, hq, hk6, _⟩ := okN_nat (List.all_eq_true.1 hok _ (List.getElem_mem hj1))
      refine iFld (f := 0) (SlK.ext hs x2) rfl hj1 (by decide) hat.1 ?_
      have e1 : N[j].1 = (k : Int) := by rw [hq]
      rw [e1]
      refine iRet (ok_impl_partsOf k w2) fun w3 x3 => ?_
      have hak : arity k ≤ 2 := by unfold arity; split; omega; split <;> omega
      refine iSub (by omega) (iAdd (by omega) (iAdd (by omega) ?_))
      rw [show ((o' + 1 : Nat) : Int) + ((arity k : Int) - 1) = ((o' + arity k : Nat) : Int) by omega]
      refine hKn (j + 1, o' + arity k) _ ⟨x2.trans x3, by show j + 1 ≤ N.length; omega, by show o' + arity k ≤ 1 + 2 * (j + 1); omega, ?_⟩ (by show N.length - (j + 1) < N.length - j; omega)
      show goN (N.drop (j + 1)) (o' + arity k) = _
      rw [← hg, goN_drop hj1, e1, arZ_nat]
  · obtain rfl : o = 0 := by omega
    rw [goN_zero] at hg
    refine ⟨?_, x2⟩
    unfold endN
    rw [← hg]
    show Value.int .i64 (j : Int) = .int .i64 ((N.length - (N.drop j).length : Nat) : Int)
    rw [List.length_drop, show N.length - (N.length - j) = j by omega]
/-- No node of a modality. -/
def modN (q : RN) : Bool := decide (q.1 = 5) || decide (q.1 = 6)
def plainN (N : List RN) : Bool := !N.any modN
theorem ok_impl_isFormulaN {v : Value} {N : List RN} {w : World} (hs : RawS w v N) (hn : N.length ≤ 1099511627776) : Ret Tryz.prog f_impl_isFormula #[v] w (.bool (isN N)) := by
  apply c_impl_isFormula; unfold S_impl_isFormula
  refine iJnB (isN N) w (fun J hJ => ?_) (fun w2 x2 => fun _ => ⟨rfl, x2⟩)
  refine iLenK hs ?_
  refine iLe (iCndP (fun h1 => ?_) (fun h1 => ?_))
  · refine iLenK hs ?_
    refine iLe (iCndP (fun h2 => ?_) (fun h2 => ?_))
    · refine iRet (ok_ContainsFunc_N hs (fun q => !okN q) fun q hq w' x' => ?_) fun w3 x3 => ?_
      · refine iRet (v := .bool (!okN q)) ?_ fun w5 x5 => ⟨rfl, x5⟩
        apply c_impl_isFormula_1; unfold S_impl_isFormula_1
        refine iNew fun p w1 _ x1 hB => ?_
        refine iLdA hB rfl ?_
        refine iRet (ok_impl_isNodeN q w1) fun w4 x4 => ?_
        exact iNot ⟨rfl, x1.trans x4⟩
      rw [show (N.any fun q => !okN q) = !N.all okN by rw [List.not_all_eq_any_not]]
      refine iNot ?_
      rw [Bool.not_not]
      unfold isN at hJ
      rw [decide_eq_true (by omega : N.length ≤ 40), Bool.true_and] at hJ
      cases hall : N.all okN
      · refine iCndF rfl ?_
        unfold treeN at hJ
        rw [hall, Bool.false_and] at hJ
        exact hJ _ x3
      · refine iCndT rfl ?_
        refine iRet (ok_impl_partEndN (i := 0) (SlK.ext hs x3) hall (Nat.zero_le _) hn) fun w4 x4 => ?_
        refine iLenK ((SlK.ext hs x3).ext x4) ?_
        refine iEq ?_
        rw [endN_tree hall (by omega)]
        exact hJ _ (x3.trans x4)
    · unfold isN at hJ
      rw [decide_eq_false (by omega : ¬ N.length ≤ 40), Bool.false_and] at hJ
      exact hJ _ (Ext.refl _)
  · have h0 : N = [] := List.length_eq_zero_iff.1 (by omega)
    subst h0
    exact hJ _ (Ext.refl _)
theorem ok_impl_isModalN (k : Int) (w : World) : Ret Tryz.prog f_impl_isModal #[.int .i64 k] w (.bool (decide (k = 5) || decide (k = 6))) := by
  apply c_impl_isModal; unfold S_impl_isModal
  refine iJnB (decide (k = 5) || decide (k = 6)) w (fun J hJ => ?_) (fun w2 x2 => fun _ => ⟨rfl, x2⟩)
  refine iEq (iCndP (fun h => ?_) (fun h => ?_))
  · rw [decide_eq_true h, Bool.true_or] at hJ
    exact hJ _ (Ext.refl _)
  · rw [decide_eq_false h, Bool.false_or] at hJ
    exact iEq (hJ _ (Ext.refl _))
theorem ok_impl_isPlainN {v : Value} {N : List RN} {w : World} (hs : RawS w v N) : Ret Tryz.prog f_impl_isPlain #[v] w (.bool (plainN N)) := by
  apply c_impl_isPlain; unfold S_impl_isPlain
  refine iRet (ok_ContainsFunc_N hs modN fun q hq w' x' => ?_) fun w3 x3 => iNot ⟨rfl, x3⟩
  refine iRet (v := .bool (modN q)) ?_ fun w5 x5 => ⟨rfl, x5⟩
  apply c_impl_isPlain_1; unfold S_impl_isPlain_1
  refine iNew fun p w1 _ x1 hB => ?_
  have hB : Blk _ w1 p [.int .i64 q.1, .int .i64 q.2] := hB
  refine iFa (iLdB hB (v := .int .i64 q.1) rfl ?_)
  exact iRet (ok_impl_isModalN _ w1) fun w4 x4 => ⟨rfl, x1.trans x4⟩
abbrev VN := Value × List RN
structure RwN (w : World) (v : Value) (L : List VN) : Prop where
  row : Sl w v (L.map Prod.fst)
  raw : ∀ p ∈ L, RawS w p.1 p.2
theorem RwN.ext {w w' : World} {v : Value} {L : List VN} (h : RwN w v L) (x : Ext w w') : RwN w' v L := ⟨h.row.ext x, fun p hp => SlK.ext (h.raw p hp) x⟩
theorem RwN.len {w : World} {v : Value} {L : List VN} (h : RwN w v L) : L.length ≤ 9223372036854775807 := by have := h.row.len; rwa [List.length_map] at this
theorem RwN.one {w : World} {v u : Value} {N : List RN} (h : Sl w v [u]) (k : RawS w u N) : RwN w v [(u, N)] := ⟨h, fun p hp => by
  simp only [List.mem_singleton] at hp
  subst hp; exact k⟩
theorem iRdN {w : World} {v : Value} {L : List VN} {j : Nat} {k : IntKind} {K : Value → Prop} (hs : RwN w v L) (hj : j < L.length) (h : K L[j].1) : xIa 1 v (.int k (j : Int)) fun p => xLd w p K :=
  iIa (j := (j : Int)) hs.row (by omega) (by rw [List.length_map]; omega) fun p hp => iLd (by rw [hp]; simp [hj]) h
theorem ok_ContainsFunc_NN {v fv : Value} {L : List VN} {w : World} (hs : RwN w v L) (p : List RN → Bool) (hf : ∀ q ∈ L, ∀ w', Ext w w' → callV Tryz.prog fv [q.1] w' fun u w'' => u = .bool (p q.2) ∧ Ext w' w'') :
    Ret Tryz.prog f_slices_ContainsFunc_SSimpl_Node_Simpl_Node #[v, fv] w (.bool (L.any fun q => p q.2)) := by
  have hln := hs.len
  apply c_slices_ContainsFunc_SSimpl_Node_Simpl_Node; unfold S_slices_ContainsFunc_SSimpl_Node_Simpl_Node
  refine iRet (v := .int .i64 (match L.findIdx? (fun q => p q.2) with | some i => (i : Int) | none => -1)) ?_ fun w1 x1 => iLe ⟨?_, x1⟩
  · apply c_slices_IndexFunc_SSimpl_Node_Simpl_Node; unfold S_slices_IndexFunc_SSimpl_Node_Simpl_Node
    refine iLenS hs.row ?_
    rw [List.length_map]
    refine iLp (fun i : Nat => [.int .i64 (i : Int)]) (fun i w' => i ≤ L.length ∧ Ext w w' ∧ ∀ x ∈ L.take i, p x.2 = false) (fun i => L.length - i) 0 rfl ⟨Nat.zero_le _, Ext.refl _, by simp⟩ ?_
    rintro i w2 Kn ⟨hi, h2, hno⟩ hKn
    intro _
    simp only [gx]
    refine iLt (iCndP (fun h => ?_) (fun h => ?_))
    · have hil : i < L.length := by omega
      refine iRdN (hs.ext h2) hil ?_
      refine (hf _ (List.getElem_mem hil) w2 h2).mono ?_
      rintro u w3 ⟨rfl, x3⟩
      cases hp : p L[i].2
      · refine iCndF (by first | rfl | exact hp) ?_
        refine iAdd (by omega) ?_
        refine hKn (i + 1) _ ⟨by omega, h2.trans x3, ?_⟩ (by omega)
        rw [List.take_succ_eq_append_getElem hil]
        intro x hx
        rcases List.mem_append.1 hx with hx | hx
        · exact hno x hx
        · simp at hx; rw [hx]; exact hp
      · refine iCndT (by first | rfl | exact hp) ⟨?_, h2.trans x3⟩
        have : L.findIdx? (fun q => p q.2) = some i := List.findIdx?_eq_some_iff_getElem.2 ⟨hil, hp, fun j hj => by
          have := hno (L[j]'(by omega)) (List.mem_take_iff_getElem.2 ⟨j, by omega, rfl⟩)
          simp [this]⟩
        rw [this]
    · refine ⟨?_, h2⟩
      rw [List.take_of_length_le (by omega)] at hno
      have : L.findIdx? (fun q => p q.2) = none := List.findIdx?_eq_none_iff.2 hno
      rw [this]
  · cases h : L.findIdx? (fun q => p q.2) with
    | none =>
      have := List.findIdx?_eq_none_iff.1 h
      have h2 : (L.any fun q => p q.2) = false := List.any_eq_false.2 fun x hx => by simp [this x hx]
      simp [h2]
    | some i =>
      obtain ⟨hi, hp, _⟩ := List.findIdx?_eq_some_iff_getElem.1 h
      have h2 : (L.any fun q => p q.2) = true := List.any_eq_true.2 ⟨L[i], List.getElem_mem _, hp⟩
      simp [h2]
theorem ok_impl_areFormulasN {v : Value} {L : List VN} {w : World} (hs : RwN w v L) (hn : ∀ p ∈ L, p.2.length ≤ 1099511627776) : Ret Tryz.prog f_impl_areFormulas #[v] w (.bool (L.all fun q => isN q.2)) := by
  apply c_impl_areFormulas; unfold S_impl_areFormulas
  refine iRet (ok_ContainsFunc_NN hs (fun N => !isN N) fun q hq w' x' => ?_) fun w3 x3 => iNot ⟨?_, x3⟩
  · refine iRet (v := .bool (!isN q.2)) ?_ fun w5 x5 => ⟨rfl, x5⟩
    apply c_impl_areFormulas_1; unfold S_impl_areFormulas_1
    exact iRet (ok_impl_isFormulaN (SlK.ext (hs.raw q hq) x') (hn q hq)) fun w4 x4 => iNot ⟨rfl, x4⟩
  · rw [List.not_any_eq_all_not]; simp
theorem ok_impl_allPlainN {v : Value} {L : List VN} {w : World} (hs : RwN w v L) : Ret Tryz.prog f_impl_allPlain #[v] w (.bool (L.all fun q => plainN q.2)) := by
  apply c_impl_allPlain; unfold S_impl_allPlain
  refine iRet (ok_ContainsFunc_NN hs (fun N => !plainN N) fun q hq w' x' => ?_) fun w3 x3 => iNot ⟨?_, x3⟩
  · refine iRet (v := .bool (!plainN q.2)) ?_ fun w5 x5 => ⟨rfl, x5⟩
    apply c_impl_allPlain_1; unfold S_impl_allPlain_1
    exact iRet (ok_impl_isPlainN (SlK.ext (hs.raw q hq) x')) fun w4 x4 => iNot ⟨rfl, x4⟩
  · rw [List.not_any_eq_all_not]; simp
/-! ### Variables -/
def maskV (N : List RN) : Nat := setOf ((N.filter fun q => decide (q.1 = 0)).map fun q => q.2.toNat)
theorem maskV_bit (N : List RN) (v : Nat) : (maskV N).testBit v = true ↔ ∃ q ∈ N, q.1 = 0 ∧ q.2.toNat = v := by
  unfold maskV
  rw [setOf_testBit, List.contains_iff_mem, List.mem_map]
  constructor
  · rintro ⟨q, hq, e⟩
    rw [List.mem_filter, decide_eq_true_eq] at hq
    exact ⟨q, hq.1, hq.2, e⟩
  · rintro ⟨q, hq, h0, e⟩
    exact ⟨q, by rw [List.mem_filter, decide_eq_true_eq]; exact ⟨hq, h0⟩, e⟩
theorem maskV_lt {N : List RN} (h : N.all okN = true) : maskV N < 2 ^ 6 := setOf_lt fun y hy => by
  obtain ⟨q, hq, rfl⟩ := List.mem_map.1 hy
  have := okN_iff.1 (List.all_eq_true.1 h q (List.mem_filter.1 hq).1)
  omega
theorem maskV_has : ∀ (f : Fm) (v : Nat), (maskV (rawF f)).testBit v = true ↔ (0, (v : Int)) ∈ rawF f := fun f v => by
  rw [maskV_bit]
  constructor
  · rintro ⟨⟨a, b⟩, hq, h0, e⟩
    have h0 : a = 0 := h0
    have e : b.toNat = v := e
    subst h0
    have key : ∀ g : Fm, ∀ q ∈ rawF g, q.1 = 0 → 0 ≤ q.2 := by
      intro g
      induction g with
      | var x => intro q hq _; simp [rawF] at hq; subst hq; exact Int.natCast_nonneg _
      | fls => intro q hq h; simp [rawF] at hq; subst hq; exact absurd h (by decide)
      | and x y ih1 ih2 => intro q hq h; simp only [rawF, List.mem_cons, List.mem_append] at hq; rcases hq with rfl | hq | hq <;> first | exact absurd h (by decide) | exact ih1 q hq h | exact ih2 q hq h
      | or x y ih1 ih2 => intro q hq h; simp only [rawF, List.mem_cons, List.mem_append] at hq; rcases hq with rfl | hq | hq <;> first | exact absurd h (by decide) | exact ih1 q hq h | exact ih2 q hq h
      | imp x y ih1 ih2 => intro q hq h; simp only [rawF, List.mem_cons, List.mem_append] at hq; rcases hq with rfl | hq | hq <;> first | exact absurd h (by decide) | exact ih1 q hq h | exact ih2 q hq h
      | box x ih => intro q hq h; simp only [rawF, List.mem_cons] at hq; rcases hq with rfl | hq <;> first | exact absurd h (by decide) | exact ih q hq h
      | dia x ih => intro q hq h; simp only [rawF, List.mem_cons] at hq; rcases hq with rfl | hq <;> first | exact absurd h (by decide) | exact ih q hq h
    have := key f _ hq rfl
    have : b = (v : Int) := by have h2 : 0 ≤ b := this; omega
    rw [← this]; exact hq
  · intro h; exact ⟨_, h, rfl, by simp⟩
theorem ok_impl_variableMask {v : Value} {N : List RN} {w : World} (hs : RawS w v N) (hok : N.all okN = true) : Ret Tryz.prog f_impl_variableMask #[v] w (.int .i64 ((maskV N : Nat) : Int)) := by
  have hln := hs.len
  apply c_impl_variableMask; unfold S_impl_variableMask
  have hallk : ∀ k, (N.take k).all okN = true := fun k => List.all_eq_true.2 fun x hx => List.all_eq_true.1 hok x (List.mem_of_mem_take hx)
  have hsnoc : ∀ k (hk : k < N.length), maskV (N.take (k + 1)) = if N[k].1 = 0 then maskV (N.take k) ||| 2 ^ N[k].2.toNat else maskV (N.take k) := fun k hk => by
    unfold maskV
    rw [List.take_succ_eq_append_getElem hk, List.filter_append, List.map_append]
    by_cases h : N[k].1 = 0
    · rw [if_pos h, List.filter_cons_of_pos (by simpa using h)]
      exact setOf_snoc _ _
    · rw [if_neg h, List.filter_cons_of_neg (by simpa using h)]
      simp
  refine iLenK hs ?_
  refine iLp (fun k : Nat => [.int .i64 ((maskV (N.take k) : Nat) : Int), .int .i64 (k : Int)]) (fun k w' => k ≤ N.length ∧ Ext w w') (fun k => N.length - k) 0 rfl ⟨Nat.zero_le _, Ext.refl _⟩ ?_
  rintro k w2 Kn ⟨hk, x2⟩ hKn
  intro _
  simp only [gx]
  refine iLt (iCndP (fun h => ?_) (fun h => ?_))
  · have hk1 : k < N.length := by omega
    have hat := cellsN_at hk1
    have hq := okN_iff.1 (List.all_eq_true.1 hok _ (List.getElem_mem hk1))
    have h1 := maskV_lt (hallk k)
    have h2 := hsnoc k hk1
    refine iRdAgg6 (P := Tryz.prog) (ys := [.int .i64 N[k].1, .int .i64 N[k].2]) (SlK.ext hs x2) (by omega) rfl (fun j hj => ?_) ?_
    · rcases j with _ | _ | j
      · exact hat.1
      · exact hat.2
      · omega
    refine iVar6 rfl rfl (by simp [isCell]) fun b w4 _ x4 hB => ?_
    have hB : Blk _ w4 b [.int .i64 N[k].1, .int .i64 N[k].2] := hB
    refine iFa (iLdB hB (v := .int .i64 N[k].1) rfl ?_)
    refine iEq (iCndP (fun h0 => ?_) (fun h0 => ?_))
    · refine iFa (iLdB hB (v := .int .i64 N[k].2) rfl ?_)
      rw [if_pos h0] at h2
      generalize he : N[k].2 = s at *
      have hq2 : 0 ≤ s ∧ s ≤ 5 := hq.2.1
      obtain ⟨m, rfl⟩ := Int.eq_ofNat_of_zero_le hq2.1
      refine iShlOne (j := m) (by omega) ?_
      have h3 : 2 ^ m < 2 ^ 6 := Nat.pow_lt_pow_right (by omega) (by omega)
      refine iBOr (by omega) (by omega) ?_
      refine iAdd (by omega) ?_
      rw [show maskV (N.take k) ||| 2 ^ m = maskV (N.take (k + 1)) by rw [h2]; rfl]
      exact hKn (k + 1) _ ⟨by omega, x2.trans x4⟩ (by omega)
    · rw [if_neg h0] at h2
      refine iAdd (by omega) ?_
      rw [← h2]
      exact hKn (k + 1) _ ⟨by omega, x2.trans x4⟩ (by omega)
  · rw [List.take_of_length_le (by omega)]
    exact ⟨rfl, x2⟩
def maskL (L : List VN) : Nat := L.foldl (fun m p => m ||| maskV p.2) 0
theorem maskL_snoc (L : List VN) (p : VN) : maskL (L ++ [p]) = maskL L ||| maskV p.2 := by simp [maskL]
theorem maskL_bit (L : List VN) (v : Nat) : (maskL L).testBit v = true ↔ ∃ p ∈ L, (maskV p.2).testBit v = true := by
  have key : ∀ (L : List VN) (m : Nat), (L.foldl (fun m p => m ||| maskV p.2) m).testBit v = true ↔ m.testBit v = true ∨ ∃ p ∈ L, (maskV p.2).testBit v = true := by
    intro L
    induction L with
    | nil => intro m; simp
    | cons p L ih =>
      intro m
      rw [List.foldl_cons, ih, Nat.testBit_or, Bool.or_eq_true]
      simp only [List.mem_cons, exists_eq_or_imp, or_assoc]
  unfold maskL
  rw [key, Nat.zero_testBit]
  simp
theorem maskL_lt {L : List VN} (h : ∀ p ∈ L, p.2.all okN = true) : maskL L < 2 ^ 6 := by
  have key : ∀ (L : List VN) (m : Nat), m < 2 ^ 6 → (∀ p ∈ L, p.2.all okN = true) → L.foldl (fun m p => m ||| maskV p.2) m < 2 ^ 6 := by
    intro L
    induction L with
    | nil => intro m hm _; exact hm
    | cons p L ih => intro m hm h; exact ih _ (Nat.or_lt_two_pow hm (maskV_lt (h p List.mem_cons_self))) fun q hq => h q (List.mem_cons_of_mem _ hq)
  exact key L 0 (by omega) h
theorem ok_impl_variablesIn {v : Value} {L : List VN} {w : World} (hs : RwN w v L) (hok : ∀ p ∈ L, p.2.all okN = true) : Cal Tryz.prog f_impl_variablesIn #[v] w fun r w' => Ext w w' ∧ Ow w.heap.size t_i64 w' r (ints (nats (mem (maskL L)))) := by
  have hln := hs.len
  apply c_impl_variablesIn; unfold S_impl_variablesIn
  refine iLenS hs.row ?_
  rw [List.length_map]
  refine iLp (fun k : Nat => [.int .i64 ((maskL (L.take k) : Nat) : Int), .int .i64 (k : Int)]) (fun k w' => k ≤ L.length ∧ Ext w w') (fun k => L.length - k) 0 rfl ⟨Nat.zero_le _, Ext.refl _⟩ ?_
  rintro k w2 Kn ⟨hk, x2⟩ hKn
  have h1 := maskL_lt (L := L.take k) fun p hp => hok p (List.mem_of_mem_take hp)
  intro _
  simp only [gx]
  refine iLt (iCndP (fun h => ?_) (fun h => ?_))
  · have hk1 : k < L.length := by omega
    refine iRdN (hs.ext x2) hk1 ?_
    refine iRet (ok_impl_variableMask ((hs.ext x2).raw _ (List.getElem_mem hk1)) (hok _ (List.getElem_mem hk1))) fun w3 x3 => ?_
    have h2 := maskV_lt (hok _ (List.getElem_mem hk1))
    refine iBOr (by omega) (by omega) ?_
    refine iAdd (by omega) ?_
    rw [show maskL (L.take k) ||| maskV L[k].2 = maskL (L.take (k + 1)) by rw [List.take_succ_eq_append_getElem hk1, maskL_snoc]]
    exact hKn (k + 1) _ ⟨by omega, x2.trans x3⟩ (by omega)
  · rw [List.take_of_length_le (by omega)] at h1 ⊢
    refine iCall ((ok_impl_membersOf _ (by omega) w2).mono ?_)
    rintro r w3 ⟨x3, ho⟩
    exact ⟨x2.trans x3, ho.mono x2.size⟩
theorem ok_impl_fits (n k : Nat) (hn : n ≤ 256) (hk : k ≤ 1000) (w : World) : Cal Tryz.prog f_impl_fits #[.int .i64 (n : Int), .int .i64 (k : Int)] w fun r w' => w' = w ∧ ∃ b, r = .bool b := by
  apply c_impl_fits; unfold S_impl_fits
  refine iLp (fun s : Nat × Nat => [.int .i64 (s.1 : Int), .int .i64 (s.2 : Int)]) (fun s w' => w' = w ∧ s.1 ≤ 4096 ∧ s.2 ≤ k) (fun s => k - s.2) (1, 0) rfl ⟨rfl, by show 1 ≤ 4096; omega, Nat.zero_le _⟩ ?_
  rintro ⟨p, j⟩ w2 Kn ⟨rfl, hp, hj⟩ hKn
  have hp : p ≤ 4096 := hp
  have hj : j ≤ k := hj
  intro _
  simp only [gx]
  refine iLt (iCndP (fun h => ?_) (fun h => ⟨by first | trivial | rfl, _, rfl⟩))
  have hm : p * n ≤ 4096 * 256 := Nat.mul_le_mul hp hn
  have e : (p : Int) * (n : Int) = ((p * n : Nat) : Int) := by simp
  refine iMul (by omega) ?_
  rw [e]
  refine iLt (iCndP (fun h2 => ⟨by first | trivial | rfl, _, rfl⟩) (fun h2 => ?_))
  refine iAdd (by omega) ?_
  exact hKn (p * n, j + 1) _ ⟨rfl, by show p * n ≤ 4096; omega, by show j + 1 ≤ k; omega⟩ (by show k - (j + 1) < k - j; omega)
end Go.Proofs.YtikfhibcdhdglaaGreat

/- Contracts: valuations; forcing in the reference; IsForcedAt; Shows in the program and the reference. Conditions: none. -/
namespace Go.Proofs.YtikfhibcdhdglaaGreat
open Go.Vc
/-! ### Formulas -/
theorem pl_good : ∀ {a : Fm}, Fm.pl a → a.good
  | .var _, h => h
  | .fls, _ => trivial
  | .and _ _, h => ⟨pl_good h.1, pl_good h.2⟩
  | .or _ _, h => ⟨pl_good h.1, pl_good h.2⟩
  | .imp _ _, h => ⟨pl_good h.1, pl_good h.2⟩
  | .box _, h => h.elim
  | .dia _, h => h.elim
theorem plainN_cons (q : RN) (N : List RN) : plainN (q :: N) = (!modN q && plainN N) := by simp [plainN]
theorem plainN_app (M N : List RN) : plainN (M ++ N) = (plainN M && plainN N) := by simp [plainN]
theorem pl_iff : ∀ {a : Fm}, Fm.pl a ↔ a.good ∧ plainN (rawF a) = true
  | .var v => by simp [Fm.pl, Fm.good, rawF, plainN, modN]
  | .fls => by simp [Fm.pl, Fm.good, rawF, plainN, modN]
  | .and a b => by
    have h1 := pl_iff (a := a)
    have h2 := pl_iff (a := b)
    simp only [Fm.pl, Fm.good, rawF, plainN_cons, plainN_app, h1, h2, Bool.and_eq_true]
    exact ⟨fun h => ⟨⟨h.1.1, h.2.1⟩, rfl, h.1.2, h.2.2⟩, fun h => ⟨⟨h.1.1, h.2.2.1⟩, h.1.2, h.2.2.2⟩⟩
  | .or a b => by
    have h1 := pl_iff (a := a)
    have h2 := pl_iff (a := b)
    simp only [Fm.pl, Fm.good, rawF, plainN_cons, plainN_app, h1, h2, Bool.and_eq_true]
    exact ⟨fun h => ⟨⟨h.1.1, h.2.1⟩, rfl, h.1.2, h.2.2⟩, fun h => ⟨⟨h.1.1, h.2.2.1⟩, h.1.2, h.2.2.2⟩⟩
  | .imp a b => by
    have h1 := pl_iff (a := a)
    have h2 := pl_iff (a := b)
    simp only [Fm.pl, Fm.good, rawF, plainN_cons, plainN_app, h1, h2, Bool.and_eq_true]
    exact ⟨fun h => ⟨⟨h.1.1, h.2.1⟩, rfl, h.1.2, h.2.2⟩, fun h => ⟨⟨h.1.1, h.2.2.1⟩, h.1.2, h.2.2.2⟩⟩
  | .box a => by simp [Fm.pl, rawF, plainN, modN]
  | .dia a => by simp [Fm.pl, rawF, plainN, modN]
/-! ### Jankov's formulas are plain -/

/-! ### Valuations -/
abbrev vV (vals : List Nat) : Nat → Nat := fun v => vals.getD v 0
theorem vV_ok {f : Fr} (hp : Po f) {vals : List Nat} (h : ∀ x ∈ vals, x ∈ upsets f) : ValOk f (vV vals) := fun v => by
  show vals.getD v 0 ∈ _
  rcases Nat.lt_or_ge v vals.length with h1 | h1
  · exact h _ (getD_mem h1)
  · rw [List.getD_eq_getElem?_getD, List.getElem?_eq_none h1]; exact zero_up hp
/-! ### Forcing in the reference -/
/-! ### IsForcedAt, where all is well -/
end Go.Proofs.YtikfhibcdhdglaaGreat

/- Contracts: Shows in the program and the reference; ShowingValues. Conditions: none. -/
namespace Go.Proofs.YtikfhibcdhdglaaGreat
open Go.Vc
/-! ### ShowingValues, where there is a part -/
end Go.Proofs.YtikfhibcdhdglaaGreat

/- Contracts: drawn posets with valuations (l17Draw, DrawShows). Conditions: none. -/
namespace Go.Vc
theorem Ow.srcD {e e' : TypeId} {lo : Nat} {w0 w w' : World} {vc v : Value} {b : Nat} {xs : List Value} (h : Ow lo e' w v xs) (hS : Vc.Src e w0 vc b w) (hne : e' ≠ e) (k : Ch (fun c => c = b) w w') : Ow lo e' w' v xs :=
  h.ch k fun c hc h' => hS.neOw h hne (by rw [hc, h'])
end Go.Vc
namespace Go.Proofs.YtikfhibcdhdglaaGreat
open Go.Vc
end Go.Proofs.YtikfhibcdhdglaaGreat

/- Memory: rows of elements of two cells that a call turns in place. No function in sight. Conditions: none. -/
namespace Go.Vc
/-- A row of cap elements of two cells, whole. -/
def Rx (e : TypeId) (w : World) (g cap : Nat) (cur : List Value) : Prop := Blk e w g cur ∧ cur.length = cap * 2 ∧ cap ≤ 9223372036854775807
theorem OwK.rx {lo n : Nat} {e : TypeId} {w : World} {v : Value} {xs : List Value} (h : OwK 2 lo e w v n xs) (hn : 0 < n) :
    ∃ g cap cur, v = .slice (some ⟨g, 0, none⟩) n cap ∧ lo ≤ g ∧ n ≤ cap ∧ Rx e w g cap cur ∧ cur.take (n * 2) = xs := by
  obtain ⟨_, ⟨_, h0⟩ | ⟨g, cap, cur, hv, hg, hh, h1, h2, h3, h4⟩⟩ := h
  · omega
  · exact ⟨g, cap, cur.toList, hv, hg, h1, ⟨by unfold Blk; rw [Array.toArray_toList]; exact hh, by simpa using h3, h2⟩, h4⟩
section
variable {P : Program} {w : World} {e : TypeId} {g cap : Nat} {cur : List Value}
theorem Rx.own {lo n : Nat} {xs : List Value} (h : Rx e w g cap cur) (hl : lo ≤ g) (hn : n ≤ cap) (hx : cur.take (n * 2) = xs) : OwK 2 lo e w (.slice (some ⟨g, 0, none⟩) n cap) n xs :=
  ⟨by rw [← hx, List.length_take, h.2.1]; omega, .inr ⟨g, cap, cur.toArray, rfl, hl, h.1, hn, h.2.2, by simpa using h.2.1, by simpa using hx⟩⟩
theorem Rx.ext {w' : World} (h : Rx e w g cap cur) (x : Ext w w') : Rx e w' g cap cur := ⟨h.1.ext x, h.2⟩
/-- A part of a list put anew. -/
def putX (cur : List Value) (o : Nat) (ys : List Value) : List Value := cur.take o ++ ys ++ cur.drop (o + ys.length)
theorem putX_len {cur : List Value} {o : Nat} {ys : List Value} (h : o + ys.length ≤ cur.length) : (putX cur o ys).length = cur.length := by
  unfold putX; rw [List.length_append, List.length_append, List.length_take, List.length_drop]; omega
theorem putX_take {cur : List Value} {o n : Nat} {ys : List Value} (h : o + ys.length ≤ cur.length) (hn : n = o + ys.length) : (putX cur o ys).take n = cur.take o ++ ys := by
  unfold putX
  have hl : (cur.take o ++ ys).length = n := by rw [List.length_append, List.length_take]; omega
  rw [List.take_append_of_le_length (by omega), List.take_of_length_le (by omega)]
theorem Rx.set (h : Rx e w g cap cur) {cur' : List Value} (hl : cur'.length = cur.length) : Rx e (w.setRow g cur'.toArray) g cap cur' ∧ Ch (fun c => c = g) w (w.setRow g cur'.toArray) :=
  ⟨⟨setRow_heap w g cur.toArray _ e (0, 0) h.1, by rw [hl]; exact h.2.1, h.2.2⟩, ⟨rfl, rfl, rfl, by rw [setRow_size]; exact Nat.le_refl _, fun c _ hc => setRow_other w g c _ hc⟩⟩
theorem SlK.srcX {k m : Nat} {x : Value} {ys : List Value} (hs : SlK k w x m ys) : ∃ a c, x = .slice a m c ∧ ys.length = m * k ∧ ((a = none ∧ m = 0) ∨ ∃ ad, a = some ad ∧ ∀ j u, ys[j]? = some u → w.cell? (ad.add j) = some u) := by
  obtain ⟨hyl, a, c, rfl, hlc, hcm, hcells⟩ := hs
  refine ⟨a, c, rfl, hyl, ?_⟩
  rcases hcells with rfl | ⟨b, o, rfl, hc⟩
  · cases a with
    | none => exact .inl ⟨rfl, rfl⟩
    | some ad =>
      refine .inr ⟨ad, rfl, fun j u hu => ?_⟩
      have : ys = [] := List.length_eq_zero_iff.1 (by omega)
      rw [this] at hu; simp at hu
  · refine .inr ⟨_, rfl, fun j u hu => ?_⟩
    have hj : j < ys.length := (List.getElem?_eq_some_iff.1 hu).1
    rw [addr_add, hc j (by omega), hu]
/-- 'append(s, x...)' where s has room. -/
theorem iAppRx {t ty : TypeId} {i m bytes : Nat} {x z : Value} {ys : List Value} {K : Value → World → Prop} (ht : P.underlying t = some (.slice e)) (hi : (P.info? e).map (fun i => (i.zero, i.size, i.bytes)) = some (some z, 2, bytes))
    (hR : Rx e w g cap cur) (hs : SlK 2 w x m ys) (hy : ∀ u ∈ ys, isCell u = true) (hroom : i + m ≤ cap)
    (h : ∀ w', Rx e w' g cap (putX cur (i * 2) ys) → Ch (fun c => c = g) w w' → K (.slice (some ⟨g, 0, none⟩) (i + m) cap) w') :
    xOp P (Builtin.append_ #[t, t] ty #[.slice (some ⟨g, 0, none⟩) i cap, x]) w K := by
  obtain ⟨inf, hi, h3⟩ := Option.map_eq_some_iff.1 hi
  simp only [Prod.mk.injEq] at h3
  obtain ⟨-, hsz, -⟩ := h3
  obtain ⟨a, c, rfl, hyl, ⟨rfl, rfl⟩ | ⟨ad, rfl, hsrc⟩⟩ := hs.srcX
  · have : ys = [] := List.length_eq_zero_iff.1 (by omega)
    subst this
    refine ⟨_, w, ?_, h w (by simpa [putX] using hR) ⟨rfl, rfl, rfl, Nat.le_refl _, fun _ _ _ => rfl⟩⟩
    have : i ≤ cap := by omega
    simp [Builtin.append_, run_underlying ht, sizeOf, typeInfo, hi, Builtin.lenOf, Builtin.firstCells, this, storeCells]
  · have hl3 := hR.2.1
    have hr := run_append_room (P := P) w t ty e inf ht hi g i cap cur.toArray hR.1 ad m c ys (by rw [hsz]; exact hyl) hsrc (fun u hu => isCell_one (hy u hu)) hroom (by simp [hsz]; omega)
    rw [hsz] at hr
    obtain ⟨h1, h2⟩ := hR.set (cur' := putX cur (i * 2) ys) (putX_len (by omega))
    exact ⟨_, _, hr, h _ h1 h2⟩
end
/-! ### Parts of slices of elements of two cells -/
theorem iHX {g o n c k : Nat} {ki : IntKind} {K : Value → Prop} (hk : k ≤ c) (h : K (.slice (some ⟨g, o, none⟩) k c)) : xSl 2 (.slice (some ⟨g, o, none⟩) n c) none (some (.int ki (k : Int))) K := by
  refine ⟨_, _, _, 0, k, rfl, ⟨ki, rfl⟩, rfl, Nat.zero_le _, hk, ?_⟩
  have e : (if c = 0 then some (⟨g, o, none⟩ : Addr) else (some (⟨g, o, none⟩ : Addr)).map (·.add (0 * 2))) = some ⟨g, o, none⟩ := by
    split
    · rfl
    · rw [Option.map_some, addr_add, Nat.zero_mul, Nat.add_zero]
  rw [e, Nat.sub_zero, Nat.sub_zero]
  exact h
/-! ### Rows of a count and a slice -/
section
variable {P : Program} {w : World}
theorem iStFX {lo : Nat} {e : TypeId} {w : World} {v x : Value} {n : Nat} {xs : List Value} {z : Int} {j f : Nat} {k : IntKind} {K : World → Prop} (hs : OwK 2 lo e w v n xs) (hz : z = (j : Int)) (hj : j < n) (hf : f < 2) (hx : isCell x = true)
    (h : ∀ w', OwK 2 lo e w' v n (xs.set (j * 2 + f) x) → Ch (fun c => v.ownBlock = some c) w w' → K w') : xIa 2 v (.int k z) fun p => xFa f p fun q => xSt w q x K := by
  subst hz
  obtain ⟨hl, ⟨-, h0⟩ | ⟨g, cap, cur, hv, hg, hh, h1, h2, h3, h4⟩⟩ := hs
  · omega
  · subst hv
    have hs : w.ownsRow lo e 2 (.slice (some ⟨g, 0, none⟩) n cap) n xs := ⟨hl, .inr ⟨g, cap, cur, rfl, hg, hh, h1, h2, h3, h4⟩⟩
    refine ⟨_, _, _, _, _, rfl, rfl, by omega, by omega, ?_⟩
    rw [Int.toNat_natCast, addr_add]
    refine ⟨_, rfl, ?_⟩
    rw [addr_add, Nat.zero_add]
    have hjf : j * 2 + f < xs.length := by omega
    refine iSt ((hs.cellAt (j * 2 + f) (by omega)).trans (List.getElem?_eq_getElem hjf)) (hs.frozenAt _) hx ?_
    exact h _ (hs.stored (j * 2 + f) x).1 ((Upd.setCell w g _ x).ch rfl)
theorem iTY {k n i : Nat} {ki : IntKind} {w : World} {v : Value} {xs : List Value} {z : Int} {K : Value → Prop} (hs : SlK k w v n xs) (hz : z = (i : Int)) (hi : i ≤ n) (h : ∀ v', SlK k w v' (n - i) (xs.drop (i * k)) → K v') : xSl k v (some (.int ki z)) none K := by
  subst hz
  obtain ⟨h0, a, c, rfl, h2, h3, h4⟩ := hs
  have hle : i * k ≤ n * k := Nat.mul_le_mul_right _ hi
  have hsub : (n - i) * k = n * k - i * k := Nat.sub_mul ..
  refine ⟨_, _, _, i, n, rfl, rfl, ⟨ki, rfl⟩, hi, h2, ?_⟩
  refine h _ ⟨by rw [List.length_drop]; omega, _, _, rfl, by omega, by omega, ?_⟩
  rcases Nat.eq_zero_or_pos (n - i) with hz | hz
  · exact .inl hz
  · rcases h4 with h4 | ⟨b, o, rfl, hc⟩
    · omega
    · refine .inr ⟨b, o + i * k, ?_, fun j hj => ?_⟩
      · rw [if_neg (by omega), Option.map_some, addr_add]
      · rw [Nat.add_assoc, hc _ (by omega), List.getElem?_drop]
end
end Go.Vc

/- Contracts: drawn formulas, and formulas bent out of shape. Conditions: none. -/
namespace Go.Vc
/-- A row of nodes of the call's own; a formula drawn. -/
abbrev RawW (lo : Nat) (e : TypeId) (w : World) (v : Value) (N : List RN) : Prop := OwK 2 lo e w v N.length (cellsN N)
theorem OwK.ne_src {k lo n : Nat} {e e' : TypeId} {w0 w : World} {vc v : Value} {b : Nat} {xs : List Value} (h : OwK k lo e' w v n xs) (hS : Vc.Src e w0 vc b w) (hne : e' ≠ e) : v.ownBlock ≠ some b := by
  intro hc
  obtain ⟨cur, h1⟩ := h.ty hc
  obtain ⟨_, _, _, _, h3, _⟩ := hS
  unfold Blk at h3
  rw [h1] at h3
  injection h3 with h3
  injection h3 with _ he _
  exact hne he
theorem OwK.src {k lo n : Nat} {e e' : TypeId} {w0 w w' : World} {vc v : Value} {b : Nat} {xs : List Value} (h : OwK k lo e' w v n xs) (hS : Vc.Src e w0 vc b w) (hne : e' ≠ e) (hch : Ch (fun c => c = b) w w') : OwK k lo e' w' v n xs :=
  h.ch hch fun c hc hb => h.ne_src hS hne (by rw [hc, hb])
def preF (y : Nat) (a : Fm) : Fm := if y = 0 then .box a else .dia a
theorem preF_cells {y : Nat} (hy : y < 2) (a : Fm) : (preF y a).cells = nd (5 + y) 0 ++ a.cells := by
  have : y = 0 ∨ y = 1 := by omega
  rcases this with rfl | rfl <;> rfl
theorem preF_size (y : Nat) (a : Fm) : (preF y a).size = 1 + a.size := by unfold preF; split <;> rfl
theorem preF_good (y : Nat) {a : Fm} (h : a.good) : (preF y a).good := by unfold preF; split <;> exact h
def binF (z : Nat) (a b : Fm) : Fm := if z = 0 then .and a b else if z = 1 then .or a b else .imp a b
theorem binF_cells {z : Nat} (hz : z < 3) (a b : Fm) : (binF z a b).cells = nd (2 + z) 0 ++ a.cells ++ b.cells := by
  have : z = 0 ∨ z = 1 ∨ z = 2 := by omega
  rcases this with rfl | rfl | rfl <;> rfl
theorem binF_size (z : Nat) (a b : Fm) : (binF z a b).size = 1 + a.size + b.size := by unfold binF; split; rfl; split <;> rfl
theorem binF_good (z : Nat) {a b : Fm} (h : a.good) (k : b.good) : (binF z a b).good := by unfold binF; split; exact ⟨h, k⟩; split <;> exact ⟨h, k⟩
theorem cellsN_set0 (N : List RN) (k : Nat) (hk : k < N.length) (x : Int) : (cellsN N).set (k * 2 + 0) (.int .i64 x) = cellsN (N.set k (x, N[k].2)) := by
  induction N generalizing k with
  | nil => simp at hk
  | cons q N ih =>
    cases k with
    | zero => rfl
    | succ k =>
      have ih := ih k (by simpa using hk)
      show (Value.int .i64 q.1 :: Value.int .i64 q.2 :: cellsN N).set ((k + 1) * 2 + 0) _ = Value.int .i64 q.1 :: Value.int .i64 q.2 :: cellsN (N.set k _)
      rw [Nat.add_zero] at ih
      rw [show (k + 1) * 2 + 0 = k * 2 + 1 + 1 by omega, List.set_cons_succ, List.set_cons_succ, ih]
      rfl
theorem cellsN_set1 (N : List RN) (k : Nat) (hk : k < N.length) (x : Int) : (cellsN N).set (k * 2 + 1) (.int .i64 x) = cellsN (N.set k (N[k].1, x)) := by
  induction N generalizing k with
  | nil => simp at hk
  | cons q N ih =>
    cases k with
    | zero => rfl
    | succ k =>
      have ih := ih k (by simpa using hk)
      show (Value.int .i64 q.1 :: Value.int .i64 q.2 :: cellsN N).set ((k + 1) * 2 + 1) _ = Value.int .i64 q.1 :: Value.int .i64 q.2 :: cellsN (N.set k _)
      rw [show (k + 1) * 2 + 1 = (k * 2 + 1) + 1 + 1 by omega, List.set_cons_succ, List.set_cons_succ, ih]
      rfl
theorem cellsN_take (N : List RN) (k : Nat) : (cellsN N).take (k * 2) = cellsN (N.take k) := by
  induction N generalizing k with
  | nil => simp [cellsN]
  | cons q N ih =>
    cases k with
    | zero => simp [cellsN]
    | succ k =>
      rw [cellsN_cons, List.take_succ_cons, cellsN_cons, ← ih k, show (k + 1) * 2 = (rcell q).length + k * 2 by show _ = 2 + k * 2; omega, List.take_length_add_append]
theorem cellsN_drop (N : List RN) (k : Nat) : (cellsN N).drop (k * 2) = cellsN (N.drop k) := by
  induction N generalizing k with
  | nil => simp [cellsN]
  | cons q N ih =>
    cases k with
    | zero => simp
    | succ k =>
      rw [cellsN_cons, List.drop_succ_cons, ← ih k, show (k + 1) * 2 = (rcell q).length + k * 2 by show _ = 2 + k * 2; omega, List.drop_length_add_append]
theorem cellsN_cell (N : List RN) : ∀ u ∈ cellsN N, isCell u = true := fun u hu => by
  obtain ⟨q, _, hq⟩ := List.mem_flatMap.1 hu
  simp only [rcell, List.mem_cons, List.not_mem_nil, or_false] at hq
  rcases hq with rfl | rfl <;> rfl
theorem iBs5D {w : World} {e : TypeId} {a b c d f : Int} {K : Value → World → Prop} (h : ∀ bb w', bb = w.heap.size ∧ w'.heap.size = bb + 1 → Ext w w' → Blk e w' bb (ints [a, b, c, d, f]) → K (.slice (some ⟨bb, 0, none⟩) 5 5) w') :
    xBs e (Value.cells (.int .i64 0)) 1 5 [(0, .int .i64 a), (1, .int .i64 b), (2, .int .i64 c), (3, .int .i64 d), (4, .int .i64 f)] w K := by
  refine ⟨#[.int .i64 a, .int .i64 b, .int .i64 c, .int .i64 d, .int .i64 f], ?_, h _ _ ⟨rfl, by simp⟩ (Ext.alloc w _) (Blk.new w #[.int .i64 a, .int .i64 b, .int .i64 c, .int .i64 d, .int .i64 f] e)⟩
  simp [Instr.fill, Value.cells, show Array.range 5 = #[0, 1, 2, 3, 4] from rfl]
end Go.Vc
namespace Go.Proofs.YtikfhibcdhdglaaGreat
open Go.Vc
theorem ok_spec_l02Draw {e : TypeId} (hneN : t_impl_Node ≠ e) {w0 : World} {vc : Value} {bs : List Nat} (hc : SlB w0 vc bs) {b k : Nat} (hk : 1 ≤ k ∧ k ≤ 6) (m : Bool) : ∀ (n : Nat) {w : World}, Vc.Src e w0 vc b w → 1 ≤ n → n ≤ 1000 →
    Drw Tryz.prog f_spec_l02Draw #[.pointer (some ⟨b, 0, none⟩), .int .i64 (n : Int), .int .i64 (k : Int), .bool m] e w0 vc b w fun r w' => ∃ f : Fm, f.good ∧ f.size ≤ n ∧ FmW w.heap.size w' r f := by
  intro n
  induction n using Nat.strongRecOn with
  | _ n ih =>
  intro w hS hn1 hn2
  apply c_spec_l02Draw; unfold S_spec_l02Draw
  refine iJnX (fun xs w' => (∃ t, xs = [.bool t] ∧ (t = false → 3 ≤ n)) ∧ Vc.Src e w0 vc b w' ∧ Ch (fun c => c = b) w w') (fun J hJ => ?_) ?_
  · refine iLe (iCndP (fun h => ?_) (fun h => ?_))
    · exact hJ _ _ ⟨⟨true, rfl, fun h => by cases h⟩, hS, (Ext.refl w).ch⟩
    · refine iCall ((ok_spec_l01Next hc hS 9).mono ?_)
      rintro _ w3 ⟨⟨x, rfl, _, _⟩, hS3, hch3⟩
      refine iEq ?_
      exact hJ _ _ ⟨⟨_, rfl, fun _ => by omega⟩, hS3, hch3⟩
  rintro _ w2 ⟨⟨t, rfl, ht⟩, hS2, hC2⟩
  intro _
  cases t with
  | true =>
    refine iCndT rfl ?_
    refine iCall ((ok_spec_l01Next hc hS2 8).mono ?_)
    rintro _ w4 ⟨⟨x, rfl, _, _⟩, hS4, hch4⟩
    have hC4 := ch_self hC2 hch4
    refine iEq (iCndP (fun _ => ?_) (fun _ => ?_))
    · refine iCall ((ok_spec_l02False w4).mono ?_)
      rintro u w5 ⟨x5, h5⟩
      exact ⟨⟨.fls, trivial, hn1, OwK.mono h5 hC4.size⟩, hS4.later x5, ch_ext hC4 x5⟩
    · refine iCall ((ok_spec_l01Next hc hS4 k).mono ?_)
      rintro _ w6 ⟨⟨y, rfl, hy, _⟩, hS6, hch6⟩
      have hy := hy (by omega)
      refine iCall ((ok_spec_l02Var y w6).mono ?_)
      rintro u w7 ⟨x7, h7⟩
      have hC6 := ch_self hC4 hch6
      exact ⟨⟨.var y, show y < 6 by omega, hn1, OwK.mono h7 hC6.size⟩, hS6.later x7, ch_ext hC6 x7⟩
  | false =>
    refine iCndF rfl ?_
    have h3 := ht rfl
    refine iJnX (fun xs w' => (∃ t, xs = [.bool t]) ∧ Vc.Src e w0 vc b w' ∧ Ch (fun c => c = b) w w') (fun J hJ => ?_) ?_
    · cases m with
      | true =>
        refine iCndT rfl ?_
        refine iCall ((ok_spec_l01Next hc hS2 3).mono ?_)
        rintro _ w10 ⟨⟨x, rfl, _, _⟩, hS10, hch10⟩
        refine iEq ?_
        exact hJ _ _ ⟨⟨_, rfl⟩, hS10, ch_self hC2 hch10⟩
      | false => exact iCndF rfl (hJ _ _ ⟨⟨_, rfl⟩, hS2, hC2⟩)
    rintro _ w9 ⟨⟨t, rfl⟩, hS9, hC9⟩
    intro _
    cases t with
    | true =>
      refine iCndT rfl ?_
      refine iCall ((ok_spec_l01Next hc hS9 2).mono ?_)
      rintro _ w11 ⟨⟨y, rfl, hy, _⟩, hS11, hch11⟩
      have hy := hy (by omega)
      have hC11 := ch_self hC9 hch11
      refine iAdd (by omega) (iSub (by omega) ?_)
      rw [show (5 : Int) + (y : Int) = ((5 + y : Nat) : Int) by omega, show (n : Int) - 1 = ((n - 1 : Nat) : Int) by omega]
      refine iCall ((ih (n - 1) (by omega) hS11 (by omega) (by omega)).mono ?_)
      rintro u w12 ⟨⟨a, ga, sa, ha⟩, hS12, hch12⟩
      have hC12 := ch_self hC11 hch12
      refine iCall ((ok_spec_l02Pre (c := preF y a) (preF_cells (by omega) a) (preF_size y a) ha.sl (by rw [preF_size]; omega)).mono ?_)
      rintro r w13 ⟨x13, hr⟩
      exact ⟨⟨preF y a, preF_good y ga, by rw [preF_size]; omega, OwK.mono hr hC12.size⟩, hS12.later x13, ch_ext hC12 x13⟩
    | false =>
      refine iCndF rfl ?_
      refine iCall ((ok_spec_l01Next hc hS9 6).mono ?_)
      rintro _ w14 ⟨⟨y, rfl, _, _⟩, hS14, hch14⟩
      have hC14 := ch_self hC9 hch14
      refine iEq (iCndP (fun _ => ?_) (fun _ => ?_))
      · refine iSub (by omega) ?_
        rw [show (n : Int) - 2 = ((n - 2 : Nat) : Int) by omega]
        refine iCall ((ih (n - 2) (by omega) hS14 (by omega) (by omega)).mono ?_)
        rintro u w15 ⟨⟨a, ga, sa, ha⟩, hS15, hch15⟩
        have hC15 := ch_self hC14 hch15
        refine iCall ((ok_spec_l02Not ha.sl (by omega)).mono ?_)
        rintro r w16 ⟨x16, hr⟩
        exact ⟨⟨.imp a .fls, ⟨ga, trivial⟩, by show 1 + a.size + 1 ≤ n; omega, OwK.mono hr hC15.size⟩, hS15.later x16, ch_ext hC15 x16⟩
      · refine iSub (by omega) ?_
        refine iCall ((ok_spec_l01Next hc hS14 _).mono ?_)
        rintro _ w17 ⟨⟨z, rfl, hz, _⟩, hS17, hch17⟩
        have hz := hz (by omega)
        have hC17 := ch_self hC14 hch17
        refine iAdd (by omega) ?_
        rw [show (1 : Int) + (z : Int) = ((1 + z : Nat) : Int) by omega]
        refine iCall ((ih (1 + z) (by omega) hS17 (by omega) (by omega)).mono ?_)
        rintro u w18 ⟨⟨a, ga, sa, ha⟩, hS18, hch18⟩
        have hC18 := ch_self hC17 hch18
        refine iCall ((ok_spec_l01Next hc hS18 3).mono ?_)
        rintro _ w19 ⟨⟨q, rfl, hq, _⟩, hS19, hch19⟩
        have hq := hq (by omega)
        have hC19 := ch_self hC18 hch19
        have ha19 := OwK.src ha hS18 hneN hch19
        refine iAdd (by omega) (iSub (by omega) (iSub (by omega) ?_))
        rw [show (2 : Int) + (q : Int) = ((2 + q : Nat) : Int) by omega, show (n : Int) - 1 - ((1 + z : Nat) : Int) = ((n - 1 - (1 + z) : Nat) : Int) by omega]
        refine iCall ((ih (n - 1 - (1 + z)) (by omega) hS19 (by omega) (by omega)).mono ?_)
        rintro u2 w20 ⟨⟨a2, ga2, sa2, ha2⟩, hS20, hch20⟩
        have hC20 := ch_self hC19 hch20
        have ha20 := OwK.src ha19 hS19 hneN hch20
        refine iCall ((ok_spec_l02Pair (c := binF q a a2) (binF_cells (by omega) a a2) (binF_size q a a2) ha20.sl ha2.sl (by rw [binF_size]; omega)).mono ?_)
        rintro r w21 ⟨x21, hr⟩
        exact ⟨⟨binF q a a2, binF_good q ga ga2, by rw [binF_size]; omega, OwK.mono hr hC20.size⟩, hS20.later x21, ch_ext hC20 x21⟩
theorem ok_spec_l02OwnD {va : Value} {w : World} {N : List RN} (ha : RawS w va N) (hsz : N.length ≤ 1000000) : Cal Tryz.prog f_spec_l02Own #[va] w fun r w' => Ext w w' ∧ RawW w.heap.size t_impl_Node w' r N := by
  apply c_spec_l02Own; unfold S_spec_l02Own
  refine iBsA0 fun u w1 _ x1 ho => ?_
  refine iAppK u_Simpl_Node i_Simpl_Node rfl (by omega) ho (SlK.ext ha x1) (cellsN_cell N) (by omega) (by omega) x1.size fun v2 w2 ho2 hg2 _ => ?_
  refine ⟨x1.grown hg2 fun c hc => (ho.blk c hc).1, ?_⟩
  show OwK 2 _ _ w2 v2 _ _
  rw [Nat.zero_add, List.nil_append] at ho2
  exact ho2
theorem ok_spec_l02Bend {e : TypeId} (hneN : t_impl_Node ≠ e) {w0 : World} {vc : Value} {bs : List Nat} (hc : SlB w0 vc bs) {b : Nat} {w : World} (hS : Vc.Src e w0 vc b w) {va : Value} {N : List RN} (ha : RawS w va N) (hN : 1 ≤ N.length ∧ N.length ≤ 1000) :
    Drw Tryz.prog f_spec_l02Bend #[.pointer (some ⟨b, 0, none⟩), va] e w0 vc b w fun r w' => ∃ M : List RN, M.length ≤ N.length + 1 ∧ RawW w.heap.size t_impl_Node w' r M := by
  apply c_spec_l02Bend; unfold S_spec_l02Bend
  have hlow := hS.ext.size
  refine iCall ((ok_spec_l02OwnD ha (by omega)).mono ?_)
  rintro v w1 ⟨x1, ho1⟩
  have hS1 := hS.later x1
  have hC1 : Ch (fun c => c = b) w w1 := x1.ch (S := fun c => c = b)
  refine iLenK ho1.sl ?_
  refine iCall ((ok_spec_l01Next hc hS1 _).mono ?_)
  rintro _ w2 ⟨⟨k, rfl, hk, _⟩, hS2, hch2⟩
  have hk := hk (by omega)
  have hkN : k < N.length := by omega
  have ho2 := OwK.src ho1 hS1 hneN hch2
  have hC2 := ch_self hC1 hch2
  refine iCall ((ok_spec_l01Next hc hS2 5).mono ?_)
  rintro _ w3 ⟨⟨x, rfl, _, _⟩, hS3, hch3⟩
  have ho3 := OwK.src ho2 hS2 hneN hch3
  have hC3 := ch_self hC2 hch3
  have turn : ∀ {w' w'' : World} {xs : List Value}, OwK 2 w.heap.size t_impl_Node w' v N.length xs → Vc.Src e w0 vc b w' → Ch (fun c => c = b) w w' → Ch (fun c => v.ownBlock = some c) w' w'' → Vc.Src e w0 vc b w'' ∧ Ch (fun c => c = b) w w'' := fun ho gS gC k =>
    ⟨gS.ch k (fun h => ho.ne_src gS hneN h) fun c hc => by have := (ho.blk c hc).1; omega, gC.trans k fun c hc => .inr (ho.blk c hc).1⟩
  refine iEq (iCndP (fun _ => ?_) (fun _ => ?_))
  · refine iCall ((ok_spec_l01Next hc hS3 9).mono ?_)
    rintro _ w4 ⟨⟨y, rfl, hy, _⟩, hS4, hch4⟩
    have hy := hy (by omega)
    have ho4 := OwK.src ho3 hS3 hneN hch4
    have hC4 := ch_self hC3 hch4
    refine iSub (by omega) ?_
    refine iStFX (f := 0) ho4 rfl hkN (by decide) rfl fun w5 ho5 hch5 => ?_
    rw [cellsN_set0 N k hkN] at ho5
    obtain ⟨gS, gC⟩ := turn ho4 hS4 hC4 hch5
    exact ⟨⟨N.set k (_, N[k].2), by rw [List.length_set]; omega, by show OwK 2 _ _ _ _ (N.set k _).length _; rw [List.length_set]; exact ho5⟩, gS, gC⟩
  refine iEq (iCndP (fun _ => ?_) (fun _ => ?_))
  · refine iBs5D fun q w6 hq x6 hB => ?_
    have hS6 := hS3.later x6
    refine iCall ((ok_spec_l01Pick hc hS6 (l := [-1, 0, 1, 5, 6]) rfl hB (by have := hS3.lt; omega) (by decide) (by decide)).mono ?_)
    rintro _ w7 ⟨⟨y, rfl, _⟩, hS7, hch7⟩
    have ho7 := OwK.src (ho3.ext x6) hS6 hneN hch7
    have hC7 := ch_self (ch_ext hC3 x6) hch7
    refine iStFX (f := 1) ho7 rfl hkN (by decide) rfl fun w8 ho8 hch8 => ?_
    rw [cellsN_set1 N k hkN] at ho8
    obtain ⟨gS, gC⟩ := turn ho7 hS7 hC7 hch8
    exact ⟨⟨N.set k (N[k].1, _), by rw [List.length_set]; omega, by show OwK 2 _ _ _ _ (N.set k _).length _; rw [List.length_set]; exact ho8⟩, gS, gC⟩
  refine iEq (iCndP (fun _ => ?_) (fun _ => ?_))
  · refine iCall ((ok_spec_l01Next hc hS3 7).mono ?_)
    rintro _ w9 ⟨⟨y, rfl, _, _⟩, hS9, hch9⟩
    have ho9 := OwK.src ho3 hS3 hneN hch9
    have hC9 := ch_self hC3 hch9
    refine iBuild1 rfl ?_
    refine iBsA fun q w10 hq x10 hB => ?_
    have ho10 := ho9.ext x10
    have hC10 := ch_ext hC9 x10
    refine iAppK u_Simpl_Node i_Simpl_Node rfl (by omega) ho10 (node_one hq hB).sl (fun u hu => ?_) (by omega) (by omega) hC10.size fun v11 w11 ho11 hg11 _ => ?_
    · simp only [List.mem_cons, List.not_mem_nil, or_false] at hu
      rcases hu with rfl | rfl <;> rfl
    obtain ⟨gS, gC⟩ := turn ho10 (hS9.later x10) hC10 (grown_ch (S := fun c => v.ownBlock = some c) hg11 fun c hc => hc)
    refine ⟨⟨N ++ [((y : Int), 0)], by simp, ?_⟩, gS, gC⟩
    show OwK 2 _ _ _ _ (N ++ [_]).length _
    rw [List.length_append, cellsN_app]
    exact ho11
  have hpos : 0 < N.length := by omega
  refine iEq (iCndP (fun _ => ?_) (fun _ => ?_))
  · obtain ⟨g, cap, cur, rfl, hg, hcap, hR, hcur⟩ := ho3.rx hpos
    refine iHX (by omega) ?_
    refine ⟨⟨N.take k, by rw [List.length_take]; omega, ?_⟩, hS3, hC3⟩
    have hlt : (N.take k).length = k := by rw [List.length_take]; omega
    show OwK 2 _ _ _ _ (N.take k).length _
    rw [hlt]
    refine hR.own hg (by omega) ?_
    rw [← cellsN_take, ← hcur, List.take_take, Nat.min_eq_left (by omega)]
  refine iEq (iCndP (fun _ => ?_) (fun _ => ?_))
  · obtain ⟨g, cap, cur, rfl, hg, hcap, hR, hcur⟩ := ho3.rx hpos
    refine iHX (by omega) ?_
    refine iAdd (by omega) ?_
    have hsl := ho3.sl
    refine iTY (i := k + 1) hsl (by omega) (by omega) fun v' hv' => ?_
    rw [cellsN_drop] at hv'
    intro w12 x12
    refine iAppRx (i := k) (m := N.length - (k + 1)) u_Simpl_Node i_Simpl_Node (hR.ext x12) (hv'.ext x12) (cellsN_cell _) (by omega) fun w13 hR13 hch13 => ?_
    intro w14 x14
    have hR14 := hR13.ext x14
    have ho12 := ho3.ext x12
    obtain ⟨gS, gC⟩ := turn ho12 (hS3.later x12) (ch_ext hC3 x12) (w'' := w13) (hch13.mono fun c hc => by rw [hc]; rfl)
    have hld : (N.drop (k + 1)).length = N.length - (k + 1) := List.length_drop
    have hlt : (N.take k ++ N.drop (k + 1)).length = k + (N.length - (k + 1)) := by rw [List.length_append, List.length_take, hld]; omega
    refine ⟨⟨N.take k ++ N.drop (k + 1), by rw [hlt]; omega, ?_⟩, gS.later x14, ch_ext gC x14⟩
    show OwK 2 _ _ _ _ (N.take k ++ N.drop (k + 1)).length _
    rw [hlt]
    refine hR14.own hg (by omega) ?_
    have hcl := hR.2.1
    have hdl : (cellsN (N.drop (k + 1))).length = (N.length - (k + 1)) * 2 := by rw [cellsN_len, hld]
    rw [putX_take (by rw [hdl]; omega) (by rw [hdl]; omega), cellsN_app, ← cellsN_take, ← hcur, List.take_take, Nat.min_eq_left (by omega)]
  · exact ⟨⟨N, by omega, ho3⟩, hS3, hC3⟩
end Go.Proofs.YtikfhibcdhdglaaGreat

/- Contracts: any drawn formulas; small ones; damaged texts. Conditions: none. -/
namespace Go.Proofs.YtikfhibcdhdglaaGreat
open Go.Vc
theorem FmW.raw {lo : Nat} {w : World} {v : Value} {f : Fm} (h : FmW lo w v f) : RawW lo t_impl_Node w v (rawF f) := by
  show OwK 2 _ _ _ _ (rawF f).length (cellsN (rawF f))
  rw [rawF_len, cellsN_raw]; exact h
theorem ok_spec_l02Any {e : TypeId} (hneN : t_impl_Node ≠ e) {w0 : World} {vc : Value} {bs : List Nat} (hc : SlB w0 vc bs) {b k : Nat} (hk : 1 ≤ k ∧ k ≤ 6) (m : Bool) {n : Nat} (hn : 1 ≤ n ∧ n ≤ 100) {w : World} (hS : Vc.Src e w0 vc b w) :
    Drw Tryz.prog f_spec_l02Any #[.pointer (some ⟨b, 0, none⟩), .int .i64 (n : Int), .int .i64 (k : Int), .bool m] e w0 vc b w fun r w' => ∃ N : List RN, N.length ≤ 200 ∧ RawW w.heap.size t_impl_Node w' r N := by
  apply c_spec_l02Any; unfold S_spec_l02Any
  refine iCall ((ok_spec_l02Draw hneN hc hk m n hS hn.1 (by omega)).mono ?_)
  rintro v w1 ⟨⟨f, gf, sf, hf⟩, hS1, hch1⟩
  refine iCall ((ok_spec_l01Next hc hS1 40).mono ?_)
  rintro _ w2 ⟨⟨x, rfl, _, _⟩, hS2, hch2⟩
  have hf2 := OwK.src hf hS1 hneN hch2
  have hC2 := ch_self hch1 hch2
  refine iEq (iCndP (fun _ => ?_) (fun _ => ?_))
  · have hr := FmW.raw hf2
    have hpos : 1 ≤ f.size := by have := f.size_kids; omega
    refine iCall ((ok_spec_l02Bend hneN hc hS2 hr.sl ⟨by rw [rawF_len]; exact hpos, by rw [rawF_len]; omega⟩).mono ?_)
    rintro u w3 ⟨⟨M, hM, hu⟩, hS3, hch3⟩
    rw [rawF_len] at hM
    exact ⟨⟨M, by omega, OwK.mono hu hC2.size⟩, hS3, ch_self hC2 hch3⟩
  refine iEq (iCndP (fun _ => ?_) (fun _ => ?_))
  · refine iLp (fun s : Value × Nat => [s.1]) (fun s w' => Vc.Src e w0 vc b w' ∧ Ch (fun c => c = b) w w' ∧ s.2 ≤ 200 ∧ ∃ f : Fm, f.good ∧ f.size = s.2 ∧ FmW w.heap.size w' s.1 f) (fun s => 200 - s.2) (v, f.size) rfl ⟨hS2, hC2, by show f.size ≤ 200; omega, f, gf, rfl, hf2⟩ ?_
    rintro ⟨u, z⟩ w5 Kn ⟨hS5, hC5, hz, a, ga, sa, ha⟩ hKn
    have sa : a.size = z := sa
    have hz : z ≤ 200 := hz
    have ha : FmW w.heap.size w5 u a := ha
    intro _
    refine iJnX (fun xs w' => (∃ t, xs = [.bool t] ∧ (t = true → z ≤ 40)) ∧ Vc.Src e w0 vc b w' ∧ Ch (fun c => c = b) w w' ∧ FmW w.heap.size w' u a) (fun J hJ => ?_) ?_
    · refine iLenK ha.sl ?_
      refine iLe (iCndP (fun h => ?_) (fun h => ?_))
      · refine iCall ((ok_spec_l01Next hc hS5 60).mono ?_)
        rintro _ w8 ⟨⟨y, rfl, _, _⟩, hS8, hch8⟩
        refine iLt ?_
        exact hJ _ _ ⟨⟨_, rfl, fun _ => by omega⟩, hS8, ch_self hC5 hch8, OwK.src ha hS5 hneN hch8⟩
      · exact hJ _ _ ⟨⟨false, rfl, fun h => by cases h⟩, hS5, hC5, ha⟩
    rintro _ w7 ⟨⟨t, rfl, ht⟩, hS7, hC7, ha7⟩
    intro _
    cases t with
    | false => exact iCndF rfl ⟨⟨rawF a, by rw [rawF_len]; omega, FmW.raw ha7⟩, hS7, hC7⟩
    | true =>
      have ht := ht rfl
      refine iCndT rfl ?_
      refine iCall ((ok_spec_l01Next hc hS7 3).mono ?_)
      rintro _ w9 ⟨⟨q, rfl, hq, _⟩, hS9, hch9⟩
      have hq := hq (by omega)
      have hC9 := ch_self hC7 hch9
      have ha9 := OwK.src ha7 hS7 hneN hch9
      refine iAdd (by omega) ?_
      rw [show (2 : Int) + (q : Int) = ((2 + q : Nat) : Int) by omega]
      refine iCall ((ok_spec_l02Draw hneN hc hk m 6 hS9 (by omega) (by omega)).mono ?_)
      rintro u2 w10 ⟨⟨a2, ga2, sa2, ha2⟩, hS10, hch10⟩
      have hC10 := ch_self hC9 hch10
      have ha10 := OwK.src ha9 hS9 hneN hch10
      refine iCall ((ok_spec_l02Pair (c := binF q a a2) (binF_cells (by omega) a a2) (binF_size q a a2) ha10.sl ha2.sl (by rw [binF_size]; omega)).mono ?_)
      rintro r w11 ⟨x11, hr⟩
      have hsz := binF_size q a a2
      exact hKn (r, (binF q a a2).size) _ ⟨hS10.later x11, ch_ext hC10 x11, by show (binF q a a2).size ≤ 200; omega, binF q a a2, binF_good q ga ga2, rfl, OwK.mono hr hC10.size⟩ (by show 200 - (binF q a a2).size < 200 - z; omega)
  · exact ⟨⟨rawF f, by rw [rawF_len]; omega, FmW.raw hf2⟩, hS2, hC2⟩
theorem ok_spec_l17Plain {e : TypeId} (hneN : t_impl_Node ≠ e) {w0 : World} {vc : Value} {bs : List Nat} (hc : SlB w0 vc bs) {b k : Nat} (hk : 1 ≤ k ∧ k ≤ 6) {n : Nat} (hn : 1 ≤ n ∧ n ≤ 100) {w : World} (hS : Vc.Src e w0 vc b w) :
    Drw Tryz.prog f_spec_l17Plain #[.pointer (some ⟨b, 0, none⟩), .int .i64 (n : Int), .int .i64 (k : Int)] e w0 vc b w fun r w' => ∃ N : List RN, N.length ≤ 200 ∧ RawW w.heap.size t_impl_Node w' r N := by
  apply c_spec_l17Plain; unfold S_spec_l17Plain
  refine iCall ((ok_spec_l01Next hc hS 30).mono ?_)
  rintro _ w1 ⟨⟨x, rfl, _, _⟩, hS1, hch1⟩
  refine iEq ?_
  refine iCall ((ok_spec_l02Any hneN hc hk _ hn hS1).mono ?_)
  rintro u w2 ⟨⟨N, hN, hu⟩, hS2, hch2⟩
  exact ⟨⟨N, hN, OwK.mono hu hch1.size⟩, hS2, ch_self hch1 hch2⟩
end Go.Proofs.YtikfhibcdhdglaaGreat

/- Contracts: the reference's partitions of a poset, which are correct, and the quotient. Conditions: none. -/
namespace Go.Vc
/-- The classes c respect the poset. -/
def corB (f : Fr) (c : List Nat) : Bool := (List.range c.length).all fun x => (List.range c.length).all fun y => !decide (c.getD x 0 = c.getD y 0) || decide (imgP (nats c) (f.a.getD x 0) = imgP (nats c) (f.a.getD y 0))
theorem corB_range (f : Fr) (n : Nat) : corB f (List.range n) = true := by
  unfold corB
  refine List.all_eq_true.2 fun x hx => List.all_eq_true.2 fun y hy => ?_
  rw [List.length_range, List.mem_range] at hx hy
  rw [Bool.or_eq_true]
  by_cases e : x = y
  · subst e; exact .inr (by simp)
  · left
    simp [List.getD_eq_getElem?_getD, hx, hy, e]
/-- The sets above of the quotient, from the first k points. -/
def quoL (f : Fr) (c : List Nat) : Nat → List Nat
  | 0 => []
  | k + 1 => if c.getD k 0 = (quoL f c k).length then quoL f c k ++ [imgP (nats c) (f.a.getD k 0)] else quoL f c k
theorem quoL_len (f : Fr) (c : List Nat) : ∀ k, (quoL f c k).length ≤ k
  | 0 => Nat.le_refl _
  | k + 1 => by
    have := quoL_len f c k
    unfold quoL
    split
    · rw [List.length_append, List.length_singleton]; omega
    · omega
abbrev VC := Value × List Nat
end Go.Vc
namespace Go.Proofs.YtikfhibcdhdglaaGreat
open Go.Vc
/-- A row of rows that may share theirs. -/
structure LLw (lo : Nat) (w : World) (v : Value) (P : List VC) : Prop where
  row : Ow lo t_Si64 w v (P.map Prod.fst)
  each : ∀ p ∈ P, Ow lo t_i64 w p.1 (ints (nats p.2))
theorem LLw.ext {lo : Nat} {w w' : World} {v : Value} {P : List VC} (h : LLw lo w v P) (x : Ext w w') : LLw lo w' v P := ⟨h.row.ext x, fun p hp => (h.each p hp).ext x⟩
theorem LLw.mono {lo lo' : Nat} {w : World} {v : Value} {P : List VC} (h : LLw lo w v P) (hl : lo' ≤ lo) : LLw lo' w v P := ⟨h.row.mono hl, fun p hp => (h.each p hp).mono hl⟩
theorem LLw.at {lo : Nat} {w : World} {v : Value} {P : List VC} (h : LLw lo w v P) {i : Nat} (hi : i < P.length) {k : IntKind} {K : Value → Prop} (hK : K P[i].1) : xIa 1 v (.int k (i : Int)) fun p => xLd w p K :=
  iIaV h.row.sl (by rw [List.length_map]; exact hi) fun p hp => iLd hp (by simpa using hK)
theorem iApLL {lo : Nat} {w : World} {v x : Value} {P : List VC} {c : List Nat} {K : Value → World → Prop} (hlo : lo ≤ w.heap.size) (h : LLw lo w v P) (hx : Ow lo t_i64 w x (ints (nats c))) (hP : P.length ≤ 1099511627776)
    (hK : ∀ v' w', LLw lo w' v' (P ++ [(x, c)]) → Ch (fun b => v.ownBlock = some b) w w' → (v'.ownBlock = v.ownBlock ∨ ∃ b, v'.ownBlock = some b ∧ w.heap.size ≤ b) → K v' w') : xBs t_Si64 (Value.cells (.slice none 0 0)) 1 1 [(0, x)] w fun y w1 => xOp Tryz.prog (Builtin.append_ #[t_SSi64, t_SSi64] t_SSi64 #[v, y]) w1 K := by
  refine iApp1A u_SSi64 i_SSi64 rfl h.row hx.cell (by rw [List.length_map]; omega) (by rw [List.length_map]; omega) hlo fun v' w' ho hg hat => hK v' w' ?_ (grown_ch hg fun b hb => hb) hat
  have key : ∀ {u : Value} {d : List Value}, Ow lo t_i64 w u d → Ow lo t_i64 w' u d := fun {u d} hu => hu.ch (grown_ch (S := fun b => v.ownBlock = some b) hg fun b hb => hb) fun b hb hv => by
    obtain ⟨_, h1⟩ := hu.ty hb
    obtain ⟨_, h2⟩ := h.row.ty hv
    rw [h1] at h2
    injection h2 with h2
    injection h2 with _ h2
    exact absurd h2 (by decide)
  refine ⟨by simpa using ho, fun p hp => ?_⟩
  rcases List.mem_append.1 hp with hp | hp
  · exact key (h.each p hp)
  · rw [List.mem_singleton] at hp
    subst hp
    exact key hx
theorem ok_spec_l21Correct {f : Fr} (hf : f.ok) {v vc : Value} {w : World} (hs : SlN w v f.a) {c : List Nat} (hc : SlN w vc c) (hl : c.length = f.n) (hy : ∀ y ∈ c, y < 62) : Ret Tryz.prog f_spec_l21Correct #[.agg #[.int .i64 (f.n : Int), v], vc] w (.bool (corB f c)) := by
  have h8 := hf.1
  have hal := hf.2.1
  have himg : ∀ {x : Nat}, x < c.length → ∀ {w'}, Ext w w' → Ret Tryz.prog f_spec_l21Images #[.int .i64 ((f.a.getD x 0 : Nat) : Int), vc] w' (.int .i64 ((imgP (nats c) (f.a.getD x 0) : Nat) : Int)) := fun {x} hx {w'} x' =>
    ok_spec_l21Images (hc.ext x') (by rw [nats_length]; omega) (fun y hy' => by
      obtain ⟨z, hz, rfl⟩ := List.mem_map.1 hy'
      have := hy z hz
      show ((z : Nat) : Int) < 62
      omega) _ (by rw [nats_length, hl]; exact hf.lt (by omega))
  apply c_spec_l21Correct; unfold S_spec_l21Correct
  refine iNew fun b w1 hb x1 hB => ?_
  have hB : Blk _ w1 b [.int .i64 (f.n : Int), v] := hB
  let row := fun x => (List.range c.length).all fun y => !decide (c.getD x 0 = c.getD y 0) || decide (imgP (nats c) (f.a.getD x 0) = imgP (nats c) (f.a.getD y 0))
  refine iLp (fun x : Nat => [.int .i64 (x : Int)]) (fun x w' => x ≤ c.length ∧ Ext w1 w' ∧ ∀ i, i < x → row i = true) (fun x => c.length - x) 0 rfl ⟨Nat.zero_le _, Ext.refl _, by omega⟩ ?_
  rintro x w3 Kn ⟨hx, x3, hr⟩ hKn
  intro _
  simp only [gx]
  refine iLenN (hc.ext (x1.trans x3)) ?_
  refine iLt (iCndP (fun h => ?_) (fun h => ?_))
  · have hxl : x < c.length := by omega
    refine iLp (fun y : Nat => [.int .i64 (y : Int)]) (fun y w' => y ≤ c.length ∧ Ext w1 w' ∧ ∀ i, i < y → (!decide (c.getD x 0 = c.getD i 0) || decide (imgP (nats c) (f.a.getD x 0) = imgP (nats c) (f.a.getD i 0))) = true) (fun y => c.length - y) 0 rfl ⟨Nat.zero_le _, x3, by omega⟩ ?_
    rintro y w5 Kn5 ⟨hyl, x5, hr5⟩ hKn5
    have X5 := x1.trans x5
    intro _
    simp only [gx]
    refine iLenN (hc.ext X5) ?_
    refine iLt (iCndP (fun h2 => ?_) (fun h2 => ?_))
    · have hyl' : y < c.length := by omega
      refine iJnB (decide (c.getD x 0 = c.getD y 0) && !decide (imgP (nats c) (f.a.getD x 0) = imgP (nats c) (f.a.getD y 0))) w5 (fun J hJ => ?_) (fun w7 x7 => ?_)
      · refine iIaNN (hc.ext X5) hxl fun p hp => iLd hp ?_
        refine iIaNN (hc.ext X5) hyl' fun p hp => iLd hp ?_
        refine iEq (iCndP (fun he => ?_) (fun he => ?_))
        · have he : c.getD x 0 = c.getD y 0 := by omega
          rw [decide_eq_true he, Bool.true_and] at hJ
          refine iFa (iLdB (hB.ext x5) (v := v) rfl ?_)
          refine iIaNN (hs.ext X5) (by omega) fun p hp => iLd hp ?_
          refine iRetQ (fun w' x' => himg hxl (X5.trans x')) ?_
          refine iFa (iLdB (hB.ext x5) (v := v) rfl ?_)
          refine iIaNN (hs.ext X5) (by omega) fun p hp => iLd hp ?_
          refine iRetQ (fun w' x' => himg hyl' (X5.trans x')) ?_
          refine iNe fun w8 x8 => ?_
          have e : decide (¬ ((imgP (nats c) (f.a.getD x 0) : Nat) : Int) = ((imgP (nats c) (f.a.getD y 0) : Nat) : Int)) = !decide (imgP (nats c) (f.a.getD x 0) = imgP (nats c) (f.a.getD y 0)) := by
            rw [← decide_not]; exact decide_eq_decide.2 (by omega)
          rw [e]
          exact hJ _ x8
        · have he : ¬ c.getD x 0 = c.getD y 0 := by omega
          rw [decide_eq_false he, Bool.false_and] at hJ
          exact fun w9 x9 => hJ _ x9
      · intro _
        simp only [gx]
        cases hb : decide (c.getD x 0 = c.getD y 0) && !decide (imgP (nats c) (f.a.getD x 0) = imgP (nats c) (f.a.getD y 0))
        · refine iCndF rfl (iAdd (by omega) ?_)
          refine hKn5 (y + 1) _ ⟨by omega, x5.trans x7, fun i hi => ?_⟩ (by omega)
          rcases Nat.lt_succ_iff_lt_or_eq.1 hi with hi | rfl
          · exact hr5 i hi
          · revert hb
            cases decide (c.getD x 0 = c.getD i 0) <;> cases decide (imgP (nats c) (f.a.getD x 0) = imgP (nats c) (f.a.getD i 0)) <;> simp
        · refine iCndT rfl ⟨?_, (x1.trans x5).trans x7⟩
          have : corB f c = false := by
            unfold corB
            rw [List.all_eq_false]
            refine ⟨x, List.mem_range.2 hxl, ?_⟩
            rw [Bool.not_eq_true, List.all_eq_false]
            refine ⟨y, List.mem_range.2 hyl', ?_⟩
            revert hb
            cases decide (c.getD x 0 = c.getD y 0) <;> cases decide (imgP (nats c) (f.a.getD x 0) = imgP (nats c) (f.a.getD y 0)) <;> simp
          rw [this]
    · refine iAdd (by omega) ?_
      refine hKn (x + 1) _ ⟨by omega, x5, fun i hi => ?_⟩ (by omega)
      rcases Nat.lt_succ_iff_lt_or_eq.1 hi with hi | rfl
      · exact hr i hi
      · exact List.all_eq_true.2 fun y hy => hr5 y (by have := List.mem_range.1 hy; omega)
  · refine ⟨?_, x1.trans x3⟩
    have : corB f c = true := List.all_eq_true.2 fun x hx' => hr x (by have := List.mem_range.1 hx'; omega)
    rw [this]
theorem ok_spec_l21Quotient {f : Fr} (hf : f.ok) {v vc : Value} {w : World} (hs : SlN w v f.a) {c : List Nat} (hc : SlN w vc c) (hl : c.length = f.n) (hy : ∀ y ∈ c, y < 62) :
    Cal Tryz.prog f_spec_l21Quotient #[.agg #[.int .i64 (f.n : Int), v], vc] w fun r w' => Ext w w' ∧ ∃ v', r = .agg #[.int .i64 ((quoL f c f.n).length : Int), v'] ∧ Ow w.heap.size t_i64 w' v' (ints (nats (quoL f c f.n))) := by
  have h8 := hf.1
  have hal := hf.2.1
  have himg : ∀ {x : Nat}, x < c.length → ∀ {w'}, Ext w w' → Ret Tryz.prog f_spec_l21Images #[.int .i64 ((f.a.getD x 0 : Nat) : Int), vc] w' (.int .i64 ((imgP (nats c) (f.a.getD x 0) : Nat) : Int)) := fun {x} hx {w'} x' =>
    ok_spec_l21Images (hc.ext x') (by rw [nats_length]; omega) (fun y hy' => by
      obtain ⟨z, hz, rfl⟩ := List.mem_map.1 hy'
      have := hy z hz
      show ((z : Nat) : Int) < 62
      omega) _ (by rw [nats_length, hl]; exact hf.lt (by omega))
  apply c_spec_l21Quotient; unfold S_spec_l21Quotient
  refine iNew fun b w1 hb x1 hB => ?_
  have hB : Blk _ w1 b [.int .i64 (f.n : Int), v] := hB
  refine iNew fun b4 w2 hb4 x2 hB4 => ?_
  refine iBs0 fun va w3 hw3 x3 ho => ?_
  have hB := hB.ext x2
  have X2 := x1.trans x2
  refine iLp (fun s : Value × Nat => [s.1, .int .i64 (s.2 : Int)]) (fun s w' => s.2 ≤ c.length ∧ Ext w2 w' ∧ Ow w2.heap.size t_i64 w' s.1 (ints (nats (quoL f c s.2)))) (fun s => c.length - s.2) (va, 0) rfl ⟨Nat.zero_le _, x3, ho⟩ ?_
  rintro ⟨va, k⟩ w5 Kn ⟨hk, x5, ho⟩ hKn
  have hk : k ≤ c.length := hk
  have ho : Ow w2.heap.size t_i64 w5 va (ints (nats (quoL f c k))) := ho
  have x5 : Ext w2 w5 := x5
  have X5 := X2.trans x5
  have hql := quoL_len f c k
  intro _
  simp only [gx]
  refine iLenN (hc.ext X5) ?_
  refine iLt (iCndP (fun h => ?_) (fun h => ?_))
  · have hkl : k < c.length := by omega
    refine iIaNN (hc.ext X5) hkl fun p hp => iLd hp ?_
    refine iLenN ho.sl ?_
    refine iEq (iCndP (fun he => ?_) (fun he => ?_))
    · have he : c.getD k 0 = (quoL f c k).length := by omega
      refine iFa (iLdB (hB.ext x5) (v := v) rfl ?_)
      refine iIaNN (hs.ext X5) (by omega) fun p hp => iLd hp ?_
      refine iRet (himg hkl X5) fun w6 x6 => ?_
      have hs2 := (x5.trans x6).size
      refine iApp1 u_Si64 i_Si64 rfl (ho.ext x6) rfl (by rw [ints_length, nats_length]; omega) (by rw [ints_length, nats_length]; omega) hs2 fun va' w8 ho8 hg8 => ?_
      refine iAdd (by omega) ?_
      refine hKn (va', k + 1) _ ⟨hkl, (x5.trans x6).grown hg8 fun b hb => (ho.blk b hb).1, ?_⟩ (by show c.length - (k + 1) < c.length - k; omega)
      show Ow w2.heap.size t_i64 w8 va' (ints (nats (quoL f c (k + 1))))
      rw [quoL, if_pos he]
      simpa [ints, nats] using ho8
    · have he : ¬ c.getD k 0 = (quoL f c k).length := by omega
      refine iAdd (by omega) ?_
      refine hKn (va, k + 1) _ ⟨hkl, x5, ?_⟩ (by show c.length - (k + 1) < c.length - k; omega)
      show Ow w2.heap.size t_i64 w5 va (ints (nats (quoL f c (k + 1))))
      rw [quoL, if_neg he]
      exact ho
  · obtain rfl : k = f.n := by omega
    refine iCall ((ok_spec_l16Make ho.sl (by omega)).mono ?_)
    rintro r w9 ⟨x9, v', rfl, ho'⟩
    have hsz := X5.size
    have hne : v'.ownBlock ≠ some b4 := fun e => by have h1 := (ho'.blk b4 e).1; have := x5.size; omega
    refine iStAB ((hB4.ext x5).ext x9) rfl rfl (ho'.pair _) fun w10 hu10 hB4' => ?_
    exact iLdA hB4' rfl ⟨(X5.trans x9).upd hu10 (by have := x1.size; omega), v', rfl, (ho'.mono hsz).upd hu10 hne⟩
end Go.Proofs.YtikfhibcdhdglaaGreat

/- Contracts: the reference's list of all partitions of a poset. Conditions: none. -/
namespace Go.Vc
def topC (l : List Nat) : Nat := l.foldl (fun t y => max t (y + 1)) 0
theorem topC_snoc (l : List Nat) (y : Nat) : topC (l ++ [y]) = max (topC l) (y + 1) := by simp [topC]
theorem topC_le {x : Nat} {l : List Nat} (h : ∀ y ∈ l, y < x) : topC l ≤ x := by
  have key : ∀ (l : List Nat) (t : Nat), (∀ y ∈ l, y < x) → t ≤ x → l.foldl (fun t y => max t (y + 1)) t ≤ x := by
    intro l
    induction l with
    | nil => exact fun t _ ht => ht
    | cons a l ih =>
      intro t hl ht
      have := hl a List.mem_cons_self
      exact ih _ (fun y hy => hl y (List.mem_cons_of_mem _ hy)) (by show max t (a + 1) ≤ x; omega)
  exact key l 0 h (Nat.zero_le _)
theorem topC_range : ∀ x : Nat, topC (List.range x) = x
  | 0 => rfl
  | x + 1 => by rw [List.range_succ, topC_snoc, topC_range x]; omega
/-- Lists of classes of the first x points, the finest among them. -/
structure PtL (x : Nat) (P : List VC) : Prop where
  all : ∀ p ∈ P, p.2.length = x ∧ ∀ y ∈ p.2, y < x
  size : P.length ≤ 9 ^ x
  disc : ∃ p ∈ P, p.2 = List.range x
end Go.Vc
namespace Go.Proofs.YtikfhibcdhdglaaGreat
open Go.Vc
theorem ok_spec_l21Partitions {f : Fr} (hf : f.ok) {v : Value} {w : World} (hs : SlN w v f.a) :
    Cal Tryz.prog f_spec_l21Partitions #[.agg #[.int .i64 (f.n : Int), v]] w fun r w' => Ext w w' ∧ ∃ Q, LLw w.heap.size w' r Q ∧ 0 < Q.length ∧ Q.length ≤ 9 ^ 8 ∧ ∀ p ∈ Q, p.2.length = f.n ∧ (∀ y ∈ p.2, y < f.n) ∧ corB f p.2 = true := by
  have h8 := hf.1
  have hpow : ∀ {x : Nat}, x ≤ 8 → 9 ^ x ≤ 43046721 := fun {x} hx => Nat.le_trans (Nat.pow_le_pow_right (by omega) hx) (by decide)
  apply c_spec_l21Partitions; unfold S_spec_l21Partitions
  refine iNew fun b w1 hb x1 hB => ?_
  have hB : Blk _ w1 b [.int .i64 (f.n : Int), v] := hB
  have hs1 := hs.ext x1
  refine iBs0 fun v12 w2 hw2 x2 ho12 => ?_
  refine iBs1 rfl ho12.cell fun b13 w3 hb13 x3 hB13 => ?_
  have hL0 : LLw w1.heap.size w3 (.slice (some ⟨b13, 0, none⟩) 1 1) [(v12, [])] := ⟨Ow.ofBlk hB13 (by omega) rfl (by omega), fun p hp => by
    rw [List.mem_singleton] at hp
    subst hp; exact ho12.ext x3⟩
  refine iLp (fun s : Value × Nat => [s.1, .int .i64 (s.2 : Int)]) (fun s w' => s.2 ≤ f.n ∧ Ext w1 w' ∧ ∃ P, LLw w1.heap.size w' s.1 P ∧ PtL s.2 P) (fun s => f.n - s.2) (.slice (some ⟨b13, 0, none⟩) 1 1, 0) rfl
    ⟨Nat.zero_le _, x2.trans x3, _, hL0, ⟨fun p hp => by
      rw [List.mem_singleton] at hp
      subst hp; exact ⟨rfl, by simp⟩, by simp, _, List.mem_singleton.2 rfl, rfl⟩⟩ ?_
  rintro ⟨vl, x⟩ w5 Kn ⟨hx, x5, P, hP, hPt⟩ hKn
  have hx : x ≤ f.n := hx
  have x5 : Ext w1 w5 := x5
  have hP : LLw w1.heap.size w5 vl P := hP
  have hPt : PtL x P := hPt
  have hs5 := x5.size
  intro _
  simp only [gx]
  refine iFa (iLdB (hB.ext x5) (v := .int .i64 (f.n : Int)) rfl ?_)
  refine iLt (iCndP (fun h => ?_) (fun h => ?_))
  · have hxn : x < f.n := by omega
    have h9 := hpow (x := x) (by omega)
    have hsz := hPt.size
    refine iBs0 fun vn w6 hw6 x6 hon => ?_
    have hN0 : LLw w5.heap.size w6 vn [] := ⟨hon, fun p hp => absurd hp (by simp)⟩
    refine iLp (fun s : Value × Nat => [s.1, .int .i64 (s.2 : Int)]) (fun s w' => s.2 ≤ P.length ∧ Ext w5 w' ∧ ∃ Q, LLw w5.heap.size w' s.1 Q ∧ (∀ p ∈ Q, p.2.length = x + 1 ∧ ∀ y ∈ p.2, y < x + 1) ∧ Q.length ≤ 9 * s.2 ∧ ((∃ p ∈ P.take s.2, p.2 = List.range x) → ∃ p ∈ Q, p.2 = List.range (x + 1))) (fun s => P.length - s.2) (vn, 0) rfl
      ⟨Nat.zero_le _, x6, [], hN0, by simp, by simp, by simp⟩ ?_
    rintro ⟨vn, i⟩ w8 Kn8 ⟨hi, x8, Q, hQ, hQa, hQs, hQd⟩ hKn8
    have hi : i ≤ P.length := hi
    have x8 : Ext w5 w8 := x8
    have hQ : LLw w5.heap.size w8 vn Q := hQ
    have hQs : Q.length ≤ 9 * i := hQs
    have hQd : (∃ p ∈ P.take i, p.2 = List.range x) → ∃ p ∈ Q, p.2 = List.range (x + 1) := hQd
    intro _
    simp only [gx]
    have hP8 := hP.ext x8
    refine iLenS hP8.row.sl ?_
    rw [List.length_map]
    refine iLt (iCndP (fun h2 => ?_) (fun h2 => ?_))
    · have hiP : i < P.length := by omega
      obtain ⟨hrl, hry⟩ := hPt.all _ (List.getElem_mem hiP)
      have hrow8 : SlN w8 P[i].1 P[i].2 := (hP8.each _ (List.getElem_mem hiP)).sl
      refine iLp (fun k : Nat => [.int .i64 ((topC (P[i].2.take k) : Nat) : Int), .int .i64 (k : Int)]) (fun k w' => k ≤ x ∧ Ext w8 w') (fun k => x - k) 0 rfl ⟨Nat.zero_le _, Ext.refl _⟩ ?_
      rintro k w10 Kn10 ⟨hk, x10⟩ hKn10
      have hP10 := hP8.ext x10
      have hrow10 := hrow8.ext x10
      intro _
      simp only [gx]
      refine hP10.at hiP (iLenN hrow10 ?_)
      refine iLt (iCndP (fun h3 => ?_) (fun h3 => ?_))
      · have hkl : k < P[i].2.length := by omega
        refine hP10.at hiP (iIaNN hrow10 hkl fun p hp => iLd hp ?_)
        have hyk := hry _ (List.getElem_mem hkl)
        have hg : P[i].2.getD k 0 = P[i].2[k] := by simp [hkl]
        rw [hg]
        refine iAdd (by omega) ?_
        rw [show ((P[i].2[k] : Nat) : Int) + 1 = ((P[i].2[k] + 1 : Nat) : Int) by omega]
        refine iMaxN (iAdd (by omega) ?_)
        rw [← topC_snoc, ← List.take_succ_eq_append_getElem hkl]
        exact hKn10 (k + 1) _ ⟨by omega, x10⟩ (by omega)
      · obtain rfl : k = x := by omega
        rw [List.take_of_length_le (by omega)]
        have htop := topC_le hry
        refine iLp (fun s : Value × Nat => [s.1, .int .i64 (s.2 : Int)]) (fun s w' => s.2 ≤ topC P[i].2 + 1 ∧ Ext w5 w' ∧ ∃ R, LLw w5.heap.size w' s.1 R ∧ (∀ p ∈ R, p.2.length = k + 1 ∧ ∀ y ∈ p.2, y < k + 1) ∧ R.length ≤ 9 * i + s.2 ∧ ((∃ p ∈ P.take i, p.2 = List.range k) → ∃ p ∈ R, p.2 = List.range (k + 1)) ∧ ∀ u, u < s.2 → ∃ p ∈ R, p.2 = P[i].2 ++ [u]) (fun s => topC P[i].2 + 1 - s.2) (vn, 0) rfl
          ⟨Nat.zero_le _, x8.trans x10, Q, hQ.ext x10, hQa, by simpa using hQs, hQd, by simp⟩ ?_
        rintro ⟨vn, u⟩ w12 Kn12 ⟨hu, x12, R, hR, hRa, hRs, hRd, hRu⟩ hKn12
        have hu : u ≤ topC P[i].2 + 1 := hu
        have x12 : Ext w5 w12 := x12
        have hR : LLw w5.heap.size w12 vn R := hR
        have hRs : R.length ≤ 9 * i + u := hRs
        have hRu : ∀ u', u' < u → ∃ p ∈ R, p.2 = P[i].2 ++ [u'] := hRu
        intro _
        simp only [gx]
        refine iLe (iCndP (fun h4 => ?_) (fun h4 => ?_))
        · have hut : u ≤ topC P[i].2 := by omega
          have hP12 := hP.ext x12
          refine hP12.at hiP ?_
          have hrow12 : SlN w12 P[i].1 P[i].2 := (hP12.each _ (List.getElem_mem hiP)).sl
          refine iCall ((ok_spec_l01Own (l := nats P[i].2) hrow12 (by rw [nats_length]; omega)).mono ?_)
          rintro v56 w13 ⟨x13, ho56⟩
          refine iApp1 u_Si64 i_Si64 rfl ho56 rfl (by rw [ints_length, nats_length]; omega) (by rw [ints_length, nats_length]; omega) x13.size fun v59 w15 ho59 hg15 => ?_
          have x15 : Ext w12 w15 := x13.grown hg15 fun b hb => (ho56.blk b hb).1
          have ho59 : Ow w12.heap.size t_i64 w15 v59 (ints (nats (P[i].2 ++ [u]))) := by simpa [ints, nats] using ho59
          have hs12 := x12.size
          have hs15 := x15.size
          refine iApLL (by omega) (hR.ext x15) (ho59.mono hs12) (by omega) fun vn' w17 hR17 hch17 _ => ?_
          refine iAdd (by omega) ?_
          refine hKn12 (vn', u + 1) _ ⟨by show u + 1 ≤ topC P[i].2 + 1; omega, (x12.trans x15).thenCh hch17 fun b hb => (hR.row.blk b hb).1, _, hR17, fun p hp => ?_, by rw [List.length_append, List.length_singleton]; show R.length + 1 ≤ 9 * i + (u + 1); omega, fun hd => ?_, fun u' hu' => ?_⟩ (by show topC P[i].2 + 1 - (u + 1) < topC P[i].2 + 1 - u; omega)
          · rcases List.mem_append.1 hp with hp | hp
            · exact hRa p hp
            · rw [List.mem_singleton] at hp
              subst hp
              refine ⟨by show (P[i].2 ++ [u]).length = k + 1; rw [List.length_append, List.length_singleton]; omega, fun y hy => ?_⟩
              rcases List.mem_append.1 hy with hy | hy
              · have := hry y hy; omega
              · rw [List.mem_singleton] at hy; omega
          · obtain ⟨p, hp, he⟩ := hRd hd
            exact ⟨p, List.mem_append_left _ hp, he⟩
          · have hu' : u' < u + 1 := hu'
            rcases Nat.lt_succ_iff_lt_or_eq.1 hu' with h | rfl
            · obtain ⟨p, hp, he⟩ := hRu u' h
              exact ⟨p, List.mem_append_left _ hp, he⟩
            · exact ⟨_, List.mem_append_right _ (List.mem_singleton.2 rfl), rfl⟩
        · refine iAdd (by omega) ?_
          refine hKn8 (vn, i + 1) _ ⟨hiP, x12, R, hR, hRa, by show R.length ≤ 9 * (i + 1); omega, fun hd => ?_⟩ (by show P.length - (i + 1) < P.length - i; omega)
          obtain ⟨p, hp, he⟩ := hd
          have hp : p ∈ P.take (i + 1) := hp
          rw [List.take_succ_eq_append_getElem hiP] at hp
          rcases List.mem_append.1 hp with hp | hp
          · exact hRd ⟨p, hp, he⟩
          · rw [List.mem_singleton] at hp
            subst hp
            have ht : topC P[i].2 = k := by rw [he, topC_range]
            obtain ⟨p, hp, he2⟩ := hRu k (by omega)
            exact ⟨p, hp, by rw [he2, he, List.range_succ]⟩
    · refine iAdd (by omega) ?_
      have hi2 : i = P.length := by omega
      subst hi2
      refine hKn (vn, x + 1) _ ⟨hxn, x5.trans x8, Q, hQ.mono hs5, ⟨hQa, ?_, hQd ?_⟩⟩ (by show f.n - (x + 1) < f.n - x; omega)
      · show Q.length ≤ 9 ^ (x + 1)
        rw [Nat.pow_succ]; omega
      · rw [List.take_length]; exact hPt.disc
  · obtain rfl : x = f.n := by omega
    have h9 := hpow (x := f.n) (by omega)
    have hsz := hPt.size
    refine iBs0 fun vo w18 hw18 x18 hoo => ?_
    have hO0 : LLw w1.heap.size w18 vo [] := ⟨hoo.mono hs5, fun p hp => absurd hp (by simp)⟩
    refine iLp (fun s : Value × Nat => [s.1, .int .i64 (s.2 : Int)]) (fun s w' => s.2 ≤ P.length ∧ Ext w5 w' ∧ (∀ b, s.1.ownBlock = some b → w5.heap.size ≤ b) ∧ ∃ Q, LLw w1.heap.size w' s.1 Q ∧ Q.length ≤ s.2 ∧ (∀ p ∈ Q, p.2.length = f.n ∧ (∀ y ∈ p.2, y < f.n) ∧ corB f p.2 = true) ∧ ((∃ p ∈ P.take s.2, p.2 = List.range f.n) → 0 < Q.length)) (fun s => P.length - s.2) (vo, 0) rfl
      ⟨Nat.zero_le _, x18, fun b hb => (hoo.blk b hb).1, [], hO0, Nat.le_refl _, by simp, by simp⟩ ?_
    rintro ⟨vo, i⟩ w20 Kn20 ⟨hi, x20, hob, Q, hQ, hQs, hQa, hQd⟩ hKn20
    have hi : i ≤ P.length := hi
    have x20 : Ext w5 w20 := x20
    have hob : ∀ b, vo.ownBlock = some b → w5.heap.size ≤ b := hob
    have hQ : LLw w1.heap.size w20 vo Q := hQ
    have hQs : Q.length ≤ i := hQs
    have hQd : (∃ p ∈ P.take i, p.2 = List.range f.n) → 0 < Q.length := hQd
    have hP20 := hP.ext x20
    intro _
    simp only [gx]
    refine iLenS hP20.row.sl ?_
    rw [List.length_map]
    refine iLt (iCndP (fun h2 => ?_) (fun h2 => ?_))
    · have hiP : i < P.length := by omega
      obtain ⟨hrl, hry⟩ := hPt.all _ (List.getElem_mem hiP)
      refine iLdA (hB.ext (x5.trans x20)) rfl ?_
      refine hP20.at hiP ?_
      have hrow : SlN w20 P[i].1 P[i].2 := (hP20.each _ (List.getElem_mem hiP)).sl
      have hsp := x5.trans x20
      refine iRetQ (fun w' x' => ok_spec_l21Correct hf ((hs1.ext hsp).ext x') (hrow.ext x') hrl (fun y hy => by have := hry y hy; omega)) ?_
      intro w21 x21
      cases hcb : corB f P[i].2
      · refine iCndF rfl (iAdd (by omega) ?_)
        refine hKn20 (vo, i + 1) _ ⟨hiP, x20.trans x21, hob, Q, hQ.ext x21, by show Q.length ≤ i + 1; omega, hQa, fun hd => ?_⟩ (by show P.length - (i + 1) < P.length - i; omega)
        obtain ⟨p, hp, he⟩ := hd
        have hp : p ∈ P.take (i + 1) := hp
        rw [List.take_succ_eq_append_getElem hiP] at hp
        rcases List.mem_append.1 hp with hp | hp
        · exact hQd ⟨p, hp, he⟩
        · rw [List.mem_singleton] at hp
          subst hp
          rw [he, corB_range] at hcb
          cases hcb
      · refine iCndT rfl ?_
        have hP21 := hP20.ext x21
        refine hP21.at hiP ?_
        have hs20 := hsp.size
        have hs21 := x21.size
        refine iApLL (by omega) (hQ.ext x21) (hP21.each _ (List.getElem_mem hiP)) (by omega) fun vo' w23 hQ23 hch23 hat => ?_
        refine iAdd (by omega) ?_
        have hs520 := x20.size
        refine hKn20 (vo', i + 1) _ ⟨hiP, (x20.trans x21).thenCh hch23 hob, fun b hb => ?_, _, hQ23, by rw [List.length_append, List.length_singleton]; show Q.length + 1 ≤ i + 1; omega, fun p hp => ?_, fun _ => by rw [List.length_append, List.length_singleton]; omega⟩ (by show P.length - (i + 1) < P.length - i; omega)
        · rcases hat with h | ⟨c, h, hc⟩
          · exact hob b (by rw [← h]; exact hb)
          · have hb : vo'.ownBlock = some b := hb
            rw [h] at hb
            injection hb with hb
            omega
        · rcases List.mem_append.1 hp with hp | hp
          · exact hQa p hp
          · rw [List.mem_singleton] at hp
            subst hp
            exact ⟨hrl, hry, hcb⟩
    · have hi2 : i = P.length := by omega
      subst hi2
      rw [List.take_length] at hQd
      exact ⟨x1.trans (x5.trans x20), Q, hQ.mono x1.size, hQd hPt.disc, by omega, hQa⟩
end Go.Proofs.YtikfhibcdhdglaaGreat

/- Contracts: draws of pairs of posets, and of a poset with a formula. Conditions: none. -/
namespace Go.Vc
theorem OwK.ne_blkD {k lo n : Nat} {e e' : TypeId} {w w' : World} {v : Value} {b : Nat} {xs cs : List Value} (h : OwK k lo e' w v n xs) (hB : Blk e w b cs) (hne : e' ≠ e) (hu : Upd b w w') : OwK k lo e' w' v n xs := by
  refine h.ch (hu.ch (S := fun c => c = b) rfl) fun c hc hb => ?_
  obtain ⟨cur, h1⟩ := h.ty hc
  unfold Blk at hB
  rw [hb, hB] at h1
  injection h1 with h1
  injection h1 with _ he _
  exact hne he.symm
end Go.Vc
namespace Go.Proofs.YtikfhibcdhdglaaGreat
open Go.Vc
theorem ok_spec_l21Pair {e : TypeId} (hne : t_i64 ≠ e) (hneS : t_Si64 ≠ e) {w0 : World} {vc : Value} {bs : List Nat} (hc : SlB w0 vc bs) {b : Nat} {w : World} (hS : Vc.Src e w0 vc b w) (size : Nat) (hw : size ≤ 8) :
    Drw Tryz.prog f_spec_l21Pair #[.pointer (some ⟨b, 0, none⟩), .int .i64 ((size + 1 : Nat) : Int)] e w0 vc b w fun r w' => ∃ (n : Int) (l : List Int) (v : Value) (nq : Int) (lq : List Int) (vq : Value), r = .tuple #[.agg #[.int .i64 n, v], .agg #[.int .i64 nq, vq]] ∧ Ow w.heap.size t_i64 w' v (ints l) ∧ Ow w.heap.size t_i64 w' vq (ints lq) := by
  apply c_spec_l21Pair; unfold S_spec_l21Pair
  have hlow := hS.ext.size
  have hbl := hS.lt
  refine iNew fun b4 w1 hb4 x1 hB4 => ?_
  have hB4 : Blk 26 w1 b4 [.int .i64 0, .slice none 0 0] := hB4
  refine iNew fun b5 w2 hb5 x2 hB5 => ?_
  have hB5 : Blk 26 w2 b5 [.int .i64 0, .slice none 0 0] := hB5
  have hS2 := hS.later (x1.trans x2)
  have X2 := x1.trans x2
  refine iCall ((ok_spec_l16Draw hne hc hS2 size hw).mono ?_)
  rintro _ w3 ⟨⟨n, l, v, rfl, hl, ho⟩, hS3, hch3⟩
  have hB4 := (hB4.ext x2).ch hch3 (by omega)
  have hB5 := hB5.ch hch3 (by omega)
  have hC3 : Ch (fun c => c = b) w w3 := ch_self X2.ch hch3
  have hs3 := hch3.size
  have hsX := X2.size
  refine iNew fun b6 w4 hb6 x4 hB6 => ?_
  have hB6 : Blk 26 w4 b6 [.int .i64 0, .slice none 0 0] := hB6
  refine iStAB hB6 rfl rfl ((ho.ext x4).pair n) fun w5 hu5 hB6' => ?_
  have hB6 : Blk 26 w5 b6 [.int .i64 n, v] := hB6'
  have X5 : Ext w3 w5 := x4.upd hu5 (by omega)
  have hS5 := hS3.later X5
  have ho5 := ho.ext X5
  have hB4 := hB4.ext X5
  have hB5 := hB5.ext X5
  have hC5 : Ch (fun c => c = b) w w5 := ch_self hC3 X5.ch
  have hs5 := X5.size
  -- the end: p and q are stored and read
  have fin : ∀ (wa : World) (nq : Int) (lq : List Int) (vq : Value), Vc.Src e w0 vc b wa → Ch (fun c => c = b) w wa → Blk 26 wa b4 [.int .i64 0, .slice none 0 0] → Blk 26 wa b5 [.int .i64 0, .slice none 0 0] → Ow w.heap.size t_i64 wa v (ints l) → Ow w.heap.size t_i64 wa vq (ints lq) →
      ∀ w19, Ext wa w19 → xStA Tryz.prog w19 2 (.pointer (some ⟨b4, 0, none⟩)) (.agg #[.int .i64 n, v]) fun w20 => ∀ w21, Ext w20 w21 → xStA Tryz.prog w21 2 (.pointer (some ⟨b5, 0, none⟩)) (.agg #[.int .i64 nq, vq]) fun w22 => ∀ w23, Ext w22 w23 → xLdA w23 2 (.pointer (some ⟨b4, 0, none⟩)) fun r24 => xLdA w23 2 (.pointer (some ⟨b5, 0, none⟩)) fun r25 =>
        (∃ (n : Int) (l : List Int) (v : Value) (nq : Int) (lq : List Int) (vq : Value), Value.tuple #[r24, r25] = .tuple #[.agg #[.int .i64 n, v], .agg #[.int .i64 nq, vq]] ∧ Ow w.heap.size t_i64 w23 v (ints l) ∧ Ow w.heap.size t_i64 w23 vq (ints lq)) ∧ Vc.Src e w0 vc b w23 ∧ Ch (fun c => c = b) w w23 := by
    intro wa nq lq vq hSa hCa hB4 hB5 hop hoq w19 x19
    have hop := hop.ext x19
    have hoq := hoq.ext x19
    have hB4 := hB4.ext x19
    have hB5 := hB5.ext x19
    refine iStAB hB4 rfl rfl (hop.pair n) fun w20 hu20 hB4' => fun w21 x21 => ?_
    have hop := (hop.upd hu20 (hop.ne_blk hB4 (by decide))).ext x21
    have hoq := (hoq.upd hu20 (hoq.ne_blk hB4 (by decide))).ext x21
    have hB5 := (hB5.upd hu20 (by omega)).ext x21
    have hB4 : Blk 26 w21 b4 [.int .i64 n, v] := hB4'.ext x21
    have hSa := ((hSa.later x19).upd hu20 (by omega) (by omega)).later x21
    refine iStAB hB5 rfl rfl (hoq.pair nq) fun w22 hu22 hB5' => fun w23 x23 => ?_
    have hop := (hop.upd hu22 (hop.ne_blk hB5 (by decide))).ext x23
    have hoq := (hoq.upd hu22 (hoq.ne_blk hB5 (by decide))).ext x23
    have hB4 := (hB4.upd hu22 (by omega)).ext x23
    have hB5 : Blk 26 w23 b5 [.int .i64 nq, vq] := hB5'.ext x23
    have hSa := (hSa.upd hu22 (by omega) (by omega)).later x23
    refine iLdA hB4 rfl (iLdA hB5 rfl ⟨⟨n, l, v, nq, lq, vq, rfl, hop, hoq⟩, hSa, ?_⟩)
    have h1 : Ch (fun c => c = b) w w21 := ((ch_self hCa x19.ch).trans (hu20.ch (S := fun c => c = b4) rfl) fun c h => .inr (by omega)).trans (x21.ch (S := fun c => c = b)) fun c h => .inl h
    exact (h1.trans (hu22.ch (S := fun c => c = b5) rfl) fun c h => .inr (by omega)).trans (x23.ch (S := fun c => c = b)) fun c h => .inl h
  refine iJnX (fun xs wq => ∃ t, xs = [.bool t] ∧ (t = true → posetOk n l = true ∧ n ≤ 6) ∧ Vc.Src e w0 vc b wq ∧ Ch (fun c => c = b) w5 wq) (fun J hJ => ?_) ?_
  · refine iLdA hB6 rfl ?_
    refine iRet (ok_spec_l16Is ho5.sl n) fun w8 x8 => ?_
    cases hp : posetOk n l
    · exact iCndF rfl (hJ _ _ ⟨false, rfl, fun h => (by cases h), hS5.later x8, x8.ch⟩)
    refine iCndT rfl ?_
    refine iFa (iLdB (hB6.ext x8) (i := 0) (v := .int .i64 n) rfl ?_)
    refine iLe (iCndP (fun h6 => ?_) (fun _ => hJ _ _ ⟨false, rfl, fun h => (by cases h), hS5.later x8, x8.ch⟩))
    refine iCall ((ok_spec_l01Next hc (hS5.later x8) 3).mono ?_)
    rintro _ w9 ⟨⟨x, rfl, _, _⟩, hS9, hch9⟩
    exact iLt (hJ _ _ ⟨_, rfl, fun _ => ⟨hp, h6⟩, hS9, ch_self x8.ch hch9⟩)
  rintro _ w7 ⟨t, rfl, ht, hS7, hch7⟩
  intro _
  simp only [gx]
  have hB6 := hB6.ch hch7 (by omega)
  have hB4 := hB4.ch hch7 (by omega)
  have hB5 := hB5.ch hch7 (by omega)
  have ho7 := ho5.srcD hS5 hne hch7
  have hC7 : Ch (fun c => c = b) w w7 := ch_self hC5 hch7
  have hs7 := hC7.size
  cases t
  · refine iCndF rfl ?_
    refine ⟨fun c => c = b, iLdA hB6 rfl ⟨fun w27 h => iLdA (hB6.ch h (by omega)) rfl rfl, fun w28 x28 => ?_⟩⟩
    refine iCall ((ok_spec_l16Draw hne hc (hS7.later x28) 3 (by omega)).mono ?_)
    rintro _ w29 ⟨⟨nq, lq, vq, rfl, _, hoq⟩, hS29, hch29⟩
    refine ⟨hch29, ?_⟩
    have hC29 : Ch (fun c => c = b) w w29 := ch_self (ch_self hC7 x28.ch) hch29
    have hs28 := x28.size
    exact fin w29 nq lq vq hS29 hC29 ((hB4.ext x28).ch hch29 (by omega)) ((hB5.ext x28).ch hch29 (by omega)) (((ho7.ext x28).srcD (hS7.later x28) hne hch29).mono (by omega)) (hoq.mono (by omega))
  · obtain ⟨hpo, h6⟩ := ht rfl
    obtain ⟨hP, hn0, hl0⟩ := posetOk_po hpo
    have hp8 := hP.ok.1
    have hQs : ∀ {w' : World}, SlI w' v l → SlN w' v (frOf n l).a := fun h => by
      unfold SlN
      rw [← hl0]; exact h
    refine iCndT rfl ?_
    refine iLdA hB6 rfl ?_
    have hU := ok_spec_l21Partitions hP.ok (hQs ho7.sl)
    rw [← hn0] at hU
    refine iCall (hU.mono ?_)
    rintro vp w10 ⟨x10, Q, hQ, hQ0, hQs9, hQa⟩
    have hS10 := hS7.later x10
    have hs10 := x10.size
    have hB6 := hB6.ext x10
    have hrowT : ∀ {w'}, Vc.Src e w0 vc b w' → Ow w7.heap.size t_Si64 w' vp (Q.map Prod.fst) → ∀ c, vp.ownBlock = some c → ¬ c = b := fun hS' h c hc' e => (hS'.neOw h hneS) (by rw [hc', e])
    refine ⟨fun c => c = b, iLdA hB6 rfl ⟨fun w12 h => iLdA (hB6.ch h (by omega)) rfl rfl, iLdA hB6 rfl ⟨fun w13 h => iLdA (hB6.ch h (by omega)) rfl rfl, iLenS hQ.row.sl fun w14 x14 => ?_⟩⟩⟩
    rw [List.length_map]
    have hQ14 := hQ.ext x14
    refine iCall ((ok_spec_l01Next hc (hS10.later x14) (Q.length : Nat)).mono ?_)
    rintro _ w15 ⟨⟨j, rfl, hj, _⟩, hS15, hch15⟩
    refine ⟨hch15, ?_⟩
    have hj : j < Q.length := by have := hj (by omega); omega
    have hS14 := hS10.later x14
    have hQ15 : LLw w7.heap.size w15 vp Q := ⟨hQ14.row.ch hch15 fun c hc' => hrowT hS14 hQ14.row c hc', fun p hp => (hQ14.each p hp).srcD hS14 hne hch15⟩
    obtain ⟨hql, hqy, _⟩ := hQa _ (List.getElem_mem hj)
    have e1 : (Q.map Prod.fst)[j]'(by rw [List.length_map]; exact hj) = Q[j].1 := by simp
    have hjm : j < (Q.map Prod.fst).length := by rw [List.length_map]; exact hj
    refine iIaOwE hQ15.row hjm fun g hg hwr => ?_
    have hrd : ∀ {w' : World}, Ow w7.heap.size t_Si64 w' vp (Q.map Prod.fst) → w'.cell? ⟨g, j, none⟩ = some Q[j].1 := fun h => by
      rw [(hwr _ _ rfl h).1, List.getElem?_eq_getElem hjm, e1]
    refine iLd (hrd hQ15.row) ⟨fun w16 h => iLd (hrd (hQ15.row.ch h fun c hc' => hrowT hS15 hQ15.row c hc')) rfl, fun w17 x17 => ?_⟩
    have ho17 := (((ho7.ext x10).ext x14).srcD hS14 hne hch15).ext x17
    have hU := ok_spec_l21Quotient hP.ok (hQs ho17.sl) ((hQ15.each _ (List.getElem_mem hj)).ext x17).sl hql (fun y hy => by have := hqy y hy; omega)
    rw [← hn0] at hU
    refine iCall (hU.mono ?_)
    rintro _ w18 ⟨x18, vq, rfl, hoq⟩
    refine ⟨x18.ch, ?_⟩
    have hC18 : Ch (fun c => c = b) w w18 := ch_self (ch_self (ch_self (ch_self (ch_self hC7 x10.ch) x14.ch) hch15) x17.ch) x18.ch
    have hs14 := x14.size
    have hs15 := hch15.size
    have hs17 := x17.size
    exact fin w18 _ _ vq ((hS15.later x17).later x18) hC18 (((((hB4.ext x10).ext x14).ch hch15 (by omega)).ext x17).ext x18) (((((hB5.ext x10).ext x14).ch hch15 (by omega)).ext x17).ext x18) ((ho17.ext x18).mono (by omega)) (hoq.mono (by omega))
theorem ok_spec_DrawFindImage {vc : Value} {w : World} {bs : List Nat} (hc : SlB w vc bs) : Cal Tryz.prog f_spec_DrawFindImage #[vc] w fun r w' => Ext w w' ∧ ∃ (n : Int) (l : List Int) (v : Value) (nq : Int) (lq : List Int) (vq : Value),
    r = .tuple #[.agg #[.int .i64 n, v], .agg #[.int .i64 nq, vq]] ∧ Ow w.heap.size t_i64 w' v (ints l) ∧ Ow w.heap.size t_i64 w' vq (ints lq) := by
  apply c_spec_DrawFindImage; unfold S_spec_DrawFindImage
  refine iNew fun b2 w1 hb2 x1 hB2 => ?_
  have hB2 : Blk 26 w1 b2 [.int .i64 0, .slice none 0 0] := hB2
  refine iNew fun b3 w2 hb3 x2 hB3 => ?_
  have hB3 : Blk 26 w2 b3 [.int .i64 0, .slice none 0 0] := hB3
  have X2 := x1.trans x2
  have hc2 := hc.ext X2
  refine iCall ((ok_spec_l01FromE hc2).mono ?_)
  rintro _ w3 ⟨b, rfl, hS3⟩
  have hb := hS3.lo
  have x3 := hS3.ext
  refine iCall ((ok_spec_l21Pair (by decide) (by decide) hc2 hS3 5 (by omega)).mono ?_)
  rintro _ w4 ⟨⟨n, l, v, nq, lq, vq, rfl, hop, hoq⟩, hS4, hch4⟩
  have X4 : Ext w w4 := (X2.trans x3).thenCh hch4 fun c h => by have := X2.size; omega
  have hs3 := x3.size
  have hsX := X2.size
  have hB2 := ((hB2.ext x2).ext x3).ch hch4 (by omega)
  have hB3 := (hB3.ext x3).ch hch4 (by omega)
  have hop := hop.mono (Nat.le_trans hsX hs3)
  have hoq := hoq.mono (Nat.le_trans hsX hs3)
  refine iEx (by rfl) (iEx (by rfl) ?_)
  refine iNew fun b4 w5 hb4 x5 hB4 => ?_
  refine iNew fun b5 w6 hb5 x6 hB5 => ?_
  have hs4 := X4.size
  have hb24 := hB2.lt
  have hb34 := hB3.lt
  refine iStAB (hB4.ext x6) rfl rfl (((hop.ext x5).ext x6).pair n) fun w7 hu7 hB4' => ?_
  have hB4 : Blk 26 w7 b4 [.int .i64 n, v] := hB4'
  refine iStAB (hB5.upd hu7 (by omega)) rfl rfl ((((hoq.ext x5).ext x6).upd hu7 (by intro h; have := (hoq.blk _ h).2; omega)).pair nq) fun w8 hu8 hB5' => ?_
  have hB5 : Blk 26 w8 b5 [.int .i64 nq, vq] := hB5'
  have hB4 := hB4.upd hu8 (by omega)
  have X48 : Ext w4 w8 := ((x5.trans x6).upd hu7 (by omega)).upd hu8 (by omega)
  refine ⟨fun c => c = b2, iLdA hB4 rfl ⟨fun w10 h => iLdA (hB4.ch h (by omega)) rfl rfl, iLdA hB5 rfl ⟨fun w11 h => iLdA (hB5.ch h (by omega)) rfl rfl, fun w12 x12 => ?_⟩⟩⟩
  have hB2 := (hB2.ext X48).ext x12
  have hB3 := (hB3.ext X48).ext x12
  have hop := (hop.ext X48).ext x12
  have hoq := (hoq.ext X48).ext x12
  refine iStAB hB2 rfl rfl (hop.pair n) fun w13 hu13 hB2' => ⟨hu13.ch rfl, fun w14 x14 => ?_⟩
  have hop := (hop.upd hu13 (hop.ne_blk hB2 (by decide))).ext x14
  have hoq := (hoq.upd hu13 (hoq.ne_blk hB2 (by decide))).ext x14
  have hB3 := (hB3.upd hu13 (by omega)).ext x14
  have hB2 : Blk 26 w14 b2 [.int .i64 n, v] := hB2'.ext x14
  refine iStAB hB3 rfl rfl (hoq.pair nq) fun w15 hu15 hB3' => fun w16 x16 => ?_
  refine iLdA ((hB2.upd hu15 (by omega)).ext x16) rfl (iLdA (hB3'.ext x16) rfl ⟨?_, n, l, v, nq, lq, vq, rfl, ?_, ?_⟩)
  · exact ((((((X4.trans X48).trans x12).upd hu13 (by omega)).trans x14).upd hu15 (by omega)).trans x16)
  · exact ((hop.upd hu15 (hop.ne_blk hB3 (by decide))).ext x16)
  · exact ((hoq.upd hu15 (hoq.ne_blk hB3 (by decide))).ext x16)
theorem ok_spec_l17Pair {e : TypeId} (hne : t_i64 ≠ e) (hneN : t_impl_Node ≠ e) {w0 : World} {vc : Value} {bs : List Nat} (hc : SlB w0 vc bs) {b : Nat} {w : World} (hS : Vc.Src e w0 vc b w) :
    Drw Tryz.prog f_spec_l17Pair #[.pointer (some ⟨b, 0, none⟩)] e w0 vc b w fun r w' => ∃ (n : Int) (l : List Int) (v u : Value) (N : List RN), r = .tuple #[.agg #[.int .i64 n, v], u] ∧ Ow w.heap.size t_i64 w' v (ints l) ∧ N.length ≤ 200 ∧ RawW w.heap.size t_impl_Node w' u N := by
  apply c_spec_l17Pair; unfold S_spec_l17Pair
  have hlow := hS.ext.size
  have hbl := hS.lt
  refine iNew fun b2 w1 hb2 x1 hB2 => ?_
  have hB2 : Blk 26 w1 b2 [.int .i64 0, .slice none 0 0] := hB2
  have hS1 := hS.later x1
  refine iCall ((ok_spec_l01Next hc hS1 8).mono ?_)
  rintro _ w2 ⟨⟨x, rfl, _, _⟩, hS2, hch2⟩
  have hB2 := hB2.ch hch2 (by omega)
  have hC2 : Ch (fun c => c = b) w w2 := ch_self x1.ch hch2
  have hs2 := hC2.size
  have arm : ∀ (s : Nat) (m k : Nat), s ≤ 8 → 1 ≤ m ∧ m ≤ 100 → 1 ≤ k ∧ k ≤ 6 → callV Tryz.prog (.func (.func f_spec_l16Draw) #[] #[]) [.pointer (some ⟨b, 0, none⟩), .int .i64 ((s + 1 : Nat) : Int)] w2 fun v12 w3 => xNew (Value.cells (.agg #[(.int .i64 0), (.slice none 0 0)])) 26 w3 fun v4 w4 => xStA Tryz.prog w4 2 v4 v12 fun w5 =>
      ∃ D6 : Nat → Prop, xLdA w5 2 v4 fun v13 => (∀ w7, Ch D6 w5 w7 → xLdA w7 2 v4 fun u13 => u13 = v13) ∧ ∀ w8, Ext w5 w8 → callV Tryz.prog (.func (.func f_spec_l17Plain) #[] #[]) [.pointer (some ⟨b, 0, none⟩), .int .i64 (m : Int), .int .i64 (k : Int)] w8 fun v15 w9 =>
      Ch D6 w8 w9 ∧ ∀ w10, Ext w9 w10 → xStA Tryz.prog w10 2 (.pointer (some ⟨b2, 0, none⟩)) v13 fun w11 => ∀ w12, Ext w11 w12 → xLdA w12 2 (.pointer (some ⟨b2, 0, none⟩)) fun r13 =>
      (fun (r : Value) (w' : World) => (∃ (n : Int) (l : List Int) (v u : Value) (N : List RN), r = .tuple #[.agg #[.int .i64 n, v], u] ∧ Ow w.heap.size t_i64 w' v (ints l) ∧ N.length ≤ 200 ∧ RawW w.heap.size t_impl_Node w' u N) ∧ Vc.Src e w0 vc b w' ∧ Ch (fun c => c = b) w w') (.tuple #[r13, v15]) w12 := by
    intro s m k hs hm hk
    refine iCall ((ok_spec_l16Draw hne hc hS2 s hs).mono ?_)
    rintro _ w3 ⟨⟨n, l, v, rfl, _, ho⟩, hS3, hch3⟩
    have hs3 := hch3.size
    refine iNew fun b4 w4 hb4 x4 hB4 => ?_
    have hB4 : Blk 26 w4 b4 [.int .i64 0, .slice none 0 0] := hB4
    have hbl3 := hS3.lt
    refine iStAB hB4 rfl rfl ((ho.ext x4).pair n) fun w5 hu5 hB4' => ?_
    have hB4 : Blk 26 w5 b4 [.int .i64 n, v] := hB4'
    have X5 : Ext w3 w5 := x4.upd hu5 (by omega)
    have hS5 := hS3.later X5
    refine ⟨fun c => c = b, iLdA hB4 rfl ⟨fun w7 h => iLdA (hB4.ch h (by omega)) rfl rfl, fun w8 x8 => ?_⟩⟩
    refine iCall ((ok_spec_l17Plain hneN hc hk hm (hS5.later x8)).mono ?_)
    rintro u w9 ⟨⟨N, hN, hu⟩, hS9, hch9⟩
    refine ⟨hch9, fun w10 x10 => ?_⟩
    have X8 := X5.trans x8
    have hs8 := X8.size
    have ho10 := ((ho.ext X8).srcD (hS3.later X8) hne hch9).ext x10
    have hB10 := ((((hB2.ch hch3 (by omega)).ext X8).ch hch9 (by omega)).ext x10)
    have hC10 : Ch (fun c => c = b) w w10 := ch_self (ch_self (ch_self (ch_self hC2 hch3) X8.ch) hch9) x10.ch
    have hu10 := hu.ext x10
    refine iStAB hB10 rfl rfl (ho10.pair n) fun w11 hu11 hB11 => fun w12 x12 => ?_
    refine iLdA (hB11.ext x12) rfl ⟨⟨n, l, v, u, N, rfl, ?_, hN, ?_⟩, ?_, ?_⟩
    · exact ((ho10.upd hu11 (ho10.ne_blk hB10 (by decide))).ext x12).mono (by omega)
    · exact OwK.mono ((OwK.ne_blkD hu10 hB10 (by decide) hu11).ext x12) (by omega)
    · exact ((hS9.later x10).upd hu11 (by omega) (by omega)).later x12
    · exact (hC10.trans (hu11.ch (S := fun c => c = b2) rfl) fun c h => .inr (by omega)).trans (x12.ch (S := fun c => c = b)) fun c h => .inl h
  refine iEq (iCndP (fun _ => ?_) (fun _ => ?_))
  · exact arm 7 10 1 (by omega) (by omega) (by omega)
  · refine iEq (iCndP (fun _ => ?_) (fun _ => ?_))
    · exact arm 5 12 4 (by omega) (by omega) (by omega)
    · exact arm 3 12 2 (by omega) (by omega) (by omega)
theorem ok_spec_DrawIsPosetValid {vc : Value} {w : World} {bs : List Nat} (hc : SlB w vc bs) : Cal Tryz.prog f_spec_DrawIsPosetValid #[vc] w fun r w' => Ext w w' ∧ ∃ (n : Int) (l : List Int) (v u : Value) (N : List RN), r = .tuple #[.agg #[.int .i64 n, v], u] ∧ Ow w.heap.size t_i64 w' v (ints l) ∧ N.length ≤ 200 ∧ RawW w.heap.size t_impl_Node w' u N := by
  apply c_spec_DrawIsPosetValid; unfold S_spec_DrawIsPosetValid
  refine iNew fun b2 w1 hb2 x1 hB2 => ?_
  have hB2 : Blk 26 w1 b2 [.int .i64 0, .slice none 0 0] := hB2
  have hc1 := hc.ext x1
  refine iCall ((ok_spec_l01FromE hc1).mono ?_)
  rintro _ w2 ⟨b, rfl, hS2⟩
  have hb := hS2.lo
  have x2 := hS2.ext
  refine iCall ((ok_spec_l17Pair (by decide) (by decide) hc1 hS2).mono ?_)
  rintro _ w3 ⟨⟨n, l, v, u, N, rfl, ho, hN, hu⟩, hS3, hch3⟩
  have hs1 := x1.size
  have hs2 := x2.size
  have X3 : Ext w w3 := (x1.trans x2).thenCh hch3 fun c h => by omega
  have hB2 := (hB2.ext x2).ch hch3 (by omega)
  refine iEx (by rfl) (iEx (by rfl) ?_)
  refine iNew fun b4 w4 hb4 x4 hB4 => ?_
  have hs3 := hch3.size
  refine iStAB hB4 rfl rfl ((ho.ext x4).pair n) fun w5 hu5 hB4' => ?_
  have X5 : Ext w3 w5 := x4.upd hu5 (by omega)
  refine iLdA hB4' rfl ?_
  have hB2 := hB2.ext X5
  have ho5 := ho.ext X5
  have hu5 := hu.ext X5
  refine iStAB hB2 rfl rfl (ho5.pair n) fun w6 hu6 hB2' => ?_
  refine iLdA hB2' rfl ⟨(X3.trans X5).upd hu6 (by omega), n, l, v, u, N, rfl, (ho5.upd hu6 (ho5.ne_blk hB2 (by decide))).mono (by omega), hN, OwK.mono (OwK.ne_blkD hu5 hB2 (by decide) hu6) (by omega)⟩
end Go.Proofs.YtikfhibcdhdglaaGreat

/- The compiler of Vc for bodies that range over a function, and for functions that call yield. Conditions: none. -/
namespace Go.Vc
/-- Outside a loop's round, or in it. -/
def fc : Option Nat → Fence
  | none => Fence.wide
  | some l => Fence.wide.inRound l
theorem fc_fn (r : Option Nat) (f : FuncId) : (fc r).fn f := by cases r <;> trivial
theorem fc_depth (r : Option Nat) : (fc r).depth = none := by cases r <;> rfl
theorem fc_round (r : Option Nat) : (fc r).round = r := by cases r <;> rfl
section
variable {P : Program}
theorem callsIn_fc (r : Option Nat) {n : Nat} {f : FuncId} {args : Array Value} {w : World} {R : Ending → World → Prop} (h : Calls P f args w R) : CallsIn (fc r) n P f args w R := by
  cases r with
  | none => exact callsIn_wide.2 h
  | some l => exact CallsIn.inRound l (callsIn_wide.2 h)
theorem rowsIn_fc (r : Option Nat) {n : Nat} {row : String} {args : Array Value} {w : World} {R : Value → World → Prop} (h : Rows P row args w R) : RowsIn (fc r) n P row args w R := by
  intro c cs _
  obtain ⟨v, w', hR, hs⟩ := h c cs
  have := stepsIn_wide.2 hs
  cases r <;> exact ⟨v, w', hR, this⟩
theorem roundIn_fc (r : Option Nat) {n m : Nat} {l : Nat} {f : FuncId} {tmps : Array Value} {assign body : Code} {w : World} {R : Ending → World → Prop} (h : RoundIn Fence.wide m P l f tmps assign body w R) : RoundIn (fc r) n P l f tmps assign body w R := by
  refine ⟨fc_fn r f, fun c cs _ => ?_⟩
  have := h.2 c cs (room_wide _)
  cases r <;> exact this
theorem opIn_of_wp (r : Option Nat) {n : Nat} {o : Oper} {a : Act} {w : World} {K : Act → World → Prop} {Q : Exit → Act → World → Prop} (hd : ∀ c, o.op ≠ .defer c) (h : o.wp P a w K Q) : o.wpIn (fc r) n P a w K Q := by
  unfold Oper.wp at h
  unfold Oper.wpIn
  refine ⟨fun f _ => fc_fn r f, ?_⟩
  have e : o.semAt (fc r).round a.eval = execOp a.eval o := by
    rw [fc_round]
    cases r with
    | none => exact Oper.semAt_none _ _
    | some l => exact Oper.semAt_some l _ _ hd
  rw [e]
  generalize (execOp a.eval o).run P w = x at *
  have hdep : (fc r).depth.isSome = true → 1 ≤ n := fun h => by rw [fc_depth] at h; cases h
  cases x with
  | ok nx w' =>
    cases nx <;> simp only [Oper.upon, Oper.uponIn] at h ⊢ <;>
      first
        | exact h
        | exact ⟨hdep, callsIn_fc r h⟩
        | exact ⟨hdep, rowsIn_fc r h⟩
        | exact h.elim
  | halt x w' => cases x <;> simp only [Oper.upon, Oper.uponIn] at h ⊢ <;> exact h

/-- A call of a function value that may be a loop's yield. -/
def callY (P : Program) (fv : Value) (args : List Value) (w : World) (K : Value → World → Prop) : Prop :=
  callV P fv args w K ∨ ∃ l, fv = .func (.yield l) #[] #[] ∧ YieldAt Fence.wide 0 P l args.toArray w fun e w' => ∃ v, e = .returned v ∧ K v w'
theorem callY.mono {fv : Value} {args : List Value} {w : World} {K K' : Value → World → Prop} (h : callY P fv args w K) (hk : ∀ v w', K v w' → K' v w') : callY P fv args w K' := by
  rcases h with h | ⟨l, hv, fn, tmps, assign, body, hy, hr⟩
  · exact .inl (h.mono hk)
  · exact .inr ⟨l, hv, fn, tmps, assign, body, hy, hr.mono fun e w' ⟨v, he, h⟩ => ⟨v, he, hk _ _ h⟩⟩
def isYC (o : Oper) : Option (Operand × Array Operand) :=
  match o.op with
  | .call c => (match c.callee with
    | .value (.tmp t) => some (.tmp t, c.args)
    | _ => none)
  | _ => none
def hardY (P : Program) (o : Oper) (env : Env) (w : World) (K : Value → World → Prop) : Prop :=
  match isYC o with
  | some (f, args) => callY P (ev env f) (evs env args) w K
  | none => hardD P o env w K
theorem hardD_nodefer {o : Oper} {env : Env} {w : World} {K : Value → World → Prop} (h : hardD P o env w K) : ∀ c, o.op ≠ .defer c := by
  intro c e
  unfold hardD at h
  rw [e] at h
  exact h
theorem soft_nodefer {o : Oper} (h : isSoftIn P o = true) : ∀ c, o.op ≠ .defer c := by
  intro c e
  unfold isSoftIn at h
  rw [e] at h
  simp only [isSoft] at h
  rw [e] at h
  cases h
theorem hardY_ok (r : Option Nat) {o : Oper} {env : Env} {a : Act} {w : World} {K : Value → World → Prop} {Q : Exit → Act → World → Prop} (he : a.eval = ev env) (h : hardY P o env w K) : o.wpIn (fc r) 0 P a w (Nx o a K) Q := by
  unfold hardY at h
  split at h
  · rename_i f args hy
    obtain ⟨dst, op, type, pos, after, guard⟩ := o
    unfold isYC at hy
    split at hy
    · rename_i c hop
      have hop : op = .call c := hop
      subst hop
      obtain ⟨callee, cargs, argTypes⟩ := c
      split at hy
      · rename_i t hc
        have hc : callee = .value (.tmp t) := hc
        subst hc
        injection hy with hy
        injection hy with h1 h2
        subst h1; subst h2
        have hex : execOp a.eval ⟨dst, .call ⟨.value (.tmp t), cargs, argTypes⟩, type, pos, after, guard⟩ = (do let d ← Deferred.ofValue (ev env (.tmp t)) (evs env cargs).toArray; invoke d.target d.args) := by
          rw [evs_eq he, ← he]
          simp only [execOp, resolve]
        rcases h with h | ⟨l, hv, fn, tmps, assign, body, hyr, hr⟩
        · exact opIn_of_wp r (by intro c e; cases e) (upon_call hex h)
        · unfold Oper.wpIn
          refine ⟨fun f _ => fc_fn r f, ?_⟩
          have e : (⟨dst, .call ⟨.value (.tmp t), cargs, argTypes⟩, type, pos, after, guard⟩ : Oper).semAt (fc r).round a.eval = execOp a.eval ⟨dst, .call ⟨.value (.tmp t), cargs, argTypes⟩, type, pos, after, guard⟩ := by
            rw [fc_round]
            cases r with
            | none => exact Oper.semAt_none _ _
            | some l => exact Oper.semAt_some l _ _ (by intro c e; cases e)
          rw [e, hex, hv]
          have e2 : (do let d ← Deferred.ofValue (.func (.yield l) #[] #[]) (evs env cargs).toArray; invoke d.target d.args : Sem Next).run P w = (Instr.yield l (evs env cargs).toArray).run P w := by
            simp [Deferred.ofValue, invoke]
          rw [e2, hyr, Oper.uponIn_round]
          refine ⟨(fun h => by rw [fc_depth] at h; cases h), (roundIn_fc r hr).mono ?_⟩
          rintro e w' ⟨v, rfl, hK⟩
          exact ⟨v, rfl, hK⟩
      · cases hy
    · cases hy
  · exact opIn_of_wp r (hardD_nodefer h) (hard_ok he h)

/-! ### An activation with marks among its deferred calls -/
def mkD (D : Nat) : Deferred := { target := .collected D, args := #[] }
structure AgY (n : Nat) (ds : List Nat) (env : Env) (a : Act) : Prop where
  defers : a.defers = ds.map mkD
  ag : Ag n env { a with defers := [] }
variable {n : Nat}
theorem AgY.eval {ds : List Nat} {env : Env} {a : Act} (h : AgY n ds env a) : a.eval = ev env := by
  have := h.ag.eval
  rw [← this]; rfl
theorem putY_ok {ds : List Nat} {env : Env} {a : Act} {W : List Nat} {dst : Option Nat} {v : Value} {kb : Option (Option Bool)} {K : Env → Prop} (h : putD n env dst v kb K) (ha : AgY n ds env a) (hk : ∀ b, kb = some b → v = kv b) (hW : ∀ d, dst = some d → d ∈ W) :
    ∃ env', K env' ∧ AgY n ds env' (a.put dst v) ∧ Same W env env' := by
  obtain ⟨env', h1, h2, h3⟩ := putD_ok h ha.ag hk hW
  exact ⟨env', h1, ⟨by cases dst <;> exact ha.defers, by cases dst <;> exact h2⟩, h3⟩

/-- The operations of a region in the text's order; calls of function values may be calls of yield. -/
def opsY (P : Program) (n : Nat) (ops : Array Oper) : List Oper → Env → World → Cont → Prop
  | [], env, w, K => K env w
  | o :: r, env, w, K => wantD ops o env
    (fun env => match isSoftIn P o with
      | true => softD P o env w fun v kb => putD n env o.dst v kb fun env' => opsY P n ops r env' w K
      | false => hardY P o env w fun v w' => putD n env o.dst v none fun env' => opsY P n ops r env' w' K)
    (fun env => putD n env o.dst undef (some none) fun env' => opsY P n ops r env' w K)
theorem opsY_ok (r : Option Nat) {ops : Array Oper} {W : List Nat} {ds : List Nat} {Q : Exit → Act → World → Prop} {K : Cont} : ∀ (l : List Oper) (env : Env) (a : Act) (w : World),
    opsY P n ops l env w K → AgY n ds env a → (∀ o ∈ l, ∀ d, o.dst = some d → d ∈ W) →
    (∀ env' a' w', K env' w' → AgY n ds env' a' → Same W env env' → Q .normal a' w') → wpListIn (fc r) 0 P ops Q l a w := by
  intro l
  induction l with
  | nil => intro env a w h ha _ hq; exact hq env a w h ha (Same.refl _ _)
  | cons o rs ih =>
    intro env a w h ha hW hq
    have hWo : ∀ d, o.dst = some d → d ∈ W := hW o (by simp)
    have hWr : ∀ o ∈ rs, ∀ d, o.dst = some d → d ∈ W := fun o' ho => hW o' (by simp [ho])
    obtain ⟨env1, ha1, hs1, hc⟩ := wantD_ok (a := { a with defers := [] }) h ha.ag W
    have ha1 : AgY n ds env1 a := ⟨ha.defers, ha1⟩
    have next : ∀ {env2 : Env} {a' w'}, opsY P n ops rs env2 w' K → AgY n ds env2 a' → Same W env1 env2 → wpListIn (fc r) 0 P ops Q rs a' w' := fun {env2 a' w'} h2 ha2 hs2 =>
      ih env2 a' w' h2 ha2 hWr fun env' a' w' hK hA hS => hq env' a' w' hK hA ((hs1.trans hs2).trans hS)
    unfold wpListIn
    rcases hc with ⟨hw, hA⟩ | ⟨hw, hB⟩
    · have hw : Region.wanted o (yielded ops a.tmps) = true := hw
      rw [if_pos hw]
      split at hA
      · rename_i hsoft
        obtain ⟨v, kb, hrun, hp, hkb⟩ := soft_ok ha1.eval ha1.ag.ok hsoft hA
        refine opIn_of_wp r (soft_nodefer hsoft) ?_
        unfold Oper.wp
        rw [hrun w (Ext.refl w), Oper.upon_value]
        obtain ⟨env2, h2, ha2, hs2⟩ := putY_ok hp ha1 hkb hWo
        exact next h2 ha2 hs2
      · have := hardY_ok (Q := Q) r ha1.eval hA
        refine Oper.wpIn_mono (fun a' w' ⟨v, he, hp⟩ => ?_) this
        obtain ⟨env2, h2, ha2, hs2⟩ := putY_ok hp ha1 (fun b e => by cases e) hWo
        rw [he]
        exact next h2 ha2 hs2
    · have hw : Region.wanted o (yielded ops a.tmps) = false := hw
      rw [if_neg (by rw [hw]; simp)]
      obtain ⟨env2, h2, ha2, hs2⟩ := putY_ok hB ha1 (fun b e => by cases e; rfl) hWo
      exact ⟨fun f _ => fc_fn r f, next h2 ha2 hs2⟩

/-! ### Code -/
abbrev ContY := List Nat → Env → World → Prop
/-- The block D of a loop's deferred calls is open and empty. -/
def Dfo (D : Nat) (w : World) : Prop := w.heap[D]? = some (.deferred (some []))
/-- A range over a function: the function is called with a yield of which no more is known than that it does a round. -/
def xRng (P : Program) (fv : Value) (np : Nat) (w : World) (B : Nat → (World → Prop) → (World → Prop) → (Ex → World → Prop) → List Value → World → (Value → World → Prop) → Prop) (K : Nat → World → Prop) (KE : Nat → Nat → World → Prop) (KR : Nat → World → Prop) : Prop :=
  ∃ gf lb, fv = .func (.func gf) #[] lb ∧ HasB P gf ∧ ∀ (l : Nat) (LR LB : World → Prop) (LX : Ex → World → Prop) (w1 : World),
    l = w.heap.size + 1 → w1.heap.size = w.heap.size + 2 → Ext w w1 → LR w1 →
    (∀ (S : Nat → Prop) (W W' : World), Ch S W W' → ¬ S l → ¬ S w.heap.size → (LR W → LR W') ∧ (LB W → LB W') ∧ ∀ e, LX e W → LX e W') →
    (∀ args W T, LR W → args.length = np → B l LR LB LX args W T → callY P (.func (.yield l) #[] #[]) args W T) →
    Cal P gf (#[.func (.yield l) #[] #[]] ++ lb) w1 fun _ W2 =>
      (LR W2 ∧ ∀ W3, Ch (fun c => c = l) W2 W3 → Dfo w.heap.size W3 → K w.heap.size W3) ∨
      (∃ i, LX (.ext i) W2 ∧ ∀ W3, Ch (fun c => c = l) W2 W3 → Dfo w.heap.size W3 → KE i w.heap.size W3) ∨ (LX .ret W2 ∧ ∀ W3, Ch (fun c => c = l) W2 W3 → Dfo w.heap.size W3 → KR w.heap.size W3)
def natE (i j : Nat) (A B : Prop) : Prop := match Nat.beq i j with
  | true => A
  | false => B
/-- How a round ends. -/
def rdT (ex : Ex) (l : Nat) (LR : World → Prop) (LX : Ex → World → Prop) (T : Value → World → Prop) (W : World) : Prop :=
  match ex with
  | .nrm => ∀ W', Ch (fun c => c = l) W W' → LR W' → T (.bool true) W'
  | e => ∀ W', Ch (fun c => c = l) W W' → LX e W' → T (.bool false) W'
def thenY (next : ContY) (Q : Ex → ContY) : Ex → ContY
  | .nrm, ds, env, w => next ds env w
  | e, ds, env, w => Q e ds env w
def blockY (id : Nat) (Q : Ex → ContY) : Ex → ContY
  | .ext i, ds, env, w => match Nat.beq i id with
    | true => Q .nrm ds env w
    | false => Q (.ext i) ds env w
  | e, ds, env, w => Q e ds env w
def denY (P : Program) (n : Nat) : Bool → Code → Hint → (Ex → ContY) → List Nat → Env → World → Prop
  | _, .skip, _, Q, ds, env, w => Q .nrm ds env w
  | _, .label _, _, Q, ds, env, w => Q .nrm ds env w
  | _, .ret, _, Q, ds, env, w => Q .ret ds env w
  | _, .exit id, _, Q, ds, env, w => Q (.ext id) ds env w
  | _, .region _ ops false, h, Q, ds, env, w => match hK h with
    | none => opsY P n ops ops.toList env w (Q .nrm ds)
    | some keep => joinD n keep (dsts ops.toList) env (Q .nrm ds) fun J => opsY P n ops ops.toList env w J
  | false, .region id ops true, h, Q, [], env, w => den P n (.region id ops true) h (fun e => Q e []) env w
  | r, .seq a b, h, Q, ds, env, w => denY P n r a (hL h) (thenY (denY P n r b (hR h) Q) Q) ds env w
  | r, .cond c x y, h, Q, ds, env, w => condD env c (fun env => denY P n r x (hL h) Q ds env w) (fun env => denY P n r y (hR h) Q ds env w)
  | r, .block id b, h, Q, ds, env, w => denY P n r b h (blockY id Q) ds env w
  | r, .loop b, h, Q, ds, env, w => match slotsOk n ((hK h).getD []) && slotsOk n (wr b) with
    | true => lp (fun Kn xs w => ∀ ys : Nat → Value, denY P n r b (hL h) (thenY (fun ds' env' w' => ds' = ds ∧ Kn (getK ((hK h).getD []) env') w') Q) ds (bindK ((hK h).getD []) 0 xs (bindY (wr b) ys env)) w) (getK ((hK h).getD []) env) w
    | false => False
  | false, .rangeFunc g ps assign body, h, Q, [], env, w => match ps.toList with
    | [p] => (match Nat.blt p n with
      | true => xRng P (ev env g) 1 w (fun l LR LB LX args W T => denY P n true assign .leaf (fun ex ds env2 W2 => match ex with
        | .nrm => ds = [] ∧ LR W2 ∧ ∀ Wb, Ch (fun c => c = l) W2 Wb → LB Wb → denY P n true body h (fun ex ds _ W' => ds = [] ∧ LB W' ∧ rdT ex l LR LX T W') [] env2 Wb
        | _ => False) [] (⟨p, gx args 0, none⟩ :: env) W) (fun d W => Q .nrm [d] env W) (fun i d W => Q (.ext i) [d] env W) (fun d W => Q .ret [d] env W)
      | false => False)
    | _ => False
  | _, _, _, _, _, _, _ => False
/-- What is reached by a piece of code. -/
def RchY (n : Nat) (W : List Nat) (env : Env) (Q : Ex → ContY) : Exit → Act → World → Prop :=
  fun e a w => ∃ ex ds env', exOf e = some ex ∧ Q ex ds env' w ∧ AgY n ds env' a ∧ Same W env env'
theorem RchY.weaken {W W' : List Nat} {env env1 : Env} {Q : Ex → ContY} (hS : Same W' env env1) (hW : ∀ s, s ∈ W → s ∈ W') {e : Exit} {a : Act} {w : World} (h : RchY n W env1 Q e a w) : RchY n W' env Q e a w := by
  obtain ⟨ex, ds, env', h1, h2, h3, h4⟩ := h
  exact ⟨ex, ds, env', h1, h2, h3, hS.trans (h4.mono hW)⟩
theorem putObj_ch {w : World} {l : Nat} {o : Obj} : Ch (fun c => c = l) w (w.putObj l o) :=
  ⟨rfl, rfl, rfl, by rw [World.putObj_size]; exact Nat.le_refl _, fun _ _ h => World.putObj_heap_other h⟩
def codeOf : Ex → Code
  | .nrm => .skip
  | .ext i => .exit i
  | .ret => .ret
theorem denY_ok (hm : P.follows .mixedOrders = true) : ∀ (c : Code) (r : Option Nat) (h : Hint) (Q : Ex → ContY) (ds : List Nat) (env : Env) (a : Act) (w : World), (r = none → noSel c = true) → denY P n r.isSome c h Q ds env w → AgY n ds env a →
    c.wpIn (fc r) 0 P (RchY n (wr c) env Q) a w := by
  intro c
  induction c with
  | skip => intro r h Q ds env a w _ hd ha; cases r <;> exact wpIn_skip ⟨.nrm, ds, env, rfl, hd, ha, Same.refl _ _⟩
  | label l => intro r h Q ds env a w _ hd ha; cases r <;> exact wpIn_label ⟨.nrm, ds, env, rfl, hd, ha, Same.refl _ _⟩
  | ret => intro r h Q ds env a w _ hd ha; cases r <;> exact wpIn_ret ⟨.ret, ds, env, rfl, hd, ha, Same.refl _ _⟩
  | exit id => intro r h Q ds env a w _ hd ha; cases r <;> exact wpIn_exit ⟨.ext id, ds, env, rfl, hd, ha, Same.refl _ _⟩
  | goto => intro r h Q ds env a w _ hd _; cases r <;> exact hd.elim
  | refuse => intro r h Q ds env a w _ hd _; cases r <;> exact hd.elim
  | scope => intro r h Q ds env a w _ hd _; cases r <;> exact hd.elim
  | region id ops draw =>
    intro r h Q ds env a w hns hd ha
    cases draw with
    | false =>
      have hd : (match hK h with
        | none => opsY P n ops ops.toList env w (Q .nrm ds)
        | some keep => joinD n keep (dsts ops.toList) env (Q .nrm ds) fun J => opsY P n ops ops.toList env w J) := by cases r <;> exact hd
      refine wpIn_region_list ?_
      split at hd
      · exact opsY_ok r (W := dsts ops.toList) ops.toList env a w hd ha (fun o ho d hd => List.mem_filterMap.2 ⟨o, ho, hd⟩) fun env' a' w' hK hA hS => ⟨.nrm, ds, env', rfl, hK, hA, hS⟩
      · obtain ⟨J, hJ, hK⟩ := joinD_ok hd ha.ag.ok
        refine opsY_ok r (W := dsts ops.toList) ops.toList env a w hJ ha (fun o ho d hd => List.mem_filterMap.2 ⟨o, ho, hd⟩) fun env' a' w' hj hA hS => ?_
        obtain ⟨env2, h1, h2, h3⟩ := hK env' { a' with defers := [] } w' hj hA.ag hS
        exact ⟨.nrm, ds, env2, rfl, h1, ⟨hA.defers, h2⟩, h3⟩
    | true =>
      cases r with
      | some l => exact hd.elim
      | none =>
        cases ds with
        | cons d ds => exact hd.elim
        | nil =>
          have hd : den P n (.region id ops true) h (fun e => Q e []) env w := hd
          have hA : Ag n env a := by
            have h1 := ha.ag
            have h2 : a.defers = [] := ha.defers
            exact ⟨h2, h1.size, h1.vals, h1.ok⟩
          refine wpIn_wide.2 (wp_mono (den_ok hm _ h _ env a w (hns rfl) hd hA) fun e a' w' hr => ?_)
          obtain ⟨ex, env', h1, h2, h3, h4⟩ := hr
          exact ⟨ex, [], env', h1, h2, ⟨h3.defers, ⟨rfl, h3.size, h3.vals, h3.ok⟩⟩, h4⟩
  | seq x y ihx ihy =>
    intro r h Q ds env a w hns hd ha
    have hns1 : r = none → noSel x = true := fun h => by have := hns h; simp only [noSel, Bool.and_eq_true] at this; exact this.1
    have hns2 : r = none → noSel y = true := fun h => by have := hns h; simp only [noSel, Bool.and_eq_true] at this; exact this.2
    have hd : denY P n r.isSome x (hL h) (thenY (denY P n r.isSome y (hR h) Q) Q) ds env w := by cases r <;> exact hd
    refine wpIn_seq (wpIn_mono (ihx r (hL h) _ ds env a w hns1 hd ha) fun e a' w' hr => ?_)
    obtain ⟨ex, ds', env', h1, h2, h3, h4⟩ := hr
    have h4' : Same (wr (.seq x y)) env env' := h4.mono fun s hs => by simp [wr, hs]
    cases e <;> simp only [exOf, Option.some.injEq] at h1 <;> first | (cases h1; done) | skip
    · subst h1
      exact wpIn_mono (ihy r (hR h) Q ds' env' a' w' hns2 h2 h3) fun e a w hr => hr.weaken h4' fun s hs => by simp [wr, hs]
    · subst h1; exact ⟨_, ds', env', rfl, h2, h3, h4'⟩
    · subst h1; exact ⟨_, ds', env', rfl, h2, h3, h4'⟩
  | cond c x y ihx ihy =>
    intro r h Q ds env a w hns hd ha
    have hns1 : r = none → noSel x = true := fun h => by have := hns h; simp only [noSel, Bool.and_eq_true] at this; exact this.1
    have hns2 : r = none → noSel y = true := fun h => by have := hns h; simp only [noSel, Bool.and_eq_true] at this; exact this.2
    have hd : condD env c (fun env => denY P n r.isSome x (hL h) Q ds env w) (fun env => denY P n r.isSome y (hR h) Q ds env w) := by cases r <;> exact hd
    obtain ⟨b, env', hb, hA, hS, hr⟩ := condD_ok hd ha.ag (wr x ++ wr y)
    have hA : AgY n ds env' a := ⟨ha.defers, hA⟩
    have hb : a.eval c = .bool b := hb
    cases b
    · exact wpIn_cond hb (wpIn_mono (ihy r (hR h) Q ds env' a w hns2 (by simpa using hr) hA) fun e a w hr => hr.weaken hS fun s hs => by simp [hs])
    · exact wpIn_cond hb (wpIn_mono (ihx r (hL h) Q ds env' a w hns1 (by simpa using hr) hA) fun e a w hr => hr.weaken hS fun s hs => by simp [hs])
  | block id b ih =>
    intro r h Q ds env a w hns hd ha
    have hd : denY P n r.isSome b h (blockY id Q) ds env w := by cases r <;> exact hd
    refine wpIn_block (wpIn_mono (ih r h _ ds env a w hns hd ha) fun e a' w' hr => ?_)
    obtain ⟨ex, ds', env', h1, h2, h3, h4⟩ := hr
    cases e <;> simp only [exOf, Option.some.injEq] at h1 <;> first | (cases h1; done) | skip
    · subst h1; exact ⟨_, ds', env', rfl, h2, h3, h4⟩
    · rename_i i
      subst h1
      simp only [Exit.inBlock, blockY] at h2 ⊢
      split at h2
      · rename_i e
        rw [if_pos (Nat.eq_of_beq_eq_true e)]
        exact ⟨.nrm, ds', env', rfl, h2, h3, h4⟩
      · rename_i e
        rw [if_neg (fun h => by subst h; simp at e)]
        exact ⟨_, ds', env', rfl, h2, h3, h4⟩
    · subst h1; exact ⟨_, ds', env', rfl, h2, h3, h4⟩
  | loop b ih =>
    intro r h Q ds env a w hns hd ha
    have hd : (match slotsOk n ((hK h).getD []) && slotsOk n (wr b) with
      | true => lp (fun Kn xs w => ∀ ys : Nat → Value, denY P n r.isSome b (hL h) (thenY (fun ds' env' w' => ds' = ds ∧ Kn (getK ((hK h).getD []) env') w') Q) ds (bindK ((hK h).getD []) 0 xs (bindY (wr b) ys env)) w) (getK ((hK h).getD []) env) w
      | false => False) := by cases r <;> exact hd
    split at hd
    · obtain ⟨I, ⟨m0, h0⟩, hround⟩ := hd
      generalize hkk : (hK h).getD [] = keep at *
      refine wpIn_loop_ghost (fun m a' w' => ∃ env', AgY n ds env' a' ∧ Same (wr b) env env' ∧ I m (getK keep env') w') m0 ⟨env, ha, Same.refl _ _, h0⟩ ?_
      rintro m a' w' ⟨env', ha', hS', hI⟩
      have hb := hround m (getK keep env') w' hI (look env')
      refine wpIn_mono (ih r (hL h) _ ds _ a' w' hns hb ⟨ha'.defers, ha'.ag.rebind hS' ha.ag.ok⟩) fun e a2 w2 hr => ?_
      obtain ⟨ex, ds2, env2, h1, h2, h3, h4⟩ := hr
      have hS2 : Same (wr b) env env2 := (same_rebind hS').trans h4
      cases e <;> simp only [exOf, Option.some.injEq] at h1 <;> first | (cases h1; done) | skip
      · subst h1
        obtain ⟨rfl, m', hlt, hI2⟩ := h2
        exact ⟨m', hlt, env2, h3, hS2, hI2⟩
      · subst h1; exact ⟨_, ds2, env2, rfl, h2, h3, hS2⟩
      · subst h1; exact ⟨_, ds2, env2, rfl, h2, h3, hS2⟩
    · exact hd.elim
  | rangeFunc g ps assign body iha ihb =>
    intro r h Q ds env a w _ hd ha
    cases r with
    | some l => exact hd.elim
    | none =>
    cases ds with
    | cons d ds => exact hd.elim
    | nil =>
    obtain ⟨p, rfl, hp, hd⟩ : ∃ p, ps = #[p] ∧ p < n ∧ xRng P (ev env g) 1 w (fun l LR LB LX args W T => denY P n true assign .leaf (fun ex ds env2 W2 => match ex with
        | .nrm => ds = [] ∧ LR W2 ∧ ∀ Wb, Ch (fun c => c = l) W2 Wb → LB Wb → denY P n true body h (fun ex ds _ W' => ds = [] ∧ LB W' ∧ rdT ex l LR LX T W') [] env2 Wb
        | _ => False) [] (⟨p, gx args 0, none⟩ :: env) W) (fun d W => Q .nrm [d] env W) (fun i d W => Q (.ext i) [d] env W) (fun d W => Q .ret [d] env W) := by
      obtain ⟨ps⟩ := ps
      cases ps with
      | nil => exact hd.elim
      | cons p rs =>
        cases rs with
        | cons _ _ => exact hd.elim
        | nil =>
          have hd : (match Nat.blt p n with
            | true => xRng P (ev env g) 1 w (fun l LR LB LX args W T => denY P n true assign .leaf (fun ex ds env2 W2 => match ex with
              | .nrm => ds = [] ∧ LR W2 ∧ ∀ Wb, Ch (fun c => c = l) W2 Wb → LB Wb → denY P n true body h (fun ex ds _ W' => ds = [] ∧ LB W' ∧ rdT ex l LR LX T W') [] env2 Wb
              | _ => False) [] (⟨p, gx args 0, none⟩ :: env) W) (fun d W => Q .nrm [d] env W) (fun i d W => Q (.ext i) [d] env W) (fun d W => Q .ret [d] env W)
            | false => False) := hd
          cases hb : Nat.blt p n with
          | false => rw [hb] at hd; exact hd.elim
          | true => rw [hb] at hd; exact ⟨p, rfl, Nat.le_of_ble_eq_true hb, hd⟩
    obtain ⟨gf, lb, hg, hb, hd⟩ := hd
    refine wpIn_rangeFunc ?_
    intro fn hfn
    obtain ⟨rec, hrec⟩ : ∃ rec : LoopState → Option Code → Loop, rec = fun st pe => { state := st, pending := pe, fn, tmps := a.tmps, params := #[p], assign, body, defers := w.heap.size } := ⟨_, rfl⟩
    obtain ⟨W1, hW1⟩ : ∃ W1, (w.alloc (.deferred (some []))).alloc (.loop (rec .ready none)) = W1 := ⟨_, rfl⟩
    have hL1 : W1.heap[w.heap.size + 1]? = some (.loop (rec .ready none)) := by
      rw [← hW1]; have := World.alloc_heap_new (w.alloc (.deferred (some []))) (.loop (rec .ready none)); rwa [World.size_alloc] at this
    have hK1 : W1.heap[w.heap.size]? = some (.deferred (some [])) := by
      rw [← hW1]; exact (Go.RowKit.Below.heap_alloc _ _ _ (by simp)).trans (World.alloc_heap_new w _)
    have hcal := hd (w.heap.size + 1) (fun W => W.heap[w.heap.size + 1]? = some (.loop (rec .ready none)) ∧ Dfo w.heap.size W) (fun W => W.heap[w.heap.size + 1]? = some (.loop (rec .busy none)) ∧ Dfo w.heap.size W)
      (fun e W => e ≠ .nrm ∧ W.heap[w.heap.size + 1]? = some (.loop (rec .done (some (codeOf e)))) ∧ Dfo w.heap.size W) W1 rfl (by rw [← hW1]; simp) (by rw [← hW1]; exact (Ext.alloc w _).trans (Ext.alloc _ _)) ⟨hL1, hK1⟩ ?_ ?_
    · refine ⟨w.heap.size + 1, [{ target := .collected w.heap.size, args := #[] }], W1, { target := .fn (.func gf) lb, args := #[.func (.yield (w.heap.size + 1)) #[] #[]] }, W1, gf,
        #[.func (.yield (w.heap.size + 1)) #[] #[]] ++ lb, W1, ?_, ?_, ?_, ?_, (fun h => by rw [fc_depth] at h; cases h), ?_⟩
      · rw [← hW1, hrec]; exact run_enterLoop_outer _ _ _ _ _
      · have hg' : a.eval g = .func (.func gf) #[] lb := by rw [ha.eval]; exact hg
        simp only [resolve, hg']
        simp [go_sem]
      · intro f' _; exact fc_fn none f'
      · simp [invoke, go_sem, callFunc_run hb]
      · refine callsIn_fc none (hcal.2.mono ?_)
        rintro _ W2 ⟨v, rfl, h2⟩
        have hA : AgY n [w.heap.size] env { a with defers := [{ target := .collected w.heap.size, args := #[] }] ++ a.defers } := ⟨by rw [ha.defers]; rfl, ha.ag⟩
        rcases h2 with ⟨⟨hl, hk⟩, hQ⟩ | ⟨i, ⟨hne, hl, hk⟩, hQ⟩ | ⟨⟨hne, hl, hk⟩, hQ⟩
        · have hlt := (Array.getElem?_eq_some_iff.1 hl).1
          refine ⟨none, _, by have := run_endLoop (P := P) hl (by rw [hrec]; simp); rw [hrec] at this; exact this, ⟨.nrm, [w.heap.size], env, rfl, hQ _ putObj_ch ((World.putObj_heap_other (by omega)).trans hk), hA, Same.refl _ _⟩⟩
        · have hend := run_endLoop (P := P) hl (by rw [hrec]; simp)
          have hq := hQ _ putObj_ch ((World.putObj_heap_other (o := .loop { rec .done (some (codeOf (.ext i))) with state := .exhausted }) (by omega)).trans hk)
          rw [hrec] at hend hq
          exact ⟨some (.exit i), _, hend, wpIn_exit ⟨.ext i, [w.heap.size], env, rfl, hq, hA, Same.refl _ _⟩⟩
        · have hend := run_endLoop (P := P) hl (by rw [hrec]; simp)
          have hq := hQ _ putObj_ch ((World.putObj_heap_other (o := .loop { rec .done (some (codeOf .ret)) with state := .exhausted }) (by omega)).trans hk)
          rw [hrec] at hend hq
          exact ⟨some .ret, _, hend, wpIn_ret ⟨.ret, [w.heap.size], env, rfl, hq, hA, Same.refl _ _⟩⟩
    · intro S W W' hch h1 h0
      have hk : ∀ k o, ¬ S k → W.heap[k]? = some o → W'.heap[k]? = some o := fun k o hn ho => (hch.block k (Array.getElem?_eq_some_iff.1 ho).1 hn).trans ho
      exact ⟨fun h => ⟨hk _ _ h1 h.1, hk _ _ h0 h.2⟩, fun h => ⟨hk _ _ h1 h.1, hk _ _ h0 h.2⟩, fun e h => ⟨h.1, hk _ _ h1 h.2.1, hk _ _ h0 h.2.2⟩⟩
    · rintro args W T ⟨hl, hk⟩ hlen hB
      obtain ⟨v, rfl⟩ : ∃ v, args = [v] := by
        match args, hlen with
        | [v], _ => exact ⟨v, rfl⟩
      have hy := run_yield (P := P) (args := #[v]) hl (by rw [hrec]; rfl)
      rw [hrec] at hy
      refine .inr ⟨w.heap.size + 1, rfl, fn, _, assign, body, hy, roundIn_of_wpIn (F := Fence.wide) trivial ?_⟩
      have hA : AgY n [] (⟨p, gx [v] 0, none⟩ :: env) { tmps := (#[p].zip #[v]).foldl (fun t (p, v) => t.setIfInBounds p v) a.tmps, defers := [] } := by
        have := ha.ag.put hp (v := v) (k := none) (fun b e => by cases e)
        refine ⟨rfl, (show Ag n (⟨p, v, none⟩ :: env) _ from ?_)⟩
        simpa [Act.put] using this
      refine wpIn_mono (iha (some (w.heap.size + 1)) .leaf _ [] _ _ W (fun h => by cases h) hB hA) ?_
      rintro e a1 W2 ⟨ex, ds1, env1, he, hq, hA1, _⟩
      cases ex with
      | ext i => exact hq.elim
      | ret => exact hq.elim
      | nrm =>
        obtain ⟨rfl, ⟨hl2, hk2⟩, hbody⟩ := hq
        cases e <;> simp only [exOf, Option.some.injEq] at he <;> first | (cases he; done) | skip
        have hlt2 := (Array.getElem?_eq_some_iff.1 hl2).1
        have hbr := run_beginRound (P := P) hl2 (by rw [hrec])
        have hlb : (W2.putObj (w.heap.size + 1) (.loop (rec .busy none))).heap[w.heap.size + 1]? = some (.loop (rec .busy none)) := World.putObj_heap_same hlt2
        have hbr : (Instr.beginRound (w.heap.size + 1)).run P W2 = .ok () (W2.putObj (w.heap.size + 1) (.loop (rec .busy none))) := by
          rw [hbr, hrec]
        refine ⟨_, hbr, wpIn_mono (ihb (some (w.heap.size + 1)) h _ [] env1 a1 _ (fun h => by cases h) (hbody _ putObj_ch ⟨hlb, (World.putObj_heap_other (by omega)).trans hk2⟩) hA1) ?_⟩
        rintro e a3 W3 ⟨ex, ds3, env3, he, ⟨rfl, ⟨hl3, hk3⟩, hT⟩, _, _⟩
        have hlt3 := (Array.getElem?_eq_some_iff.1 hl3).1
        have fin : ∀ (jump : Option Code), (Instr.endRound (w.heap.size + 1) jump).run P W3 = .ok (.bool jump.isNone) (W3.putObj (w.heap.size + 1) (.loop (rec (if jump.isNone then .ready else .done) jump))) ∧
            (W3.putObj (w.heap.size + 1) (.loop (rec (if jump.isNone then .ready else .done) jump))).heap[w.heap.size + 1]? = some (.loop (rec (if jump.isNone then .ready else .done) jump)) ∧ Dfo w.heap.size (W3.putObj (w.heap.size + 1) (.loop (rec (if jump.isNone then .ready else .done) jump))) := fun jump => by
          have := run_endRound (P := P) jump hl3
          refine ⟨?_, World.putObj_heap_same hlt3, (World.putObj_heap_other (by omega)).trans hk3⟩
          rw [this, hrec]
        cases e <;> simp only [exOf, Option.some.injEq] at he <;> first | (cases he; done) | skip
        · subst he
          obtain ⟨f1, f2, f3⟩ := fin none
          exact ⟨_, _, f1, _, rfl, hT _ putObj_ch ⟨f2, f3⟩⟩
        · rename_i i
          subst he
          obtain ⟨f1, f2, f3⟩ := fin (some (.exit i))
          exact ⟨_, _, f1, _, rfl, hT _ putObj_ch ⟨by simp, f2, f3⟩⟩
        · subst he
          obtain ⟨f1, f2, f3⟩ := fin (some .ret)
          exact ⟨_, _, f1, _, rfl, hT _ putObj_ch ⟨by simp, f2, f3⟩⟩
/-- The end of a function: the marks among the deferred calls are taken. -/
def finY (P : Program) (fn : Func) (R : Value → World → Prop) : ContY
  | [], env, w => resD P env w fn.results.toList fun vs => R (retV vs) w
  | [d], env, w => Dfo d w ∧ ∀ w', Ch (fun c => c = d) w w' → resD P env w' fn.results.toList fun vs => R (retV vs) w'
  | _, _, _ => False
def denFY (P : Program) (fn : Func) (c : Code) (h : Hint) (args : List Value) (w : World) (R : Value → World → Prop) : Prop :=
  denY P fn.ntmps false c h (fun e ds env w => match e with
    | .nrm => finY P fn R ds env w
    | .ret => finY P fn R ds env w
    | .ext _ => False) [] (initEnv 0 args) w
theorem finY_ok {fn : Func} {R : Value → World → Prop} {ds : List Nat} {env : Env} {a : Act} {w : World} (h : finY P fn R ds env w) (ha : AgY fn.ntmps ds env a) : LeavesInM (fc none) 0 P fn a.tmps (fun e w' => ∃ v, e = .returned v ∧ R v w') a.defers .returning w := by
  match ds, h with
  | [], h =>
    rw [ha.defers]
    obtain ⟨v, hv, hR⟩ := results_ok (R := fun v => R v w) ha.ag.vals h
    exact ⟨v, hv, v, rfl, hR⟩
  | [d], h =>
    rw [ha.defers]
    obtain ⟨hd, h⟩ := h
    refine ⟨by simp, .inl ⟨_, _, rfl, run_takeDeferred hd, ?_⟩⟩
    obtain ⟨v, hv, hR⟩ := results_ok (R := fun v => R v _) ha.ag.vals (h _ putObj_ch)
    exact ⟨v, hv, v, rfl, hR⟩
/-- **A call, from the proposition that 'denY' makes.** -/
theorem cal_of_denY {f : FuncId} {fn : Func} {c : Code} {h : Hint} {args : List Value} {w : World} {R : Value → World → Prop} (hm : P.follows .mixedOrders = true)
    (hf : P.funcs[f]? = some fn) (hn : (fn.name == "runtime.NumGoroutine") = false) (hb : fn.body = some c) (hs : noSel c = true) (ha : Nat.ble args.length fn.ntmps = true)
    (hd : denFY P fn c h args w R) : Cal P f args.toArray w R := by
  refine ⟨⟨fn, hf, hn, by rw [hb]; rfl⟩, callsIn_wide.1 (callsIn_of_wp_marks (n := 0) hf hb trivial ?_ rfl)⟩
  have hle : args.length ≤ fn.ntmps := Nat.le_of_ble_eq_true ha
  have hA : Ag fn.ntmps (initEnv 0 args) { tmps := args.toArray ++ Array.replicate (fn.ntmps - args.toArray.size) undef, defers := [] } := by
    refine ⟨rfl, by simp; omega, fun s => ?_, ok_init _ _⟩
    rw [look_init]
    simp only [Nat.zero_le, if_true, Nat.sub_zero]
    by_cases h1 : s < args.length
    · simp [Array.getElem?_append, h1]
    · simp only [Array.getD_eq_getD_getElem?, Array.getElem?_append, List.size_toArray, h1, if_false]
      rw [show args.getD s undef = undef by simp [List.getD, List.getElem?_eq_none (show args.length ≤ s by omega)]]
      by_cases h2 : s - args.length < fn.ntmps - args.length
      · simp [h2]
      · simp [h2]
  refine wpIn_mono (denY_ok hm c none h _ [] _ _ w (fun _ => hs) hd ⟨rfl, hA⟩) fun e a' w' hr => ?_
  obtain ⟨ex, ds, env', h1, h2, h3, h4⟩ := hr
  cases e <;> simp only [exOf, Option.some.injEq] at h1 <;> first | (cases h1; done) | skip
  · subst h1; exact finY_ok h2 h3
  · subst h1; exact h2.elim
  · subst h1; exact finY_ok h2 h3
end
end Go.Vc

/- The plain propositions of the functions that range over a function or call a yield, by program (geny.py). Conditions: none. -/
set_option maxRecDepth 100000
namespace Go.Proofs.YtikfhibcdhdglaaGreat
open Go.Vc
/-- (loop.example/g01089/impl.Poset).unforced -/
abbrev f_impl_Poset_unforced : FuncId := 143
def SY_impl_Poset_unforced (v0 v1 : Value) (w : World) (R : Value → World → Prop) : Prop :=
  xNew (Value.cells v0) 26 w fun v2 w1 =>
 xNew (Value.cells v1) 41 w1 fun v3 w2 =>
 xNew (Value.cells (.slice none 0 0)) 24 w2 fun v4 w3 =>
 xNew (Value.cells (.int .i64 0)) 2 w3 fun v5 w4 =>
 xNew (Value.cells (.bool false)) 4 w4 fun v6 w5 =>
 xLdA w5 2 v2 fun v9 =>
 xLd w5 v3 fun v10 =>
 ∀ w6, Ext w5 w6 → xBs 41 (Value.cells (.slice none 0 0)) 1 1 [(0, v10)] w6 fun v11 w7 =>
 Ext w6 w7 ∧ ∀ w8, Ext w7 w8 → callV Tryz.prog (.func (.func 125) #[] #[]) [v11] w8 fun v12 w9 =>
 Ext w8 w9 ∧ ∀ w10, Ext w9 w10 → callV Tryz.prog (.func (.func 124) #[] #[]) [v9, v12] w10 fun v13 w11 =>
 ∀ w12, Ext w11 w12 → xRng Tryz.prog v13 1 w12 (fun l13 LR13 LB13 LX13 as13 W13 T13 =>
 ([] : List Nat) = [] ∧ LR13 W13 ∧ ∀ Wb13, Ch (fun c =>
 c = l13) W13 Wb13 → LB13 Wb13 → xLdA Wb13 2 v2 fun v15 =>
 xLd Wb13 v3 fun v17 =>
 callV Tryz.prog (.func (.func 78) #[] #[]) [v15, (gx as13 0), v17] Wb13 fun v18 w14 =>
 xLdA w14 2 v2 fun v20 =>
 callV Tryz.prog (.func (.func 126) #[] #[]) [v20] w14 fun v21 w15 =>
 xNe .i64 v18 v21 fun v22 =>
 cnd v22 (callV Tryz.prog (.func (.func 135) #[] #[]) [(gx as13 0)] w15 fun v24 w16 =>
 xSt w16 v4 v24 fun w17 =>
 xSt w17 v5 v18 fun w18 =>
 xSt w18 v6 (.bool true) fun w19 =>
 ([] : List Nat) = [] ∧ LB13 w19 ∧ rdT .ret l13 LR13 LX13 T13 w19) (([] : List Nat) = [] ∧ LB13 w15 ∧ rdT .nrm l13 LR13 LX13 T13 w15)) (fun d13 u13 =>
 xSt u13 v4 (.slice none 0 0) fun w20 =>
 xSt w20 v5 (.int .i64 0) fun w21 =>
 xSt w21 v6 (.bool false) fun w22 =>
 Dfo d13 w22 ∧ ∀ w23, Ch (fun c =>
 c = d13) w22 w23 → xLd w23 v4 fun r24 =>
 xLd w23 v5 fun r25 =>
 xLd w23 v6 fun r26 =>
 R (.tuple #[r24, r25, r26]) w23) (fun i13 d13 u13 =>
 natE i13 0 (xSt u13 v4 (.slice none 0 0) fun w31 =>
 xSt w31 v5 (.int .i64 0) fun w32 =>
 xSt w32 v6 (.bool false) fun w33 =>
 Dfo d13 w33 ∧ ∀ w34, Ch (fun c =>
 c = d13) w33 w34 → xLd w34 v4 fun r35 =>
 xLd w34 v5 fun r36 =>
 xLd w34 v6 fun r37 =>
 R (.tuple #[r35, r36, r37]) w34) (False)) (fun d13 u13 =>
 Dfo d13 u13 ∧ ∀ w27, Ch (fun c =>
 c = d13) u13 w27 → xLd w27 v4 fun r28 =>
 xLd w27 v5 fun r29 =>
 xLd w27 v6 fun r30 =>
 R (.tuple #[r28, r29, r30]) w27)
theorem eY_impl_Poset_unforced (v0 v1 : Value) (w : World) (R : Value → World → Prop) : SY_impl_Poset_unforced v0 v1 w R = denFY Tryz.prog Tryz.f143 (Tryz.f143.body.getD .skip) .leaf [v0, v1] w R := by kernel_rfl
theorem cY_impl_Poset_unforced {v0 v1 : Value} {w : World} {R : Value → World → Prop} (h : SY_impl_Poset_unforced v0 v1 w R) : Cal Tryz.prog f_impl_Poset_unforced #[v0, v1] w R :=
  cal_of_denY wide_any Tryz.func143 (by kernel_rfl) (show Tryz.f143.body = some (Tryz.f143.body.getD .skip) by kernel_rfl) (by kernel_rfl) (by kernel_rfl) ((eY_impl_Poset_unforced v0 v1 w R).mp h)
theorem hb_impl_Poset_valuations_1 : HasB Tryz.prog f_impl_Poset_valuations_1 := ⟨_, Tryz.func203, by kernel_rfl, by kernel_rfl⟩
/-- (loop.example/g01089/impl.Poset).valuations$1$1 -/
def SY_impl_Poset_valuations_1_1 (v0 v1 v2 v3 v4 v5 : Value) (w : World) (R : Value → World → Prop) : Prop :=
  xLd w v1 fun v11 =>
 xLenS v11 fun v12 =>
 xEq .i64 v0 v12 fun v13 =>
 cnd v13 (xLd w v2 fun v14 =>
 xLd w v3 fun v15 =>
 callY Tryz.prog v14 [v15] w fun v16 w1 =>
 R v16 w1) (xLd w v4 fun v17 =>
 xLenS v17 fun v18 =>
 lp (fun K2 xs2 w3 =>
 ∀ _ : Nat → Value, xLt .i64 (gx xs2 0) v18 fun v20 =>
 cnd v20 (xIa 1 v17 (gx xs2 0) fun v21 =>
 xLd w3 v21 fun v22 =>
 xLd w3 v3 fun v23 =>
 xLd w3 v1 fun v24 =>
 xIa 1 v24 v0 fun v26 =>
 xLd w3 v26 fun v27 =>
 xIa 1 v23 v27 fun v29 =>
 ∀ w4, Ext w3 w4 → xSt w4 v29 v22 fun w5 =>
 ∀ w6, Ext w5 w6 → xLd w6 v5 fun v30 =>
 xAdd .i64 v0 (.int .i64 1) fun v32 =>
 callY Tryz.prog v30 [v32] w6 fun v33 w7 =>
 xNot v33 fun v34 =>
 cnd v34 (R (.bool false) w7) (xAdd .i64 (gx xs2 0) (.int .i64 1) fun v35 =>
 ([] : List Nat) = ([] : List Nat) ∧ K2 [v35] w7)) (R (.bool true) w3)) [(.int .i64 0)] w)
theorem eY_impl_Poset_valuations_1_1 (v0 v1 v2 v3 v4 v5 : Value) (w : World) (R : Value → World → Prop) : SY_impl_Poset_valuations_1_1 v0 v1 v2 v3 v4 v5 w R = denFY Tryz.prog Tryz.f204 (Tryz.f204.body.getD .skip) (.node none .leaf (.node none .leaf (.node none (.node none .leaf (.node (some [19]) .leaf .leaf)) .leaf))) [v0, v1, v2, v3, v4, v5] w R := by kernel_rfl
theorem cY_impl_Poset_valuations_1_1 {v0 v1 v2 v3 v4 v5 : Value} {w : World} {R : Value → World → Prop} (h : SY_impl_Poset_valuations_1_1 v0 v1 v2 v3 v4 v5 w R) : Cal Tryz.prog f_impl_Poset_valuations_1_1 #[v0, v1, v2, v3, v4, v5] w R :=
  cal_of_denY wide_any Tryz.func204 (by kernel_rfl) (show Tryz.f204.body = some (Tryz.f204.body.getD .skip) by kernel_rfl) (by kernel_rfl) (by kernel_rfl) ((eY_impl_Poset_valuations_1_1 v0 v1 v2 v3 v4 v5 w R).mp h)
end Go.Proofs.YtikfhibcdhdglaaGreat

/- Contracts: all valuations of a poset, handed to a visitor one after the other. Conditions: none. -/
namespace Go.Proofs.YtikfhibcdhdglaaGreat
open Go.Vc
theorem iClY {f : FuncId} {first cap : Array Value} {fv : Value} {args : List Value} {w : World} {K : Value → World → Prop} (hv : fv = .func (.func f) first cap) (hc : Cal Tryz.prog f (first ++ args.toArray ++ cap) w K) : callY Tryz.prog fv args w K := .inl (iClo hv hc)
/-- What is asked of the visitor 'yv': it may turn the blocks S; J holds until a bad one has come, X behind that. -/
structure Vis (f : Fr) (yv : Value) (bad : List Nat → Bool) (m : Nat) (S : Nat → Prop) (J : World → Prop) (X : List Nat → World → Prop) : Prop where
  keep : ∀ (T : Nat → Prop) (W W' : World), J W → Ch T W W' → (∀ b, T b → m ≤ b) → J W'
  lt : ∀ b, S b → b < m
  visit : ∀ (W : World) (lo : Nat) (v : Value) (c : List Nat), J W → Ow lo t_i64 W v (ints (nats c)) → m ≤ lo → (∀ b, v.ownBlock = some b → ¬ S b) → c.length = 6 → (∀ x ∈ c, x ∈ upsets f) →
    callY Tryz.prog yv [v] W fun u W' => Ch S W W' ∧ if bad c then u = .bool false ∧ X c W' else u = .bool true ∧ J W'
/-- Sets c' that are those of c outside the variables from k on, and V there. -/
def Agr (vars : List Nat) (k : Nat) (c : List Nat) (V : Nat → Nat) (c' : List Nat) : Prop := ∀ v, v < 6 → c'.getD v 0 = if v ∈ vars.drop k then V v else c.getD v 0
section
variable {f : Fr} {yv : Value} {bad : List Nat → Bool} {m : Nat} {S : Nat → Prop} {J : World → Prop} {X : List Nat → World → Prop}
/-- What fill finds in memory. -/
structure FiW (m : Nat) (vars ups : List Nat) (yv : Value) (b1 b2 b3 b4 b5 : Nat) (vv vs vu : Value) (S : Nat → Prop) (e2 e5 : TypeId) (lo : Nat) (w : World) (c : List Nat) : Prop where
  B1 : Blk 24 w b1 [vv]
  B2 : Blk e2 w b2 [yv]
  B3 : Blk 24 w b3 [vs]
  B4 : Blk 24 w b4 [vu]
  B5 : Blk e5 w b5 [.func (.func f_impl_Poset_valuations_1_1) #[] #[.pointer (some ⟨b1, 0, none⟩), .pointer (some ⟨b2, 0, none⟩), .pointer (some ⟨b3, 0, none⟩), .pointer (some ⟨b4, 0, none⟩), .pointer (some ⟨b5, 0, none⟩)]]
  nS : ¬ S b1 ∧ ¬ S b2 ∧ ¬ S b3 ∧ ¬ S b4 ∧ ¬ S b5
  ne2 : e2 ≠ t_i64
  ne5 : e5 ≠ t_i64
  V1 : ∃ l1, Ow l1 t_i64 w vv (ints (nats vars))
  nV : ∀ b, vv.ownBlock = some b → ¬ S b ∧ vs.ownBlock ≠ some b
  U1 : ∃ l1, Ow l1 t_i64 w vu (ints (nats ups))
  nU : ∀ b, vu.ownBlock = some b → ¬ S b ∧ vs.ownBlock ≠ some b
  row : Ow lo t_i64 w vs (ints (nats c))
  nR : ∀ b, vs.ownBlock = some b → ¬ S b
  hm : m ≤ lo
theorem FiW.ch {vars ups : List Nat} {b1 b2 b3 b4 b5 : Nat} {vv vs vu : Value} {e2 e5 : TypeId} {lo : Nat} {w w' : World} {c c' : List Nat} (h : FiW m vars ups yv b1 b2 b3 b4 b5 vv vs vu S e2 e5 lo w c) (k : Ch (fun b => S b ∨ vs.ownBlock = some b) w w') (hr : Ow lo t_i64 w' vs (ints (nats c'))) :
    FiW m vars ups yv b1 b2 b3 b4 b5 vv vs vu S e2 e5 lo w' c' := by
  have nb : ∀ {e : TypeId} {b : Nat} {cs : List Value}, Blk e w b cs → e ≠ t_i64 → ¬ S b → ¬ (S b ∨ vs.ownBlock = some b) := fun hB hne hn h' => h'.elim hn fun h' => h.row.ne_blk hB (fun e => hne e.symm) h'
  obtain ⟨n1, n2, n3, n4, n5⟩ := h.nS
  refine ⟨h.B1.ch k (nb h.B1 (by decide) n1), h.B2.ch k (nb h.B2 h.ne2 n2), h.B3.ch k (nb h.B3 (by decide) n3), h.B4.ch k (nb h.B4 (by decide) n4), h.B5.ch k (nb h.B5 h.ne5 n5), h.nS, h.ne2, h.ne5, ?_, h.nV, ?_, h.nU, hr, h.nR, h.hm⟩
  · obtain ⟨l1, hv⟩ := h.V1
    exact ⟨l1, hv.ch k fun b hb h' => h'.elim (h.nV b hb).1 (h.nV b hb).2⟩
  · obtain ⟨l1, hv⟩ := h.U1
    exact ⟨l1, hv.ch k fun b hb h' => h'.elim (h.nU b hb).1 (h.nU b hb).2⟩
theorem ok_fill (hP : Po f) (hvis : Vis f yv bad m S J X) {vars : List Nat} (hnd : vars.Nodup) (hv6 : ∀ v ∈ vars, v < 6) {b1 b2 b3 b4 b5 : Nat} {vv vs vu : Value} {e2 e5 : TypeId} {lo : Nat} :
    ∀ (d k : Nat), d = vars.length - k → k ≤ vars.length → ∀ (w : World) (c : List Nat), FiW m vars (upsets f) yv b1 b2 b3 b4 b5 vv vs vu S e2 e5 lo w c → J w → c.length = 6 → (∀ x ∈ c, x ∈ upsets f) →
    Cal Tryz.prog f_impl_Poset_valuations_1_1 #[.int .i64 (k : Int), .pointer (some ⟨b1, 0, none⟩), .pointer (some ⟨b2, 0, none⟩), .pointer (some ⟨b3, 0, none⟩), .pointer (some ⟨b4, 0, none⟩), .pointer (some ⟨b5, 0, none⟩)] w fun r w' =>
      Ch (fun b => S b ∨ vs.ownBlock = some b) w w' ∧ ((r = .bool false ∧ ∃ c', c'.length = 6 ∧ (∀ x ∈ c', x ∈ upsets f) ∧ bad c' = true ∧ X c' w') ∨
        (r = .bool true ∧ J w' ∧ (∃ c', Ow lo t_i64 w' vs (ints (nats c')) ∧ c'.length = 6 ∧ (∀ x ∈ c', x ∈ upsets f) ∧ ∀ v, v < 6 → v ∉ vars.drop k → c'.getD v 0 = c.getD v 0) ∧
          ∀ V : Nat → Nat, (∀ v, V v ∈ upsets f) → ∃ c', c'.length = 6 ∧ (∀ x ∈ c', x ∈ upsets f) ∧ Agr vars k c V c' ∧ bad c' = false)) := by
  intro d
  induction d with
  | zero =>
    intro k hd hk w c hF hJ hc hcu
    obtain rfl : k = vars.length := by omega
    apply cY_impl_Poset_valuations_1_1; unfold SY_impl_Poset_valuations_1_1
    obtain ⟨l1, hV⟩ := hF.V1
    refine iLdB hF.B1 (v := vv) rfl ?_
    have hVn : SlN w vv vars := hV.sl
    refine iLenN hVn ?_
    refine iEq (iCndT (by simp) ?_)
    refine iLdB hF.B2 (v := yv) rfl (iLdB hF.B3 (v := vs) rfl ?_)
    refine (hvis.visit w lo vs c hJ hF.row hF.hm hF.nR hc hcu).mono ?_
    rintro u w1 ⟨hch, hres⟩
    refine ⟨hch.mono fun b h => .inl h, ?_⟩
    cases hb : bad c
    · rw [if_neg (by rw [hb]; simp)] at hres
      obtain ⟨rfl, hJ1⟩ := hres
      refine .inr ⟨rfl, hJ1, ⟨c, hF.row.ch hch hF.nR, hc, hcu, fun v _ _ => rfl⟩, fun V _ => ⟨c, hc, hcu, fun v _ => by rw [if_neg (by simp)], hb⟩⟩
    · rw [if_pos hb] at hres
      obtain ⟨rfl, hX1⟩ := hres
      exact .inl ⟨rfl, c, hc, hcu, hb, hX1⟩
  | succ d ih =>
    intro k hd hk w c hF hJ hc hcu
    have hkl : k < vars.length := by omega
    have hl6 : vars.length ≤ 6 := by
      have h1 := (popc_setOf_nodup _ vars rfl fun y hy => Nat.lt_trans (hv6 y hy) (by decide)).2 hnd
      have h3 := popc_full (m := 6) (by decide) (setOf_lt (n := 6) hv6)
      omega
    have hdrop : vars.drop k = vars[k] :: vars.drop (k + 1) := List.drop_eq_getElem_cons hkl
    have hnk : vars[k] ∉ vars.drop (k + 1) := by
      have := hnd.sublist (List.drop_sublist k vars)
      rw [hdrop] at this
      exact (List.nodup_cons.1 this).1
    have hvk := hv6 _ (List.getElem_mem hkl)
    apply cY_impl_Poset_valuations_1_1; unfold SY_impl_Poset_valuations_1_1
    obtain ⟨l1, hV⟩ := hF.V1
    obtain ⟨l4, hU⟩ := hF.U1
    have hVn : SlN w vv vars := hV.sl
    have hUn : SlN w vu (upsets f) := hU.sl
    have hul := upsets_len hP.ok
    refine iLdB hF.B1 (v := vv) rfl (iLenN hVn (iEq (iCndF (decide_eq_false (by omega)) ?_)))
    refine iLdB hF.B4 (v := vu) rfl (iLenN hUn ?_)
    refine iLp (fun i : Nat => [.int .i64 (i : Int)]) (fun i w' => i ≤ (upsets f).length ∧ Ch (fun b => S b ∨ vs.ownBlock = some b) w w' ∧ J w' ∧ ∃ ci, FiW m vars (upsets f) yv b1 b2 b3 b4 b5 vv vs vu S e2 e5 lo w' ci ∧ ci.length = 6 ∧ (∀ x ∈ ci, x ∈ upsets f) ∧ (∀ v, v < 6 → v ∉ vars.drop k → ci.getD v 0 = c.getD v 0) ∧
      ∀ V : Nat → Nat, (∀ v, V v ∈ upsets f) → V vars[k] ∈ (upsets f).take i → ∃ c', c'.length = 6 ∧ (∀ x ∈ c', x ∈ upsets f) ∧ Agr vars k c V c' ∧ bad c' = false) (fun i => (upsets f).length - i) 0 rfl
      ⟨Nat.zero_le _, (Ext.refl w).ch, hJ, c, hF, hc, hcu, fun v _ _ => rfl, fun V _ h => by simp at h⟩ ?_
    rintro i w3 Kn ⟨hi, hk3, hJ3, ci, hF3, hci, hciu, hciV, hall⟩ hKn
    obtain ⟨l1', hV3⟩ := hF3.V1
    obtain ⟨l4', hU3⟩ := hF3.U1
    intro _
    simp only [gx]
    refine iLt (iCndP (fun h => ?_) (fun h => ?_))
    · have hi1 : i < (upsets f).length := by omega
      have hUn3 : SlN w3 vu (upsets f) := hU3.sl
      have hVn3 : SlN w3 vv vars := hV3.sl
      refine iIaNN hUn3 hi1 fun p hp => iLd hp ?_
      refine iLdB hF3.B3 (v := vs) rfl (iLdB hF3.B1 (v := vv) rfl ?_)
      refine iIaNN hVn3 hkl fun p hp => iLd hp ?_
      have hg : vars.getD k 0 = vars[k] := by simp [hkl]
      have hgu : (upsets f).getD i 0 = (upsets f)[i] := by simp [hi1]
      rw [hg, hgu]
      have hlen : (ints (nats ci)).length = 6 := by rw [ints_length, nats_length]; exact hci
      refine iIaOwE hF3.row (j := vars[k]) (by omega) fun bu hbu hwr => ?_
      intro w4 x4
      obtain ⟨h1, h2, h3⟩ := hwr w4 _ rfl (hF3.row.ext x4)
      refine iSt (by rw [h1, List.getElem?_eq_getElem (by omega)]) h2 rfl ?_
      intro w6 x6
      have hset := Upd.setCell w4 bu vars[k] (.int .i64 (((upsets f)[i] : Nat) : Int))
      have h5 := h3 (.int .i64 (((upsets f)[i] : Nat) : Int))
      have e : (ints (nats ci)).set vars[k] (.int .i64 (((upsets f)[i] : Nat) : Int)) = ints (nats (ci.set vars[k] (upsets f)[i])) := by simp [ints, nats, List.map_set]
      rw [e] at h5
      have hk36 : Ch (fun b => S b ∨ vs.ownBlock = some b) w3 w6 := ((x4.ch (S := fun b => S b ∨ vs.ownBlock = some b)).trans (hset.ch (S := fun b => S b ∨ vs.ownBlock = some b) (.inr hbu)) fun b h => .inl h).trans (x6.ch (S := fun b => S b ∨ vs.ownBlock = some b)) fun b h => .inl h
      have hF6 := hF3.ch hk36 (h5.ext x6)
      have hJ6 : J w6 := by
        refine hvis.keep (fun b => vs.ownBlock = some b) w3 w6 hJ3 (((x4.ch (S := fun b => vs.ownBlock = some b)).trans (hset.ch (S := fun b => vs.ownBlock = some b) hbu) fun b h => .inl h).trans (x6.ch (S := fun b => vs.ownBlock = some b)) fun b h => .inl h) fun b hb => ?_
        have h1 := (hF3.row.blk b hb).1
        have h2 := hF3.hm
        omega
      have hc6 : (ci.set vars[k] (upsets f)[i]).length = 6 := by rw [List.length_set]; exact hci
      have hc6u : ∀ x ∈ ci.set vars[k] (upsets f)[i], x ∈ upsets f := fun x hx => by
        rcases List.mem_or_eq_of_mem_set hx with h | rfl
        · exact hciu x h
        · exact List.getElem_mem hi1
      have hget : ∀ v, v < 6 → (ci.set vars[k] (upsets f)[i]).getD v 0 = if v = vars[k] then (upsets f)[i] else ci.getD v 0 := fun v hv => by
        rw [List.getD_eq_getElem?_getD, List.getElem?_set]
        by_cases e : vars[k] = v
        · rw [if_pos e, if_pos e.symm, if_pos (by omega)]; rfl
        · rw [if_neg e, if_neg (fun h => e h.symm), ← List.getD_eq_getElem?_getD]
      refine iLdB hF6.B5 (v := _) rfl ?_
      refine iAdd (by omega) ?_
      rw [show (k : Int) + 1 = ((k + 1 : Nat) : Int) by omega]
      refine iClY rfl ((ih (k + 1) (by omega) (by omega) w6 _ hF6 hJ6 hc6 hc6u).mono ?_)
      rintro r w7 ⟨hk7, hr⟩
      have hk37 : Ch (fun b => S b ∨ vs.ownBlock = some b) w w7 := (hk3.trans hk36 fun b h => .inl h).trans hk7 fun b h => .inl h
      rcases hr with ⟨rfl, hbad⟩ | ⟨rfl, hJ7, ⟨c7, ho7, hc7, hc7u, hc7V⟩, hall7⟩
      · exact iNot (iCndT rfl ⟨hk37, .inl ⟨by first | trivial | rfl, hbad⟩⟩)
      · refine iNot (iCndF rfl (iAdd (by omega) ⟨by first | trivial | rfl, ?_⟩))
        have hout : ∀ v, v ∉ vars.drop k → v ≠ vars[k] ∧ v ∉ vars.drop (k + 1) := fun v hv => by
          rw [hdrop, List.mem_cons, not_or] at hv; exact hv
        refine hKn (i + 1) _ ⟨by omega, hk37, hJ7, c7, hF6.ch hk7 ho7, hc7, hc7u, fun v hv hvd => ?_, fun V hV hVi => ?_⟩ (by omega)
        · obtain ⟨n1, n2⟩ := hout v hvd
          rw [hc7V v hv n2, hget v hv, if_neg n1, hciV v hv hvd]
        · rw [List.take_succ_eq_append_getElem hi1] at hVi
          rcases List.mem_append.1 hVi with hVi | hVi
          · exact hall V hV hVi
          · have hVi : V vars[k] = (upsets f)[i] := by simpa using hVi
            obtain ⟨c', h1, h2, h3, h4⟩ := hall7 V hV
            refine ⟨c', h1, h2, fun v hv => ?_, h4⟩
            rw [h3 v hv, hdrop]
            by_cases m1 : v ∈ vars.drop (k + 1)
            · rw [if_pos m1, if_pos (List.mem_cons_of_mem _ m1)]
            · rw [if_neg m1, hget v hv]
              by_cases m2 : v = vars[k]
              · rw [if_pos m2, if_pos (by rw [m2]; exact List.mem_cons_self), ← hVi, m2]
              · rw [if_neg m2, if_neg (by rw [List.mem_cons, not_or]; exact ⟨m2, m1⟩)]
                exact hciV v hv (by rw [hdrop, List.mem_cons, not_or]; exact ⟨m2, m1⟩)
    · refine ⟨hk3, .inr ⟨by first | trivial | rfl, hJ3, ⟨ci, hF3.row, hci, hciu, hciV⟩, fun V hV => ?_⟩⟩
      rw [List.take_of_length_le (by omega)] at hall
      exact hall V hV (hV _)
end
theorem ok_impl_valuations {f : Fr} (hP : Po f) {va vv : Value} {w : World} (hs : SlN w va f.a) (hcv : isCell vv = true) : Cal Tryz.prog f_impl_Poset_valuations #[.agg #[.int .i64 (f.n : Int), va], vv] w fun r w' => Ext w w' ∧ ∃ bv bu vu, r = .func (.func f_impl_Poset_valuations_1) #[] #[.pointer (some ⟨bv, 0, none⟩), .pointer (some ⟨bu, 0, none⟩)] ∧
      w.heap.size ≤ bv ∧ w.heap.size ≤ bu ∧ Blk 24 w' bv [vv] ∧ Blk 24 w' bu [vu] ∧ Ow w.heap.size t_i64 w' vu (ints (nats (upsets f))) := by
  apply c_impl_Poset_valuations; unfold S_impl_Poset_valuations
  refine iNew fun b2 w1 hb2 x1 hB2 => ?_
  refine iNew fun b3 w2 hb3 x2 hB3 => ?_
  rw [isCell_cells hcv] at hB3
  have hB3 : Blk 24 w2 b3 [vv] := hB3
  refine iLdA (hB2.ext x2) rfl ?_
  refine iCall ((ok_impl_Poset_upsets hP.ok (hs.ext (x1.trans x2))).mono ?_)
  rintro vu w3 ⟨x3, ho⟩
  refine iNew fun b5 w4 hb5 x4 hB5 => ?_
  have ho4 := ho.ext x4
  refine iStB hB5 (i := 0) (by simp [Value.cells]) ho.cell fun hB5' => ?_
  have hB5' : Blk 24 (w4.setCell ⟨b5, 0, none⟩ vu) b5 [vu] := hB5'
  have hu := Upd.setCell w4 b5 0 vu
  have hl3 := x3.size
  have h12 := (x1.trans x2).size
  refine ⟨(((x1.trans x2).trans x3).trans x4).upd hu (by omega), b3, b5, vu, rfl, by omega, by omega, ((hB3.ext x3).ext x4).upd hu (by omega), hB5', ?_⟩
  exact (ho4.upd hu fun h => by have := (ho.blk b5 h).2; omega).mono h12
theorem ok_impl_valuations_1 {f : Fr} {yv : Value} {bad : List Nat → Bool} {m : Nat} {S : Nat → Prop} {J : World → Prop} {X : List Nat → World → Prop} (hP : Po f) (hvis : Vis f yv bad m S J X) (hcy : isCell yv = true) {vars : List Nat} (hnd : vars.Nodup) (hv6 : ∀ v ∈ vars, v < 6) {bv bu : Nat} {vv vu : Value} {l1 l2 : Nat} {w : World}
    (hBv : Blk 24 w bv [vv]) (hBu : Blk 24 w bu [vu]) (hV : Ow l1 t_i64 w vv (ints (nats vars))) (hU : Ow l2 t_i64 w vu (ints (nats (upsets f)))) (hnS : ¬ S bv ∧ ¬ S bu) (hnV : ∀ b, vv.ownBlock = some b → ¬ S b) (hnU : ∀ b, vu.ownBlock = some b → ¬ S b) (hJ : J w) (hm : m ≤ w.heap.size) :
    Cal Tryz.prog f_impl_Poset_valuations_1 #[yv, .pointer (some ⟨bv, 0, none⟩), .pointer (some ⟨bu, 0, none⟩)] w fun _ w' => Ch S w w' ∧ ((∃ c, c.length = 6 ∧ (∀ x ∈ c, x ∈ upsets f) ∧ bad c = true ∧ X c w') ∨
      (J w' ∧ ∀ V : Nat → Nat, (∀ v, V v ∈ upsets f) → ∃ c, c.length = 6 ∧ (∀ x ∈ c, x ∈ upsets f) ∧ (∀ v ∈ vars, c.getD v 0 = V v) ∧ bad c = false)) := by
  have hSlt : ∀ b, S b → b < w.heap.size := fun b hb => Nat.lt_of_lt_of_le (hvis.lt b hb) hm
  apply c_impl_Poset_valuations_1; unfold S_impl_Poset_valuations_1
  refine iNew fun b3 w1 hb3 x1 hB3 => ?_
  rw [isCell_cells hcy] at hB3
  refine iMk (k := .i64) (n := 6) (by decide) (by decide) rfl fun br w2 hbr x2 hBr => ?_
  refine iNew fun b4 w3 hb4 x3 hB4 => ?_
  refine iStB hB4 (i := 0) (by simp [Value.cells]) rfl fun hB4' => ?_
  have hu4 := Upd.setCell w3 b4 0 (.slice (some ⟨br, 0, none⟩) 6 6)
  generalize hw4 : w3.setCell ⟨b4, 0, none⟩ (.slice (some ⟨br, 0, none⟩) 6 6) = w4 at *
  have hB4 : Blk 24 w4 b4 [.slice (some ⟨br, 0, none⟩) 6 6] := hB4'
  refine iNew fun b5 w5 hb5 x5 hB5 => ?_
  refine iStB hB5 (i := 0) (by simp [Value.cells]) rfl fun hB5' => ?_
  have hu6 := Upd.setCell w5 b5 0 (.func (.func f_impl_Poset_valuations_1_1) #[] #[.pointer (some ⟨bv, 0, none⟩), .pointer (some ⟨b3, 0, none⟩), .pointer (some ⟨b4, 0, none⟩), .pointer (some ⟨bu, 0, none⟩), .pointer (some ⟨b5, 0, none⟩)])
  have hsz4 : w4.heap.size = w3.heap.size := by rw [← hw4]; simp
  have hB5 := hB5'
  refine iLdB hB5' (i := 0) (v := _) rfl ?_
  have X6 : Ext w _ := ((((x1.trans x2).trans x3).upd hu4 (by omega)).trans x5).upd hu6 (by omega)
  have hrow : Ow br t_i64 _ (.slice (some ⟨br, 0, none⟩) 6 6) (ints (nats (List.replicate 6 0))) := Ow.ofBlk (((((hBr.ext x3).upd hu4 (by omega)).ext x5).upd hu6 (by omega))) (Nat.le_refl _) rfl (by decide)
  have hF : FiW m vars (upsets f) yv bv b3 b4 bu b5 vv (.slice (some ⟨br, 0, none⟩) 6 6) vu S _ _ br _ (List.replicate 6 0) :=
    { B1 := hBv.ext X6, B2 := (((((hB3.ext x2).ext x3).upd hu4 (by omega)).ext x5).upd hu6 (by omega)), B3 := ((hB4.ext x5).upd hu6 (by omega)), B4 := hBu.ext X6, B5 := hB5
      nS := ⟨hnS.1, fun h => by have := hSlt _ h; omega, fun h => by have := hSlt _ h; omega, hnS.2, fun h => by have := hSlt _ h; omega⟩
      ne2 := by decide, ne5 := by decide, V1 := ⟨l1, hV.ext X6⟩
      nV := fun b hb => ⟨hnV b hb, fun h => by
        have h1 := (hV.blk b hb).2
        have h2 : br = b := by simpa [Value.ownBlock] using h
        omega⟩
      U1 := ⟨l2, hU.ext X6⟩
      nU := fun b hb => ⟨hnU b hb, fun h => by
        have h1 := (hU.blk b hb).2
        have h2 : br = b := by simpa [Value.ownBlock] using h
        omega⟩
      row := hrow
      nR := fun b hb h => by
        have h1 := hSlt _ h
        have h2 : br = b := by simpa [Value.ownBlock] using hb
        omega
      hm := by omega }
  have hJ6 := hvis.keep (fun _ => False) w _ hJ X6.ch (fun _ h => h.elim)
  refine iClo rfl ((ok_fill hP hvis hnd hv6 _ 0 rfl (Nat.zero_le _) _ _ hF hJ6 (by simp) (fun x hx => by rw [List.eq_of_mem_replicate hx]; exact zero_up hP)).mono ?_)
  rintro r w7 ⟨hk7, hr⟩
  have hk : Ch S w w7 := (X6.ch (S := S)).trans hk7 fun b h => h.elim .inl fun h => .inr (by
    have h2 : br = b := by simpa [Value.ownBlock] using h
    omega)
  refine ⟨hk, ?_⟩
  rcases hr with ⟨_, hbad⟩ | ⟨_, hJ7, _, hall⟩
  · exact .inl hbad
  · refine .inr ⟨hJ7, fun V hV' => ?_⟩
    obtain ⟨c, h1, h2, h3, h4⟩ := hall V hV'
    refine ⟨c, h1, h2, fun v hv => ?_, h4⟩
    have := h3 v (hv6 v hv)
    rw [List.drop_zero, if_pos hv] at this
    exact this
end Go.Proofs.YtikfhibcdhdglaaGreat

/- Contracts: the code of a search over a poset's valuations. Conditions: none. -/
namespace Go.Proofs.YtikfhibcdhdglaaGreat
open Go.Vc
theorem isN_ok {N : List RN} (h : isN N = true) : N.all okN = true := by
  unfold isN treeN at h
  rw [Bool.and_eq_true, Bool.and_eq_true] at h
  exact h.2.1
theorem ok_impl_posetSearchCode {v u : Value} {L : List VN} {w : World} {n : Int} {l : List Int} (hp : SlI w v l) (hs : RwN w u L) (hn : ∀ p ∈ L, p.2.length ≤ 1099511627776) :
    Cal Tryz.prog f_impl_posetSearchCode #[.agg #[.int .i64 n, v], u] w fun r w' => Ext w w' ∧ ∃ c : Int, r = .int .i64 c ∧
      (if posetOk n l = true ∧ (L.all fun q => isN q.2) = true then (if (L.all fun q => plainN q.2) = true then c = 0 ∨ c = 3 else c = 5) else c = 1) := by
  apply c_impl_posetSearchCode; unfold S_impl_posetSearchCode
  refine iNew fun b w1 _ x1 hB => ?_
  have hB : Blk _ w1 b [.int .i64 n, v] := hB
  have hp1 := hp.ext x1
  have hs1 := hs.ext x1
  refine iJnB (!(posetOk n l && L.all fun q => isN q.2)) w1 (fun J hJ => ?_) (fun w3 x3 => ?_)
  · refine iLdA hB rfl ?_
    refine iRet (ok_impl_isPoset hp1 n) fun w4 x4 => ?_
    refine iNot ?_
    cases hpo : posetOk n l
    · rw [hpo, Bool.false_and] at hJ
      exact iCndT rfl (hJ _ x4)
    · rw [hpo, Bool.true_and] at hJ
      refine iCndF rfl ?_
      refine iRet (ok_impl_areFormulasN (hs1.ext x4) hn) fun w5 x5 => ?_
      exact iNot (hJ _ (x4.trans x5))
  · intro _
    simp only [gx]
    have hs3 := hs1.ext x3
    cases hpo : posetOk n l && L.all fun q => isN q.2
    · refine iCndT rfl ⟨x1.trans x3, 1, rfl, ?_⟩
      rw [if_neg (by rw [← Bool.and_eq_true, hpo]; simp)]
    · refine iCndF rfl ?_
      rw [Bool.and_eq_true] at hpo
      obtain ⟨hP, hn0, hl0⟩ := posetOk_po hpo.1
      refine iRet (ok_impl_allPlainN hs3) fun w6 x6 => ?_
      refine iNot ?_
      cases hpl : L.all fun q => plainN q.2
      · exact iCndT rfl ⟨(x1.trans x3).trans x6, 5, rfl, by rw [if_pos hpo]; simp⟩
      · refine iCndF rfl ?_
        refine iLdA ((hB.ext x3).ext x6) rfl ?_
        have hv : SlN w6 v (frOf n l).a := by
          have := (hp1.ext x3).ext x6
          unfold SlN
          rw [← hl0]; exact this
        have hU := ok_impl_Poset_upsets hP.ok hv
        rw [← hn0] at hU
        refine iCall (hU.mono ?_)
        rintro r7 w7 ⟨x7, ho7⟩
        refine iLenS ho7.sl ?_
        have hok : ∀ p ∈ L, p.2.all okN = true := fun p hp => isN_ok (List.all_eq_true.1 hpo.2 p hp)
        refine iCall ((ok_impl_variablesIn ((hs3.ext x6).ext x7) hok).mono ?_)
        rintro r8 w8 ⟨x8, ho8⟩
        refine iLenS ho8.sl ?_
        rw [ints_length, nats_length, ints_length, nats_length]
        have h1 := upsets_len hP.ok
        have h2 := memK_length_le (maskL L) 63
        refine iCall ((ok_impl_fits _ _ h1 (by show (memK (maskL L) 63).length ≤ 1000; omega) w8).mono ?_)
        rintro r9 w9 ⟨rfl, bb, rfl⟩
        refine iNot ?_
        have hx := (((x1.trans x3).trans x6).trans x7).trans x8
        cases bb
        · exact iCndT rfl ⟨hx, 3, rfl, by rw [if_pos hpo]; simp⟩
        · exact iCndF rfl ⟨hx, 0, rfl, by rw [if_pos hpo]; simp⟩
end Go.Proofs.YtikfhibcdhdglaaGreat

/- Contracts: validity on a poset: the visited valuations; unforced, isValid, IsPosetValid. Conditions: none. -/
namespace Go.Proofs.YtikfhibcdhdglaaGreat
open Go.Vc
theorem has_raw {v : Nat} : ∀ {a : Fm}, Fm.has v a → (0, (v : Int)) ∈ rawF a
  | .var x, h => by
    have h : x = v := h
    subst h
    exact List.mem_cons_self
  | .fls, h => h.elim
  | .and a b, h => List.mem_cons_of_mem _ (List.mem_append.2 (h.imp has_raw has_raw))
  | .or a b, h => List.mem_cons_of_mem _ (List.mem_append.2 (h.imp has_raw has_raw))
  | .imp a b, h => List.mem_cons_of_mem _ (List.mem_append.2 (h.imp has_raw has_raw))
  | .box a, h => List.mem_cons_of_mem _ (has_raw (a := a) h)
  | .dia a, h => List.mem_cons_of_mem _ (has_raw (a := a) h)
theorem has_maskV {v : Nat} {a : Fm} (h : Fm.has v a) : (maskV (rawF a)).testBit v = true := (maskV_has a v).2 (has_raw h)
theorem Dfo.ch {d : Nat} {S : Nat → Prop} {w w' : World} (h : Dfo d w) (k : Ch S w w') (hn : ¬ S d) : Dfo d w' := by
  have hlt : d < w.heap.size := by
    unfold Dfo at h
    rcases Nat.lt_or_ge d w.heap.size with h1 | h1
    · exact h1
    · rw [Array.getElem?_eq_none h1] at h; cases h
  exact (k.block d hlt hn).trans h
/-- **A range over all valuations**: the body hands on J till a bad one comes; then X stands. -/
theorem iVals {f : Fr} {bad : List Nat → Bool} {S : Nat → Prop} {J : World → Prop} {X : List Nat → World → Prop} (hP : Po f) {vars : List Nat} (hnd : vars.Nodup) (hv6 : ∀ v ∈ vars, v < 6) {bv bu : Nat} {vv vu : Value} {l1 l2 : Nat} {w : World}
    {B : Nat → (World → Prop) → (World → Prop) → (Ex → World → Prop) → List Value → World → (Value → World → Prop) → Prop} {K : Nat → World → Prop} {KE : Nat → Nat → World → Prop} {KR : Nat → World → Prop}
    (hBv : Blk 24 w bv [vv]) (hBu : Blk 24 w bu [vu]) (hV : Ow l1 t_i64 w vv (ints (nats vars))) (hU : Ow l2 t_i64 w vu (ints (nats (upsets f)))) (hnS : ¬ S bv ∧ ¬ S bu) (hnV : ∀ b, vv.ownBlock = some b → ¬ S b) (hnU : ∀ b, vu.ownBlock = some b → ¬ S b)
    (hlt : ∀ b, S b → b < w.heap.size) (hJ : J w)
    (keep : ∀ (T : Nat → Prop) (W W' : World), J W → Ch T W W' → (∀ b, T b → w.heap.size ≤ b) → J W')
    (keepX : ∀ (T : Nat → Prop) (c : List Nat) (W W' : World), X c W → Ch T W W' → (∀ b, T b → w.heap.size ≤ b) → X c W')
    (hB : ∀ (l : Nat) (LR LB : World → Prop) (LX : Ex → World → Prop), l = w.heap.size + 1 →
      (∀ (S : Nat → Prop) (W W' : World), Ch S W W' → ¬ S l → ¬ S w.heap.size → (LR W → LR W') ∧ (LB W → LB W') ∧ ∀ e, LX e W → LX e W') →
      ∀ (W : World) (lo : Nat) (v : Value) (c : List Nat), J W → LR W → w.heap.size + 2 ≤ lo → w.heap.size + 2 ≤ W.heap.size → Ow lo t_i64 W v (ints (nats c)) → c.length = 6 → (∀ x ∈ c, x ∈ upsets f) →
        B l LR LB LX [v] W fun u W' => Ch (fun b => b = l ∨ S b) W W' ∧ if bad c then u = .bool false ∧ LX .ret W' ∧ X c W' else u = .bool true ∧ LR W' ∧ J W')
    (hK : ∀ W, J W → w.heap.size + 2 ≤ W.heap.size → Dfo w.heap.size W → (∀ V : Nat → Nat, (∀ v, V v ∈ upsets f) → ∃ c, c.length = 6 ∧ (∀ x ∈ c, x ∈ upsets f) ∧ (∀ v ∈ vars, c.getD v 0 = V v) ∧ bad c = false) → K w.heap.size W)
    (hKR : ∀ W c, X c W → w.heap.size + 2 ≤ W.heap.size → Dfo w.heap.size W → c.length = 6 → (∀ x ∈ c, x ∈ upsets f) → bad c = true → KR w.heap.size W) :
    xRng Tryz.prog (.func (.func f_impl_Poset_valuations_1) #[] #[.pointer (some ⟨bv, 0, none⟩), .pointer (some ⟨bu, 0, none⟩)]) 1 w B K KE KR := by
  refine ⟨_, _, rfl, hb_impl_Poset_valuations_1, fun l LR LB LX w1 hl hsz x1 hLR hstab hyield => ?_⟩
  have hvis : Vis f (.func (.yield l) #[] #[]) bad (w.heap.size + 2) (fun b => b = l ∨ S b) (fun W => J W ∧ LR W ∧ w.heap.size + 2 ≤ W.heap.size) (fun c W => LX .ret W ∧ X c W ∧ w.heap.size + 2 ≤ W.heap.size) :=
    { keep := fun T W W' h k hT => ⟨keep T W W' h.1 k fun b hb => by have := hT b hb; omega, (hstab T W W' k (fun h => by have := hT _ h; omega) (fun h => by have := hT _ h; omega)).1 h.2.1, by have := k.size; omega⟩
      lt := fun b hb => by
        rcases hb with rfl | hb
        · omega
        · have := hlt b hb; omega
      visit := fun W lo v c hJW ho hlo hnv hc hcu => by
        refine (hyield [v] W _ hJW.2.1 rfl (hB l LR LB LX hl hstab W lo v c hJW.1 hJW.2.1 hlo hJW.2.2 ho hc hcu)).mono ?_
        rintro u W' ⟨hch, hr⟩
        have hs := hch.size
        have hs0 := hJW.2.2
        refine ⟨hch, ?_⟩
        cases hb : bad c
        · rw [if_neg (by rw [hb]; simp)] at hr
          rw [if_neg (by simp)]
          exact ⟨hr.1, hr.2.2, hr.2.1, by omega⟩
        · rw [if_pos hb] at hr
          rw [if_pos rfl]
          exact ⟨hr.1, hr.2.1, hr.2.2, by omega⟩ }
  have hl1 : ∀ {b e cs}, Blk e w b cs → b ≠ l := fun h e => by
    have := h.lt; omega
  have hJ1 : J w1 := keep (fun _ => False) w w1 hJ x1.ch (fun _ h => h.elim)
  refine (ok_impl_valuations_1 hP hvis rfl hnd hv6 (hBv.ext x1) (hBu.ext x1) (hV.ext x1) (hU.ext x1) ⟨fun h => h.elim (hl1 hBv) hnS.1, fun h => h.elim (hl1 hBu) hnS.2⟩
    (fun b hb h => h.elim (fun e => by have := (hV.blk b hb).2; omega) (hnV b hb)) (fun b hb h => h.elim (fun e => by have := (hU.blk b hb).2; omega) (hnU b hb)) ⟨hJ1, hLR, by omega⟩ (by omega)).mono ?_
  rintro _ W2 ⟨_, hr⟩
  rcases hr with ⟨c, hc, hcu, hb, hX, hX2, hX3⟩ | ⟨⟨hJ2, hLR2, hs2⟩, hall⟩
  · exact .inr (.inr ⟨hX, fun W3 k3 hd => hKR W3 c (keepX _ c W2 W3 hX2 k3 fun b hb => by omega) (by have := k3.size; omega) hd hc hcu hb⟩)
  · exact .inl ⟨hLR2, fun W3 k3 hd => hK W3 (keep _ W2 W3 hJ2 k3 fun b hb => by omega) (by have := k3.size; omega) hd hall⟩
theorem ok_impl_unforced {f : Fr} (hP : Po f) {va vn : Value} {w : World} (hs : SlN w va f.a) {a : Fm} (ha : FmS w vn a) (hcn : isCell vn = true) (hpl : Fm.pl a) (hsz : a.size ≤ 1000000) :
    Cal Tryz.prog f_impl_Poset_unforced #[.agg #[.int .i64 (f.n : Int), va], vn] w fun r w' => Ext w w' ∧ ∃ u m b, r = .tuple #[u, m, .bool b] ∧ (b = true ↔ ¬ VldP f a) := by
  have hok : (rawF a).all okN = true := List.all_eq_true.2 (rawF_ok (pl_good hpl))
  have h8 := hP.ok.1
  apply cY_impl_Poset_unforced; unfold SY_impl_Poset_unforced
  refine iNew fun b2 w1 hb2 x1 hB2 => ?_
  refine iNew fun b3 w2 hb3 x2 hB3 => ?_
  refine iNew fun b4 w3 hb4 x3 hB4 => ?_
  refine iNew fun b5 w4 hb5 x4 hB5 => ?_
  refine iNew fun b6 w5 hb6 x5 hB6 => ?_
  have hB2 : Blk _ w5 b2 [.int .i64 (f.n : Int), va] := (((hB2.ext x2).ext x3).ext x4).ext x5
  rw [isCell_cells hcn] at hB3
  have hB3 : Blk _ w5 b3 [vn] := ((hB3.ext x3).ext x4).ext x5
  have hB4 : Blk _ w5 b4 [.slice none 0 0] := (hB4.ext x4).ext x5
  have hB5 : Blk _ w5 b5 [.int .i64 0] := hB5.ext x5
  have hB6 : Blk _ w5 b6 [.bool false] := hB6
  have X5 := (((x1.trans x2).trans x3).trans x4).trans x5
  refine iLdA hB2 rfl (iLdB hB3 (v := vn) rfl ?_)
  intro w6 x6
  refine iBs1 rfl hcn fun br w7 hbr x7 hBr => ⟨x7, ?_⟩
  intro w8 x8
  have X8 := ((X5.trans x6).trans x7).trans x8
  have hN : RawS w8 vn (rawF a) := FmS.raw (SlK.ext ha X8)
  have hRw : RwN w8 (.slice (some ⟨br, 0, none⟩) 1 1) [(vn, rawF a)] := RwN.one (Ow.ofBlk (hBr.ext x8) (Nat.le_refl _) rfl (by simp)).sl hN
  have hokL : ∀ p ∈ [(vn, rawF a)], p.2.all okN = true := fun p hp => by
    rw [List.mem_singleton] at hp
    subst hp; exact hok
  refine iCall ((ok_impl_variablesIn hRw hokL).mono ?_)
  rintro vv w9 ⟨x9, hov⟩
  refine ⟨x9, ?_⟩
  intro w10 x10
  have X10 := (X8.trans x9).trans x10
  refine iCall ((ok_impl_valuations hP (hs.ext X10) hov.cell).mono ?_)
  rintro r11 w11 ⟨x11, bv, bu, vu, rfl, hbv, hbu, hBv, hBu, hou⟩
  intro w12 x12
  have X12 := (X10.trans x11).trans x12
  have x512 : Ext w5 w12 := (((((x6.trans x7).trans x8).trans x9).trans x10).trans x11).trans x12
  have hsz5 : w5.heap.size ≤ w8.heap.size := ((x6.trans x7).trans x8).size
  have hsz10 : w8.heap.size ≤ w10.heap.size := (x9.trans x10).size
  have hsz12 : w5.heap.size ≤ w12.heap.size := x512.size
  have hmem : ∀ v, v ∈ mem (maskL [(vn, rawF a)]) ↔ (maskV (rawF a)).testBit v = true := fun v => by
    rw [mem_mem (Nat.lt_of_lt_of_le (maskL_lt hokL) (by decide)), maskL_bit]
    simp
  have hvis := hov.ext ((x10.trans x11).trans x12)
  refine iVals (bad := fun c => decide (¬ frc f (vV c) a = 2 ^ f.n - 1)) (S := fun b => b = b4 ∨ b = b5 ∨ b = b6) (J := fun W => Ext w12 W) (X := fun c W => Ch (fun b => b = b4 ∨ b = b5 ∨ b = b6) w12 W ∧ (∃ u, Blk 24 W b4 [u]) ∧ (∃ m, Blk t_i64 W b5 [m]) ∧ Blk 4 W b6 [.bool true])
    hP (mem_nodup _) (fun v hv => ?_) (hBv.ext x12) (hBu.ext x12) hvis (hou.ext x12) ⟨fun h => by omega, fun h => by omega⟩ (fun b hb h => by have := (hov.blk b hb).1; omega) (fun b hb h => by have := (hou.blk b hb).1; omega)
    (fun b h => by omega) (Ext.refl _) (fun T W W' h k hT => h.thenCh k hT) (fun T c W W' h k hT => ?_) ?_ ?_ ?_
  · exact bit_lt_n (maskV_lt hok) ((hmem v).1 hv)
  · obtain ⟨h1, ⟨u, h2⟩, ⟨m, h3⟩, h4⟩ := h
    exact ⟨h1.trans k fun b hb => .inr (hT b hb), ⟨u, h2.ch k fun h => by have := hT _ h; omega⟩, ⟨m, h3.ch k fun h => by have := hT _ h; omega⟩, h4.ch k fun h => by have := hT _ h; omega⟩
  · intro l LR LB LX hl hstab W lo v c hJW hLR hlo hWs ho hc hcu
    refine ⟨rfl, hLR, fun Wb kb hLB => ?_⟩
    have XWb : Ext w12 Wb := hJW.thenCh kb fun b hb => by omega
    have hoWb := ho.ch kb fun b hb e => by have := (ho.blk b hb).1; omega
    refine iLdA (hB2.ext (x512.trans XWb)) rfl (iLdB (hB3.ext (x512.trans XWb)) (v := vn) rfl ?_)
    have hlt6 : ∀ x ∈ c, x < 2 ^ f.n := fun x hx => upsets_lt (hcu x hx)
    refine iRet (ok_impl_forced hP.ok (hs.ext (X12.trans XWb)) hoWb.sl hc hlt6 (SlK.ext ha (X12.trans XWb)) hpl hsz) fun w14 x14 => ?_
    refine iLdA (hB2.ext ((x512.trans XWb).trans x14)) rfl ?_
    refine iRet (ok_impl_Poset_all f.n h8 va w14) fun w15 x15 => ?_
    have xb15 := x14.trans x15
    have hsWb := kb.size
    have hLB15 : LB _ := (hstab (fun _ => False) Wb _ xb15.ch (fun h => h) (fun h => h)).2.1 hLB
    refine iNe (iCndP (fun hb => ?_) (fun hb => ?_))
    · have hbd : decide (¬ frc f (vV c) a = 2 ^ f.n - 1) = true := decide_eq_true fun e => hb (by rw [e])
      have hb4 := hB4.ext ((x512.trans XWb).trans xb15)
      refine iCall ((ok_slices_Clone_Si64_i64 (l := nats c) (hoWb.ext xb15).sl (by rw [nats_length]; omega)).mono ?_)
      rintro vc w16 ⟨x16, hoc⟩
      have hb4 := (hB4.ext ((x512.trans XWb).trans xb15)).ext x16
      have hb5 := (hB5.ext ((x512.trans XWb).trans xb15)).ext x16
      have hb6 := (hB6.ext ((x512.trans XWb).trans xb15)).ext x16
      refine iStB hb4 (i := 0) (by simp) hoc.cell fun hb4' => ?_
      have u4 := Upd.setCell w16 b4 0 vc
      refine iStB (hb5.upd u4 (by omega)) (i := 0) (by simp) rfl fun hb5' => ?_
      have u5 := Upd.setCell (w16.setCell ⟨b4, 0, none⟩ vc) b5 0 (.int .i64 ((frc f (vV c) a : Nat) : Int))
      refine iStB ((hb6.upd u4 (by omega)).upd u5 (by omega)) (i := 0) (by simp) rfl fun hb6' => ?_
      have u6 := Upd.setCell ((w16.setCell ⟨b4, 0, none⟩ vc).setCell ⟨b5, 0, none⟩ (.int .i64 ((frc f (vV c) a : Nat) : Int))) b6 0 (.bool true)
      generalize hw19 : ((w16.setCell ⟨b4, 0, none⟩ vc).setCell ⟨b5, 0, none⟩ (.int .i64 ((frc f (vV c) a : Nat) : Int))).setCell ⟨b6, 0, none⟩ (.bool true) = w19 at *
      have hk : Ch (fun b => b = b4 ∨ b = b5 ∨ b = b6) Wb w19 := ((((xb15.trans x16).ch (S := fun b => b = b4 ∨ b = b5 ∨ b = b6)).trans (u4.ch (S := fun b => b = b4) rfl) fun b h => .inl (.inl h)).trans (u5.ch (S := fun b => b = b5) rfl) fun b h => .inl (.inr (.inl h))).trans (u6.ch (S := fun b => b = b6) rfl) fun b h => .inl (.inr (.inr h))
      refine ⟨rfl, (hstab _ Wb w19 hk (fun h => by omega) (fun h => by omega)).2.1 hLB, fun W' k' hLX => ?_⟩
      have hs19 := hk.size
      refine ⟨((kb.mono (S' := fun b => b = l ∨ b = b4 ∨ b = b5 ∨ b = b6) fun b h => .inl h).trans (hk.mono (S' := fun b => b = l ∨ b = b4 ∨ b = b5 ∨ b = b6) fun b h => .inr h) fun b h => .inl h).trans k' fun b h => .inl (.inl h), ?_⟩
      rw [if_pos hbd]
      refine ⟨rfl, hLX, ((XWb.ch (S := fun b => b = b4 ∨ b = b5 ∨ b = b6)).trans hk fun b h => .inl h).trans k' fun b h => .inr (by omega), ⟨vc, ?_⟩, ⟨.int .i64 ((frc f (vV c) a : Nat) : Int), ?_⟩, hb6'.ch k' fun h => by omega⟩
      · exact ((hb4'.upd u5 (by omega)).upd u6 (by omega)).ch k' fun h => by omega
      · exact (hb5'.upd u6 (by omega)).ch k' fun h => by omega
    · have hbd : decide (¬ frc f (vV c) a = 2 ^ f.n - 1) = false := decide_eq_false fun e => hb fun h => e (by exact_mod_cast h)
      refine ⟨rfl, hLB15, fun W' k' hLR' => ?_⟩
      have hs15 := xb15.size
      refine ⟨(kb.trans (xb15.ch.trans k' fun b h => .inl h) fun b h => .inl h).mono fun b h => .inl h, ?_⟩
      rw [if_neg (by rw [hbd]; simp)]
      exact ⟨rfl, hLR', (XWb.trans xb15).thenCh k' fun b hb => by omega⟩
  · intro W hJW hsW hD hall
    have x5W := x512.trans hJW
    refine iStB (hB4.ext x5W) (i := 0) (by simp) rfl fun hb4' => ?_
    have u4 := Upd.setCell W b4 0 (.slice none 0 0)
    refine iStB ((hB5.ext x5W).upd u4 (by omega)) (i := 0) (by simp) rfl fun hb5' => ?_
    have u5 := Upd.setCell (W.setCell ⟨b4, 0, none⟩ (.slice none 0 0)) b5 0 (.int .i64 0)
    refine iStB (((hB6.ext x5W).upd u4 (by omega)).upd u5 (by omega)) (i := 0) (by simp) rfl fun hb6' => ?_
    have u6 := Upd.setCell ((W.setCell ⟨b4, 0, none⟩ (.slice none 0 0)).setCell ⟨b5, 0, none⟩ (.int .i64 0)) b6 0 (.bool false)
    generalize hw19 : ((W.setCell ⟨b4, 0, none⟩ (.slice none 0 0)).setCell ⟨b5, 0, none⟩ (.int .i64 0)).setCell ⟨b6, 0, none⟩ (.bool false) = w19 at *
    have hk : Ch (fun b => b = b4 ∨ b = b5 ∨ b = b6) W w19 := ((u4.ch (S := fun b => b = b4 ∨ b = b5 ∨ b = b6) (.inl rfl)).trans (u5.ch (S := fun b => b = b5) rfl) fun b h => .inl (.inr (.inl h))).trans (u6.ch (S := fun b => b = b6) rfl) fun b h => .inl (.inr (.inr h))
    refine ⟨Dfo.ch hD hk fun h => by omega, fun w23 k23 => ?_⟩
    have hs19 := hk.size
    have e4 := ((hb4'.upd u5 (by omega)).upd u6 (by omega)).ch k23 fun h => by omega
    have e5 := (hb5'.upd u6 (by omega)).ch k23 fun h => by omega
    have e6 := hb6'.ch k23 fun h => by omega
    refine iLdB e4 rfl (iLdB e5 rfl (iLdB e6 rfl ⟨?_, _, _, _, rfl, ?_⟩))
    · exact ((X5.trans x5W).thenCh hk fun b h => by omega).thenCh k23 fun b h => by omega
    · refine Iff.intro (fun h => by cases h) (fun h => ?_)
      refine (h ?_).elim
      intro V hV
      obtain ⟨c, h1, h2, h3, h4⟩ := hall V hV
      have h4 : frc f (vV c) a = 2 ^ f.n - 1 := by simpa using h4
      rw [← h4]
      exact frc_congr a fun v hv => (h3 v ((hmem v).2 (has_maskV hv))).symm
  · intro W c ⟨hX, ⟨u, h4⟩, ⟨m, h5⟩, h6⟩ hsW hD hc hcu hbd
    refine ⟨hD, fun w37 k37 => ?_⟩
    have e4 := h4.ch k37 fun h => by omega
    have e5 := h5.ch k37 fun h => by omega
    have e6 := h6.ch k37 fun h => by omega
    refine iLdB e4 rfl (iLdB e5 rfl (iLdB e6 rfl ⟨?_, _, _, _, rfl, ?_⟩))
    · exact ((X12).thenCh hX fun b h => by omega).thenCh k37 fun b h => by omega
    · refine ⟨fun _ hv => ?_, fun _ => rfl⟩
      have hbd : ¬ frc f (vV c) a = 2 ^ f.n - 1 := by simpa using hbd
      exact hbd (hv _ (vV_ok hP hcu))
theorem ok_impl_isValid {f : Fr} (hP : Po f) {va vn : Value} {w : World} (hs : SlN w va f.a) {a : Fm} (ha : FmS w vn a) (hcn : isCell vn = true) (hpl : Fm.pl a) (hsz : a.size ≤ 1000000) :
    Cal Tryz.prog f_impl_Poset_isValid #[.agg #[.int .i64 (f.n : Int), va], vn] w fun r w' => Ext w w' ∧ ∃ b, r = .bool b ∧ (b = true ↔ VldP f a) := by
  apply c_impl_Poset_isValid; unfold S_impl_Poset_isValid
  refine iNew fun b2 w1 hb2 x1 hB2 => ?_
  refine iLdA hB2 rfl ?_
  refine iCall ((ok_impl_unforced hP (hs.ext x1) (SlK.ext ha x1) hcn hpl hsz).mono ?_)
  rintro r w2 ⟨x2, u, m, b, rfl, hb⟩
  refine iEx (by rfl) (iEx (by rfl) (iEx (by rfl) ?_))
  refine iNot ⟨x1.trans x2, _, rfl, ?_⟩
  cases b
  · refine ⟨fun _ => ?_, fun _ => rfl⟩
    apply Classical.byContradiction
    intro h
    exact absurd (hb.2 h) (by simp)
  · exact ⟨fun h => (by cases h), fun h => (hb.1 rfl h).elim⟩
theorem ok_impl_IsPosetValid {n : Int} {l : List Int} {N : List RN} {v u : Value} {w : World} (hp : SlI w v l) (hu : RawS w u N) (hcu : isCell u = true) (hn : N.length ≤ 1099511627776) :
    Cal Tryz.prog f_impl_IsPosetValid #[.agg #[.int .i64 n, v], u] w fun r w' => Ext w w' ∧ ∃ (b : Bool) (c : Int), r = .tuple #[.bool b, .int .i64 c] ∧ (c = 0 → posetOk n l = true ∧ ∃ a, N = rawF a ∧ Fm.pl a ∧ a.size ≤ 40 ∧ (b = true ↔ VldP (frOf n l) a)) := by
  apply c_impl_IsPosetValid; unfold S_impl_IsPosetValid
  refine iNew fun b2 w1 hb2 x1 hB2 => ?_
  have hB2 : Blk _ w1 b2 [.int .i64 n, v] := hB2
  refine iLdA hB2 rfl ?_
  refine iBs1 rfl hcu fun br w3 hbr x3 hBr => ?_
  have hp3 := hp.ext (x1.trans x3)
  have hu3 : RawS w3 u N := SlK.ext hu (x1.trans x3)
  refine iCall ((ok_impl_posetSearchCode hp3 (RwN.one (Ow.ofBlk hBr (Nat.le_refl _) rfl (by simp)).sl hu3) fun p hp => by
    rw [List.mem_singleton] at hp
    subst hp; exact hn).mono ?_)
  rintro r w4 ⟨x4, c, rfl, hc⟩
  have X4 := (x1.trans x3).trans x4
  refine iNe (iCndP (fun hne => ?_) (fun h0 => ?_))
  · exact ⟨X4, false, c, rfl, fun h => absurd h hne⟩
  · have h0 : c = 0 := by omega
    subst h0
    obtain ⟨hpo, hN⟩ : posetOk n l = true ∧ isN N = true ∧ plainN N = true := by
      by_cases h1 : posetOk n l = true ∧ ([(u, N)].all fun q => isN q.2) = true
      · rw [if_pos h1] at hc
        by_cases h2 : ([(u, N)].all fun q => plainN q.2) = true
        · exact ⟨h1.1, by simpa using h1.2, by simpa using h2⟩
        · rw [if_neg h2] at hc
          omega
      · rw [if_neg h1] at hc
        omega
    obtain ⟨a, ga, sa, rfl⟩ := isN_iff.1 hN.1
    have hpl : Fm.pl a := pl_iff.2 ⟨ga, hN.2⟩
    obtain ⟨hP, hn0, hl0⟩ := posetOk_po hpo
    have hv : SlN w4 v (frOf n l).a := by
      have := hp3.ext x4
      unfold SlN
      rw [← hl0]; exact this
    refine iLdA ((hB2.ext x3).ext x4) rfl ?_
    have hU := ok_impl_isValid hP hv (RawS.fm (SlK.ext hu3 x4)) hcu hpl (by omega)
    rw [← hn0] at hU
    refine iCall (hU.mono ?_)
    rintro r w5 ⟨x5, b, rfl, hb⟩
    exact ⟨X4.trans x5, b, 0, rfl, fun _ => ⟨hpo, a, rfl, hpl, sa, hb⟩⟩
end Go.Proofs.YtikfhibcdhdglaaGreat

/- Contracts: UpsetOf, PartOfPoset, IsPosetMorphism at a morphism, IsPoset, the laws' full set. Conditions: none. -/
namespace Go.Proofs.YtikfhibcdhdglaaGreat
open Go.Vc
theorem maskB_nat {n m : Nat} (h : m < 2 ^ n) : maskB n (m : Int) = true := by
  unfold maskB
  refine decide_eq_true ⟨by omega, by omega⟩
theorem ok_impl_posetCode {f : Fr} (hP : Po f) {v : Value} {w : World} (hs : SlN w v f.a) {m : Nat} (hm : m < 2 ^ f.n) : Ret Tryz.prog f_impl_posetCode #[.agg #[.int .i64 (f.n : Int), v], .int .i64 (m : Int)] w (.int .i64 0) := by
  have h8 := hP.ok.1
  apply c_impl_posetCode; unfold S_impl_posetCode
  refine iNew fun b w1 _ x1 hB => ?_
  have hB : Blk _ w1 b [.int .i64 (f.n : Int), v] := hB
  refine iLdA hB rfl ?_
  refine iRet (ok_impl_isPoset (hs.ext x1) (f.n : Int)) fun w2 x2 => ?_
  rw [posetOk_ofJ hP]
  refine iNot (iCndF rfl ?_)
  refine iFa (iLdB (hB.ext x2) (i := 0) (v := .int .i64 (f.n : Int)) rfl ?_)
  refine iRet (ok_impl_isMask f.n (m : Int) (by omega) w2) fun w3 x3 => ?_
  rw [maskB_nat hm, decide_eq_true (by omega : f.n ≤ 30)]
  exact iNot (iCndF rfl ⟨rfl, (x1.trans x2).trans x3⟩)
theorem ok_impl_UpsetOf {f : Fr} (hP : Po f) {v : Value} {w : World} (hs : SlN w v f.a) {m : Nat} (hm : m < 2 ^ f.n) : Ret Tryz.prog f_impl_UpsetOf #[.agg #[.int .i64 (f.n : Int), v], .int .i64 (m : Int)] w (.tuple #[.int .i64 ((rowsK f.a m f.n : Nat) : Int), .int .i64 0]) := by
  apply c_impl_UpsetOf; unfold S_impl_UpsetOf
  refine iNew fun b w1 _ x1 hB => ?_
  have hB : Blk _ w1 b [.int .i64 (f.n : Int), v] := hB
  refine iLdA hB rfl ?_
  refine iRet (ok_impl_posetCode hP (hs.ext x1) hm) fun w2 x2 => ?_
  refine iNe (iCndF (decide_eq_false (by omega)) ?_)
  refine iFa (iLdB (hB.ext x2) (i := 1) (v := v) rfl ?_)
  have h := ok_impl_image (hs.ext (x1.trans x2)) (by rw [hP.ok.2.1]; exact hP.ok.1) (fun x hx => by rw [hP.ok.2.1]; exact hP.ok.2.2 x hx) m (by rw [hP.ok.2.1]; exact hm)
  rw [hP.ok.2.1] at h
  exact iRet h fun w3 x3 => ⟨rfl, (x1.trans x2).trans x3⟩
theorem ok_impl_IsPosetMorphism_good {f g : Fr} (hf : Po f) (hg : Po g) {v0 v1 v : Value} {w : World} (h0 : SlN w v0 f.a) (h1 : SlN w v1 g.a) {im : List Nat} (hs : SlN w v im) (hl : im.length = f.n) (hy : ∀ y ∈ im, y < g.n) (hm : ∀ x, x < f.n → img im (f.a.getD x 0) = g.a.getD (im.getD x 0) 0) :
    Ret Tryz.prog f_impl_IsPosetMorphism #[.agg #[.int .i64 (f.n : Int), v0], .agg #[.int .i64 (g.n : Int), v1], v] w (.tuple #[.bool true, .int .i64 0]) := by
  apply c_impl_IsPosetMorphism; unfold S_impl_IsPosetMorphism
  refine iNew fun b3 w1 _ x1 hB3 => ?_
  refine iNew fun b4 w2 _ x2 hB4 => ?_
  have hB3 : Blk _ w2 b3 [.int .i64 (f.n : Int), v0] := hB3.ext x2
  have hB4 : Blk _ w2 b4 [.int .i64 (g.n : Int), v1] := hB4
  have X2 := x1.trans x2
  refine iLdA hB3 rfl (iLdA hB4 rfl ?_)
  refine iBs22 fun bb w3 hbb x3 hBB => ?_
  have X3 := X2.trans x3
  refine iRet (ok_impl_arePosets (h0.ext X3) (h1.ext X3) (f.n : Int) (g.n : Int) hBB) fun w4 x4 => ?_
  unfold codeP
  rw [posetOk_ofJ hf, posetOk_ofJ hg]
  refine iNe (iCndF rfl ?_)
  refine iLdA ((hB3.ext x3).ext x4) rfl (iLdA ((hB4.ext x3).ext x4) rfl ?_)
  have X4 := X3.trans x4
  exact iRet (ok_impl_isPosetMorphism_good hf.ok hg.ok (h0.ext X4) (h1.ext X4) (hs.ext X4) hl hy hm) fun w5 x5 => ⟨rfl, X4.trans x5⟩
theorem ok_laws_full9 {n : Nat} (hn : n ≤ 8) (w : World) : Ret Tryz.prog f_laws_full9 #[.int .i64 (n : Int)] w (.int .i64 ((2 ^ n - 1 : Nat) : Int)) := by
  have hp : 2 ^ n ≤ 256 := Nat.le_trans (Nat.pow_le_pow_right (by omega) hn) (by decide)
  apply c_laws_full9; unfold S_laws_full9
  refine iJnB false w (fun J hJ => ?_) (fun w2 x2 => ?_)
  · refine iLt (iCndF (decide_eq_false (by omega)) (iLt ?_))
    rw [decide_eq_false (by omega : ¬ (60 : Int) < (n : Int))]
    exact hJ _ (Ext.refl _)
  · intro _
    simp only [gx]
    refine iCndF rfl ?_
    refine iConvU (by omega) (iShlOne (by omega) ?_)
    refine iSub (by have := Nat.two_pow_pos n; omega) ⟨?_, x2⟩
    have := Nat.two_pow_pos n
    rw [show ((2 ^ n : Nat) : Int) - 1 = ((2 ^ n - 1 : Nat) : Int) by omega]
end Go.Proofs.YtikfhibcdhdglaaGreat

/- Plain facts: maps onto a poset; their images are upsets; what a part's map says of sizes. No program in sight. Conditions: none. -/
namespace Go.Proofs.YtikfhibcdhdglaaGreat
open Go.Vc
theorem map_bit {f g : Fr} {F : List Nat} (hl : F.length = f.n) (hm : ∀ x, x < f.n → img F (f.a.getD x 0) = g.a.getD (F.getD x 0) 0) {x : Nat} (hx : x < f.n) (y : Nat) : g.r (F.getD x 0) y ↔ ∃ u, f.r x u ∧ u < f.n ∧ F.getD u 0 = y := by
  unfold Fr.r
  rw [← hm x hx, img_testBit]
  constructor
  · rintro ⟨z, hz, h1, h2⟩
    exact ⟨z, h1, by omega, h2⟩
  · rintro ⟨u, h1, hu, h2⟩
    exact ⟨u, by omega, h1, h2⟩
theorem map_upset {f g : Fr} (hg : Po g) {F : List Nat} (hl : F.length = f.n) (hy : ∀ y ∈ F, y < g.n) (hm : ∀ x, x < f.n → img F (f.a.getD x 0) = g.a.getD (F.getD x 0) 0) : rowsK g.a (setOf F) g.n = setOf F := by
  have h : setOf F ∈ upsets g := (upsets_iff hg).2 ⟨setOf_lt hy, fun v u hv hr => by
    rw [setOf_testBit, List.contains_iff_mem] at hv ⊢
    obtain ⟨x, hx, rfl⟩ := List.getElem_of_mem hv
    have e : F[x] = F.getD x 0 := by simp [hx]
    rw [e] at hr
    obtain ⟨u', _, hu', rfl⟩ := (map_bit hl hm (by omega) u).1 hr
    exact getD_mem (by omega)⟩
  unfold upsets upK at h
  exact of_decide_eq_true (List.mem_filter.1 h).2
theorem map_onto {f g : Fr} (hf : f.ok) (hg : g.ok) {F : List Nat} (h : F ∈ leaves (fitsB f g false false) g.n f.n []) (hs : setOf F = 2 ^ g.n - 1) : F ∈ leaves (fitsB f g true false) g.n f.n [] := by
  obtain ⟨h1, h2, h3, _, h5⟩ := (mem_leaves hf hg).1 h
  refine (mem_leaves hf hg).2 ⟨h1, h2, h3, fun _ => ?_, h5⟩
  rw [hs, popc_range (by have := hg.1; omega)]
theorem onto_surj {f g : Fr} (hf : f.ok) (hg : g.ok) {F : List Nat} (h : F ∈ leaves (fitsB f g true false) g.n f.n []) {z : Nat} (hz : z < g.n) : ∃ x, x < f.n ∧ F.getD x 0 = z := by
  obtain ⟨h1, h2, h3, h4, h5⟩ := (mem_leaves hf hg).1 h
  have h6 := (popc_surj hg.1 (setOf_lt h2)).1 (h4 rfl) z hz
  rw [setOf_testBit, List.contains_iff_mem] at h6
  exact ⟨F.idxOf z, by have := (at_idx h6).1; omega, (at_idx h6).2⟩
theorem bel_onto {f g : Fr} (hf : f.ok) (hg : g.ok) {F : List Nat} (h : F ∈ leaves (fitsB f g true false) g.n f.n []) : Bel f g := by
  obtain ⟨h1, h2, h3, h4, h5⟩ := (mem_leaves hf hg).1 h
  refine ⟨fun v => v < f.n, fun v => F.getD v 0, fun v hv => hv, fun v u hv hr => (fr_bit_lt hf hr).2, fun v hv y => ?_, fun y => ?_⟩
  · rw [map_bit h1 h3 hv]
    exact ⟨fun ⟨u, a, _, b⟩ => ⟨u, a, b⟩, fun ⟨u, a, b⟩ => ⟨u, a, (fr_bit_lt hf a).2, b⟩⟩
  · exact ⟨fun ⟨v, hv, e⟩ => e ▸ getD_lt h2 (by omega), fun hy => onto_surj hf hg h hy⟩
theorem part_len {f g : Fr} (hf : f.ok) (hg : g.ok) {m : Nat} {F : List Nat} (h : partOut f g = some (m, F)) : decide (0 < F.length) = decide (0 < g.n) := by
  obtain ⟨hm, Fs, hL⟩ := partOut_some h
  have hF : F ∈ leaves (fitsB (partFr f m) g true false) g.n (partFr f m).n [] := by rw [hL]; simp
  have hp := part_ok hf (upsets_lt hm)
  obtain ⟨h1, h2, _⟩ := (mem_leaves hp hg).1 hF
  refine decide_eq_decide.2 ⟨fun h0 => ?_, fun h0 => ?_⟩
  · have := h2 _ (List.getElem_mem h0)
    omega
  · obtain ⟨x, hx, _⟩ := onto_surj hp hg hF h0
    omega
end Go.Proofs.YtikfhibcdhdglaaGreat

/- The laws' helpers: sizes of codes, equal lists and frames. Conditions: none. -/
namespace Go.Vc
end Go.Vc
namespace Go.Proofs.YtikfhibcdhdglaaGreat
open Go.Vc
theorem ok_laws_big {vc : Value} {w : World} {bs : List Nat} (hc : SlB w vc bs) : Ret Tryz.prog f_laws_big #[vc] w (.bool (decide ((4096 : Int) < (bs.length : Nat)))) := by
  apply c_laws_big; unfold S_laws_big
  refine iLenB hc ?_
  refine iLt ?_
  exact ⟨rfl, Ext.refl _⟩
theorem ok_laws_likeInts {v v' : Value} {w : World} {l l' : List Int} (hs : SlI w v l) (hs' : SlI w v' l') : Ret Tryz.prog f_laws_likeInts #[v, v'] w (.bool (decide (l = l'))) := by
  apply c_laws_likeInts; unfold S_laws_likeInts
  have hl := hs.len
  have hl' := hs'.len
  ((with_reducible refine iLenI (by assumption) ?_; refine iLenI (by assumption) ?_; refine iNe ?_))
  refine iCndP (fun h => ?_) (fun h => ?_)
  · rw [decide_eq_false (fun e => h (by rw [e]))]
    exact ⟨rfl, Ext.refl _⟩
  · have h : l.length = l'.length := by omega
    refine iLp (fun k : Nat => [.int .i64 (k : Int)]) (fun k w' => k ≤ l.length ∧ Ext w w' ∧ l.take k = l'.take k) (fun k => l.length - k) 0 rfl ⟨Nat.zero_le _, Ext.refl _, by simp⟩ ?_
    rintro k w2 Kn ⟨hk, h2, he⟩ hKn
    have hs2 := hs.ext h2
    have hs2' := hs'.ext h2
    (intro _; (try simp only [gx]); (with_reducible refine iLenI (by assumption) ?_; refine iLt ?_))
    refine iCndP (fun h3 => ?_) (fun h3 => ?_)
    · have hk1 : k < l.length := by omega
      have hk2 : k < l'.length := by omega
      have e1 : l.getD k 0 = l[k] := by simp [List.getD_eq_getElem?_getD, hk1]
      have e2 : l'.getD k 0 = l'[k] := by simp [List.getD_eq_getElem?_getD, hk2]
      ((with_reducible refine iIaN (by assumption) ?_ (fun pa_ hpa_ => ?_)); omega; (with_reducible refine iLd (by assumption) ?_); (with_reducible refine iIaN (by assumption) ?_ (fun pa_ hpa_ => ?_)); omega; (with_reducible refine iLd (by assumption) ?_; refine iNe ?_))
      rw [e1, e2]
      intro w3 h4
      refine iCndP (fun h5 => ?_) (fun h5 => ?_)
      · rw [decide_eq_false (fun e => by subst e; exact h5 rfl)]
        exact ⟨rfl, h2.trans h4⟩
      · (refine iAdd (by omega) ?_)
        refine hKn (k + 1) _ ⟨by omega, h2.trans h4, ?_⟩ (by omega)
        rw [List.take_succ_eq_append_getElem hk1, List.take_succ_eq_append_getElem hk2, he]
        congr 2
        exact Classical.not_not.1 h5
    · obtain rfl : k = l.length := by omega
      rw [List.take_length, h, List.take_length] at he
      rw [decide_eq_true he]
      exact ⟨rfl, h2⟩
end Go.Proofs.YtikfhibcdhdglaaGreat

/- The law on p-morphisms: its contract. Conditions: none. -/
namespace Go.Proofs.YtikfhibcdhdglaaGreat
open Go.Vc
theorem rawF_inj {a b : Fm} (h : rawF a = rawF b) : a = b := cells_inj (by rw [← cellsN_raw, ← cellsN_raw, h])
/-- A list of maps, each a morphism; where one is onto, FindImage finds one. -/
theorem allP_facts {n0 n1 : Int} {l0 l1 : List Int} (h0 : posetOk n0 l0 = true) (h1 : posetOk n1 l1 = true) : ((allPOut n0 l0 n1 l1).2 = 0 ∨ (allPOut n0 l0 n1 l1).2 = 3) ∧ ∀ L ∈ (allPOut n0 l0 n1 l1).1, ∃ F : List Nat, L = nats F ∧ F ∈ leaves (fitsB (frOf n0 l0) (frOf n1 l1) false false) (frOf n1 l1).n (frOf n0 l0).n [] := by
  unfold allPOut allOut
  rw [h0, h1, (posetOk_frame h0).1, (posetOk_frame h1).1]
  simp only [Bool.and_self, if_true]
  split
  · exact ⟨.inr rfl, by simp⟩
  · refine ⟨.inl rfl, fun L hL => ?_⟩
    obtain ⟨F, hF, rfl⟩ := List.mem_map.1 hL
    exact ⟨F, rfl, List.mem_of_mem_take hF⟩
theorem image_zero {n0 n1 : Int} {l0 l1 : List Int} (h0 : posetOk n0 l0 = true) (h1 : posetOk n1 l1 = true) : (imageOut n0 l0 n1 l1).2 = 0 ↔ ∃ F, F ∈ leaves (fitsB (frOf n0 l0) (frOf n1 l1) true false) (frOf n1 l1).n (frOf n0 l0).n [] := by
  unfold imageOut firstOut
  rw [h0, h1, (posetOk_frame h0).1, (posetOk_frame h1).1]
  simp only [Bool.and_self, if_true]
  split
  · rename_i e
    rw [e]; simp
  · rename_i m ms e
    rw [e]; simp
theorem imageOut_one {n0 n1 : Int} {l0 l1 : List Int} (h : ¬ (imageOut n0 l0 n1 l1).2 = 1) : posetOk n0 l0 = true ∧ posetOk n1 l1 = true := by
  unfold imageOut at h
  cases hp : posetOk n0 l0 && posetOk n1 l1
  · rw [hp] at h; exact absurd rfl h
  · exact Bool.and_eq_true_iff.1 hp
theorem ok_laws_FnMorphisms {w : World} {vc : Value} {bs : List Nat} (hc : SlB w vc bs) : Ret Tryz.prog f_laws_FnMorphisms #[vc] w (.bool true) := by
  apply c_laws_FnMorphisms; unfold S_laws_FnMorphisms
  refine iRet (ok_laws_big hc) fun w1 x1 => ?_
  refine iCndP (fun _ => ⟨rfl, x1⟩) (fun _ => ?_)
  refine iCall ((ok_spec_DrawFindImage (hc.ext x1)).mono ?_)
  rintro _ w2 ⟨x2, n, l, v, nq, lq, vq, rfl, hov, hoq⟩
  refine iEx (by rfl) (iEx (by rfl) ?_)
  have X2 := x1.trans x2
  have hs2 := hov.sl
  have hq2 := hoq.sl
  refine iNew fun b3 w3 hb3 x3 hB3 => ?_
  refine iNew fun b6 w4 hb6 x4 hB6 => ?_
  refine iStAB (hB3.ext x4) rfl rfl ((hov.ext (x3.trans x4)).pair n) fun w5 hu5 hB3' => ?_
  refine iStAB (hB6.upd hu5 (by omega)) rfl rfl (fun u hu => ?_) fun w6 hu6 hB6' => ?_
  · simp at hu
    rcases hu with rfl | rfl
    · rfl
    · exact hoq.cell
  have x26 : Ext w2 w6 := ((x3.trans x4).upd hu5 (by omega)).upd hu6 (by omega)
  have hB3 : Blk 26 w6 b3 [.int .i64 n, v] := hB3'.upd hu6 (by omega)
  have hB6 : Blk 26 w6 b6 [.int .i64 nq, vq] := hB6'
  have hs6 : SlI w6 v l := Sl.ext hs2 x26
  have hq6 : SlI w6 vq lq := Sl.ext hq2 x26
  have X6 := X2.trans x26
  clear hB3' hB6' hu5 hu6 hs2 hq2 hov hoq
  refine iLdA hB3 rfl (iLdA hB6 rfl ?_)
  refine iCall ((ok_impl_FindImage hs6 hq6 n nq).mono ?_)
  rintro _ w7 ⟨x7, vi, rfl, hoi⟩
  refine iEx (by rfl) (iEx (by rfl) ?_)
  refine iLdA (hB3.ext x7) rfl (iLdA (hB6.ext x7) rfl ?_)
  refine iCall ((ok_spec_FindImage (hs6.ext x7) (hq6.ext x7) n nq).mono ?_)
  rintro _ w8 ⟨x8, vj, rfl, hoj⟩
  refine iEx (by rfl) (iEx (by rfl) ?_)
  have x68 := x7.trans x8
  refine iJnB false w8 (fun J hJ => ?_) (fun w10 x10 => fun _ => iCndF rfl ?_)
  · refine iNe (iCndF (decide_eq_false fun h => h rfl) ?_)
    refine iRet (ok_laws_likeInts (hoi.ext x8).sl hoj.sl) fun w11 x11 => ?_
    rw [decide_eq_true rfl]
    exact iNot (hJ _ x11)
  have x610 := x68.trans x10
  have X10 := X6.trans x610
  refine iEq (iCndP (fun _ => ⟨rfl, X10⟩) (fun h1 => ?_))
  obtain ⟨hpp, hpq⟩ := imageOut_one h1
  obtain ⟨hP, hn0, hl0⟩ := posetOk_po hpp
  obtain ⟨hQ, hn1, hl1⟩ := posetOk_po hpq
  have hP8 := hP.ok.1
  have hQ8 := hQ.ok.1
  have hpN : ∀ {w'}, SlI w' v l → SlN w' v (frOf n l).a := fun h => by
    unfold SlN
    rw [← hl0]; exact h
  have hqN : ∀ {w'}, SlI w' vq lq → SlN w' vq (frOf nq lq).a := fun h => by
    unfold SlN
    rw [← hl1]; exact h
  refine iLdA (hB3.ext x610) rfl (iLdA (hB6.ext x610) rfl ?_)
  refine iCall ((ok_impl_AllPosetMorphisms (hs6.ext x610) (hq6.ext x610) n nq).mono ?_)
  rintro _ w12 ⟨x12, va, rfl, hoa⟩
  refine iEx (by rfl) (iEx (by rfl) ?_)
  obtain ⟨hac, haL⟩ := allP_facts hpp hpq
  have x612 := x610.trans x12
  refine iJnB false w12 (fun J hJ => ?_) (fun w14 x14 => fun _ => iCndF rfl ?_)
  · refine iNe (iCndP (fun _ => iNe ?_) (fun _ => hJ _ (Ext.refl _)))
    rw [show decide (¬ (allPOut n l nq lq).2 = 3) = false from decide_eq_false fun h => h (by omega)]
    exact hJ _ (Ext.refl _)
  obtain ⟨vs, hrow, heach⟩ := hoa
  have hlen : vs.length = (allPOut n l nq lq).1.length := by have := heach.1; rwa [List.length_map] at this
  have hcap := hrow.sl.len
  have x614 := x612.trans x14
  generalize hA : (allPOut n l nq lq).1 = A at *
  refine iLp (fun k : Nat => [.int .i64 (k : Int)]) (fun k w' => k ≤ A.length ∧ Ext w14 w') (fun k => A.length - k) 0 rfl ⟨Nat.zero_le _, Ext.refl _⟩ ?_
  rintro k w16 Kn ⟨hk, x16⟩ hKn
  have x616 := x614.trans x16
  have X16 := X6.trans x616
  have hrow16 := hrow.ext (x14.trans x16)
  have heach16 := heach.ext (x14.trans x16)
  intro _
  simp only [gx]
  refine iLenS hrow16.sl ?_
  rw [hlen]
  refine iLt (iCndP (fun hlt => ?_) (fun hlt => ?_))
  · have hkA : k < A.length := by omega
    have hkv : k < vs.length := by omega
    have ho := heach16.at hkv (by rw [List.length_map]; exact hkA)
    rw [List.getElem_map] at ho
    obtain ⟨F, hF, hFL⟩ := haL _ (List.getElem_mem hkA)
    rw [hF] at ho
    obtain ⟨hFl, hFy, hFm, _, _⟩ := (mem_leaves hP.ok hQ.ok).1 hFL
    have hFs : SlN w16 vs[k] F := ho.sl
    refine iLdA (hB3.ext x616) rfl (iLdA (hB6.ext x616) rfl ?_)
    refine iIaV hrow16.sl hkv fun p hp => iLd hp ?_
    have hgood : ∀ w', Ext w16 w' → Ret Tryz.prog f_impl_IsPosetMorphism #[.agg #[.int .i64 n, v], .agg #[.int .i64 nq, vq], vs[k]] w' (.tuple #[.bool true, .int .i64 0]) := fun w' x' => by
      have h := ok_impl_IsPosetMorphism_good hP hQ (hpN (hs6.ext (x616.trans x'))) (hqN (hq6.ext (x616.trans x'))) (hFs.ext x') hFl hFy hFm
      rw [← hn0, ← hn1] at h
      exact h
    refine iRetQ hgood ?_
    refine iEx (by rfl) (iEx (by rfl) ?_)
    intro w17 x17
    have x617 := x616.trans x17
    have hrow17 := hrow16.ext x17
    have hFs17 := hFs.ext x17
    refine iLp (fun i : Nat => [.int .i64 ((setOf (F.take i) : Nat) : Int), .int .i64 (i : Int)]) (fun i w' => i ≤ F.length ∧ Ext w17 w') (fun i => F.length - i) 0 rfl ⟨Nat.zero_le _, Ext.refl _⟩ ?_
    rintro i w19 Kn19 ⟨hi, x19⟩ hKn19
    have hrow19 := hrow17.ext x19
    have hFs19 := hFs17.ext x19
    have x619 := x617.trans x19
    have hst : ∀ i, setOf (F.take i) < 2 ^ 60 := fun i => Nat.lt_of_lt_of_le (setOf_lt fun y hy => hFy y (List.mem_of_mem_take hy)) (Nat.pow_le_pow_right (by omega) (by omega))
    intro _
    simp only [gx]
    refine iIaV hrow19.sl hkv fun p hp => iLd hp ?_
    refine iLenN hFs19 ?_
    refine iLt (iCndP (fun hlt2 => ?_) (fun hlt2 => ?_))
    · have hiF : i < F.length := by omega
      have hg : F.getD i 0 = F[i] := by simp [hiF]
      have hyi := hFy _ (List.getElem_mem hiF)
      refine iJnB true w19 (fun J hJ => ?_) (fun w21 x21 => fun _ => iCndT rfl ?_)
      · refine iIaV hrow19.sl hkv fun p hp => iLd hp ?_
        refine iIaNN hFs19 hiF fun p hp => iLd hp ?_
        refine iLe (iCndT (decide_eq_true (by omega)) ?_)
        refine iIaV hrow19.sl hkv fun p hp => iLd hp ?_
        refine iIaNN hFs19 hiF fun p hp => iLd hp ?_
        rw [hg]
        refine iLt ?_
        rw [decide_eq_true (by omega : ((F[i] : Nat) : Int) < 60)]
        exact hJ _ (Ext.refl _)
      · have hrow21 := hrow19.ext x21
        have hFs21 := hFs19.ext x21
        refine iIaV hrow21.sl hkv fun p hp => iLd hp ?_
        refine iIaNN hFs21 hiF fun p hp => iLd hp ?_
        rw [hg]
        refine iConvU (by omega) (iShlOne (by omega) ?_)
        have h1 := hst i
        have h2 : 2 ^ F[i] < 2 ^ 60 := Nat.pow_lt_pow_right (by omega) (by omega)
        refine iBOr (by omega) (by omega) (iAdd (by omega) ?_)
        rw [← setOf_snoc, ← List.take_succ_eq_append_getElem hiF]
        exact hKn19 (i + 1) _ ⟨hiF, x19.trans x21⟩ (by omega)
    · have hi2 : i = F.length := by omega
      subst hi2
      rw [List.take_length]
      refine iLdA (hB6.ext x619) rfl ?_
      have hup := ok_impl_UpsetOf hQ (hqN (hq6.ext x619)) (m := setOf F) (setOf_lt hFy)
      rw [map_upset hQ hFl hFy hFm, ← hn1] at hup
      refine iRet hup fun w22 x22 => ?_
      refine iEx (by rfl) (iEx (by rfl) ?_)
      refine iJnB false w22 (fun J hJ => ?_) (fun w24 x24 => fun _ => iCndF rfl ?_)
      · refine iAdd (by omega) (iNe (iCndF (by rfl) ?_))
        refine iNot (iCndF rfl ?_)
        refine iNe (iCndF (decide_eq_false fun h => h rfl) ?_)
        refine iFa (iLdB (hB6.ext (x619.trans x22)) (i := 0) (v := .int .i64 nq) rfl ?_)
        have hf9 := ok_laws_full9 hQ8 w22
        rw [← hn1] at hf9
        refine iRet hf9 fun w25 x25 => ?_
        refine iEq (iCndP (fun he => ?_) (fun _ => hJ _ x25))
        refine iNe ?_
        have he : setOf F = 2 ^ (frOf nq lq).n - 1 := by omega
        have h0 : (imageOut n l nq lq).2 = 0 := (image_zero hpp hpq).2 ⟨F, map_onto hP.ok hQ.ok hFL he⟩
        rw [h0]
        exact hJ _ x25
      · refine iAdd (by omega) ?_
        exact hKn (k + 1) _ ⟨hkA, (((x16.trans x17).trans x19).trans x22).trans x24⟩ (by omega)
  · refine iNe (iCndP (fun _ => ⟨by first | trivial | rfl, X16⟩) (fun h0 => ?_))
    have h0 : (imageOut n l nq lq).2 = 0 := Classical.not_not.1 h0
    obtain ⟨F, hF⟩ := (image_zero hpp hpq).1 h0
    have hbel := bel_onto hP.ok hQ.ok hF
    refine iCall ((ok_spec_DrawIsPosetValid (hc.ext X16)).mono ?_)
    rintro _ w26 ⟨x26', n', l', v', u, N, rfl, hov, hN, hou⟩
    refine iEx (by rfl) (iEx (by rfl) ?_)
    refine iNew fun b18 w27 hb18 x27 hB18 => ?_
    have hs26 := x26'.size
    refine iStAB hB18 rfl rfl ((hov.ext x27).pair n') fun w28 hu28 _ => ?_
    have x628 : Ext w6 w28 := (((x616.trans x26').trans x27).upd hu28 (by have := (x616.trans x26').size; omega))
    have X28 := X6.trans x628
    have hu : RawS w28 u N := by
      have h1 : Ext w26 w28 := x27.upd hu28 (by omega)
      exact (hou.ext h1).sl
    refine iLdA (hB3.ext x628) rfl ?_
    refine iCall ((ok_impl_IsPosetValid (hs6.ext x628) hu hou.cell (by omega)).mono ?_)
    rintro _ w29 ⟨x29, bp, cp, rfl, hvp⟩
    refine iEx (by rfl) (iEx (by rfl) ?_)
    have x629 := x628.trans x29
    refine iLdA (hB6.ext x629) rfl ?_
    refine iCall ((ok_impl_IsPosetValid (hq6.ext x629) (SlK.ext hu x29) hou.cell (by omega)).mono ?_)
    rintro _ w30 ⟨x30, bq, cq, rfl, hvq⟩
    refine iEx (by rfl) (iEx (by rfl) ?_)
    have x630 := x629.trans x30
    refine iJnB false w30 (fun J hJ => ?_) (fun w32 x32 => fun _ => iCndF rfl ?_)
    · refine iEq (iCndP (fun hc1 => ?_) (fun _ => hJ _ (Ext.refl _)))
      refine iEq (iCndP (fun hc2 => ?_) (fun _ => hJ _ (Ext.refl _)))
      obtain ⟨_, a, ha, _, _, hva⟩ := hvp hc1
      obtain ⟨_, a', ha', _, _, hva'⟩ := hvq hc2
      have e : a = a' := rawF_inj (by rw [← ha, ha'])
      subst e
      cases bp
      · exact iCndF rfl (hJ _ (Ext.refl _))
      · refine iCndT rfl (iNot ?_)
        have := hva'.2 (vld_bel hP hQ hbel (hva.1 rfl))
        rw [this]
        exact hJ _ (Ext.refl _)
    · have x632 := x630.trans x32
      refine iLdA (hB3.ext x632) rfl (iLdA (hB6.ext x632) rfl ?_)
      refine iCall ((ok_impl_FindPart (hs6.ext x632) (hq6.ext x632) n nq).mono ?_)
      rintro _ w33 ⟨x33, vp, rfl, hop⟩
      refine iEx (by rfl) (iEx (by rfl) (iEx (by rfl) ?_))
      have x633 := x632.trans x33
      have X33 := X6.trans x633
      obtain ⟨⟨m, G⟩, hmG⟩ := Option.isSome_iff_exists.1 ((bel_iff hP hQ.ok).2 hbel)
      have hpr : partRes n l nq lq = ((m : Int), nats G, 0) := by
        unfold partRes
        rw [hpp, hpq, hmG]
        rfl
      rw [hpr] at hop ⊢
      refine iJnB true w33 (fun J hJ => ?_) (fun w35 x35 => fun _ => ⟨rfl, X33.trans x35⟩)
      refine iEq (iCndT (by rfl) ?_)
      refine iLe (iCndT (decide_eq_true (by omega)) ?_)
      refine iLenS hop.sl ?_
      rw [ints_length, nats_length]
      refine iLt ?_
      refine iFa (iLdB (hB6.ext x633) (i := 0) (v := .int .i64 nq) rfl ?_)
      refine iLt ?_
      have h1 := part_len hP.ok hQ.ok hmG
      have e1 : decide ((0 : Int) < (G.length : Int)) = decide (0 < G.length) := decide_eq_decide.2 (by omega)
      have e2 : decide ((0 : Int) < nq) = decide (0 < (frOf nq lq).n) := decide_eq_decide.2 (by omega)
      rw [e1, e2, h1]
      refine ⟨_, _, rfl, rfl, ?_⟩
      rw [show (true == (decide (0 < (frOf nq lq).n) == decide (0 < (frOf nq lq).n))) = true by cases decide (0 < (frOf nq lq).n) <;> rfl]
      exact hJ _ (Ext.refl _)
end Go.Proofs.YtikfhibcdhdglaaGreat
