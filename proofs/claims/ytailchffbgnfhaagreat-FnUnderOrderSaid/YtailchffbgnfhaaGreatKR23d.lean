/- The proof of FnUnderOrder, part 4 of 5. Conditions: none. -/
import Derived.Test.YtailchffbgnfhaaGreatKR23c
/- Contracts: drawn posets (l16Shuffle, l16Some, l16Rooted, l16Draw) and lists of them (l34Some). Conditions: none. -/
namespace Go.Vc
theorem rnb_rel {a o : List Nat} {n : Nat} (ho : o.length = n) : RelOk n (rnb a o) := by
  refine ⟨by simp [rnb, ho], fun x hx => ?_⟩
  obtain ⟨y, _, rfl⟩ := List.mem_map.1 hx
  rw [← ho]
  exact sqzK_lt o (a.getD y 0) o.length
/-- One element of two cells. -/
theorem iBsA {w : World} {e : TypeId} {z0 z1 x y : Value} {K : Value → World → Prop}     (h : ∀ b w', b = w.heap.size ∧ w'.heap.size = b + 1 → Ext w w' → Blk e w' b [x, y] → K (.slice (some ⟨b, 0, none⟩) 1 1) w') :
    xBs e (Value.cells (.agg #[z0, z1])) 2 1 [(0, .agg #[x, y])] w K := by
  refine ⟨#[x, y], ?_, h _ _ ⟨rfl, by simp⟩ (Ext.alloc w _) (Blk.new w #[x, y] e)⟩
  simp [Instr.fill, Value.cells, show Array.range 2 = #[0, 1] from rfl]
theorem iBsA0 {w : World} {e : TypeId} {z0 z1 : Value} {K : Value → World → Prop}
    (h : ∀ v w', w'.heap.size = w.heap.size + 1 → Ext w w' → OwK 2 w.heap.size e w' v 0 [] → K v w') : xBs e (Value.cells (.agg #[z0, z1])) 2 0 [] w K := by
  refine ⟨_, rfl, h _ _ (by simp) (Ext.alloc w _) ?_⟩
  exact ⟨rfl, .inr ⟨w.heap.size, 0, _, rfl, Nat.le_refl _, heap_alloc_new w _, Nat.le_refl _, by simp [maxLen], by simp [show Array.range 0 = #[] from rfl], rfl⟩⟩
end Go.Vc
namespace Go.Proofs.YtailchffbgnfhaaGreat
open Go.Vc
theorem ok_spec_l16Shuffle {e : TypeId} (hne : t_i64 ≠ e) {w0 : World} {vc : Value} {bs : List Nat} (hc : SlB w0 vc bs) {b : Nat} {w : World} (hS : Src e w0 vc b w) (n : Nat) (hn : n ≤ 30) :
    Drw Tryz.prog f_spec_l16Shuffle #[.pointer (some ⟨b, 0, none⟩), .int .i64 (n : Int)] e w0 vc b w fun v w' => ∃ o : List Nat, o.length = n ∧ (∀ x ∈ o, x < n) ∧ Ow w.heap.size t_i64 w' v (ints (nats o)) := by
  apply c_spec_l16Shuffle; unfold S_spec_l16Shuffle
  refine iBs0 fun v0 w1 _ h1 ho => ?_
  refine iLp (fun s : Value × Nat => [s.1, .int .i64 (s.2 : Int)]) (fun s w' => s.2 ≤ n ∧ Ext w w' ∧ Ow w.heap.size t_i64 w' s.1 (ints (nats (List.range s.2)))) (fun s => n - s.2) (v0, 0) rfl ⟨Nat.zero_le _, h1, ho⟩ ?_
  rintro ⟨u, k⟩ w3 Kn ⟨hk, h3, ho3⟩ hKn
  have hk : k ≤ n := hk
  have ho3 : Ow w.heap.size t_i64 w3 u (ints (nats (List.range k))) := ho3
  (intro _; (try simp only [gx]); (with_reducible refine iLt ?_))
  refine iCndP (fun h4 => ?_) (fun h4 => ?_)
  · have hil : (ints (nats (List.range k))).length = k := by rw [ints_length, nats_length, List.length_range]
    refine iApp1 u_Si64 i_Si64 rfl ho3 rfl (by omega) (by omega) h3.size fun v' w5 ho' hg' => ?_
    rw [ints_snoc, ← List.range_succ] at ho'
    (refine iAdd (by omega) ?_)
    exact hKn (v', k + 1) _ ⟨by show k + 1 ≤ n; omega, h3.grown hg' (fun c hc => (ho3.blk c hc).1), ho'⟩ (by show n - (k + 1) < n - k; omega)
  · have ek : k = n := by omega
    subst ek
    (refine iSub (by omega) ?_)
    have hS3 := hS.later h3
    refine iLp (fun i : Int => [.int .i64 i]) (fun i w' => -1 ≤ i ∧ i < k ∧ Src e w0 vc b w' ∧ Ch (fun c => c = b) w w' ∧ ∃ o : List Nat, o.length = k ∧ (∀ x ∈ o, x < k) ∧ Ow w.heap.size t_i64 w' u (ints (nats o))) (fun i => (i + 1).toNat) ((k : Int) - 1) rfl ⟨by omega, by omega, hS3, h3.ch, List.range k, List.length_range, fun x hx => List.mem_range.1 hx, ho3⟩ ?_
    rintro i w7 Kn7 ⟨hi0, hi1, hS7, hC7, o, hol, hlt, ho7⟩ hKn7
    (intro _; (try simp only [gx]); (with_reducible refine iLt ?_))
    refine iCndP (fun h8 => ?_) (fun h8 => ⟨⟨o, hol, hlt, ho7⟩, hS7, hC7⟩)
    obtain ⟨m, rfl⟩ := Int.eq_ofNat_of_zero_le (show 0 ≤ i by omega)
    have hm : m < k := by omega
    have hil : ∀ p : List Nat, p.length = k → (ints (nats p)).length = k := fun p hp => by rw [ints_length, nats_length, hp]
    (refine iAdd (by omega) ?_)
    refine iCall ((ok_spec_l01Next hc hS7 ((m : Int) + 1)).mono ?_)
    rintro _ w8 ⟨⟨x, rfl, hx, _⟩, hS8, hch8⟩
    have hx := hx (by omega)
    have hxk : x < k := by omega
    have ho8 := ho7.ch hch8 (fun c hc h => hS7.neOw ho7 hne (by rw [hc, h]))
    have hs8 : SlN w8 u o := ho8.sl
    have hC8 := ch_self hC7 hch8
    have hgm : o.getD m 0 < k := by rw [getD_of_lt (by omega)]; exact hlt _ (List.getElem_mem (by omega))
    have hgx : o.getD x 0 < k := by rw [getD_of_lt (by omega)]; exact hlt _ (List.getElem_mem (by omega))
    refine iIaNN hs8 (by omega) fun p1 hp1 => ?_
    refine iLd hp1 ?_
    refine iIaNN hs8 (by omega) fun p2 hp2 => ?_
    refine iLd hp2 ?_
    have hoil := hil o hol
    refine iIaOwE ho8 (by omega) fun bu hbu hwr => ?_
    obtain ⟨hc1, hc2, hc3⟩ := hwr w8 _ rfl ho8
    rw [List.getElem?_eq_getElem (by omega)] at hc1
    refine iSt hc1 hc2 rfl ?_
    have ho9 := hc3 (.int .i64 ((o.getD x 0 : Nat) : Int))
    rw [← ints_nats_set] at ho9
    have hu9 := Upd.setCell w8 bu m (.int .i64 ((o.getD x 0 : Nat) : Int))
    have hbu1 := (ho8.blk bu hbu).1
    have hbub : b ≠ bu := fun e => hS8.neOw ho8 hne (by rw [hbu, e])
    have hlow := hS8.ext.size
    have hl2 : (o.set m (o.getD x 0)).length = k := by rw [List.length_set]; exact hol
    have hil2 := hil _ hl2
    refine iIaOwE ho9 (by omega) fun bu' hbu' hwr' => ?_
    have e : bu' = bu := by rw [hbu] at hbu'; injection hbu' with e; exact e.symm
    subst e
    obtain ⟨hd1, hd2, hd3⟩ := hwr' _ _ rfl ho9
    rw [List.getElem?_eq_getElem (by omega)] at hd1
    refine iSt hd1 hd2 rfl ?_
    have ho10 := hd3 (.int .i64 ((o.getD m 0 : Nat) : Int))
    rw [← ints_nats_set] at ho10
    have hu10 := Upd.setCell (w8.setCell ⟨bu', m, none⟩ (.int .i64 ((o.getD x 0 : Nat) : Int))) bu' x (.int .i64 ((o.getD m 0 : Nat) : Int))
    have hu := hu9.trans hu10
    have hwlo : w0.heap.size ≤ bu' := Nat.le_trans hS.ext.size hbu1
    (refine iSub (by omega) ?_)
    refine hKn7 ((m : Int) - 1) _ ⟨by omega, by omega, hS8.upd hu hbub hwlo, ch_new hC8 (hu.ch (S := fun c => c = bu') rfl) (fun c hc => by rw [hc]; exact hbu1) (Nat.le_refl _), _, by rw [List.length_set]; exact hl2, fun z hz => ?_, ho10⟩ (by omega)
    rcases List.mem_or_eq_of_mem_set hz with hz | hz
    · rcases List.mem_or_eq_of_mem_set hz with hz | hz
      · exact hlt z hz
      · rw [hz]; exact hgx
    · rw [hz]; exact hgm
theorem ok_spec_l16Some {e : TypeId} (hne : t_i64 ≠ e) {w0 : World} {vc : Value} {bs : List Nat} (hc : SlB w0 vc bs) {b : Nat} {w : World} (hS : Src e w0 vc b w) (size : Nat) (hw : size ≤ 30) :
    Drw Tryz.prog f_spec_l16Some #[.pointer (some ⟨b, 0, none⟩), .int .i64 (size : Int)] e w0 vc b w fun r w' => ∃ (n : Nat) (a : List Nat) (v : Value), r = .agg #[.int .i64 (n : Int), v] ∧ n ≤ size ∧ RelOk n a ∧ Ow w.heap.size t_i64 w' v (ints (nats a)) := by
  apply c_spec_l16Some; unfold S_spec_l16Some
  have hlow := hS.ext.size
  refine iNew fun b4 w1 hb4 h1 hB4 => ?_
  obtain ⟨e4, hne4, hB4⟩ : ∃ e', t_i64 ≠ e' ∧ Blk e' w1 b4 [.int .i64 0, .slice none 0 0] := ⟨_, by decide, hB4⟩
  have hbb4 : b4 ≠ b := by have := hS.lt; omega
  have hS1 := hS.later h1
  (refine iAdd (by omega) ?_)
  refine iCall ((ok_spec_l01Next hc hS1 ((size : Int) + 1)).mono ?_)
  rintro _ w2 ⟨⟨n, rfl, hnw, _⟩, hS2, hch2⟩
  have hnw := hnw (by omega)
  have hB2 := hB4.ch hch2 hbb4
  have hC2 := ch_self (h1.ch (S := fun c => c = b)) hch2
  refine iBs0 fun v17 w3 _ h3 ho3 => ?_
  have hS3 := hS2.later h3
  have hC3 := ch_ext hC2 h3
  have hB3 := hB2.ext h3
  have ho3 := ho3.mono (Nat.le_trans h1.size hch2.size)
  refine iCall ((ok_spec_l01Next hc hS3 3).mono ?_)
  rintro _ w4 ⟨⟨thin, rfl, hth, _⟩, hS4, hch4⟩
  have hth := hth (by omega)
  have hlo1 := h1.size
  have h62 : 2 ^ n ≤ 2 ^ 62 := Nat.pow_le_pow_right (by omega) (by omega)
  have hpos := Nat.two_pow_pos n
  -- the end: a copy, handed back
  have fin : ∀ (u : Value) (a : List Nat) (w' : World) (Q : Value → World → Prop), RelOk n a → Ow w.heap.size t_i64 w' u (ints (nats a)) → Src e w0 vc b w' → Ch (fun c => c = b) w w' → Blk e4 w' b4 [.int .i64 0, .slice none 0 0] →
      (∀ r w'', (∃ (n : Nat) (a : List Nat) (v : Value), r = .agg #[.int .i64 (n : Int), v] ∧ n ≤ size ∧ RelOk n a ∧ Ow w.heap.size t_i64 w'' v (ints (nats a))) ∧ Src e w0 vc b w'' ∧ Ch (fun c => c = b) w w'' → Q r w'') →
      callV Tryz.prog (.func (.func f_spec_l16Make) #[] #[]) [u] w' fun v w2 => xStA Tryz.prog w2 2 (.pointer (some ⟨b4, 0, none⟩)) v fun w3 => xLdA w3 2 (.pointer (some ⟨b4, 0, none⟩)) fun r => Q r w3 := by
    intro u a w' Q ha hu hSw hCw hBw hQ
    refine iCall ((ok_spec_l16Make hu.sl (by rw [ha.1]; omega)).mono ?_)
    rintro _ w5 ⟨h5, v', rfl, ho'⟩
    rw [ha.1]
    have hB5 := hBw.ext h5
    refine iStAB hB5 rfl rfl (ho'.pair _) fun w6 hu6 hB6 => ?_
    refine iLdA hB6 rfl ?_
    have hCs := hCw.size
    refine hQ _ _ ⟨⟨n, a, v', rfl, by omega, ha, (ho'.mono hCs).upd hu6 (fun e => by have := (ho'.blk b4 e).1; have := hBw.lt; omega)⟩, (hSw.later h5).upd hu6 (fun e => hbb4 e.symm) (by omega), ?_⟩
    exact (ch_ext hCw h5).trans (hu6.ch (S := fun c => c = b4) rfl) (fun c hc => .inr (by omega))
  refine iLp (fun s : Value × Nat => [s.1, .int .i64 (s.2 : Int)]) (fun s w' => s.2 ≤ n ∧ Src e w0 vc b w' ∧ Ch (fun c => c = b) w w' ∧ Blk e4 w' b4 [.int .i64 0, .slice none 0 0] ∧ ∃ l, l.length = s.2 ∧ (∀ x ∈ l, x < 2 ^ n) ∧ Ow w.heap.size t_i64 w' s.1 (ints (nats l))) (fun s => n - s.2) (v17, 0) rfl
    ⟨Nat.zero_le _, hS4, ch_self hC3 hch4, hB3.ch hch4 hbb4, [], rfl, fun x hx => by (cases hx), ho3.ch hch4 (fun c hc h => hS3.neOw ho3 hne (by rw [hc, h]))⟩ ?_
  rintro ⟨u, k⟩ w6 Kn ⟨hk, hS6, hC6, hB6, l, hl, hlt, ho6⟩ hKn
  have hk : k ≤ n := hk
  have hl : l.length = k := hl
  have ho6 : Ow w.heap.size t_i64 w6 u (ints (nats l)) := ho6
  (intro _; (try simp only [gx]); (with_reducible refine iLt ?_))
  refine iCndP (fun h7 => ?_) (fun h7 => ?_)
  · have hk1 : k < n := by omega
    refine iRet (ok_spec_l01Full n (by omega) w6) fun w7 h8 => ?_
    (refine iAdd (by omega) ?_)
    have hS7 := hS6.later h8
    refine iCall ((ok_spec_l01Next hc hS7 (((2 ^ n - 1 : Nat) : Int) + 1)).mono ?_)
    rintro _ w8 ⟨⟨x, rfl, hx, _⟩, hS8, hch8⟩
    have hx := hx (by omega)
    have hB7 := hB6.ext h8
    have ho7 := ho6.ext h8
    have ho8 := ho7.ch hch8 (fun c hc h => hS7.neOw ho7 hne (by rw [hc, h]))
    (refine iAdd (by omega) ?_)
    have e1 : (k : Int) + 1 = ((k + 1 : Nat) : Int) := by omega
    rw [e1]
    have h2k : 2 ^ (k + 1) ≤ 2 ^ 62 := Nat.pow_le_pow_right (by omega) (by omega)
    refine iRet (ok_spec_l01Full (k + 1) (by omega) w8) fun w9 h9 => ?_
    refine iBAndNot (by omega) (by omega) ?_
    have hx2 : sdiff x (2 ^ (k + 1) - 1) < 2 ^ n := sdiff_lt (by omega)
    have hS9 := hS8.later h9
    refine iLp (fun s : Nat × Nat => [.int .i64 (s.1 : Int), .int .i64 (s.2 : Int)]) (fun s w' => s.2 ≤ thin ∧ s.1 < 2 ^ n ∧ Src e w0 vc b w' ∧ Ch (fun c => c = b) w w' ∧ Blk e4 w' b4 [.int .i64 0, .slice none 0 0] ∧ Ow w.heap.size t_i64 w' u (ints (nats l))) (fun s => thin - s.2) (sdiff x (2 ^ (k + 1) - 1), 0) rfl
      ⟨Nat.zero_le _, hx2, hS9, ch_ext (ch_self (ch_ext hC6 h8) hch8) h9, (hB7.ch hch8 hbb4).ext h9, ho8.ext h9⟩ ?_
    rintro ⟨m, j⟩ wA KnA ⟨hj, hm, hSA, hCA, hBA, hoA⟩ hKnA
    have hj : j ≤ thin := hj
    have hm : m < 2 ^ n := hm
    (intro _; (try simp only [gx]); (with_reducible refine iLt ?_))
    refine iCndP (fun h9 => ?_) (fun h9 => ?_)
    · refine iRet (ok_spec_l01Full n (by omega) wA) fun wB hB => ?_
      (refine iAdd (by omega) ?_)
      have hSB := hSA.later hB
      have hoB := hoA.ext hB
      refine iCall ((ok_spec_l01Next hc hSB (((2 ^ n - 1 : Nat) : Int) + 1)).mono ?_)
      rintro _ wC ⟨⟨y, rfl, hy, _⟩, hSC, hchC⟩
      have hy := hy (by omega)
      refine iBAnd (by omega) (by omega) ?_
      (refine iAdd (by omega) ?_)
      exact hKnA (m &&& y, j + 1) _ ⟨by show j + 1 ≤ thin; omega, Nat.lt_of_le_of_lt Nat.and_le_left hm, hSC, ch_self (ch_ext hCA hB) hchC, (hBA.ext hB).ch hchC hbb4, hoB.ch hchC (fun c hc h => hSB.neOw hoB hne (by rw [hc, h]))⟩ (by show thin - (j + 1) < thin - j; omega)
    · have hil : (ints (nats l)).length = k := by rw [ints_length, nats_length, hl]
      have hCAs := hCA.size
      refine iApp1A u_Si64 i_Si64 rfl hoA rfl (by omega) (by omega) hCAs fun v' wD ho' hg' _ => ?_
      rw [ints_snoc] at ho'
      have hgc := grown_ch (S := fun c => u.ownBlock = some c) hg' (fun k hk => hk)
      (refine iAdd (by omega) ?_)
      refine hKn (v', k + 1) _ ⟨by show k + 1 ≤ n; omega, hSA.ch hgc (hSA.neOw hoA hne) (fun c hc => by have := (hoA.blk c hc).1; omega), ch_new hCA hgc (fun c hc => (hoA.blk c hc).1) (Nat.le_refl _), hBA.grown hg' (hoA.ne_blk hBA hne4), _, by rw [List.length_append, hl]; rfl, fun z hz => ?_, ho'⟩ (by show n - (k + 1) < n - k; omega)
      rcases List.mem_append.1 hz with hz | hz
      · exact hlt z hz
      · simp at hz; subst hz; exact hm
  · have ek : k = n := by omega
    have hrel : RelOk n l := ⟨by omega, hlt⟩
    refine iCall ((ok_spec_l01Reflexive (by omega) hrel ho6.sl).mono ?_)
    rintro u1 wA ⟨hA, a1, hr1, ho1⟩
    refine iCall ((ok_spec_l01Closure (by omega) hr1 ho1.sl).mono ?_)
    rintro u2 wB ⟨hB, a2, hr2, ho2⟩
    have hXB := hA.trans hB
    have hSB := hS6.later hXB
    have hCB := ch_ext hC6 hXB
    have hBB := hB6.ext hXB
    have ho2 := ho2.mono (Nat.le_trans hC6.size hA.size)
    refine iCall ((ok_spec_l01Next hc hSB 2).mono ?_)
    rintro _ wC ⟨⟨q, rfl, _, _⟩, hSC, hchC⟩
    have hCC := ch_self hCB hchC
    have hBC := hBB.ch hchC hbb4
    have hoC := ho2.ch hchC (fun c hc h => hSB.neOw ho2 hne (by rw [hc, h]))
    ((with_reducible refine iEq ?_))
    refine iCndP (fun h0 => ?_) (fun h0 => ?_)
    · exact fin u2 a2 wC _ hr2 hoC hSC hCC hBC (fun r w'' h => h)
    · refine iCall ((ok_spec_l16Shuffle hne hc hSC n (by omega)).mono ?_)
      rintro vo wD ⟨⟨o, hol, holt, hoo⟩, hSD, hchD⟩
      have hCD := ch_self hCC hchD
      have hBD := hBC.ch hchD hbb4
      have hoD := hoC.ch hchD (fun c hc h => hSC.neOw hoC hne (by rw [hc, h]))
      have hs2 : SlN wD u2 a2 := hoD.sl
      have hso : SlN wD vo o := hoo.sl
      refine iCall ((ok_spec_l05Renumber hs2 hso (by omega) (fun x hx => ⟨by rw [hr2.1]; exact holt x hx, by have := holt x hx; omega⟩) (fun x hx => Nat.lt_of_lt_of_le (hr2.2 x hx) h62)).mono ?_)
      rintro u3 wE ⟨hE, ho3'⟩
      exact fin u3 (rnb a2 o) wE _ (rnb_rel hol) (ho3'.mono hCD.size) (hSD.later hE) (ch_ext hCD hE) (hBD.ext hE) (fun r w'' h => h)
theorem ok_spec_l16JoinT {n : Nat} {a : List Nat} (hn : n ≤ 8) (ha : RelOk n a) {v u : Value} {w : World} (hs : SlN w v [1]) (ht : SlN w u a) : Cal Tryz.prog f_spec_l16Join #[.agg #[.int .i64 ((1 : Nat) : Int), v], .agg #[.int .i64 (n : Int), u], .bool true] w fun r w' => Ext w w' ∧ ∃ (l : List Nat) (v' : Value), RelOk (n + 1) l ∧ r = .agg #[.int .i64 ((n + 1 : Nat) : Int), v'] ∧ Ow w.heap.size t_i64 w' v' (ints (nats l)) := by
  apply c_spec_l16Join; unfold S_spec_l16Join
  have hal := ha.1
  have h28 : 2 ^ n ≤ 2 ^ 8 := Nat.pow_le_pow_right (by omega) hn
  have hpos := Nat.two_pow_pos n
  have hsucc : 2 ^ (n + 1) = 2 * 2 ^ n := by rw [Nat.pow_succ]; omega
  refine iNew fun b1 w1 hb1 h1 hB1 => ?_
  refine iNew fun b2 w2 hb2 h2 hB2 => ?_
  refine iNew fun b3 w3 hb3 h3 hB3 => ?_
  have hX3 := h1.trans (h2.trans h3)
  have hB1 : Blk _ w3 b1 [.int .i64 ((1 : Nat) : Int), v] := (hB1.ext h2).ext h3
  have hB2 : Blk _ w3 b2 [.int .i64 (n : Int), u] := hB2.ext h3
  refine iBs0 fun vo w4 _ h4 ho => ?_
  have hgo : ∀ y : Nat, y < 2 ^ n → y <<< 1 < 2 ^ (n + 1) := fun y hy => by rw [Nat.shiftLeft_eq]; omega
  refine iLp (fun s : Value × Nat => [s.1, .int .i64 (s.2 : Int)]) (fun s w' => s.2 ≤ 1 ∧ Ext w3 w' ∧ ∃ l : List Nat, l.length = s.2 ∧ (∀ x ∈ l, x < 2 ^ (n + 1)) ∧ Ow w3.heap.size t_i64 w' s.1 (ints (nats l))) (fun s => 1 - s.2) (vo, 0) rfl ⟨Nat.zero_le _, h4, [], rfl, fun x hx => by (cases hx), ho⟩ ?_
  rintro ⟨vo, k⟩ w6 Kn ⟨hk, h6, l, hl, hlt, ho6⟩ hKn
  have hk : k ≤ 1 := hk
  have hl : l.length = k := hl
  have ho6 : Ow w3.heap.size t_i64 w6 vo (ints (nats l)) := ho6
  have hB16 := hB1.ext h6
  have hB26 := hB2.ext h6
  have hs6 := hs.ext (hX3.trans h6)
  (intro _; (try simp only [gx]); (with_reducible refine iFa ?_); refine iLdB (by assumption) (by first | rfl | simp) ?_; (with_reducible refine iLenN (by assumption) ?_; refine iLt ?_))
  refine iCndP (fun h7 => ?_) (fun h7 => ?_)
  · have hk0 : k = 0 := by simp at h7; omega
    subst hk0
    refine iFa ?_
    refine iLdB hB16 (by first | rfl | simp) ?_
    refine iIaNN hs6 (j := 0) (by simp) fun p hp => ?_
    refine iLd hp ?_
    refine iJn ?_
    refine iCndT rfl ?_
    refine iFa ?_
    refine iLdB hB26 (by first | rfl | simp) ?_
    refine iRetQ (fun w' _ => ok_spec_l01Full n (by omega) w') ?_
    refine iFa ?_
    refine iLdB hB16 (by first | rfl | simp) ?_
    refine iConvU (by omega) ?_
    refine iShlN (a := 2 ^ n - 1) (k := 1) (by omega) (by omega) ?_
    have h2n : (2 ^ n - 1) <<< 1 < 2 ^ (n + 1) := hgo _ (by omega)
    have h29 : 2 ^ (n + 1) ≤ 2 ^ 9 := Nat.pow_le_pow_right (by omega) (by omega)
    refine iBOr (a := ([1] : List Nat).getD 0 0) (b := (2 ^ n - 1) <<< 1) (by show (1 : Nat) < 2 ^ 63; omega) (by omega) ?_
    intro w9 h9
    (intro _; (try simp only [gx]))
    have hm : ([1] : List Nat).getD 0 0 ||| (2 ^ n - 1) <<< 1 < 2 ^ (n + 1) := Nat.or_lt_two_pow (by show (1 : Nat) < _; omega) h2n
    have ho9 := ho6.ext h9
    have hil : (ints (nats l)).length = 0 := by rw [ints_length, nats_length, hl]
    refine iApp1 u_Si64 i_Si64 rfl ho9 rfl (by omega) (by omega) (h6.trans h9).size fun v' wB ho' hg' => ?_
    rw [ints_snoc] at ho'
    (refine iAdd (by omega) ?_)
    refine hKn (v', 1) _ ⟨Nat.le_refl _, (h6.trans h9).grown hg' (fun c hc => (ho9.blk c hc).1), _, by rw [List.length_append, hl]; rfl, fun x hx => ?_, ho'⟩ (by show 1 - 1 < 1 - 0; omega)
    rcases List.mem_append.1 hx with hx | hx
    · exact hlt x hx
    · simp only [List.mem_singleton] at hx; subst hx; exact hm
  · have hk1 : k = 1 := by simp at h7; omega
    subst hk1
    refine iLp (fun s : Value × Nat => [s.1, .int .i64 (s.2 : Int)]) (fun s w' => s.2 ≤ n ∧ Ext w3 w' ∧ ∃ l : List Nat, l.length = 1 + s.2 ∧ (∀ x ∈ l, x < 2 ^ (n + 1)) ∧ Ow w3.heap.size t_i64 w' s.1 (ints (nats l))) (fun s => n - s.2) (vo, 0) rfl ⟨Nat.zero_le _, h6, l, hl, hlt, ho6⟩ ?_
    rintro ⟨vo', k⟩ w13 Kn' ⟨hk, h13, l', hl', hlt', ho13⟩ hKn'
    have hk : k ≤ n := hk
    have hl' : l'.length = 1 + k := hl'
    have ho13 : Ow w3.heap.size t_i64 w13 vo' (ints (nats l')) := ho13
    have hB113 := hB1.ext h13
    have hB213 := hB2.ext h13
    have ht13 := ht.ext (hX3.trans h13)
    (intro _; (try simp only [gx]); (with_reducible refine iFa ?_); refine iLdB (by assumption) (by first | rfl | simp) ?_; (with_reducible refine iLenN (by assumption) ?_; refine iLt ?_))
    refine iCndP (fun h8 => ?_) (fun h8 => ?_)
    · have hk1 : k < n := by omega
      have hgk : a.getD k 0 < 2 ^ n := ha.get (by omega) k
      ((with_reducible refine iFa ?_); refine iLdB (by assumption) (by first | rfl | simp) ?_; (with_reducible refine iIaNN (by assumption) ?_ (fun pa_ hpa_ => ?_)); omega; (with_reducible refine iLd (by assumption) ?_; refine iFa ?_); refine iLdB (by assumption) (by first | rfl | simp) ?_)
      refine iConvU (by omega) ?_
      refine iShlN (k := 1) (by omega) (by omega) ?_
      intro w14 hA
      refine iBs1 rfl rfl fun bb w15 hbb hC hBb => ?_
      (try refine ⟨hC, ?_⟩)
      intro w16 hD
      have hX16 := h13.trans (hA.trans (hC.trans hD))
      have ho16 := ((ho13.ext hA).ext hC).ext hD
      have hil : (ints (nats l')).length = 1 + k := by rw [ints_length, nats_length, hl']
      refine iApp u_Si64 i_Si64 rfl ho16 (Sl.ofBlk (hBb.ext hD) rfl (by omega)) (fun x hx => by simp at hx; subst hx; rfl) (by simp only [List.length_singleton]; omega) (by simp only [List.length_singleton]; omega) hX16.size fun v' wB ho' hg' => ?_
      rw [ints_snoc] at ho'
      intro w18 hE
      (refine iAdd (by omega) ?_)
      refine hKn' (v', k + 1) _ ⟨by show k + 1 ≤ n; omega, (hX16.grown hg' (fun c hc => (ho16.blk c hc).1)).trans hE, _, by rw [List.length_append, hl']; rfl, fun x hx => ?_, ho'.ext hE⟩ (by show n - (k + 1) < n - k; omega)
      rcases List.mem_append.1 hx with hx | hx
      · exact hlt' x hx
      · simp only [List.mem_singleton] at hx; subst hx; exact hgo _ hgk
    · have hk2 : k = n := by omega
      subst hk2
      have hsl : SlN w13 vo' l' := ho13.sl
      refine iCall ((ok_spec_l16Make hsl (by omega)).mono ?_)
      rintro _ w19 ⟨h19, v', rfl, ho'⟩
      rw [hl', Nat.add_comm]
      have hB3 := (hB3.ext h13).ext h19
      have hX19 := hX3.trans (h13.trans h19)
      have hXs := (hX3.trans h13).size
      have hne : v'.ownBlock ≠ some b3 := fun e => by
        have := (ho'.blk b3 e).1
        have h3s := h3.size
        have h13s := h13.size
        omega
      have hsz := (h1.trans h2).size
      refine iStAB hB3 rfl rfl (ho'.pair _) fun w20 hu hB20 => ?_
      refine iLdA hB20 rfl ?_
      exact ⟨hX19.upd hu (by omega), l', _, ⟨by omega, hlt'⟩, rfl, (ho'.mono hXs).upd hu hne⟩
end Go.Proofs.YtailchffbgnfhaaGreat

/- Contracts: drawn posets (l16Rooted, l16Draw) and lists of them (l34Some, DrawGreatestLogics). Conditions: none. -/
namespace Go.Vc
/-- A list of structs in a row of the call's own, each with a slice of its own. -/
def PsOw (e0 : TypeId) (e : TypeId) (lo : Nat) (w : World) (v : Value) (rows : List (Int × Value × List Int)) : Prop :=
  OwK 2 lo e w v rows.length (rows.flatMap fun r => [.int .i64 r.1, r.2.1]) ∧ ∀ r ∈ rows, Ow lo e0 w r.2.1 (ints r.2.2)
theorem flat2_get {α : Type} (f g : α → Value) : ∀ (l : List α) (i : Nat) (x : α), l[i]? = some x → (l.flatMap fun r => [f r, g r])[2 * i]? = some (f x) ∧ (l.flatMap fun r => [f r, g r])[2 * i + 1]? = some (g x)
  | [], i, x, h => by simp at h
  | a :: l, 0, x, h => by simp at h; subst h; simp
  | a :: l, i + 1, x, h => by
    have := flat2_get f g l i x (by simpa using h)
    rw [show 2 * (i + 1) = 2 * i + 2 by omega, show 2 * i + 2 + 1 = 2 * i + 1 + 2 by omega]
    simpa using this
theorem PsOw.sl {e0 e : TypeId} {lo : Nat} {w : World} {v : Value} {rows : List (Int × Value × List Int)} (h : PsOw e0 e lo w v rows) : SlP w v (rows.map fun r => (r.1, r.2.2)) := by
  obtain ⟨h1, h2⟩ := h
  obtain ⟨h0, a, c, hv, hc1, hc2, h3⟩ := h1.sl
  refine ⟨a, c, by rw [List.length_map]; exact hv, by rw [List.length_map]; exact hc1, hc2, ?_⟩
  rcases h3 with h3 | ⟨b, o, ha, hcell⟩
  · left
    have : rows = [] := List.length_eq_zero_iff.1 h3
    rw [this]; rfl
  · right
    refine ⟨b, o, ha, fun i n l hi => ?_⟩
    rw [List.getElem?_map] at hi
    obtain ⟨r, hr, e⟩ := Option.map_eq_some_iff.1 hi
    simp only [Prod.mk.injEq] at e
    obtain ⟨rfl, rfl⟩ := e
    have hil : i < rows.length := (List.getElem?_eq_some_iff.1 hr).1
    have hg := flat2_get (fun r : Int × Value × List Int => Value.int .i64 r.1) (fun r => r.2.1) rows i r hr
    refine ⟨r.2.1, ?_, ?_, (h2 r (List.mem_of_getElem? hr)).sl⟩
    · rw [hcell _ (by omega)]; exact hg.1
    · rw [Nat.add_assoc, hcell _ (by omega)]; exact hg.2
theorem PsOw.ch {e0 e : TypeId} {lo : Nat} {S : Nat → Prop} {w w' : World} {v : Value} {rows : List (Int × Value × List Int)} (h : PsOw e0 e lo w v rows) (k : Ch S w w') (hv : ∀ c, v.ownBlock = some c → ¬ S c) (hr : ∀ r ∈ rows, ∀ c, r.2.1.ownBlock = some c → ¬ S c) : PsOw e0 e lo w' v rows :=
  ⟨h.1.ch k hv, fun r hm => (h.2 r hm).ch k (hr r hm)⟩
theorem PsOw.ext {e0 e : TypeId} {lo : Nat} {w w' : World} {v : Value} {rows : List (Int × Value × List Int)} (h : PsOw e0 e lo w v rows) (k : Ext w w') : PsOw e0 e lo w' v rows := ⟨h.1.ext k, fun r hm => (h.2 r hm).ext k⟩
theorem OwK.ne_ow {k lo lo' : Nat} {e e' : TypeId} {w : World} {v v' : Value} {n : Nat} {xs xs' : List Value} {c : Nat} (h : OwK k lo e w v n xs) (h' : Ow lo' e' w v' xs') (hne : e ≠ e') (hc : v.ownBlock = some c) : v'.ownBlock ≠ some c := by
  intro hc'
  obtain ⟨cur, h1⟩ := h.ty hc
  obtain ⟨cur', h2⟩ := h'.ty hc'
  rw [h1] at h2
  injection h2 with hb
  injection hb with _ hb _
  exact hne hb
end Go.Vc
namespace Go.Proofs.YtailchffbgnfhaaGreat
open Go.Vc
theorem ok_spec_l16Rooted {e : TypeId} (hne : t_i64 ≠ e) {w0 : World} {vc : Value} {bs : List Nat} (hc : SlB w0 vc bs) {b : Nat} {w : World} (hS : Src e w0 vc b w) (size : Nat) (hw : size ≤ 8) :
    Drw Tryz.prog f_spec_l16Rooted #[.pointer (some ⟨b, 0, none⟩), .int .i64 ((size + 1 : Nat) : Int)] e w0 vc b w fun r w' => ∃ (n : Nat) (a : List Nat) (v : Value), r = .agg #[.int .i64 (n : Int), v] ∧ n ≤ size + 1 ∧ RelOk n a ∧ Ow w.heap.size t_i64 w' v (ints (nats a)) := by
  apply c_spec_l16Rooted; unfold S_spec_l16Rooted
  have hlow := hS.ext.size
  refine iNew fun b4 w1 hb4 h1 hB4 => ?_
  obtain ⟨e4, hne4, hB4⟩ : ∃ e', t_i64 ≠ e' ∧ Blk e' w1 b4 [.int .i64 0, .slice none 0 0] := ⟨_, by decide, hB4⟩
  have hbb4 : b4 ≠ b := by have := hS.lt; omega
  refine iBs1 rfl rfl fun bb w2 hbb h2 hBb => ?_
  have hsb : SlN w2 (.slice (some ⟨bb, 0, none⟩) 1 1) [1] := Sl.ofBlk hBb rfl (by omega)
  refine iCall ((ok_spec_l16Make hsb (by simp)).mono ?_)
  rintro _ w3 ⟨h3, vp, rfl, hop⟩
  have hX3 := h1.trans (h2.trans h3)
  have hS3 := hS.later hX3
  (refine iSub (by omega) ?_)
  have e1 : ((size + 1 : Nat) : Int) - 1 = (size : Int) := by omega
  rw [e1]
  refine iCall ((ok_spec_l16Some hne hc hS3 size (by omega)).mono ?_)
  rintro _ w4 ⟨⟨n, a, v, rfl, hn, ha, hov⟩, hS4, hch4⟩
  have hop4 := hop.ch hch4 (fun c hc h => hS3.neOw hop hne (by rw [hc, h]))
  refine iCall ((ok_spec_l16JoinT (by omega) ha hop4.sl hov.sl).mono ?_)
  rintro _ w5 ⟨h5, l, v', hl, rfl, hov'⟩
  have hB5 := (((hB4.ext h2).ext h3).ch hch4 hbb4).ext h5
  have hC4 : Ch (fun c => c = b) w w4 := ch_self hX3.ch hch4
  have hC5 := ch_ext hC4 h5
  refine iStAB hB5 rfl rfl (hov'.pair _) fun w6 hu hB6 => ?_
  refine iLdA hB6 rfl ?_
  have hlo' := hov'.mono hC4.size
  refine ⟨⟨n + 1, l, v', rfl, by omega, hl, hlo'.upd hu (hlo'.ne_blk hB5 hne4)⟩, (hS4.later h5).upd hu (fun e => hbb4 e.symm) (by omega), hC5.trans (hu.ch (S := fun c => c = b4) rfl) (fun c hc => .inr (by omega))⟩
theorem ok_spec_l16Draw {e : TypeId} (hne : t_i64 ≠ e) {w0 : World} {vc : Value} {bs : List Nat} (hc : SlB w0 vc bs) {b : Nat} {w : World} (hS : Src e w0 vc b w) (size : Nat) (hw : size ≤ 8) :
    Drw Tryz.prog f_spec_l16Draw #[.pointer (some ⟨b, 0, none⟩), .int .i64 ((size + 1 : Nat) : Int)] e w0 vc b w fun r w' => ∃ (n : Int) (l : List Int) (v : Value), r = .agg #[.int .i64 n, v] ∧ l.length ≤ size + 2 ∧ Ow w.heap.size t_i64 w' v (ints l) := by
  apply c_spec_l16Draw; unfold S_spec_l16Draw
  have hlow := hS.ext.size
  refine iNew fun b4 w1 hb4 h1 hB4 => ?_
  obtain ⟨e4, hne4, hB4⟩ : ∃ e', t_i64 ≠ e' ∧ Blk e' w1 b4 [.int .i64 0, .slice none 0 0] := ⟨_, by decide, hB4⟩
  have hbb4 : b4 ≠ b := by have := hS.lt; omega
  have hS1 := hS.later h1
  refine iCall ((ok_spec_l16Some hne hc hS1 (size + 1) (by omega)).mono ?_)
  rintro _ w2 ⟨⟨n, a, v, rfl, hnw, ha, ho2⟩, hS2, hch2⟩
  have hB2 := hB4.ch hch2 hbb4
  have hC2 := ch_self (h1.ch (S := fun c => c = b)) hch2
  have hs1 := h1.size
  have ho2 := ho2.mono hs1
  refine iNew fun b5 w3 hb5 h3 hB5 => ?_
  have hC2s := hC2.size
  have hS3 := hS2.later h3
  have hbb5 : b5 ≠ b := by have := hS2.lt; omega
  have hb45 : b4 ≠ b5 := by have := hB2.lt; omega
  have hB3 := hB2.ext h3
  have ho3 := ho2.ext h3
  refine iStAB hB5 rfl rfl (ho3.pair _) fun w4 hu hB5' => ?_
  obtain ⟨e5, hne5, hB5⟩ : ∃ e', t_i64 ≠ e' ∧ Blk e' w4 b5 [.int .i64 (n : Int), v] := ⟨_, by decide, hB5'⟩
  have hS4 := hS3.upd hu (fun e => hbb5 e.symm) (by omega)
  have hC4 : Ch (fun c => c = b) w w4 := (ch_ext hC2 h3).trans (hu.ch (S := fun c => c = b5) rfl) (fun c hc => .inr (by omega))
  have hB4' := hB3.upd hu hb45
  have ho4 := ho3.upd hu (fun e => by have := (ho2.blk b5 e).2; omega)
  refine iCall ((ok_spec_l01Next hc hS4 3).mono ?_)
  rintro _ w5 ⟨⟨q0, rfl, _, _⟩, hS5, hch5⟩
  have hC5 := ch_self hC4 hch5
  have hB45 := hB4'.ch hch5 hbb4
  have hB55 := hB5.ch hch5 hbb5
  have ho5 := ho4.ch hch5 (fun c hc h => hS4.neOw ho4 hne (by rw [hc, h]))
  -- the end
  have fin : ∀ (m : Int) (l : List Int) (u : Value) (w' : World) (Q : Value → World → Prop), l.length ≤ size + 2 → Ow w.heap.size t_i64 w' u (ints l) → Src e w0 vc b w' → Ch (fun c => c = b) w w' → Blk e4 w' b4 [.int .i64 0, .slice none 0 0] → Blk e5 w' b5 [.int .i64 m, u] →
      (∀ r w'', (∃ (n : Int) (l : List Int) (v : Value), r = .agg #[.int .i64 n, v] ∧ l.length ≤ size + 2 ∧ Ow w.heap.size t_i64 w'' v (ints l)) ∧ Src e w0 vc b w'' ∧ Ch (fun c => c = b) w w'' → Q r w'') →
      xLdA w' 2 (.pointer (some ⟨b5, 0, none⟩)) fun v47 => xStA Tryz.prog w' 2 (.pointer (some ⟨b4, 0, none⟩)) v47 fun w9 => xLdA w9 2 (.pointer (some ⟨b4, 0, none⟩)) fun r => Q r w9 := by
    intro m l u w' Q hl hu hSw hCw hB4w hB5w hQ
    refine iLdA hB5w rfl ?_
    refine iStAB hB4w rfl rfl (hu.pair _) fun w6 hu6 hB6 => ?_
    refine iLdA hB6 rfl ?_
    exact hQ _ _ ⟨⟨m, l, u, rfl, hl, hu.upd hu6 (hu.ne_blk hB4w hne4)⟩, hSw.upd hu6 (fun e => hbb4 e.symm) (by omega), hCw.trans (hu6.ch (S := fun c => c = b4) rfl) (fun c hc => .inr (by omega))⟩
  -- the first choice
  ((with_reducible refine iEq ?_))
  refine iJnX (fun xs wq => xs = [] ∧ ∃ (n : Nat) (a : List Nat) (v : Value), n ≤ size + 1 ∧ RelOk n a ∧ Ow w.heap.size t_i64 wq v (ints (nats a)) ∧ Src e w0 vc b wq ∧ Ch (fun c => c = b) w wq ∧ Blk e4 wq b4 [.int .i64 0, .slice none 0 0] ∧ Blk e5 wq b5 [.int .i64 (n : Int), v]) (fun J hJ => ?_) ?_
  · refine iCndP (fun h3' => ?_) (fun h3' => ?_)
    · refine iCall ((ok_spec_l16Rooted hne hc hS5 size hw).mono ?_)
      rintro _ w8 ⟨⟨n', a', v', rfl, hn', ha', ho8⟩, hS8, hch8⟩
      have hB48 := hB45.ch hch8 hbb4
      have hB58 := hB55.ch hch8 hbb5
      have hC8 := ch_self hC5 hch8
      have ho8 := ho8.mono hC5.size
      refine iStAB hB58 rfl rfl (ho8.pair _) fun w9 hu9 hB59 => ?_
      exact hJ [] w9 ⟨rfl, n', a', v', hn', ha', ho8.upd hu9 (ho8.ne_blk hB58 hne5), hS8.upd hu9 (fun e => hbb5 e.symm) (by omega), hC8.trans (hu9.ch (S := fun c => c = b5) rfl) (fun c hc => .inr (by omega)), hB48.upd hu9 hb45, hB59⟩
    · exact hJ [] w5 ⟨rfl, n, a, v, hnw, ha, ho5, hS5, hC5, hB45, hB55⟩
  clear ho2 ho3 ho4 ho5 hnw ha hB5 hB5' hB55 hu
  rintro _ wq ⟨rfl, n, a, v, hnw, ha, hoq, hSq, hCq, hB4q, hB5q⟩
  intro _
  have hal : (nats a).length = n := by rw [nats_length, ha.1]
  refine iCall ((ok_spec_l01Next hc hSq 40).mono ?_)
  rintro _ w5 ⟨⟨q, rfl, _, _⟩, hS5, hch5⟩
  have hC5 := ch_self hCq hch5
  have hB45 := hB4q.ch hch5 hbb4
  have hB55 := hB5q.ch hch5 hbb5
  have ho5 := hoq.ch hch5 (fun c hc h => hSq.neOw hoq hne (by rw [hc, h]))
  ((with_reducible refine iEq ?_))
  refine iCndP (fun h0 => ?_) (fun h0 => ?_)
  · ((with_reducible refine iFa ?_); refine iLdB (by assumption) (by first | rfl | simp) ?_; refine iAdd (by omega) ?_)
    refine iBs3 rfl rfl rfl rfl fun c w6 hc6 h6 hB6 => ?_
    have hS6 := hS5.later h6
    have hcb : c ≠ b := by have := hS5.lt; omega
    refine iCall ((ok_spec_l01Pick hc hS6 (l := [-1, 9, (n : Int) + 1]) rfl hB6 hcb (by simp) (by simp)).mono ?_)
    rintro _ w7 ⟨⟨x, rfl, _⟩, hS7, hch7⟩
    have hB57 := (hB55.ext h6).ch hch7 hbb5
    have hB47 := (hB45.ext h6).ch hch7 hbb4
    have ho6 := ho5.ext h6
    have ho7 := ho6.ch hch7 (fun c hc h => hS6.neOw ho6 hne (by rw [hc, h]))
    ((with_reducible refine iFa ?_))
    refine iStB hB57 (by simp) rfl fun hB58 => ?_
    have hu8 := Upd.setCell w7 b5 0 (.int .i64 x)
    exact fin x (nats a) v _ _ (by omega) (ho7.upd hu8 (ho7.ne_blk hB57 hne5)) (hS7.upd hu8 (fun e => hbb5 e.symm) (by omega)) ((ch_self (ch_ext hC5 h6) hch7).trans (hu8.ch (S := fun c => c = b5) rfl) (fun c hc => .inr (by omega))) (hB47.upd hu8 hb45) hB58 (fun r w'' h => h)
  ((with_reducible refine iEq ?_))
  refine iCndP (fun h1' => ?_) (fun h1' => ?_)
  · ((with_reducible refine iFa ?_); refine iLdB (by assumption) (by first | rfl | simp) ?_)
    refine iCall ((ok_spec_l01Own ho5.sl (by omega)).mono ?_)
    rintro u w11 ⟨h11, hou⟩
    have hC5s := hC5.size
    have hil : (ints (nats a)).length = n := by rw [ints_length, hal]
    refine iApp1A u_Si64 i_Si64 rfl hou rfl (by omega) (by omega) h11.size fun v' w13 ho' hg' _ => ?_
    have hX13 : Ext w5 w13 := h11.grown hg' (fun c hc => (hou.blk c hc).1)
    have hB513 := hB55.ext hX13
    ((with_reducible refine iFa ?_))
    refine iStB hB513 (by simp) ho'.cell fun hB514 => ?_
    have hu14 := Upd.setCell w13 b5 1 v'
    have e1 : ints (nats a) ++ [.int .i64 0] = ints (nats a ++ [0]) := by simp [ints]
    rw [e1] at ho'
    have ho13 := ho'.mono hC5s
    exact fin (n : Int) (nats a ++ [0]) v' _ _ (by rw [List.length_append, hal]; simp; omega) (ho13.upd hu14 (ho13.ne_blk hB513 hne5)) ((hS5.later hX13).upd hu14 (fun e => hbb5 e.symm) (by omega)) ((ch_ext hC5 hX13).trans (hu14.ch (S := fun c => c = b5) rfl) (fun c hc => .inr (by omega))) ((hB45.ext hX13).upd hu14 hb45) hB514 (fun r w'' h => h)
  ((with_reducible refine iEq ?_))
  refine iCndP (fun h2' => ?_) (fun h2' => ?_)
  · ((with_reducible refine iFa ?_); refine iLdB (by assumption) (by first | rfl | simp) ?_; (with_reducible refine iLt ?_))
    refine iCndP (fun hn0 => ?_) (fun hn0 => ?_)
    · have hst : ∀ (w' : World) (i : Nat) (x : Value), [Value.int .i64 (n : Int), v][i]? = some x → Ch (fun c => c = b) w5 w' → xLd w' (.pointer (some ⟨b5, i, none⟩)) fun u => u = x := fun w' i x hx hc' => iLdB (hB55.ch hc' hbb5) hx rfl
      refine ⟨fun c => c = b, ?_⟩
      ((with_reducible refine iFa ?_); refine iLdB (by assumption) (by first | rfl | simp) ?_)
      refine ⟨fun w' h => hst w' 1 _ rfl h, ?_⟩
      ((with_reducible refine iFa ?_); refine iLdB (by assumption) (by first | rfl | simp) ?_)
      refine ⟨fun w' h => hst w' 0 _ rfl h, ?_⟩
      ((with_reducible refine iFa ?_); refine iLdB (by assumption) (by first | rfl | simp) ?_)
      refine ⟨fun w' h => hst w' 0 _ rfl h, ?_⟩
      intro w21 h21
      have hS21 := hS5.later h21
      refine iCall ((ok_spec_l01Next hc hS21 (n : Int)).mono ?_)
      rintro _ w22 ⟨⟨x, rfl, hx, _⟩, hS22, hch22⟩
      have hx := hx (by omega)
      refine ⟨hch22, ?_⟩
      refine ⟨_, fun w' _ => iRet (ok_spec_l01Full n (by omega) w') fun w'' h => ⟨rfl, h⟩, ?_⟩
      have h62 : 2 ^ n ≤ 2 ^ 62 := Nat.pow_le_pow_right (by omega) (by omega)
      (refine iAdd (by omega) ?_)
      intro w23 h23
      have hS23 := hS22.later h23
      refine iCall ((ok_spec_l01Next hc hS23 (((2 ^ n - 1 : Nat) : Int) + 2)).mono ?_)
      rintro _ w26 ⟨⟨y, rfl, hy, _⟩, hS26, hch26⟩
      have hy := hy (by omega)
      refine ⟨hch26, ?_⟩
      (refine iSub (by omega) ?_)
      have hch526 : Ch (fun c => c = b) w5 w26 := ch_self (ch_ext (ch_self (h21.ch) hch22) h23) hch26
      have ho26 := ho5.ch hch526 (fun c hc h => hS5.neOw ho5 hne (by rw [hc, h]))
      have hil : (ints (nats a)).length = n := by rw [ints_length, hal]
      refine iIaOwE ho26 (by omega) fun bu hbu hwr => ?_
      intro w27 h27
      have ho27 := ho26.ext h27
      obtain ⟨hc1, hc2, hc3⟩ := hwr w27 _ rfl ho27
      rw [List.getElem?_eq_getElem (by omega)] at hc1
      refine iSt hc1 hc2 rfl ?_
      have ho28 := hc3 (.int .i64 ((y : Int) - 1))
      have e1 : (ints (nats a)).set x (.int .i64 ((y : Int) - 1)) = ints ((nats a).set x ((y : Int) - 1)) := by simp [ints, List.map_set]
      rw [e1] at ho28
      have hu28 := Upd.setCell w27 bu x (.int .i64 ((y : Int) - 1))
      have hbu1 := (ho26.blk bu hbu).1
      have hB527 := (hB55.ch hch526 hbb5).ext h27
      have hB427 := (hB45.ch hch526 hbb4).ext h27
      have hbu5 : b5 ≠ bu := fun e => ho27.ne_blk hB527 hne5 (by rw [hbu, e])
      have hbu4 : b4 ≠ bu := fun e => ho27.ne_blk hB427 hne4 (by rw [hbu, e])
      have hS27 := hS26.later h27
      have hbub : b ≠ bu := fun e => hS27.neOw ho27 hne (by rw [hbu, e])
      intro w29 h29
      exact fin (n : Int) ((nats a).set x ((y : Int) - 1)) v w29 _ (by rw [List.length_set]; omega) (ho28.ext h29) ((hS27.upd hu28 hbub (by omega)).later h29) (ch_ext ((ch_ext (ch_self hC5 hch526) h27).trans (hu28.ch (S := fun c => c = bu) rfl) (fun c hc => .inr (by omega))) h29) ((hB427.upd hu28 hbu4).ext h29) ((hB527.upd hu28 hbu5).ext h29) (fun r w'' h => h)
    · exact fin (n : Int) (nats a) v w5 _ (by omega) ho5 hS5 hC5 hB45 hB55 (fun r w'' h => h)
  · exact fin (n : Int) (nats a) v w5 _ (by omega) ho5 hS5 hC5 hB45 hB55 (fun r w'' h => h)
theorem PsOw.app {lo : Nat} {w : World} {v u : Value} {rows : List (Int × Value × List Int)} {n : Int} {l : List Int} {K : Value → World → Prop} (hp : PsOw t_i64 t_impl_Poset lo w v rows) (hu : Ow lo t_i64 w u (ints l)) (hlo : lo ≤ w.heap.size) (hb : rows.length ≤ 1000)
    (hk : ∀ v' w', PsOw t_i64 t_impl_Poset lo w' v' (rows ++ [(n, u, l)]) → w.grownBy w' v.ownBlock → (∀ c, v.ownBlock = some c → lo ≤ c) → K v' w') :
    xBs t_impl_Poset (Value.cells (.agg #[.int .i64 0, .slice none 0 0])) 2 1 [(0, .agg #[.int .i64 n, u])] w fun y w1 => xOp Tryz.prog (Builtin.append_ #[t_Simpl_Poset, t_Simpl_Poset] t_Simpl_Poset #[v, y]) w1 K := by
  refine iBsA fun b w1 hb1 h1 hB => ?_
  have hs := (OwK.ofBlk (k := 2) (lo := w.heap.size) hB (by omega) rfl (by omega)).sl
  refine iAppK (k := 2) u_Simpl_Poset i_Simpl_Poset rfl (by omega) (hp.1.ext h1) hs (fun x hx => ?_) (by omega) (by omega) (Nat.le_trans hlo h1.size) fun v' w' ho' hg _ => hk v' w' ⟨?_, ?_⟩ (grown_of_ext h1 hg) fun c hc => (hp.1.blk c hc).1
  · simp only [List.mem_cons, List.not_mem_nil, or_false] at hx
    rcases hx with rfl | rfl
    · rfl
    · exact hu.cell
  · rw [List.length_append, List.flatMap_append]
    simpa using ho'
  · have hgc := grown_ch (S := fun c => v.ownBlock = some c) hg (fun k hk => hk)
    intro r hr
    rcases List.mem_append.1 hr with hr | hr
    · exact ((hp.2 r hr).ext h1).ch hgc fun c hc hv => (hp.1.ext h1).ne_ow ((hp.2 r hr).ext h1) (by decide) hv hc
    · simp only [List.mem_singleton] at hr
      subst hr
      exact (hu.ext h1).ch hgc fun c hc hv => (hp.1.ext h1).ne_ow (hu.ext h1) (by decide) hv hc
theorem ok_spec_l34Some {e : TypeId} (hne : t_i64 ≠ e) {w0 : World} {vc : Value} {bs : List Nat} (hc : SlB w0 vc bs) {b : Nat} {w : World} (hS : Src e w0 vc b w) :
    Drw Tryz.prog f_spec_l34Some #[.pointer (some ⟨b, 0, none⟩)] e w0 vc b w fun v w' => ∃ rows, rows.length ≤ 9 ∧ PsOw t_i64 t_impl_Poset w.heap.size w' v rows := by
  apply c_spec_l34Some; unfold S_spec_l34Some
  have hbl := hS.lt
  have hlow := hS.ext.size
  refine iBsA0 fun v6 w1 _ h1 ho => ?_
  have hS1 := hS.later h1
  refine iCall ((ok_spec_l01Next hc hS1 5).mono ?_)
  rintro _ w2 ⟨⟨x, rfl, hx, _⟩, hS2, hch2⟩
  have hx := hx (by omega)
  have keep : ∀ {v : Value} {rows : List (Int × Value × List Int)} {w' w'' : World}, PsOw t_i64 t_impl_Poset w.heap.size w' v rows → Ch (fun c => c = b) w' w'' → PsOw t_i64 t_impl_Poset w.heap.size w'' v rows := fun h k =>
    h.ch k (fun c hc e => by have := (h.1.blk c hc).1; omega) (fun r hr c hc e => by have := ((h.2 r hr).blk c hc).1; omega)
  have h0 : PsOw t_i64 t_impl_Poset w.heap.size w1 v6 [] := ⟨ho, fun r hr => by cases hr⟩
  refine iLp (fun s : Value × Nat => [s.1, .int .i64 (s.2 : Int)]) (fun s w' => Src e w0 vc b w' ∧ Ch (fun c => c = b) w w' ∧ ∃ rows, rows.length + s.2 ≤ 4 ∧ PsOw t_i64 t_impl_Poset w.heap.size w' s.1 rows) (fun s => s.2) (v6, x) rfl ⟨hS2, ch_self h1.ch hch2, [], by show 0 + x ≤ 4; omega, keep h0 hch2⟩ ?_
  rintro ⟨v, k⟩ w4 Kn ⟨hS4, hC4, rows, hrl, hp4⟩ hKn
  have hrl : rows.length + k ≤ 4 := hrl
  have hp4 : PsOw t_i64 t_impl_Poset w.heap.size w4 v rows := hp4
  (intro _; (try simp only [gx]); (with_reducible refine iLt ?_))
  refine iCndP (fun h5 => ?_) (fun h5 => ?_)
  · refine iCall ((ok_spec_l16Draw hne hc hS4 3 (by omega)).mono ?_)
    rintro _ w5 ⟨⟨n, l, u, rfl, hl, hou⟩, hS5, hch5⟩
    have hp5 := keep hp4 hch5
    have hC5 := ch_self hC4 hch5
    refine PsOw.app hp5 (hou.mono hC4.size) hC5.size (by omega) fun v' w7 hp7 hg7 hlo7 => ?_
    have hgc := grown_ch (S := fun c => v.ownBlock = some c) hg7 (fun k hk => hk)
    (refine iSub (by omega) ?_)
    have ek : (k : Int) - 1 = ((k - 1 : Nat) : Int) := by omega
    rw [ek]
    exact hKn (v', k - 1) _ ⟨hS5.ch hgc (fun hb => by have := hlo7 b hb; omega) (fun c hc => Nat.le_trans hlow (hlo7 c hc)), ch_new hC5 hgc (fun c hc => hlo7 c hc) (Nat.le_refl _), _, by rw [List.length_append, List.length_singleton]; show rows.length + 1 + (k - 1) ≤ 4; omega, hp7⟩ (by show k - 1 < k; omega)
  · refine iCall ((ok_spec_l01Next hc hS4 30).mono ?_)
    rintro _ w8 ⟨⟨y, rfl, _, _⟩, hS8, hch8⟩
    have hp8 := keep hp4 hch8
    have hC8 := ch_self hC4 hch8
    ((with_reducible refine iEq ?_))
    refine iCndP (fun h9 => ?_) (fun h9 => ⟨⟨rows, by omega, hp8⟩, hS8, hC8⟩)
    refine iLp (fun s : Value × Nat => [s.1, .int .i64 (s.2 : Int)]) (fun s w' => s.2 ≤ 5 ∧ Src e w0 vc b w' ∧ Ch (fun c => c = b) w w' ∧ ∃ rows, rows.length ≤ 4 + s.2 ∧ PsOw t_i64 t_impl_Poset w.heap.size w' s.1 rows) (fun s => 5 - s.2) (v, 0) rfl ⟨Nat.zero_le _, hS8, hC8, rows, by omega, hp8⟩ ?_
    rintro ⟨v, k⟩ w10 Kn' ⟨hk, hS10, hC10, rows, hrl, hp10⟩ hKn'
    have hk : k ≤ 5 := hk
    have hrl : rows.length ≤ 4 + k := hrl
    have hp10 : PsOw t_i64 t_impl_Poset w.heap.size w10 v rows := hp10
    (intro _; (try simp only [gx]); (with_reducible refine iLt ?_))
    refine iCndP (fun h11 => ?_) (fun h11 => ⟨⟨rows, by omega, hp10⟩, hS10, hC10⟩)
    refine iBs1 rfl rfl fun bb w11 hbb h11' hBb => ?_
    have hsb : SlN w11 (.slice (some ⟨bb, 0, none⟩) 1 1) [1] := Sl.ofBlk hBb rfl (by omega)
    refine iCall ((ok_spec_l16Make hsb (by simp)).mono ?_)
    rintro _ w12 ⟨h12, vp, rfl, hop⟩
    have hX := h11'.trans h12
    refine PsOw.app (l := nats [1]) (hp10.ext hX) (hop.mono (Nat.le_trans hC10.size h11'.size)) (Nat.le_trans hC10.size hX.size) (by omega) fun v' w14 hp14 hg14 hlo14 => ?_
    have hgc := grown_ch (S := fun c => v.ownBlock = some c) hg14 (fun k hk => hk)
    (refine iAdd (by omega) ?_)
    exact hKn' (v', k + 1) _ ⟨by show k + 1 ≤ 5; omega, (hS10.later hX).ch hgc (fun hb => by have := hlo14 b hb; omega) (fun c hc => Nat.le_trans hlow (hlo14 c hc)), ch_new (ch_ext hC10 hX) hgc (fun c hc => hlo14 c hc) (Nat.le_refl _), _, by rw [List.length_append, List.length_singleton]; show rows.length + 1 ≤ 4 + (k + 1); omega, hp14⟩ (by show 5 - (k + 1) < 5 - k; omega)
theorem ok_spec_DrawGreatestLogics {vc : Value} {w : World} {bs : List Nat} (hc : SlB w vc bs) : Cal Tryz.prog f_spec_DrawGreatestLogics #[vc] w fun r w' => Ext w w' ∧ ∃ ps, ps.length ≤ 9 ∧ SlP w' r ps := by
  apply c_spec_DrawGreatestLogics; unfold S_spec_DrawGreatestLogics
  refine iCall ((ok_spec_l01From hc).mono ?_)
  rintro _ w1 ⟨e, b, hne, _, rfl, hS⟩
  refine iCall ((ok_spec_l34Some hne hc hS).mono ?_)
  rintro v w2 ⟨⟨rows, hl, hp⟩, hS2, _⟩
  exact ⟨hS2.ext, _, by rw [List.length_map]; exact hl, hp.sl⟩
end Go.Proofs.YtailchffbgnfhaaGreat

/- Contracts: the laws' helpers on lists of posets. Conditions: none. -/
namespace Go.Vc
section
variable {P : Program} {w : World}
end
end Go.Vc
namespace Go.Proofs.YtailchffbgnfhaaGreat
open Go.Vc
end Go.Proofs.YtailchffbgnfhaaGreat

/- Contracts: UnderRelation and GreatestLogics in the program and the reference. Conditions: none. -/
namespace Go.Vc
def frP (ps : List (Int × List Int)) (i : Nat) : Fr := frOf (ps.getD i (0, [])).1 (ps.getD i (0, [])).2
/-- Which of the list are those that i is under, among the first k. -/
def relK (ps : List (Int × List Int)) (i k : Nat) : Nat := setOf ((List.range k).filter fun j => decide (tell (frP ps i) (frP ps j) = 0))
theorem relK_succ (ps : List (Int × List Int)) (i k : Nat) : relK ps i (k + 1) = if tell (frP ps i) (frP ps k) = 0 then relK ps i k ||| 2 ^ k else relK ps i k := by
  unfold relK
  rw [List.range_succ, List.filter_append]
  by_cases h : tell (frP ps i) (frP ps k) = 0
  · rw [if_pos h]; simp only [List.filter_cons, List.filter_nil, h, decide_true, if_true]; rw [setOf_snoc]
  · rw [if_neg h]; simp [h]
theorem relK_lt (ps : List (Int × List Int)) (i k : Nat) : relK ps i k < 2 ^ k := setOf_lt fun _ hy => List.mem_range.1 (List.mem_filter.1 hy).1
def relL (ps : List (Int × List Int)) : List Nat := (List.range ps.length).map fun i => relK ps i ps.length
/-- Those of the list that nothing is under alone. -/
def bestB (ps : List (Int × List Int)) (i : Nat) : Bool := (List.range ps.length).all fun j => !((relL ps).getD i 0).testBit j || ((relL ps).getD j 0).testBit i
def bestK (ps : List (Int × List Int)) (k : Nat) : List Nat := (List.range k).filter (bestB ps)
theorem bestK_succ (ps : List (Int × List Int)) (k : Nat) : bestK ps (k + 1) = if bestB ps k then bestK ps k ++ [k] else bestK ps k := by
  unfold bestK
  rw [List.range_succ, List.filter_append]
  cases h : bestB ps k <;> simp [h]
theorem bestK_len (ps : List (Int × List Int)) (k : Nat) : (bestK ps k).length ≤ k := by
  have := List.length_filter_le (bestB ps) (List.range k)
  rwa [List.length_range] at this
/-- The rows while they are made. -/
def relM (ps : List (Int × List Int)) (i j : Nat) : List Nat := (List.range ps.length).map fun k => if k < i then relK ps k ps.length else if k = i then relK ps i j else 0
theorem relM_len (ps : List (Int × List Int)) (i j : Nat) : (relM ps i j).length = ps.length := by simp [relM]
theorem relM_zero (ps : List (Int × List Int)) : relM ps 0 0 = List.replicate ps.length 0 := by
  apply List.ext_getElem
  · simp [relM]
  · intro k h1 h2
    simp only [relM, List.getElem_map, List.getElem_range, List.getElem_replicate]
    by_cases h : k = 0
    · subst h; rw [if_neg (by omega), if_pos rfl]; rfl
    · rw [if_neg (by omega), if_neg h]
theorem relM_row (ps : List (Int × List Int)) (i : Nat) : relM ps (i + 1) 0 = relM ps i ps.length := by
  unfold relM
  refine List.map_congr_left fun k _ => ?_
  by_cases h : k < i
  · rw [if_pos (by omega), if_pos h]
  · by_cases h' : k = i
    · subst h'; rw [if_pos (by omega), if_neg h, if_pos rfl]
    · rw [if_neg (by omega), if_neg h, if_neg h']
      by_cases h2 : k = i + 1
      · rw [if_pos h2]; rfl
      · rw [if_neg h2]
theorem relM_end (ps : List (Int × List Int)) : relM ps ps.length 0 = relL ps := by
  unfold relM relL
  refine List.map_congr_left fun k hk => ?_
  rw [if_pos (List.mem_range.1 hk)]
theorem relM_get (ps : List (Int × List Int)) (i j : Nat) (hi : i < ps.length) : (relM ps i j).getD i 0 = relK ps i j := by simp [relM, hi]
theorem relM_same {ps : List (Int × List Int)} {i j : Nat} (h : relK ps i (j + 1) = relK ps i j) : relM ps i (j + 1) = relM ps i j := by
  unfold relM; rw [h]
theorem relM_set (ps : List (Int × List Int)) (i j : Nat) (_hi : i < ps.length) : (relM ps i j).set i (relK ps i (j + 1)) = relM ps i (j + 1) := by
  apply List.ext_getElem
  · simp [relM]
  · intro k h1 h2
    rw [List.getElem_set]
    simp only [relM, List.getElem_map, List.getElem_range]
    by_cases h : i = k
    · subst h; simp
    · rw [if_neg h]
      by_cases h' : k < i
      · rw [if_pos h', if_pos h']
      · rw [if_neg h', if_neg h', if_neg (fun e => h e.symm), if_neg (fun e => h e.symm)]
end Go.Vc
namespace Go.Proofs.YtailchffbgnfhaaGreat
open Go.Vc
def codeL (ps : List (Int × List Int)) : Int := if codeS ps = 0 ∧ 6 < ps.length then 3 else codeS ps
theorem codeS_zero {ps : List (Int × List Int)} (h : codeS ps = 0) : ∀ q ∈ ps, posetOk q.1 q.2 = true := by
  unfold codeS at h
  split at h
  · omega
  · rename_i h1
    intro q hq
    rw [Bool.not_eq_true, List.any_eq_false] at h1
    have := h1 q hq
    simpa using this
theorem codeL_zero {ps : List (Int × List Int)} (h : codeL ps = 0) : (∀ q ∈ ps, posetOk q.1 q.2 = true) ∧ ps.length ≤ 6 := by
  unfold codeL at h
  split at h
  · omega
  · rename_i h1
    refine ⟨codeS_zero h, ?_⟩
    rcases Nat.lt_or_ge 6 ps.length with h2 | h2
    · exact absurd ⟨h, h2⟩ h1
    · exact h2
theorem frP_po {ps : List (Int × List Int)} (h : ∀ q ∈ ps, posetOk q.1 q.2 = true) {i : Nat} (hi : i < ps.length) : Po (frP ps i) ∧ ps[i].1 = ((frP ps i).n : Int) ∧ ps[i].2 = nats (frP ps i).a := by
  have e : ps.getD i (0, []) = ps[i] := by simp [List.getD_eq_getElem?_getD, hi]
  unfold frP
  rw [e]
  exact posetOk_po (h _ (List.getElem_mem hi))
theorem rel_ok {ps : List (Int × List Int)} (hl : ps.length ≤ 6) : (⟨ps.length, relL ps⟩ : Fr).ok := by
  refine ⟨by show ps.length ≤ 8; omega, by simp [relL], fun x hx => ?_⟩
  obtain ⟨i, _, rfl⟩ := List.mem_map.1 hx
  exact relK_lt _ _ _
theorem best_within {ps : List (Int × List Int)} (hl : ps.length ≤ 6) {i : Nat} : decide (sdiff ((relL ps).getD i 0) (invC (relL ps) ps.length i) = 0) = bestB ps i := by
  rw [Bool.eq_iff_iff, decide_eq_true_eq, sdiff_eq_zero]
  unfold bestB
  simp only [List.all_eq_true, List.mem_range, Bool.or_eq_true, Bool.not_eq_true']
  constructor
  · intro h j hj
    cases hb : ((relL ps).getD i 0).testBit j
    · exact .inl rfl
    · have := h j hb
      rw [invC_bit, Bool.and_eq_true] at this
      exact .inr this.2
  · intro h j hb
    have hj := (fr_bit_lt (rel_ok hl) (x := i) (y := j) hb).2
    rw [invC_bit, Bool.and_eq_true, decide_eq_true_eq]
    refine ⟨hj, ?_⟩
    rcases h j hj with h1 | h1
    · rw [h1] at hb; cases hb
    · exact h1
theorem ok_spec_l34List {v : Value} {w : World} {ps : List (Int × List Int)} (hs : SlP w v ps) : Ret Tryz.prog f_spec_l34List #[v] w (.int .i64 (codeL ps)) := by
  apply c_spec_l34List; unfold S_spec_l34List
  refine iRet (ok_spec_l34Code hs) fun w1 h1 => ?_
  have hs1 := hs.ext h1
  unfold codeL
  refine iJnB (decide (codeS ps = 0) && decide (6 < ps.length)) w1 (fun J hJ => ?_) (fun w3 h3 => ?_)
  · ((with_reducible refine iEq ?_))
    refine iCnd (fun h => ?_) (fun h => ?_)
    · rw [h, Bool.true_and] at hJ
      refine iLenP hs1 ?_
      ((with_reducible refine iLt ?_))
      have e : decide ((6 : Int) < (ps.length : Nat)) = decide (6 < ps.length) := decide_eq_decide.2 (by omega)
      rw [e]
      exact hJ w1 (Ext.refl _)
    · rw [h, Bool.false_and] at hJ
      exact hJ w1 (Ext.refl _)
  · (intro _; (try simp only [gx]))
    refine iCnd (fun h => ?_) (fun h => ?_)
    · rw [Bool.and_eq_true, decide_eq_true_eq, decide_eq_true_eq] at h
      rw [if_pos h]; exact ⟨rfl, h1.trans h3⟩
    · rw [if_neg (fun hh => by rw [decide_eq_true hh.1, decide_eq_true hh.2] at h; cases h)]
      exact ⟨rfl, h1.trans h3⟩
theorem ok_impl_underCode {v : Value} {w : World} {ps : List (Int × List Int)} (hs : SlP w v ps) : Ret Tryz.prog f_impl_underCode #[v] w (.int .i64 (codeL ps)) := by
  apply c_impl_underCode; unfold S_impl_underCode
  refine iRet (ok_impl_sixCode hs) fun w1 h1 => ?_
  have hs1 := hs.ext h1
  unfold codeL
  refine iJnB (decide (codeS ps = 0) && decide (6 < ps.length)) w1 (fun J hJ => ?_) (fun w3 h3 => ?_)
  · ((with_reducible refine iEq ?_))
    refine iCnd (fun h => ?_) (fun h => ?_)
    · rw [h, Bool.true_and] at hJ
      refine iLenP hs1 ?_
      ((with_reducible refine iLt ?_))
      have e : decide ((6 : Int) < (ps.length : Nat)) = decide (6 < ps.length) := decide_eq_decide.2 (by omega)
      rw [e]
      exact hJ w1 (Ext.refl _)
    · rw [h, Bool.false_and] at hJ
      exact hJ w1 (Ext.refl _)
  · (intro _; (try simp only [gx]))
    refine iCnd (fun h => ?_) (fun h => ?_)
    · rw [Bool.and_eq_true, decide_eq_true_eq, decide_eq_true_eq] at h
      rw [if_pos h]; exact ⟨rfl, h1.trans h3⟩
    · rw [if_neg (fun hh => by rw [decide_eq_true hh.1, decide_eq_true hh.2] at h; cases h)]
      exact ⟨rfl, h1.trans h3⟩
theorem ok_spec_l34Relation {v : Value} {w : World} {ps : List (Int × List Int)} (hs : SlP w v ps) (hok : ∀ q ∈ ps, posetOk q.1 q.2 = true) (hl : ps.length ≤ 6) : Cal Tryz.prog f_spec_l34Relation #[v] w fun r w' => Ext w w' ∧ Ow w.heap.size t_i64 w' r (ints (nats (relL ps))) := by
  apply c_spec_l34Relation; unfold S_spec_l34Relation
  refine iBs0 fun vo w1 _ h1 ho => ?_
  refine iLp (fun s : Value × Nat => [s.1, .int .i64 (s.2 : Int)]) (fun s w' => s.2 ≤ ps.length ∧ Ext w w' ∧ Ow w.heap.size t_i64 w' s.1 (ints (nats ((List.range s.2).map fun i => relK ps i ps.length)))) (fun s => ps.length - s.2) (vo, 0) rfl ⟨Nat.zero_le _, h1, ho⟩ ?_
  rintro ⟨vo, i⟩ w3 Kn ⟨hi, h3, ho3⟩ hKn
  have hi : i ≤ ps.length := hi
  have ho3 : Ow w.heap.size t_i64 w3 vo (ints (nats ((List.range i).map fun i => relK ps i ps.length))) := ho3
  have hs3 := hs.ext h3
  (intro _; (try simp only [gx]))
  refine iLenP hs3 ?_
  ((with_reducible refine iLt ?_))
  refine iCndP (fun h4 => ?_) (fun h4 => ?_)
  · have hi1 : i < ps.length := by omega
    obtain ⟨hPi, eni, eli⟩ := frP_po hok hi1
    refine iLp (fun k : Nat => [.int .i64 ((relK ps i k : Nat) : Int), .int .i64 (k : Int)]) (fun k w' => k ≤ ps.length ∧ Ext w3 w') (fun k => ps.length - k) 0 rfl ⟨Nat.zero_le _, Ext.refl _⟩ ?_
    rintro k w5 Kn5 ⟨hk, h5⟩ hKn5
    have hs5 := hs3.ext h5
    (intro _; (try simp only [gx]))
    refine iLenP hs5 ?_
    ((with_reducible refine iLt ?_))
    refine iCndP (fun h6 => ?_) (fun h6 => ?_)
    · have hk1 : k < ps.length := by omega
      obtain ⟨hPk, enk, elk⟩ := frP_po hok hk1
      have hsu := relK_succ ps i k
      have hlt := Nat.lt_of_lt_of_le (relK_lt ps i k) (Nat.pow_le_pow_right (by omega) (show k ≤ 8 by omega) : 2 ^ k ≤ 2 ^ 8)
      have h2k : 2 ^ k < 2 ^ 8 := Nat.pow_lt_pow_right (by omega) (by omega)
      refine iIaP hs5 hi1 fun b o u g1 g2 g3 => ?_
      refine iLd2 g1 g2 ?_
      refine iIaP hs5 hk1 fun b' o' u' g1' g2' g3' => ?_
      refine iLd2 g1' g2' ?_
      rw [eni, enk]
      rw [eli] at g3
      rw [elk] at g3'
      refine iRetQ (fun w' h' => ok_spec_l34Telling hPi hPk (SlI.ext g3 h') (SlI.ext g3' h')) ?_
      ((with_reducible refine iEq ?_))
      intro w6 h7
      have e : decide (((tell (frP ps i) (frP ps k) : Nat) : Int) = 0) = decide (tell (frP ps i) (frP ps k) = 0) := decide_eq_decide.2 (by omega)
      rw [e]
      refine iCndP (fun h8 => ?_) (fun h8 => ?_)
      · rw [if_pos h8] at hsu
        refine iRet (ok_spec_l01One k (by omega) w6) fun w7 h9 => ?_
        refine iBOr (by omega) (by omega) ?_
        rw [← hsu]
        (refine iAdd (by omega) ?_)
        exact hKn5 (k + 1) _ ⟨by omega, h5.trans (h7.trans h9)⟩ (by omega)
      · rw [if_neg h8] at hsu
        (refine iAdd (by omega) ?_)
        rw [← hsu]
        exact hKn5 (k + 1) _ ⟨by omega, h5.trans h7⟩ (by omega)
    · obtain rfl : k = ps.length := by omega
      have ho5 := ho3.ext h5
      have hil : (ints (nats ((List.range i).map fun i => relK ps i ps.length))).length = i := by rw [ints_length, nats_length, List.length_map, List.length_range]
      refine iApp1 u_Si64 i_Si64 rfl ho5 rfl (by omega) (by omega) (h3.trans h5).size fun v' w8 ho' hg => ?_
      have e : (List.range (i + 1)).map (fun i => relK ps i ps.length) = (List.range i).map (fun i => relK ps i ps.length) ++ [relK ps i ps.length] := by rw [List.range_succ, List.map_append]; rfl
      rw [ints_snoc, ← e] at ho'
      (refine iAdd (by omega) ?_)
      exact hKn (v', i + 1) _ ⟨by show i + 1 ≤ ps.length; omega, (h3.trans h5).grown hg (fun c hc => (ho5.blk c hc).1), ho'⟩ (by show ps.length - (i + 1) < ps.length - i; omega)
  · have : i = ps.length := by omega
    subst this
    exact ⟨h3, ho3⟩
theorem ok_impl_underRelation {v : Value} {w : World} {ps : List (Int × List Int)} (hs : SlP w v ps) (hok : ∀ q ∈ ps, posetOk q.1 q.2 = true) (hl : ps.length ≤ 6) : Cal Tryz.prog f_impl_underRelation #[v] w fun r w' => Ext w w' ∧ Ow w.heap.size t_i64 w' r (ints (nats (relL ps))) := by
  apply c_impl_underRelation; unfold S_impl_underRelation
  refine iLenP hs ?_
  refine iMk (by omega) (by omega) rfl fun br w1 hbr h1 hBr => ?_
  have hlr : w.heap.size ≤ br := by omega
  have ho1 : Ow w.heap.size t_i64 w1 (.slice (some ⟨br, 0, none⟩) ps.length ps.length) (ints (nats (relM ps 0 0))) := by
    rw [relM_zero]
    have : ints (nats (List.replicate ps.length 0)) = List.replicate ps.length (.int .i64 0) := by simp [ints, nats]
    rw [this]
    exact Ow.ofBlk hBr hlr (by simp) (by omega)
  generalize hvr : Value.slice (some ⟨br, 0, none⟩) ps.length ps.length = vr at *
  refine iLenP hs ?_
  refine iLp (fun i : Nat => [.int .i64 (i : Int)]) (fun i w' => i ≤ ps.length ∧ Ext w w' ∧ Ow w.heap.size t_i64 w' vr (ints (nats (relM ps i 0)))) (fun i => ps.length - i) 0 rfl ⟨Nat.zero_le _, h1, ho1⟩ ?_
  rintro i w3 Kn ⟨hi, h3, ho3⟩ hKn
  have hs3 := hs.ext h3
  (intro _; (try simp only [gx]); (with_reducible refine iLt ?_))
  refine iCndP (fun h4 => ?_) (fun h4 => ?_)
  · have hi1 : i < ps.length := by omega
    obtain ⟨hPi, eni, eli⟩ := frP_po hok hi1
    refine iIaP hs hi1 fun b o u g1 g2 g3 => ?_
    refine iLd2 (h3.cell g1) (h3.cell g2) ?_
    have huc : isCell u = true := by obtain ⟨a, c, rfl, _⟩ := id g3; rfl
    refine iNew fun b5 w4 hb5 h5 hB5 => ?_
    have h34 := h3.trans h5
    have hlb5 : w.heap.size ≤ b5 := by have := h3.size; omega
    have ho4 := ho3.ext h5
    refine iStAB hB5 rfl rfl (by
      intro y hy
      simp at hy
      rcases hy with rfl | rfl
      · rfl
      · exact huc) fun w5 hu hB5' => ?_
    obtain ⟨e5, hne5, hB5⟩ : ∃ e, t_i64 ≠ e ∧ Blk e w5 b5 [.int .i64 ps[i].1, u] := ⟨_, by decide, hB5'⟩
    have hX5 : Ext w w5 := h34.upd hu hlb5
    have ho5 := ho4.upd hu (fun e => by have := (ho3.blk b5 e).2; omega)
    refine iLenP (hs.ext hX5) ?_
    refine iLp (fun k : Nat => [.int .i64 (k : Int)]) (fun k w' => k ≤ ps.length ∧ Ext w w' ∧ Blk e5 w' b5 [.int .i64 ps[i].1, u] ∧ Ow w.heap.size t_i64 w' vr (ints (nats (relM ps i k)))) (fun k => ps.length - k) 0 rfl ⟨Nat.zero_le _, hX5, hB5, ho5⟩ ?_
    rintro k w7 Kn7 ⟨hk, hX7, hB7, ho7⟩ hKn7
    have hs7 := hs.ext hX7
    (intro _; (try simp only [gx]); (with_reducible refine iLt ?_))
    refine iCndP (fun h6 => ?_) (fun h6 => ?_)
    · have hk1 : k < ps.length := by omega
      obtain ⟨hPk, enk, elk⟩ := frP_po hok hk1
      have hsu := relK_succ ps i k
      have hlt := Nat.lt_of_lt_of_le (relK_lt ps i k) (Nat.pow_le_pow_right (by omega) (show k ≤ 8 by omega) : 2 ^ k ≤ 2 ^ 8)
      have h2k : 2 ^ k < 2 ^ 8 := Nat.pow_lt_pow_right (by omega) (by omega)
      refine iIaP hs hk1 fun b' o' u' g1' g2' g3' => ?_
      refine iLd2 (hX7.cell g1') (hX7.cell g2') ?_
      have huc' : isCell u' = true := by obtain ⟨a, c, rfl, _⟩ := id g3'; rfl
      refine iNew fun b7 w8 hb7 h7 hB8 => ?_
      have hlb7 : w.heap.size ≤ b7 := by have := hX7.size; omega
      refine iStAB hB8 rfl rfl (by
        intro y hy
        simp at hy
        rcases hy with rfl | rfl
        · rfl
        · exact huc') fun w9 hu9 hB9 => ?_
      have hX79 : Ext w7 w9 := h7.upd hu9 (by omega)
      have hX9 : Ext w w9 := hX7.trans hX79
      have hB59 := hB7.ext hX79
      have ho9 := ho7.ext hX79
      have hu79 := SlI.ext g3 hX9
      have hu79' := SlI.ext g3' hX9
      have hB9 : Blk _ w9 b7 [.int .i64 ps[k].1, u'] := hB9
      ((with_reducible refine iLdA (by assumption) ?_ ?_); rfl; (with_reducible refine iLdA (by assumption) ?_ ?_); rfl)
      rw [eni, enk]
      rw [eli] at hu79
      rw [elk] at hu79'
      refine iRet (ok_impl_isUnder hPi hPk hu79 hu79') fun w10 hA => ?_
      have hX10 := hX9.trans hA
      have ho10 := ho9.ext hA
      have hB510 := hB59.ext hA
      refine iCndP (fun h8 => ?_) (fun h8 => ?_)
      · rw [if_pos h8] at hsu
        have hsl10 : SlN w10 vr (relM ps i k) := ho10.sl
        have hml := relM_len ps i k
        ((with_reducible refine iIaNN (by assumption) ?_ (fun pa_ hpa_ => ?_)); omega; (with_reducible refine iLd (by assumption) ?_))
        rw [relM_get ps i k hi1]
        refine iShlOne (by omega) ?_
        refine iBOr (by omega) (by omega) ?_
        rw [← hsu]
        have hil : (ints (nats (relM ps i k))).length = ps.length := by rw [ints_length, nats_length, hml]
        refine iIaOwE ho10 (by omega) fun bu hbu hwr => ?_
        intro w11 hC
        have ho11 := ho10.ext hC
        obtain ⟨hc1, hc2, hc3⟩ := hwr w11 _ rfl ho11
        rw [List.getElem?_eq_getElem (by omega)] at hc1
        refine iSt hc1 hc2 rfl ?_
        have ho12 := hc3 (.int .i64 ((relK ps i (k + 1) : Nat) : Int))
        rw [← ints_nats_set, relM_set ps i k hi1] at ho12
        have huu := Upd.setCell w11 bu i (.int .i64 ((relK ps i (k + 1) : Nat) : Int))
        have hX12 := (hX10.trans hC).upd huu (ho10.blk bu hbu).1
        have hB512 := (hB510.ext hC).upd huu (fun e => ho11.ne_blk (hB510.ext hC) hne5 (by rw [hbu, e]))
        intro w13 hE
        (refine iAdd (by omega) ?_)
        exact hKn7 (k + 1) _ ⟨by omega, hX12.trans hE, hB512.ext hE, ho12.ext hE⟩ (by omega)
      · rw [if_neg h8] at hsu
        (refine iAdd (by omega) ?_)
        refine hKn7 (k + 1) _ ⟨by omega, hX10, hB510, ?_⟩ (by omega)
        rw [relM_same hsu]; exact ho10
    · obtain rfl : k = ps.length := by omega
      (refine iAdd (by omega) ?_)
      refine hKn (i + 1) _ ⟨by omega, hX7, ?_⟩ (by omega)
      rw [relM_row]; exact ho7
  · obtain rfl : i = ps.length := by omega
    rw [relM_end] at ho3
    exact ⟨h3, ho3⟩
def urRes (ps : List (Int × List Int)) : List Int × Int := if codeL ps = 0 then (nats (relL ps), 0) else ([], codeL ps)
theorem ok_impl_UnderRelation {v : Value} {w : World} {ps : List (Int × List Int)} (hs : SlP w v ps) : Cal Tryz.prog f_impl_UnderRelation #[v] w fun r w' => Ext w w' ∧ ∃ u, r = .tuple #[u, .int .i64 (urRes ps).2] ∧ Ow w.heap.size t_i64 w' u (ints (urRes ps).1) := by
  apply c_impl_UnderRelation; unfold S_impl_UnderRelation
  refine iRet (ok_impl_underCode hs) fun w1 h1 => ?_
  unfold urRes
  ((with_reducible refine iNe ?_))
  refine iCndP (fun hc => ?_) (fun hc => ?_)
  · rw [if_neg hc]; exact ⟨h1, _, rfl, Ow.nil _ _ _⟩
  · have hc := Classical.not_not.1 hc
    rw [if_pos hc]
    obtain ⟨hok, hl⟩ := codeL_zero hc
    refine iCall ((ok_impl_underRelation (hs.ext h1) hok hl).mono ?_)
    rintro u w2 ⟨h2, ho⟩
    exact ⟨h1.trans h2, u, rfl, ho.mono h1.size⟩
def glRes (ps : List (Int × List Int)) : List Int × Int := if codeL ps = 0 then (nats (bestK ps ps.length), 0) else ([], codeL ps)
theorem ok_spec_GreatestLogics {v : Value} {w : World} {ps : List (Int × List Int)} (hs : SlP w v ps) : Cal Tryz.prog f_spec_GreatestLogics #[v] w fun r w' => Ext w w' ∧ ∃ u, r = .tuple #[u, .int .i64 (glRes ps).2] ∧ Ow w.heap.size t_i64 w' u (ints (glRes ps).1) := by
  apply c_spec_GreatestLogics; unfold S_spec_GreatestLogics
  refine iRet (ok_spec_l34List hs) fun w1 h1 => ?_
  unfold glRes
  ((with_reducible refine iNe ?_))
  refine iCndP (fun hc => ?_) (fun hc => ?_)
  · rw [if_neg hc]; exact ⟨h1, _, rfl, Ow.nil _ _ _⟩
  · have hc := Classical.not_not.1 hc
    rw [if_pos hc]
    obtain ⟨hok, hl⟩ := codeL_zero hc
    have hrok := rel_ok hl
    have hrl : (relL ps).length = ps.length := by simp [relL]
    refine iCall ((ok_spec_l34Relation (hs.ext h1) hok hl).mono ?_)
    rintro ur w2 ⟨h2, hor⟩
    refine iBs0 fun vo w3 _ h3 ho => ?_
    have hX2 := h1.trans h2
    refine iLp (fun s : Value × Nat => [s.1, .int .i64 (s.2 : Int)]) (fun s w' => s.2 ≤ ps.length ∧ Ext w2 w' ∧ Ow w2.heap.size t_i64 w' s.1 (ints (nats (bestK ps s.2)))) (fun s => ps.length - s.2) (vo, 0) rfl ⟨Nat.zero_le _, h3, ho⟩ ?_
    rintro ⟨vo, i⟩ w5 Kn ⟨hi, h5, ho5⟩ hKn
    have hi : i ≤ ps.length := hi
    have ho5 : Ow w2.heap.size t_i64 w5 vo (ints (nats (bestK ps i))) := ho5
    have hs5 := hs.ext (hX2.trans h5)
    (intro _; (try simp only [gx]))
    refine iLenP hs5 ?_
    ((with_reducible refine iLt ?_))
    refine iCndP (fun h4 => ?_) (fun h4 => ?_)
    · have hi1 : i < ps.length := by omega
      have hsu := bestK_succ ps i
      refine iLp (fun s : Bool × Nat => [.bool s.1, .int .i64 (s.2 : Int)]) (fun s w' => s.2 ≤ ps.length ∧ Ext w5 w' ∧ s.1 = (List.range s.2).all fun j => !((relL ps).getD i 0).testBit j || ((relL ps).getD j 0).testBit i) (fun s => ps.length - s.2) (true, 0) rfl ⟨Nat.zero_le _, Ext.refl _, rfl⟩ ?_
      rintro ⟨bb, k⟩ w7 Kn7 ⟨hk, h7, hbb⟩ hKn7
      have hk : k ≤ ps.length := hk
      have hbb : bb = (List.range k).all fun j => !((relL ps).getD i 0).testBit j || ((relL ps).getD j 0).testBit i := hbb
      have hs7 := hs5.ext h7
      have hr7 : SlN w7 ur (relL ps) := (hor.ext (h5.trans h7)).sl
      (intro _; (try simp only [gx]))
      refine iLenP hs7 ?_
      ((with_reducible refine iLt ?_))
      refine iCndP (fun h6 => ?_) (fun h6 => ?_)
      · have hk1 : k < ps.length := by omega
        have hgi : (relL ps).getD i 0 < 2 ^ 8 := fr_lt63 hrok i
        have hgk : (relL ps).getD k 0 < 2 ^ 8 := fr_lt63 hrok k
        refine iJnB (bb && (!((relL ps).getD i 0).testBit k || ((relL ps).getD k 0).testBit i)) w7 (fun J hJ => ?_) (fun w9 h9 => ?_)
        · cases bb
          · exact iCndF rfl (hJ w7 (Ext.refl _))
          · refine iCndT rfl ?_
            ((with_reducible refine iIaNN (by assumption) ?_ (fun pa_ hpa_ => ?_)); omega; (with_reducible refine iLd (by assumption) ?_))
            refine iRet (ok_spec_l01Bit _ k (by omega) (by omega) w7) fun w10 hA => ?_
            have hr10 := hr7.ext hA
            ((with_reducible refine iNot ?_))
            refine iCnd (fun hb => ?_) (fun hb => ?_)
            · rw [hb, Bool.true_or] at hJ
              exact hJ w10 hA
            · rw [hb, Bool.false_or] at hJ
              ((with_reducible refine iIaNN (by assumption) ?_ (fun pa_ hpa_ => ?_)); omega; (with_reducible refine iLd (by assumption) ?_))
              refine iRet (ok_spec_l01Bit _ i (by omega) (by omega) w10) fun w11 hB => ?_
              exact hJ w11 (hA.trans hB)
        · (intro _; (try simp only [gx]); refine iAdd (by omega) ?_)
          refine hKn7 (bb && (!((relL ps).getD i 0).testBit k || ((relL ps).getD k 0).testBit i), k + 1) _ ⟨by show k + 1 ≤ ps.length; omega, h7.trans h9, ?_⟩ (by show ps.length - (k + 1) < ps.length - k; omega)
          show (bb && (!((relL ps).getD i 0).testBit k || ((relL ps).getD k 0).testBit i)) = (List.range (k + 1)).all fun j => !((relL ps).getD i 0).testBit j || ((relL ps).getD j 0).testBit i
          rw [List.range_succ, List.all_append, hbb]
          simp only [List.all_cons, List.all_nil, Bool.and_true]
      · have e : k = ps.length := by omega
        subst e
        have hbb : bb = bestB ps i := hbb
        have ho7 := ho5.ext h7
        refine iCnd (fun hb => ?_) (fun hb => ?_)
        · rw [← hbb, hb, if_pos rfl] at hsu
          have hil : (ints (nats (bestK ps i))).length ≤ i := by rw [ints_length, nats_length]; exact bestK_len _ _
          refine iApp1 u_Si64 i_Si64 rfl ho7 rfl (by omega) (by omega) (h5.trans h7).size fun v' w12 ho' hg => ?_
          rw [ints_snoc, ← hsu] at ho'
          (refine iAdd (by omega) ?_)
          exact hKn (v', i + 1) _ ⟨by show i + 1 ≤ ps.length; omega, (h5.trans h7).grown hg (fun c hc => (ho7.blk c hc).1), ho'⟩ (by show ps.length - (i + 1) < ps.length - i; omega)
        · rw [← hbb, hb, if_neg (by simp)] at hsu
          (refine iAdd (by omega) ?_)
          refine hKn (vo, i + 1) _ ⟨by show i + 1 ≤ ps.length; omega, h5.trans h7, ?_⟩ (by show ps.length - (i + 1) < ps.length - i; omega)
          show Ow w2.heap.size t_i64 w7 vo (ints (nats (bestK ps (i + 1))))
          rw [hsu]; exact ho7
    · have e : i = ps.length := by omega
      subst e
      exact ⟨hX2.trans h5, vo, rfl, ho5.mono hX2.size⟩
theorem ok_impl_GreatestLogics {v : Value} {w : World} {ps : List (Int × List Int)} (hs : SlP w v ps) : Cal Tryz.prog f_impl_GreatestLogics #[v] w fun r w' => Ext w w' ∧ ∃ u, r = .tuple #[u, .int .i64 (glRes ps).2] ∧ Ow w.heap.size t_i64 w' u (ints (glRes ps).1) := by
  apply c_impl_GreatestLogics; unfold S_impl_GreatestLogics
  refine iRet (ok_impl_underCode hs) fun w1 h1 => ?_
  unfold glRes
  ((with_reducible refine iNe ?_))
  refine iCndP (fun hc => ?_) (fun hc => ?_)
  · rw [if_neg hc]; exact ⟨h1, _, rfl, Ow.nil _ _ _⟩
  · have hc := Classical.not_not.1 hc
    rw [if_pos hc]
    obtain ⟨hok, hl⟩ := codeL_zero hc
    have hrok := rel_ok hl
    have hrl : (relL ps).length = ps.length := by simp [relL]
    refine iCall ((ok_impl_underRelation (hs.ext h1) hok hl).mono ?_)
    rintro ur w2 ⟨h2, hor⟩
    have hX2 := h1.trans h2
    have hrs : SlN w2 ur (relL ps) := hor.sl
    refine iCall ((ok_impl_inverse hrok hrs).mono ?_)
    rintro ub w3 ⟨h3, hob⟩
    have hrs3 := hrs.ext h3
    have hbs3 : SlN w3 ub (inv ⟨ps.length, relL ps⟩) := hob.sl
    have hbl : (inv ⟨ps.length, relL ps⟩).length = ps.length := by simp [inv]
    have hX3 := hX2.trans h3
    ((with_reducible refine iLenN (by assumption) ?_))
    refine iLp (fun s : Value × Nat => [s.1, .int .i64 (s.2 : Int)]) (fun s w' => s.2 ≤ ps.length ∧ Ext w3 w' ∧ Ow w3.heap.size t_i64 w' s.1 (ints (nats (bestK ps s.2)))) (fun s => ps.length - s.2) (.slice none 0 0, 0) rfl ⟨Nat.zero_le _, Ext.refl _, Ow.nil _ _ _⟩ ?_
    rintro ⟨vo, i⟩ w5 Kn ⟨hi, h5, ho5⟩ hKn
    have hi : i ≤ ps.length := hi
    have ho5 : Ow w3.heap.size t_i64 w5 vo (ints (nats (bestK ps i))) := ho5
    have hrs5 := hrs3.ext h5
    have hbs5 := hbs3.ext h5
    (intro _; (try simp only [gx]); (with_reducible refine iLt ?_))
    refine iCndP (fun h4 => ?_) (fun h4 => ?_)
    · have hi1 : i < ps.length := by omega
      have hsu := bestK_succ ps i
      have hgi : (relL ps).getD i 0 < 2 ^ 8 := fr_lt63 hrok i
      have hgb : invC (relL ps) ps.length i < 2 ^ 8 := Nat.lt_of_lt_of_le (invC_lt _ _ _) (Nat.pow_le_pow_right (by omega) (by omega))
      have hge : (inv ⟨ps.length, relL ps⟩).getD i 0 = invC (relL ps) ps.length i := inv_get ⟨ps.length, relL ps⟩ i hi1
      ((with_reducible refine iIaNN (by assumption) ?_ (fun pa_ hpa_ => ?_)); omega; (with_reducible refine iLd (by assumption) ?_); (with_reducible refine iIaNN (by assumption) ?_ (fun pa_ hpa_ => ?_)); omega; (with_reducible refine iLd (by assumption) ?_))
      rw [hge]
      refine iRetQ (fun w' _ => ok_impl_within _ _ (by omega) (by omega) w') ?_
      rw [best_within hl]
      intro w6 h6
      have ho6 := ho5.ext h6
      refine iCnd (fun hb => ?_) (fun hb => ?_)
      · rw [hb, if_pos rfl] at hsu
        have hil : (ints (nats (bestK ps i))).length ≤ i := by rw [ints_length, nats_length]; exact bestK_len _ _
        refine iApp1 u_Si64 i_Si64 rfl ho6 rfl (by omega) (by omega) (h5.trans h6).size fun v' w12 ho' hg => ?_
        rw [ints_snoc, ← hsu] at ho'
        (refine iAdd (by omega) ?_)
        exact hKn (v', i + 1) _ ⟨by show i + 1 ≤ ps.length; omega, (h5.trans h6).grown hg (fun c hc => (ho6.blk c hc).1), ho'⟩ (by show ps.length - (i + 1) < ps.length - i; omega)
      · rw [hb, if_neg (by simp)] at hsu
        (refine iAdd (by omega) ?_)
        refine hKn (vo, i + 1) _ ⟨by show i + 1 ≤ ps.length; omega, h5.trans h6, ?_⟩ (by show ps.length - (i + 1) < ps.length - i; omega)
        show Ow w3.heap.size t_i64 w6 vo (ints (nats (bestK ps (i + 1))))
        rw [hsu]; exact ho6
    · have e : i = ps.length := by omega
      subst e
      exact ⟨hX3.trans h5, vo, rfl, ho5.mono hX3.size⟩
end Go.Proofs.YtailchffbgnfhaaGreat

/- Plain facts: to be under another poset, said of maps between elements; it is a preorder; a list has greatest logics. No program in sight. Conditions: none. -/
namespace Go.Vc
theorem popc_surj {s n : Nat} (hn : n ≤ 8) (hs : s < 2 ^ n) : popc s = n ↔ ∀ z, z < n → s.testBit z = true := by
  constructor
  · intro h z hz
    cases hb : s.testBit z
    · have h1 := popc_or_one s z (by omega)
      rw [hb] at h1
      have h2 : s ||| 2 ^ z < 2 ^ n := Nat.or_lt_two_pow hs (Nat.pow_lt_pow_right (by omega) hz)
      have h3 := popc_full (by omega) h2
      simp at h1; omega
    · rfl
  · intro h
    have : s = 2 ^ n - 1 := by
      apply Nat.eq_of_testBit_eq
      intro i
      rw [full_testBit]
      by_cases hi : i < n
      · rw [h i hi, decide_eq_true hi]
      · rw [decide_eq_false hi]
        exact Nat.testBit_lt_two_pow (Nat.lt_of_lt_of_le hs (Nat.pow_le_pow_right (by omega) (by omega)))
    rw [this]
    exact popc_range (by omega)
/-- x sees y. -/
def Fr.r (f : Fr) (x y : Nat) : Prop := (f.a.getD x 0).testBit y = true
/-- The part of g above x is an image of a part of f. -/
def BelM (f g : Fr) (x : Nat) : Prop :=
  ∃ (V : Nat → Prop) (h : Nat → Nat), (∀ v, V v → v < f.n) ∧ (∀ v u, V v → f.r v u → V u) ∧ (∀ v, V v → ∀ y, g.r (h v) y ↔ ∃ u, f.r v u ∧ h u = y) ∧ ∀ y, (∃ v, V v ∧ h v = y) ↔ g.r x y
theorem BelM.self {f : Fr} (hp : Po f) (x : Nat) : BelM f f x :=
  ⟨fun v => f.r x v, id, fun _ hv => (fr_bit_lt hp.ok hv).2, fun _ _ hv hu => hp.trans _ _ _ hv hu, fun _ _ y => ⟨fun h => ⟨y, h, rfl⟩, fun ⟨_, h, e⟩ => e ▸ h⟩, fun y => ⟨fun ⟨_, h, e⟩ => e ▸ h, fun h => ⟨y, h, rfl⟩⟩⟩
theorem BelM.trans {f g k : Fr} (hk : Po k) (hb : ∀ x, x < g.n → BelM f g x) {z : Nat} (hz : z < k.n) (h : BelM g k z) : BelM f k z := by
  obtain ⟨U, h, hU1, hU2, hU3, hU4⟩ := h
  obtain ⟨x, hx, hxz⟩ := (hU4 z).2 (hk.refl z hz)
  obtain ⟨V, h', hV1, hV2, hV3, hV4⟩ := hb x (hU1 x hx)
  have hin : ∀ v, V v → U (h' v) := fun v hv => hU2 x _ hx ((hV4 _).1 ⟨v, hv, rfl⟩)
  refine ⟨V, fun v => h (h' v), hV1, hV2, fun v hv y => ?_, fun y => ?_⟩
  · rw [hU3 _ (hin v hv)]
    constructor
    · rintro ⟨u', hu', rfl⟩
      obtain ⟨u, hu, rfl⟩ := (hV3 v hv u').1 hu'
      exact ⟨u, hu, rfl⟩
    · rintro ⟨u, hu, rfl⟩
      exact ⟨h' u, (hV3 v hv _).2 ⟨u, hu, rfl⟩, rfl⟩
  · rw [show k.r z y ↔ ∃ u, g.r x u ∧ h u = y by rw [← hxz]; exact hU3 x hx y]
    constructor
    · rintro ⟨v, hv, rfl⟩
      exact ⟨h' v, (hV4 _).1 ⟨v, hv, rfl⟩, rfl⟩
    · rintro ⟨u, hu, rfl⟩
      obtain ⟨v, hv, rfl⟩ := (hV4 u).2 hu
      exact ⟨v, hv, rfl⟩
theorem idx_at {l : List Nat} (hn : l.Nodup) {k : Nat} (hk : k < l.length) : l.idxOf (l.getD k 0) = k := by
  have e : l.getD k 0 = l[k] := by simp [List.getD_eq_getElem?_getD, hk]
  rw [e]; exact hn.idxOf_getElem k hk
theorem at_idx {l : List Nat} {x : Nat} (hx : x ∈ l) : l.idxOf x < l.length ∧ l.getD (l.idxOf x) 0 = x := by
  have h1 := List.idxOf_lt_length_of_mem hx
  exact ⟨h1, by simp [List.getD_eq_getElem?_getD, h1]⟩
theorem upsets_iff {f : Fr} (hp : Po f) {m : Nat} : m ∈ upsets f ↔ m < 2 ^ f.n ∧ ∀ v u, m.testBit v = true → f.r v u → m.testBit u = true := by
  unfold upsets upK
  rw [List.mem_filter, List.mem_range, decide_eq_true_eq]
  refine and_congr_right fun hm => ?_
  constructor
  · intro h v u hv hu
    rw [← h, rowsK_bit]
    exact ⟨v, (fr_bit_lt hp.ok hu).1, hv, hu⟩
  · intro h
    apply Nat.eq_of_testBit_eq
    intro j
    rw [Bool.eq_iff_iff, rowsK_bit]
    constructor
    · rintro ⟨i, _, hi, hj⟩; exact h i j hi hj
    · intro hj
      have hjn : j < f.n := by
        rcases Nat.lt_or_ge j f.n with h' | h'
        · exact h'
        · rw [Nat.testBit_lt_two_pow (Nat.lt_of_lt_of_le hm (Nat.pow_le_pow_right (by omega) h'))] at hj; cases hj
      exact ⟨j, hjn, hj, hp.refl j hjn⟩
theorem partOut_iff {f q : Fr} (hf : Po f) (hq : q.ok) : (partOut f q).isSome = true ↔ ∃ m, m ∈ upsets f ∧ ∃ F : List Nat, F.length = (mem m).length ∧ (∀ y ∈ F, y < q.n) ∧ (∀ i, i < (mem m).length → img F ((partFr f m).a.getD i 0) = q.a.getD (F.getD i 0) 0) ∧ ∀ z, z < q.n → ∃ i, i < F.length ∧ F.getD i 0 = z := by
  have key : ∀ m, m ∈ upsets f → ∀ F : List Nat, F ∈ leaves (fitsB (partFr f m) q true false) q.n (partFr f m).n [] ↔ F.length = (mem m).length ∧ (∀ y ∈ F, y < q.n) ∧ (∀ i, i < (mem m).length → img F ((partFr f m).a.getD i 0) = q.a.getD (F.getD i 0) 0) ∧ ∀ z, z < q.n → ∃ i, i < F.length ∧ F.getD i 0 = z := by
    intro m hm F
    rw [mem_leaves (part_ok hf.ok (upsets_lt hm)) hq]
    refine and_congr_right fun _ => and_congr_right fun hb => and_congr_right fun _ => ?_
    constructor
    · rintro ⟨h, _⟩ z hz
      have h2 := (popc_surj hq.1 (setOf_lt hb)).1 (h rfl) z hz
      rw [setOf_testBit, List.contains_iff_mem] at h2
      exact ⟨F.idxOf z, (at_idx h2).1, (at_idx h2).2⟩
    · intro h
      refine ⟨fun _ => (popc_surj hq.1 (setOf_lt hb)).2 fun z hz => ?_, fun e => by cases e⟩
      obtain ⟨i, hi, e⟩ := h z hz
      rw [setOf_testBit, List.contains_iff_mem, ← e]
      exact getD_mem hi
  constructor
  · intro h
    obtain ⟨⟨m, F⟩, hmF⟩ := Option.isSome_iff_exists.1 h
    obtain ⟨hm, Fs, hL⟩ := partOut_some hmF
    exact ⟨m, hm, F, (key m hm F).1 (by rw [hL]; simp)⟩
  · rintro ⟨m, hm, F, hF⟩
    have hF := (key m hm F).2 hF
    unfold partOut
    rw [List.findSome?_isSome_iff]
    refine ⟨m, hm, ?_⟩
    unfold oneOut
    split
    · rename_i e
      have hF : F ∈ leaves (fitsB (partFr f m) q true false) q.n (partFr f m).n [] := hF
      rw [e] at hF; cases hF
    · rfl
theorem tellB_iff {f g : Fr} (hf : Po f) (hg : Po g) {x : Nat} (hx : x < g.n) : tellB f g x = false ↔ BelM f g x := by
  have hc : g.a.getD x 0 < 2 ^ g.n := hg.ok.lt hx
  have hc63 := mask63 hg.ok hc
  have hmc : ∀ y, y ∈ mem (g.a.getD x 0) ↔ g.r x y := fun y => mem_mem hc63
  have hnd := mem_nodup (g.a.getD x 0)
  generalize hC : mem (g.a.getD x 0) = C at *
  have hqb : ∀ i j, (((partFr g (g.a.getD x 0)).a.getD i 0).testBit j = true) ↔ i < C.length ∧ j < C.length ∧ g.r (C.getD i 0) (C.getD j 0) := fun i j => by rw [part_bit, hC]; rfl
  have hqn : (partFr g (g.a.getD x 0)).n = C.length := by show (mem _).length = _; rw [hC]
  unfold tellB
  rw [Option.isNone_eq_false_iff, partOut_iff hf (part_ok hg.ok hc), hqn]
  constructor
  · rintro ⟨m, hm, F, hl, hF, himg, hon⟩
    obtain ⟨hm2, hup⟩ := (upsets_iff hf).1 hm
    have hm63 := mask63 hf.ok hm2
    have hmm : ∀ v, v ∈ mem m ↔ m.testBit v = true := fun v => mem_mem hm63
    have hpb : ∀ i j, (((partFr f m).a.getD i 0).testBit j = true) ↔ i < (mem m).length ∧ j < (mem m).length ∧ f.r ((mem m).getD i 0) ((mem m).getD j 0) := fun i j => part_bit i j
    have hmn := mem_nodup m
    generalize mem m = M at *
    have hFl : ∀ i, i < M.length → F.getD i 0 < C.length := fun i hi => getD_lt hF (by omega)
    have hid : ∀ v, m.testBit v = true → M.idxOf v < M.length ∧ M.getD (M.idxOf v) 0 = v := fun v hv => at_idx ((hmm v).2 hv)
    have hh : ∀ v, m.testBit v = true → g.r x (C.getD (F.getD (M.idxOf v) 0) 0) := fun v hv => (hmc _).1 (getD_mem (hFl _ (hid v hv).1))
    refine ⟨fun v => m.testBit v = true, fun v => C.getD (F.getD (M.idxOf v) 0) 0, fun v hv => ?_, hup, fun v hv y => ?_, fun y => ?_⟩
    · rcases Nat.lt_or_ge v f.n with h' | h'
      · exact h'
      · have hv : m.testBit v = true := hv
        rw [Nat.testBit_lt_two_pow (Nat.lt_of_lt_of_le hm2 (Nat.pow_le_pow_right (by omega) h'))] at hv; cases hv
    · have hv : m.testBit v = true := hv
      have hi := hid v hv
      have e := himg _ hi.1
      constructor
      · intro hy
        have hxy : g.r x y := hg.trans _ _ _ (hh v hv) hy
        have hj := at_idx ((hmc y).2 hxy)
        have hb : ((partFr g (g.a.getD x 0)).a.getD (F.getD (M.idxOf v) 0) 0).testBit (C.idxOf y) = true := (hqb _ _).2 ⟨hFl _ hi.1, hj.1, by rw [hj.2]; exact hy⟩
        rw [← e, img_testBit] at hb
        obtain ⟨k, hk, hk1, hk2⟩ := hb
        obtain ⟨_, hk3, hk4⟩ := (hpb _ _).1 hk1
        rw [hi.2] at hk4
        refine ⟨M.getD k 0, hk4, ?_⟩
        show C.getD (F.getD (M.idxOf (M.getD k 0)) 0) 0 = y
        rw [idx_at hmn hk3, hk2, hj.2]
      · rintro ⟨u, hu, rfl⟩
        have hmu := hup v u hv hu
        have hk := hid u hmu
        have hb : (img F ((partFr f m).a.getD (M.idxOf v) 0)).testBit (F.getD (M.idxOf u) 0) = true := (img_testBit _ _ _).2 ⟨M.idxOf u, by omega, (hpb _ _).2 ⟨hi.1, hk.1, by rw [hi.2, hk.2]; exact hu⟩, rfl⟩
        rw [e, hqb] at hb
        exact hb.2.2
    · constructor
      · rintro ⟨v, hv, rfl⟩; exact hh v hv
      · intro hy
        have hj := at_idx ((hmc y).2 hy)
        obtain ⟨k, hk, hk1⟩ := hon _ hj.1
        have hkM : k < M.length := by omega
        refine ⟨M.getD k 0, (hmm _).1 (getD_mem hkM), ?_⟩
        show C.getD (F.getD (M.idxOf (M.getD k 0)) 0) 0 = y
        rw [idx_at hmn hkM, hk1, hj.2]
  · rintro ⟨V, h, hV1, hV2, hV3, hV4⟩
    classical
    have hmb : ∀ v, (setOf ((List.range f.n).filter fun v => decide (V v))).testBit v = true ↔ V v := fun v => by
      rw [setOf_testBit, List.contains_iff_mem, List.mem_filter, List.mem_range, decide_eq_true_eq]
      exact ⟨fun h => h.2, fun h => ⟨hV1 v h, h⟩⟩
    have hm2 : setOf ((List.range f.n).filter fun v => decide (V v)) < 2 ^ f.n := setOf_lt fun y hy => List.mem_range.1 (List.mem_filter.1 hy).1
    generalize setOf ((List.range f.n).filter fun v => decide (V v)) = m at *
    have hm63 := mask63 hf.ok hm2
    have hmm : ∀ v, v ∈ mem m ↔ V v := fun v => by rw [mem_mem hm63, hmb]
    have hpb : ∀ i j, (((partFr f m).a.getD i 0).testBit j = true) ↔ i < (mem m).length ∧ j < (mem m).length ∧ f.r ((mem m).getD i 0) ((mem m).getD j 0) := fun i j => part_bit i j
    have hmn := mem_nodup m
    have hup : m ∈ upsets f := (upsets_iff hf).2 ⟨hm2, fun v u hv hu => (hmb u).2 (hV2 v u ((hmb v).1 hv) hu)⟩
    refine ⟨m, hup, (mem m).map fun v => C.idxOf (h v), by simp, ?_, ?_, ?_⟩
    · intro y hy
      obtain ⟨v, hv, rfl⟩ := List.mem_map.1 hy
      exact (at_idx ((hmc _).2 ((hV4 _).1 ⟨v, (hmm v).1 hv, rfl⟩))).1
    · intro i hi
      have hF : ∀ k, k < (mem m).length → ((mem m).map fun v => C.idxOf (h v)).getD k 0 = C.idxOf (h ((mem m).getD k 0)) := fun k hk => by simp [List.getD_eq_getElem?_getD, hk]
      have hVi : ∀ k, k < (mem m).length → V ((mem m).getD k 0) := fun k hk => (hmm _).1 (getD_mem hk)
      have hci : ∀ k, k < (mem m).length → C.idxOf (h ((mem m).getD k 0)) < C.length ∧ C.getD (C.idxOf (h ((mem m).getD k 0))) 0 = h ((mem m).getD k 0) := fun k hk => at_idx ((hmc _).2 ((hV4 _).1 ⟨_, hVi k hk, rfl⟩))
      apply Nat.eq_of_testBit_eq
      intro j
      rw [Bool.eq_iff_iff, img_testBit, hqb, hF i hi, (hci i hi).2]
      constructor
      · rintro ⟨k, hk, hk1, hk2⟩
        obtain ⟨_, hk3, hk4⟩ := (hpb _ _).1 hk1
        rw [hF k hk3] at hk2
        subst hk2
        refine ⟨(hci i hi).1, (hci k hk3).1, ?_⟩
        rw [(hci k hk3).2]
        exact (hV3 _ (hVi i hi) _).2 ⟨_, hk4, rfl⟩
      · rintro ⟨_, hj, hb⟩
        obtain ⟨u, hu, e⟩ := (hV3 _ (hVi i hi) _).1 hb
        have hVu := hV2 _ _ (hVi i hi) hu
        have hk := at_idx ((hmm u).2 hVu)
        refine ⟨(mem m).idxOf u, by rw [List.length_map]; exact hk.1, (hpb _ _).2 ⟨hi, hk.1, by rw [hk.2]; exact hu⟩, ?_⟩
        rw [hF _ hk.1, hk.2, e, idx_at hnd hj]
    · intro z hz
      obtain ⟨v, hv, e⟩ := (hV4 (C.getD z 0)).2 ((hmc _).1 (getD_mem hz))
      have hk := at_idx ((hmm v).2 hv)
      refine ⟨(mem m).idxOf v, by rw [List.length_map]; exact hk.1, ?_⟩
      have : ((mem m).map fun v => C.idxOf (h v)).getD ((mem m).idxOf v) 0 = C.idxOf (h ((mem m).getD ((mem m).idxOf v) 0)) := by simp [List.getD_eq_getElem?_getD, hk.1]
      rw [this, hk.2, e, idx_at hnd hz]
theorem tell_iff {f g : Fr} (hf : Po f) (hg : Po g) : tell f g = 0 ↔ ∀ x, x < g.n → BelM f g x := by
  have h0 : tell f g = 0 ↔ ∀ x, x < g.n → tellB f g x = false := by
    unfold tell tellK
    constructor
    · intro h x hx
      cases hb : tellB f g x
      · rfl
      · have : (setOf ((List.range g.n).filter (tellB f g))).testBit x = true := by
          rw [setOf_testBit, List.contains_iff_mem, List.mem_filter, List.mem_range]; exact ⟨hx, hb⟩
        rw [h, Nat.zero_testBit] at this; cases this
    · intro h
      apply Nat.eq_of_testBit_eq
      intro i
      rw [Nat.zero_testBit, setOf_testBit, Bool.eq_false_iff]
      intro hc
      rw [List.contains_iff_mem, List.mem_filter, List.mem_range] at hc
      rw [h i hc.1] at hc
      exact absurd hc.2 (by simp)
  rw [h0]
  exact ⟨fun h x hx => (tellB_iff hf hg hx).1 (h x hx), fun h x hx => (tellB_iff hf hg hx).2 (h x hx)⟩
theorem tell_refl {f : Fr} (hf : Po f) : tell f f = 0 := (tell_iff hf hf).2 fun x _ => BelM.self hf x
theorem tell_trans {f g k : Fr} (hf : Po f) (hg : Po g) (hk : Po k) (h1 : tell f g = 0) (h2 : tell g k = 0) : tell f k = 0 :=
  (tell_iff hf hk).2 fun z hz => BelM.trans hk ((tell_iff hf hg).1 h1) hz ((tell_iff hg hk).1 h2 z hz)
/-- A finite preorder has an element that nothing is under alone. -/
theorem preorder_top {n : Nat} (R : Nat → Nat → Prop) (htr : ∀ i j k, i < n → j < n → k < n → R i j → R j k → R i k) : ∀ m, m < n → ∃ i, i ≤ m ∧ ∀ j, j ≤ m → R i j → R j i
  | 0, _ => by
    refine ⟨0, Nat.le_refl _, fun j hj h => ?_⟩
    have : j = 0 := by omega
    subst this; exact h
  | m + 1, hm => by
    obtain ⟨i, hi, h⟩ := preorder_top R htr m (by omega)
    by_cases h1 : R i (m + 1)
    · refine ⟨m + 1, Nat.le_refl _, fun j hj h2 => ?_⟩
      by_cases hj' : j = m + 1
      · subst hj'; exact h2
      · have h3 := htr i (m + 1) j (by omega) hm (by omega) h1 h2
        exact htr j i (m + 1) (by omega) (by omega) hm (h j (by omega) h3) h1
    · refine ⟨i, by omega, fun j hj h2 => ?_⟩
      by_cases hj' : j = m + 1
      · subst hj'; exact absurd h2 h1
      · exact h j (by omega) h2
end Go.Vc

/- The laws' helpers: sizes of codes, equal lists and frames. Conditions: none. -/
namespace Go.Vc
end Go.Vc
namespace Go.Proofs.YtailchffbgnfhaaGreat
open Go.Vc
theorem ok_laws_big {vc : Value} {w : World} {bs : List Nat} (hc : SlB w vc bs) : Ret Tryz.prog f_laws_big #[vc] w (.bool (decide ((4096 : Int) < (bs.length : Nat)))) := by
  apply c_laws_big; unfold S_laws_big
  refine iLenB hc ?_
  refine iLt ?_
  exact ⟨rfl, Ext.refl _⟩
theorem ok_laws_likeInts {v v' : Value} {w : World} {l l' : List Int} (hs : SlI w v l) (hs' : SlI w v' l') : Ret Tryz.prog f_laws_likeInts #[v, v'] w (.bool (decide (l = l'))) := by
  apply c_laws_likeInts; unfold S_laws_likeInts
  have hl := hs.len
  have hl' := hs'.len
  ((with_reducible refine iLenI (by assumption) ?_; refine iLenI (by assumption) ?_; refine iNe ?_))
  refine iCndP (fun h => ?_) (fun h => ?_)
  · rw [decide_eq_false (fun e => h (by rw [e]))]
    exact ⟨rfl, Ext.refl _⟩
  · have h : l.length = l'.length := by omega
    refine iLp (fun k : Nat => [.int .i64 (k : Int)]) (fun k w' => k ≤ l.length ∧ Ext w w' ∧ l.take k = l'.take k) (fun k => l.length - k) 0 rfl ⟨Nat.zero_le _, Ext.refl _, by simp⟩ ?_
    rintro k w2 Kn ⟨hk, h2, he⟩ hKn
    have hs2 := hs.ext h2
    have hs2' := hs'.ext h2
    (intro _; (try simp only [gx]); (with_reducible refine iLenI (by assumption) ?_; refine iLt ?_))
    refine iCndP (fun h3 => ?_) (fun h3 => ?_)
    · have hk1 : k < l.length := by omega
      have hk2 : k < l'.length := by omega
      have e1 : l.getD k 0 = l[k] := by simp [List.getD_eq_getElem?_getD, hk1]
      have e2 : l'.getD k 0 = l'[k] := by simp [List.getD_eq_getElem?_getD, hk2]
      ((with_reducible refine iIaN (by assumption) ?_ (fun pa_ hpa_ => ?_)); omega; (with_reducible refine iLd (by assumption) ?_); (with_reducible refine iIaN (by assumption) ?_ (fun pa_ hpa_ => ?_)); omega; (with_reducible refine iLd (by assumption) ?_; refine iNe ?_))
      rw [e1, e2]
      intro w3 h4
      refine iCndP (fun h5 => ?_) (fun h5 => ?_)
      · rw [decide_eq_false (fun e => by subst e; exact h5 rfl)]
        exact ⟨rfl, h2.trans h4⟩
      · (refine iAdd (by omega) ?_)
        refine hKn (k + 1) _ ⟨by omega, h2.trans h4, ?_⟩ (by omega)
        rw [List.take_succ_eq_append_getElem hk1, List.take_succ_eq_append_getElem hk2, he]
        congr 2
        exact Classical.not_not.1 h5
    · obtain rfl : k = l.length := by omega
      rw [List.take_length, h, List.take_length] at he
      rw [decide_eq_true he]
      exact ⟨rfl, h2⟩
end Go.Proofs.YtailchffbgnfhaaGreat

/- The law on the order 'under': its contract. Conditions: none. -/
namespace Go.Vc
theorem relL_get {ps : List (Int × List Int)} {i : Nat} (hi : i < ps.length) : (relL ps).getD i 0 = relK ps i ps.length := by simp [relL, hi]
theorem relL_bit {ps : List (Int × List Int)} {i : Nat} (hi : i < ps.length) (j : Nat) : ((relL ps).getD i 0).testBit j = true ↔ j < ps.length ∧ tell (frP ps i) (frP ps j) = 0 := by
  rw [relL_get hi, relK, setOf_testBit, List.contains_iff_mem, List.mem_filter, List.mem_range, decide_eq_true_eq]
section
variable {ps : List (Int × List Int)} (hp : ∀ i, i < ps.length → Po (frP ps i))
 include hp
theorem relL_comp {i : Nat} (hi : i < ps.length) : rowsK (relL ps) ((relL ps).getD i 0) ps.length = (relL ps).getD i 0 := by
  have hlt : (relL ps).getD i 0 < 2 ^ ps.length := by rw [relL_get hi]; exact relK_lt _ _ _
  apply Nat.eq_of_testBit_eq
  intro j
  rw [Bool.eq_iff_iff, rowsK_bit, relL_bit hi]
  constructor
  · rintro ⟨k, hk, h1, h2⟩
    rw [relL_bit hi] at h1
    rw [relL_bit hk] at h2
    exact ⟨h2.1, tell_trans (hp i hi) (hp k hk) (hp j h2.1) h1.2 h2.2⟩
  · rintro ⟨hj, h⟩
    exact ⟨j, hj, (relL_bit hi j).2 ⟨hj, h⟩, (relL_bit hj j).2 ⟨hj, tell_refl (hp j hj)⟩⟩
theorem bestK_pos (h0 : 0 < ps.length) : 0 < (bestK ps ps.length).length := by
  obtain ⟨i, hi, h⟩ := preorder_top (n := ps.length) (fun i j => i < ps.length ∧ j < ps.length ∧ tell (frP ps i) (frP ps j) = 0) (fun i j k hi hj hk h1 h2 => ⟨hi, hk, tell_trans (hp i hi) (hp j hj) (hp k hk) h1.2.2 h2.2.2⟩) (ps.length - 1) (by omega)
  have hin : i < ps.length := by omega
  have : i ∈ bestK ps ps.length := by
    unfold bestK
    rw [List.mem_filter, List.mem_range]
    refine ⟨hin, ?_⟩
    unfold bestB
    rw [List.all_eq_true]
    intro j hj
    have hj := List.mem_range.1 hj
    rw [Bool.or_eq_true, Bool.not_eq_true']
    cases hb : ((relL ps).getD i 0).testBit j
    · exact .inl rfl
    · have hb := (relL_bit hin j).1 hb
      exact .inr ((relL_bit hj i).2 ⟨hin, (h j (by omega) ⟨hin, hj, hb.2⟩).2.2⟩)
  exact List.length_pos_of_mem this
end
/-- The rows of a relation behind another one, while they are made. -/
def compL (a : List Nat) (n k : Nat) : List Nat := (List.range n).map fun i => if i < k then rowsK a (a.getD i 0) n else 0
theorem compL_zero (a : List Nat) (n : Nat) : compL a n 0 = List.replicate n 0 := by
  apply List.ext_getElem <;> simp [compL]
theorem compL_len (a : List Nat) (n k : Nat) : (compL a n k).length = n := by simp [compL]
theorem compL_set (a : List Nat) (n k : Nat) (_hk : k < n) : (compL a n k).set k (rowsK a (a.getD k 0) n) = compL a n (k + 1) := by
  apply List.ext_getElem
  · simp [compL]
  · intro i h1 h2
    rw [List.getElem_set]
    simp only [compL, List.getElem_map, List.getElem_range]
    by_cases h : k = i
    · subst h; simp
    · rw [if_neg h]
      by_cases h' : i < k
      · rw [if_pos h', if_pos (by omega)]
      · rw [if_neg h', if_neg (by omega)]
end Go.Vc
namespace Go.Proofs.YtailchffbgnfhaaGreat
open Go.Vc
theorem ok_impl_compose {v : Value} {w : World} {a : List Nat} (hs : SlN w v a) (hal : a.length ≤ 8) (hlt : ∀ x ∈ a, x < 2 ^ a.length) : Cal Tryz.prog f_impl_compose #[v, v] w fun r w' => Ext w w' ∧ Ow w.heap.size t_i64 w' r (ints (nats (compL a a.length a.length))) := by
  apply c_impl_compose; unfold S_impl_compose
  ((with_reducible refine iLenN (by assumption) ?_))
  refine iMk (by omega) (by omega) rfl fun b w1 hb h1 hB => ?_
  have ho : Ow w.heap.size t_i64 w1 (.slice (some ⟨b, 0, none⟩) a.length a.length) (ints (nats (compL a a.length 0))) := by
    rw [compL_zero]
    have := Ow.ofBlk (lo := w.heap.size) hB (by omega) (List.length_replicate ..) (by omega)
    simpa [ints, nats] using this
  have hs1 := hs.ext h1
  ((with_reducible refine iLenN (by assumption) ?_))
  refine iLp (fun k : Nat => [.int .i64 (k : Int)]) (fun k w' => k ≤ a.length ∧ Ext w w' ∧ Ow w.heap.size t_i64 w' (.slice (some ⟨b, 0, none⟩) a.length a.length) (ints (nats (compL a a.length k)))) (fun k => a.length - k) 0 rfl ⟨Nat.zero_le _, h1, ho⟩ ?_
  rintro k w3 Kn ⟨hk, h3, ho3⟩ hKn
  have hs3 := hs.ext h3
  (intro _; (try simp only [gx]); (with_reducible refine iLt ?_))
  refine iCndP (fun h4 => ?_) (fun h4 => ?_)
  · have hk1 : k < a.length := by omega
    have hg : a.getD k 0 < 2 ^ a.length := by rw [getD_of_lt hk1]; exact hlt _ (List.getElem_mem hk1)
    ((with_reducible refine iIaNN (by assumption) ?_ (fun pa_ hpa_ => ?_)); omega; (with_reducible refine iLd (by assumption) ?_))
    refine iRet (ok_impl_image hs3 hal hlt _ hg) fun w4 h5 => ?_
    have ho4 := ho3.ext h5
    have hil : (ints (nats (compL a a.length k))).length = a.length := by rw [ints_length, nats_length, compL_len]
    refine iIaOwE ho4 (by omega) fun bu hbu hwr => ?_
    obtain ⟨hc1, hc2, hc3⟩ := hwr w4 _ rfl ho4
    rw [List.getElem?_eq_getElem (by omega)] at hc1
    refine iSt hc1 hc2 rfl ?_
    have ho5 := hc3 (.int .i64 ((rowsK a (a.getD k 0) a.length : Nat) : Int))
    rw [← ints_nats_set, compL_set a _ k hk1] at ho5
    (refine iAdd (by omega) ?_)
    exact hKn (k + 1) _ ⟨by omega, (h3.trans h5).upd (Upd.setCell _ _ _ _) (ho4.blk bu hbu).1, ho5⟩ (by omega)
  · have e : k = a.length := by omega
    subst e
    exact ⟨h3, ho3⟩
theorem ok_impl_relationCode2 {v : Value} {w : World} {a : List Nat} (hs : SlN w v a) (hal : a.length ≤ 8) (hlt : ∀ x ∈ a, x < 2 ^ a.length) {vv : Value} (hv : Sl w vv [v, v]) : Ret Tryz.prog f_impl_relationCode #[vv] w (.int .i64 0) := by
  apply c_impl_relationCode; unfold S_impl_relationCode
  refine iLenS hv ?_
  refine iLp (fun k : Nat => [.int .i64 0, .int .i64 (k : Int)]) (fun k w' => k ≤ 2 ∧ Ext w w') (fun k => 2 - k) 0 rfl ⟨Nat.zero_le _, Ext.refl _⟩ ?_
  rintro k w2 Kn ⟨hk, h2⟩ hKn
  have hs2 := hs.ext h2
  have hv2 := hv.ext h2
  (intro _; (try simp only [gx]); (with_reducible refine iLt ?_))
  refine iCndP (fun h4 => ?_) (fun h4 => ⟨by first | trivial | rfl, h2⟩)
  have hk1 : k < 2 := by simp at h4; omega
  refine iIa hv2 (by omega) (by simp; omega) fun p hp => ?_
  have hp : w2.cell? p = some v := by
    rw [hp, Int.toNat_natCast]
    match k, hk1 with
    | 0, _ => rfl
    | 1, _ => rfl
  ((with_reducible refine iLd (by assumption) ?_; refine iLenN (by assumption) ?_; refine iLt ?_))
  refine iCndP (fun h => by omega) (fun _ => ?_)
  refine iRet (ok_impl_isRelation hs2) fun w3 h3 => ?_
  have e : ((nats a).all fun x => decide ((nats a).length ≤ 30) && maskB (nats a).length x) = true := by
    rw [List.all_eq_true]
    intro x hx
    obtain ⟨y, hy, rfl⟩ := List.mem_map.1 hx
    have := hlt y hy
    rw [nats_length, Bool.and_eq_true, decide_eq_true_eq]
    refine ⟨by omega, ?_⟩
    unfold maskB
    rw [decide_eq_true_eq]
    show (0 : Int) ≤ (y : Int) ∧ (y : Int) ≤ _
    omega
  rw [e]
  refine iNot ?_
  refine iCndF rfl ?_
  (refine iAdd (by omega) ?_)
  exact hKn (k + 1) _ ⟨by omega, h2.trans h3⟩ (by omega)
theorem ok_impl_ComposeRelations {v : Value} {w : World} {a : List Nat} (hs : SlN w v a) (hal : a.length ≤ 8) (hlt : ∀ x ∈ a, x < 2 ^ a.length) : Cal Tryz.prog f_impl_ComposeRelations #[v, v] w fun r w' => Ext w w' ∧ ∃ u, r = .tuple #[u, .int .i64 0] ∧ SlN w' u (compL a a.length a.length) := by
  apply c_impl_ComposeRelations; unfold S_impl_ComposeRelations
  have hvc : isCell v = true := by obtain ⟨x, c, h, _⟩ := hs; rw [h]; rfl
  refine iBs2 rfl hvc hvc fun c w1 hc h1 hB => ?_
  have hs1 := hs.ext h1
  refine iRet (ok_impl_relationCode2 hs1 hal hlt (Sl.ofBlk hB rfl (by omega))) fun w2 h2 => ?_
  have hs2 := hs1.ext h2
  ((with_reducible refine iNe ?_))
  refine iCndF (by simp) ?_
  ((with_reducible refine iLenN (by assumption) ?_; refine iLenN (by assumption) ?_; refine iNe ?_))
  refine iCndF (by simp) ?_
  refine iCall ((ok_impl_compose hs2 hal hlt).mono ?_)
  rintro u w3 ⟨h3, ho⟩
  exact ⟨h1.trans (h2.trans h3), u, rfl, ho.sl⟩
theorem ok_laws_bit9 (m i : Nat) (hm : m < 2 ^ 62) (hi : i < 62) (w : World) : Ret Tryz.prog f_laws_bit9 #[.int .i64 (m : Int), .int .i64 (i : Int)] w (.bool (m.testBit i)) := by
  apply c_laws_bit9; unfold S_laws_bit9
  refine iJn ?_
  refine iLe ?_
  refine iCndP (fun _ => ?_) (fun h => by omega)
  refine iLt ?_
  refine iCndP (fun _ => ?_) (fun h => by omega)
  refine iConvU (by omega) ?_
  refine ⟨_, _, _, rfl, rfl, by omega, ?_⟩
  refine ⟨_, _, rfl, rfl, ?_⟩
  rw [bit_of_shr (by omega) (by omega)]
  refine iEq ?_
  intro _
  refine ⟨?_, Ext.refl _⟩
  show Value.bool _ = _
  cases h : m.testBit i <;> simp
theorem ok_laws_FnUnderOrder {w : World} {vc : Value} {bs : List Nat} (hc : SlB w vc bs) : Ret Tryz.prog f_laws_FnUnderOrder #[vc] w (.bool true) := by
  apply c_laws_FnUnderOrder; unfold S_laws_FnUnderOrder
  refine iRet (ok_laws_big hc) fun w1 h1 => ?_
  refine iCndP (fun _ => ⟨rfl, h1⟩) (fun _ => ?_)
  refine iCall ((ok_spec_DrawGreatestLogics (hc.ext h1)).mono ?_)
  rintro v w2 ⟨h2, ps, hps, hs2⟩
  refine iCall ((ok_impl_GreatestLogics hs2).mono ?_)
  rintro _ w3 ⟨h3, u, rfl, hou⟩
  ((with_reducible refine iE20 ?_; refine iE21 ?_))
  have hs3 := hs2.ext h3
  refine iCall ((ok_spec_GreatestLogics hs3).mono ?_)
  rintro _ w4 ⟨h4, u', rfl, hou'⟩
  have hou4 := hou.ext h4
  have hX4 := h1.trans (h2.trans (h3.trans h4))
  ((with_reducible refine iE20 ?_; refine iE21 ?_))
  refine iJnX (fun xs w' => xs = [.bool false] ∧ Ext w4 w') (fun J hJ => ?_) ?_
  · ((with_reducible refine iNe ?_))
    refine iCndF (by simp) ?_
    refine iRet (ok_laws_likeInts hou4.sl hou'.sl) fun w7 h7 => ?_
    refine iNot ?_
    simp only [decide_true, Bool.not_true]
    exact hJ _ _ ⟨rfl, h7⟩
  rintro _ w6 ⟨rfl, h6⟩
  intro _
  have hX6 := hX4.trans h6
  have hs6 := hs3.ext (h4.trans h6)
  have hu6 : SlI w6 u (glRes ps).1 := (hou4.ext h6).sl
  refine iCndF rfl ?_
  refine iNe ?_
  by_cases hcd : codeL ps = 0
  rotate_left
  · have e2 : (glRes ps).2 = codeL ps := by unfold glRes; rw [if_neg hcd]
    have e1 : (glRes ps).1 = [] := by unfold glRes; rw [if_neg hcd]
    rw [e2]
    refine iCndT (by simpa using hcd) ?_
    refine iLenI hu6 ?_
    rw [e1]
    refine iEq ?_
    exact ⟨rfl, hX6⟩
  have e2 : (glRes ps).2 = 0 := by unfold glRes; rw [if_pos hcd]
  have e1 : (glRes ps).1 = nats (bestK ps ps.length) := by unfold glRes; rw [if_pos hcd]
  have e3 : urRes ps = (nats (relL ps), 0) := by unfold urRes; rw [if_pos hcd]
  rw [e2]
  rw [e1] at hu6
  refine iCndF (by simp) ?_
  obtain ⟨hok, hl6⟩ := codeL_zero hcd
  have hpo : ∀ i, i < ps.length → Po (frP ps i) := fun i hi => (frP_po hok hi).1
  refine iCall ((ok_impl_UnderRelation hs6).mono ?_)
  rw [e3]
  rintro _ w8 ⟨h8, ur, rfl, hor⟩
  have hrl : (relL ps).length = ps.length := by simp [relL]
  have hrlt : ∀ x ∈ relL ps, x < 2 ^ (relL ps).length := fun x hx => by rw [hrl]; exact (rel_ok hl6).2.2 x hx
  have hr8 : SlN w8 ur (relL ps) := hor.sl
  have hu8 := hu6.ext h8
  have hs8 := hs6.ext h8
  ((with_reducible refine iE20 ?_; refine iE21 ?_))
  refine iJnX (fun xs w' => xs = [.bool false] ∧ Ext w8 w') (fun J hJ => ?_) ?_
  · ((with_reducible refine iNe ?_))
    refine iCndF (by simp) ?_
    ((with_reducible refine iLenN (by assumption) ?_))
    refine iLenP hs8 ?_
    ((with_reducible refine iNe ?_))
    refine iCndF (by simp [hrl]) ?_
    refine iLenI hu8 ?_
    ((with_reducible refine iLt ?_))
    refine iLenP hs8 ?_
    ((with_reducible refine iLt ?_))
    have : (decide ((0 : Int) < ((nats (bestK ps ps.length)).length : Nat))) = decide ((0 : Int) < (ps.length : Nat)) := by
      rw [nats_length]
      by_cases h0 : 0 < ps.length
      · have := bestK_pos hpo h0
        rw [decide_eq_true (by omega), decide_eq_true (by omega)]
      · have := bestK_len ps ps.length
        rw [decide_eq_false (by omega), decide_eq_false (by omega)]
    rw [this]
    refine ⟨_, _, rfl, rfl, ?_⟩
    exact hJ _ _ ⟨by simp, Ext.refl _⟩
  rintro _ w10 ⟨rfl, h10⟩
  intro _
  refine iCndF rfl ?_
  have hr10 := hr8.ext h10
  have hs10 := hs8.ext h10
  have hX10 := hX6.trans (h8.trans h10)
  refine iCall ((ok_impl_ComposeRelations hr10 (by omega) hrlt).mono ?_)
  rintro _ w11 ⟨h11, uc, rfl, hcs⟩
  have hcomp : compL (relL ps) (relL ps).length (relL ps).length = relL ps := by
    apply List.ext_getElem
    · rw [compL_len]
    · intro i h1 h2
      have hi : i < ps.length := by omega
      simp only [compL, List.getElem_map, List.getElem_range]
      rw [if_pos h2, hrl, relL_comp hpo hi]
      exact getD_of_lt h2
  rw [hcomp] at hcs
  have hr11 := hr10.ext h11
  ((with_reducible refine iE20 ?_; refine iE21 ?_))
  refine iJnX (fun xs w' => xs = [.bool false] ∧ Ext w11 w') (fun J hJ => ?_) ?_
  · ((with_reducible refine iNe ?_))
    refine iCndF (by simp) ?_
    refine iRet (ok_laws_likeInts hcs hr11) fun w7 h7 => ?_
    refine iNot ?_
    simp only [decide_true, Bool.not_true]
    exact hJ _ _ ⟨rfl, h7⟩
  rintro _ w13 ⟨rfl, h13⟩
  intro _
  refine iCndF rfl ?_
  have hX13 := hX10.trans (h11.trans h13)
  have hr13 := hr11.ext h13
  have hs13 := hs10.ext (h11.trans h13)
  have h62 : 2 ^ ps.length ≤ 2 ^ 6 := Nat.pow_le_pow_right (by omega) hl6
  have hrb : ∀ i, i < ps.length → (relL ps).getD i 0 < 2 ^ 62 := fun i hi => by
    have : (relL ps).getD i 0 < 2 ^ ps.length := by rw [relL_get hi]; exact relK_lt _ _ _
    omega
  refine iLp (fun k : Nat => [.int .i64 (k : Int)]) (fun k w' => k ≤ ps.length ∧ Ext w13 w') (fun k => ps.length - k) 0 rfl ⟨Nat.zero_le _, Ext.refl _⟩ ?_
  rintro k w16 Kn ⟨hk, h16⟩ hKn
  have hr16 := hr13.ext h16
  have hs16 := hs13.ext h16
  (intro _; (try simp only [gx]))
  refine iLenP hs16 ?_
  ((with_reducible refine iLt ?_))
  refine iCndP (fun h => ?_) (fun _ => ⟨by first | trivial | rfl, hX13.trans h16⟩)
  have hk1 : k < ps.length := by omega
  have h01 : 0 < ps.length := by omega
  ((with_reducible refine iIaNN (by assumption) ?_ (fun pa_ hpa_ => ?_)); omega; (with_reducible refine iLd (by assumption) ?_))
  refine iRet (ok_laws_bit9 _ k (hrb k hk1) (by omega) w16) fun w17 h17 => ?_
  have hself : ((relL ps).getD k 0).testBit k = true := (relL_bit hk1 k).2 ⟨hk1, tell_refl (hpo k hk1)⟩
  rw [hself]
  refine iNot ?_
  refine iCndF rfl ?_
  have hs17 := hs16.ext h17
  refine iIaP (j := 0) hs17 h01 fun b0 o0 u0 g1 g2 g3 => ?_
  refine iLd2 g1 g2 ?_
  refine iIaP hs17 hk1 fun b1 o1 u1 k1 k2 k3 => ?_
  refine iLd2 k1 k2 ?_
  refine iRetQ (fun w' h' => ok_impl_AreAlike (g3.ext h') (k3.ext h') _ _) ?_
  have ec : codeS [(ps[0].1, ps[0].2), (ps[k].1, ps[k].2)] = 0 := by
    have h6 : ∀ q ∈ ps, q.1 ≤ 6 := by
      intro q hq
      have h0 : codeS ps = 0 := by
        unfold codeL at hcd
        split at hcd
        · omega
        · exact hcd
      unfold codeS at h0
      split at h0
      · omega
      · split at h0
        · omega
        · rename_i h2
          rw [Bool.not_eq_true, List.any_eq_false] at h2
          have := h2 q hq
          simpa using this
    have m0 := List.getElem_mem h01
    have mk := List.getElem_mem hk1
    unfold codeS
    have a1 := hok _ m0
    have a2 := hok _ mk
    have a3 := h6 _ m0
    have a4 := h6 _ mk
    simp [a1, a2]
    omega
  have er : alikeRes ps[0].1 ps[0].2 ps[k].1 ps[k].2 = (decide (tell (frP ps 0) (frP ps k) = 0) && decide (tell (frP ps k) (frP ps 0) = 0), 0) := by
    unfold alikeRes
    rw [if_pos ec]
    have f0 : frP ps 0 = frOf ps[0].1 ps[0].2 := by unfold frP; rw [show ps.getD 0 (0, []) = ps[0] by simp [List.getD_eq_getElem?_getD, h01]]
    have fk : frP ps k = frOf ps[k].1 ps[k].2 := by unfold frP; rw [show ps.getD k (0, []) = ps[k] by simp [List.getD_eq_getElem?_getD, hk1]]
    rw [f0, fk]
  rw [er]
  ((with_reducible refine iE20 ?_; refine iE21 ?_))
  intro w18 h18
  have b0k : ((relL ps).getD 0 0).testBit k = decide (tell (frP ps 0) (frP ps k) = 0) := by
    rw [Bool.eq_iff_iff, relL_bit h01, decide_eq_true_eq]; exact ⟨fun h => h.2, fun h => ⟨hk1, h⟩⟩
  have bk0 : ((relL ps).getD k 0).testBit 0 = decide (tell (frP ps k) (frP ps 0) = 0) := by
    rw [Bool.eq_iff_iff, relL_bit hk1, decide_eq_true_eq]; exact ⟨fun h => h.2, fun h => ⟨h01, h⟩⟩
  have hr18 := hr16.ext (h17.trans h18)
  refine iJnX (fun xs w' => xs = [.bool false] ∧ Ext w18 w') (fun J hJ => ?_) ?_
  · refine iNe ?_
    refine iCndF (by simp) ?_
    refine iIaNN (j := 0) hr18 (by omega) fun p hp => ?_
    refine iLd hp ?_
    refine iRet (ok_laws_bit9 _ k (hrb 0 h01) (by omega) w18) fun w21 h21 => ?_
    rw [b0k]
    cases hd : decide (tell (frP ps 0) (frP ps k) = 0)
    · refine iCndF rfl ?_
      refine ⟨_, _, rfl, rfl, ?_⟩
      exact hJ _ _ ⟨rfl, h21⟩
    · refine iCndT rfl ?_
      refine iIaNN (hr18.ext h21) (by omega) fun p hp => ?_
      refine iLd hp ?_
      refine iRet (ok_laws_bit9 _ 0 (hrb k hk1) (by omega) w21) fun w22 h22 => ?_
      rw [bk0]
      refine ⟨_, _, rfl, rfl, ?_⟩
      refine hJ _ _ ⟨?_, h21.trans h22⟩
      cases decide (tell (frP ps k) (frP ps 0) = 0) <;> rfl
  rintro _ w20 ⟨rfl, h20⟩
  intro _
  refine iCndF rfl ?_
  (refine iAdd (by omega) ?_)
  exact hKn (k + 1) _ ⟨by omega, h16.trans (h17.trans (h18.trans h20))⟩ (by omega)
end Go.Proofs.YtailchffbgnfhaaGreat
