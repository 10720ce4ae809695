/- The proof of FnUnder, part 4 of 6. Conditions: none. -/
import Derived.Test.YtikfhibcdhdglaaGreatKR34c
import Derived.Laws.StructEq
/- Contracts: the part of a poset, cones, FindPart's search, and what tells one poset from another. Conditions: none. -/
namespace Go.Vc
theorem findSome_at {α β : Type} {l : List α} {p : α → Option β} {k : Nat} {x : β} (hk : k < l.length) (h : (l.take k).findSome? p = none) (h2 : p l[k] = some x) : l.findSome? p = some x := by
  have e : l = l.take k ++ l[k] :: l.drop (k + 1) := by rw [← List.drop_eq_getElem_cons hk, List.take_append_drop]
  rw [e, List.findSome?_append, h, List.findSome?_cons, h2]; rfl
theorem findSome_next {α β : Type} {l : List α} {p : α → Option β} {k : Nat} (hk : k < l.length) (h : (l.take k).findSome? p = none) (h2 : p l[k] = none) : (l.take (k + 1)).findSome? p = none := by
  rw [List.take_succ_eq_append_getElem hk, List.findSome?_append, h]
  simp [h2]
def sqL (f : Fr) (ms : List Nat) (k : Nat) : List Nat := (ms.take k).map fun x => sqz ms (f.a.getD x 0)
theorem sqL_succ (f : Fr) (ms : List Nat) (k : Nat) (h : k < ms.length) : sqL f ms (k + 1) = sqL f ms k ++ [sqz ms (f.a.getD ms[k] 0)] := by
  unfold sqL
  rw [List.take_succ_eq_append_getElem h, List.map_append]; rfl
theorem sqL_end (f : Fr) (m : Nat) : sqL f (mem m) (mem m).length = (partFr f m).a := by
  unfold sqL partFr
  rw [List.take_length]
theorem sqL_len (f : Fr) (ms : List Nat) (k : Nat) : (sqL f ms k).length ≤ k := by
  unfold sqL
  rw [List.length_map, List.length_take]; omega
def pmO (o : Option (Nat × List Nat)) : Nat := (o.map Prod.fst).getD 0
def pfO (o : Option (Nat × List Nat)) : List Nat := (o.map Prod.snd).getD []
end Go.Vc
namespace Go.Proofs.YtikfhibcdhdglaaGreat
open Go.Vc
theorem ok_spec_l16Make {v : Value} {w : World} {l : List Nat} (hs : SlN w v l) (hl : l.length ≤ 1099511627776) : Cal Tryz.prog f_spec_l16Make #[v] w fun r w' => Ext w w' ∧ ∃ v', r = .agg #[.int .i64 (l.length : Int), v'] ∧ Ow w.heap.size t_i64 w' v' (ints (nats l)) := by
  apply c_spec_l16Make; unfold S_spec_l16Make
  refine iNew fun b w1 hb h1 hB => ?_
  have hs1 := hs.ext h1
  ((with_reducible refine iLenN (by assumption) ?_))
  refine iCall ((ok_spec_l01Own hs1 (by rw [nats_length]; exact hl)).mono ?_)
  rintro u w2 ⟨h2, ho⟩
  have hB2 := hB.ext h2
  have hX2 := h1.trans h2
  have hsz := h1.size
  have hne : u.ownBlock ≠ some b := fun e => by have := (ho.blk b e).1; have := hB.lt; omega
  obtain ⟨va, vn, vc, rfl⟩ := ho.shape
  refine iBuild (cs := #[.int .i64 (l.length : Int), .slice va vn vc]) (by simp [Instr.fill, Value.cells]) ?_
  refine iStAB hB2 rfl rfl (ho.pair _) fun w3 hu hB3 => ?_
  refine iLdA hB3 rfl ?_
  exact ⟨hX2.upd hu (by omega), _, rfl, (ho.mono hsz).upd hu hne⟩
theorem ok_spec_l16Part {f : Fr} (hf : f.ok) {v : Value} {w : World} (hs : SlN w v f.a) (m : Nat) (hm : m < 2 ^ f.n) : Cal Tryz.prog f_spec_l16Part #[.agg #[.int .i64 (f.n : Int), v], .int .i64 (m : Int)] w fun r w' => Ext w w' ∧ ∃ v', r = .agg #[.int .i64 ((partFr f m).n : Int), v'] ∧ Ow w.heap.size t_i64 w' v' (ints (nats (partFr f m).a)) := by
  apply c_spec_l16Part; unfold S_spec_l16Part
  have hf8 := hf.1
  have hfl := hf.2.1
  have hm8 : m < 2 ^ 8 := Nat.lt_of_lt_of_le hm (Nat.pow_le_pow_right (by omega) hf8)
  refine iNew fun b w1 hb1 h1 hB1 => ?_
  refine iNew fun b4 w2 hb4 h2 hB4 => ?_
  have hX2 := h1.trans h2
  have hsz1 := h1.size
  refine iCall ((ok_spec_l01List m (by omega) w2).mono ?_)
  rintro u w3 ⟨h3, hou⟩
  have hml : (mem m).length ≤ 8 := Nat.le_trans (mem_len hf hm) hf8
  have hmx : ∀ x ∈ mem m, x < f.n := fun x hx => mem_lt hf hm hx
  have hX3 := hX2.trans h3
  have hB1 := (hB1.ext h2).ext h3
  have hB4 := hB4.ext h3
  have hus : SlN w3 u (mem m) := hou.sl
  refine iBs0 fun vo w4 _ h4 ho => ?_
  refine iLp (fun s : Value × Nat => [s.1, .int .i64 (s.2 : Int)]) (fun s w' => s.2 ≤ (mem m).length ∧ Ext w3 w' ∧ Ow w3.heap.size t_i64 w' s.1 (ints (nats (sqL f (mem m) s.2)))) (fun s => (mem m).length - s.2) (vo, 0) rfl ⟨Nat.zero_le _, h4, ho⟩ ?_
  rintro ⟨vo, k⟩ w6 Kn ⟨hk, h6, ho6⟩ hKn
  have hk : k ≤ (mem m).length := hk
  have ho6 : Ow w3.heap.size t_i64 w6 vo (ints (nats (sqL f (mem m) k))) := ho6
  have hs6 := hs.ext (hX3.trans h6)
  have hus6 := hus.ext h6
  have hB16 := hB1.ext h6
  (intro _; (try simp only [gx]); (with_reducible refine iLenN (by assumption) ?_; refine iLt ?_))
  refine iCndP (fun h7 => ?_) (fun h7 => ?_)
  · have hk1 : k < (mem m).length := by omega
    have hg : (mem m).getD k 0 = (mem m)[k] := getD_of_lt hk1
    have hx := hmx _ (List.getElem_mem hk1)
    have hgx := fr_lt63 hf (mem m)[k]
    have hsu := sqL_succ f (mem m) k hk1
    ((with_reducible refine iFa ?_); refine iLdB (by assumption) (by first | rfl | simp) ?_; (with_reducible refine iIaNN (by assumption) ?_ (fun pa_ hpa_ => ?_)); omega; (with_reducible refine iLd (by assumption) ?_); (with_reducible refine iIaNN (by assumption) ?_ (fun pa_ hpa_ => ?_)); omega; (with_reducible refine iLd (by assumption) ?_))
    rw [hg]
    refine iRetQ (fun w' h' => ok_spec_l05Squeeze (hus6.ext h') (by omega) (fun x hx => by have := hmx x hx; omega) _ (by omega)) ?_
    intro w7 h8
    refine iBs1 rfl rfl fun bb w8 hbb h9 hBb => ?_
    (try refine ⟨h9, ?_⟩)
    intro w9 hA
    have hX9 := h6.trans (h8.trans (h9.trans hA))
    have ho9 := ((ho6.ext h8).ext h9).ext hA
    have hil : (ints (nats (sqL f (mem m) k))).length ≤ k := by rw [ints_length, nats_length]; exact sqL_len _ _ _
    refine iApp u_Si64 i_Si64 rfl ho9 (Sl.ofBlk (hBb.ext hA) rfl (by omega)) (fun x hx => by simp at hx; subst hx; rfl) (by simp; omega) (by simp; omega) hX9.size fun v' wB ho' hg' => ?_
    rw [ints_snoc, ← hsu] at ho'
    have hXB := hX9.grown hg' (fun c hc => (ho9.blk c hc).1)
    (try refine ⟨h9, ?_⟩)
    intro w11 hC
    (refine iAdd (by omega) ?_)
    exact hKn (v', k + 1) _ ⟨by show k + 1 ≤ (mem m).length; omega, hXB.trans hC, ho'.ext hC⟩ (by show (mem m).length - (k + 1) < (mem m).length - k; omega)
  · have hk2 : k = (mem m).length := by omega
    subst hk2
    rw [sqL_end] at ho6
    have hsl6 : SlN w6 vo (partFr f m).a := ho6.sl
    have hpl : (partFr f m).a.length = (partFr f m).n := by simp [partFr]
    have hpn : (partFr f m).n = (mem m).length := rfl
    refine iCall ((ok_spec_l16Make hsl6 (by omega)).mono ?_)
    rintro _ w12 ⟨h12, v', rfl, ho'⟩
    rw [hpl]
    have hB4 := (hB4.ext h6).ext h12
    have hX12 := hX3.trans (h6.trans h12)
    have hX6s := (hX3.trans h6).size
    have hne : v'.ownBlock ≠ some b4 := fun e => by
      have := (ho'.blk b4 e).1
      have h3s := h3.size
      have h6s := h6.size
      omega
    refine iStAB hB4 rfl rfl (ho'.pair _) fun w13 hu hB13 => ?_
    refine iLdA hB13 rfl ?_
    exact ⟨hX12.upd hu (by omega), _, rfl, (ho'.mono hX6s).upd hu hne⟩
theorem ok_spec_l34Cone {f : Fr} (hf : f.ok) {v : Value} {w : World} (hs : SlN w v f.a) (x : Nat) (hx : x < f.n) : Cal Tryz.prog f_spec_l34Cone #[.agg #[.int .i64 (f.n : Int), v], .int .i64 (x : Int)] w fun r w' => Ext w w' ∧ ∃ v', r = .agg #[.int .i64 ((partFr f (f.a.getD x 0)).n : Int), v'] ∧ Ow w.heap.size t_i64 w' v' (ints (nats (partFr f (f.a.getD x 0)).a)) := by
  apply c_spec_l34Cone; unfold S_spec_l34Cone
  have hf8 := hf.1
  have hfl := hf.2.1
  refine iNew fun b w1 hb1 h1 hB1 => ?_
  refine iNew fun b4 w2 hb4 h2 hB4 => ?_
  have hX2 := h1.trans h2
  have hsz1 := h1.size
  have hB1 := hB1.ext h2
  have hs2 := hs.ext hX2
  ((with_reducible refine iLdA (by assumption) ?_ ?_); rfl; (with_reducible refine iFa ?_); refine iLdB (by assumption) (by first | rfl | simp) ?_; (with_reducible refine iIaNN (by assumption) ?_ (fun pa_ hpa_ => ?_)); omega; (with_reducible refine iLd (by assumption) ?_))
  intro w3 h3
  have hX3 := hX2.trans h3
  refine iCall ((ok_spec_l16Part hf (hs.ext hX3) _ (hf.lt hx)).mono ?_)
  rintro _ w4 ⟨h4, v', rfl, ho'⟩
  (try refine ⟨h4, ?_⟩)
  intro w5 h5
  have ho5 := ho'.ext h5
  have hB5 := ((hB4.ext h3).ext h4).ext h5
  have h3s := hX3.size
  have hne : v'.ownBlock ≠ some b4 := fun e => by have := (ho5.blk b4 e).1; have := (hB4.ext h3).lt; omega
  refine iStAB hB5 rfl rfl (ho5.pair _) fun w6 hu hB6 => ?_
  intro w7 h7
  refine iLdA (hB6.ext h7) rfl ?_
  exact ⟨((hX3.trans (h4.trans h5)).upd hu (by omega)).trans h7, _, rfl, ((ho5.mono h3s).upd hu hne).ext h7⟩
theorem ok_impl_partOn {f : Fr} (hf : f.ok) {v : Value} {w : World} (hs : SlN w v f.a) (m : Nat) (hm : m < 2 ^ f.n) : Cal Tryz.prog f_impl_partOn #[v, .int .i64 (m : Int)] w fun r w' => Ext w w' ∧ Ow w.heap.size t_i64 w' r (ints (nats (partFr f m).a)) := by
  apply c_impl_partOn; unfold S_impl_partOn
  have hf8 := hf.1
  have hfl := hf.2.1
  have hm8 : m < 2 ^ 8 := Nat.lt_of_lt_of_le hm (Nat.pow_le_pow_right (by omega) hf8)
  refine iCall ((ok_impl_membersOf m (by omega) w).mono ?_)
  rintro u w1 ⟨h1, hou⟩
  have hml : (mem m).length ≤ 8 := Nat.le_trans (mem_len hf hm) hf8
  have hmx : ∀ x ∈ mem m, x < f.n := fun x hx => mem_lt hf hm hx
  have hus : SlN w1 u (mem m) := hou.sl
  ((with_reducible refine iLenN (by assumption) ?_))
  refine iLp (fun s : Value × Nat => [s.1, .int .i64 (s.2 : Int)]) (fun s w' => s.2 ≤ (mem m).length ∧ Ext w1 w' ∧ Ow w1.heap.size t_i64 w' s.1 (ints (nats (sqL f (mem m) s.2)))) (fun s => (mem m).length - s.2) (.slice none 0 0, 0) rfl ⟨Nat.zero_le _, Ext.refl _, Ow.nil _ _ _⟩ ?_
  rintro ⟨vo, k⟩ w6 Kn ⟨hk, h6, ho6⟩ hKn
  have hk : k ≤ (mem m).length := hk
  have ho6 : Ow w1.heap.size t_i64 w6 vo (ints (nats (sqL f (mem m) k))) := ho6
  have hs6 := hs.ext (h1.trans h6)
  have hus6 := hus.ext h6
  (intro _; (try simp only [gx]); (with_reducible refine iLt ?_))
  refine iCndP (fun h7 => ?_) (fun h7 => ?_)
  · have hk1 : k < (mem m).length := by omega
    have hg : (mem m).getD k 0 = (mem m)[k] := getD_of_lt hk1
    have hx := hmx _ (List.getElem_mem hk1)
    have hgx := fr_lt63 hf (mem m)[k]
    have hsu := sqL_succ f (mem m) k hk1
    ((with_reducible refine iIaNN (by assumption) ?_ (fun pa_ hpa_ => ?_)); omega; (with_reducible refine iLd (by assumption) ?_); (with_reducible refine iIaNN (by assumption) ?_ (fun pa_ hpa_ => ?_)); omega; (with_reducible refine iLd (by assumption) ?_))
    rw [hg]
    refine iRet (ok_impl_squeeze _ m (by omega) (by omega) w6) fun w7 h8 => ?_
    have ho7 := ho6.ext h8
    have hil : (ints (nats (sqL f (mem m) k))).length ≤ k := by rw [ints_length, nats_length]; exact sqL_len _ _ _
    refine iApp1 u_Si64 i_Si64 rfl ho7 rfl (by omega) (by omega) (h6.trans h8).size fun v' wB ho' hg' => ?_
    rw [ints_snoc, ← hsu] at ho'
    (refine iAdd (by omega) ?_)
    exact hKn (v', k + 1) _ ⟨by show k + 1 ≤ (mem m).length; omega, (h6.trans h8).grown hg' (fun c hc => (ho7.blk c hc).1), ho'⟩ (by show (mem m).length - (k + 1) < (mem m).length - k; omega)
  · have hk2 : k = (mem m).length := by omega
    subst hk2
    rw [sqL_end] at ho6
    exact ⟨h1.trans h6, ho6.mono h1.size⟩
theorem ok_impl_posetOf {lo : Nat} {v : Value} {w : World} {l : List Nat} (hs : Ow lo t_i64 w v (ints (nats l))) : Cal Tryz.prog f_impl_posetOf #[v] w fun r w' => Ext w w' ∧ r = .agg #[.int .i64 (l.length : Int), v] := by
  apply c_impl_posetOf; unfold S_impl_posetOf
  refine iNew fun b w1 hb h1 hB => ?_
  have ho1 := hs.ext h1
  refine iRet (ok_impl_size_i64 ho1.sl) fun w2 h2 => ?_
  have hB2 := hB.ext h2
  have ho2 := ho1.ext h2
  obtain ⟨va, vn, vc, rfl⟩ := ho2.shape
  rw [ints_length, nats_length]
  refine iBuild (cs := #[.int .i64 (l.length : Int), .slice va vn vc]) (by simp [Instr.fill, Value.cells]) ?_
  refine iStAB hB2 rfl rfl (ho2.pair _) fun w3 hu hB3 => ?_
  refine iLdA hB3 rfl ?_
  exact ⟨(h1.trans h2).upd hu (by omega), rfl⟩
theorem ok_impl_Poset_on {f : Fr} (hf : f.ok) {v : Value} {w : World} (hs : SlN w v f.a) (m : Nat) (hm : m < 2 ^ f.n) : Cal Tryz.prog f_impl_Poset_on #[.agg #[.int .i64 (f.n : Int), v], .int .i64 (m : Int)] w fun r w' => Ext w w' ∧ ∃ v', r = .agg #[.int .i64 ((partFr f m).n : Int), v'] ∧ Ow w.heap.size t_i64 w' v' (ints (nats (partFr f m).a)) := by
  apply c_impl_Poset_on; unfold S_impl_Poset_on
  refine iNew fun b w1 hb1 h1 hB1 => ?_
  refine iNew fun b4 w2 hb4 h2 hB4 => ?_
  have hX2 := h1.trans h2
  have hsz1 := h1.size
  have hB1 := hB1.ext h2
  have hs2 := hs.ext hX2
  ((with_reducible refine iFa ?_); refine iLdB (by assumption) (by first | rfl | simp) ?_)
  refine iCall ((ok_impl_partOn hf hs2 m hm).mono ?_)
  rintro u w3 ⟨h3, ho⟩
  refine iCall ((ok_impl_posetOf ho).mono ?_)
  rintro _ w4 ⟨h4, rfl⟩
  have ho4 := ho.ext h4
  have hB5 := (hB4.ext h3).ext h4
  have hpl : (partFr f m).a.length = (partFr f m).n := by simp [partFr]
  rw [hpl]
  have h3s := hX2.size
  have hne : u.ownBlock ≠ some b4 := fun e => by have := (ho4.blk b4 e).1; have := hB4.lt; omega
  refine iStAB hB5 rfl rfl (ho4.pair _) fun w6 hu hB6 => ?_
  refine iLdA hB6 rfl ?_
  exact ⟨(hX2.trans (h3.trans h4)).upd hu (by omega), _, rfl, (ho4.mono h3s).upd hu hne⟩
theorem ok_impl_Poset_cone {f : Fr} (hf : f.ok) {v : Value} {w : World} (hs : SlN w v f.a) (x : Nat) (hx : x < f.n) : Cal Tryz.prog f_impl_Poset_cone #[.agg #[.int .i64 (f.n : Int), v], .int .i64 (x : Int)] w fun r w' => Ext w w' ∧ ∃ v', r = .agg #[.int .i64 ((partFr f (f.a.getD x 0)).n : Int), v'] ∧ Ow w.heap.size t_i64 w' v' (ints (nats (partFr f (f.a.getD x 0)).a)) := by
  apply c_impl_Poset_cone; unfold S_impl_Poset_cone
  have hf8 := hf.1
  have hfl := hf.2.1
  refine iNew fun b w1 hb1 h1 hB1 => ?_
  refine iNew fun b4 w2 hb4 h2 hB4 => ?_
  have hX2 := h1.trans h2
  have hsz1 := h1.size
  have hB1 := hB1.ext h2
  have hs2 := hs.ext hX2
  ((with_reducible refine iLdA (by assumption) ?_ ?_); rfl; (with_reducible refine iFa ?_); refine iLdB (by assumption) (by first | rfl | simp) ?_; (with_reducible refine iIaNN (by assumption) ?_ (fun pa_ hpa_ => ?_)); omega; (with_reducible refine iLd (by assumption) ?_))
  intro w3 h3
  have hX3 := hX2.trans h3
  refine iCall ((ok_impl_Poset_on hf (hs.ext hX3) _ (hf.lt hx)).mono ?_)
  rintro _ w4 ⟨h4, v', rfl, ho'⟩
  (try refine ⟨h4, ?_⟩)
  intro w5 h5
  have ho5 := ho'.ext h5
  have hB5 := ((hB4.ext h3).ext h4).ext h5
  have h3s := hX3.size
  have hne : v'.ownBlock ≠ some b4 := fun e => by have := (ho5.blk b4 e).1; have := (hB4.ext h3).lt; omega
  refine iStAB hB5 rfl rfl (ho5.pair _) fun w6 hu hB6 => ?_
  intro w7 h7
  refine iLdA (hB6.ext h7) rfl ?_
  exact ⟨((hX3.trans (h4.trans h5)).upd hu (by omega)).trans h7, _, rfl, ((ho5.mono h3s).upd hu hne).ext h7⟩
theorem ok_spec_l21Part {f g : Fr} (hp : Po f) (hg : g.ok) {w : World} {fa ga : Value} (hfa : SlN w fa f.a) (hga : SlN w ga g.a) : Cal Tryz.prog f_spec_l21Part #[.agg #[.int .i64 (f.n : Int), fa], .agg #[.int .i64 (g.n : Int), ga]] w fun r w' => Ext w w' ∧ ∃ v,
    r = .tuple #[.int .i64 ((pmO (partOut f g) : Nat) : Int), v, .bool (partOut f g).isSome] ∧ Ow w.heap.size t_i64 w' v (ints (nats (pfO (partOut f g)))) := by
  apply c_spec_l21Part; unfold S_spec_l21Part
  have hf8 := hp.ok.1
  refine iNew fun b1 w1 hb1 h1 hB1 => ?_
  refine iNew fun b2 w2 hb2 h2 hB2 => ?_
  have hX2 := h1.trans h2
  have hB1 := hB1.ext h2
  ((with_reducible refine iLdA (by assumption) ?_ ?_); rfl)
  refine iCall ((ok_spec_l16Upsets hp.ok (hfa.ext hX2)).mono ?_)
  rintro u w3 ⟨h3, hou⟩
  have hX3 := hX2.trans h3
  have hB1 := hB1.ext h3
  have hB2 := hB2.ext h3
  have hul := upsets_len hp.ok
  have hus : SlN w3 u (upsets f) := hou.sl
  refine iLp (fun k : Nat => [.int .i64 (k : Int)]) (fun k w' => k ≤ (upsets f).length ∧ Ext w3 w' ∧ ((upsets f).take k).findSome? (oneOut f g) = none) (fun k => (upsets f).length - k) 0 rfl ⟨Nat.zero_le _, Ext.refl _, rfl⟩ ?_
  rintro k w5 Kn ⟨hk, h5, hno⟩ hKn
  have hus5 := hus.ext h5
  (intro _; (try simp only [gx]); (with_reducible refine iLenN (by assumption) ?_; refine iLt ?_))
  refine iCndP (fun h6 => ?_) (fun h6 => ?_)
  · have hk1 : k < (upsets f).length := by omega
    have hgt : (upsets f).getD k 0 = (upsets f)[k] := getD_of_lt hk1
    have hm : (upsets f)[k] < 2 ^ f.n := upsets_lt (List.getElem_mem hk1)
    have hm8 : (upsets f)[k] < 2 ^ 8 := Nat.lt_of_lt_of_le hm (Nat.pow_le_pow_right (by omega) hf8)
    have hB25 := hB2.ext h5
    ((with_reducible refine iIaNN (by assumption) ?_ (fun pa_ hpa_ => ?_)); omega; (with_reducible refine iLd (by assumption) ?_))
    rw [hgt]
    refine iRetQ (fun w' _ => ok_spec_l01Bits _ (by omega) w') ?_
    ((with_reducible refine iFa ?_); refine iLdB (by assumption) (by first | rfl | simp) ?_; (with_reducible refine iLt ?_))
    intro w6 h7
    have h56 := h5.trans h7
    refine iCndP (fun h8 => ?_) (fun h8 => ?_)
    · (refine iAdd (by omega) ?_)
      exact hKn (k + 1) _ ⟨by omega, h56, findSome_next hk1 hno (oneOut_small hp.ok hg hm (by omega))⟩ (by omega)
    · have hB16 := hB1.ext h56
      have hB26 := hB2.ext h56
      have hus6 := hus.ext h56
      ((with_reducible refine iLdA (by assumption) ?_ ?_); rfl; (with_reducible refine iIaNN (by assumption) ?_ (fun pa_ hpa_ => ?_)); omega; (with_reducible refine iLd (by assumption) ?_); (with_reducible refine iLdA (by assumption) ?_ ?_); rfl)
      rw [hgt]
      intro w7 h9
      have h57 := h56.trans h9
      refine iCall ((ok_spec_l16Part hp.ok (hfa.ext (hX3.trans h57)) _ hm).mono ?_)
      rintro _ w8 ⟨hA, v', rfl, ho'⟩
      (try refine ⟨hA, ?_⟩)
      intro w9 hC
      have h59 := h57.trans (hA.trans hC)
      refine iCall ((ok_spec_l21Onto (part_po hp hm) hg (ho'.ext hC).sl (hga.ext (hX3.trans h59))).mono ?_)
      rintro _ w10 ⟨hD, vi, rfl, hoi⟩
      (try refine ⟨hD, ?_⟩)
      ((with_reducible refine iE20 ?_; refine iE21 ?_))
      intro w11 hE
      have h511 := h59.trans (hD.trans hE)
      have hlo := (hX3.trans h59).size
      cases hL : leaves (fitsB (partFr f (upsets f)[k]) g true false) g.n (partFr f (upsets f)[k]).n [] with
      | nil =>
        have hone : oneOut f g (upsets f)[k] = none := by unfold oneOut; rw [hL]
        refine iCndF rfl ?_
        (refine iAdd (by omega) ?_)
        exact hKn (k + 1) _ ⟨by omega, h511, findSome_next hk1 hno hone⟩ (by omega)
      | cons F Fs =>
        have hone : oneOut f g (upsets f)[k] = some ((upsets f)[k], F) := by unfold oneOut; rw [hL]
        have hpo : partOut f g = some ((upsets f)[k], F) := findSome_at hk1 hno hone
        rw [hL] at hoi
        refine iCndT rfl ?_
        have hus11 := hus.ext h511
        ((with_reducible refine iIaNN (by assumption) ?_ (fun pa_ hpa_ => ?_)); omega; (with_reducible refine iLd (by assumption) ?_))
        rw [hgt, hpo]
        exact ⟨hX3.trans h511, vi, rfl, (hoi.ext hE).mono hlo⟩
  · have hk2 : k = (upsets f).length := by omega
    rw [List.take_of_length_le (by omega)] at hno
    have hpo : partOut f g = none := hno
    rw [hpo]
    exact ⟨hX3.trans h5, _, rfl, Ow.nil _ _ _⟩
theorem ok_impl_findPart {f g : Fr} (hp : Po f) (hg : g.ok) {w : World} {fa ga : Value} (hfa : SlN w fa f.a) (hga : SlN w ga g.a) : Cal Tryz.prog f_impl_findPart #[.agg #[.int .i64 (f.n : Int), fa], .agg #[.int .i64 (g.n : Int), ga]] w fun r w' => Ext w w' ∧ ∃ v,
    r = .tuple #[.int .i64 ((pmO (partOut f g) : Nat) : Int), v, .bool (partOut f g).isSome] ∧ Ow w.heap.size t_i64 w' v (ints (nats (pfO (partOut f g)))) := by
  apply c_impl_findPart; unfold S_impl_findPart
  have hf8 := hp.ok.1
  refine iNew fun b1 w1 hb1 h1 hB1 => ?_
  refine iNew fun b2 w2 hb2 h2 hB2 => ?_
  have hX2 := h1.trans h2
  have hB1 := hB1.ext h2
  ((with_reducible refine iLdA (by assumption) ?_ ?_); rfl)
  refine iCall ((ok_impl_Poset_upsets hp.ok (hfa.ext hX2)).mono ?_)
  rintro u w3 ⟨h3, hou⟩
  have hX3 := hX2.trans h3
  have hB1 := hB1.ext h3
  have hB2 := hB2.ext h3
  have hul := upsets_len hp.ok
  have hus : SlN w3 u (upsets f) := hou.sl
  ((with_reducible refine iLenN (by assumption) ?_))
  refine iLp (fun k : Nat => [.int .i64 (k : Int)]) (fun k w' => k ≤ (upsets f).length ∧ Ext w3 w' ∧ ((upsets f).take k).findSome? (oneOut f g) = none) (fun k => (upsets f).length - k) 0 rfl ⟨Nat.zero_le _, Ext.refl _, rfl⟩ ?_
  rintro k w5 Kn ⟨hk, h5, hno⟩ hKn
  have hus5 := hus.ext h5
  (intro _; (try simp only [gx]); (with_reducible refine iLt ?_))
  refine iCndP (fun h6 => ?_) (fun h6 => ?_)
  · have hk1 : k < (upsets f).length := by omega
    have hgt : (upsets f).getD k 0 = (upsets f)[k] := getD_of_lt hk1
    have hm : (upsets f)[k] < 2 ^ f.n := upsets_lt (List.getElem_mem hk1)
    have hB15 := hB1.ext h5
    have hB25 := hB2.ext h5
    ((with_reducible refine iIaNN (by assumption) ?_ (fun pa_ hpa_ => ?_)); omega; (with_reducible refine iLd (by assumption) ?_); (with_reducible refine iLdA (by assumption) ?_ ?_); rfl; (with_reducible refine iLdA (by assumption) ?_ ?_); rfl)
    rw [hgt]
    intro w6 h7
    have h56 := h5.trans h7
    refine iCall ((ok_impl_Poset_on hp.ok (hfa.ext (hX3.trans h56)) _ hm).mono ?_)
    rintro _ w7 ⟨h8, v', rfl, ho'⟩
    (try refine ⟨h8, ?_⟩)
    intro w8 h9
    have ho8 := ho'.ext h9
    have h58 := h56.trans (h8.trans h9)
    have hpl : (nats (partFr f (upsets f)[k]).a).length = (partFr f (upsets f)[k]).n := by rw [nats_length]; simp [partFr]
    have hgl : (nats g.a).length = g.n := by rw [nats_length]; exact hg.2.1
    refine iRet (ok_impl_Poset_frame (l := nats (partFr f (upsets f)[k]).a) ho8.sl _) fun w9 hA => ?_
    (try refine ⟨hA, ?_⟩)
    rw [hpl]
    intro w10 hC
    have h5A := h58.trans (hA.trans hC)
    refine iRet (ok_impl_Poset_frame (l := nats g.a) (hga.ext (hX3.trans h5A)) _) fun w11 hD => ?_
    (try refine ⟨hD, ?_⟩)
    rw [hgl]
    intro w12 hE
    have h5C := h5A.trans (hD.trans hE)
    have hlo := (hX3.trans h5C).size
    refine iCall ((ok_impl_firstMorphism (onto := true) (one := false) (part_ok hp.ok hm) hg ((((ho8.ext hA).ext hC).ext hD).ext hE).sl (hga.ext (hX3.trans h5C))).mono ?_)
    rintro _ w13 ⟨hF, vi, rfl, hoi⟩
    (try refine ⟨hF, ?_⟩)
    ((with_reducible refine iE20 ?_; refine iE21 ?_))
    intro w14 hG
    have h514 := h5C.trans (hF.trans hG)
    cases hL : leaves (fitsB (partFr f (upsets f)[k]) g true false) g.n (partFr f (upsets f)[k]).n [] with
    | nil =>
      have hone : oneOut f g (upsets f)[k] = none := by unfold oneOut; rw [hL]
      refine iCndF rfl ?_
      (refine iAdd (by omega) ?_)
      exact hKn (k + 1) _ ⟨by omega, h514, findSome_next hk1 hno hone⟩ (by omega)
    | cons F Fs =>
      have hone : oneOut f g (upsets f)[k] = some ((upsets f)[k], F) := by unfold oneOut; rw [hL]
      have hpo : partOut f g = some ((upsets f)[k], F) := findSome_at hk1 hno hone
      rw [hL] at hoi
      refine iCndT rfl ?_
      rw [hpo]
      exact ⟨hX3.trans h514, vi, rfl, (hoi.ext hG).mono hlo⟩
  · have hk2 : k = (upsets f).length := by omega
    rw [List.take_of_length_le (by omega)] at hno
    have hpo : partOut f g = none := hno
    rw [hpo]
    exact ⟨hX3.trans h5, _, rfl, Ow.nil _ _ _⟩
theorem ok_spec_l34Telling {f g : Fr} (hp : Po f) (hq : Po g) {w : World} {fa ga : Value} (hfa : SlN w fa f.a) (hga : SlN w ga g.a) : Ret Tryz.prog f_spec_l34Telling #[.agg #[.int .i64 (f.n : Int), fa], .agg #[.int .i64 (g.n : Int), ga]] w (.int .i64 ((tell f g : Nat) : Int)) := by
  apply c_spec_l34Telling; unfold S_spec_l34Telling
  have hg8 := hq.ok.1
  refine iNew fun b1 w1 hb1 h1 hB1 => ?_
  refine iNew fun b2 w2 hb2 h2 hB2 => ?_
  have hX2 := h1.trans h2
  have hB1 := hB1.ext h2
  refine iLp (fun k : Nat => [.int .i64 ((tellK f g k : Nat) : Int), .int .i64 (k : Int)]) (fun k w' => k ≤ g.n ∧ Ext w2 w') (fun k => g.n - k) 0 rfl ⟨Nat.zero_le _, Ext.refl _⟩ ?_
  rintro k w4 Kn ⟨hk, h4⟩ hKn
  have hB14 := hB1.ext h4
  have hB24 := hB2.ext h4
  (intro _; (try simp only [gx]); (with_reducible refine iFa ?_); refine iLdB (by assumption) (by first | rfl | simp) ?_; (with_reducible refine iLt ?_))
  refine iCndP (fun h5 => ?_) (fun h5 => ?_)
  · have hk1 : k < g.n := by omega
    have hsu := tellK_succ f g k
    have hlt := Nat.lt_of_lt_of_le (tellK_lt f g k) (Nat.pow_le_pow_right (by omega) (show k ≤ 8 by omega) : 2 ^ k ≤ 2 ^ 8)
    have h2k : 2 ^ k < 2 ^ 8 := Nat.pow_lt_pow_right (by omega) (by omega)
    ((with_reducible refine iLdA (by assumption) ?_ ?_); rfl; (with_reducible refine iLdA (by assumption) ?_ ?_); rfl)
    intro w5 h6
    have h45 := h4.trans h6
    refine iCall ((ok_spec_l34Cone hq.ok (hga.ext (hX2.trans h45)) k hk1).mono ?_)
    rintro _ w6 ⟨h7, v', rfl, ho'⟩
    (try refine ⟨h7, ?_⟩)
    intro w7 h8
    have h47 := h45.trans (h7.trans h8)
    refine iCall ((ok_spec_l21Part hp (part_ok hq.ok (hq.ok.lt hk1)) (hfa.ext (hX2.trans h47)) (ho'.ext h8).sl).mono ?_)
    rintro _ w8 ⟨h9, vr, rfl, _⟩
    (try refine ⟨h9, ?_⟩)
    ((with_reducible refine iE30 ?_; refine iE31 ?_; refine iE32 ?_))
    intro w9 hA
    have h49 := h47.trans (h9.trans hA)
    ((with_reducible refine iNot ?_))
    have hT : (!(partOut f (partFr g (g.a.getD k 0))).isSome) = tellB f g k := by
      unfold tellB
      cases partOut f (partFr g (g.a.getD k 0)) <;> rfl
    rw [hT]
    refine iCnd (fun hb => ?_) (fun hb => ?_)
    · rw [hb, if_pos rfl] at hsu
      refine iRet (ok_spec_l01One k (by omega) w9) fun w10 hC => ?_
      refine iBOr (by omega) (by omega) ?_
      rw [← hsu]
      (refine iAdd (by omega) ?_)
      exact hKn (k + 1) _ ⟨by omega, h49.trans hC⟩ (by omega)
    · rw [hb, if_neg (by simp)] at hsu
      (refine iAdd (by omega) ?_)
      rw [← hsu]
      exact hKn (k + 1) _ ⟨by omega, h49⟩ (by omega)
  · have hk2 : k = g.n := by omega
    subst hk2
    exact ⟨rfl, hX2.trans h4⟩
theorem ok_impl_belongsTo {f g : Fr} (hp : Po f) (hg : g.ok) {w : World} {fa ga : Value} (hfa : SlN w fa f.a) (hga : SlN w ga g.a) : Ret Tryz.prog f_impl_Poset_belongsTo #[.agg #[.int .i64 (g.n : Int), ga], .agg #[.int .i64 (f.n : Int), fa]] w (.bool (partOut f g).isSome) := by
  apply c_impl_Poset_belongsTo; unfold S_impl_Poset_belongsTo
  refine iNew fun b1 w1 hb1 h1 hB1 => ?_
  refine iNew fun b2 w2 hb2 h2 hB2 => ?_
  have hX2 := h1.trans h2
  have hB1 := hB1.ext h2
  ((with_reducible refine iLdA (by assumption) ?_ ?_); rfl; (with_reducible refine iLdA (by assumption) ?_ ?_); rfl)
  refine iCall ((ok_impl_findPart hp hg (hfa.ext hX2) (hga.ext hX2)).mono ?_)
  rintro _ w3 ⟨h3, v, rfl, _⟩
  ((with_reducible refine iE30 ?_; refine iE31 ?_; refine iE32 ?_))
  exact ⟨rfl, hX2.trans h3⟩
theorem ok_impl_telling {f g : Fr} (hp : Po f) (hq : Po g) {w : World} {fa ga : Value} (hfa : SlN w fa f.a) (hga : SlN w ga g.a) : Ret Tryz.prog f_impl_telling #[.agg #[.int .i64 (f.n : Int), fa], .agg #[.int .i64 (g.n : Int), ga]] w (.int .i64 ((tell f g : Nat) : Int)) := by
  apply c_impl_telling; unfold S_impl_telling
  have hg8 := hq.ok.1
  refine iNew fun b1 w1 hb1 h1 hB1 => ?_
  refine iNew fun b2 w2 hb2 h2 hB2 => ?_
  have hX2 := h1.trans h2
  have hB1 := hB1.ext h2
  ((with_reducible refine iFa ?_); refine iLdB (by assumption) (by first | rfl | simp) ?_)
  refine iLp (fun k : Nat => [.int .i64 ((tellK f g k : Nat) : Int), .int .i64 (k : Int)]) (fun k w' => k ≤ g.n ∧ Ext w2 w') (fun k => g.n - k) 0 rfl ⟨Nat.zero_le _, Ext.refl _⟩ ?_
  rintro k w4 Kn ⟨hk, h4⟩ hKn
  have hB14 := hB1.ext h4
  have hB24 := hB2.ext h4
  (intro _; (try simp only [gx]); (with_reducible refine iLt ?_))
  refine iCndP (fun h5 => ?_) (fun h5 => ?_)
  · have hk1 : k < g.n := by omega
    have hsu := tellK_succ f g k
    have hlt := Nat.lt_of_lt_of_le (tellK_lt f g k) (Nat.pow_le_pow_right (by omega) (show k ≤ 8 by omega) : 2 ^ k ≤ 2 ^ 8)
    have h2k : 2 ^ k < 2 ^ 8 := Nat.pow_lt_pow_right (by omega) (by omega)
    ((with_reducible refine iLdA (by assumption) ?_ ?_); rfl; (with_reducible refine iLdA (by assumption) ?_ ?_); rfl)
    intro w5 h6
    have h45 := h4.trans h6
    refine iCall ((ok_impl_Poset_cone hq.ok (hga.ext (hX2.trans h45)) k hk1).mono ?_)
    rintro _ w6 ⟨h7, v', rfl, ho'⟩
    (try refine ⟨h7, ?_⟩)
    refine iRetQ (fun w' h8 => ok_impl_belongsTo hp (part_ok hq.ok (hq.ok.lt hk1)) (hfa.ext (hX2.trans (h45.trans (h7.trans h8)))) (ho'.ext h8).sl) ?_
    ((with_reducible refine iNot ?_))
    intro w9 hA
    have h49 := h45.trans (h7.trans hA)
    have hT : (!(partOut f (partFr g (g.a.getD k 0))).isSome) = tellB f g k := by
      unfold tellB
      cases partOut f (partFr g (g.a.getD k 0)) <;> rfl
    rw [hT]
    refine iCnd (fun hb => ?_) (fun hb => ?_)
    · rw [hb, if_pos rfl] at hsu
      refine iShlOne (by omega) ?_
      refine iBOr (by omega) (by omega) ?_
      rw [← hsu]
      (refine iAdd (by omega) ?_)
      exact hKn (k + 1) _ ⟨by omega, h49⟩ (by omega)
    · rw [hb, if_neg (by simp)] at hsu
      (refine iAdd (by omega) ?_)
      rw [← hsu]
      exact hKn (k + 1) _ ⟨by omega, h49⟩ (by omega)
  · have hk2 : k = g.n := by omega
    subst hk2
    exact ⟨rfl, hX2.trans h4⟩
theorem ok_impl_isUnder {f g : Fr} (hp : Po f) (hq : Po g) {w : World} {fa ga : Value} (hfa : SlN w fa f.a) (hga : SlN w ga g.a) : Ret Tryz.prog f_impl_isUnder #[.agg #[.int .i64 (f.n : Int), fa], .agg #[.int .i64 (g.n : Int), ga]] w (.bool (decide (tell f g = 0))) := by
  apply c_impl_isUnder; unfold S_impl_isUnder
  refine iNew fun b1 w1 hb1 h1 hB1 => ?_
  refine iNew fun b2 w2 hb2 h2 hB2 => ?_
  have hX2 := h1.trans h2
  have hB1 := hB1.ext h2
  ((with_reducible refine iLdA (by assumption) ?_ ?_); rfl; (with_reducible refine iLdA (by assumption) ?_ ?_); rfl)
  refine iRet (ok_impl_telling hp hq (hfa.ext hX2) (hga.ext hX2)) fun w3 h3 => ?_
  ((with_reducible refine iEq ?_))
  exact ⟨congrArg Value.bool (decide_eq_decide.2 (by omega)), hX2.trans h3⟩
end Go.Proofs.YtikfhibcdhdglaaGreat

/- Contracts: FindPart, TellingElements, IsUnder, AreAlike in the program and the reference. Conditions: none. -/
namespace Go.Proofs.YtikfhibcdhdglaaGreat
open Go.Vc
theorem posetOk_po {n : Int} {l : List Int} (h : posetOk n l = true) : Po (frOf n l) ∧ n = ((frOf n l).n : Int) ∧ l = nats (frOf n l).a := by
  have h0 := posetOk_frame h
  unfold posetOk at h
  rw [Bool.and_eq_true] at h
  obtain ⟨hf, hn, hl⟩ := frameOk_fr h0.1
  exact ⟨po_of hf h.2, hn, hl⟩
theorem codeS_two {n0 n1 : Int} {l0 l1 : List Int} (h : codeS [(n0, l0), (n1, l1)] = 0) : posetOk n0 l0 = true ∧ posetOk n1 l1 = true ∧ n0 ≤ 6 ∧ n1 ≤ 6 := by
  unfold codeS at h
  split at h
  · omega
  · rename_i h1
    split at h
    · omega
    · rename_i h2
      simp at h1 h2
      exact ⟨h1.1, h1.2, by omega, by omega⟩
def partRes (n0 : Int) (l0 : List Int) (n1 : Int) (l1 : List Int) : Int × List Int × Int :=
  if posetOk n0 l0 && posetOk n1 l1 then (((pmO (partOut (frOf n0 l0) (frOf n1 l1)) : Nat) : Int), nats (pfO (partOut (frOf n0 l0) (frOf n1 l1))), if (partOut (frOf n0 l0) (frOf n1 l1)).isSome then 0 else 4) else (0, [], 1)
def tellRes (n0 : Int) (l0 : List Int) (n1 : Int) (l1 : List Int) : Int × Int :=
  if codeS [(n0, l0), (n1, l1)] = 0 then (((tell (frOf n0 l0) (frOf n1 l1) : Nat) : Int), 0) else (0, codeS [(n0, l0), (n1, l1)])
def underRes (n0 : Int) (l0 : List Int) (n1 : Int) (l1 : List Int) : Bool × Int :=
  if codeS [(n0, l0), (n1, l1)] = 0 then (decide (tell (frOf n0 l0) (frOf n1 l1) = 0), 0) else (false, codeS [(n0, l0), (n1, l1)])
theorem ok_impl_FindPart {w : World} {v0 v1 : Value} {l0 l1 : List Int} (hs0 : SlI w v0 l0) (hs1 : SlI w v1 l1) (n0 n1 : Int) : Cal Tryz.prog f_impl_FindPart #[.agg #[.int .i64 n0, v0], .agg #[.int .i64 n1, v1]] w fun r w' => Ext w w' ∧ ∃ v, r = .tuple #[.int .i64 (partRes n0 l0 n1 l1).1, v, .int .i64 (partRes n0 l0 n1 l1).2.2] ∧ Ow w.heap.size t_i64 w' v (ints (partRes n0 l0 n1 l1).2.1) := by
  apply c_impl_FindPart; unfold S_impl_FindPart
  have hX := Ext.refl w
  refine iNew fun b2 w1 hb2 h hB2 => ?_
  have hX := hX.trans h
  refine iNew fun b3 w2 hb3 h hB3 => ?_
  have hX := hX.trans h
  have hB2 := hB2.ext h
  ((with_reducible refine iLdA (by assumption) ?_ ?_); rfl; (with_reducible refine iLdA (by assumption) ?_ ?_); rfl)
  refine iBs22 fun bb w3 hbb h hBB => ?_
  have hX := hX.trans h
  have hB2 := hB2.ext h
  have hB3 := hB3.ext h
  refine iRet (ok_impl_arePosets (hs0.ext hX) (hs1.ext hX) n0 n1 hBB) fun w4 h => ?_
  have hX := hX.trans h
  have hB2 := hB2.ext h
  have hB3 := hB3.ext h
  unfold codeP partRes
  cases hp : posetOk n0 l0 && posetOk n1 l1
  · ((with_reducible refine iNe ?_))
    exact iCndT rfl ⟨hX, _, rfl, Ow.nil _ _ _⟩
  · ((with_reducible refine iNe ?_))
    refine iCndF rfl ?_
    rw [Bool.and_eq_true] at hp
    obtain ⟨hP, hn0, hl0⟩ := posetOk_po hp.1
    obtain ⟨hQ, hn1, hl1⟩ := posetOk_po hp.2
    generalize frOf n0 l0 = f at *
    generalize frOf n1 l1 = g at *
    subst hn0; subst hl0; subst hn1; subst hl1
    have hlo := hX.size
    ((with_reducible refine iLdA (by assumption) ?_ ?_); rfl; (with_reducible refine iLdA (by assumption) ?_ ?_); rfl)
    refine iCall ((ok_impl_findPart hP hQ.ok (hs0.ext hX) (hs1.ext hX)).mono ?_)
    rintro _ w5 ⟨h, v, rfl, ho⟩
    have hX := hX.trans h
    ((with_reducible refine iE30 ?_; refine iE31 ?_; refine iE32 ?_; refine iNot ?_))
    cases hL : partOut f g with
    | none => exact iCndT (by simp) ⟨hX, _, rfl, Ow.nil _ _ _⟩
    | some o =>
      rw [hL] at ho
      exact iCndF (by simp) ⟨hX, v, rfl, ho.mono hlo⟩
theorem ok_impl_TellingElements {w : World} {v0 v1 : Value} {l0 l1 : List Int} (hs0 : SlI w v0 l0) (hs1 : SlI w v1 l1) (n0 n1 : Int) : Ret Tryz.prog f_impl_TellingElements #[.agg #[.int .i64 n0, v0], .agg #[.int .i64 n1, v1]] w (.tuple #[.int .i64 (tellRes n0 l0 n1 l1).1, .int .i64 (tellRes n0 l0 n1 l1).2]) := by
  apply c_impl_TellingElements; unfold S_impl_TellingElements
  have hX := Ext.refl w
  refine iNew fun b2 w1 hb2 h hB2 => ?_
  have hX := hX.trans h
  refine iNew fun b3 w2 hb3 h hB3 => ?_
  have hX := hX.trans h
  have hB2 := hB2.ext h
  ((with_reducible refine iLdA (by assumption) ?_ ?_); rfl; (with_reducible refine iLdA (by assumption) ?_ ?_); rfl)
  refine iBs22 fun bb w3 hbb h hBB => ?_
  have hX := hX.trans h
  have hB2 := hB2.ext h
  have hB3 := hB3.ext h
  refine iRet (ok_impl_sixCode (SlP.two hBB (hs0.ext hX) (hs1.ext hX))) fun w4 h => ?_
  have hX := hX.trans h
  have hB2 := hB2.ext h
  have hB3 := hB3.ext h
  unfold tellRes
  ((with_reducible refine iNe ?_))
  refine iCndP (fun hc => ?_) (fun hc => ?_)
  · rw [if_neg hc]; exact ⟨rfl, hX⟩
  · have hc := Classical.not_not.1 hc
    rw [if_pos hc]
    obtain ⟨h0, h1, _, _⟩ := codeS_two hc
    obtain ⟨hP, hn0, hl0⟩ := posetOk_po h0
    obtain ⟨hQ, hn1, hl1⟩ := posetOk_po h1
    generalize frOf n0 l0 = f at *
    generalize frOf n1 l1 = g at *
    subst hn0; subst hl0; subst hn1; subst hl1
    ((with_reducible refine iLdA (by assumption) ?_ ?_); rfl; (with_reducible refine iLdA (by assumption) ?_ ?_); rfl)
    refine iRet (ok_impl_telling hP hQ (hs0.ext hX) (hs1.ext hX)) fun w5 h => ?_
    exact ⟨rfl, hX.trans h⟩
theorem ok_impl_IsUnder {w : World} {v0 v1 : Value} {l0 l1 : List Int} (hs0 : SlI w v0 l0) (hs1 : SlI w v1 l1) (n0 n1 : Int) : Ret Tryz.prog f_impl_IsUnder #[.agg #[.int .i64 n0, v0], .agg #[.int .i64 n1, v1]] w (.tuple #[.bool (underRes n0 l0 n1 l1).1, .int .i64 (underRes n0 l0 n1 l1).2]) := by
  apply c_impl_IsUnder; unfold S_impl_IsUnder
  have hX := Ext.refl w
  refine iNew fun b2 w1 hb2 h hB2 => ?_
  have hX := hX.trans h
  refine iNew fun b3 w2 hb3 h hB3 => ?_
  have hX := hX.trans h
  have hB2 := hB2.ext h
  ((with_reducible refine iLdA (by assumption) ?_ ?_); rfl; (with_reducible refine iLdA (by assumption) ?_ ?_); rfl)
  refine iBs22 fun bb w3 hbb h hBB => ?_
  have hX := hX.trans h
  have hB2 := hB2.ext h
  have hB3 := hB3.ext h
  refine iRet (ok_impl_sixCode (SlP.two hBB (hs0.ext hX) (hs1.ext hX))) fun w4 h => ?_
  have hX := hX.trans h
  have hB2 := hB2.ext h
  have hB3 := hB3.ext h
  unfold underRes
  ((with_reducible refine iNe ?_))
  refine iCndP (fun hc => ?_) (fun hc => ?_)
  · rw [if_neg hc]; exact ⟨rfl, hX⟩
  · have hc := Classical.not_not.1 hc
    rw [if_pos hc]
    obtain ⟨h0, h1, _, _⟩ := codeS_two hc
    obtain ⟨hP, hn0, hl0⟩ := posetOk_po h0
    obtain ⟨hQ, hn1, hl1⟩ := posetOk_po h1
    generalize frOf n0 l0 = f at *
    generalize frOf n1 l1 = g at *
    subst hn0; subst hl0; subst hn1; subst hl1
    ((with_reducible refine iLdA (by assumption) ?_ ?_); rfl; (with_reducible refine iLdA (by assumption) ?_ ?_); rfl)
    exact iRet (ok_impl_isUnder hP hQ (hs0.ext hX) (hs1.ext hX)) fun w5 h => ⟨rfl, hX.trans h⟩
end Go.Proofs.YtikfhibcdhdglaaGreat

/- Contracts: the laws' helpers on lists of posets. Conditions: none. -/
namespace Go.Vc
section
variable {P : Program} {w : World}
end
end Go.Vc
namespace Go.Proofs.YtikfhibcdhdglaaGreat
open Go.Vc
end Go.Proofs.YtikfhibcdhdglaaGreat

/- Contracts: UnderRelation and GreatestLogics in the program and the reference. Conditions: none. -/
namespace Go.Vc
end Go.Vc
namespace Go.Proofs.YtikfhibcdhdglaaGreat
open Go.Vc
end Go.Proofs.YtikfhibcdhdglaaGreat

/- Contracts: sums of posets, SumAlike. Conditions: none. -/
namespace Go.Vc
theorem iShlN {a k : Nat} {yk : IntKind} {K : Value → Prop} (hk : k ≤ 40) (ha : a < 2 ^ 20) (h : K (.int .i64 ((a <<< k : Nat) : Int))) : xSh iShl .i64 (.int .i64 (a : Int)) (.int yk (k : Int)) K := by
  refine ⟨_, _, _, rfl, rfl, by omega, ?_⟩
  have e : iShl .i64 (a : Int) (k : Int) = ((a <<< k : Nat) : Int) := by
    have h1 : min k 64 = k := by omega
    simp only [iShl, IntKind.bits, Int.toNat_natCast, h1]
    have h2 : a <<< k < 2 ^ 60 := by
      rw [Nat.shiftLeft_eq]
      exact Nat.lt_of_lt_of_le (Nat.mul_lt_mul_of_pos_right ha (Nat.two_pow_pos k)) (by rw [← Nat.pow_add]; exact Nat.pow_le_pow_right (by omega) (by omega))
    rw [show (a : Int) * ((2 : Int) ^ k) = ((a <<< k : Nat) : Int) by rw [Nat.shiftLeft_eq]; simp]
    generalize a <<< k = m at *
    exact IntWalk.i64_in _ (by omega)
  rw [e]; exact h
section
variable {f g : Fr}
end
end Go.Vc
namespace Go.Proofs.YtikfhibcdhdglaaGreat
open Go.Vc
end Go.Proofs.YtikfhibcdhdglaaGreat

/- Plain facts on the parts and the core of a poset. No program in sight. Conditions: none. -/
namespace Go.Proofs.YtikfhibcdhdglaaGreat
open Go.Vc
theorem frOf_nats (g : Fr) : frOf (g.n : Int) (nats g.a) = g := by
  unfold frOf nats
  rw [Int.toNat_natCast, List.map_map]
  have : (Int.toNat ∘ fun (x : Nat) => (x : Int)) = id := by funext x; simp
  first
    | rw [this, List.map_id]
    | simp [Function.comp_def]
end Go.Proofs.YtikfhibcdhdglaaGreat

/- Plain facts: to be under another poset, said of maps between elements; it is a preorder; a list has greatest logics. No program in sight. Conditions: none. -/
namespace Go.Vc
theorem popc_surj {s n : Nat} (hn : n ≤ 8) (hs : s < 2 ^ n) : popc s = n ↔ ∀ z, z < n → s.testBit z = true := by
  constructor
  · intro h z hz
    cases hb : s.testBit z
    · have h1 := popc_or_one s z (by omega)
      rw [hb] at h1
      have h2 : s ||| 2 ^ z < 2 ^ n := Nat.or_lt_two_pow hs (Nat.pow_lt_pow_right (by omega) hz)
      have h3 := popc_full (by omega) h2
      simp at h1; omega
    · rfl
  · intro h
    have : s = 2 ^ n - 1 := by
      apply Nat.eq_of_testBit_eq
      intro i
      rw [full_testBit]
      by_cases hi : i < n
      · rw [h i hi, decide_eq_true hi]
      · rw [decide_eq_false hi]
        exact Nat.testBit_lt_two_pow (Nat.lt_of_lt_of_le hs (Nat.pow_le_pow_right (by omega) (by omega)))
    rw [this]
    exact popc_range (by omega)
/-- x sees y. -/
def Fr.r (f : Fr) (x y : Nat) : Prop := (f.a.getD x 0).testBit y = true
/-- The part of g above x is an image of a part of f. -/
def BelM (f g : Fr) (x : Nat) : Prop :=
  ∃ (V : Nat → Prop) (h : Nat → Nat), (∀ v, V v → v < f.n) ∧ (∀ v u, V v → f.r v u → V u) ∧ (∀ v, V v → ∀ y, g.r (h v) y ↔ ∃ u, f.r v u ∧ h u = y) ∧ ∀ y, (∃ v, V v ∧ h v = y) ↔ g.r x y
theorem idx_at {l : List Nat} (hn : l.Nodup) {k : Nat} (hk : k < l.length) : l.idxOf (l.getD k 0) = k := by
  have e : l.getD k 0 = l[k] := by simp [List.getD_eq_getElem?_getD, hk]
  rw [e]; exact hn.idxOf_getElem k hk
theorem at_idx {l : List Nat} {x : Nat} (hx : x ∈ l) : l.idxOf x < l.length ∧ l.getD (l.idxOf x) 0 = x := by
  have h1 := List.idxOf_lt_length_of_mem hx
  exact ⟨h1, by simp [List.getD_eq_getElem?_getD, h1]⟩
theorem upsets_iff {f : Fr} (hp : Po f) {m : Nat} : m ∈ upsets f ↔ m < 2 ^ f.n ∧ ∀ v u, m.testBit v = true → f.r v u → m.testBit u = true := by
  unfold upsets upK
  rw [List.mem_filter, List.mem_range, decide_eq_true_eq]
  refine and_congr_right fun hm => ?_
  constructor
  · intro h v u hv hu
    rw [← h, rowsK_bit]
    exact ⟨v, (fr_bit_lt hp.ok hu).1, hv, hu⟩
  · intro h
    apply Nat.eq_of_testBit_eq
    intro j
    rw [Bool.eq_iff_iff, rowsK_bit]
    constructor
    · rintro ⟨i, _, hi, hj⟩; exact h i j hi hj
    · intro hj
      have hjn : j < f.n := by
        rcases Nat.lt_or_ge j f.n with h' | h'
        · exact h'
        · rw [Nat.testBit_lt_two_pow (Nat.lt_of_lt_of_le hm (Nat.pow_le_pow_right (by omega) h'))] at hj; cases hj
      exact ⟨j, hjn, hj, hp.refl j hjn⟩
theorem partOut_iff {f q : Fr} (hf : Po f) (hq : q.ok) : (partOut f q).isSome = true ↔ ∃ m, m ∈ upsets f ∧ ∃ F : List Nat, F.length = (mem m).length ∧ (∀ y ∈ F, y < q.n) ∧ (∀ i, i < (mem m).length → img F ((partFr f m).a.getD i 0) = q.a.getD (F.getD i 0) 0) ∧ ∀ z, z < q.n → ∃ i, i < F.length ∧ F.getD i 0 = z := by
  have key : ∀ m, m ∈ upsets f → ∀ F : List Nat, F ∈ leaves (fitsB (partFr f m) q true false) q.n (partFr f m).n [] ↔ F.length = (mem m).length ∧ (∀ y ∈ F, y < q.n) ∧ (∀ i, i < (mem m).length → img F ((partFr f m).a.getD i 0) = q.a.getD (F.getD i 0) 0) ∧ ∀ z, z < q.n → ∃ i, i < F.length ∧ F.getD i 0 = z := by
    intro m hm F
    rw [mem_leaves (part_ok hf.ok (upsets_lt hm)) hq]
    refine and_congr_right fun _ => and_congr_right fun hb => and_congr_right fun _ => ?_
    constructor
    · rintro ⟨h, _⟩ z hz
      have h2 := (popc_surj hq.1 (setOf_lt hb)).1 (h rfl) z hz
      rw [setOf_testBit, List.contains_iff_mem] at h2
      exact ⟨F.idxOf z, (at_idx h2).1, (at_idx h2).2⟩
    · intro h
      refine ⟨fun _ => (popc_surj hq.1 (setOf_lt hb)).2 fun z hz => ?_, fun e => by cases e⟩
      obtain ⟨i, hi, e⟩ := h z hz
      rw [setOf_testBit, List.contains_iff_mem, ← e]
      exact getD_mem hi
  constructor
  · intro h
    obtain ⟨⟨m, F⟩, hmF⟩ := Option.isSome_iff_exists.1 h
    obtain ⟨hm, Fs, hL⟩ := partOut_some hmF
    exact ⟨m, hm, F, (key m hm F).1 (by rw [hL]; simp)⟩
  · rintro ⟨m, hm, F, hF⟩
    have hF := (key m hm F).2 hF
    unfold partOut
    rw [List.findSome?_isSome_iff]
    refine ⟨m, hm, ?_⟩
    unfold oneOut
    split
    · rename_i e
      have hF : F ∈ leaves (fitsB (partFr f m) q true false) q.n (partFr f m).n [] := hF
      rw [e] at hF; cases hF
    · rfl
theorem tellB_iff {f g : Fr} (hf : Po f) (hg : Po g) {x : Nat} (hx : x < g.n) : tellB f g x = false ↔ BelM f g x := by
  have hc : g.a.getD x 0 < 2 ^ g.n := hg.ok.lt hx
  have hc63 := mask63 hg.ok hc
  have hmc : ∀ y, y ∈ mem (g.a.getD x 0) ↔ g.r x y := fun y => mem_mem hc63
  have hnd := mem_nodup (g.a.getD x 0)
  generalize hC : mem (g.a.getD x 0) = C at *
  have hqb : ∀ i j, (((partFr g (g.a.getD x 0)).a.getD i 0).testBit j = true) ↔ i < C.length ∧ j < C.length ∧ g.r (C.getD i 0) (C.getD j 0) := fun i j => by rw [part_bit, hC]; rfl
  have hqn : (partFr g (g.a.getD x 0)).n = C.length := by show (mem _).length = _; rw [hC]
  unfold tellB
  rw [Option.isNone_eq_false_iff, partOut_iff hf (part_ok hg.ok hc), hqn]
  constructor
  · rintro ⟨m, hm, F, hl, hF, himg, hon⟩
    obtain ⟨hm2, hup⟩ := (upsets_iff hf).1 hm
    have hm63 := mask63 hf.ok hm2
    have hmm : ∀ v, v ∈ mem m ↔ m.testBit v = true := fun v => mem_mem hm63
    have hpb : ∀ i j, (((partFr f m).a.getD i 0).testBit j = true) ↔ i < (mem m).length ∧ j < (mem m).length ∧ f.r ((mem m).getD i 0) ((mem m).getD j 0) := fun i j => part_bit i j
    have hmn := mem_nodup m
    generalize mem m = M at *
    have hFl : ∀ i, i < M.length → F.getD i 0 < C.length := fun i hi => getD_lt hF (by omega)
    have hid : ∀ v, m.testBit v = true → M.idxOf v < M.length ∧ M.getD (M.idxOf v) 0 = v := fun v hv => at_idx ((hmm v).2 hv)
    have hh : ∀ v, m.testBit v = true → g.r x (C.getD (F.getD (M.idxOf v) 0) 0) := fun v hv => (hmc _).1 (getD_mem (hFl _ (hid v hv).1))
    refine ⟨fun v => m.testBit v = true, fun v => C.getD (F.getD (M.idxOf v) 0) 0, fun v hv => ?_, hup, fun v hv y => ?_, fun y => ?_⟩
    · rcases Nat.lt_or_ge v f.n with h' | h'
      · exact h'
      · have hv : m.testBit v = true := hv
        rw [Nat.testBit_lt_two_pow (Nat.lt_of_lt_of_le hm2 (Nat.pow_le_pow_right (by omega) h'))] at hv; cases hv
    · have hv : m.testBit v = true := hv
      have hi := hid v hv
      have e := himg _ hi.1
      constructor
      · intro hy
        have hxy : g.r x y := hg.trans _ _ _ (hh v hv) hy
        have hj := at_idx ((hmc y).2 hxy)
        have hb : ((partFr g (g.a.getD x 0)).a.getD (F.getD (M.idxOf v) 0) 0).testBit (C.idxOf y) = true := (hqb _ _).2 ⟨hFl _ hi.1, hj.1, by rw [hj.2]; exact hy⟩
        rw [← e, img_testBit] at hb
        obtain ⟨k, hk, hk1, hk2⟩ := hb
        obtain ⟨_, hk3, hk4⟩ := (hpb _ _).1 hk1
        rw [hi.2] at hk4
        refine ⟨M.getD k 0, hk4, ?_⟩
        show C.getD (F.getD (M.idxOf (M.getD k 0)) 0) 0 = y
        rw [idx_at hmn hk3, hk2, hj.2]
      · rintro ⟨u, hu, rfl⟩
        have hmu := hup v u hv hu
        have hk := hid u hmu
        have hb : (img F ((partFr f m).a.getD (M.idxOf v) 0)).testBit (F.getD (M.idxOf u) 0) = true := (img_testBit _ _ _).2 ⟨M.idxOf u, by omega, (hpb _ _).2 ⟨hi.1, hk.1, by rw [hi.2, hk.2]; exact hu⟩, rfl⟩
        rw [e, hqb] at hb
        exact hb.2.2
    · constructor
      · rintro ⟨v, hv, rfl⟩; exact hh v hv
      · intro hy
        have hj := at_idx ((hmc y).2 hy)
        obtain ⟨k, hk, hk1⟩ := hon _ hj.1
        have hkM : k < M.length := by omega
        refine ⟨M.getD k 0, (hmm _).1 (getD_mem hkM), ?_⟩
        show C.getD (F.getD (M.idxOf (M.getD k 0)) 0) 0 = y
        rw [idx_at hmn hkM, hk1, hj.2]
  · rintro ⟨V, h, hV1, hV2, hV3, hV4⟩
    classical
    have hmb : ∀ v, (setOf ((List.range f.n).filter fun v => decide (V v))).testBit v = true ↔ V v := fun v => by
      rw [setOf_testBit, List.contains_iff_mem, List.mem_filter, List.mem_range, decide_eq_true_eq]
      exact ⟨fun h => h.2, fun h => ⟨hV1 v h, h⟩⟩
    have hm2 : setOf ((List.range f.n).filter fun v => decide (V v)) < 2 ^ f.n := setOf_lt fun y hy => List.mem_range.1 (List.mem_filter.1 hy).1
    generalize setOf ((List.range f.n).filter fun v => decide (V v)) = m at *
    have hm63 := mask63 hf.ok hm2
    have hmm : ∀ v, v ∈ mem m ↔ V v := fun v => by rw [mem_mem hm63, hmb]
    have hpb : ∀ i j, (((partFr f m).a.getD i 0).testBit j = true) ↔ i < (mem m).length ∧ j < (mem m).length ∧ f.r ((mem m).getD i 0) ((mem m).getD j 0) := fun i j => part_bit i j
    have hmn := mem_nodup m
    have hup : m ∈ upsets f := (upsets_iff hf).2 ⟨hm2, fun v u hv hu => (hmb u).2 (hV2 v u ((hmb v).1 hv) hu)⟩
    refine ⟨m, hup, (mem m).map fun v => C.idxOf (h v), by simp, ?_, ?_, ?_⟩
    · intro y hy
      obtain ⟨v, hv, rfl⟩ := List.mem_map.1 hy
      exact (at_idx ((hmc _).2 ((hV4 _).1 ⟨v, (hmm v).1 hv, rfl⟩))).1
    · intro i hi
      have hF : ∀ k, k < (mem m).length → ((mem m).map fun v => C.idxOf (h v)).getD k 0 = C.idxOf (h ((mem m).getD k 0)) := fun k hk => by simp [List.getD_eq_getElem?_getD, hk]
      have hVi : ∀ k, k < (mem m).length → V ((mem m).getD k 0) := fun k hk => (hmm _).1 (getD_mem hk)
      have hci : ∀ k, k < (mem m).length → C.idxOf (h ((mem m).getD k 0)) < C.length ∧ C.getD (C.idxOf (h ((mem m).getD k 0))) 0 = h ((mem m).getD k 0) := fun k hk => at_idx ((hmc _).2 ((hV4 _).1 ⟨_, hVi k hk, rfl⟩))
      apply Nat.eq_of_testBit_eq
      intro j
      rw [Bool.eq_iff_iff, img_testBit, hqb, hF i hi, (hci i hi).2]
      constructor
      · rintro ⟨k, hk, hk1, hk2⟩
        obtain ⟨_, hk3, hk4⟩ := (hpb _ _).1 hk1
        rw [hF k hk3] at hk2
        subst hk2
        refine ⟨(hci i hi).1, (hci k hk3).1, ?_⟩
        rw [(hci k hk3).2]
        exact (hV3 _ (hVi i hi) _).2 ⟨_, hk4, rfl⟩
      · rintro ⟨_, hj, hb⟩
        obtain ⟨u, hu, e⟩ := (hV3 _ (hVi i hi) _).1 hb
        have hVu := hV2 _ _ (hVi i hi) hu
        have hk := at_idx ((hmm u).2 hVu)
        refine ⟨(mem m).idxOf u, by rw [List.length_map]; exact hk.1, (hpb _ _).2 ⟨hi, hk.1, by rw [hk.2]; exact hu⟩, ?_⟩
        rw [hF _ hk.1, hk.2, e, idx_at hnd hj]
    · intro z hz
      obtain ⟨v, hv, e⟩ := (hV4 (C.getD z 0)).2 ((hmc _).1 (getD_mem hz))
      have hk := at_idx ((hmm v).2 hv)
      refine ⟨(mem m).idxOf v, by rw [List.length_map]; exact hk.1, ?_⟩
      have : ((mem m).map fun v => C.idxOf (h v)).getD ((mem m).idxOf v) 0 = C.idxOf (h ((mem m).getD ((mem m).idxOf v) 0)) := by simp [List.getD_eq_getElem?_getD, hk.1]
      rw [this, hk.2, e, idx_at hnd hz]
theorem tell_iff {f g : Fr} (hf : Po f) (hg : Po g) : tell f g = 0 ↔ ∀ x, x < g.n → BelM f g x := by
  have h0 : tell f g = 0 ↔ ∀ x, x < g.n → tellB f g x = false := by
    unfold tell tellK
    constructor
    · intro h x hx
      cases hb : tellB f g x
      · rfl
      · have : (setOf ((List.range g.n).filter (tellB f g))).testBit x = true := by
          rw [setOf_testBit, List.contains_iff_mem, List.mem_filter, List.mem_range]; exact ⟨hx, hb⟩
        rw [h, Nat.zero_testBit] at this; cases this
    · intro h
      apply Nat.eq_of_testBit_eq
      intro i
      rw [Nat.zero_testBit, setOf_testBit, Bool.eq_false_iff]
      intro hc
      rw [List.contains_iff_mem, List.mem_filter, List.mem_range] at hc
      rw [h i hc.1] at hc
      exact absurd hc.2 (by simp)
  rw [h0]
  exact ⟨fun h x hx => (tellB_iff hf hg hx).1 (h x hx), fun h x hx => (tellB_iff hf hg hx).2 (h x hx)⟩
end Go.Vc

/- Plain facts: a poset is an image of a part of another one; cores. No program in sight. Conditions: none. -/
namespace Go.Proofs.YtikfhibcdhdglaaGreat
open Go.Vc
/-- q is an image of a part of f. -/
def Bel (f q : Fr) : Prop :=
  ∃ (V : Nat → Prop) (h : Nat → Nat), (∀ v, V v → v < f.n) ∧ (∀ v u, V v → f.r v u → V u) ∧ (∀ v, V v → ∀ y, q.r (h v) y ↔ ∃ u, f.r v u ∧ h u = y) ∧ ∀ y, (∃ v, V v ∧ h v = y) ↔ y < q.n
theorem bel_iff {f q : Fr} (hf : Po f) (hq : q.ok) : (partOut f q).isSome = true ↔ Bel f q := by
  rw [partOut_iff hf hq]
  constructor
  · rintro ⟨m, hm, F, hl, hF, himg, hon⟩
    obtain ⟨hm2, hup⟩ := (upsets_iff hf).1 hm
    have hm63 := mask63 hf.ok hm2
    have hmm : ∀ v, v ∈ mem m ↔ m.testBit v = true := fun v => mem_mem hm63
    have hpb : ∀ i j, (((partFr f m).a.getD i 0).testBit j = true) ↔ i < (mem m).length ∧ j < (mem m).length ∧ f.r ((mem m).getD i 0) ((mem m).getD j 0) := fun i j => part_bit i j
    have hmn := mem_nodup m
    generalize mem m = M at *
    have hid : ∀ v, m.testBit v = true → M.idxOf v < M.length ∧ M.getD (M.idxOf v) 0 = v := fun v hv => at_idx ((hmm v).2 hv)
    refine ⟨fun v => m.testBit v = true, fun v => F.getD (M.idxOf v) 0, fun v hv => ?_, hup, fun v hv y => ?_, fun y => ?_⟩
    · rcases Nat.lt_or_ge v f.n with h' | h'
      · exact h'
      · have hv : m.testBit v = true := hv
        rw [Nat.testBit_lt_two_pow (Nat.lt_of_lt_of_le hm2 (Nat.pow_le_pow_right (by omega) h'))] at hv; cases hv
    · have hv : m.testBit v = true := hv
      have hi := hid v hv
      have e := himg _ hi.1
      show (q.a.getD (F.getD (M.idxOf v) 0) 0).testBit y = true ↔ _
      rw [← e, img_testBit]
      constructor
      · rintro ⟨k, hk, hk1, hk2⟩
        obtain ⟨_, hk3, hk4⟩ := (hpb _ _).1 hk1
        rw [hi.2] at hk4
        refine ⟨M.getD k 0, hk4, ?_⟩
        show F.getD (M.idxOf (M.getD k 0)) 0 = y
        rw [idx_at hmn hk3, hk2]
      · rintro ⟨u, hu, rfl⟩
        have hk := hid u (hup v u hv hu)
        exact ⟨M.idxOf u, by omega, (hpb _ _).2 ⟨hi.1, hk.1, by rw [hi.2, hk.2]; exact hu⟩, rfl⟩
    · constructor
      · rintro ⟨v, hv, rfl⟩
        exact getD_lt hF (by have := (hid v hv).1; omega)
      · intro hy
        obtain ⟨k, hk, hk1⟩ := hon y hy
        have hkM : k < M.length := by omega
        refine ⟨M.getD k 0, (hmm _).1 (getD_mem hkM), ?_⟩
        show F.getD (M.idxOf (M.getD k 0)) 0 = y
        rw [idx_at hmn hkM, hk1]
  · rintro ⟨V, h, hV1, hV2, hV3, hV4⟩
    classical
    have hmb : ∀ v, (setOf ((List.range f.n).filter fun v => decide (V v))).testBit v = true ↔ V v := fun v => by
      rw [setOf_testBit, List.contains_iff_mem, List.mem_filter, List.mem_range, decide_eq_true_eq]
      exact ⟨fun h => h.2, fun h => ⟨hV1 v h, h⟩⟩
    have hm2 : setOf ((List.range f.n).filter fun v => decide (V v)) < 2 ^ f.n := setOf_lt fun y hy => List.mem_range.1 (List.mem_filter.1 hy).1
    generalize setOf ((List.range f.n).filter fun v => decide (V v)) = m at *
    have hm63 := mask63 hf.ok hm2
    have hmm : ∀ v, v ∈ mem m ↔ V v := fun v => by rw [mem_mem hm63, hmb]
    have hpb : ∀ i j, (((partFr f m).a.getD i 0).testBit j = true) ↔ i < (mem m).length ∧ j < (mem m).length ∧ f.r ((mem m).getD i 0) ((mem m).getD j 0) := fun i j => part_bit i j
    have hmn := mem_nodup m
    have hup : m ∈ upsets f := (upsets_iff hf).2 ⟨hm2, fun v u hv hu => (hmb u).2 (hV2 v u ((hmb v).1 hv) hu)⟩
    have hF : ∀ k, k < (mem m).length → ((mem m).map h).getD k 0 = h ((mem m).getD k 0) := fun k hk => by simp [List.getD_eq_getElem?_getD, hk]
    have hVi : ∀ k, k < (mem m).length → V ((mem m).getD k 0) := fun k hk => (hmm _).1 (getD_mem hk)
    refine ⟨m, hup, (mem m).map h, by simp, ?_, ?_, ?_⟩
    · intro y hy
      obtain ⟨v, hv, rfl⟩ := List.mem_map.1 hy
      exact (hV4 _).1 ⟨v, (hmm v).1 hv, rfl⟩
    · intro i hi
      apply Nat.eq_of_testBit_eq
      intro j
      rw [Bool.eq_iff_iff, img_testBit, hF i hi]
      constructor
      · rintro ⟨k, hk, hk1, hk2⟩
        obtain ⟨_, hk3, hk4⟩ := (hpb _ _).1 hk1
        rw [hF k hk3] at hk2
        subst hk2
        exact (hV3 _ (hVi i hi) _).2 ⟨_, hk4, rfl⟩
      · intro hb
        obtain ⟨u, hu, e⟩ := (hV3 _ (hVi i hi) _).1 hb
        have hVu := hV2 _ _ (hVi i hi) hu
        have hk := at_idx ((hmm u).2 hVu)
        refine ⟨(mem m).idxOf u, by rw [List.length_map]; exact hk.1, (hpb _ _).2 ⟨hi, hk.1, by rw [hk.2]; exact hu⟩, ?_⟩
        rw [hF _ hk.1, hk.2, e]
    · intro z hz
      obtain ⟨v, hv, e⟩ := (hV4 z).2 hz
      have hk := at_idx ((hmm v).2 hv)
      refine ⟨(mem m).idxOf v, by rw [List.length_map]; exact hk.1, ?_⟩
      rw [hF _ hk.1, hk.2, e]
end Go.Proofs.YtikfhibcdhdglaaGreat

/- Plain maths of formulas and of the grammar of their texts. Conditions: none; no program in sight. -/
namespace Go.Vc
/-- A formula. -/
inductive Fm : Type
  | var (v : Nat) : Fm
  | fls : Fm
  | and (a b : Fm) : Fm
  | or (a b : Fm) : Fm
  | imp (a b : Fm) : Fm
  | box (a : Fm) : Fm
  | dia (a : Fm) : Fm
abbrev nd (k s : Nat) : List Value := [.int .i64 (k : Int), .int .i64 (s : Int)]
def Fm.cells : Fm → List Value
  | .var v => nd 0 v
  | .fls => nd 1 0
  | .and a b => nd 2 0 ++ a.cells ++ b.cells
  | .or a b => nd 3 0 ++ a.cells ++ b.cells
  | .imp a b => nd 4 0 ++ a.cells ++ b.cells
  | .box a => nd 5 0 ++ a.cells
  | .dia a => nd 6 0 ++ a.cells
def Fm.size : Fm → Nat
  | .var _ => 1
  | .fls => 1
  | .and a b => 1 + a.size + b.size
  | .or a b => 1 + a.size + b.size
  | .imp a b => 1 + a.size + b.size
  | .box a => 1 + a.size
  | .dia a => 1 + a.size
theorem Fm.size_pos (a : Fm) : 1 ≤ a.size := by cases a <;> simp only [Fm.size] <;> omega
theorem Fm.cells_cell : ∀ (a : Fm), ∀ u ∈ a.cells, isCell u = true
  | .var _ => by simp [Fm.cells, nd, isCell]
  | .fls => by simp [Fm.cells, nd, isCell]
  | .and a b => by have h1 := a.cells_cell; have h2 := b.cells_cell; intro u hu; simp only [Fm.cells, nd, List.mem_append, List.mem_cons, List.not_mem_nil, or_false] at hu; rcases hu with ((rfl | rfl) | h) | h <;> first | rfl | exact h1 _ h | exact h2 _ h
  | .or a b => by have h1 := a.cells_cell; have h2 := b.cells_cell; intro u hu; simp only [Fm.cells, nd, List.mem_append, List.mem_cons, List.not_mem_nil, or_false] at hu; rcases hu with ((rfl | rfl) | h) | h <;> first | rfl | exact h1 _ h | exact h2 _ h
  | .imp a b => by have h1 := a.cells_cell; have h2 := b.cells_cell; intro u hu; simp only [Fm.cells, nd, List.mem_append, List.mem_cons, List.not_mem_nil, or_false] at hu; rcases hu with ((rfl | rfl) | h) | h <;> first | rfl | exact h1 _ h | exact h2 _ h
  | .box a => by have h1 := a.cells_cell; intro u hu; simp only [Fm.cells, nd, List.mem_append, List.mem_cons, List.not_mem_nil, or_false] at hu; rcases hu with (rfl | rfl) | h <;> first | rfl | exact h1 _ h
  | .dia a => by have h1 := a.cells_cell; intro u hu; simp only [Fm.cells, nd, List.mem_append, List.mem_cons, List.not_mem_nil, or_false] at hu; rcases hu with (rfl | rfl) | h <;> first | rfl | exact h1 _ h

/-! ### The reader -/
/-- Variables have numbers below 6. -/
def Fm.good : Fm → Prop
  | .var v => v < 6
  | .fls => True
  | .and a b => a.good ∧ b.good
  | .or a b => a.good ∧ b.good
  | .imp a b => a.good ∧ b.good
  | .box a => a.good
  | .dia a => a.good
end Go.Vc

/- Plain facts on Jankov's formulas: the least elements of a set, disjunctions of variables, premises and conclusion. No program in sight. Conditions: none. -/
namespace Go.Vc
/-- The least elements of a set. -/
def minL (f : Fr) (m : Nat) : List Nat := (mem m).filter fun x => !(mem m).any fun y => !decide (y = x) && (f.a.getD y 0).testBit x
/-- A disjunction of variables. -/
def orG (a : Fm) (l : List Nat) : Fm := l.foldl (fun a y => .or a (.var y)) a
def orV : List Nat → Fm
  | [] => .fls
  | x :: l => orG (.var x) l
theorem orG_snoc (a : Fm) (l : List Nat) (y : Nat) : orG a (l ++ [y]) = .or (orG a l) (.var y) := by simp [orG]
theorem orG_size : ∀ (l : List Nat) (a : Fm), (orG a l).size = a.size + 2 * l.length
  | [], a => rfl
  | y :: l, a => by
    have := orG_size l (.or a (.var y))
    show (orG (.or a (.var y)) l).size = _
    rw [this, List.length_cons]
    simp only [Fm.size]; omega
theorem orG_cells : ∀ (l : List Nat) (a : Fm), (orG a l).cells = (List.replicate l.length (nd 3 0)).flatten ++ a.cells ++ l.flatMap fun v => nd 0 v
  | [], a => by simp [orG]
  | y :: l, a => by
    have := orG_cells l (.or a (.var y))
    show (orG (.or a (.var y)) l).cells = _
    rw [this, List.length_cons, List.replicate_succ', List.flatten_append]
    simp [Fm.cells, nd]
theorem orV_size (l : List Nat) : (orV l).size ≤ 1 + 2 * l.length := by
  cases l with
  | nil => simp [orV, Fm.size]
  | cons x l =>
    show (orG (.var x) l).size ≤ _
    rw [orG_size, List.length_cons]
    simp only [Fm.size]; omega
theorem orV_cells (x : Nat) (l : List Nat) : (orV (x :: l)).cells = (List.replicate l.length (nd 3 0)).flatten ++ (x :: l).flatMap fun v => nd 0 v := by
  show (orG (.var x) l).cells = _
  rw [orG_cells]
  simp [Fm.cells]
def jnF (f : Fr) (m : Nat) : Fm := orV (minL f m)
theorem minL_len (f : Fr) (m : Nat) : (minL f m).length ≤ (mem m).length := List.length_filter_le _ _
def bothF (a b : Fm) : List Fm := [.imp a b, .imp b a]
/-- Where a implies b. -/
def impM (f : Fr) (a b : Nat) : Nat := setOf ((List.range f.n).filter fun i => decide (sdiff (f.a.getD i 0) (sdiff (2 ^ f.n - 1) a ||| b) = 0))
def rootN (f : Fr) : Nat := (List.range f.n).findIdx fun x => decide (f.a.getD x 0 = 2 ^ f.n - 1)
def pairF (f : Fr) (x y : Nat) : List Fm := bothF (.and (.var x) (.var y)) (jnF f (f.a.getD x 0 &&& f.a.getD y 0))
def upF (f : Fr) (x u : Nat) : List Fm := bothF (.imp (.var x) (jnF f u)) (jnF f (impM f (f.a.getD x 0) u))
/-- The premises from pairs: rows before x, and of row x the columns before y. -/
def pairsK (f : Fr) (x y : Nat) : List Fm := (List.range x).flatMap (fun x => ((List.range f.n).drop (x + 1)).flatMap (pairF f x)) ++ ((List.range y).drop (x + 1)).flatMap (pairF f x)
def upsK (f : Fr) (x k : Nat) : List Fm := (List.range x).flatMap (fun x => (upsets f).flatMap (upF f x)) ++ ((upsets f).take k).flatMap (upF f x)
def premF (f : Fr) : List Fm := [.var (rootN f)] ++ pairsK f f.n 0 ++ upsK f f.n 0
def concF (f : Fr) : Fm := jnF f (sdiff (2 ^ f.n - 1) (2 ^ rootN f))
theorem pairsK_zero (f : Fr) : pairsK f 0 0 = [] := by simp [pairsK]
theorem pairsK_start (f : Fr) (x : Nat) : pairsK f x (x + 1) = pairsK f x 0 := by
  unfold pairsK
  rw [List.drop_of_length_le (by simp), List.drop_of_length_le (by simp)]
theorem pairsK_step (f : Fr) (x y : Nat) (h : x + 1 ≤ y) : pairsK f x (y + 1) = pairsK f x y ++ pairF f x y := by
  unfold pairsK
  rw [List.range_succ, List.drop_append_of_le_length (by simpa using h), List.flatMap_append, List.append_assoc]
  simp
theorem pairsK_row (f : Fr) (x : Nat) : pairsK f x f.n = pairsK f (x + 1) 0 := by
  unfold pairsK
  rw [List.range_succ, List.flatMap_append]
  simp
theorem upsK_zero (f : Fr) : upsK f 0 0 = [] := by simp [upsK]
theorem upsK_step (f : Fr) (x k : Nat) (h : k < (upsets f).length) : upsK f x (k + 1) = upsK f x k ++ upF f x (upsets f)[k] := by
  unfold upsK
  rw [List.take_succ_eq_append_getElem h, List.flatMap_append, List.append_assoc]
  simp
theorem upsK_row (f : Fr) (x : Nat) : upsK f x (upsets f).length = upsK f (x + 1) 0 := by
  unfold upsK
  rw [List.range_succ, List.flatMap_append, List.take_length]
  simp
end Go.Vc

/- Contracts: slices.Concat and slices.Grow; formulas as lists of nodes. Conditions: none. -/
namespace Go.Vc
section
variable {P : Program} {w : World}
/-- 'append(nil, make([]T, n)...)'. -/
theorem iAppZ {k n bytes : Nat} {t ti ty e : TypeId} {z : Value} {K : Value → World → Prop} (ht : P.underlying t = some (.slice e)) (hti : P.underlying ti = some (.int .i64)) (hi : (P.info? e).map (fun i => (i.zero, i.size, i.bytes)) = some (some z, k, bytes)) (hz : z.cells.size = k)
    (h0 : 0 < n) (hb : n * bytes ≤ 140737488355328) (hm : n ≤ 9223372036854775807)
    (h : ∀ b c w' cs, n ≤ c → c ≤ 9223372036854775807 → cs.length = c * k → Ext w w' → b = w.heap.size → Blk e w' b cs → K (.slice (some ⟨b, 0, none⟩) n c) w') : xOp P (Builtin.append_ #[t, ti] ty #[.slice none 0 0, .int .i64 (n : Int)]) w K := by
  obtain ⟨i, hi', h3⟩ := Option.map_eq_some_iff.1 hi
  clear hi
  simp only [Prod.mk.injEq] at h3
  obtain ⟨hz0, hsz, hby⟩ := h3
  subst hsz
  subst hby
  have hn : n ≠ 0 := by omega
  have hw : IntKind.i64.wrap (n : Int) = (n : Int) := IntWalk.i64_in _ (by omega)
  have h63' : ¬ (9223372036854775807 < (n : Int)) := by omega
  have h48 : ¬ ((281474976710656 : Int) < (n : Int) * (i.bytes : Int)) := by
    have : (n : Int) * (i.bytes : Int) = ((n * i.bytes : Nat) : Int) := by simp
    rw [this]; omega
  have h48' : ¬ (281474976710656 < Builtin.nextslicecap n 0 * i.bytes) := by rw [nextslicecap_zero h0]; omega
  have hneg : ¬ ((n : Int) < 0) := by omega
  have hge := grownCap_ge w n 0 e
  have hcm := grownCap_le_maxLen w n 0 e (by simpa [maxLen] using hm)
  have hrun : (Builtin.append_ #[t, ti] ty #[.slice none 0 0, .int .i64 (n : Int)]).run P w =
      .ok (.slice (some ⟨w.heap.size, 0, none⟩) n (grownCap w n 0 e)) (w.drew.alloc (.cells ((if n * i.size = 0 then #[] else Builtin.zeroCells z.cells n) ++ Builtin.zeroCells z.cells (grownCap w n 0 e - n)) e)) := by
    by_cases hk : n * i.size = 0
    · simp [Builtin.append_, run_underlying ht, run_underlying hti, sizeOf, typeInfo, zeroValue, hi', hz0, asInt, asIntOf, hw, hneg, hn, h63', h48, h48', hk, Question.forced, run_firstCells_none, newRow, grownCap]
    · simp [Builtin.append_, run_underlying ht, run_underlying hti, sizeOf, typeInfo, zeroValue, hi', hz0, asInt, asIntOf, hw, hneg, hn, h63', h48, h48', hk, Question.forced, run_firstCells_none, newRow, grownCap]
  refine ⟨_, _, hrun, ?_⟩
  have hB := Blk.new w.drew ((if n * i.size = 0 then #[] else Builtin.zeroCells z.cells n) ++ Builtin.zeroCells z.cells (grownCap w n 0 e - n)) e
  refine h _ _ _ _ hge (by simpa [maxLen] using hcm) ?_ ((Ext.drew w).trans (Ext.alloc _ _)) rfl hB
  rw [Array.length_toList, Array.size_append, size_zeroCells, hz]
  by_cases hk : n * i.size = 0
  · rw [if_pos hk]
    have : i.size = 0 := by
      rcases Nat.mul_eq_zero.1 hk with h | h
      · omega
      · exact h
    rw [this]; simp
  · rw [if_neg hk, size_zeroCells, hz, ← Nat.add_mul]
    congr 1; omega
theorem iCapL {t ty : TypeId} {e : TypeId} {a : Option Addr} {n c : Nat} {K : Value → Prop} (ht : P.underlying t = some (.slice e)) (h : K (.int .i64 (c : Int))) : xR P w (Builtin.cap_ #[t] ty #[.slice a n c]) K :=
  ⟨_, fun w' _ => by simp [Builtin.cap_, run_underlying ht, goInt], h⟩
theorem sum_take_succ (l : List Nat) {i : Nat} (h : i < l.length) : (l.take (i + 1)).sum = (l.take i).sum + l[i] := by
  rw [List.take_succ_eq_append_getElem h, List.sum_append]; simp
theorem sum_take_le (l : List Nat) (i : Nat) : (l.take i).sum ≤ l.sum := by
  have := congrArg List.sum (List.take_append_drop i l)
  rw [List.sum_append] at this; omega
end
end Go.Vc
namespace Go.Proofs.YtikfhibcdhdglaaGreat
open Go.Vc
abbrev kk_Simpl_Node_impl_Node : Nat := 2
abbrev ts_Simpl_Node_impl_Node := t_Simpl_Node
abbrev te_Simpl_Node_impl_Node := t_impl_Node
theorem uu_Simpl_Node_impl_Node : Tryz.prog.underlying ts_Simpl_Node_impl_Node = some (.slice te_Simpl_Node_impl_Node) := u_Simpl_Node
theorem ii_Simpl_Node_impl_Node : (Tryz.prog.info? te_Simpl_Node_impl_Node).map (fun i => (i.zero, i.size, i.bytes)) = some (some (.agg #[.int .i64 0, .int .i64 0]), kk_Simpl_Node_impl_Node, 16) := i_Simpl_Node
theorem ok_Grow_Simpl_Node_impl_Node (n : Nat) (hn : n ≤ 1099511627776) (w : World) : Cal Tryz.prog f_slices_Grow_Simpl_Node_impl_Node #[.slice none 0 0, .int .i64 (n : Int)] w fun r w' => Ext w w' ∧ OwK kk_Simpl_Node_impl_Node w.heap.size te_Simpl_Node_impl_Node w' r 0 [] := by
  apply c_slices_Grow_Simpl_Node_impl_Node; unfold S_slices_Grow_Simpl_Node_impl_Node
  ((with_reducible refine iLt ?_; refine iJn ?_))
  refine iCndP (fun h => by omega) (fun _ => ?_)
  intro _
  refine iCapL (e := te_Simpl_Node_impl_Node) uu_Simpl_Node_impl_Node ?_
  ((with_reducible refine iLenL ?_); refine iSub (by omega) ?_; refine iSub (by omega) ?_; (with_reducible refine iLt ?_))
  refine iCndP (fun h => ?_) (fun _ => ⟨Ext.refl w, OwK.nil _ _ _ _⟩)
  refine iCapL (e := te_Simpl_Node_impl_Node) uu_Simpl_Node_impl_Node ?_
  refine ⟨none, 0, 0, 0, 0, rfl, ⟨_, rfl⟩, rfl, Nat.le_refl _, Nat.le_refl _, ?_⟩
  have e1 : (n : Int) - (((0 : Nat) : Int) - ((0 : Nat) : Int)) = (n : Int) := by omega
  rw [e1]
  refine iAppZ (k := kk_Simpl_Node_impl_Node) uu_Simpl_Node_impl_Node (by kernel_rfl) ii_Simpl_Node_impl_Node rfl (by omega) (by omega) (by omega) fun b c w' cs hnc hcm hcl hX hb hB => ?_
  ((with_reducible refine iLenL ?_))
  refine ⟨some ⟨b, 0, none⟩, n, c, 0, 0, rfl, ⟨_, rfl⟩, rfl, Nat.le_refl _, Nat.zero_le _, ?_⟩
  rw [if_neg (by omega)]
  refine ⟨hX, ?_⟩
  have e2 : (some (⟨b, 0, none⟩ : Addr)).map (·.add (0 * kk_Simpl_Node_impl_Node)) = some ⟨b, 0, none⟩ := by simp [Addr.add]
  rw [e2]
  exact ⟨rfl, .inr ⟨b, c, cs.toArray, rfl, by omega, hB, Nat.zero_le _, hcm, by simpa using hcl, by simp⟩⟩
theorem ok_Concat_Simpl_Node_impl_Node {v : Value} {w : World} {vs : List Value} {ps : List (Nat × List Value)} (hs : Sl w v vs) (hl : vs.length = ps.length) (hp : ∀ (i : Nat) (h1 : i < vs.length) (h2 : i < ps.length), SlK kk_Simpl_Node_impl_Node w vs[i] ps[i].1 ps[i].2) (hc : ∀ p ∈ ps, ∀ u ∈ p.2, isCell u = true) (hb : (ps.map Prod.fst).sum ≤ 1099511627776) :
    Cal Tryz.prog f_slices_Concat_Simpl_Node_impl_Node #[v] w fun r w' => Ext w w' ∧ OwK kk_Simpl_Node_impl_Node w.heap.size te_Simpl_Node_impl_Node w' r (ps.map Prod.fst).sum (ps.flatMap Prod.snd) := by
  apply c_slices_Concat_Simpl_Node_impl_Node; unfold S_slices_Concat_Simpl_Node_impl_Node
  have hlen := hs.len
  have hpl : (ps.map Prod.fst).length = ps.length := List.length_map _
  refine iLenS hs ?_
  refine iLp (fun s : Nat × Nat => [.int .i64 (s.1 : Int), .int .i64 (s.2 : Int)]) (fun s w' => s.2 ≤ vs.length ∧ w' = w ∧ s.1 = ((ps.map Prod.fst).take s.2).sum) (fun s => vs.length - s.2) (0, 0) rfl ⟨Nat.zero_le _, rfl, rfl⟩ ?_
  rintro ⟨m, i⟩ w2 Kn ⟨hi, rfl, hm⟩ hKn
  have hi : i ≤ vs.length := hi
  have hm : m = ((ps.map Prod.fst).take i).sum := hm
  have hmle := sum_take_le (ps.map Prod.fst) i
  (intro _; (try simp only [gx]); (with_reducible refine iLt ?_))
  refine iCndP (fun h1 => ?_) (fun h1 => ?_)
  · have hi1 : i < vs.length := by omega
    have hsi := hp i hi1 (by omega)
    have hst := sum_take_succ (ps.map Prod.fst) (i := i) (by omega)
    rw [List.getElem_map] at hst
    have hmle1 := sum_take_le (ps.map Prod.fst) (i + 1)
    refine iIa hs (by omega) (by omega) fun p hpc => ?_
    rw [Int.toNat_natCast, List.getElem?_eq_getElem hi1] at hpc
    refine iLd hpc ?_
    refine iLenK hsi ?_
    (refine iAdd (by omega) ?_; (with_reducible refine iLt ?_))
    refine iCndP (fun h2 => by omega) (fun _ => ?_)
    (refine iAdd (by omega) ?_)
    have e1 : (m : Int) + ((ps[i].1 : Nat) : Int) = ((m + ps[i].1 : Nat) : Int) := by omega
    rw [e1]
    exact hKn (m + ps[i].1, i + 1) _ ⟨by show i + 1 ≤ _; omega, rfl, by show m + ps[i].1 = ((ps.map Prod.fst).take (i + 1)).sum; omega⟩ (by show vs.length - (i + 1) < vs.length - i; omega)
  · have e : i = vs.length := by omega
    have hm2 : m = (ps.map Prod.fst).sum := by rw [hm, List.take_of_length_le (by omega)]
    refine iCall ((ok_Grow_Simpl_Node_impl_Node m (by omega) w2).mono ?_)
    rintro r w4 ⟨h4, ho4⟩
    refine iLenS hs ?_
    refine iLp (fun s : Value × Nat => [s.1, .int .i64 (s.2 : Int)]) (fun s w' => s.2 ≤ vs.length ∧ Ext w2 w' ∧ OwK kk_Simpl_Node_impl_Node w2.heap.size te_Simpl_Node_impl_Node w' s.1 ((ps.map Prod.fst).take s.2).sum ((ps.take s.2).flatMap Prod.snd)) (fun s => vs.length - s.2) (r, 0) rfl ⟨Nat.zero_le _, h4, ho4⟩ ?_
    rintro ⟨z, j⟩ w6 Kn6 ⟨hj, h6, ho6⟩ hKn6
    have hj : j ≤ vs.length := hj
    have ho6 : OwK kk_Simpl_Node_impl_Node w2.heap.size te_Simpl_Node_impl_Node w6 z ((ps.map Prod.fst).take j).sum ((ps.take j).flatMap Prod.snd) := ho6
    (intro _; (try simp only [gx]); (with_reducible refine iLt ?_))
    refine iCndP (fun h7 => ?_) (fun h7 => ?_)
    · have hj1 : j < vs.length := by omega
      have hsj := (hp j hj1 (by omega)).ext h6
      have hst := sum_take_succ (ps.map Prod.fst) (i := j) (by omega)
      rw [List.getElem_map] at hst
      have hmle1 := sum_take_le (ps.map Prod.fst) (j + 1)
      have hs6 := hs.ext h6
      refine iIa hs6 (by omega) (by omega) fun p hpc => ?_
      rw [Int.toNat_natCast, List.getElem?_eq_getElem hj1] at hpc
      refine iLd hpc ?_
      refine iAppK uu_Simpl_Node_impl_Node ii_Simpl_Node_impl_Node rfl (by decide) ho6 hsj (hc _ (List.getElem_mem _)) (by omega) (by omega) h6.size fun v' w8 ho8 hg8 _ => ?_
      (refine iAdd (by omega) ?_)
      have ef : (ps.take (j + 1)).flatMap Prod.snd = (ps.take j).flatMap Prod.snd ++ ps[j].2 := by
        rw [List.take_succ_eq_append_getElem (by omega), List.flatMap_append]; simp
      rw [← hst, ← ef] at ho8
      exact hKn6 (v', j + 1) _ ⟨by show j + 1 ≤ _; omega, h6.grown hg8 (fun c hc => (ho6.blk c hc).1), ho8⟩ (by show vs.length - (j + 1) < vs.length - j; omega)
    · have e : j = vs.length := by omega
      rw [List.take_of_length_le (by omega), List.take_of_length_le (by omega)] at ho6
      exact ⟨h6, ho6⟩
end Go.Proofs.YtikfhibcdhdglaaGreat

/- Plain maths: the text of a formula, read again, is the formula. No program in sight. Conditions: none. -/
namespace Go.Vc
/-! ### The text read again -/
end Go.Vc

/- Contracts: formulas as lists of nodes, and the reader of texts, in the program and the reference. Conditions: none. -/
namespace Go.Vc
theorem iBuild2 {x y a b : Value} {K : Value → Prop} (ha : isCell a = true) (hb : isCell b = true) (h : K (.agg #[a, b])) : xBuild #[x, y] #[(0, 1), (1, 1)] [(0, a), (1, b)] K :=
  iBuild (cs := #[a, b]) (by simp [Instr.fill, isCell_cells ha, isCell_cells hb]) h
theorem iBuild1 {x y a : Value} {K : Value → Prop} (ha : isCell a = true) (h : K (.agg #[a, y])) : xBuild #[x, y] #[(0, 1), (1, 1)] [(0, a)] K :=
  iBuild (cs := #[a, y]) (by simp [Instr.fill, isCell_cells ha]) h
end Go.Vc
namespace Go.Proofs.YtikfhibcdhdglaaGreat
open Go.Vc
/-- A formula in a row of the call's own. -/
abbrev FmW (lo : Nat) (w : World) (v : Value) (a : Fm) : Prop := OwK 2 lo t_impl_Node w v a.size a.cells
/-- A formula to be read. -/
abbrev FmS (w : World) (v : Value) (a : Fm) : Prop := SlK 2 w v a.size a.cells
theorem node_one {w w' : World} {b : Nat} {x y : Value} (hb : b = w.heap.size ∧ w'.heap.size = b + 1) (hB : Blk t_impl_Node w' b [x, y]) : OwK 2 w.heap.size t_impl_Node w' (.slice (some ⟨b, 0, none⟩) 1 1) 1 [x, y] := OwK.ofBlk hB (by omega) rfl (by omega)
theorem ok_impl_falsum (w : World) : Cal Tryz.prog f_impl_falsum #[] w fun v w' => Ext w w' ∧ FmW w.heap.size w' v .fls := by
  apply c_impl_falsum; unfold S_impl_falsum
  refine iBuild2 rfl rfl ?_
  refine iBsA fun b w1 hb h1 hB => ⟨h1, node_one hb hB⟩
theorem ok_impl_variable (v : Nat) (w : World) : Cal Tryz.prog f_impl_variable #[.int .i64 (v : Int)] w fun r w' => Ext w w' ∧ FmW w.heap.size w' r (.var v) := by
  apply c_impl_variable; unfold S_impl_variable
  refine iBuild2 rfl rfl ?_
  refine iBsA fun b w1 hb h1 hB => ⟨h1, node_one hb hB⟩
theorem ok_impl_join {a b c : Fm} {k : Nat} (hc : c.cells = nd k 0 ++ a.cells ++ b.cells) (hs : c.size = 1 + a.size + b.size) {va vb : Value} {w : World} (ha : FmS w va a) (hb : FmS w vb b) (hsz : c.size ≤ 1099511627776) :
    Cal Tryz.prog f_impl_join #[.int .i64 (k : Int), va, vb] w fun r w' => Ext w w' ∧ FmW w.heap.size w' r c := by
  apply c_impl_join; unfold S_impl_join
  have hca : isCell va = true := by obtain ⟨_, _, _, h, _⟩ := ha; rw [h]; rfl
  have hcb : isCell vb = true := by obtain ⟨_, _, _, h, _⟩ := hb; rw [h]; rfl
  refine iBuild2 rfl rfl ?_
  refine iBsA fun q w1 hq h1 hB => ?_
  refine iBs3 rfl rfl hca hcb fun q2 w2 hq2 h2 hB2 => ?_
  have hx := (node_one hq hB).sl
  refine iCall ((ok_Concat_Simpl_Node_impl_Node (ps := [(1, nd k 0), (a.size, a.cells), (b.size, b.cells)]) (Sl.ofBlk (n := 3) hB2 rfl (by decide)) rfl (fun i h1' h2' => ?_) (fun p hp u hu => ?_) ?_).mono ?_)
  · match i, h1' with
    | 0, _ => exact hx.ext h2
    | 1, _ => exact (ha.ext h1).ext h2
    | 2, _ => exact (hb.ext h1).ext h2
  · simp only [List.mem_cons, List.not_mem_nil, or_false] at hp
    rcases hp with rfl | rfl | rfl
    · simp only [nd, List.mem_cons, List.not_mem_nil, or_false] at hu
      rcases hu with rfl | rfl <;> rfl
    · exact a.cells_cell _ hu
    · exact b.cells_cell _ hu
  · simp; omega
  · rintro r w3 ⟨h3, ho⟩
    refine ⟨h1.trans (h2.trans h3), ?_⟩
    have ho := ho.mono (h1.trans h2).size
    have e1 : ([(1, nd k 0), (a.size, a.cells), (b.size, b.cells)].map Prod.fst).sum = c.size := by simp [hs]; omega
    have e2 : [(1, nd k 0), (a.size, a.cells), (b.size, b.cells)].flatMap Prod.snd = c.cells := by simp [hc]
    rw [e1, e2] at ho
    exact ho
theorem ok_spec_l02False (w : World) : Cal Tryz.prog f_spec_l02False #[] w fun v w' => Ext w w' ∧ FmW w.heap.size w' v .fls := by
  apply c_spec_l02False; unfold S_spec_l02False
  refine iBuild1 rfl ?_
  refine iBsA fun b w1 hb h1 hB => ⟨h1, node_one hb hB⟩
theorem ok_spec_l02Var (v : Nat) (w : World) : Cal Tryz.prog f_spec_l02Var #[.int .i64 (v : Int)] w fun r w' => Ext w w' ∧ FmW w.heap.size w' r (.var v) := by
  apply c_spec_l02Var; unfold S_spec_l02Var
  refine iBuild2 rfl rfl ?_
  refine iBsA fun b w1 hb h1 hB => ⟨h1, node_one hb hB⟩
theorem ok_spec_l02Pair {a b c : Fm} {k : Nat} (hc : c.cells = nd k 0 ++ a.cells ++ b.cells) (hs : c.size = 1 + a.size + b.size) {va vb : Value} {w : World} (ha : FmS w va a) (hb : FmS w vb b) (hsz : c.size ≤ 1099511627776) :
    Cal Tryz.prog f_spec_l02Pair #[.int .i64 (k : Int), va, vb] w fun r w' => Ext w w' ∧ FmW w.heap.size w' r c := by
  apply c_spec_l02Pair; unfold S_spec_l02Pair
  refine iBuild1 rfl ?_
  refine iBsA fun q w1 hq h1 hB => ?_
  refine iAppK u_Simpl_Node i_Simpl_Node rfl (by omega) (node_one hq hB) (ha.ext h1) a.cells_cell (by omega) (by omega) h1.size fun v2 w2 ho2 hg2 _ => ?_
  have hX2 := h1.grown hg2 (fun c hc => ((node_one hq hB).blk c hc).1)
  refine iAppK u_Simpl_Node i_Simpl_Node rfl (by omega) ho2 (hb.ext hX2) b.cells_cell (by omega) (by omega) hX2.size fun v3 w3 ho3 hg3 _ => ?_
  refine ⟨hX2.grown hg3 (fun c hc => (ho2.blk c hc).1), ?_⟩
  unfold FmW
  rw [hs, hc]
  exact ho3
theorem ok_spec_l02Pre {a c : Fm} {k : Nat} (hc : c.cells = nd k 0 ++ a.cells) (hs : c.size = 1 + a.size) {va : Value} {w : World} (ha : FmS w va a) (hsz : c.size ≤ 1099511627776) :
    Cal Tryz.prog f_spec_l02Pre #[.int .i64 (k : Int), va] w fun r w' => Ext w w' ∧ FmW w.heap.size w' r c := by
  apply c_spec_l02Pre; unfold S_spec_l02Pre
  refine iBuild1 rfl ?_
  refine iBsA fun q w1 hq h1 hB => ?_
  refine iAppK u_Simpl_Node i_Simpl_Node rfl (by omega) (node_one hq hB) (ha.ext h1) a.cells_cell (by omega) (by omega) h1.size fun v2 w2 ho2 hg2 _ => ?_
  refine ⟨h1.grown hg2 (fun c hc => ((node_one hq hB).blk c hc).1), ?_⟩
  unfold FmW
  rw [hs, hc]
  exact ho2
theorem ok_spec_l02Not {a : Fm} {va : Value} {w : World} (ha : FmS w va a) (hsz : a.size ≤ 1099511627) : Cal Tryz.prog f_spec_l02Not #[va] w fun r w' => Ext w w' ∧ FmW w.heap.size w' r (.imp a .fls) := by
  apply c_spec_l02Not; unfold S_spec_l02Not
  refine iCall ((ok_spec_l02False w).mono ?_)
  rintro u w1 ⟨h1, ho⟩
  refine iCall ((ok_spec_l02Pair (c := .imp a .fls) (k := 4) rfl rfl (ha.ext h1) ho.sl (by show 1 + a.size + 1 ≤ _; omega)).mono ?_)
  rintro r w2 ⟨h2, hr⟩
  exact ⟨h1.trans h2, hr.mono h1.size⟩
end Go.Proofs.YtikfhibcdhdglaaGreat

/- Contracts: slices.IndexFunc, DeleteFunc and Index on []int64; masks for Jankov's formulas. Conditions: none. -/
namespace Go.Vc
section
universe u
variable {α : Type u} {enc : α → Value}
/-- The call's own slice v holds L', and nothing else has turned. -/
structure Turn (lo : Nat) (e : TypeId) (enc : α → Value) (v : Value) (w w' : World) (L' : List α) : Prop where
  ow : Ow lo e w' v (L'.map enc)
  ch : Ch (fun c => v.ownBlock = some c) w w'
theorem Turn.refl {lo : Nat} {e : TypeId} {v : Value} {w : World} {L : List α} (h : Ow lo e w v (L.map enc)) : Turn lo e enc v w w L := ⟨h, (Ext.refl w).ch⟩
theorem Turn.ext {lo : Nat} {e : TypeId} {v : Value} {w w' w'' : World} {L : List α} (h : Turn lo e enc v w w' L) (k : Ext w' w'') : Turn lo e enc v w w'' L :=
  ⟨h.ow.ext k, h.ch.trans (k.ch (S := fun _ => False)) fun _ e => e.elim⟩
end
section
variable {P : Program} {w : World} {lo : Nat} {e : TypeId}
theorem Ow.open {v : Value} {xs : List Value} (hs : Ow lo e w v xs) (hne : xs ≠ []) : ∃ g cap, v = .slice (some ⟨g, 0, none⟩) xs.length cap ∧ xs.length ≤ cap ∧ cap ≤ 9223372036854775807 := by
  obtain ⟨_, ⟨_, h0⟩ | ⟨g, cap, cur, hv, _, _, h1, h2, _⟩⟩ := hs
  · exact absurd (List.length_eq_zero_iff.1 h0) hne
  · exact ⟨g, cap, hv, h1, h2⟩
theorem iSlTail {g n cap k : Nat} {ki : IntKind} {K : Value → Prop} (hk : k < n) (hc : n ≤ cap) (h : K (.slice (some ⟨g, k, none⟩) (n - k) (cap - k))) : xSl 1 (.slice (some ⟨g, 0, none⟩) n cap) (some (.int ki (k : Int))) none K := by
  refine ⟨_, _, _, k, n, rfl, rfl, ⟨ki, rfl⟩, by omega, hc, ?_⟩
  rw [if_neg (by omega), Option.map_some, addr_add, Nat.zero_add, Nat.mul_one]
  exact h
theorem iSlHead {g n cap k : Nat} {ki : IntKind} {K : Value → Prop} (hk : k ≤ n) (hc : n ≤ cap) (h : K (.slice (some ⟨g, 0, none⟩) k cap)) : xSl 1 (.slice (some ⟨g, 0, none⟩) n cap) none (some (.int ki (k : Int))) K := by
  refine ⟨_, _, _, 0, k, rfl, ⟨ki, rfl⟩, rfl, Nat.zero_le _, by omega, ?_⟩
  have e : (if cap = 0 then some (⟨g, 0, none⟩ : Addr) else (some (⟨g, 0, none⟩ : Addr)).map (·.add (0 * 1))) = some ⟨g, 0, none⟩ := by
    split
    · rfl
    · simp [Addr.add]
  rw [e, Nat.sub_zero, Nat.sub_zero]
  exact h
theorem iClr {t ty : TypeId} {z : Value} {bytes g n cap k : Nat} {xs : List Value} {K : Value → World → Prop} (ht : P.underlying t = some (.slice e)) (hi : (P.info? e).map (fun i => (i.zero, i.size, i.bytes)) = some (some z, 1, bytes)) (hz : isCell z = true)
    (hs : Ow lo e w (.slice (some ⟨g, 0, none⟩) n cap) xs) (hn : xs.length = n) (hk : k < n) (h : ∀ w', Ow lo e w' (.slice (some ⟨g, 0, none⟩) k cap) (xs.take k) → Ch (fun c => c = g) w w' → K (.tuple #[]) w') :
    xOp P (Builtin.clear_ #[t] ty #[.slice (some ⟨g, k, none⟩) (n - k) (cap - k)]) w K := by
  obtain ⟨i, hi, h3⟩ := Option.map_eq_some_iff.1 hi
  simp only [Prod.mk.injEq] at h3
  obtain ⟨hz0, -, -⟩ := h3
  obtain ⟨-, ⟨hv, -⟩ | ⟨g', cap', cur, hv, hg, hh, h1, h2, h3, h4⟩⟩ := hs
  · cases hv
  · injection hv with e1 e2 e3
    injection e1 with e1
    injection e1 with e1
    subst e1
    subst e3
    rw [hn] at h1 h4
    rw [Nat.mul_one] at h3 h4
    have hzc : (Builtin.zeroCells z.cells (n - k)).toList = List.replicate (n - k) z := by
      rw [isCell_cells hz]
      simp [Builtin.zeroCells]
      apply List.ext_getElem
      · simp
      · intro i h1 h2
        simp [Nat.mod_one]
    have hrun := run_storeCells_at P g k e (List.replicate (n - k) z) 0 cur w hh (by rw [List.length_replicate]; omega) (fun v hv => isCell_one (by rw [List.eq_of_mem_replicate hv]; exact hz))
    refine ⟨_, _, ?_, h (w.setRow g (cur.toList.take (k + 0) ++ List.replicate (n - k) z ++ cur.toList.drop (k + 0 + (List.replicate (n - k) z).length)).toArray) ?_ ?_⟩
    · obtain ⟨m, hm⟩ : ∃ m, n - k = m + 1 := ⟨n - k - 1, by omega⟩
      rw [hm] at hrun hzc ⊢
      simp [Builtin.clear_, run_underlying ht, zeroValue, run_info hi, hz0, hzc, hrun]
    · refine ⟨by simp, .inr ⟨g, cap, _, ?_, hg, setRow_heap w g cur _ e (0, 0) hh, by rw [List.length_take]; omega, h2, ?_, ?_⟩⟩
      · rw [List.length_take, hn, Nat.min_eq_left (by omega)]
      · simp; omega
      · rw [List.length_take, hn, Nat.min_eq_left (by omega), Nat.mul_one, Nat.add_zero, List.take_append_of_le_length (by simp; omega), List.take_append_of_le_length (by simp; omega), List.take_take, Nat.min_self, ← h4, List.take_take, Nat.min_eq_left (by omega)]
    · exact ⟨rfl, rfl, rfl, by rw [setRow_size]; exact Nat.le_refl _, fun c _ hc => setRow_other w g c _ hc⟩
end
theorem gt_takeI {L : List Int} {k i : Nat} (h : i < k) : gt (L.take k) i = gt L i := by unfold gt; simp [List.getD_eq_getElem?_getD, h]
theorem ints_takeJ (L : List Int) (k : Nat) : (ints L).take k = ints (L.take k) := by simp [ints, List.map_take]
theorem filter_noneI {p : Int → Bool} {L : List Int} (h : ∀ j, j < L.length → p (gt L j) = false) : L.filter (fun x => !p x) = L := by
  rw [List.filter_eq_self]
  intro x hx
  obtain ⟨j, hj, rfl⟩ := List.getElem_of_mem hx
  rw [← gt_eq hj, h j hj]; rfl
theorem iIaI2 {w : World} {v : Value} {L : List Int} {z : Int} {j : Nat} {k : IntKind} {K : Value → Prop} (hs : SlI w v L) (hz : z = (j : Int)) (hj : j < L.length) (h : K (.int .i64 (gt L j))) : xIa 1 v (.int k z) fun p => xLd w p K := by
  subst hz
  refine iIa (j := (j : Int)) hs (by omega) (by rw [ints_length]; omega) fun p hp => ?_
  refine iLd (hp.trans ?_) h
  rw [Int.toNat_natCast, gt_eq hj]
  simp [ints, hj]
end Go.Vc
namespace Go.Proofs.YtikfhibcdhdglaaGreat
open Go.Vc
theorem ok_slices_IndexFuncN {v fv : Value} {L : List Int} {p : Int → Bool} {w0 w : World} (h0 : Ext w0 w) (hs : SlI w v L) (hf : ∀ x ∈ L, ∀ w', Ext w0 w' → callV Tryz.prog fv [.int .i64 x] w' fun u w'' => u = .bool (p x) ∧ Ext w' w'') :
    Cal Tryz.prog f_slices_IndexFunc_Si64_i64 #[v, fv] w fun r w' => Ext w w' ∧ ((r = .int .i64 (-1) ∧ ∀ j, j < L.length → p (gt L j) = false) ∨ ∃ i : Nat, r = .int .i64 (i : Int) ∧ i < L.length ∧ p (gt L i) = true ∧ ∀ j, j < i → p (gt L j) = false) := by
  apply c_slices_IndexFunc_Si64_i64; unfold S_slices_IndexFunc_Si64_i64
  have hln := hs.len
  refine iLenI hs ?_
  refine iLp (fun i : Nat => [.int .i64 (i : Int)]) (fun i w' => i ≤ L.length ∧ Ext w w' ∧ ∀ j, j < i → p (gt L j) = false) (fun i => L.length - i) 0 rfl ⟨Nat.zero_le _, Ext.refl _, fun j hj => by omega⟩ ?_
  rintro i w2 Kn ⟨hi, h2, hno⟩ hKn
  intro _
  simp only [gx]
  refine iLt ?_
  refine iCndP (fun h => ?_) (fun h => ?_)
  · refine iIaI2 (hs.ext h2) rfl (by omega) ?_
    refine (hf (gt L i) (by rw [gt_eq (show i < L.length by omega)]; exact List.getElem_mem _) w2 (h0.trans h2)).mono ?_
    rintro u w3 ⟨rfl, h23⟩
    refine iCnd (fun h3 => ?_) (fun h3 => ?_)
    · exact ⟨h2.trans h23, .inr ⟨i, rfl, by omega, h3, hno⟩⟩
    · refine iAdd (by omega) ?_
      refine hKn (i + 1) _ ⟨by omega, h2.trans h23, fun j hj => ?_⟩ (by omega)
      by_cases hji : j = i
      · subst hji; exact h3
      · exact hno j (by omega)
  · exact ⟨h2, .inl ⟨by first | trivial | rfl, fun j hj => hno j (by omega)⟩⟩
theorem ok_slices_DeleteFuncN {v fv : Value} {L : List Int} {p : Int → Bool} {w0 w : World} (h0 : Ext w0 w) (hs : Ow w0.heap.size t_i64 w v (ints L)) (hL : L.length ≤ 1099511627776) (hf : ∀ x ∈ L, ∀ w', Ext w0 w' → callV Tryz.prog fv [.int .i64 x] w' fun u w'' => u = .bool (p x) ∧ Ext w' w'') :
    Cal Tryz.prog f_slices_DeleteFunc_Si64_i64 #[v, fv] w fun r w' => Ext w0 w' ∧ Ow w0.heap.size t_i64 w' r (ints (L.filter fun x => !p x)) := by
  apply c_slices_DeleteFunc_Si64_i64; unfold S_slices_DeleteFunc_Si64_i64
  refine iCall ((ok_slices_IndexFuncN h0 hs.sl hf).mono ?_)
  rintro r w1 ⟨x1, ⟨rfl, hno⟩ | ⟨i0, rfl, hi0, hp0, hno⟩⟩
  · refine iEq (iCndT (by decide) ⟨h0.trans x1, ?_⟩)
    rw [filter_noneI hno]; exact hs.ext x1
  refine iEq (iCndF (by simp) ?_)
  refine iAdd (by omega) ?_
  have hs1 := hs.ext x1
  have X1 := h0.trans x1
  obtain ⟨g, cap, hv, hcap, hcm⟩ := hs1.open (by intro e; have := ints_length L; rw [e] at this; simp at this; omega)
  rw [ints_length] at hv hcap
  have hg : v.ownBlock = some g := by rw [hv]; rfl
  have hglo := (hs1.blk g hg).1
  have hfl : ∀ j, L.take (j + 1) = L.take j ++ (if j < L.length then [gt L j] else []) := fun j => by
    split
    · rename_i h; rw [List.take_succ_eq_append_getElem h, gt_eq h]
    · rename_i h; rw [List.append_nil, List.take_of_length_le (by omega), List.take_of_length_le (by omega)]
  refine iLp (fun s : Nat × Nat => [.int .i64 (s.1 : Int), .int .i64 (s.2 : Int)]) (fun s w' => s.1 < s.2 ∧ s.2 ≤ L.length ∧ ∃ M, Turn w0.heap.size t_i64 (fun x => .int .i64 x) v w1 w' M ∧ M.length = L.length ∧ M.take s.1 = (L.take s.2).filter (fun x => !p x) ∧ ∀ j, s.2 ≤ j → gt M j = gt L j) (fun s => L.length - s.2) (i0, i0 + 1) rfl
    ⟨by show i0 < i0 + 1; omega, by show i0 + 1 ≤ _; omega, L, Turn.refl hs1, rfl, ?_, fun _ _ => rfl⟩ ?_
  · show L.take i0 = (L.take (i0 + 1)).filter fun x => !p x
    rw [hfl, if_pos hi0, List.filter_append, List.filter_cons, hp0]
    have : (L.take i0).filter (fun x => !p x) = L.take i0 := filter_noneI fun j hj => by
      rw [List.length_take] at hj
      rw [gt_takeI (by omega)]; exact hno j (by omega)
    rw [this]; simp
  rintro ⟨i, j⟩ w3 Kn ⟨hij, hj, M, ht, hM, hMt, hMe⟩ hKn
  have hij : i < j := hij
  have hj : j ≤ L.length := hj
  have hMt : M.take i = (L.take j).filter (fun x => !p x) := hMt
  have hMe : ∀ k, j ≤ k → gt M k = gt L k := hMe
  have X3 : Ext w0 w3 := X1.thenCh ht.ch fun b hb => by rw [hg] at hb; cases hb; exact hglo
  intro _
  simp only [gx]
  have hlenv : ∀ {K : Value → Prop}, K (.int .i64 (L.length : Nat)) → xLenS v K := fun h => by rw [hv]; exact iLenL h
  refine hlenv ?_
  refine iLt ?_
  refine iCndP (fun h3 => ?_) (fun h3 => ?_)
  · have hjl : j < L.length := by omega
    have hsl : SlI w3 v M := ht.ow.sl
    refine iIaI2 hsl rfl (by omega) ?_
    rw [hMe j (Nat.le_refl _)]
    refine (hf (gt L j) (by rw [gt_eq hjl]; exact List.getElem_mem _) w3 X3).mono ?_
    rintro u w4 ⟨rfl, x4⟩
    have ht4 := ht.ext x4
    refine iNot ?_
    have hfj : (L.take (j + 1)).filter (fun x => !p x) = (L.take j).filter (fun x => !p x) ++ if p (gt L j) then [] else [gt L j] := by
      rw [hfl, if_pos hjl, List.filter_append, List.filter_cons]
      cases p (gt L j) <;> simp
    refine iCnd (fun h4 => ?_) (fun h4 => ?_)
    · rw [show p (gt L j) = false by simpa using h4] at hfj
      refine iIaOw ht4.ow (by omega) (by rw [List.length_map]; omega) fun b o hb _ _ hc hfz hset => ?_
      refine iSt (hc.trans (List.getElem?_eq_getElem (by rw [List.length_map]; omega))) hfz rfl ?_
      have hset := hset (.int .i64 (gt L j))
      rw [Int.toNat_natCast, ← List.map_set] at hset
      refine iAdd (by omega) ?_
      refine iAdd (by omega) ?_
      refine hKn (i + 1, j + 1) _ ⟨by show i + 1 < j + 1; omega, hjl, M.set i (gt L j), ⟨hset, ht4.ch.trans ((Upd.setCell w4 b o _).ch (S := fun c => v.ownBlock = some c) hb) fun _ e => .inl e⟩, by rw [List.length_set]; exact hM, ?_, fun k hk => ?_⟩ (by show L.length - (j + 1) < L.length - j; omega)
      · show (M.set i (gt L j)).take (i + 1) = (L.take (j + 1)).filter fun x => !p x
        rw [hfj, List.take_succ_eq_append_getElem (by rw [List.length_set]; omega), List.getElem_set_self, List.take_set_of_le (Nat.le_refl _), hMt]
        rfl
      · have hk : j + 1 ≤ k := hk
        rw [gt_set _ (by omega), if_neg (by omega)]
        exact hMe k (by omega)
    · rw [show p (gt L j) = true by simpa using h4] at hfj
      refine iAdd (by omega) ?_
      refine hKn (i, j + 1) _ ⟨by show i < j + 1; omega, hjl, M, ht4, hM, ?_, fun k hk => hMe k (by have hk : j + 1 ≤ k := hk; omega)⟩ (by show L.length - (j + 1) < L.length - j; omega)
      show M.take i = _
      rw [hfj, hMt]; simp
  · have hend : j = L.length := by omega
    subst hend
    rw [List.take_length] at hMt
    have ho := ht.ow
    rw [hv] at ho ⊢
    refine iSlTail (k := i) (by omega) hcap ?_
    refine iClr u_Si64 i_Si64 rfl ho (by rw [List.length_map]; exact hM) (by omega) fun w8 h8 hc8 => ?_
    refine iSlHead (k := i) (by omega) hcap ?_
    rw [show (List.map (fun x => Value.int .i64 x) M).take i = ints (M.take i) from ints_takeJ M i, hMt] at h8
    exact ⟨X3.thenCh hc8 fun b hb => by rw [hb]; exact hglo, h8⟩
end Go.Proofs.YtikfhibcdhdglaaGreat

/- Contracts: where all that is seen lies in a set; roots; the least elements of a set. Conditions: none. -/
namespace Go.Vc
/-- Where all that is seen lies in m. -/
def boxK (a : List Nat) (m k : Nat) : Nat := setOf ((List.range k).filter fun i => decide (sdiff (a.getD i 0) m = 0))
theorem boxK_succ (a : List Nat) (m k : Nat) : boxK a m (k + 1) = if sdiff (a.getD k 0) m = 0 then boxK a m k ||| 2 ^ k else boxK a m k := by
  unfold boxK
  rw [List.range_succ, List.filter_append]
  by_cases h : sdiff (a.getD k 0) m = 0
  · rw [if_pos h, ← setOf_snoc, List.filter_cons, if_pos (decide_eq_true h), List.filter_nil]
  · rw [if_neg h, List.filter_cons, if_neg (by rw [decide_eq_true_eq]; exact h), List.filter_nil, List.append_nil]
theorem boxK_lt (a : List Nat) (m k : Nat) : boxK a m k < 2 ^ k := setOf_lt fun _ hy => List.mem_range.1 (List.mem_filter.1 hy).1
theorem and_sub {a m : Nat} : a &&& m = a ↔ sdiff a m = 0 := by
  rw [sdiff_eq_zero]
  constructor
  · intro h i hi
    rw [← h, Nat.testBit_and, Bool.and_eq_true] at hi
    exact hi.2
  · intro h
    apply Nat.eq_of_testBit_eq
    intro i
    rw [Nat.testBit_and]
    cases ha : a.testBit i
    · rfl
    · rw [h i ha]; rfl
/-- Some element sees all. -/
def Rooted (f : Fr) : Prop := ∃ k, k < f.n ∧ f.a.getD k 0 = 2 ^ f.n - 1
theorem root_at {f : Fr} {k : Nat} (hk : k < f.n) (h1 : f.a.getD k 0 = 2 ^ f.n - 1) (h2 : ∀ i, i < k → ¬ f.a.getD i 0 = 2 ^ f.n - 1) : rootN f = k := by
  unfold rootN
  rw [List.findIdx_eq (by simpa using hk)]
  refine ⟨by simpa using h1, fun j hj => ?_⟩
  simpa using h2 j hj
theorem Rooted.root {f : Fr} (h : Rooted f) : rootN f < f.n ∧ f.a.getD (rootN f) 0 = 2 ^ f.n - 1 ∧ ∀ i, i < rootN f → ¬ f.a.getD i 0 = 2 ^ f.n - 1 := by
  obtain ⟨k, hk, e⟩ := h
  have key : ∀ k, k < f.n → f.a.getD k 0 = 2 ^ f.n - 1 → ∃ j, j ≤ k ∧ f.a.getD j 0 = 2 ^ f.n - 1 ∧ ∀ i, i < j → ¬ f.a.getD i 0 = 2 ^ f.n - 1 := by
    intro k
    induction k using Nat.strongRecOn with
    | ind k ih =>
      intro hk e
      by_cases h : ∃ i, i < k ∧ f.a.getD i 0 = 2 ^ f.n - 1
      · obtain ⟨i, hi, ei⟩ := h
        obtain ⟨j, h1, h2, h3⟩ := ih i hi (by omega) ei
        exact ⟨j, by omega, h2, h3⟩
      · exact ⟨k, Nat.le_refl _, e, fun i hi he => h ⟨i, hi, he⟩⟩
  obtain ⟨j, h1, h2, h3⟩ := key k hk e
  have := root_at (f := f) (k := j) (by omega) h2 h3
  rw [this]
  exact ⟨by omega, h2, h3⟩
theorem cone_rooted {g : Fr} (hg : Po g) {x : Nat} (hx : x < g.n) : Rooted (partFr g (g.a.getD x 0)) := by
  have hm := hg.ok.lt hx
  have hmc : ∀ y, y ∈ mem (g.a.getD x 0) ↔ (g.a.getD x 0).testBit y = true := fun y => mem_mem (mask63 hg.ok hm)
  have hxm : x ∈ mem (g.a.getD x 0) := (hmc x).2 (hg.refl x hx)
  have hpb : ∀ i j, (((partFr g (g.a.getD x 0)).a.getD i 0).testBit j = true) ↔ i < (mem (g.a.getD x 0)).length ∧ j < (mem (g.a.getD x 0)).length ∧ (g.a.getD ((mem (g.a.getD x 0)).getD i 0) 0).testBit ((mem (g.a.getD x 0)).getD j 0) = true := fun i j => part_bit i j
  have hn : (partFr g (g.a.getD x 0)).n = (mem (g.a.getD x 0)).length := rfl
  unfold Rooted
  rw [hn]
  generalize mem (g.a.getD x 0) = C at *
  have hi := List.idxOf_lt_length_of_mem hxm
  have hxe : C.getD (C.idxOf x) 0 = x := by simp [List.getD_eq_getElem?_getD, hi]
  refine ⟨C.idxOf x, hi, ?_⟩
  apply Nat.eq_of_testBit_eq
  intro j
  rw [Bool.eq_iff_iff, hpb, hxe, Nat.testBit_two_pow_sub_one, decide_eq_true_eq]
  constructor
  · exact fun h => h.2.1
  · intro hj
    exact ⟨hi, hj, (hmc _).1 (getD_mem hj)⟩
end Go.Vc
namespace Go.Proofs.YtikfhibcdhdglaaGreat
open Go.Vc
theorem ok_impl_box {v : Value} {w : World} {a : List Nat} (hs : SlN w v a) (hl : a.length ≤ 8) (ha : ∀ x ∈ a, x < 2 ^ 8) (m : Nat) (hm : m < 2 ^ 63) : Ret Tryz.prog f_impl_box #[v, .int .i64 (m : Int)] w (.int .i64 ((boxK a m a.length : Nat) : Int)) := by
  apply c_impl_box; unfold S_impl_box
  ((with_reducible refine iLenN (by assumption) ?_))
  refine iLp (fun k : Nat => [.int .i64 ((boxK a m k : Nat) : Int), .int .i64 (k : Int)]) (fun k w' => k ≤ a.length ∧ Ext w w') (fun k => a.length - k) 0 rfl ⟨Nat.zero_le _, Ext.refl w⟩ ?_
  rintro k w2 Kn ⟨hk, h2⟩ hKn
  have hs2 := hs.ext h2
  (intro _; (try simp only [gx]); (with_reducible refine iLt ?_))
  refine iCndP (fun h3 => ?_) (fun h3 => ?_)
  · have hk1 : k < a.length := by omega
    have hak : a.getD k 0 < 2 ^ 8 := getD_lt ha hk1
    have hb8 : boxK a m k < 2 ^ 8 := Nat.lt_of_lt_of_le (boxK_lt a m k) (Nat.pow_le_pow_right (by omega) (by omega))
    have hbs := boxK_succ a m k
    ((with_reducible refine iIaNN (by assumption) ?_ (fun pa_ hpa_ => ?_)); omega; (with_reducible refine iLd (by assumption) ?_))
    refine iRet (ok_impl_within _ m (by omega) hm w2) fun w3 h4 => ?_
    refine iCndP (fun h5 => ?_) (fun h5 => ?_)
    · rw [if_pos h5] at hbs
      have h2k : 2 ^ k < 2 ^ 63 := Nat.pow_lt_pow_right (by omega) (by omega)
      refine iShlOne (by omega) ?_
      refine iBOr (by omega) h2k ?_
      rw [← hbs]
      (refine iAdd (by omega) ?_)
      exact hKn (k + 1) _ ⟨by omega, h2.trans h4⟩ (by omega)
    · rw [if_neg h5] at hbs
      rw [← hbs]
      (refine iAdd (by omega) ?_)
      exact hKn (k + 1) _ ⟨by omega, h2.trans h4⟩ (by omega)
  · obtain rfl : k = a.length := by omega
    exact ⟨rfl, h2⟩
theorem ok_spec_l01Box {v : Value} {w : World} {a : List Nat} (hs : SlN w v a) (hl : a.length ≤ 8) (ha : ∀ x ∈ a, x < 2 ^ 8) (m : Nat) (hm : m < 2 ^ 63) : Ret Tryz.prog f_spec_l01Box #[v, .int .i64 (m : Int)] w (.int .i64 ((boxK a m a.length : Nat) : Int)) := by
  apply c_spec_l01Box; unfold S_spec_l01Box
  refine iLp (fun k : Nat => [.int .i64 ((boxK a m k : Nat) : Int), .int .i64 (k : Int)]) (fun k w' => k ≤ a.length ∧ Ext w w') (fun k => a.length - k) 0 rfl ⟨Nat.zero_le _, Ext.refl w⟩ ?_
  rintro k w2 Kn ⟨hk, h2⟩ hKn
  have hs2 := hs.ext h2
  (intro _; (try simp only [gx]); (with_reducible refine iLenN (by assumption) ?_; refine iLt ?_))
  refine iCndP (fun h3 => ?_) (fun h3 => ?_)
  · have hk1 : k < a.length := by omega
    have hak : a.getD k 0 < 2 ^ 8 := getD_lt ha hk1
    have hb8 : boxK a m k < 2 ^ 8 := Nat.lt_of_lt_of_le (boxK_lt a m k) (Nat.pow_le_pow_right (by omega) (by omega))
    have hbs := boxK_succ a m k
    ((with_reducible refine iIaNN (by assumption) ?_ (fun pa_ hpa_ => ?_)); omega; (with_reducible refine iLd (by assumption) ?_))
    refine iBAnd (by omega) hm ?_
    ((with_reducible refine iIaNN (by assumption) ?_ (fun pa_ hpa_ => ?_)); omega; (with_reducible refine iLd (by assumption) ?_; refine iEq ?_))
    intro w3 h4
    refine iCndP (fun h5 => ?_) (fun h5 => ?_)
    · have h5 : a.getD k 0 &&& m = a.getD k 0 := by exact_mod_cast h5
      rw [if_pos (and_sub.1 h5)] at hbs
      have h2k : 2 ^ k < 2 ^ 63 := Nat.pow_lt_pow_right (by omega) (by omega)
      refine iRet (ok_spec_l01One k (by omega) w3) fun w4 h6 => ?_
      refine iBOr (by omega) h2k ?_
      rw [← hbs]
      (refine iAdd (by omega) ?_)
      exact hKn (k + 1) _ ⟨by omega, (h2.trans h4).trans h6⟩ (by omega)
    · have h5 : ¬ a.getD k 0 &&& m = a.getD k 0 := fun e => h5 (by exact_mod_cast e)
      rw [if_neg (fun e => h5 (and_sub.2 e))] at hbs
      rw [← hbs]
      (refine iAdd (by omega) ?_)
      exact hKn (k + 1) _ ⟨by omega, h2.trans h4⟩ (by omega)
  · obtain rfl : k = a.length := by omega
    exact ⟨rfl, h2⟩
theorem ok_impl_imply {f : Fr} (hf : f.ok) {v : Value} {w : World} (hs : SlN w v f.a) (a b : Nat) (ha : a < 2 ^ f.n) (hb : b < 2 ^ f.n) : Ret Tryz.prog f_impl_Poset_imply #[.agg #[.int .i64 (f.n : Int), v], .int .i64 (a : Int), .int .i64 (b : Int)] w (.int .i64 ((impM f a b : Nat) : Int)) := by
  apply c_impl_Poset_imply; unfold S_impl_Poset_imply
  have hf8 := hf.1
  have h28 : 2 ^ f.n ≤ 2 ^ 8 := Nat.pow_le_pow_right (by omega) hf8
  refine iNew fun q w1 hq x1 hB => ?_
  have hs1 := hs.ext x1
  ((with_reducible refine iFa ?_); refine iLdB (by assumption) (by first | rfl | simp) ?_; (with_reducible refine iLdA (by assumption) ?_ ?_); rfl)
  refine iRetQ (fun w' _ => ok_impl_Poset_all f.n hf8 v w') ?_
  refine iBAndNot (by omega) (by omega) ?_
  have h1 : sdiff (2 ^ f.n - 1) a < 2 ^ f.n := sdiff_lt (by have := Nat.two_pow_pos f.n; omega)
  refine iBOr (by omega) (by omega) ?_
  have h2 : sdiff (2 ^ f.n - 1) a ||| b < 2 ^ f.n := Nat.or_lt_two_pow h1 hb
  refine iRetQ (fun w' h' => ok_impl_box (hs1.ext h') (by rw [hf.2.1]; exact hf8) (fun x hx => Nat.lt_of_lt_of_le (hf.2.2 x hx) h28) _ (by omega)) ?_
  intro w2 x2
  rw [hf.2.1]
  exact ⟨rfl, x1.trans x2⟩
theorem ok_spec_l17Arrow {f : Fr} (hf : f.ok) {v : Value} {w : World} (hs : SlN w v f.a) (a b : Nat) (ha : a < 2 ^ f.n) (hb : b < 2 ^ f.n) : Ret Tryz.prog f_spec_l17Arrow #[.agg #[.int .i64 (f.n : Int), v], .int .i64 (a : Int), .int .i64 (b : Int)] w (.int .i64 ((impM f a b : Nat) : Int)) := by
  apply c_spec_l17Arrow; unfold S_spec_l17Arrow
  have hf8 := hf.1
  have h28 : 2 ^ f.n ≤ 2 ^ 8 := Nat.pow_le_pow_right (by omega) hf8
  refine iNew fun q w1 hq x1 hB => ?_
  have hs1 := hs.ext x1
  ((with_reducible refine iFa ?_); refine iLdB (by assumption) (by first | rfl | simp) ?_; (with_reducible refine iFa ?_); refine iLdB (by assumption) (by first | rfl | simp) ?_)
  refine iRetQ (fun w' _ => ok_spec_l01Full f.n (by omega) w') ?_
  refine iBAndNot (by omega) (by omega) ?_
  have h1 : sdiff (2 ^ f.n - 1) a < 2 ^ f.n := sdiff_lt (by have := Nat.two_pow_pos f.n; omega)
  refine iBOr (by omega) (by omega) ?_
  have h2 : sdiff (2 ^ f.n - 1) a ||| b < 2 ^ f.n := Nat.or_lt_two_pow h1 hb
  refine iRetQ (fun w' h' => ok_spec_l01Box (hs1.ext h') (by rw [hf.2.1]; exact hf8) (fun x hx => Nat.lt_of_lt_of_le (hf.2.2 x hx) h28) _ (by omega)) ?_
  intro w2 x2
  rw [hf.2.1]
  exact ⟨rfl, x1.trans x2⟩
theorem ok_slices_IndexN {v : Value} {w : World} {l : List Nat} (hs : SlN w v l) (x : Nat) {k : Nat} (hk : k < l.length) (h1 : l.getD k 0 = x) (h2 : ∀ i, i < k → ¬ l.getD i 0 = x) : Ret Tryz.prog f_slices_Index_Si64_i64 #[v, .int .i64 (x : Int)] w (.int .i64 (k : Int)) := by
  apply c_slices_Index_Si64_i64; unfold S_slices_Index_Si64_i64
  have hln := hs.len
  ((with_reducible refine iLenN (by assumption) ?_))
  refine iLp (fun i : Nat => [.int .i64 (i : Int)]) (fun i w' => i ≤ k ∧ Ext w w') (fun i => l.length - i) 0 rfl ⟨Nat.zero_le _, Ext.refl w⟩ ?_
  rintro i w2 Kn ⟨hi, x2⟩ hKn
  have hs2 := hs.ext x2
  (intro _; (try simp only [gx]); (with_reducible refine iLt ?_))
  refine iCndP (fun _ => ?_) (fun h => absurd (show (i : Int) < (l.length : Nat) by omega) h)
  ((with_reducible refine iIaNN (by assumption) ?_ (fun pa_ hpa_ => ?_)); omega; (with_reducible refine iLd (by assumption) ?_; refine iEq ?_))
  refine iCndP (fun h => ?_) (fun h => ?_)
  · have h : x = l.getD i 0 := by exact_mod_cast h
    have : i = k := by
      rcases Nat.lt_or_ge i k with h' | h'
      · exact absurd h.symm (h2 i h')
      · omega
    subst this
    exact ⟨rfl, x2⟩
  · have h : ¬ x = l.getD i 0 := fun e => h (by exact_mod_cast e)
    have : i < k := by
      rcases Nat.lt_or_ge i k with h' | h'
      · exact h'
      · have : i = k := by omega
        subst this
        exact absurd h1.symm h
    (refine iAdd (by omega) ?_)
    exact hKn (i + 1) _ ⟨by omega, x2⟩ (by omega)
theorem ok_impl_root {f : Fr} (hf : f.ok) (hr : Rooted f) {v : Value} {w : World} (hs : SlN w v f.a) : Ret Tryz.prog f_impl_Poset_root #[.agg #[.int .i64 (f.n : Int), v]] w (.int .i64 ((rootN f : Nat) : Int)) := by
  apply c_impl_Poset_root; unfold S_impl_Poset_root
  obtain ⟨r1, r2, r3⟩ := hr.root
  refine iNew fun q w1 hq x1 hB => ?_
  have hs1 := hs.ext x1
  ((with_reducible refine iFa ?_); refine iLdB (by assumption) (by first | rfl | simp) ?_; (with_reducible refine iLdA (by assumption) ?_ ?_); rfl)
  refine iRetQ (fun w' _ => ok_impl_Poset_all f.n hf.1 v w') ?_
  refine iRetQ (fun w' h' => ok_slices_IndexN (hs1.ext h') _ (by rw [hf.2.1]; exact r1) r2 r3) ?_
  intro w2 x2
  exact ⟨rfl, x1.trans x2⟩
theorem ok_spec_l16Root {f : Fr} (hf : f.ok) (hr : Rooted f) {v : Value} {w : World} (hs : SlN w v f.a) : Ret Tryz.prog f_spec_l16Root #[.agg #[.int .i64 (f.n : Int), v]] w (.int .i64 ((rootN f : Nat) : Int)) := by
  apply c_spec_l16Root; unfold S_spec_l16Root
  obtain ⟨r1, r2, r3⟩ := hr.root
  have hf8 := hf.1
  have hfl := hf.2.1
  refine iNew fun q w1 hq x1 hB => ?_
  refine iLp (fun i : Nat => [.int .i64 (i : Int)]) (fun i w' => i ≤ rootN f ∧ Ext w1 w') (fun i => f.n - i) 0 rfl ⟨Nat.zero_le _, Ext.refl w1⟩ ?_
  rintro i w3 Kn ⟨hi, x3⟩ hKn
  have hs3 := hs.ext (x1.trans x3)
  have hB3 := hB.ext x3
  (intro _; (try simp only [gx]); (with_reducible refine iFa ?_); refine iLdB (by assumption) (by first | rfl | simp) ?_; (with_reducible refine iLt ?_))
  refine iCndP (fun _ => ?_) (fun h => absurd (show (i : Int) < (f.n : Int) by omega) h)
  ((with_reducible refine iFa ?_); refine iLdB (by assumption) (by first | rfl | simp) ?_; (with_reducible refine iIaNN (by assumption) ?_ (fun pa_ hpa_ => ?_)); omega; (with_reducible refine iLd (by assumption) ?_; refine iFa ?_); refine iLdB (by assumption) (by first | rfl | simp) ?_)
  refine iRetQ (fun w' _ => ok_spec_l01Full f.n (by omega) w') ?_
  ((with_reducible refine iEq ?_))
  intro w4 x4
  refine iCndP (fun h => ?_) (fun h => ?_)
  · have h : f.a.getD i 0 = 2 ^ f.n - 1 := by exact_mod_cast h
    have : i = rootN f := by
      rcases Nat.lt_or_ge i (rootN f) with h' | h'
      · exact absurd h (r3 i h')
      · omega
    subst this
    exact ⟨rfl, (x1.trans x3).trans x4⟩
  · have h : ¬ f.a.getD i 0 = 2 ^ f.n - 1 := fun e => h (by exact_mod_cast e)
    have : i < rootN f := by
      rcases Nat.lt_or_ge i (rootN f) with h' | h'
      · exact h'
      · have : i = rootN f := by omega
        subst this
        exact absurd r2 h
    (refine iAdd (by omega) ?_)
    exact hKn (i + 1) _ ⟨by omega, x3.trans x4⟩ (by omega)
end Go.Proofs.YtikfhibcdhdglaaGreat

/- Plain facts: forcing on posets; p-morphisms keep it; Jankov's theorem. No program in sight. Conditions: none. -/
namespace Go.Proofs.YtikfhibcdhdglaaGreat
open Go.Vc
/-- Where a formula is forced, for sets V of the variables. -/
def frc (f : Fr) (V : Nat → Nat) : Fm → Nat
  | .var v => V v
  | .fls => 0
  | .and a b => frc f V a &&& frc f V b
  | .or a b => frc f V a ||| frc f V b
  | .imp a b => impM f (frc f V a) (frc f V b)
  | .box _ => 0
  | .dia _ => 0
def ValOk (f : Fr) (V : Nat → Nat) : Prop := ∀ v, V v ∈ upsets f
theorem bit_lt_n {m n x : Nat} (hm : m < 2 ^ n) (h : m.testBit x = true) : x < n := by
  rcases Nat.lt_or_ge x n with h' | h'
  · exact h'
  · rw [Nat.testBit_lt_two_pow (Nat.lt_of_lt_of_le hm (Nat.pow_le_pow_right (by omega) h'))] at h; cases h
theorem impM_bit {f : Fr} (hf : f.ok) {a b x : Nat} : (impM f a b).testBit x = true ↔ x < f.n ∧ ∀ y, f.r x y → a.testBit y = true → b.testBit y = true := by
  unfold impM
  rw [setOf_testBit, List.contains_iff_mem, List.mem_filter, List.mem_range, decide_eq_true_eq, sdiff_eq_zero]
  refine and_congr_right fun hx => ?_
  constructor
  · intro h y hy ha
    have := h y hy
    rw [Nat.testBit_or, testBit_sdiff, ha] at this
    simpa using this
  · intro h y hy
    rw [Nat.testBit_or, testBit_sdiff, full_testBit, decide_eq_true (fr_bit_lt hf hy).2]
    cases ha : a.testBit y
    · simp
    · rw [h y hy ha]; simp
theorem zero_up {f : Fr} (hp : Po f) : 0 ∈ upsets f := (upsets_iff hp).2 ⟨Nat.two_pow_pos _, fun v u h => by rw [Nat.zero_testBit] at h; cases h⟩
theorem and_up {f : Fr} (hp : Po f) {a b : Nat} (ha : a ∈ upsets f) (hb : b ∈ upsets f) : a &&& b ∈ upsets f := by
  obtain ⟨a1, a2⟩ := (upsets_iff hp).1 ha
  obtain ⟨b1, b2⟩ := (upsets_iff hp).1 hb
  refine (upsets_iff hp).2 ⟨Nat.and_lt_two_pow _ b1, fun v u h hr => ?_⟩
  rw [Nat.testBit_and, Bool.and_eq_true] at h ⊢
  exact ⟨a2 v u h.1 hr, b2 v u h.2 hr⟩
theorem or_up {f : Fr} (hp : Po f) {a b : Nat} (ha : a ∈ upsets f) (hb : b ∈ upsets f) : a ||| b ∈ upsets f := by
  obtain ⟨a1, a2⟩ := (upsets_iff hp).1 ha
  obtain ⟨b1, b2⟩ := (upsets_iff hp).1 hb
  refine (upsets_iff hp).2 ⟨Nat.or_lt_two_pow a1 b1, fun v u h hr => ?_⟩
  rw [Nat.testBit_or, Bool.or_eq_true] at h ⊢
  exact h.imp (fun h => a2 v u h hr) fun h => b2 v u h hr
theorem imp_up {f : Fr} (hp : Po f) {a b : Nat} : impM f a b ∈ upsets f := by
  refine (upsets_iff hp).2 ⟨setOf_lt fun y hy => List.mem_range.1 (List.mem_filter.1 hy).1, fun v u h hr => ?_⟩
  rw [impM_bit hp.ok] at h ⊢
  exact ⟨(fr_bit_lt hp.ok hr).2, fun y hy => h.2 y (hp.trans _ _ _ hr hy)⟩
theorem frc_up {f : Fr} (hp : Po f) {V : Nat → Nat} (hV : ValOk f V) : ∀ a, frc f V a ∈ upsets f
  | .var v => hV v
  | .fls => zero_up hp
  | .and a b => and_up hp (frc_up hp hV a) (frc_up hp hV b)
  | .or a b => or_up hp (frc_up hp hV a) (frc_up hp hV b)
  | .imp _ _ => imp_up hp
  | .box _ => zero_up hp
  | .dia _ => zero_up hp
theorem frc_mono {f : Fr} (hp : Po f) {V : Nat → Nat} (hV : ValOk f V) (a : Fm) {v u : Nat} (h : (frc f V a).testBit v = true) (hr : f.r v u) : (frc f V a).testBit u = true :=
  ((upsets_iff hp).1 (frc_up hp hV a)).2 v u h hr
theorem frc_lt {f : Fr} (hp : Po f) {V : Nat → Nat} (hV : ValOk f V) (a : Fm) : frc f V a < 2 ^ f.n := upsets_lt (frc_up hp hV a)
def Fm.has (v : Nat) : Fm → Prop
  | .var x => x = v
  | .fls => False
  | .and a b => Fm.has v a ∨ Fm.has v b
  | .or a b => Fm.has v a ∨ Fm.has v b
  | .imp a b => Fm.has v a ∨ Fm.has v b
  | .box a => Fm.has v a
  | .dia a => Fm.has v a
theorem frc_congr {f : Fr} {V V' : Nat → Nat} : ∀ a : Fm, (∀ v, Fm.has v a → V v = V' v) → frc f V a = frc f V' a
  | .var v, h => h v rfl
  | .fls, _ => rfl
  | .and a b, h => by simp only [frc]; rw [frc_congr a fun v hv => h v (.inl hv), frc_congr b fun v hv => h v (.inr hv)]
  | .or a b, h => by simp only [frc]; rw [frc_congr a fun v hv => h v (.inl hv), frc_congr b fun v hv => h v (.inr hv)]
  | .imp a b, h => by simp only [frc]; rw [frc_congr a fun v hv => h v (.inl hv), frc_congr b fun v hv => h v (.inr hv)]
  | .box _, _ => rfl
  | .dia _, _ => rfl
/-- A p-morphism from an upset keeps what is forced. -/
theorem frc_map {f g : Fr} (hf : f.ok) (hg : g.ok) {U : Nat → Prop} {h : Nat → Nat} (hlt : ∀ v, U v → v < f.n ∧ h v < g.n) (hU : ∀ v u, U v → f.r v u → U u) (hm : ∀ v, U v → ∀ y, g.r (h v) y ↔ ∃ u, f.r v u ∧ h u = y)
    {V V' : Nat → Nat} (hV : ∀ x v, U v → (V x).testBit v = (V' x).testBit (h v)) : ∀ (a : Fm) (v : Nat), U v → (frc f V a).testBit v = (frc g V' a).testBit (h v)
  | .var x, v, hv => hV x v hv
  | .fls, v, _ => by simp [frc]
  | .and a b, v, hv => by
    have h1 := frc_map hf hg hlt hU hm hV a v hv
    have h2 := frc_map hf hg hlt hU hm hV b v hv
    simp only [frc, Nat.testBit_and, h1, h2]
  | .or a b, v, hv => by
    have h1 := frc_map hf hg hlt hU hm hV a v hv
    have h2 := frc_map hf hg hlt hU hm hV b v hv
    simp only [frc, Nat.testBit_or, h1, h2]
  | .imp a b, v, hv => by
    have h1 := frc_map hf hg hlt hU hm hV a
    have h2 := frc_map hf hg hlt hU hm hV b
    simp only [frc]
    rw [Bool.eq_iff_iff, impM_bit hf, impM_bit hg]
    constructor
    · rintro ⟨_, h3⟩
      refine ⟨(hlt v hv).2, fun y hy ha => ?_⟩
      obtain ⟨u, hu, rfl⟩ := (hm v hv y).1 hy
      have hUu := hU v u hv hu
      rw [← h2 u hUu]
      exact h3 u hu (by rw [h1 u hUu]; exact ha)
    · rintro ⟨_, h3⟩
      refine ⟨(hlt v hv).1, fun u hu ha => ?_⟩
      have hUu := hU v u hv hu
      rw [h2 u hUu]
      exact h3 (h u) ((hm v hv _).2 ⟨u, hu, rfl⟩) (by rw [← h1 u hUu]; exact ha)
  | .box _, v, _ => by simp [frc]
  | .dia _, v, _ => by simp [frc]
/-- A formula is valid on a poset. -/
def VldP (f : Fr) (a : Fm) : Prop := ∀ V, ValOk f V → frc f V a = 2 ^ f.n - 1
theorem full_iff_all {n m : Nat} (hm : m < 2 ^ n) : m = 2 ^ n - 1 ↔ ∀ x, x < n → m.testBit x = true := by
  constructor
  · rintro rfl x hx; rw [full_testBit, decide_eq_true hx]
  · intro h
    apply Nat.eq_of_testBit_eq
    intro i
    rw [full_testBit]
    by_cases hi : i < n
    · rw [h i hi, decide_eq_true hi]
    · rw [decide_eq_false hi]
      cases hb : m.testBit i
      · rfl
      · exact absurd (bit_lt_n hm hb) hi
/-- The sets that a map draws back. -/
theorem pull_val {f g : Fr} (hp : Po f) (hg : Po g) {U : Nat → Prop} {h : Nat → Nat} (hlt : ∀ v, U v → v < f.n) (hU : ∀ v u, U v → f.r v u → U u) (hm : ∀ v, U v → ∀ y, g.r (h v) y ↔ ∃ u, f.r v u ∧ h u = y)
    {V' : Nat → Nat} (hV' : ValOk g V') : ∃ V, ValOk f V ∧ ∀ x v, (V x).testBit v = true ↔ U v ∧ (V' x).testBit (h v) = true := by
  classical
  have hb : ∀ x v, (setOf ((List.range f.n).filter fun v => decide (U v) && (V' x).testBit (h v))).testBit v = true ↔ U v ∧ (V' x).testBit (h v) = true := fun x v => by
    rw [setOf_testBit, List.contains_iff_mem, List.mem_filter, List.mem_range, Bool.and_eq_true, decide_eq_true_eq]
    exact ⟨fun h => h.2, fun h => ⟨hlt v h.1, h⟩⟩
  refine ⟨fun x => setOf ((List.range f.n).filter fun v => decide (U v) && (V' x).testBit (h v)), fun x => (upsets_iff hp).2 ⟨setOf_lt fun y hy => List.mem_range.1 (List.mem_filter.1 hy).1, fun v u hv hr => ?_⟩, hb⟩
  rw [hb] at hv ⊢
  exact ⟨hU v u hv.1 hr, ((upsets_iff hg).1 (hV' x)).2 _ _ hv.2 ((hm v hv.1 _).2 ⟨u, hr, rfl⟩)⟩
/-- What is valid on a poset is valid on one that is under it. -/
theorem vld_under {f g : Fr} (hp : Po f) (hg : Po g) (hb : ∀ x, x < g.n → BelM f g x) {a : Fm} (h : VldP f a) : VldP g a := by
  intro V' hV'
  rw [full_iff_all (frc_lt hg hV' a)]
  intro x hx
  obtain ⟨U, k, h1, h2, h3, h4⟩ := hb x hx
  obtain ⟨V, hV, hVb⟩ := pull_val hp hg h1 h2 h3 hV'
  obtain ⟨z, hz, rfl⟩ := (h4 x).2 (hg.refl x hx)
  have hlt : ∀ v, U v → v < f.n ∧ k v < g.n := fun v hv => ⟨h1 v hv, (fr_bit_lt hg.ok ((h3 v hv (k v)).2 ⟨v, hp.refl v (h1 v hv), rfl⟩)).2⟩
  rw [← frc_map hp.ok hg.ok hlt h2 h3 (V := V) (V' := V') (fun x v hv => by rw [Bool.eq_iff_iff, hVb]; exact ⟨fun h => h.2, fun h => ⟨hv, h⟩⟩) a z hz, h V hV, full_testBit, decide_eq_true (h1 z hz)]

/-! ### The least elements of a set -/
theorem mem_minL {q : Fr} {m x : Nat} (hm : m < 2 ^ 63) : x ∈ minL q m ↔ m.testBit x = true ∧ ∀ y, m.testBit y = true → q.r y x → y = x := by
  unfold minL
  rw [List.mem_filter, mem_mem hm]
  refine and_congr_right fun _ => ?_
  rw [Bool.not_eq_true', List.any_eq_false]
  constructor
  · intro h y hy hr
    have := h y ((mem_mem hm).2 hy)
    rw [Bool.and_eq_true, Bool.not_eq_true', decide_eq_false_iff_not] at this
    exact Classical.byContradiction fun hn => this ⟨hn, hr⟩
  · intro h y hy hc
    rw [Bool.and_eq_true, Bool.not_eq_true', decide_eq_false_iff_not] at hc
    exact hc.1 (h y ((mem_mem hm).1 hy) hc.2)
theorem below_strict {q : Fr} (hq : Po q) {x y : Nat} (h : q.r y x) (hne : ¬ y = x) : popc (q.a.getD x 0) < popc (q.a.getD y 0) :=
  popc_above hq (by unfold aboveB; rw [Bool.and_eq_true, Bool.not_eq_true', decide_eq_false_iff_not]; exact ⟨fun e => hne e.symm, h⟩)
theorem least_below {q : Fr} (hq : Po q) {m : Nat} (hm : m < 2 ^ q.n) : ∀ (k x : Nat), q.n - popc (q.a.getD x 0) ≤ k → m.testBit x = true → ∃ y, y ∈ minL q m ∧ q.r y x
  | k, x, hk, hx => by
    have hm63 := mask63 hq.ok hm
    by_cases h : ∀ y, m.testBit y = true → q.r y x → y = x
    · exact ⟨x, (mem_minL hm63).2 ⟨hx, h⟩, hq.refl x (bit_lt_n hm hx)⟩
    · have : ∃ y, m.testBit y = true ∧ q.r y x ∧ ¬ y = x := Classical.byContradiction fun hn => h fun y h1 h2 => Classical.byContradiction fun h3 => hn ⟨y, h1, h2, h3⟩
      obtain ⟨y, hy, hr, hne⟩ := this
      have h1 := below_strict hq hr hne
      have h2 := popc_le8 hq.ok y
      match k with
      | 0 => omega
      | k + 1 =>
        obtain ⟨z, hz, hzy⟩ := least_below hq hm k y (by omega) hy
        exact ⟨z, hz, hq.trans _ _ _ hzy hr⟩
theorem orG_bit {f : Fr} {V : Nat → Nat} {z : Nat} : ∀ (l : List Nat) (a : Fm), (frc f V (orG a l)).testBit z = true ↔ (frc f V a).testBit z = true ∨ ∃ y, y ∈ l ∧ (V y).testBit z = true
  | [], a => by simp [orG]
  | y :: l, a => by
    show (frc f V (orG (.or a (.var y)) l)).testBit z = true ↔ _
    rw [orG_bit l]
    simp only [frc, Nat.testBit_or, Bool.or_eq_true, List.mem_cons]
    constructor
    · rintro ((h | h) | ⟨u, hu, h⟩)
      · exact .inl h
      · exact .inr ⟨y, .inl rfl, h⟩
      · exact .inr ⟨u, .inr hu, h⟩
    · rintro (h | ⟨u, rfl | hu, h⟩)
      · exact .inl (.inl h)
      · exact .inl (.inr h)
      · exact .inr ⟨u, hu, h⟩
theorem orV_bit {f : Fr} {V : Nat → Nat} {z : Nat} (l : List Nat) : (frc f V (orV l)).testBit z = true ↔ ∃ y, y ∈ l ∧ (V y).testBit z = true := by
  cases l with
  | nil => simp [orV, frc]
  | cons x l =>
    show (frc f V (orG (.var x) l)).testBit z = true ↔ _
    rw [orG_bit]
    simp only [frc, List.mem_cons]
    constructor
    · rintro (h | ⟨u, hu, h⟩)
      · exact ⟨x, .inl rfl, h⟩
      · exact ⟨u, .inr hu, h⟩
    · rintro ⟨u, rfl | hu, h⟩
      · exact .inl h
      · exact .inr ⟨u, hu, h⟩
theorem jnF_bit {f q : Fr} {V : Nat → Nat} {z m : Nat} : (frc f V (jnF q m)).testBit z = true ↔ ∃ y, y ∈ minL q m ∧ (V y).testBit z = true := orV_bit _

/-! ### Premises -/
theorem prem_root (q : Fr) : Fm.var (rootN q) ∈ premF q := by unfold premF; simp
theorem prem_pair {q : Fr} {x y : Nat} (hx : x < y) (hy : y < q.n) {a : Fm} (ha : a ∈ pairF q x y) : a ∈ premF q := by
  unfold premF
  refine List.mem_append_left _ (List.mem_append_right _ ?_)
  unfold pairsK
  refine List.mem_append_left _ (List.mem_flatMap.2 ⟨x, List.mem_range.2 (by omega), List.mem_flatMap.2 ⟨y, ?_, ha⟩⟩)
  exact List.mem_drop_iff_getElem.2 ⟨y - (x + 1), by simp; omega, by simp; omega⟩
theorem prem_up {q : Fr} {x u : Nat} (hx : x < q.n) (hu : u ∈ upsets q) {a : Fm} (ha : a ∈ upF q x u) : a ∈ premF q := by
  unfold premF
  refine List.mem_append_right _ ?_
  unfold upsK
  exact List.mem_append_left _ (List.mem_flatMap.2 ⟨x, List.mem_range.2 hx, List.mem_flatMap.2 ⟨u, hu, ha⟩⟩)
theorem prem_cases {q : Fr} {a : Fm} (h : a ∈ premF q) : a = .var (rootN q) ∨ (∃ x y, x < y ∧ y < q.n ∧ a ∈ pairF q x y) ∨ ∃ x u, x < q.n ∧ u ∈ upsets q ∧ a ∈ upF q x u := by
  unfold premF at h
  rcases List.mem_append.1 h with h | h
  · rcases List.mem_append.1 h with h | h
    · exact .inl (by simpa using h)
    · refine .inr (.inl ?_)
      unfold pairsK at h
      rcases List.mem_append.1 h with h | h
      · obtain ⟨x, hx, h⟩ := List.mem_flatMap.1 h
        obtain ⟨y, hy, h⟩ := List.mem_flatMap.1 h
        obtain ⟨i, hi, e⟩ := List.mem_drop_iff_getElem.1 hy
        simp at hi e
        exact ⟨x, y, by omega, by omega, h⟩
      · simp at h
  · refine .inr (.inr ?_)
    unfold upsK at h
    rcases List.mem_append.1 h with h | h
    · obtain ⟨x, hx, h⟩ := List.mem_flatMap.1 h
      obtain ⟨u, hu, h⟩ := List.mem_flatMap.1 h
      exact ⟨x, u, List.mem_range.1 hx, hu, h⟩
    · simp at h
theorem above_up {q : Fr} (hq : Po q) {x : Nat} (hx : x < q.n) : q.a.getD x 0 ∈ upsets q := (upsets_iff hq).2 ⟨hq.ok.lt hx, fun _ _ h hr => hq.trans _ _ _ h hr⟩
/-- Jankov: what forces the premises and not the conclusion has the poset as an image of its part. -/
theorem jankov {f q : Fr} (hf : Po f) (hq : Po q) (hr : Rooted q) {V : Nat → Nat} (hV : ValOk f V) {w : Nat} (hp : ∀ a ∈ premF q, (frc f V a).testBit w = true) (hc : ¬ (frc f V (concF q)).testBit w = true) : Bel f q := by
  classical
  obtain ⟨hr1, hr2, _⟩ := hr.root
  have hw : w < f.n := bit_lt_n (frc_lt hf hV _) (hp _ (prem_root q))
  have hP : ∀ a ∈ premF q, ∀ z, f.r w z → (frc f V a).testBit z = true := fun a ha z hz => frc_mono hf hV a (hp a ha) hz
  have hlt : ∀ z, f.r w z → z < f.n := fun z hz => (fr_bit_lt hf.ok hz).2
  have hVm : ∀ y z u, (V y).testBit z = true → f.r z u → (V y).testBit u = true := fun y z u h1 h2 => ((upsets_iff hf).1 (hV y)).2 z u h1 h2
  -- one way of an implication at z
  have himp : ∀ a b z, (frc f V (.imp a b)).testBit z = true → (frc f V a).testBit z = true → (frc f V b).testBit z = true := fun a b z h1 h2 => by
    simp only [frc] at h1
    rw [impM_bit hf.ok] at h1
    exact h1.2 z (hf.refl z h1.1) h2
  have hpair : ∀ x y, x < y → y < q.n → ∀ z, f.r w z → (((V x).testBit z = true ∧ (V y).testBit z = true) ↔ ∃ m, m ∈ minL q (q.a.getD x 0 &&& q.a.getD y 0) ∧ (V m).testBit z = true) := by
    intro x y hx hy z hz
    have h1 := hP _ (prem_pair hx hy (a := .imp (.and (.var x) (.var y)) (jnF q (q.a.getD x 0 &&& q.a.getD y 0))) (by simp [pairF, bothF])) z hz
    have h2 := hP _ (prem_pair hx hy (a := .imp (jnF q (q.a.getD x 0 &&& q.a.getD y 0)) (.and (.var x) (.var y))) (by simp [pairF, bothF])) z hz
    rw [← jnF_bit (f := f)]
    constructor
    · rintro ⟨a1, a2⟩
      exact himp _ _ z h1 (by simp only [frc, Nat.testBit_and, a1, a2]; rfl)
    · intro h
      have := himp _ _ z h2 h
      simp only [frc, Nat.testBit_and, Bool.and_eq_true] at this
      exact this
  have hlt63 : ∀ x y, x < q.n → q.a.getD x 0 &&& q.a.getD y 0 < 2 ^ q.n := fun x y hx => Nat.lt_of_le_of_lt Nat.and_le_left (hq.ok.lt hx)
  have hpairS : ∀ x y, x < q.n → y < q.n → ¬ x = y → ∀ z, f.r w z → (((V x).testBit z = true ∧ (V y).testBit z = true) ↔ ∃ m, m ∈ minL q (q.a.getD x 0 &&& q.a.getD y 0) ∧ (V m).testBit z = true) := by
    intro x y hx hy hne z hz
    rcases Nat.lt_or_ge x y with h | h
    · exact hpair x y h hy z hz
    · rw [and_comm, Nat.and_comm]; exact hpair y x (by omega) hx z hz
  -- variables go down
  have hdown : ∀ x y z, f.r w z → q.r x y → (V y).testBit z = true → (V x).testBit z = true := by
    intro x y z hz hxy hy
    have hl := fr_bit_lt hq.ok hxy
    by_cases e : x = y
    · rw [e]; exact hy
    · refine ((hpairS x y hl.1 hl.2 e z hz).2 ⟨y, (mem_minL (mask63 hq.ok (hlt63 x y hl.1))).2 ⟨?_, fun u hu hr => ?_⟩, hy⟩).1
      · rw [Nat.testBit_and, hxy, hq.refl y hl.2]; rfl
      · rw [Nat.testBit_and, Bool.and_eq_true] at hu
        exact hq.anti _ _ hr hu.2
  have hdir : ∀ x y z, f.r w z → x < q.n → y < q.n → (V x).testBit z = true → (V y).testBit z = true → ∃ m, m < q.n ∧ (V m).testBit z = true ∧ q.r x m ∧ q.r y m := by
    intro x y z hz hx hy h1 h2
    by_cases e : x = y
    · subst e; exact ⟨x, hx, h1, hq.refl x hx, hq.refl x hx⟩
    · obtain ⟨m, hm, h3⟩ := (hpairS x y hx hy e z hz).1 ⟨h1, h2⟩
      have := ((mem_minL (mask63 hq.ok (hlt63 x y hx))).1 hm).1
      rw [Nat.testBit_and, Bool.and_eq_true] at this
      exact ⟨m, (fr_bit_lt hq.ok this.1).2, h3, this.1, this.2⟩
  have hroot : ∀ z, f.r w z → (V (rootN q)).testBit z = true := fun z hz => hP _ (prem_root q) z hz
  -- the greatest variable at z
  have hbig : ∀ z, f.r w z → ∃ m, m < q.n ∧ (V m).testBit z = true ∧ ∀ y, y < q.n → (V y).testBit z = true → q.r y m := by
    intro z hz
    have key : ∀ k x, x < q.n → (V x).testBit z = true → popc (q.a.getD x 0) ≤ k → ∃ m, m < q.n ∧ (V m).testBit z = true ∧ ∀ y, y < q.n → (V y).testBit z = true → q.r y m := by
      intro k
      induction k with
      | zero =>
        intro x hx _ hk
        have := popc_pos hq hx
        omega
      | succ k ih =>
        intro x hx h1 hk
        by_cases hall : ∀ y, y < q.n → (V y).testBit z = true → q.r y x
        · exact ⟨x, hx, h1, hall⟩
        · have : ∃ y, y < q.n ∧ (V y).testBit z = true ∧ ¬ q.r y x := Classical.byContradiction fun hn => hall fun y h2 h3 => Classical.byContradiction fun h4 => hn ⟨y, h2, h3, h4⟩
          obtain ⟨y, hy, h2, h3⟩ := this
          obtain ⟨m, hm, h4, h5, h6⟩ := hdir x y z hz hx hy h1 h2
          have hne : ¬ x = m := fun e => h3 (e ▸ h6)
          have := below_strict hq h5 hne
          exact ih m hm h4 (by omega)
    exact key _ _ hr1 (hroot z hz) (Nat.le_refl _)
  let h : Nat → Nat := fun z => if hz : f.r w z then Classical.choose (hbig z hz) else 0
  have hh : ∀ z, f.r w z → h z < q.n ∧ (V (h z)).testBit z = true ∧ ∀ y, y < q.n → (V y).testBit z = true → q.r y (h z) := fun z hz => by
    show (if hz : f.r w z then Classical.choose (hbig z hz) else 0) < q.n ∧ _
    have := Classical.choose_spec (hbig z hz)
    have e : h z = Classical.choose (hbig z hz) := dif_pos hz
    rw [e, dif_pos hz]; exact this
  have hT : ∀ z, f.r w z → ∀ y, y < q.n → ((V y).testBit z = true ↔ q.r y (h z)) := fun z hz y hy => ⟨(hh z hz).2.2 y hy, fun hr => hdown _ _ z hz hr (hh z hz).2.1⟩
  have hstep : ∀ v, f.r w v → ∀ y, q.r (h v) y ↔ ∃ u, f.r v u ∧ h u = y := by
    intro v hv y
    constructor
    · intro hy
      have hyn := (fr_bit_lt hq.ok hy).2
      let my := setOf ((List.range q.n).filter fun u => !(q.a.getD u 0).testBit y)
      have hmb : ∀ u, my.testBit u = true ↔ u < q.n ∧ ¬ q.r u y := fun u => by
        show (setOf _).testBit u = true ↔ _
        rw [setOf_testBit, List.contains_iff_mem, List.mem_filter, List.mem_range, Bool.not_eq_true', Bool.eq_false_iff]; rfl
      have hml : my < 2 ^ q.n := setOf_lt fun u hu => List.mem_range.1 (List.mem_filter.1 hu).1
      have hmu : my ∈ upsets q := (upsets_iff hq).2 ⟨hml, fun a b ha hab => by
        rw [hmb] at ha ⊢
        exact ⟨(fr_bit_lt hq.ok hab).2, fun hb => ha.2 (hq.trans _ _ _ hab hb)⟩⟩
      have hie : impM q (q.a.getD y 0) my = my := by
        apply Nat.eq_of_testBit_eq
        intro u
        rw [Bool.eq_iff_iff, impM_bit hq.ok, hmb]
        refine and_congr_right fun hu => ?_
        constructor
        · intro h1 h2
          exact ((hmb y).1 (h1 y h2 (hq.refl y hyn))).2 (hq.refl y hyn)
        · intro h1 t ht hyt
          refine (hmb t).2 ⟨(fr_bit_lt hq.ok ht).2, fun hty => h1 ?_⟩
          have := hq.anti _ _ hyt hty
          rw [this]; exact ht
      have h1 := hP _ (prem_up hyn hmu (a := .imp (.imp (.var y) (jnF q my)) (jnF q (impM q (q.a.getD y 0) my))) (by simp [upF, bothF])) v hv
      rw [hie] at h1
      have hno : ¬ (frc f V (jnF q my)).testBit v = true := fun hj => by
        obtain ⟨m, hm, h2⟩ := jnF_bit.1 hj
        have h3 := (hmb m).1 ((mem_minL (mask63 hq.ok hml)).1 hm).1
        exact h3.2 (hq.trans _ _ _ ((hT v hv m h3.1).1 h2) hy)
      have hno2 : ¬ (frc f V (.imp (.var y) (jnF q my))).testBit v = true := fun hi => hno (himp _ _ v h1 hi)
      have : ∃ u, f.r v u ∧ (V y).testBit u = true ∧ ¬ (frc f V (jnF q my)).testBit u = true := Classical.byContradiction fun hn => hno2 (by
        simp only [frc]
        rw [impM_bit hf.ok]
        exact ⟨hlt v hv, fun u hu hy => Classical.byContradiction fun h => hn ⟨u, hu, hy, h⟩⟩)
      obtain ⟨u, hu, hyu, hju⟩ := this
      have hwu : f.r w u := hf.trans _ _ _ hv hu
      have h4 := (hT u hwu y hyn).1 hyu
      refine ⟨u, hu, ?_⟩
      have h5 : q.r (h u) y := Classical.byContradiction fun hn => by
        obtain ⟨m, hm, hmu⟩ := least_below hq hml _ (h u) (Nat.le_refl _) ((hmb _).2 ⟨(hh u hwu).1, hn⟩)
        exact hju (jnF_bit.2 ⟨m, hm, (hT u hwu m (fr_bit_lt hq.ok hmu).1).2 hmu⟩)
      exact hq.anti _ _ h5 h4
    · rintro ⟨u, hu, rfl⟩
      have hwu : f.r w u := hf.trans _ _ _ hv hu
      exact (hT u hwu _ (hh v hv).1).1 (hVm _ v u (hh v hv).2.1 hu)
  have hw0 : f.r w w := hf.refl w hw
  have hwr : h w = rootN q := Classical.byContradiction fun hn => hc (by
    have hcl : sdiff (2 ^ q.n - 1) (2 ^ rootN q) < 2 ^ q.n := sdiff_lt (by have := Nat.two_pow_pos q.n; omega)
    have hcb : ∀ y, (sdiff (2 ^ q.n - 1) (2 ^ rootN q)).testBit y = true ↔ y < q.n ∧ ¬ y = rootN q := fun y => by
      rw [testBit_sdiff, full_testBit, Nat.testBit_two_pow, Bool.and_eq_true, Bool.not_eq_true', decide_eq_true_eq, decide_eq_false_iff_not]
      exact and_congr_right fun _ => ⟨fun h e => h e.symm, fun h e => h e.symm⟩
    obtain ⟨m, hm, hmw⟩ := least_below hq hcl _ (h w) (Nat.le_refl _) ((hcb _).2 ⟨(hh w hw0).1, hn⟩)
    exact jnF_bit.2 ⟨m, hm, (hT w hw0 m (fr_bit_lt hq.ok hmw).1).2 hmw⟩)
  refine ⟨fun v => f.r w v, h, hlt, fun v u hv hu => hf.trans _ _ _ hv hu, hstep, fun y => ⟨fun ⟨v, hv, e⟩ => e ▸ (hh v hv).1, fun hy => ?_⟩⟩
  have : q.r (h w) y := by
    rw [hwr]
    show (q.a.getD (rootN q) 0).testBit y = true
    rw [hr2, full_testBit, decide_eq_true hy]
  obtain ⟨u, hu, e⟩ := (hstep w hw0 y).1 this
  exact ⟨u, hu, e⟩

/-! ### The poset's own sets -/
def ownV (q : Fr) (v : Nat) : Nat := if v < q.n then q.a.getD v 0 else 0
theorem ownV_ok {q : Fr} (hq : Po q) : ValOk q (ownV q) := fun v => by
  unfold ownV; split
  · rename_i h; exact above_up hq h
  · exact zero_up hq
theorem own_jn {q : Fr} (hq : Po q) {u : Nat} (hu : u ∈ upsets q) : frc q (ownV q) (jnF q u) = u := by
  obtain ⟨h1, h2⟩ := (upsets_iff hq).1 hu
  apply Nat.eq_of_testBit_eq
  intro z
  rw [Bool.eq_iff_iff, jnF_bit]
  constructor
  · rintro ⟨y, hy, h⟩
    have := ((mem_minL (mask63 hq.ok h1)).1 hy).1
    unfold ownV at h
    rw [if_pos (bit_lt_n h1 this)] at h
    exact h2 y z this h
  · intro h
    obtain ⟨y, hy, hr⟩ := least_below hq h1 _ z (Nat.le_refl _) h
    refine ⟨y, hy, ?_⟩
    unfold ownV
    rw [if_pos (fr_bit_lt hq.ok hr).1]; exact hr
theorem imp_self {q : Fr} (hq : Po q) {a : Nat} : impM q a a = 2 ^ q.n - 1 := by
  rw [full_iff_all (upsets_lt (imp_up hq))]
  intro x hx
  exact (impM_bit hq.ok).2 ⟨hx, fun _ _ h => h⟩
theorem own_prem {q : Fr} (hq : Po q) (hr : Rooted q) {a : Fm} (ha : a ∈ premF q) : frc q (ownV q) a = 2 ^ q.n - 1 := by
  obtain ⟨hr1, hr2, _⟩ := hr.root
  have hown : ∀ x, x < q.n → ownV q x = q.a.getD x 0 := fun x hx => if_pos hx
  rcases prem_cases ha with rfl | ⟨x, y, hx, hy, ha⟩ | ⟨x, u, hx, hu, ha⟩
  · simp only [frc]; rw [hown _ hr1, hr2]
  · have h1 := own_jn hq (and_up hq (above_up hq (show x < q.n by omega)) (above_up hq hy))
    simp only [pairF, bothF, List.mem_cons, List.not_mem_nil, or_false] at ha
    rcases ha with rfl | rfl
    · simp only [frc]; rw [h1, hown _ hy, hown x (by omega)]; exact imp_self hq
    · simp only [frc]; rw [h1, hown _ hy, hown x (by omega)]; exact imp_self hq
  · have h1 := own_jn hq hu
    have h2 := own_jn hq (imp_up (a := q.a.getD x 0) (b := u) hq)
    simp only [upF, bothF, List.mem_cons, List.not_mem_nil, or_false] at ha
    rcases ha with rfl | rfl
    · simp only [frc]; rw [h1, h2, hown _ hx]; exact imp_self hq
    · simp only [frc]; rw [h1, h2, hown _ hx]; exact imp_self hq
theorem own_conc {q : Fr} (hq : Po q) (hr : Rooted q) {x : Nat} : (frc q (ownV q) (concF q)).testBit x = true ↔ x < q.n ∧ ¬ x = rootN q := by
  obtain ⟨hr1, hr2, _⟩ := hr.root
  have hcb : ∀ y, (sdiff (2 ^ q.n - 1) (2 ^ rootN q)).testBit y = true ↔ y < q.n ∧ ¬ y = rootN q := fun y => by
    rw [testBit_sdiff, full_testBit, Nat.testBit_two_pow, Bool.and_eq_true, Bool.not_eq_true', decide_eq_true_eq, decide_eq_false_iff_not]
    exact and_congr_right fun _ => ⟨fun h e => h e.symm, fun h e => h e.symm⟩
  have hcl : sdiff (2 ^ q.n - 1) (2 ^ rootN q) < 2 ^ q.n := sdiff_lt (by have := Nat.two_pow_pos q.n; omega)
  unfold concF
  rw [own_jn hq, hcb]
  refine (upsets_iff hq).2 ⟨hcl, fun v u hv hvu => ?_⟩
  rw [hcb] at hv ⊢
  refine ⟨(fr_bit_lt hq.ok hvu).2, fun e => hv.2 ?_⟩
  subst e
  have : q.r (rootN q) v := by
    show (q.a.getD (rootN q) 0).testBit v = true
    rw [hr2, full_testBit, decide_eq_true hv.1]
  exact hq.anti _ _ hvu this
end Go.Proofs.YtikfhibcdhdglaaGreat

/- Contracts: the parts of a formula, in the program and in the reference. Conditions: none. -/
namespace Go.Vc
/-! ### Formulas by their kinds and parts -/
def Fm.kind : Fm → Nat
  | .var _ => 0
  | .fls => 1
  | .and _ _ => 2
  | .or _ _ => 3
  | .imp _ _ => 4
  | .box _ => 5
  | .dia _ => 6
def Fm.sym : Fm → Nat
  | .var v => v
  | _ => 0
def Fm.kids : Fm → List Fm
  | .and a b => [a, b]
  | .or a b => [a, b]
  | .imp a b => [a, b]
  | .box a => [a]
  | .dia a => [a]
  | _ => []
def arity (k : Nat) : Nat := if k = 2 ∨ k = 3 ∨ k = 4 then 2 else if k = 5 ∨ k = 6 then 1 else 0
def cellsL (fs : List Fm) : List Value := fs.flatMap Fm.cells
def sizeL (fs : List Fm) : Nat := (fs.map Fm.size).sum
theorem Fm.cells_kids (f : Fm) : f.cells = nd f.kind f.sym ++ cellsL f.kids := by cases f <;> simp [Fm.cells, Fm.kind, Fm.sym, Fm.kids, cellsL]
theorem Fm.size_kids (f : Fm) : f.size = 1 + sizeL f.kids := by cases f <;> simp [Fm.size, Fm.kids, sizeL] <;> omega
theorem Fm.arity_kids (f : Fm) : arity f.kind = f.kids.length := by cases f <;> rfl
theorem cellsL_app (a b : List Fm) : cellsL (a ++ b) = cellsL a ++ cellsL b := by simp [cellsL]
theorem sizeL_app (a b : List Fm) : sizeL (a ++ b) = sizeL a + sizeL b := by simp [sizeL]
theorem sizeL_len : ∀ gs : List Fm, gs.length ≤ sizeL gs
  | [] => Nat.zero_le _
  | a :: bs => by have := a.size_pos; have := sizeL_len bs; simp only [sizeL, List.map_cons, List.sum_cons, List.length_cons] at this ⊢; omega
/-- The list of nodes says the formula. -/
theorem nodes_inj : ∀ {fs gs : List Fm} {r r' : List Value}, fs.length = gs.length → cellsL fs ++ r = cellsL gs ++ r' → fs = gs ∧ r = r' := by
  suffices H : ∀ (n : Nat) {fs gs : List Fm} {r r' : List Value}, sizeL fs ≤ n → fs.length = gs.length → cellsL fs ++ r = cellsL gs ++ r' → fs = gs ∧ r = r' from fun {fs} => H (sizeL fs) (Nat.le_refl _)
  intro n
  induction n with
  | zero =>
    intro fs gs r r' hn hl he
    cases fs with
    | nil => cases gs with
      | nil => exact ⟨rfl, he⟩
      | cons _ _ => cases hl
    | cons f fs => simp only [sizeL, List.map_cons, List.sum_cons] at hn; have := f.size_pos; omega
  | succ n ih =>
    intro fs gs r r' hn hl he
    cases fs with
    | nil => cases gs with
      | nil => exact ⟨rfl, he⟩
      | cons _ _ => cases hl
    | cons f fs => cases gs with
      | nil => cases hl
      | cons g gs =>
        simp only [List.length_cons, Nat.add_right_cancel_iff] at hl
        have hsz : sizeL (f.kids ++ fs) ≤ n := by
          rw [sizeL_app]
          simp only [sizeL, List.map_cons, List.sum_cons] at hn ⊢
          have := f.size_kids
          simp only [sizeL] at this
          omega
        have he' : nd f.kind f.sym ++ (cellsL (f.kids ++ fs) ++ r) = nd g.kind g.sym ++ (cellsL (g.kids ++ gs) ++ r') := by
          have e : ∀ (f : Fm) (fs : List Fm) (r : List Value), cellsL (f :: fs) ++ r = nd f.kind f.sym ++ (cellsL (f.kids ++ fs) ++ r) := fun f fs r => by
            rw [cellsL_app]
            simp only [cellsL, List.flatMap_cons]
            rw [f.cells_kids]
            simp [cellsL]
          rw [← e, ← e]; exact he
        simp only [nd, List.cons_append, List.nil_append, List.cons.injEq, Value.int.injEq, true_and] at he'
        obtain ⟨hk, hs, hr⟩ := he'
        have hk : f.kind = g.kind := by omega
        have hs : f.sym = g.sym := by omega
        have hkl : f.kids.length = g.kids.length := by rw [← f.arity_kids, ← g.arity_kids, hk]
        obtain ⟨h1, h2⟩ := ih hsz (by rw [List.length_append, List.length_append, hkl, hl]) hr
        obtain ⟨h3, h4⟩ := List.append_inj h1 hkl
        refine ⟨?_, h2⟩
        have : f = g := by
          cases f <;> cases g <;> simp [Fm.kind] at hk <;> simp [Fm.kids, Fm.sym] at h3 hs <;> simp_all
        rw [this, h4]
theorem cells_inj {f g : Fm} (h : f.cells = g.cells) : f = g := by
  have := (nodes_inj (fs := [f]) (gs := [g]) (r := []) (r' := []) rfl (by simpa [cellsL] using h)).1
  simpa using this
/-! ### Steps -/
section
variable {P : Program} {w : World}
/-- The number at place f of element j. -/
theorem iFld {sz f : Nat} {v x : Value} {n : Nat} {xs : List Value} {z : Int} {j : Nat} {k : IntKind} {K : Value → Prop} (hs : SlK sz w v n xs) (hz : z = (j : Int)) (h1 : j < n) (hf : f < sz) (hx : xs[j * sz + f]? = some x) (h : K x) : xIa sz v (.int k z) fun p => xFa f p fun q => xLd w q K := by
  subst hz
  refine iIaK hs h1 fun b o hc => ?_
  refine ⟨_, rfl, ?_⟩
  rw [addr_add]
  exact iLd ((hc f hf).trans hx) h
/-- Two nodes compared. -/
theorem iNeNode {t t0 t1 : TypeId} {a b c d : Int} {xo yo : Operand} {K : Value → Prop} (hu : P.underlying t = some (.struct (P.fieldsOf t))) (hp : P.stoodInHeld t = false) (hg : P.eqGuardType P.depth t = false)
    (hf : (P.fieldsOf t).toList.map (fun f => (f.name == "_", f.offset, f.type)) = [(false, 0, t0), (false, 1, t1)]) (h0 : P.underlying t0 = some (.int .i64)) (h1 : P.underlying t1 = some (.int .i64))
    (h : K (.bool (decide (¬ (a = c ∧ b = d))))) : xR P w (do eqGuard .neq t xo yo (.agg #[.int .i64 a, .int .i64 b]) (.agg #[.int .i64 c, .int .i64 d]); binOp .neq t (.agg #[.int .i64 a, .int .i64 b]) (.agg #[.int .i64 c, .int .i64 d])) K := by
  refine ⟨_, fun w' _ => ?_, h⟩
  obtain ⟨f0, f1, hl, n0, n1, o0, o1, rfl, rfl⟩ : ∃ f0 f1, (P.fieldsOf t).toList = [f0, f1] ∧ ¬ f0.name = "_" ∧ ¬ f1.name = "_" ∧ f0.offset = 0 ∧ f1.offset = 1 ∧ f0.type = t0 ∧ f1.type = t1 := by
    generalize (P.fieldsOf t).toList = l at hf
    rcases l with _ | ⟨f0, _ | ⟨f1, _ | ⟨f2, l⟩⟩⟩ <;> simp at hf
    exact ⟨f0, f1, rfl, hf.1.1, hf.2.1, hf.1.2.1, hf.2.2.1, hf.1.2.2, hf.2.2.2⟩
  have pt : ∀ (t : TypeId) (cs : Array Value) (o : Nat) (x : Value), P.underlying t = some (.int .i64) → cs[o]? = some x → (part t cs o).run P w' = .ok x w' := fun t cs o x ht hx => by
    have hg : isAgg? P t = some false := by simp [isAgg?, ht]
    simp [part, isAgg_run hg, hx]
  have eqn : ∀ (d : Nat) (t : TypeId) (a b : Int), P.underlying t = some (.int .i64) → (Op.equalIn (d + 1) t (.int .i64 a) (.int .i64 b)).run P w' = .ok (a == b) w' := fun d t a b ht => run_equalIn_int w' d t .i64 .i64 a b ht
  rw [Sem.run_bind, run_eqGuard_agg w' .neq t xo yo _ _ hg, Result.andThen_ok, run_neq_struct, run_equalIn_struct w' 9999 t _ _ hu hp, hl]
  simp only [Op.eqFields, ne_eq, n0, n1, not_false_eq_true, if_true, o0, o1, Sem.run_bind]
  rw [pt _ _ 0 (.int .i64 a) h0 rfl, Result.andThen_ok, pt _ _ 0 (.int .i64 c) h0 rfl, Result.andThen_ok, eqn 9998 _ a c h0, Result.andThen_ok]
  by_cases e1 : a = c
  · subst e1
    simp only [beq_self_eq_true, Bool.not_true, Bool.false_eq_true, if_false, Sem.run_bind]
    rw [pt _ _ 1 (.int .i64 b) h1 rfl, Result.andThen_ok, pt _ _ 1 (.int .i64 d) h1 rfl, Result.andThen_ok, eqn 9998 _ b d h1, Result.andThen_ok]
    by_cases e2 : b = d <;> simp [e2]
  · simp [e1]
end
end Go.Vc
namespace Go.Proofs.YtikfhibcdhdglaaGreat
open Go.Vc
theorem ok_impl_partsOf (k : Nat) (w : World) : Ret Tryz.prog f_impl_partsOf #[.int .i64 (k : Int)] w (.int .i64 (arity k : Int)) := by
  apply c_impl_partsOf; unfold S_impl_partsOf
  refine iEq ?_
  refine iJnB (decide (k = 2 ∨ k = 3 ∨ k = 4)) w (fun J hJ => ?_) (fun w2 h2 => ?_)
  · refine iCndP (fun h => ?_) (fun h => ?_)
    · rw [decide_eq_true (.inl (by omega))] at hJ
      exact hJ _ (Ext.refl _)
    · refine iEq ?_
      refine iJnB (decide (k = 2 ∨ k = 3 ∨ k = 4)) w (fun J' hJ' => ?_) (fun w4 h4 => ?_)
      · refine iCndP (fun h' => ?_) (fun h' => ?_)
        · rw [decide_eq_true (.inr (.inl (by omega)))] at hJ'
          exact hJ' _ (Ext.refl _)
        · refine iEq ?_
          rw [show decide (k = 2 ∨ k = 3 ∨ k = 4) = decide ((k : Int) = 4) from decide_eq_decide.2 (by omega)] at hJ'
          exact hJ' _ (Ext.refl _)
      · intro _
        exact hJ _ h4
  · intro _
    simp only [gx]
    refine iCndP (fun h => ?_) (fun h => ?_)
    · rw [show (arity k : Int) = 2 by unfold arity; rw [if_pos h]; rfl]
      exact ⟨by first | trivial | rfl, h2⟩
    · refine iEq ?_
      refine iJnB (decide (k = 5 ∨ k = 6)) w2 (fun J hJ => ?_) (fun w6 h6 => ?_)
      · refine iCndP (fun h' => ?_) (fun h' => ?_)
        · rw [decide_eq_true (.inl (by omega))] at hJ
          exact hJ _ (Ext.refl _)
        · refine iEq ?_
          rw [show decide (k = 5 ∨ k = 6) = decide ((k : Int) = 6) from decide_eq_decide.2 (by omega)] at hJ
          exact hJ _ (Ext.refl _)
      · intro _
        simp only [gx]
        refine iCndP (fun h' => ?_) (fun h' => ?_)
        · rw [show (arity k : Int) = 1 by unfold arity; rw [if_neg h, if_pos h']; rfl]
          exact ⟨by first | trivial | rfl, h2.trans h6⟩
        · rw [show (arity k : Int) = 0 by unfold arity; rw [if_neg h, if_neg h']; rfl]
          exact ⟨by first | trivial | rfl, h2.trans h6⟩
theorem kind_at {fs : List Fm} {f : Fm} {r xs : List Value} {i : Nat} (h : xs.drop (i * 2) = cellsL (f :: fs) ++ r) : xs[i * 2 + 0]? = some (.int .i64 (f.kind : Int)) ∧ xs[i * 2 + 1]? = some (.int .i64 (f.sym : Int)) ∧ xs.drop ((i + 1) * 2) = cellsL (f.kids ++ fs) ++ r := by
  have e : cellsL (f :: fs) ++ r = nd f.kind f.sym ++ (cellsL (f.kids ++ fs) ++ r) := by
    rw [cellsL_app]
    simp only [cellsL, List.flatMap_cons]
    rw [f.cells_kids]
    simp [cellsL]
  rw [e] at h
  refine ⟨?_, ?_, ?_⟩
  · have := congrArg (fun l => l[0]?) h
    simpa [List.getElem?_drop] using this
  · have := congrArg (fun l => l[1]?) h
    simpa [List.getElem?_drop] using this
  · have := congrArg (List.drop 2) h
    rw [List.drop_drop] at this
    rw [show (i + 1) * 2 = i * 2 + 2 by omega, this]
    rfl
end Go.Proofs.YtikfhibcdhdglaaGreat

/- Rows of nodes of any kind and sign: which of them are formulas. No program in sight. Conditions: none. -/
namespace Go.Vc
abbrev RN := Int × Int
def rcell (q : RN) : List Value := [.int .i64 q.1, .int .i64 q.2]
def cellsN (N : List RN) : List Value := N.flatMap rcell
def rawF : Fm → List RN
  | .var v => [(0, (v : Int))]
  | .fls => [(1, 0)]
  | .and a b => (2, 0) :: (rawF a ++ rawF b)
  | .or a b => (3, 0) :: (rawF a ++ rawF b)
  | .imp a b => (4, 0) :: (rawF a ++ rawF b)
  | .box a => (5, 0) :: rawF a
  | .dia a => (6, 0) :: rawF a
theorem cellsN_cons (q : RN) (N : List RN) : cellsN (q :: N) = rcell q ++ cellsN N := by simp [cellsN]
theorem cellsN_app (M N : List RN) : cellsN (M ++ N) = cellsN M ++ cellsN N := by simp [cellsN]
theorem cellsN_raw : ∀ f : Fm, cellsN (rawF f) = f.cells
  | .var v => rfl
  | .fls => rfl
  | .and a b => by rw [rawF, cellsN_cons, cellsN_app, cellsN_raw a, cellsN_raw b]; simp [Fm.cells, rcell]
  | .or a b => by rw [rawF, cellsN_cons, cellsN_app, cellsN_raw a, cellsN_raw b]; simp [Fm.cells, rcell]
  | .imp a b => by rw [rawF, cellsN_cons, cellsN_app, cellsN_raw a, cellsN_raw b]; simp [Fm.cells, rcell]
  | .box a => by rw [rawF, cellsN_cons, cellsN_raw a]; simp [Fm.cells, rcell]
  | .dia a => by rw [rawF, cellsN_cons, cellsN_raw a]; simp [Fm.cells, rcell]
theorem rawF_len : ∀ f : Fm, (rawF f).length = f.size
  | .var _ => rfl
  | .fls => rfl
  | .and a b => by simp only [rawF, Fm.size, List.length_cons, List.length_append, rawF_len a, rawF_len b]; omega
  | .or a b => by simp only [rawF, Fm.size, List.length_cons, List.length_append, rawF_len a, rawF_len b]; omega
  | .imp a b => by simp only [rawF, Fm.size, List.length_cons, List.length_append, rawF_len a, rawF_len b]; omega
  | .box a => by simp only [rawF, Fm.size, List.length_cons, rawF_len a]; omega
  | .dia a => by simp only [rawF, Fm.size, List.length_cons, rawF_len a]; omega
theorem cellsN_len (N : List RN) : (cellsN N).length = N.length * 2 := by
  induction N with
  | nil => rfl
  | cons q N ih => rw [cellsN_cons, List.length_append, ih, List.length_cons]; show 2 + _ = _; omega
theorem cellsN_at : ∀ {N : List RN} {i : Nat} (h : i < N.length), (cellsN N)[i * 2 + 0]? = some (.int .i64 N[i].1) ∧ (cellsN N)[i * 2 + 1]? = some (.int .i64 N[i].2)
  | [], _, h => by simp at h
  | q :: N, 0, _ => ⟨rfl, rfl⟩
  | q :: N, i + 1, h => by
    have := cellsN_at (N := N) (i := i) (by simpa using h)
    have e : ∀ f, (cellsN (q :: N))[(i + 1) * 2 + f]? = (cellsN N)[i * 2 + f]? := fun f => by
      rw [cellsN_cons, List.getElem?_append_right (by simp [rcell]; omega)]
      congr 1
      simp [rcell]; omega
    rw [e, e]
    simpa using this
/-- A node that may stand in a formula. -/
def okN (q : RN) : Bool := decide (0 ≤ q.1 ∧ q.1 ≤ 6) && (decide (0 ≤ q.2 ∧ q.2 ≤ 5) && (decide (q.1 = 0) || decide (q.2 = 0)))
theorem okN_iff {q : RN} : okN q = true ↔ (0 ≤ q.1 ∧ q.1 ≤ 6) ∧ (0 ≤ q.2 ∧ q.2 ≤ 5) ∧ (q.1 = 0 ∨ q.2 = 0) := by
  unfold okN
  rw [Bool.and_eq_true, Bool.and_eq_true, Bool.or_eq_true, decide_eq_true_eq, decide_eq_true_eq, decide_eq_true_eq, decide_eq_true_eq]
def arZ (k : Int) : Nat := if k = 2 ∨ k = 3 ∨ k = 4 then 2 else if k = 5 ∨ k = 6 then 1 else 0
theorem arZ_nat (k : Nat) : arZ (k : Int) = arity k := by
  unfold arZ arity
  have h1 : ((k : Int) = 2 ∨ (k : Int) = 3 ∨ (k : Int) = 4) ↔ (k = 2 ∨ k = 3 ∨ k = 4) := by omega
  have h2 : ((k : Int) = 5 ∨ (k : Int) = 6) ↔ (k = 5 ∨ k = 6) := by omega
  by_cases c1 : k = 2 ∨ k = 3 ∨ k = 4
  · rw [if_pos (h1.2 c1), if_pos c1]
  · rw [if_neg (fun h => c1 (h1.1 h)), if_neg c1]
    by_cases c2 : k = 5 ∨ k = 6
    · rw [if_pos (h2.2 c2), if_pos c2]
    · rw [if_neg (fun h => c2 (h2.1 h)), if_neg c2]
/-- What is left behind so many formulas. -/
def goN : List RN → Nat → Option (List RN)
  | N, 0 => some N
  | [], _ + 1 => none
  | q :: N, o + 1 => goN N (o + arZ q.1)
theorem goN_zero (N : List RN) : goN N 0 = some N := by cases N <;> rfl
theorem goN_cons (q : RN) (N : List RN) (o : Nat) : goN (q :: N) (o + 1) = goN N (o + arZ q.1) := rfl
theorem goN_raw : ∀ (f : Fm) (R : List RN) (o : Nat), goN (rawF f ++ R) (o + 1) = goN R o
  | .var v, R, o => rfl
  | .fls, R, o => rfl
  | .and a b, R, o => by
    show goN (rawF a ++ rawF b ++ R) (o + 1 + 1) = _
    rw [List.append_assoc, goN_raw a, goN_raw b]
  | .or a b, R, o => by
    show goN (rawF a ++ rawF b ++ R) (o + 1 + 1) = _
    rw [List.append_assoc, goN_raw a, goN_raw b]
  | .imp a b, R, o => by
    show goN (rawF a ++ rawF b ++ R) (o + 1 + 1) = _
    rw [List.append_assoc, goN_raw a, goN_raw b]
  | .box a, R, o => by
    show goN (rawF a ++ R) (o + 1) = _
    rw [goN_raw a]
  | .dia a, R, o => by
    show goN (rawF a ++ R) (o + 1) = _
    rw [goN_raw a]
theorem goN_parse : ∀ (N : List RN) (o : Nat) (R : List RN), (∀ q ∈ N, okN q = true) → goN N o = some R → ∃ fs : List Fm, fs.length = o ∧ (∀ f ∈ fs, f.good) ∧ N = fs.flatMap rawF ++ R
  | N, 0, R, _, h => by
    rw [goN_zero] at h
    refine ⟨[], rfl, fun f hf => ?_, ?_⟩
    · cases hf
    · exact Option.some.inj h
  | [], o + 1, R, _, h => by cases h
  | q :: N, o + 1, R, hok, h => by
    rw [goN_cons] at h
    obtain ⟨fs, hl, hg, hN⟩ := goN_parse N (o + arZ q.1) R (fun x hx => hok x (List.mem_cons_of_mem _ hx)) h
    obtain ⟨k, s⟩ := q
    have hq := okN_iff.1 (hok _ List.mem_cons_self)
    obtain ⟨⟨k0, k6⟩, ⟨s0, s5⟩, hks⟩ := hq
    have k0 : 0 ≤ k := k0
    have k6 : k ≤ 6 := k6
    have s0 : 0 ≤ s := s0
    have s5 : s ≤ 5 := s5
    have hks : k = 0 ∨ s = 0 := hks
    have hl : fs.length = o + arZ k := hl
    have two : ∀ {c : Fm → Fm → Fm} {kk : Int}, k = kk → arZ k = 2 → s = 0 → (∀ a b, rawF (c a b) = (kk, 0) :: (rawF a ++ rawF b)) → (∀ a b, a.good → b.good → (c a b).good) → ∃ fs : List Fm, fs.length = o + 1 ∧ (∀ f ∈ fs, f.good) ∧ (k, s) :: N = fs.flatMap rawF ++ R := by
      intro c kk hk h2 hs hc hcg
      rw [h2] at hl
      match fs, hl, hg, hN with
      | a :: b :: fs, hl, hg, hN =>
        refine ⟨c a b :: fs, by simpa using hl, fun f hf => ?_, ?_⟩
        · rcases List.mem_cons.1 hf with rfl | hf
          · exact hcg _ _ (hg a (by simp)) (hg b (by simp))
          · exact hg f (by simp [hf])
        · rw [hN, hk, hs]; simp [hc]
    have one : ∀ {c : Fm → Fm} {kk : Int}, k = kk → arZ k = 1 → s = 0 → (∀ a, rawF (c a) = (kk, 0) :: rawF a) → (∀ a, a.good → (c a).good) → ∃ fs : List Fm, fs.length = o + 1 ∧ (∀ f ∈ fs, f.good) ∧ (k, s) :: N = fs.flatMap rawF ++ R := by
      intro c kk hk h2 hs hc hcg
      rw [h2] at hl
      match fs, hl, hg, hN with
      | a :: fs, hl, hg, hN =>
        refine ⟨c a :: fs, by simpa using hl, fun f hf => ?_, ?_⟩
        · rcases List.mem_cons.1 hf with rfl | hf
          · exact hcg _ (hg a (by simp))
          · exact hg f (by simp [hf])
        · rw [hN, hk, hs]; simp [hc]
    have nul : ∀ {c : Fm}, arZ k = 0 → rawF c = [(k, s)] → c.good → ∃ fs : List Fm, fs.length = o + 1 ∧ (∀ f ∈ fs, f.good) ∧ (k, s) :: N = fs.flatMap rawF ++ R := by
      intro c h2 hc hcg
      rw [h2] at hl
      refine ⟨c :: fs, by rw [List.length_cons]; omega, fun f hf => ?_, ?_⟩
      · rcases List.mem_cons.1 hf with rfl | hf
        · exact hcg
        · exact hg f hf
      · rw [hN, List.flatMap_cons, hc]; simp
    have hcase : k = 0 ∨ k = 1 ∨ k = 2 ∨ k = 3 ∨ k = 4 ∨ k = 5 ∨ k = 6 := by omega
    rcases hcase with h | h | h | h | h | h | h
    · refine nul (c := .var s.toNat) (by rw [h]; rfl) ?_ (show s.toNat < 6 by omega)
      rw [h]
      show [(0, ((s.toNat : Nat) : Int))] = _
      rw [Int.toNat_of_nonneg s0]
    · have hs : s = 0 := by omega
      exact nul (c := .fls) (by rw [h]; rfl) (by rw [h, hs]; rfl) trivial
    · exact two (c := .and) h (by rw [h]; rfl) (by omega) (fun _ _ => rfl) fun _ _ h1 h2 => ⟨h1, h2⟩
    · exact two (c := .or) h (by rw [h]; rfl) (by omega) (fun _ _ => rfl) fun _ _ h1 h2 => ⟨h1, h2⟩
    · exact two (c := .imp) h (by rw [h]; rfl) (by omega) (fun _ _ => rfl) fun _ _ h1 h2 => ⟨h1, h2⟩
    · exact one (c := .box) h (by rw [h]; rfl) (by omega) (fun _ => rfl) fun _ h1 => h1
    · exact one (c := .dia) h (by rw [h]; rfl) (by omega) (fun _ => rfl) fun _ h1 => h1
theorem rawF_ok : ∀ {f : Fm}, f.good → ∀ q ∈ rawF f, okN q = true
  | .var v, h, q, hq => by
    simp only [rawF, List.mem_singleton] at hq
    subst hq
    have h : v < 6 := h
    exact okN_iff.2 ⟨by simp, by simp; omega, .inl rfl⟩
  | .fls, _, q, hq => by simp only [rawF, List.mem_singleton] at hq; subst hq; rfl
  | .and a b, h, q, hq => by
    simp only [rawF, List.mem_cons, List.mem_append] at hq
    rcases hq with rfl | hq | hq
    · rfl
    · exact rawF_ok h.1 q hq
    · exact rawF_ok h.2 q hq
  | .or a b, h, q, hq => by
    simp only [rawF, List.mem_cons, List.mem_append] at hq
    rcases hq with rfl | hq | hq
    · rfl
    · exact rawF_ok h.1 q hq
    · exact rawF_ok h.2 q hq
  | .imp a b, h, q, hq => by
    simp only [rawF, List.mem_cons, List.mem_append] at hq
    rcases hq with rfl | hq | hq
    · rfl
    · exact rawF_ok h.1 q hq
    · exact rawF_ok h.2 q hq
  | .box a, h, q, hq => by
    simp only [rawF, List.mem_cons] at hq
    rcases hq with rfl | hq
    · rfl
    · exact rawF_ok (f := a) h q hq
  | .dia a, h, q, hq => by
    simp only [rawF, List.mem_cons] at hq
    rcases hq with rfl | hq
    · rfl
    · exact rawF_ok (f := a) h q hq
/-- A formula of any length; a formula. -/
def treeN (N : List RN) : Bool := N.all okN && decide (goN N 1 = some [])
def isN (N : List RN) : Bool := decide (N.length ≤ 40) && treeN N
theorem treeN_iff {N : List RN} : treeN N = true ↔ ∃ f : Fm, f.good ∧ N = rawF f := by
  unfold treeN
  rw [Bool.and_eq_true, decide_eq_true_eq, List.all_eq_true]
  constructor
  · rintro ⟨h1, h2⟩
    obtain ⟨fs, hl, hg, hN⟩ := goN_parse N 1 [] h1 h2
    match fs, hl, hg, hN with
    | [f], _, hg, hN => exact ⟨f, hg f (by simp), by simpa using hN⟩
  · rintro ⟨f, hg, rfl⟩
    refine ⟨rawF_ok hg, ?_⟩
    have := goN_raw f [] 0
    rw [List.append_nil] at this
    rw [this]; rfl
theorem isN_iff {N : List RN} : isN N = true ↔ ∃ f : Fm, f.good ∧ f.size ≤ 40 ∧ N = rawF f := by
  unfold isN
  rw [Bool.and_eq_true, decide_eq_true_eq, treeN_iff]
  constructor
  · rintro ⟨h, f, hg, rfl⟩
    exact ⟨f, hg, by rwa [rawF_len] at h, rfl⟩
  · rintro ⟨f, hg, h, rfl⟩
    exact ⟨by rwa [rawF_len], f, hg, rfl⟩
end Go.Vc

/- Contracts: drawn posets (l16Shuffle, l16Some, l16Rooted, l16Draw) and lists of them (l34Some). Conditions: none. -/
namespace Go.Vc
theorem rnb_rel {a o : List Nat} {n : Nat} (ho : o.length = n) : RelOk n (rnb a o) := by
  refine ⟨by simp [rnb, ho], fun x hx => ?_⟩
  obtain ⟨y, _, rfl⟩ := List.mem_map.1 hx
  rw [← ho]
  exact sqzK_lt o (a.getD y 0) o.length
end Go.Vc
namespace Go.Proofs.YtikfhibcdhdglaaGreat
open Go.Vc
theorem ok_spec_l16Shuffle {e : TypeId} (hne : t_i64 ≠ e) {w0 : World} {vc : Value} {bs : List Nat} (hc : SlB w0 vc bs) {b : Nat} {w : World} (hS : Vc.Src e w0 vc b w) (n : Nat) (hn : n ≤ 30) :
    Drw Tryz.prog f_spec_l16Shuffle #[.pointer (some ⟨b, 0, none⟩), .int .i64 (n : Int)] e w0 vc b w fun v w' => ∃ o : List Nat, o.length = n ∧ (∀ x ∈ o, x < n) ∧ Ow w.heap.size t_i64 w' v (ints (nats o)) := by
  apply c_spec_l16Shuffle; unfold S_spec_l16Shuffle
  refine iBs0 fun v0 w1 _ h1 ho => ?_
  refine iLp (fun s : Value × Nat => [s.1, .int .i64 (s.2 : Int)]) (fun s w' => s.2 ≤ n ∧ Ext w w' ∧ Ow w.heap.size t_i64 w' s.1 (ints (nats (List.range s.2)))) (fun s => n - s.2) (v0, 0) rfl ⟨Nat.zero_le _, h1, ho⟩ ?_
  rintro ⟨u, k⟩ w3 Kn ⟨hk, h3, ho3⟩ hKn
  have hk : k ≤ n := hk
  have ho3 : Ow w.heap.size t_i64 w3 u (ints (nats (List.range k))) := ho3
  (intro _; (try simp only [gx]); (with_reducible refine iLt ?_))
  refine iCndP (fun h4 => ?_) (fun h4 => ?_)
  · have hil : (ints (nats (List.range k))).length = k := by rw [ints_length, nats_length, List.length_range]
    refine iApp1 u_Si64 i_Si64 rfl ho3 rfl (by omega) (by omega) h3.size fun v' w5 ho' hg' => ?_
    rw [ints_snoc, ← List.range_succ] at ho'
    (refine iAdd (by omega) ?_)
    exact hKn (v', k + 1) _ ⟨by show k + 1 ≤ n; omega, h3.grown hg' (fun c hc => (ho3.blk c hc).1), ho'⟩ (by show n - (k + 1) < n - k; omega)
  · have ek : k = n := by omega
    subst ek
    (refine iSub (by omega) ?_)
    have hS3 := hS.later h3
    refine iLp (fun i : Int => [.int .i64 i]) (fun i w' => -1 ≤ i ∧ i < k ∧ Vc.Src e w0 vc b w' ∧ Ch (fun c => c = b) w w' ∧ ∃ o : List Nat, o.length = k ∧ (∀ x ∈ o, x < k) ∧ Ow w.heap.size t_i64 w' u (ints (nats o))) (fun i => (i + 1).toNat) ((k : Int) - 1) rfl ⟨by omega, by omega, hS3, h3.ch, List.range k, List.length_range, fun x hx => List.mem_range.1 hx, ho3⟩ ?_
    rintro i w7 Kn7 ⟨hi0, hi1, hS7, hC7, o, hol, hlt, ho7⟩ hKn7
    (intro _; (try simp only [gx]); (with_reducible refine iLt ?_))
    refine iCndP (fun h8 => ?_) (fun h8 => ⟨⟨o, hol, hlt, ho7⟩, hS7, hC7⟩)
    obtain ⟨m, rfl⟩ := Int.eq_ofNat_of_zero_le (show 0 ≤ i by omega)
    have hm : m < k := by omega
    have hil : ∀ p : List Nat, p.length = k → (ints (nats p)).length = k := fun p hp => by rw [ints_length, nats_length, hp]
    (refine iAdd (by omega) ?_)
    refine iCall ((ok_spec_l01Next hc hS7 ((m : Int) + 1)).mono ?_)
    rintro _ w8 ⟨⟨x, rfl, hx, _⟩, hS8, hch8⟩
    have hx := hx (by omega)
    have hxk : x < k := by omega
    have ho8 := ho7.ch hch8 (fun c hc h => hS7.neOw ho7 hne (by rw [hc, h]))
    have hs8 : SlN w8 u o := ho8.sl
    have hC8 := ch_self hC7 hch8
    have hgm : o.getD m 0 < k := by rw [getD_of_lt (by omega)]; exact hlt _ (List.getElem_mem (by omega))
    have hgx : o.getD x 0 < k := by rw [getD_of_lt (by omega)]; exact hlt _ (List.getElem_mem (by omega))
    refine iIaNN hs8 (by omega) fun p1 hp1 => ?_
    refine iLd hp1 ?_
    refine iIaNN hs8 (by omega) fun p2 hp2 => ?_
    refine iLd hp2 ?_
    have hoil := hil o hol
    refine iIaOwE ho8 (by omega) fun bu hbu hwr => ?_
    obtain ⟨hc1, hc2, hc3⟩ := hwr w8 _ rfl ho8
    rw [List.getElem?_eq_getElem (by omega)] at hc1
    refine iSt hc1 hc2 rfl ?_
    have ho9 := hc3 (.int .i64 ((o.getD x 0 : Nat) : Int))
    rw [← ints_nats_set] at ho9
    have hu9 := Upd.setCell w8 bu m (.int .i64 ((o.getD x 0 : Nat) : Int))
    have hbu1 := (ho8.blk bu hbu).1
    have hbub : b ≠ bu := fun e => hS8.neOw ho8 hne (by rw [hbu, e])
    have hlow := hS8.ext.size
    have hl2 : (o.set m (o.getD x 0)).length = k := by rw [List.length_set]; exact hol
    have hil2 := hil _ hl2
    refine iIaOwE ho9 (by omega) fun bu' hbu' hwr' => ?_
    have e : bu' = bu := by rw [hbu] at hbu'; injection hbu' with e; exact e.symm
    subst e
    obtain ⟨hd1, hd2, hd3⟩ := hwr' _ _ rfl ho9
    rw [List.getElem?_eq_getElem (by omega)] at hd1
    refine iSt hd1 hd2 rfl ?_
    have ho10 := hd3 (.int .i64 ((o.getD m 0 : Nat) : Int))
    rw [← ints_nats_set] at ho10
    have hu10 := Upd.setCell (w8.setCell ⟨bu', m, none⟩ (.int .i64 ((o.getD x 0 : Nat) : Int))) bu' x (.int .i64 ((o.getD m 0 : Nat) : Int))
    have hu := hu9.trans hu10
    have hwlo : w0.heap.size ≤ bu' := Nat.le_trans hS.ext.size hbu1
    (refine iSub (by omega) ?_)
    refine hKn7 ((m : Int) - 1) _ ⟨by omega, by omega, hS8.upd hu hbub hwlo, ch_new hC8 (hu.ch (S := fun c => c = bu') rfl) (fun c hc => by rw [hc]; exact hbu1) (Nat.le_refl _), _, by rw [List.length_set]; exact hl2, fun z hz => ?_, ho10⟩ (by omega)
    rcases List.mem_or_eq_of_mem_set hz with hz | hz
    · rcases List.mem_or_eq_of_mem_set hz with hz | hz
      · exact hlt z hz
      · rw [hz]; exact hgx
    · rw [hz]; exact hgm
theorem ok_spec_l16Some {e : TypeId} (hne : t_i64 ≠ e) {w0 : World} {vc : Value} {bs : List Nat} (hc : SlB w0 vc bs) {b : Nat} {w : World} (hS : Vc.Src e w0 vc b w) (size : Nat) (hw : size ≤ 30) :
    Drw Tryz.prog f_spec_l16Some #[.pointer (some ⟨b, 0, none⟩), .int .i64 (size : Int)] e w0 vc b w fun r w' => ∃ (n : Nat) (a : List Nat) (v : Value), r = .agg #[.int .i64 (n : Int), v] ∧ n ≤ size ∧ RelOk n a ∧ Ow w.heap.size t_i64 w' v (ints (nats a)) := by
  apply c_spec_l16Some; unfold S_spec_l16Some
  have hlow := hS.ext.size
  refine iNew fun b4 w1 hb4 h1 hB4 => ?_
  obtain ⟨e4, hne4, hB4⟩ : ∃ e', t_i64 ≠ e' ∧ Blk e' w1 b4 [.int .i64 0, .slice none 0 0] := ⟨_, by decide, hB4⟩
  have hbb4 : b4 ≠ b := by have := hS.lt; omega
  have hS1 := hS.later h1
  (refine iAdd (by omega) ?_)
  refine iCall ((ok_spec_l01Next hc hS1 ((size : Int) + 1)).mono ?_)
  rintro _ w2 ⟨⟨n, rfl, hnw, _⟩, hS2, hch2⟩
  have hnw := hnw (by omega)
  have hB2 := hB4.ch hch2 hbb4
  have hC2 := ch_self (h1.ch (S := fun c => c = b)) hch2
  refine iBs0 fun v17 w3 _ h3 ho3 => ?_
  have hS3 := hS2.later h3
  have hC3 := ch_ext hC2 h3
  have hB3 := hB2.ext h3
  have ho3 := ho3.mono (Nat.le_trans h1.size hch2.size)
  refine iCall ((ok_spec_l01Next hc hS3 3).mono ?_)
  rintro _ w4 ⟨⟨thin, rfl, hth, _⟩, hS4, hch4⟩
  have hth := hth (by omega)
  have hlo1 := h1.size
  have h62 : 2 ^ n ≤ 2 ^ 62 := Nat.pow_le_pow_right (by omega) (by omega)
  have hpos := Nat.two_pow_pos n
  -- the end: a copy, handed back
  have fin : ∀ (u : Value) (a : List Nat) (w' : World) (Q : Value → World → Prop), RelOk n a → Ow w.heap.size t_i64 w' u (ints (nats a)) → Vc.Src e w0 vc b w' → Ch (fun c => c = b) w w' → Blk e4 w' b4 [.int .i64 0, .slice none 0 0] →
      (∀ r w'', (∃ (n : Nat) (a : List Nat) (v : Value), r = .agg #[.int .i64 (n : Int), v] ∧ n ≤ size ∧ RelOk n a ∧ Ow w.heap.size t_i64 w'' v (ints (nats a))) ∧ Vc.Src e w0 vc b w'' ∧ Ch (fun c => c = b) w w'' → Q r w'') →
      callV Tryz.prog (.func (.func f_spec_l16Make) #[] #[]) [u] w' fun v w2 => xStA Tryz.prog w2 2 (.pointer (some ⟨b4, 0, none⟩)) v fun w3 => xLdA w3 2 (.pointer (some ⟨b4, 0, none⟩)) fun r => Q r w3 := by
    intro u a w' Q ha hu hSw hCw hBw hQ
    refine iCall ((ok_spec_l16Make hu.sl (by rw [ha.1]; omega)).mono ?_)
    rintro _ w5 ⟨h5, v', rfl, ho'⟩
    rw [ha.1]
    have hB5 := hBw.ext h5
    refine iStAB hB5 rfl rfl (ho'.pair _) fun w6 hu6 hB6 => ?_
    refine iLdA hB6 rfl ?_
    have hCs := hCw.size
    refine hQ _ _ ⟨⟨n, a, v', rfl, by omega, ha, (ho'.mono hCs).upd hu6 (fun e => by have := (ho'.blk b4 e).1; have := hBw.lt; omega)⟩, (hSw.later h5).upd hu6 (fun e => hbb4 e.symm) (by omega), ?_⟩
    exact (ch_ext hCw h5).trans (hu6.ch (S := fun c => c = b4) rfl) (fun c hc => .inr (by omega))
  refine iLp (fun s : Value × Nat => [s.1, .int .i64 (s.2 : Int)]) (fun s w' => s.2 ≤ n ∧ Vc.Src e w0 vc b w' ∧ Ch (fun c => c = b) w w' ∧ Blk e4 w' b4 [.int .i64 0, .slice none 0 0] ∧ ∃ l, l.length = s.2 ∧ (∀ x ∈ l, x < 2 ^ n) ∧ Ow w.heap.size t_i64 w' s.1 (ints (nats l))) (fun s => n - s.2) (v17, 0) rfl
    ⟨Nat.zero_le _, hS4, ch_self hC3 hch4, hB3.ch hch4 hbb4, [], rfl, fun x hx => by (cases hx), ho3.ch hch4 (fun c hc h => hS3.neOw ho3 hne (by rw [hc, h]))⟩ ?_
  rintro ⟨u, k⟩ w6 Kn ⟨hk, hS6, hC6, hB6, l, hl, hlt, ho6⟩ hKn
  have hk : k ≤ n := hk
  have hl : l.length = k := hl
  have ho6 : Ow w.heap.size t_i64 w6 u (ints (nats l)) := ho6
  (intro _; (try simp only [gx]); (with_reducible refine iLt ?_))
  refine iCndP (fun h7 => ?_) (fun h7 => ?_)
  · have hk1 : k < n := by omega
    refine iRet (ok_spec_l01Full n (by omega) w6) fun w7 h8 => ?_
    (refine iAdd (by omega) ?_)
    have hS7 := hS6.later h8
    refine iCall ((ok_spec_l01Next hc hS7 (((2 ^ n - 1 : Nat) : Int) + 1)).mono ?_)
    rintro _ w8 ⟨⟨x, rfl, hx, _⟩, hS8, hch8⟩
    have hx := hx (by omega)
    have hB7 := hB6.ext h8
    have ho7 := ho6.ext h8
    have ho8 := ho7.ch hch8 (fun c hc h => hS7.neOw ho7 hne (by rw [hc, h]))
    (refine iAdd (by omega) ?_)
    have e1 : (k : Int) + 1 = ((k + 1 : Nat) : Int) := by omega
    rw [e1]
    have h2k : 2 ^ (k + 1) ≤ 2 ^ 62 := Nat.pow_le_pow_right (by omega) (by omega)
    refine iRet (ok_spec_l01Full (k + 1) (by omega) w8) fun w9 h9 => ?_
    refine iBAndNot (by omega) (by omega) ?_
    have hx2 : sdiff x (2 ^ (k + 1) - 1) < 2 ^ n := sdiff_lt (by omega)
    have hS9 := hS8.later h9
    refine iLp (fun s : Nat × Nat => [.int .i64 (s.1 : Int), .int .i64 (s.2 : Int)]) (fun s w' => s.2 ≤ thin ∧ s.1 < 2 ^ n ∧ Vc.Src e w0 vc b w' ∧ Ch (fun c => c = b) w w' ∧ Blk e4 w' b4 [.int .i64 0, .slice none 0 0] ∧ Ow w.heap.size t_i64 w' u (ints (nats l))) (fun s => thin - s.2) (sdiff x (2 ^ (k + 1) - 1), 0) rfl
      ⟨Nat.zero_le _, hx2, hS9, ch_ext (ch_self (ch_ext hC6 h8) hch8) h9, (hB7.ch hch8 hbb4).ext h9, ho8.ext h9⟩ ?_
    rintro ⟨m, j⟩ wA KnA ⟨hj, hm, hSA, hCA, hBA, hoA⟩ hKnA
    have hj : j ≤ thin := hj
    have hm : m < 2 ^ n := hm
    (intro _; (try simp only [gx]); (with_reducible refine iLt ?_))
    refine iCndP (fun h9 => ?_) (fun h9 => ?_)
    · refine iRet (ok_spec_l01Full n (by omega) wA) fun wB hB => ?_
      (refine iAdd (by omega) ?_)
      have hSB := hSA.later hB
      have hoB := hoA.ext hB
      refine iCall ((ok_spec_l01Next hc hSB (((2 ^ n - 1 : Nat) : Int) + 1)).mono ?_)
      rintro _ wC ⟨⟨y, rfl, hy, _⟩, hSC, hchC⟩
      have hy := hy (by omega)
      refine iBAnd (by omega) (by omega) ?_
      (refine iAdd (by omega) ?_)
      exact hKnA (m &&& y, j + 1) _ ⟨by show j + 1 ≤ thin; omega, Nat.lt_of_le_of_lt Nat.and_le_left hm, hSC, ch_self (ch_ext hCA hB) hchC, (hBA.ext hB).ch hchC hbb4, hoB.ch hchC (fun c hc h => hSB.neOw hoB hne (by rw [hc, h]))⟩ (by show thin - (j + 1) < thin - j; omega)
    · have hil : (ints (nats l)).length = k := by rw [ints_length, nats_length, hl]
      have hCAs := hCA.size
      refine iApp1A u_Si64 i_Si64 rfl hoA rfl (by omega) (by omega) hCAs fun v' wD ho' hg' _ => ?_
      rw [ints_snoc] at ho'
      have hgc := grown_ch (S := fun c => u.ownBlock = some c) hg' (fun k hk => hk)
      (refine iAdd (by omega) ?_)
      refine hKn (v', k + 1) _ ⟨by show k + 1 ≤ n; omega, hSA.ch hgc (hSA.neOw hoA hne) (fun c hc => by have := (hoA.blk c hc).1; omega), ch_new hCA hgc (fun c hc => (hoA.blk c hc).1) (Nat.le_refl _), hBA.grown hg' (hoA.ne_blk hBA hne4), _, by rw [List.length_append, hl]; rfl, fun z hz => ?_, ho'⟩ (by show n - (k + 1) < n - k; omega)
      rcases List.mem_append.1 hz with hz | hz
      · exact hlt z hz
      · simp at hz; subst hz; exact hm
  · have ek : k = n := by omega
    have hrel : RelOk n l := ⟨by omega, hlt⟩
    refine iCall ((ok_spec_l01Reflexive (by omega) hrel ho6.sl).mono ?_)
    rintro u1 wA ⟨hA, a1, hr1, ho1⟩
    refine iCall ((ok_spec_l01Closure (by omega) hr1 ho1.sl).mono ?_)
    rintro u2 wB ⟨hB, a2, hr2, ho2⟩
    have hXB := hA.trans hB
    have hSB := hS6.later hXB
    have hCB := ch_ext hC6 hXB
    have hBB := hB6.ext hXB
    have ho2 := ho2.mono (Nat.le_trans hC6.size hA.size)
    refine iCall ((ok_spec_l01Next hc hSB 2).mono ?_)
    rintro _ wC ⟨⟨q, rfl, _, _⟩, hSC, hchC⟩
    have hCC := ch_self hCB hchC
    have hBC := hBB.ch hchC hbb4
    have hoC := ho2.ch hchC (fun c hc h => hSB.neOw ho2 hne (by rw [hc, h]))
    ((with_reducible refine iEq ?_))
    refine iCndP (fun h0 => ?_) (fun h0 => ?_)
    · exact fin u2 a2 wC _ hr2 hoC hSC hCC hBC (fun r w'' h => h)
    · refine iCall ((ok_spec_l16Shuffle hne hc hSC n (by omega)).mono ?_)
      rintro vo wD ⟨⟨o, hol, holt, hoo⟩, hSD, hchD⟩
      have hCD := ch_self hCC hchD
      have hBD := hBC.ch hchD hbb4
      have hoD := hoC.ch hchD (fun c hc h => hSC.neOw hoC hne (by rw [hc, h]))
      have hs2 : SlN wD u2 a2 := hoD.sl
      have hso : SlN wD vo o := hoo.sl
      refine iCall ((ok_spec_l05Renumber hs2 hso (by omega) (fun x hx => ⟨by rw [hr2.1]; exact holt x hx, by have := holt x hx; omega⟩) (fun x hx => Nat.lt_of_lt_of_le (hr2.2 x hx) h62)).mono ?_)
      rintro u3 wE ⟨hE, ho3'⟩
      exact fin u3 (rnb a2 o) wE _ (rnb_rel hol) (ho3'.mono hCD.size) (hSD.later hE) (ch_ext hCD hE) (hBD.ext hE) (fun r w'' h => h)
theorem ok_spec_l16JoinT {n : Nat} {a : List Nat} (hn : n ≤ 8) (ha : RelOk n a) {v u : Value} {w : World} (hs : SlN w v [1]) (ht : SlN w u a) : Cal Tryz.prog f_spec_l16Join #[.agg #[.int .i64 ((1 : Nat) : Int), v], .agg #[.int .i64 (n : Int), u], .bool true] w fun r w' => Ext w w' ∧ ∃ (l : List Nat) (v' : Value), RelOk (n + 1) l ∧ r = .agg #[.int .i64 ((n + 1 : Nat) : Int), v'] ∧ Ow w.heap.size t_i64 w' v' (ints (nats l)) := by
  apply c_spec_l16Join; unfold S_spec_l16Join
  have hal := ha.1
  have h28 : 2 ^ n ≤ 2 ^ 8 := Nat.pow_le_pow_right (by omega) hn
  have hpos := Nat.two_pow_pos n
  have hsucc : 2 ^ (n + 1) = 2 * 2 ^ n := by rw [Nat.pow_succ]; omega
  refine iNew fun b1 w1 hb1 h1 hB1 => ?_
  refine iNew fun b2 w2 hb2 h2 hB2 => ?_
  refine iNew fun b3 w3 hb3 h3 hB3 => ?_
  have hX3 := h1.trans (h2.trans h3)
  have hB1 : Blk _ w3 b1 [.int .i64 ((1 : Nat) : Int), v] := (hB1.ext h2).ext h3
  have hB2 : Blk _ w3 b2 [.int .i64 (n : Int), u] := hB2.ext h3
  refine iBs0 fun vo w4 _ h4 ho => ?_
  have hgo : ∀ y : Nat, y < 2 ^ n → y <<< 1 < 2 ^ (n + 1) := fun y hy => by rw [Nat.shiftLeft_eq]; omega
  refine iLp (fun s : Value × Nat => [s.1, .int .i64 (s.2 : Int)]) (fun s w' => s.2 ≤ 1 ∧ Ext w3 w' ∧ ∃ l : List Nat, l.length = s.2 ∧ (∀ x ∈ l, x < 2 ^ (n + 1)) ∧ Ow w3.heap.size t_i64 w' s.1 (ints (nats l))) (fun s => 1 - s.2) (vo, 0) rfl ⟨Nat.zero_le _, h4, [], rfl, fun x hx => by (cases hx), ho⟩ ?_
  rintro ⟨vo, k⟩ w6 Kn ⟨hk, h6, l, hl, hlt, ho6⟩ hKn
  have hk : k ≤ 1 := hk
  have hl : l.length = k := hl
  have ho6 : Ow w3.heap.size t_i64 w6 vo (ints (nats l)) := ho6
  have hB16 := hB1.ext h6
  have hB26 := hB2.ext h6
  have hs6 := hs.ext (hX3.trans h6)
  (intro _; (try simp only [gx]); (with_reducible refine iFa ?_); refine iLdB (by assumption) (by first | rfl | simp) ?_; (with_reducible refine iLenN (by assumption) ?_; refine iLt ?_))
  refine iCndP (fun h7 => ?_) (fun h7 => ?_)
  · have hk0 : k = 0 := by simp at h7; omega
    subst hk0
    refine iFa ?_
    refine iLdB hB16 (by first | rfl | simp) ?_
    refine iIaNN hs6 (j := 0) (by simp) fun p hp => ?_
    refine iLd hp ?_
    refine iJn ?_
    refine iCndT rfl ?_
    refine iFa ?_
    refine iLdB hB26 (by first | rfl | simp) ?_
    refine iRetQ (fun w' _ => ok_spec_l01Full n (by omega) w') ?_
    refine iFa ?_
    refine iLdB hB16 (by first | rfl | simp) ?_
    refine iConvU (by omega) ?_
    refine iShlN (a := 2 ^ n - 1) (k := 1) (by omega) (by omega) ?_
    have h2n : (2 ^ n - 1) <<< 1 < 2 ^ (n + 1) := hgo _ (by omega)
    have h29 : 2 ^ (n + 1) ≤ 2 ^ 9 := Nat.pow_le_pow_right (by omega) (by omega)
    refine iBOr (a := ([1] : List Nat).getD 0 0) (b := (2 ^ n - 1) <<< 1) (by show (1 : Nat) < 2 ^ 63; omega) (by omega) ?_
    intro w9 h9
    (intro _; (try simp only [gx]))
    have hm : ([1] : List Nat).getD 0 0 ||| (2 ^ n - 1) <<< 1 < 2 ^ (n + 1) := Nat.or_lt_two_pow (by show (1 : Nat) < _; omega) h2n
    have ho9 := ho6.ext h9
    have hil : (ints (nats l)).length = 0 := by rw [ints_length, nats_length, hl]
    refine iApp1 u_Si64 i_Si64 rfl ho9 rfl (by omega) (by omega) (h6.trans h9).size fun v' wB ho' hg' => ?_
    rw [ints_snoc] at ho'
    (refine iAdd (by omega) ?_)
    refine hKn (v', 1) _ ⟨Nat.le_refl _, (h6.trans h9).grown hg' (fun c hc => (ho9.blk c hc).1), _, by rw [List.length_append, hl]; rfl, fun x hx => ?_, ho'⟩ (by show 1 - 1 < 1 - 0; omega)
    rcases List.mem_append.1 hx with hx | hx
    · exact hlt x hx
    · simp only [List.mem_singleton] at hx; subst hx; exact hm
  · have hk1 : k = 1 := by simp at h7; omega
    subst hk1
    refine iLp (fun s : Value × Nat => [s.1, .int .i64 (s.2 : Int)]) (fun s w' => s.2 ≤ n ∧ Ext w3 w' ∧ ∃ l : List Nat, l.length = 1 + s.2 ∧ (∀ x ∈ l, x < 2 ^ (n + 1)) ∧ Ow w3.heap.size t_i64 w' s.1 (ints (nats l))) (fun s => n - s.2) (vo, 0) rfl ⟨Nat.zero_le _, h6, l, hl, hlt, ho6⟩ ?_
    rintro ⟨vo', k⟩ w13 Kn' ⟨hk, h13, l', hl', hlt', ho13⟩ hKn'
    have hk : k ≤ n := hk
    have hl' : l'.length = 1 + k := hl'
    have ho13 : Ow w3.heap.size t_i64 w13 vo' (ints (nats l')) := ho13
    have hB113 := hB1.ext h13
    have hB213 := hB2.ext h13
    have ht13 := ht.ext (hX3.trans h13)
    (intro _; (try simp only [gx]); (with_reducible refine iFa ?_); refine iLdB (by assumption) (by first | rfl | simp) ?_; (with_reducible refine iLenN (by assumption) ?_; refine iLt ?_))
    refine iCndP (fun h8 => ?_) (fun h8 => ?_)
    · have hk1 : k < n := by omega
      have hgk : a.getD k 0 < 2 ^ n := ha.get (by omega) k
      ((with_reducible refine iFa ?_); refine iLdB (by assumption) (by first | rfl | simp) ?_; (with_reducible refine iIaNN (by assumption) ?_ (fun pa_ hpa_ => ?_)); omega; (with_reducible refine iLd (by assumption) ?_; refine iFa ?_); refine iLdB (by assumption) (by first | rfl | simp) ?_)
      refine iConvU (by omega) ?_
      refine iShlN (k := 1) (by omega) (by omega) ?_
      intro w14 hA
      refine iBs1 rfl rfl fun bb w15 hbb hC hBb => ?_
      (try refine ⟨hC, ?_⟩)
      intro w16 hD
      have hX16 := h13.trans (hA.trans (hC.trans hD))
      have ho16 := ((ho13.ext hA).ext hC).ext hD
      have hil : (ints (nats l')).length = 1 + k := by rw [ints_length, nats_length, hl']
      refine iApp u_Si64 i_Si64 rfl ho16 (Sl.ofBlk (hBb.ext hD) rfl (by omega)) (fun x hx => by simp at hx; subst hx; rfl) (by simp only [List.length_singleton]; omega) (by simp only [List.length_singleton]; omega) hX16.size fun v' wB ho' hg' => ?_
      rw [ints_snoc] at ho'
      intro w18 hE
      (refine iAdd (by omega) ?_)
      refine hKn' (v', k + 1) _ ⟨by show k + 1 ≤ n; omega, (hX16.grown hg' (fun c hc => (ho16.blk c hc).1)).trans hE, _, by rw [List.length_append, hl']; rfl, fun x hx => ?_, ho'.ext hE⟩ (by show n - (k + 1) < n - k; omega)
      rcases List.mem_append.1 hx with hx | hx
      · exact hlt' x hx
      · simp only [List.mem_singleton] at hx; subst hx; exact hgo _ hgk
    · have hk2 : k = n := by omega
      subst hk2
      have hsl : SlN w13 vo' l' := ho13.sl
      refine iCall ((ok_spec_l16Make hsl (by omega)).mono ?_)
      rintro _ w19 ⟨h19, v', rfl, ho'⟩
      rw [hl', Nat.add_comm]
      have hB3 := (hB3.ext h13).ext h19
      have hX19 := hX3.trans (h13.trans h19)
      have hXs := (hX3.trans h13).size
      have hne : v'.ownBlock ≠ some b3 := fun e => by
        have := (ho'.blk b3 e).1
        have h3s := h3.size
        have h13s := h13.size
        omega
      have hsz := (h1.trans h2).size
      refine iStAB hB3 rfl rfl (ho'.pair _) fun w20 hu hB20 => ?_
      refine iLdA hB20 rfl ?_
      exact ⟨hX19.upd hu (by omega), l', _, ⟨by omega, hlt'⟩, rfl, (ho'.mono hXs).upd hu hne⟩
end Go.Proofs.YtikfhibcdhdglaaGreat

/- Contracts: drawn posets (l16Rooted, l16Draw) and lists of them (l34Some, DrawGreatestLogics). Conditions: none. -/
namespace Go.Vc
theorem OwK.ne_ow {k lo lo' : Nat} {e e' : TypeId} {w : World} {v v' : Value} {n : Nat} {xs xs' : List Value} {c : Nat} (h : OwK k lo e w v n xs) (h' : Ow lo' e' w v' xs') (hne : e ≠ e') (hc : v.ownBlock = some c) : v'.ownBlock ≠ some c := by
  intro hc'
  obtain ⟨cur, h1⟩ := h.ty hc
  obtain ⟨cur', h2⟩ := h'.ty hc'
  rw [h1] at h2
  injection h2 with hb
  injection hb with _ hb _
  exact hne hb
end Go.Vc
namespace Go.Proofs.YtikfhibcdhdglaaGreat
open Go.Vc
theorem ok_spec_l16Rooted {e : TypeId} (hne : t_i64 ≠ e) {w0 : World} {vc : Value} {bs : List Nat} (hc : SlB w0 vc bs) {b : Nat} {w : World} (hS : Vc.Src e w0 vc b w) (size : Nat) (hw : size ≤ 8) :
    Drw Tryz.prog f_spec_l16Rooted #[.pointer (some ⟨b, 0, none⟩), .int .i64 ((size + 1 : Nat) : Int)] e w0 vc b w fun r w' => ∃ (n : Nat) (a : List Nat) (v : Value), r = .agg #[.int .i64 (n : Int), v] ∧ n ≤ size + 1 ∧ RelOk n a ∧ Ow w.heap.size t_i64 w' v (ints (nats a)) := by
  apply c_spec_l16Rooted; unfold S_spec_l16Rooted
  have hlow := hS.ext.size
  refine iNew fun b4 w1 hb4 h1 hB4 => ?_
  obtain ⟨e4, hne4, hB4⟩ : ∃ e', t_i64 ≠ e' ∧ Blk e' w1 b4 [.int .i64 0, .slice none 0 0] := ⟨_, by decide, hB4⟩
  have hbb4 : b4 ≠ b := by have := hS.lt; omega
  refine iBs1 rfl rfl fun bb w2 hbb h2 hBb => ?_
  have hsb : SlN w2 (.slice (some ⟨bb, 0, none⟩) 1 1) [1] := Sl.ofBlk hBb rfl (by omega)
  refine iCall ((ok_spec_l16Make hsb (by simp)).mono ?_)
  rintro _ w3 ⟨h3, vp, rfl, hop⟩
  have hX3 := h1.trans (h2.trans h3)
  have hS3 := hS.later hX3
  (refine iSub (by omega) ?_)
  have e1 : ((size + 1 : Nat) : Int) - 1 = (size : Int) := by omega
  rw [e1]
  refine iCall ((ok_spec_l16Some hne hc hS3 size (by omega)).mono ?_)
  rintro _ w4 ⟨⟨n, a, v, rfl, hn, ha, hov⟩, hS4, hch4⟩
  have hop4 := hop.ch hch4 (fun c hc h => hS3.neOw hop hne (by rw [hc, h]))
  refine iCall ((ok_spec_l16JoinT (by omega) ha hop4.sl hov.sl).mono ?_)
  rintro _ w5 ⟨h5, l, v', hl, rfl, hov'⟩
  have hB5 := (((hB4.ext h2).ext h3).ch hch4 hbb4).ext h5
  have hC4 : Ch (fun c => c = b) w w4 := ch_self hX3.ch hch4
  have hC5 := ch_ext hC4 h5
  refine iStAB hB5 rfl rfl (hov'.pair _) fun w6 hu hB6 => ?_
  refine iLdA hB6 rfl ?_
  have hlo' := hov'.mono hC4.size
  refine ⟨⟨n + 1, l, v', rfl, by omega, hl, hlo'.upd hu (hlo'.ne_blk hB5 hne4)⟩, (hS4.later h5).upd hu (fun e => hbb4 e.symm) (by omega), hC5.trans (hu.ch (S := fun c => c = b4) rfl) (fun c hc => .inr (by omega))⟩
theorem ok_spec_l16Draw {e : TypeId} (hne : t_i64 ≠ e) {w0 : World} {vc : Value} {bs : List Nat} (hc : SlB w0 vc bs) {b : Nat} {w : World} (hS : Vc.Src e w0 vc b w) (size : Nat) (hw : size ≤ 8) :
    Drw Tryz.prog f_spec_l16Draw #[.pointer (some ⟨b, 0, none⟩), .int .i64 ((size + 1 : Nat) : Int)] e w0 vc b w fun r w' => ∃ (n : Int) (l : List Int) (v : Value), r = .agg #[.int .i64 n, v] ∧ l.length ≤ size + 2 ∧ Ow w.heap.size t_i64 w' v (ints l) := by
  apply c_spec_l16Draw; unfold S_spec_l16Draw
  have hlow := hS.ext.size
  refine iNew fun b4 w1 hb4 h1 hB4 => ?_
  obtain ⟨e4, hne4, hB4⟩ : ∃ e', t_i64 ≠ e' ∧ Blk e' w1 b4 [.int .i64 0, .slice none 0 0] := ⟨_, by decide, hB4⟩
  have hbb4 : b4 ≠ b := by have := hS.lt; omega
  have hS1 := hS.later h1
  refine iCall ((ok_spec_l16Some hne hc hS1 (size + 1) (by omega)).mono ?_)
  rintro _ w2 ⟨⟨n, a, v, rfl, hnw, ha, ho2⟩, hS2, hch2⟩
  have hB2 := hB4.ch hch2 hbb4
  have hC2 := ch_self (h1.ch (S := fun c => c = b)) hch2
  have hs1 := h1.size
  have ho2 := ho2.mono hs1
  refine iNew fun b5 w3 hb5 h3 hB5 => ?_
  have hC2s := hC2.size
  have hS3 := hS2.later h3
  have hbb5 : b5 ≠ b := by have := hS2.lt; omega
  have hb45 : b4 ≠ b5 := by have := hB2.lt; omega
  have hB3 := hB2.ext h3
  have ho3 := ho2.ext h3
  refine iStAB hB5 rfl rfl (ho3.pair _) fun w4 hu hB5' => ?_
  obtain ⟨e5, hne5, hB5⟩ : ∃ e', t_i64 ≠ e' ∧ Blk e' w4 b5 [.int .i64 (n : Int), v] := ⟨_, by decide, hB5'⟩
  have hS4 := hS3.upd hu (fun e => hbb5 e.symm) (by omega)
  have hC4 : Ch (fun c => c = b) w w4 := (ch_ext hC2 h3).trans (hu.ch (S := fun c => c = b5) rfl) (fun c hc => .inr (by omega))
  have hB4' := hB3.upd hu hb45
  have ho4 := ho3.upd hu (fun e => by have := (ho2.blk b5 e).2; omega)
  refine iCall ((ok_spec_l01Next hc hS4 3).mono ?_)
  rintro _ w5 ⟨⟨q0, rfl, _, _⟩, hS5, hch5⟩
  have hC5 := ch_self hC4 hch5
  have hB45 := hB4'.ch hch5 hbb4
  have hB55 := hB5.ch hch5 hbb5
  have ho5 := ho4.ch hch5 (fun c hc h => hS4.neOw ho4 hne (by rw [hc, h]))
  -- the end
  have fin : ∀ (m : Int) (l : List Int) (u : Value) (w' : World) (Q : Value → World → Prop), l.length ≤ size + 2 → Ow w.heap.size t_i64 w' u (ints l) → Vc.Src e w0 vc b w' → Ch (fun c => c = b) w w' → Blk e4 w' b4 [.int .i64 0, .slice none 0 0] → Blk e5 w' b5 [.int .i64 m, u] →
      (∀ r w'', (∃ (n : Int) (l : List Int) (v : Value), r = .agg #[.int .i64 n, v] ∧ l.length ≤ size + 2 ∧ Ow w.heap.size t_i64 w'' v (ints l)) ∧ Vc.Src e w0 vc b w'' ∧ Ch (fun c => c = b) w w'' → Q r w'') →
      xLdA w' 2 (.pointer (some ⟨b5, 0, none⟩)) fun v47 => xStA Tryz.prog w' 2 (.pointer (some ⟨b4, 0, none⟩)) v47 fun w9 => xLdA w9 2 (.pointer (some ⟨b4, 0, none⟩)) fun r => Q r w9 := by
    intro m l u w' Q hl hu hSw hCw hB4w hB5w hQ
    refine iLdA hB5w rfl ?_
    refine iStAB hB4w rfl rfl (hu.pair _) fun w6 hu6 hB6 => ?_
    refine iLdA hB6 rfl ?_
    exact hQ _ _ ⟨⟨m, l, u, rfl, hl, hu.upd hu6 (hu.ne_blk hB4w hne4)⟩, hSw.upd hu6 (fun e => hbb4 e.symm) (by omega), hCw.trans (hu6.ch (S := fun c => c = b4) rfl) (fun c hc => .inr (by omega))⟩
  -- the first choice
  ((with_reducible refine iEq ?_))
  refine iJnX (fun xs wq => xs = [] ∧ ∃ (n : Nat) (a : List Nat) (v : Value), n ≤ size + 1 ∧ RelOk n a ∧ Ow w.heap.size t_i64 wq v (ints (nats a)) ∧ Vc.Src e w0 vc b wq ∧ Ch (fun c => c = b) w wq ∧ Blk e4 wq b4 [.int .i64 0, .slice none 0 0] ∧ Blk e5 wq b5 [.int .i64 (n : Int), v]) (fun J hJ => ?_) ?_
  · refine iCndP (fun h3' => ?_) (fun h3' => ?_)
    · refine iCall ((ok_spec_l16Rooted hne hc hS5 size hw).mono ?_)
      rintro _ w8 ⟨⟨n', a', v', rfl, hn', ha', ho8⟩, hS8, hch8⟩
      have hB48 := hB45.ch hch8 hbb4
      have hB58 := hB55.ch hch8 hbb5
      have hC8 := ch_self hC5 hch8
      have ho8 := ho8.mono hC5.size
      refine iStAB hB58 rfl rfl (ho8.pair _) fun w9 hu9 hB59 => ?_
      exact hJ [] w9 ⟨rfl, n', a', v', hn', ha', ho8.upd hu9 (ho8.ne_blk hB58 hne5), hS8.upd hu9 (fun e => hbb5 e.symm) (by omega), hC8.trans (hu9.ch (S := fun c => c = b5) rfl) (fun c hc => .inr (by omega)), hB48.upd hu9 hb45, hB59⟩
    · exact hJ [] w5 ⟨rfl, n, a, v, hnw, ha, ho5, hS5, hC5, hB45, hB55⟩
  clear ho2 ho3 ho4 ho5 hnw ha hB5 hB5' hB55 hu
  rintro _ wq ⟨rfl, n, a, v, hnw, ha, hoq, hSq, hCq, hB4q, hB5q⟩
  intro _
  have hal : (nats a).length = n := by rw [nats_length, ha.1]
  refine iCall ((ok_spec_l01Next hc hSq 40).mono ?_)
  rintro _ w5 ⟨⟨q, rfl, _, _⟩, hS5, hch5⟩
  have hC5 := ch_self hCq hch5
  have hB45 := hB4q.ch hch5 hbb4
  have hB55 := hB5q.ch hch5 hbb5
  have ho5 := hoq.ch hch5 (fun c hc h => hSq.neOw hoq hne (by rw [hc, h]))
  ((with_reducible refine iEq ?_))
  refine iCndP (fun h0 => ?_) (fun h0 => ?_)
  · ((with_reducible refine iFa ?_); refine iLdB (by assumption) (by first | rfl | simp) ?_; refine iAdd (by omega) ?_)
    refine iBs3 rfl rfl rfl rfl fun c w6 hc6 h6 hB6 => ?_
    have hS6 := hS5.later h6
    have hcb : c ≠ b := by have := hS5.lt; omega
    refine iCall ((ok_spec_l01Pick hc hS6 (l := [-1, 9, (n : Int) + 1]) rfl hB6 hcb (by simp) (by simp)).mono ?_)
    rintro _ w7 ⟨⟨x, rfl, _⟩, hS7, hch7⟩
    have hB57 := (hB55.ext h6).ch hch7 hbb5
    have hB47 := (hB45.ext h6).ch hch7 hbb4
    have ho6 := ho5.ext h6
    have ho7 := ho6.ch hch7 (fun c hc h => hS6.neOw ho6 hne (by rw [hc, h]))
    ((with_reducible refine iFa ?_))
    refine iStB hB57 (by simp) rfl fun hB58 => ?_
    have hu8 := Upd.setCell w7 b5 0 (.int .i64 x)
    exact fin x (nats a) v _ _ (by omega) (ho7.upd hu8 (ho7.ne_blk hB57 hne5)) (hS7.upd hu8 (fun e => hbb5 e.symm) (by omega)) ((ch_self (ch_ext hC5 h6) hch7).trans (hu8.ch (S := fun c => c = b5) rfl) (fun c hc => .inr (by omega))) (hB47.upd hu8 hb45) hB58 (fun r w'' h => h)
  ((with_reducible refine iEq ?_))
  refine iCndP (fun h1' => ?_) (fun h1' => ?_)
  · ((with_reducible refine iFa ?_); refine iLdB (by assumption) (by first | rfl | simp) ?_)
    refine iCall ((ok_spec_l01Own ho5.sl (by omega)).mono ?_)
    rintro u w11 ⟨h11, hou⟩
    have hC5s := hC5.size
    have hil : (ints (nats a)).length = n := by rw [ints_length, hal]
    refine iApp1A u_Si64 i_Si64 rfl hou rfl (by omega) (by omega) h11.size fun v' w13 ho' hg' _ => ?_
    have hX13 : Ext w5 w13 := h11.grown hg' (fun c hc => (hou.blk c hc).1)
    have hB513 := hB55.ext hX13
    ((with_reducible refine iFa ?_))
    refine iStB hB513 (by simp) ho'.cell fun hB514 => ?_
    have hu14 := Upd.setCell w13 b5 1 v'
    have e1 : ints (nats a) ++ [.int .i64 0] = ints (nats a ++ [0]) := by simp [ints]
    rw [e1] at ho'
    have ho13 := ho'.mono hC5s
    exact fin (n : Int) (nats a ++ [0]) v' _ _ (by rw [List.length_append, hal]; simp; omega) (ho13.upd hu14 (ho13.ne_blk hB513 hne5)) ((hS5.later hX13).upd hu14 (fun e => hbb5 e.symm) (by omega)) ((ch_ext hC5 hX13).trans (hu14.ch (S := fun c => c = b5) rfl) (fun c hc => .inr (by omega))) ((hB45.ext hX13).upd hu14 hb45) hB514 (fun r w'' h => h)
  ((with_reducible refine iEq ?_))
  refine iCndP (fun h2' => ?_) (fun h2' => ?_)
  · ((with_reducible refine iFa ?_); refine iLdB (by assumption) (by first | rfl | simp) ?_; (with_reducible refine iLt ?_))
    refine iCndP (fun hn0 => ?_) (fun hn0 => ?_)
    · have hst : ∀ (w' : World) (i : Nat) (x : Value), [Value.int .i64 (n : Int), v][i]? = some x → Ch (fun c => c = b) w5 w' → xLd w' (.pointer (some ⟨b5, i, none⟩)) fun u => u = x := fun w' i x hx hc' => iLdB (hB55.ch hc' hbb5) hx rfl
      refine ⟨fun c => c = b, ?_⟩
      ((with_reducible refine iFa ?_); refine iLdB (by assumption) (by first | rfl | simp) ?_)
      refine ⟨fun w' h => hst w' 1 _ rfl h, ?_⟩
      ((with_reducible refine iFa ?_); refine iLdB (by assumption) (by first | rfl | simp) ?_)
      refine ⟨fun w' h => hst w' 0 _ rfl h, ?_⟩
      ((with_reducible refine iFa ?_); refine iLdB (by assumption) (by first | rfl | simp) ?_)
      refine ⟨fun w' h => hst w' 0 _ rfl h, ?_⟩
      intro w21 h21
      have hS21 := hS5.later h21
      refine iCall ((ok_spec_l01Next hc hS21 (n : Int)).mono ?_)
      rintro _ w22 ⟨⟨x, rfl, hx, _⟩, hS22, hch22⟩
      have hx := hx (by omega)
      refine ⟨hch22, ?_⟩
      refine ⟨_, fun w' _ => iRet (ok_spec_l01Full n (by omega) w') fun w'' h => ⟨rfl, h⟩, ?_⟩
      have h62 : 2 ^ n ≤ 2 ^ 62 := Nat.pow_le_pow_right (by omega) (by omega)
      (refine iAdd (by omega) ?_)
      intro w23 h23
      have hS23 := hS22.later h23
      refine iCall ((ok_spec_l01Next hc hS23 (((2 ^ n - 1 : Nat) : Int) + 2)).mono ?_)
      rintro _ w26 ⟨⟨y, rfl, hy, _⟩, hS26, hch26⟩
      have hy := hy (by omega)
      refine ⟨hch26, ?_⟩
      (refine iSub (by omega) ?_)
      have hch526 : Ch (fun c => c = b) w5 w26 := ch_self (ch_ext (ch_self (h21.ch) hch22) h23) hch26
      have ho26 := ho5.ch hch526 (fun c hc h => hS5.neOw ho5 hne (by rw [hc, h]))
      have hil : (ints (nats a)).length = n := by rw [ints_length, hal]
      refine iIaOwE ho26 (by omega) fun bu hbu hwr => ?_
      intro w27 h27
      have ho27 := ho26.ext h27
      obtain ⟨hc1, hc2, hc3⟩ := hwr w27 _ rfl ho27
      rw [List.getElem?_eq_getElem (by omega)] at hc1
      refine iSt hc1 hc2 rfl ?_
      have ho28 := hc3 (.int .i64 ((y : Int) - 1))
      have e1 : (ints (nats a)).set x (.int .i64 ((y : Int) - 1)) = ints ((nats a).set x ((y : Int) - 1)) := by simp [ints, List.map_set]
      rw [e1] at ho28
      have hu28 := Upd.setCell w27 bu x (.int .i64 ((y : Int) - 1))
      have hbu1 := (ho26.blk bu hbu).1
      have hB527 := (hB55.ch hch526 hbb5).ext h27
      have hB427 := (hB45.ch hch526 hbb4).ext h27
      have hbu5 : b5 ≠ bu := fun e => ho27.ne_blk hB527 hne5 (by rw [hbu, e])
      have hbu4 : b4 ≠ bu := fun e => ho27.ne_blk hB427 hne4 (by rw [hbu, e])
      have hS27 := hS26.later h27
      have hbub : b ≠ bu := fun e => hS27.neOw ho27 hne (by rw [hbu, e])
      intro w29 h29
      exact fin (n : Int) ((nats a).set x ((y : Int) - 1)) v w29 _ (by rw [List.length_set]; omega) (ho28.ext h29) ((hS27.upd hu28 hbub (by omega)).later h29) (ch_ext ((ch_ext (ch_self hC5 hch526) h27).trans (hu28.ch (S := fun c => c = bu) rfl) (fun c hc => .inr (by omega))) h29) ((hB427.upd hu28 hbu4).ext h29) ((hB527.upd hu28 hbu5).ext h29) (fun r w'' h => h)
    · exact fin (n : Int) (nats a) v w5 _ (by omega) ho5 hS5 hC5 hB45 hB55 (fun r w'' h => h)
  · exact fin (n : Int) (nats a) v w5 _ (by omega) ho5 hS5 hC5 hB45 hB55 (fun r w'' h => h)
end Go.Proofs.YtikfhibcdhdglaaGreat

/- Contracts: disjunctions of variables in the program and the reference. Conditions: none. -/
namespace Go.Vc
/-- 'make([]T, 0, n)', elements of two cells. -/
theorem iMkX {w : World} {e : TypeId} {z0 z1 : Value} {bytes n : Nat} {k : IntKind} {K : Value → World → Prop} (h1 : bytes * n ≤ 2 ^ 48) (h2 : (n : Int) ≤ 9223372036854775807)
    (h : ∀ v w', Ext w w' → OwK 2 w.heap.size e w' v 0 [] → K v w') : xMk e (Value.cells (.agg #[z0, z1])) 2 bytes (.int k 0) (.int k (n : Int)) w K := by
  refine ⟨k, k, 0, n, rfl, rfl, Nat.zero_le _, h2, by exact_mod_cast h1, ?_⟩
  refine h _ _ (Ext.alloc w _) ⟨rfl, .inr ⟨w.heap.size, n, _, rfl, Nat.le_refl _, heap_alloc_new w _, Nat.zero_le _, by simpa [maxLen] using (by omega : n ≤ 9223372036854775807), ?_, by simp⟩⟩
  simp
end Go.Vc
namespace Go.Proofs.YtikfhibcdhdglaaGreat
open Go.Vc
/-- A row of formulas of the call's own. -/
abbrev RF (lo : Nat) (w : World) (v : Value) (L : List (Value × Fm)) : Prop := Ow lo t_Simpl_Node w v (L.map Prod.fst)
/-- Formulas, each in a row of its own. -/
def EF (lo : Nat) (w : World) (L : List (Value × Fm)) : Prop := (∀ p ∈ L, FmW lo w p.1 p.2) ∧ L.Pairwise fun a b => ∀ c, a.1.ownBlock = some c → b.1.ownBlock ≠ some c
theorem EF.nil (lo : Nat) (w : World) : EF lo w [] := ⟨fun p hp => (by cases hp), List.Pairwise.nil⟩
theorem EF.ext {lo : Nat} {w w' : World} {L : List (Value × Fm)} (h : EF lo w L) (x : Ext w w') : EF lo w' L := ⟨fun p hp => (h.1 p hp).ext x, h.2⟩
theorem EF.ch {lo : Nat} {S : Nat → Prop} {w w' : World} {L : List (Value × Fm)} (h : EF lo w L) (x : Ch S w w') (hn : ∀ p ∈ L, ∀ c, p.1.ownBlock = some c → ¬ S c) : EF lo w' L := ⟨fun p hp => (h.1 p hp).ch x (hn p hp), h.2⟩
theorem EF.mono {lo lo' : Nat} {w : World} {L : List (Value × Fm)} (h : EF lo w L) (hl : lo' ≤ lo) : EF lo' w L := ⟨fun p hp => (h.1 p hp).mono hl, h.2⟩
theorem EF.app {lo : Nat} {w : World} {A B : List (Value × Fm)} (h : EF lo w A) (k : EF lo w B) (hd : ∀ p ∈ A, ∀ q ∈ B, ∀ c, p.1.ownBlock = some c → q.1.ownBlock ≠ some c) : EF lo w (A ++ B) :=
  ⟨fun p hp => by
    rcases List.mem_append.1 hp with hp | hp
    · exact h.1 p hp
    · exact k.1 p hp, List.pairwise_append.2 ⟨h.2, k.2, hd⟩⟩
theorem iRdF {w : World} {v : Value} {L : List (Value × Fm)} {z : Int} {j : Nat} {k : IntKind} {K : Value → Prop} (hs : Sl w v (L.map Prod.fst)) (hz : z = (j : Int)) (hj : j < L.length) (h : K L[j].1) : xIa 1 v (.int k z) fun p => xLd w p K := by
  subst hz
  refine iIa (j := (j : Int)) hs (by omega) (by rw [List.length_map]; omega) fun p hp => ?_
  refine iLd (hp.trans ?_) h
  rw [Int.toNat_natCast, List.getElem?_map, List.getElem?_eq_getElem hj]; rfl
theorem ok_impl_joinAll {v : Value} {w : World} {L : List (Value × Fm)} {l : List Nat} (hs : Sl w v (L.map Prod.fst)) (hF : ∀ p ∈ L, FmS w p.1 p.2) (hl : L.map Prod.snd = l.map Fm.var) (h8 : L.length ≤ 8) :
    Cal Tryz.prog f_impl_joinAll #[.int .i64 3, v] w fun r w' => Ext w w' ∧ FmW w.heap.size w' r (orV l) := by
  apply c_impl_joinAll; unfold S_impl_joinAll
  have hll : l.length = L.length := by have := congrArg List.length hl; simpa using this.symm
  have hlen : ∀ w', Ext w w' → ∀ {K : Value → Prop}, K (.int .i64 (L.length : Nat)) → xLenS v K := fun w' x _ h => iLenS (Sl.ext hs x) (by rw [List.length_map]; exact h)
  have hat : ∀ i (hi : i < L.length), L[i].2 = .var (l[i]'(by omega)) ∧ L[i] ∈ L := fun i hi => by
    refine ⟨?_, List.getElem_mem _⟩
    have h1 : (L.map Prod.snd)[i]? = (l.map Fm.var)[i]? := by rw [hl]
    rw [List.getElem?_map, List.getElem?_map, List.getElem?_eq_getElem hi, List.getElem?_eq_getElem (by omega)] at h1
    exact Option.some.inj h1
  refine hlen w (Ext.refl _) ?_
  refine iEq (iCndP (fun h => ?_) (fun h => ?_))
  · refine iEq (iCndF (by decide) ?_)
    have : l = [] := List.length_eq_zero_iff.1 (by omega)
    subst this
    exact iCall (ok_impl_falsum w)
  · obtain ⟨x, l', rfl⟩ : ∃ x l', l = x :: l' := by
      cases l with
      | nil => simp at hll; omega
      | cons x l' => exact ⟨x, l', rfl⟩
    have hll' : l'.length + 1 = L.length := by simpa using hll
    refine hlen w (Ext.refl _) ?_
    refine iSub (by omega) ?_
    refine hlen w (Ext.refl _) ?_
    have e0 : ((L.length : Nat) : Int) - 1 = ((l'.length + 0 : Nat) : Int) := by omega
    rw [e0]
    refine iLp (fun i : Nat => [.int .i64 ((l'.length + i : Nat) : Int), .int .i64 (i : Int)]) (fun i w' => i ≤ L.length ∧ Ext w w') (fun i => L.length - i) 0 rfl ⟨Nat.zero_le _, Ext.refl _⟩ ?_
    rintro i w4 Kn ⟨hi, x4⟩ hKn
    intro _
    simp only [gx]
    refine iLt (iCndP (fun h4 => ?_) (fun h4 => ?_))
    · have hi1 : i < L.length := by omega
      obtain ⟨e1, e2⟩ := hat i hi1
      refine iRdF (j := i) (Sl.ext hs x4) rfl hi1 ?_
      refine iLenK (hF _ e2) ?_
      rw [e1]
      refine iAdd (by show _; simp only [Fm.size]; omega) ?_
      refine iAdd (by omega) ?_
      have e3 : ((l'.length + i : Nat) : Int) + ((Fm.var ((x :: l')[i]'(by omega))).size : Nat) = ((l'.length + (i + 1) : Nat) : Int) := by simp only [Fm.size]; omega
      rw [e3]
      exact hKn (i + 1) _ ⟨by omega, x4⟩ (by omega)
    · obtain rfl : i = L.length := by omega
      refine iMkX (by omega) (by omega) fun v5 w5 x5 ho5 => ?_
      have X5 := x4.trans x5
      refine hlen w (Ext.refl _) ?_
      refine iSub (by omega) ?_
      have e6 : ((L.length : Nat) : Int) - 1 = ((l'.length : Nat) : Int) := by omega
      rw [e6]
      refine iLp (fun s : Value × Nat => [s.1, .int .i64 (s.2 : Int)]) (fun s w' => s.2 ≤ l'.length ∧ Ext w4 w' ∧ OwK 2 w4.heap.size t_impl_Node w' s.1 s.2 (List.replicate s.2 (nd 3 0)).flatten) (fun s => l'.length - s.2) (v5, 0) rfl ⟨Nat.zero_le _, x5, ho5⟩ ?_
      rintro ⟨u, j⟩ w7 Kn2 ⟨hj, x7, ho7⟩ hKn2
      have hj : j ≤ l'.length := hj
      have ho7 : OwK 2 w4.heap.size t_impl_Node w7 u j (List.replicate j (nd 3 0)).flatten := ho7
      intro _
      simp only [gx]
      refine iLt (iCndP (fun h7 => ?_) (fun h7 => ?_))
      · have hj1 : j < l'.length := by omega
        refine iBuild2 rfl rfl ?_
        refine iBsA fun q w8 hq x8 hB => ?_
        refine iAppK u_Simpl_Node i_Simpl_Node rfl (by omega) (OwK.ext ho7 x8) (node_one hq hB).sl (fun y hy => ?_) (by omega) (by omega) (Nat.le_trans x7.size x8.size) fun v9 w9 ho9 hg9 _ => ?_
        · simp only [List.mem_cons, List.not_mem_nil, or_false] at hy
          rcases hy with rfl | rfl <;> rfl
        refine iAdd (by omega) ?_
        refine hKn2 (v9, j + 1) _ ⟨by show j + 1 ≤ l'.length; omega, (x7.trans x8).grown hg9 fun c hc => (ho7.blk c hc).1, ?_⟩ (by show l'.length - (j + 1) < l'.length - j; omega)
        show OwK 2 _ _ w9 v9 (j + 1) (List.replicate (j + 1) (nd 3 0)).flatten
        rw [List.replicate_succ', List.flatten_append]
        simpa [nd] using ho9
      · obtain rfl : j = l'.length := by omega
        refine hlen w (Ext.refl _) ?_
        refine iLp (fun s : Value × Nat => [s.1, .int .i64 (s.2 : Int)]) (fun s w' => s.2 ≤ L.length ∧ Ext w4 w' ∧ OwK 2 w4.heap.size t_impl_Node w' s.1 (l'.length + s.2) ((List.replicate l'.length (nd 3 0)).flatten ++ ((x :: l').take s.2).flatMap fun v => nd 0 v)) (fun s => L.length - s.2) (u, 0) rfl ⟨Nat.zero_le _, x7, by show OwK 2 _ _ _ _ (l'.length + 0) _; simpa using ho7⟩ ?_
        rintro ⟨u', k⟩ w11 Kn3 ⟨hk, x11, ho11⟩ hKn3
        have hk : k ≤ L.length := hk
        have ho11 : OwK 2 w4.heap.size t_impl_Node w11 u' (l'.length + k) ((List.replicate l'.length (nd 3 0)).flatten ++ ((x :: l').take k).flatMap fun v => nd 0 v) := ho11
        intro _
        simp only [gx]
        refine iLt (iCndP (fun h11 => ?_) (fun h11 => ?_))
        · have hk1 : k < L.length := by omega
          obtain ⟨e1, e2⟩ := hat k hk1
          have X11 := x4.trans x11
          refine iRdF (j := k) (Sl.ext hs X11) rfl hk1 ?_
          have hv := SlK.ext (hF _ e2) X11
          rw [e1] at hv
          refine iAppK u_Simpl_Node i_Simpl_Node rfl (by omega) ho11 hv (Fm.cells_cell _) (by simp only [Fm.size]; omega) (by simp only [Fm.size]; omega) x11.size fun v9 w9 ho9 hg9 _ => ?_
          refine iAdd (by omega) ?_
          refine hKn3 (v9, k + 1) _ ⟨by show k + 1 ≤ L.length; omega, x11.grown hg9 fun c hc => (ho11.blk c hc).1, ?_⟩ (by show L.length - (k + 1) < L.length - k; omega)
          show OwK 2 _ _ w9 v9 (l'.length + (k + 1)) ((List.replicate l'.length (nd 3 0)).flatten ++ ((x :: l').take (k + 1)).flatMap fun v => nd 0 v)
          rw [List.take_succ_eq_append_getElem (by omega), List.flatMap_append, ← List.append_assoc]
          simpa [Fm.cells, Fm.size, Nat.add_assoc] using ho9
        · obtain rfl : k = L.length := by omega
          refine ⟨x4.trans x11, ?_⟩
          rw [List.take_of_length_le (by omega)] at ho11
          show OwK 2 _ _ w11 u' (orV (x :: l')).size (orV (x :: l')).cells
          rw [orV_cells]
          have es : (orV (x :: l')).size = l'.length + L.length := by
            show (orG (.var x) l').size = _
            rw [orG_size]; simp only [Fm.size]; omega
          rw [es]
          exact OwK.mono ho11 x4.size
theorem RF.appS {lo : Nat} {w : World} {v x : Value} {L N : List (Value × Fm)} {K : Value → World → Prop} (hR : RF lo w v L) (hE : EF lo w (L ++ N)) (hx : Sl w x (N.map Prod.fst)) (hlo : lo ≤ w.heap.size) (hb : L.length + N.length ≤ 100000)
    (hk : ∀ v' w', RF lo w' v' (L ++ N) → EF lo w' (L ++ N) → w.grownBy w' v.ownBlock → K v' w') : xOp Tryz.prog (Builtin.append_ #[t_SSimpl_Node, t_SSimpl_Node] t_SSimpl_Node #[v, x]) w K := by
  refine iApp u_SSimpl_Node i_SSimpl_Node rfl hR hx (fun y hy => ?_) (by rw [List.length_map, List.length_map]; omega) (by rw [List.length_map, List.length_map]; omega) hlo fun v' w' ho hg => hk v' w' (by show Ow _ _ _ _ _; rw [List.map_append]; exact ho) ?_ hg
  · obtain ⟨p, hp, rfl⟩ := List.mem_map.1 hy
    exact (hE.1 p (List.mem_append_right _ hp)).cell
  · exact hE.ch (grown_ch (S := fun c => v.ownBlock = some c) hg fun c hc => hc) fun p hp c hc hc' => OwK.ne_ow (hE.1 p hp) hR (by decide) hc hc'
theorem EF.one {lo : Nat} {w : World} {u : Value} {a : Fm} (h : FmW lo w u a) : EF lo w [(u, a)] := ⟨fun p hp => by simp only [List.mem_singleton] at hp; subst hp; exact h, by simp⟩
/-- New formulas stand apart from old ones. -/
theorem EF.fresh {lo m : Nat} {w0 w : World} {A B : List (Value × Fm)} (h : EF lo w0 A) (k : EF m w B) (hm : w0.heap.size ≤ m) : ∀ p ∈ A, ∀ q ∈ B, ∀ c, p.1.ownBlock = some c → q.1.ownBlock ≠ some c := fun p hp q hq c hc hc' => by
  have h1 := ((h.1 p hp).blk c hc).2
  have h2 := ((k.1 q hq).blk c hc').1
  omega
theorem ok_impl_anyOf {v : Value} {w : World} {l : List Nat} (hs : SlN w v l) (h8 : l.length ≤ 8) : Cal Tryz.prog f_impl_anyOf #[v] w fun r w' => Ext w w' ∧ FmW w.heap.size w' r (orV l) := by
  apply c_impl_anyOf; unfold S_impl_anyOf
  ((with_reducible refine iLenN (by assumption) ?_))
  refine iLp (fun s : Value × Nat => [s.1, .int .i64 (s.2 : Int)]) (fun s w' => s.2 ≤ l.length ∧ Ext w w' ∧ ∃ L, RF w.heap.size w' s.1 L ∧ EF w.heap.size w' L ∧ L.map Prod.snd = (l.take s.2).map Fm.var) (fun s => l.length - s.2) (.slice none 0 0, 0) rfl ⟨Nat.zero_le _, Ext.refl _, [], Ow.nil _ _ _, EF.nil _ _, rfl⟩ ?_
  rintro ⟨u, k⟩ w2 Kn ⟨hk, x2, L, hR, hE, hL⟩ hKn
  have hk : k ≤ l.length := hk
  have hR : RF w.heap.size w2 u L := hR
  have hL : L.map Prod.snd = (l.take k).map Fm.var := hL
  have hLl : L.length = k := by have := congrArg List.length hL; rw [List.length_map, List.length_map, List.length_take] at this; omega
  have hs2 := hs.ext x2
  (intro _; (try simp only [gx]); (with_reducible refine iLt ?_))
  refine iCndP (fun h3 => ?_) (fun h3 => ?_)
  · have hk1 : k < l.length := by omega
    ((with_reducible refine iIaNN (by assumption) ?_ (fun pa_ hpa_ => ?_)); omega; (with_reducible refine iLd (by assumption) ?_))
    refine iCall ((ok_impl_variable (l.getD k 0) w2).mono ?_)
    rintro y w3 ⟨x3, hy⟩
    have hd := hE.fresh (EF.one hy) (Nat.le_refl _)
    refine iBs1 rfl hy.cell fun b w4 hb x4 hB => ?_
    have hE4 : EF w.heap.size w4 (L ++ [(y, .var (l.getD k 0))]) := ((hE.ext x3).app (EF.one (hy.mono x2.size)) hd).ext x4
    refine RF.appS (Ow.ext hR (x3.trans x4)) hE4 (Sl.ofBlk hB rfl (by omega)) (x2.trans (x3.trans x4)).size (by simp only [List.length_singleton]; omega) fun v' w5 hR5 hE5 hg5 => ?_
    refine iAdd (by omega) ?_
    refine hKn (v', k + 1) _ ⟨by show k + 1 ≤ l.length; omega, (x2.trans (x3.trans x4)).grown hg5 fun c hc => (Ow.blk hR c hc).1, _, hR5, hE5, ?_⟩ (by show l.length - (k + 1) < l.length - k; omega)
    show (L ++ [(y, Fm.var (l.getD k 0))]).map Prod.snd = (l.take (k + 1)).map Fm.var
    rw [List.map_append, hL, List.take_succ_eq_append_getElem hk1, List.map_append]
    simp [List.getD_eq_getElem?_getD, hk1]
  · obtain rfl : k = l.length := by omega
    rw [List.take_length] at hL
    refine iCall ((ok_impl_joinAll (Ow.sl hR) (fun p hp => (hE.1 p hp).sl) hL (by omega)).mono ?_)
    rintro r w3 ⟨x3, hr⟩
    exact ⟨x2.trans x3, hr.mono x2.size⟩
theorem ok_spec_l02Own {va : Value} {w : World} {a : Fm} (ha : FmS w va a) (hsz : a.size ≤ 1000000) : Cal Tryz.prog f_spec_l02Own #[va] w fun r w' => Ext w w' ∧ FmW w.heap.size w' r a := by
  apply c_spec_l02Own; unfold S_spec_l02Own
  refine iBsA0 fun u w1 _ x1 ho => ?_
  refine iAppK u_Simpl_Node i_Simpl_Node rfl (by omega) ho (SlK.ext ha x1) a.cells_cell (by omega) (by omega) x1.size fun v2 w2 ho2 hg2 _ => ?_
  refine ⟨x1.grown hg2 fun c hc => (ho.blk c hc).1, ?_⟩
  show OwK 2 _ _ w2 v2 _ _
  rw [Nat.zero_add, List.nil_append] at ho2
  exact ho2
theorem ok_spec_l02All {v : Value} {w : World} {L : List (Value × Fm)} {l : List Nat} (hs : Sl w v (L.map Prod.fst)) (hF : ∀ p ∈ L, FmS w p.1 p.2) (hl : L.map Prod.snd = l.map Fm.var) (h8 : L.length ≤ 8) :
    Cal Tryz.prog f_spec_l02All #[.int .i64 3, v] w fun r w' => Ext w w' ∧ FmW w.heap.size w' r (orV l) := by
  apply c_spec_l02All; unfold S_spec_l02All
  have hll : l.length = L.length := by have := congrArg List.length hl; simpa using this.symm
  have hlen : ∀ w', Ext w w' → ∀ {K : Value → Prop}, K (.int .i64 (L.length : Nat)) → xLenS v K := fun w' x _ h => iLenS (Sl.ext hs x) (by rw [List.length_map]; exact h)
  have hat : ∀ i (hi : i < L.length), L[i].2 = .var (l[i]'(by omega)) ∧ L[i] ∈ L := fun i hi => by
    refine ⟨?_, List.getElem_mem _⟩
    have h1 : (L.map Prod.snd)[i]? = (l.map Fm.var)[i]? := by rw [hl]
    rw [List.getElem?_map, List.getElem?_map, List.getElem?_eq_getElem hi, List.getElem?_eq_getElem (by omega)] at h1
    exact Option.some.inj h1
  refine hlen w (Ext.refl _) ?_
  refine iEq (iCndP (fun h => ?_) (fun h => ?_))
  · refine iEq (iCndF (by decide) ?_)
    have : l = [] := List.length_eq_zero_iff.1 (by omega)
    subst this
    exact iCall (ok_spec_l02False w)
  · obtain ⟨x, l', rfl⟩ : ∃ x l', l = x :: l' := by
      cases l with
      | nil => simp at hll; omega
      | cons x l' => exact ⟨x, l', rfl⟩
    have hll' : l'.length + 1 = L.length := by simpa using hll
    obtain ⟨e1, e2⟩ := hat 0 (by omega)
    refine iRdF (j := 0) hs rfl (by omega) ?_
    have hv0 := hF _ e2
    rw [e1] at hv0
    refine iCall ((ok_spec_l02Own hv0 (by simp only [Fm.size]; omega)).mono ?_)
    rintro u w3 ⟨x3, hu⟩
    refine iLp (fun s : Value × Nat => [s.1, .int .i64 ((s.2 + 1 : Nat) : Int)]) (fun s w' => s.2 ≤ l'.length ∧ Ext w w' ∧ FmW w.heap.size w' s.1 (orG (.var x) (l'.take s.2))) (fun s => l'.length - s.2) (u, 0) rfl ⟨Nat.zero_le _, x3, hu⟩ ?_
    rintro ⟨o, k⟩ w5 Kn ⟨hk, x5, ho⟩ hKn
    have hk : k ≤ l'.length := hk
    have ho : FmW w.heap.size w5 o (orG (.var x) (l'.take k)) := ho
    intro _
    simp only [gx]
    refine hlen w5 x5 ?_
    refine iLt (iCndP (fun h4 => ?_) (fun h4 => ?_))
    · have hk1 : k < l'.length := by omega
      obtain ⟨e1, e2⟩ := hat (k + 1) (by omega)
      refine iRdF (j := k + 1) (Sl.ext hs x5) rfl (by omega) ?_
      have hv := SlK.ext (hF _ e2) x5
      have e3 : L[k + 1].2 = .var l'[k] := e1
      rw [e3] at hv
      have es : (orG (.var x) (l'.take k)).size ≤ 100 := by rw [orG_size, List.length_take]; simp only [Fm.size]; omega
      refine iCall ((ok_spec_l02Pair (c := .or (orG (.var x) (l'.take k)) (.var l'[k])) (k := 3) rfl rfl ho.sl hv (by simp only [Fm.size]; omega)).mono ?_)
      rintro r w6 ⟨x6, hr⟩
      refine iAdd (by omega) ?_
      refine hKn (r, k + 1) _ ⟨by show k + 1 ≤ l'.length; omega, x5.trans x6, ?_⟩ (by show l'.length - (k + 1) < l'.length - k; omega)
      show FmW w.heap.size w6 r (orG (.var x) (l'.take (k + 1)))
      rw [List.take_succ_eq_append_getElem hk1, orG_snoc]
      exact hr.mono x5.size
    · obtain rfl : k = l'.length := by omega
      rw [List.take_length] at ho
      exact ⟨x5, ho⟩
end Go.Proofs.YtikfhibcdhdglaaGreat

/- Contracts: the disjunction of the least elements of a set, in the program and the reference. Conditions: none. -/
namespace Go.Proofs.YtikfhibcdhdglaaGreat
open Go.Vc
def notLeast (f : Fr) (m x : Nat) : Bool := (mem m).any fun y => !decide (y = x) && (f.a.getD y 0).testBit x
theorem minL_eq (f : Fr) (m : Nat) : minL f m = (mem m).filter fun x => !notLeast f m x := rfl
theorem nats_mem {x : Int} {l : List Nat} (h : x ∈ nats l) : ∃ i : Nat, i ∈ l ∧ x = (i : Int) := by
  obtain ⟨i, hi, e⟩ := List.mem_map.1 h
  exact ⟨i, hi, e.symm⟩
theorem ok_minimal_1_1 {f : Fr} (hf : f.ok) {ev : TypeId} {w : World} {v : Value} (hs : SlN w v f.a) {e : TypeId} {q p : Nat} {x y : Nat} (hx : x < f.n) (hy : y < f.n) (hq : Blk e w q [.int .i64 (x : Int)]) (hp : Blk ev w p [.int .i64 (f.n : Int), v]) :
    Ret Tryz.prog f_impl_Poset_minimal_1_1 #[.int .i64 (y : Int), .pointer (some ⟨q, 0, none⟩), .pointer (some ⟨p, 0, none⟩)] w (.bool (!decide (y = x) && (f.a.getD y 0).testBit x)) := by
  apply c_impl_Poset_minimal_1_1; unfold S_impl_Poset_minimal_1_1
  have hf8 := hf.1
  have hfl := hf.2.1
  refine iJnB (!decide (y = x) && (f.a.getD y 0).testBit x) w (fun J hJ => ?_) (fun w2 h2 => ?_)
  · refine iLdB hq rfl ?_
    refine iNe (iCndP (fun h => ?_) (fun h => ?_))
    · have h : ¬ y = x := fun e => h (by rw [e])
      rw [decide_eq_false h, Bool.not_false, Bool.true_and] at hJ
      ((with_reducible refine iFa ?_); refine iLdB (by assumption) (by first | rfl | simp) ?_; (with_reducible refine iIaNN (by assumption) ?_ (fun pa_ hpa_ => ?_)); omega; (with_reducible refine iLd (by assumption) ?_); refine iLdB (by assumption) (by first | rfl | simp) ?_)
      have hlt := hf.lt hy
      refine iRetQ (fun w' _ => ok_impl_has _ x (Nat.lt_of_lt_of_le hlt (Nat.pow_le_pow_right (by omega) (by omega))) (by omega) w') ?_
      intro w3 x3
      exact hJ w3 x3
    · have h : y = x := by omega
      rw [decide_eq_true h, Bool.not_true, Bool.false_and] at hJ
      intro w4 x4
      exact hJ w4 x4
  · intro _
    simp only [gx]
    exact ⟨by first | trivial | rfl, h2⟩
theorem any_nats {l : List Nat} (g : Nat → Bool) : (nats l).any (fun z => g z.toNat) = l.any g := by
  unfold nats
  rw [List.any_map]
  rfl
theorem ok_minimal_1 {f : Fr} (hf : f.ok) {ev : TypeId} {w : World} {v : Value} (hs : SlN w v f.a) {e : TypeId} {q p : Nat} {m x : Nat} (hm : m < 2 ^ f.n) (hx : x < f.n) (hq : Blk e w q [.int .i64 (m : Int)]) (hp : Blk ev w p [.int .i64 (f.n : Int), v]) :
    Ret Tryz.prog f_impl_Poset_minimal_1 #[.int .i64 (x : Int), .pointer (some ⟨q, 0, none⟩), .pointer (some ⟨p, 0, none⟩)] w (.bool (notLeast f m x)) := by
  apply c_impl_Poset_minimal_1; unfold S_impl_Poset_minimal_1
  have hm63 := mask63 hf hm
  refine iNew fun b w1 hb x1 hB => ?_
  refine iLdB (hq.ext x1) rfl ?_
  refine iCall ((ok_impl_membersOf m hm63 w1).mono ?_)
  rintro u w2 ⟨x2, ho⟩
  have hX := x1.trans x2
  refine iRet (ok_slices_ContainsFunc_Si64_i64 ho.sl (fun z => !decide (z.toNat = x) && (f.a.getD z.toNat 0).testBit x) fun w' h' z hz => ?_) fun w3 x3 => ?_
  · obtain ⟨y, hy, rfl⟩ := nats_mem hz
    have hyn : y < f.n := mem_lt hf hm hy
    refine iClo rfl ?_
    have h := ok_minimal_1_1 hf (hs.ext (hX.trans h')) hx hyn ((hB.ext x2).ext h') ((hp.ext hX).ext h')
    rw [Int.toNat_natCast]
    exact h
  · refine ⟨?_, hX.trans x3⟩
    rw [any_nats fun y => !decide (y = x) && (f.a.getD y 0).testBit x]
    rfl
theorem ok_impl_minimal {f : Fr} (hf : f.ok) {w : World} {v : Value} (hs : SlN w v f.a) (m : Nat) (hm : m < 2 ^ f.n) : Cal Tryz.prog f_impl_Poset_minimal #[.agg #[.int .i64 (f.n : Int), v], .int .i64 (m : Int)] w fun r w' => Ext w w' ∧ SlN w' r (minL f m) := by
  apply c_impl_Poset_minimal; unfold S_impl_Poset_minimal
  have hm63 := mask63 hf hm
  refine iNew fun b2 w1 hb2 x1 hB2 => ?_
  refine iNew fun b3 w2 hb3 x2 hB3 => ?_
  have hX2 := x1.trans x2
  refine iLdB hB3 rfl ?_
  refine iCall ((ok_impl_membersOf m hm63 w2).mono ?_)
  rintro u w3 ⟨x3, ho⟩
  have hml := mem_len hf hm
  have hf8 := hf.1
  refine iCall ((ok_slices_DeleteFuncN (w0 := w2) (p := fun z => notLeast f m z.toNat) x3 ho (by rw [nats_length]; omega) fun z hz w' hw' => ?_).mono ?_)
  · obtain ⟨x, hx, rfl⟩ := nats_mem hz
    refine iClo rfl ?_
    rw [Int.toNat_natCast]
    exact ok_minimal_1 hf (hs.ext (hX2.trans hw')) hm (mem_lt hf hm hx) (hB3.ext hw') ((hB2.ext x2).ext hw')
  · rintro r w4 ⟨x4, ho4⟩
    refine ⟨hX2.trans x4, ?_⟩
    have e : (nats (mem m)).filter (fun z => !notLeast f m z.toNat) = nats (minL f m) := by
      rw [minL_eq]
      unfold nats
      rw [List.filter_map]
      rfl
    rw [e] at ho4
    exact ho4.sl
theorem ok_impl_joined {f : Fr} (hf : f.ok) {w : World} {v : Value} (hs : SlN w v f.a) (m : Nat) (hm : m < 2 ^ f.n) : Cal Tryz.prog f_impl_Poset_joined #[.agg #[.int .i64 (f.n : Int), v], .int .i64 (m : Int)] w fun r w' => Ext w w' ∧ FmW w.heap.size w' r (jnF f m) := by
  apply c_impl_Poset_joined; unfold S_impl_Poset_joined
  refine iNew fun b2 w1 hb2 x1 hB2 => ?_
  refine iLdA hB2 rfl ?_
  refine iCall ((ok_impl_minimal hf (hs.ext x1) m hm).mono ?_)
  rintro u w2 ⟨x2, hu⟩
  have hl := minL_len f m
  have hml := mem_len hf hm
  have hf8 := hf.1
  refine iCall ((ok_impl_anyOf hu (by omega)).mono ?_)
  rintro r w3 ⟨x3, hr⟩
  exact ⟨(x1.trans x2).trans x3, hr.mono (x1.trans x2).size⟩
/-- x is least in m among those before k. -/
def lstK (f : Fr) (m x k : Nat) : Bool := m.testBit x && (List.range k).all fun y => decide (y = x) || (!m.testBit y || !(f.a.getD y 0).testBit x)
theorem lstK_succ (f : Fr) (m x k : Nat) : lstK f m x (k + 1) = (lstK f m x k && (decide (k = x) || (!m.testBit k || !(f.a.getD k 0).testBit x))) := by
  unfold lstK
  rw [List.range_succ, List.all_append, Bool.and_assoc]
  simp
def lstL (f : Fr) (m k : Nat) : List Nat := (List.range k).filter fun x => lstK f m x f.n
theorem lstL_succ (f : Fr) (m k : Nat) : lstL f m (k + 1) = if lstK f m k f.n then lstL f m k ++ [k] else lstL f m k := by
  unfold lstL
  rw [List.range_succ, List.filter_append]
  by_cases h : lstK f m k f.n = true
  · rw [if_pos h, List.filter_cons, if_pos h, List.filter_nil]
  · rw [if_neg h, List.filter_cons, if_neg h, List.filter_nil, List.append_nil]
theorem lstL_end {f : Fr} (hf : f.ok) {m : Nat} (hm : m < 2 ^ f.n) : lstL f m f.n = minL f m := by
  have hf8 := hf.1
  rw [minL_eq, ← memK_mem (by omega) hm]
  unfold lstL memK
  rw [List.filter_filter]
  apply List.filter_congr
  intro x hx
  have hmb : ∀ y, y ∈ mem m ↔ m.testBit y = true := fun y => mem_mem (mask63 hf hm)
  rw [Bool.eq_iff_iff]
  unfold lstK notLeast
  rw [Bool.and_eq_true, Bool.and_eq_true, Bool.not_eq_true', List.any_eq_false, List.all_eq_true]
  constructor
  · rintro ⟨h1, h2⟩
    refine ⟨fun y hy => ?_, h1⟩
    have hyb := (hmb y).1 hy
    have := h2 y (List.mem_range.2 (mem_lt hf hm hy))
    rw [hyb] at this
    intro hc
    rw [Bool.and_eq_true, Bool.not_eq_true', decide_eq_false_iff_not] at hc
    rw [decide_eq_false hc.1, hc.2] at this
    simp at this
  · rintro ⟨h1, h2⟩
    refine ⟨h2, fun y hy => ?_⟩
    cases hb : m.testBit y
    · simp
    · have := h1 y ((hmb y).2 hb)
      by_cases hyx : y = x
      · simp [hyx]
      · rw [decide_eq_false hyx] at this ⊢
        simpa using this
theorem ok_spec_l16Leq {f : Fr} (hf : f.ok) {w : World} {v : Value} (hs : SlN w v f.a) (x y : Nat) (hx : x < f.n) (hy : y ≤ 8) : Ret Tryz.prog f_spec_l16Leq #[.agg #[.int .i64 (f.n : Int), v], .int .i64 (x : Int), .int .i64 (y : Int)] w (.bool ((f.a.getD x 0).testBit y)) := by
  apply c_spec_l16Leq; unfold S_spec_l16Leq
  have hf8 := hf.1
  have hfl := hf.2.1
  have hlt := hf.lt hx
  refine iNew fun b w1 hb x1 hB => ?_
  have hs1 := hs.ext x1
  ((with_reducible refine iFa ?_); refine iLdB (by assumption) (by first | rfl | simp) ?_; (with_reducible refine iIaNN (by assumption) ?_ (fun pa_ hpa_ => ?_)); omega; (with_reducible refine iLd (by assumption) ?_))
  refine iRet (ok_spec_l01Bit _ y (Nat.lt_of_lt_of_le hlt (Nat.pow_le_pow_right (by omega) (by omega))) (by omega) w1) fun w2 x2 => ?_
  exact ⟨rfl, x1.trans x2⟩
theorem ok_spec_l21Join {f : Fr} (hf : f.ok) {w : World} {v : Value} (hs : SlN w v f.a) (m : Nat) (hm : m < 2 ^ f.n) : Cal Tryz.prog f_spec_l21Join #[.agg #[.int .i64 (f.n : Int), v], .int .i64 (m : Int)] w fun r w' => Ext w w' ∧ FmW w.heap.size w' r (jnF f m) := by
  apply c_spec_l21Join; unfold S_spec_l21Join
  have hf8 := hf.1
  have hm63 := mask63 hf hm
  refine iNew fun b w1 hb x1 hB => ?_
  refine iBs0 fun u w2 _ x2 ho2 => ?_
  refine iLp (fun s : Value × Nat => [s.1, .int .i64 (s.2 : Int)]) (fun s w' => s.2 ≤ f.n ∧ Ext w1 w' ∧ ∃ L, RF w1.heap.size w' s.1 L ∧ EF w1.heap.size w' L ∧ L.map Prod.snd = (lstL f m s.2).map Fm.var) (fun s => f.n - s.2) (u, 0) rfl ⟨Nat.zero_le _, x2, [], ho2, EF.nil _ _, rfl⟩ ?_
  rintro ⟨o, x⟩ w4 Kn ⟨hx, x4, L, hR, hE, hL⟩ hKn
  have hx : x ≤ f.n := hx
  have hR : RF w1.heap.size w4 o L := hR
  have hL : L.map Prod.snd = (lstL f m x).map Fm.var := hL
  have hLl : L.length ≤ x := by
    have h1 := congrArg List.length hL
    rw [List.length_map, List.length_map] at h1
    have h2 : (lstL f m x).length ≤ x := by
      have := List.length_filter_le (fun x => lstK f m x f.n) (List.range x)
      rw [List.length_range] at this
      exact this
    omega
  have hB4 := hB.ext x4
  have hX4 := x1.trans x4
  (intro _; (try simp only [gx]); (with_reducible refine iFa ?_); refine iLdB (by assumption) (by first | rfl | simp) ?_; (with_reducible refine iLt ?_))
  refine iCndP (fun h => ?_) (fun h => ?_)
  · have hx1 : x < f.n := by omega
    refine iRet (ok_spec_l01Bit m x hm63 (by omega) w4) fun w5 x5 => ?_
    refine iLp (fun s : Bool × Nat => [.bool s.1, .int .i64 (s.2 : Int)]) (fun s w' => s.2 ≤ f.n ∧ Ext w5 w' ∧ s.1 = lstK f m x s.2) (fun s => f.n - s.2) (m.testBit x, 0) rfl ⟨Nat.zero_le _, Ext.refl _, by show m.testBit x = lstK f m x 0; simp [lstK]⟩ ?_
    rintro ⟨al, y⟩ w7 Kn2 ⟨hy, x7, hal⟩ hKn2
    have hy : y ≤ f.n := hy
    have hal : al = lstK f m x y := hal
    have X7 := x5.trans x7
    have hB7 := hB4.ext X7
    (intro _; (try simp only [gx]); (with_reducible refine iFa ?_); refine iLdB (by assumption) (by first | rfl | simp) ?_; (with_reducible refine iLt ?_))
    refine iCndP (fun h7 => ?_) (fun h7 => ?_)
    · have hy1 : y < f.n := by omega
      have hsc := lstK_succ f m x y
      rw [← hal] at hsc
      refine iJnB (lstK f m x (y + 1)) w7 (fun J hJ => ?_) (fun w9 x9 => ?_)
      · refine iCnd (fun ha => ?_) (fun ha => ?_)
        · rw [ha, Bool.true_and] at hsc
          refine iEq (iCndP (fun he => ?_) (fun he => ?_))
          · have he : y = x := by omega
            rw [decide_eq_true he, Bool.true_or] at hsc
            rw [hsc] at hJ
            exact hJ w7 (Ext.refl _)
          · have he : ¬ y = x := fun e => he (by rw [e])
            rw [decide_eq_false he, Bool.false_or] at hsc
            refine iRet (ok_spec_l01Bit m y hm63 (by omega) w7) fun w10 x10 => ?_
            refine iNot ?_
            refine iCnd (fun hb => ?_) (fun hb => ?_)
            · rw [hb, Bool.true_or] at hsc
              rw [hsc] at hJ
              exact hJ w10 x10
            · rw [hb, Bool.false_or] at hsc
              refine iLdA (hB7.ext x10) rfl ?_
              refine iRet (ok_spec_l16Leq hf (hs.ext ((hX4.trans X7).trans x10)) y x hy1 (by omega)) fun w11 x11 => ?_
              refine iNot ?_
              rw [← hsc]
              exact hJ w11 (x10.trans x11)
        · rw [ha, Bool.false_and] at hsc
          rw [hsc] at hJ
          exact hJ w7 (Ext.refl _)
      · intro _
        simp only [gx]
        refine iAdd (by omega) ?_
        exact hKn2 (lstK f m x (y + 1), y + 1) _ ⟨by show y + 1 ≤ f.n; omega, x7.trans x9, rfl⟩ (by show f.n - (y + 1) < f.n - y; omega)
    · obtain rfl : y = f.n := by omega
      have hls := lstL_succ f m x
      rw [← hal] at hls
      refine iCnd (fun ha => ?_) (fun ha => ?_)
      · rw [if_pos ha] at hls
        refine iCall ((ok_spec_l02Var x w7).mono ?_)
        rintro q w12 ⟨x12, hq⟩
        have hE7 := hE.ext X7
        have hd := hE7.fresh (EF.one hq) (Nat.le_refl _)
        refine iBs1 rfl hq.cell fun b13 w13 hb13 x13 hB13 => ?_
        have hE13 : EF w1.heap.size w13 (L ++ [(q, .var x)]) := ((hE7.ext x12).app (EF.one (hq.mono (x4.trans X7).size)) hd).ext x13
        refine RF.appS (Ow.ext hR (X7.trans (x12.trans x13))) hE13 (Sl.ofBlk hB13 rfl (by omega)) (x4.trans (X7.trans (x12.trans x13))).size (by simp only [List.length_singleton]; omega) fun v' w14 hR14 hE14 hg14 => ?_
        refine iAdd (by omega) ?_
        refine hKn (v', x + 1) _ ⟨by show x + 1 ≤ f.n; omega, (x4.trans (X7.trans (x12.trans x13))).grown hg14 fun c hc => (Ow.blk hR c hc).1, _, hR14, hE14, ?_⟩ (by show f.n - (x + 1) < f.n - x; omega)
        show (L ++ [(q, Fm.var x)]).map Prod.snd = (lstL f m (x + 1)).map Fm.var
        rw [List.map_append, hL, hls, List.map_append]
        rfl
      · rw [if_neg (by rw [ha]; simp)] at hls
        refine iAdd (by omega) ?_
        exact hKn (o, x + 1) _ ⟨by show x + 1 ≤ f.n; omega, x4.trans X7, L, Ow.ext hR X7, hE.ext X7, by show L.map Prod.snd = (lstL f m (x + 1)).map Fm.var; rw [hls, hL]⟩ (by show f.n - (x + 1) < f.n - x; omega)
  · obtain rfl : x = f.n := by omega
    rw [lstL_end hf hm] at hL
    refine iCall ((ok_spec_l02All (Ow.sl hR) (fun p hp => (hE.1 p hp).sl) hL (by omega)).mono ?_)
    rintro r w3 ⟨x3, hr⟩
    exact ⟨hX4.trans x3, hr.mono hX4.size⟩
end Go.Proofs.YtikfhibcdhdglaaGreat

/- Contracts: premises and conclusion of Jankov's formulas, in the program and the reference. Conditions: none. -/
namespace Go.Vc
theorem flat_le {α β : Type} (m : Nat) (f : α → List β) : ∀ l : List α, (∀ a ∈ l, (f a).length ≤ m) → (l.flatMap f).length ≤ m * l.length
  | [], _ => by simp
  | a :: l, h => by
    rw [List.flatMap_cons, List.length_append, List.length_cons, Nat.mul_succ]
    have h1 := flat_le m f l fun x hx => h x (List.mem_cons_of_mem _ hx)
    have h2 := h a (by simp)
    omega
theorem pairsK_len {f : Fr} (hf : f.n ≤ 8) {x y : Nat} (hx : x ≤ 8) (hy : y ≤ 8) : (pairsK f x y).length ≤ 200 := by
  unfold pairsK
  rw [List.length_append]
  have hin : ∀ a (l : List Nat), (l.flatMap (pairF f a)).length ≤ 2 * l.length := fun a l => flat_le 2 _ l fun _ _ => Nat.le_refl _
  have h1 := flat_le 16 (fun x => ((List.range f.n).drop (x + 1)).flatMap (pairF f x)) (List.range x) fun a _ => by
    have := hin a ((List.range f.n).drop (a + 1))
    rw [List.length_drop, List.length_range] at this
    omega
  have h2 := hin x ((List.range y).drop (x + 1))
  rw [List.length_range] at h1
  rw [List.length_drop, List.length_range] at h2
  omega
theorem upsK_len {f : Fr} (hf : f.ok) {x k : Nat} (hx : x ≤ 8) : (upsK f x k).length ≤ 5000 := by
  unfold upsK
  rw [List.length_append]
  have hu := upsets_len hf
  have hin : ∀ a (l : List Nat), (l.flatMap (upF f a)).length ≤ 2 * l.length := fun a l => flat_le 2 _ l fun _ _ => Nat.le_refl _
  have h1 := flat_le 512 (fun x => (upsets f).flatMap (upF f x)) (List.range x) fun a _ => by have := hin a (upsets f); omega
  have h2 := hin x ((upsets f).take k)
  rw [List.length_range] at h1
  rw [List.length_take] at h2
  omega
theorem jnF_size {f : Fr} (hf : f.ok) {m : Nat} (hm : m < 2 ^ f.n) : (jnF f m).size ≤ 17 := by
  have h1 := orV_size (minL f m)
  have h2 := minL_len f m
  have h3 := mem_len hf hm
  have := hf.1
  show (orV (minL f m)).size ≤ 17
  omega
theorem impM_lt (f : Fr) (a b : Nat) : impM f a b < 2 ^ f.n := setOf_lt fun _ hy => List.mem_range.1 (List.mem_filter.1 hy).1
end Go.Vc
namespace Go.Proofs.YtikfhibcdhdglaaGreat
open Go.Vc
theorem ok_impl_arrow2 {v va vb : Value} {a b : Fm} {w : World} (hs : Sl w v [va, vb]) (ha : FmS w va a) (hb : FmS w vb b) (hsz : (Fm.imp a b).size ≤ 1099511627776) : Cal Tryz.prog f_impl_arrow #[v] w fun r w' => Ext w w' ∧ FmW w.heap.size w' r (.imp a b) := by
  apply c_impl_arrow; unfold S_impl_arrow
  refine iLenS hs ?_
  refine iSub (by simp) ?_
  refine iIa (j := 1) hs (by omega) (by simp) fun p hp => ?_
  have hp : w.cell? p = some vb := hp
  refine iLd hp ?_
  refine iLenS hs ?_
  refine iSub (by simp) ?_
  refine iLp (fun s : Value × Nat => [s.1, .int .i64 ((s.2 : Int) - 1)]) (fun s w' => (s.2 = 1 ∧ s.1 = vb ∧ w' = w) ∨ (s.2 = 0 ∧ Ext w w' ∧ FmW w.heap.size w' s.1 (.imp a b))) (fun s => s.2) (vb, 1) rfl (.inl ⟨rfl, rfl, rfl⟩) ?_
  rintro ⟨u, s⟩ w2 Kn (⟨h1, h2, h3⟩ | ⟨h1, x2, ho⟩) hKn
  · have h1 : s = 1 := h1
    have h2 : u = vb := h2
    subst h1; subst h2; subst h3
    intro _
    simp only [gx]
    refine iLe (iCndT (by decide) ?_)
    refine iIa (j := 0) hs (by omega) (by simp) fun p hp => ?_
    have hp : w2.cell? p = some va := hp
    refine iLd hp ?_
    refine iCall ((ok_impl_join (k := 4) (c := .imp a b) rfl rfl ha hb hsz).mono ?_)
    rintro r w3 ⟨x3, ho⟩
    refine iSub (by simp) ?_
    exact hKn (r, 0) _ (.inr ⟨rfl, x3, ho⟩) (by simp)
  · have h1 : s = 0 := h1
    subst h1
    intro _
    simp only [gx]
    refine iLe (iCndF (by decide) ?_)
    exact ⟨x2, ho⟩
/-- Both implications, appended. -/
theorem impl_both {lo : Nat} {w : World} {out va vb : Value} {L : List (Value × Fm)} {A B : Fm} {K : Value → World → Prop} (hR : RF lo w out L) (hE : EF lo w L) (ha : FmS w va A) (hb : FmS w vb B) (hsA : A.size ≤ 100) (hsB : B.size ≤ 100) (hlo : lo ≤ w.heap.size) (hL : L.length ≤ 90000)
    (hk : ∀ v' w' N, N.map Prod.snd = bothF A B → RF lo w' v' (L ++ N) → EF lo w' (L ++ N) → w.grownBy w' out.ownBlock → K v' w') :
    xBs t_Simpl_Node (Value.cells (.slice none 0 0)) 1 2 [(0, va), (1, vb)] w fun v51 w18 => callV Tryz.prog (.func (.func f_impl_arrow) #[] #[]) [v51] w18 fun v52 w19 => xBs t_Simpl_Node (Value.cells (.slice none 0 0)) 1 2 [(0, vb), (1, va)] w19 fun v55 w20 => callV Tryz.prog (.func (.func f_impl_arrow) #[] #[]) [v55] w20 fun v56 w21 => xBs t_Simpl_Node (Value.cells (.slice none 0 0)) 1 2 [(0, v52), (1, v56)] w21 fun v57 w22 => xOp Tryz.prog (Builtin.append_ #[t_SSimpl_Node, t_SSimpl_Node] t_SSimpl_Node #[out, v57]) w22 K := by
  have hca : isCell va = true := by obtain ⟨_, _, _, h, _⟩ := ha; rw [h]; rfl
  have hcb : isCell vb = true := by obtain ⟨_, _, _, h, _⟩ := hb; rw [h]; rfl
  refine iBs2 rfl hca hcb fun c1 w1 hc1 x1 hB1 => ?_
  refine iCall ((ok_impl_arrow2 (Sl.ofBlk (n := 2) hB1 rfl (by decide)) (SlK.ext ha x1) (SlK.ext hb x1) (by simp only [Fm.size]; omega)).mono ?_)
  rintro r1 w2 ⟨x2, h1⟩
  have X2 := x1.trans x2
  refine iBs2 rfl hcb hca fun c3 w3 hc3 x3 hB3 => ?_
  have X3 := X2.trans x3
  refine iCall ((ok_impl_arrow2 (Sl.ofBlk (n := 2) hB3 rfl (by decide)) (SlK.ext hb X3) (SlK.ext ha X3) (by simp only [Fm.size]; omega)).mono ?_)
  rintro r2 w4 ⟨x4, h2⟩
  have X4 := X3.trans x4
  refine iBs2 rfl h1.cell h2.cell fun c5 w5 hc5 x5 hB5 => ?_
  have X5 := X4.trans x5
  have h1' : FmW w1.heap.size w5 r1 (.imp A B) := OwK.ext h1 (x3.trans (x4.trans x5))
  have h2' : FmW w3.heap.size w5 r2 (.imp B A) := OwK.ext h2 x5
  have hN : EF w.heap.size w5 [(r1, .imp A B), (r2, .imp B A)] := by
    refine EF.app (A := [(r1, .imp A B)]) (EF.one (OwK.mono h1' x1.size)) (EF.one (OwK.mono h2' (X3.size))) ?_
    have hf := EF.fresh (w0 := w3) (EF.one (OwK.ext h1 x3)) (EF.one h2) (Nat.le_refl _)
    exact hf
  have hd := EF.fresh hE hN (Nat.le_refl _)
  refine RF.appS (Ow.ext hR X5) ((hE.ext X5).app (hN.mono hlo) hd) (Sl.ofBlk (n := 2) hB5 rfl (by decide)) (Nat.le_trans hlo X5.size) (by simp only [List.length_cons, List.length_nil]; omega) fun v' w' hR' hE' hg => hk v' w' _ rfl hR' hE' (grown_of_ext X5 hg)
theorem ok_spec_l21Both {w : World} {va vb : Value} {A B : Fm} (ha : FmS w va A) (hb : FmS w vb B) (hsA : A.size ≤ 100) (hsB : B.size ≤ 100) : Cal Tryz.prog f_spec_l21Both #[va, vb] w fun r w' => Ext w w' ∧ ∃ N, Sl w' r (N.map Prod.fst) ∧ EF w.heap.size w' N ∧ N.map Prod.snd = bothF A B := by
  apply c_spec_l21Both; unfold S_spec_l21Both
  refine iCall ((ok_spec_l02Pair (c := .imp A B) (k := 4) rfl rfl ha hb (by simp only [Fm.size]; omega)).mono ?_)
  rintro r1 w1 ⟨x1, h1⟩
  refine iCall ((ok_spec_l02Pair (c := .imp B A) (k := 4) rfl rfl (SlK.ext hb x1) (SlK.ext ha x1) (by simp only [Fm.size]; omega)).mono ?_)
  rintro r2 w2 ⟨x2, h2⟩
  refine iBs2 rfl h1.cell h2.cell fun c3 w3 hc3 x3 hB3 => ?_
  refine ⟨(x1.trans x2).trans x3, [(r1, .imp A B), (r2, .imp B A)], Sl.ofBlk (n := 2) hB3 rfl (by decide), ?_, rfl⟩
  have hf := EF.fresh (w0 := w1) (EF.one h1) (EF.one h2) (Nat.le_refl _)
  exact EF.app (A := [(r1, .imp A B)]) (EF.one (OwK.ext h1 (x2.trans x3))) (EF.one (OwK.mono (OwK.ext h2 x3) x1.size)) hf
theorem and_lt8 {f : Fr} (hf : f.ok) {x y : Nat} (hx : x < f.n) : f.a.getD x 0 &&& f.a.getD y 0 < 2 ^ f.n := Nat.lt_of_le_of_lt Nat.and_le_left (hf.lt hx)
theorem ok_impl_premises {f : Fr} (hf : f.ok) (hr : Rooted f) {w : World} {v : Value} (hs : SlN w v f.a) : Cal Tryz.prog f_impl_jankovPremises #[.agg #[.int .i64 (f.n : Int), v]] w fun r w' => Ext w w' ∧ ∃ L, RF w.heap.size w' r L ∧ EF w.heap.size w' L ∧ L.map Prod.snd = premF f := by
  apply c_impl_jankovPremises; unfold S_impl_jankovPremises
  have hf8 := hf.1
  have hfl := hf.2.1
  refine iNew fun b w1 hb x1 hB => ?_
  refine iLdA hB rfl ?_
  refine iRet (ok_impl_root hf hr (hs.ext x1)) fun w2 x2 => ?_
  refine iCall ((ok_impl_variable (rootN f) w2).mono ?_)
  rintro y w3 ⟨x3, hy⟩
  refine iBs1 rfl hy.cell fun c w4 hc4 x4 hB4 => ?_
  have hX4 := ((x1.trans x2).trans x3).trans x4
  have x14 := (x2.trans x3).trans x4
  have hz2 := x2.size
  have hR4 : RF w1.heap.size w4 (.slice (some ⟨c, 0, none⟩) 1 1) [(y, .var (rootN f))] := Ow.ofBlk (n := 1) hB4 (by have := (x2.trans x3).size; omega) rfl (by decide)
  have hE4 : EF w1.heap.size w4 [(y, .var (rootN f))] := EF.one (OwK.mono (OwK.ext hy x4) hz2)
  have hB1 := hB.ext x14
  ((with_reducible refine iFa ?_); refine iLdB (by assumption) (by first | rfl | simp) ?_)
  refine iLp (fun s : Value × Nat => [s.1, .int .i64 (s.2 : Int)]) (fun s w' => s.2 ≤ f.n ∧ Ext w1 w' ∧ ∃ L, RF w1.heap.size w' s.1 L ∧ EF w1.heap.size w' L ∧ L.map Prod.snd = [.var (rootN f)] ++ pairsK f s.2 0) (fun s => f.n - s.2) (.slice (some ⟨c, 0, none⟩) 1 1, 0) rfl ⟨Nat.zero_le _, x14, _, hR4, hE4, by rw [pairsK_zero]; rfl⟩ ?_
  rintro ⟨o, x⟩ w6 Kn ⟨hx, x6, L, hR, hE, hL⟩ hKn
  have hx : x ≤ f.n := hx
  have hR : RF w1.heap.size w6 o L := hR
  have hL : L.map Prod.snd = [.var (rootN f)] ++ pairsK f x 0 := hL
  intro _
  simp only [gx]
  refine iLt (iCndP (fun h => ?_) (fun h => ?_))
  · have hx1 : x < f.n := by omega
    refine iAdd (by omega) ?_
    have ex : (x : Int) + 1 = ((x + 1 : Nat) : Int) := by omega
    rw [ex]
    refine iLp (fun s : Value × Nat => [s.1, .int .i64 (s.2 : Int)]) (fun s w' => x + 1 ≤ s.2 ∧ s.2 ≤ f.n ∧ Ext w1 w' ∧ ∃ L, RF w1.heap.size w' s.1 L ∧ EF w1.heap.size w' L ∧ L.map Prod.snd = [.var (rootN f)] ++ pairsK f x s.2) (fun s => f.n - s.2) (o, x + 1) rfl ⟨Nat.le_refl _, hx1, x6, L, hR, hE, by rw [hL]; show _ = [Fm.var (rootN f)] ++ pairsK f x (x + 1); rw [pairsK_start]⟩ ?_
    rintro ⟨o2, y⟩ w8 Kn2 ⟨hy1, hy2, x8, M, hRM, hEM, hM⟩ hKn2
    have hy1 : x + 1 ≤ y := hy1
    have hy2 : y ≤ f.n := hy2
    have hRM : RF w1.heap.size w8 o2 M := hRM
    have hM : M.map Prod.snd = [.var (rootN f)] ++ pairsK f x y := hM
    have hB8 := hB.ext x8
    have hs8 := hs.ext (x1.trans x8)
    have hMl : M.length ≤ 300 := by
      have h1 := congrArg List.length hM
      have h2 := pairsK_len hf8 (x := x) (y := y) (by omega) (by omega)
      rw [List.length_map, List.length_append, List.length_singleton] at h1
      omega
    (intro _; (try simp only [gx]); (with_reducible refine iFa ?_); refine iLdB (by assumption) (by first | rfl | simp) ?_; (with_reducible refine iLt ?_))
    refine iCndP (fun h8 => ?_) (fun h8 => ?_)
    · have hy3 : y < f.n := by omega
      have hax := hf.lt hx1
      have hay := hf.lt hy3
      have h28 : 2 ^ f.n ≤ 2 ^ 8 := Nat.pow_le_pow_right (by omega) hf8
      ((with_reducible refine iLdA (by assumption) ?_ ?_); rfl; (with_reducible refine iFa ?_); refine iLdB (by assumption) (by first | rfl | simp) ?_; (with_reducible refine iIaNN (by assumption) ?_ (fun pa_ hpa_ => ?_)); omega; (with_reducible refine iLd (by assumption) ?_; refine iFa ?_); refine iLdB (by assumption) (by first | rfl | simp) ?_; (with_reducible refine iIaNN (by assumption) ?_ (fun pa_ hpa_ => ?_)); omega; (with_reducible refine iLd (by assumption) ?_))
      refine iBAnd (by omega) (by omega) ?_
      intro w9 x9
      refine iCall ((ok_impl_variable x w9).mono ?_)
      rintro a1 w10 ⟨x10, h10⟩
      refine ⟨x10, fun w11 x11 => ?_⟩
      refine iCall ((ok_impl_variable y w11).mono ?_)
      rintro a2 w12 ⟨x12, h12⟩
      refine ⟨x12, fun w13 x13 => ?_⟩
      refine iCall ((ok_impl_join (c := .and (.var x) (.var y)) (k := 2) rfl rfl (SlK.ext h10.sl (x11.trans (x12.trans x13))) (SlK.ext h12.sl x13) (by simp only [Fm.size]; omega)).mono ?_)
      rintro a3 w14 ⟨x14, h14⟩
      refine ⟨x14, fun w15 x15 => ?_⟩
      have X15 : Ext w8 w15 := (x9.trans (x10.trans (x11.trans (x12.trans x13)))).trans (x14.trans x15)
      refine iCall ((ok_impl_joined hf (hs8.ext X15) _ (and_lt8 hf hx1)).mono ?_)
      rintro a4 w16 ⟨x16, h16⟩
      intro w17 x17
      have X17 : Ext w8 w17 := X15.trans (x16.trans x17)
      refine impl_both (A := .and (.var x) (.var y)) (B := jnF f (f.a.getD x 0 &&& f.a.getD y 0)) (Ow.ext hRM X17) (hEM.ext X17) (SlK.ext h14.sl (x15.trans (x16.trans x17))) (SlK.ext h16.sl x17) (by simp only [Fm.size]; omega) (by have := jnF_size hf (m := f.a.getD x 0 &&& f.a.getD y 0) (and_lt8 hf hx1); omega) (x8.trans X17).size (by omega) fun v' w' N hN hR' hE' hg => ?_
      refine iAdd (by omega) ?_
      refine hKn2 (v', y + 1) _ ⟨by show x + 1 ≤ y + 1; omega, by show y + 1 ≤ f.n; omega, (x8.trans X17).grown hg fun c hc => (Ow.blk hRM c hc).1, M ++ N, hR', hE', ?_⟩ (by show f.n - (y + 1) < f.n - y; omega)
      show (M ++ N).map Prod.snd = [.var (rootN f)] ++ pairsK f x (y + 1)
      rw [List.map_append, hM, hN, pairsK_step f x y hy1, List.append_assoc]; rfl
    · obtain rfl : y = f.n := by omega
      refine iAdd (by omega) ?_
      refine hKn (o2, x + 1) _ ⟨by show x + 1 ≤ f.n; omega, x8, M, hRM, hEM, ?_⟩ (by show f.n - (x + 1) < f.n - x; omega)
      rw [hM, pairsK_row]
  · obtain rfl : x = f.n := by omega
    have hB6 := hB.ext x6
    ((with_reducible refine iFa ?_); refine iLdB (by assumption) (by first | rfl | simp) ?_)
    refine iLp (fun s : Value × Nat => [s.1, .int .i64 (s.2 : Int)]) (fun s w' => s.2 ≤ f.n ∧ Ext w1 w' ∧ ∃ L, RF w1.heap.size w' s.1 L ∧ EF w1.heap.size w' L ∧ L.map Prod.snd = [.var (rootN f)] ++ pairsK f f.n 0 ++ upsK f s.2 0) (fun s => f.n - s.2) (o, 0) rfl ⟨Nat.zero_le _, x6, L, hR, hE, by rw [upsK_zero, List.append_nil]; exact hL⟩ ?_
    rintro ⟨o2, x⟩ w25 Kn2 ⟨hx2, x25, M, hRM, hEM, hM⟩ hKn2
    have hx2 : x ≤ f.n := hx2
    have hRM : RF w1.heap.size w25 o2 M := hRM
    have hM : M.map Prod.snd = [.var (rootN f)] ++ pairsK f f.n 0 ++ upsK f x 0 := hM
    intro _
    simp only [gx]
    refine iLt (iCndP (fun h => ?_) (fun h => ?_))
    · have hx1 : x < f.n := by omega
      refine iLdA (hB.ext x25) rfl ?_
      refine iCall ((ok_impl_Poset_upsets hf (hs.ext (x1.trans x25))).mono ?_)
      rintro uv w26 ⟨x26, hu⟩
      have hul := upsets_len hf
      have hus : SlN w26 uv (upsets f) := hu.sl
      ((with_reducible refine iLenN (by assumption) ?_))
      refine iLp (fun s : Value × Nat => [s.1, .int .i64 (s.2 : Int)]) (fun s w' => s.2 ≤ (upsets f).length ∧ Ext w1 w' ∧ Ow 0 t_i64 w' uv (ints (nats (upsets f))) ∧ ∃ L, RF w1.heap.size w' s.1 L ∧ EF w1.heap.size w' L ∧ L.map Prod.snd = [.var (rootN f)] ++ pairsK f f.n 0 ++ upsK f x s.2) (fun s => (upsets f).length - s.2) (o2, 0) rfl ⟨Nat.zero_le _, x25.trans x26, hu.mono (Nat.zero_le _), M, Ow.ext hRM x26, hEM.ext x26, hM⟩ ?_
      rintro ⟨o3, k⟩ w28 Kn3 ⟨hk, x28, y28, M3, hR3, hE3, hM3⟩ hKn3
      have hk : k ≤ (upsets f).length := hk
      have hR3 : RF w1.heap.size w28 o3 M3 := hR3
      have hM3 : M3.map Prod.snd = [.var (rootN f)] ++ pairsK f f.n 0 ++ upsK f x k := hM3
      have hB28 := hB.ext x28
      have hs28 := hs.ext (x1.trans x28)
      have hus28 : SlN w28 uv (upsets f) := y28.sl
      have hMl : M3.length ≤ 6000 := by
        have h1 := congrArg List.length hM3
        have h2 := pairsK_len hf8 (x := f.n) (y := 0) hf8 (by omega)
        have h3 := upsK_len hf (x := x) (k := k) (by omega)
        rw [List.length_map, List.length_append, List.length_append, List.length_singleton] at h1
        omega
      intro _
      simp only [gx]
      refine iLt (iCndP (fun h28 => ?_) (fun h28 => ?_))
      · have hk1 : k < (upsets f).length := by omega
        have hul2 : (upsets f).getD k 0 < 2 ^ f.n := upsets_lt (getD_mem hk1)
        have hue : (upsets f).getD k 0 = (upsets f)[k] := by simp [List.getD_eq_getElem?_getD, hk1]
        ((with_reducible refine iIaNN (by assumption) ?_ (fun pa_ hpa_ => ?_)); omega; (with_reducible refine iLd (by assumption) ?_); (with_reducible refine iLdA (by assumption) ?_ ?_); rfl; (with_reducible refine iLdA (by assumption) ?_ ?_); rfl; (with_reducible refine iLdA (by assumption) ?_ ?_); rfl; (with_reducible refine iFa ?_); refine iLdB (by assumption) (by first | rfl | simp) ?_; (with_reducible refine iIaNN (by assumption) ?_ (fun pa_ hpa_ => ?_)); omega; (with_reducible refine iLd (by assumption) ?_))
        intro w29 x29
        refine iCall ((ok_impl_variable x w29).mono ?_)
        rintro a1 w30 ⟨x30, h30⟩
        refine ⟨x30, fun w31 x31 => ?_⟩
        have X31 : Ext w28 w31 := x29.trans (x30.trans x31)
        refine iCall ((ok_impl_joined hf (hs28.ext X31) _ hul2).mono ?_)
        rintro a2 w32 ⟨x32, h32⟩
        refine ⟨x32, fun w33 x33 => ?_⟩
        have h30' := OwK.ext h30 (x31.trans (x32.trans x33))
        have h32' := OwK.ext h32 x33
        refine iBs2 rfl h30'.cell h32'.cell fun c34 w34 hc34 x34 hB34 => ⟨x34, fun w35 x35 => ?_⟩
        have sz1 := jnF_size hf hul2
        refine iCall ((ok_impl_arrow2 (Sl.ofBlk (n := 2) (hB34.ext x35) rfl (by decide)) (OwK.ext h30' (x34.trans x35)).sl (OwK.ext h32' (x34.trans x35)).sl (by simp only [Fm.size]; omega)).mono ?_)
        rintro a3 w36 ⟨x36, h36⟩
        have X36 : Ext w28 w36 := X31.trans ((x32.trans x33).trans (x34.trans (x35.trans x36)))
        refine ⟨x36, ?_⟩
        refine iRetQ (fun w' h' => ok_impl_imply hf (hs28.ext (X36.trans h')) _ _ (hf.lt hx1) hul2) ?_
        intro w37 x37
        refine iCall ((ok_impl_joined hf (hs28.ext (X36.trans x37)) _ (impM_lt f _ _)).mono ?_)
        rintro a4 w38 ⟨x38, h38⟩
        intro w39 x39
        have X39 : Ext w28 w39 := X36.trans (x37.trans (x38.trans x39))
        refine impl_both (A := .imp (.var x) (jnF f ((upsets f).getD k 0))) (B := jnF f (impM f (f.a.getD x 0) ((upsets f).getD k 0))) (Ow.ext hR3 X39) (hE3.ext X39) (SlK.ext h36.sl (x37.trans (x38.trans x39))) (SlK.ext h38.sl x39) (by simp only [Fm.size]; omega) (by have := jnF_size hf (impM_lt f (f.a.getD x 0) ((upsets f).getD k 0)); omega) (x28.trans X39).size (by omega) fun v' w' N hN hR' hE' hg => ?_
        refine iAdd (by omega) ?_
        refine hKn3 (v', k + 1) _ ⟨by show k + 1 ≤ (upsets f).length; omega, (x28.trans X39).grown hg fun c hc => (Ow.blk hR3 c hc).1, ?_, M3 ++ N, hR', hE', ?_⟩ (by show (upsets f).length - (k + 1) < (upsets f).length - k; omega)
        · exact (y28.ext X39).ch (grown_ch (S := fun c => o3.ownBlock = some c) hg fun c hc => hc) fun c hc hc' => (y28.ext X39).ne_ow (Ow.ext hR3 X39) (by decide) hc hc'
        · rw [List.map_append, hM3, hN]
          show _ = [Fm.var (rootN f)] ++ pairsK f f.n 0 ++ upsK f x (k + 1)
          rw [upsK_step f x k hk1, ← hue, List.append_assoc, List.append_assoc, List.append_assoc]
          rfl
      · obtain rfl : k = (upsets f).length := by omega
        refine iAdd (by omega) ?_
        refine hKn2 (o3, x + 1) _ ⟨by show x + 1 ≤ f.n; omega, x28, M3, hR3, hE3, ?_⟩ (by show f.n - (x + 1) < f.n - x; omega)
        rw [hM3, upsK_row]
    · obtain rfl : x = f.n := by omega
      exact ⟨x1.trans x25, M, Ow.mono hRM x1.size, hEM.mono x1.size, hM⟩
end Go.Proofs.YtikfhibcdhdglaaGreat

/- Contracts: where a formula is forced on a poset, by the program's stack. Conditions: none. -/
namespace Go.Proofs.YtikfhibcdhdglaaGreat
open Go.Vc
/-- Variables below 6, no modalities. -/
def Fm.pl : Fm → Prop
  | .var v => v < 6
  | .fls => True
  | .and a b => Fm.pl a ∧ Fm.pl b
  | .or a b => Fm.pl a ∧ Fm.pl b
  | .imp a b => Fm.pl a ∧ Fm.pl b
  | .box _ => False
  | .dia _ => False
theorem pl_kids {f : Fm} (h : Fm.pl f) : ∀ g ∈ f.kids, Fm.pl g := by
  intro g hg
  cases f with
  | var v => cases hg
  | fls => cases hg
  | and a b => simp only [Fm.kids, List.mem_cons, List.not_mem_nil, or_false] at hg; rcases hg with rfl | rfl <;> first | exact h.1 | exact h.2
  | or a b => simp only [Fm.kids, List.mem_cons, List.not_mem_nil, or_false] at hg; rcases hg with rfl | rfl <;> first | exact h.1 | exact h.2
  | imp a b => simp only [Fm.kids, List.mem_cons, List.not_mem_nil, or_false] at hg; rcases hg with rfl | rfl <;> first | exact h.1 | exact h.2
  | box a => exact h.elim
  | dia a => exact h.elim
/-- The formulas of which what begins at node n is made. -/
def sfx : List Fm → Nat → List Fm
  | fs, 0 => fs
  | [], _ + 1 => []
  | f :: fs, n + 1 => sfx (f.kids ++ fs) n
theorem sfx_succ : ∀ (n : Nat) (fs : List Fm), sfx fs (n + 1) = match sfx fs n with | f :: r => f.kids ++ r | [] => []
  | 0, [] => rfl
  | 0, f :: fs => by simp [sfx]
  | n + 1, [] => rfl
  | n + 1, f :: fs => sfx_succ n (f.kids ++ fs)
theorem sfx_size : ∀ (n : Nat) (fs : List Fm), sizeL (sfx fs n) = sizeL fs - n
  | 0, fs => by simp [sfx]
  | n + 1, [] => by simp [sfx, sizeL]
  | n + 1, f :: fs => by
    show sizeL (sfx (f.kids ++ fs) n) = _
    have h1 := f.size_kids
    rw [sfx_size n, sizeL_app, show sizeL (f :: fs) = f.size + sizeL fs by simp [sizeL]]
    omega
theorem sfx_cells : ∀ (n : Nat) (fs : List Fm), (cellsL fs).drop (n * 2) = cellsL (sfx fs n)
  | 0, fs => by simp [sfx]
  | n + 1, [] => by simp [sfx, cellsL]
  | n + 1, f :: fs => by
    show _ = cellsL (sfx (f.kids ++ fs) n)
    rw [← sfx_cells n, cellsL_app, show cellsL (f :: fs) = f.cells ++ cellsL fs by simp [cellsL], f.cells_kids, List.append_assoc, show (n + 1) * 2 = n * 2 + 2 by omega, ← List.drop_drop]
    rw [show (nd f.kind f.sym ++ (cellsL f.kids ++ cellsL fs)).drop (n * 2) = (nd f.kind f.sym ++ (cellsL f.kids ++ cellsL fs)).drop (n * 2) from rfl, List.drop_drop, show n * 2 + 2 = 2 + n * 2 by omega, ← List.drop_drop]
    rfl
theorem sfx_all {Q : Fm → Prop} (hQ : ∀ f, Q f → ∀ g ∈ f.kids, Q g) : ∀ (n : Nat) (fs : List Fm), (∀ f ∈ fs, Q f) → ∀ f ∈ sfx fs n, Q f
  | 0, fs, h => by simpa [sfx] using h
  | n + 1, [], h => by simp [sfx]
  | n + 1, f :: fs, h => by
    show ∀ g ∈ sfx (f.kids ++ fs) n, Q g
    refine sfx_all hQ n _ fun g hg => ?_
    rcases List.mem_append.1 hg with hg | hg
    · exact hQ f (h f List.mem_cons_self) g hg
    · exact h g (List.mem_cons_of_mem _ hg)
/-- The stack when nodes from n on are done. -/
def stk (f : Fr) (V : Nat → Nat) (a : Fm) (n : Nat) : List Nat := ((sfx [a] n).map (frc f V)).reverse
theorem frc_lt2 {f : Fr} {V : Nat → Nat} (hV : ∀ v, V v < 2 ^ f.n) : ∀ a, frc f V a < 2 ^ f.n
  | .var v => hV v
  | .fls => Nat.two_pow_pos _
  | .and _ b => Nat.and_lt_two_pow _ (frc_lt2 hV b)
  | .or a b => Nat.or_lt_two_pow (frc_lt2 hV a) (frc_lt2 hV b)
  | .imp _ _ => impM_lt _ _ _
  | .box _ => Nat.two_pow_pos _
  | .dia _ => Nat.two_pow_pos _
theorem ok_forced_1 {lo b : Nat} {e : TypeId} {w : World} {v x : Value} {xs : List Value} (hB : Blk e w b [v]) (ho : Ow lo t_i64 w v (xs ++ [x])) (hne : t_i64 ≠ e) :
    Cal Tryz.prog f_impl_Poset_forced_1 #[.pointer (some ⟨b, 0, none⟩)] w fun r w' => r = x ∧ ∃ v', Blk e w' b [v'] ∧ Ow lo t_i64 w' v' xs ∧ Ch (fun c => c = b) w w' := by
  have hl := ho.sl.len
  rw [List.length_append, List.length_singleton] at hl
  apply c_impl_Poset_forced_1; unfold S_impl_Poset_forced_1
  refine iLdB hB (v := v) rfl (iLdB hB (v := v) rfl ?_)
  refine iLenS ho.sl ?_
  rw [List.length_append, List.length_singleton]
  refine iSub (by omega) ?_
  rw [show ((xs.length + 1 : Nat) : Int) - 1 = (xs.length : Int) by omega]
  refine iIa (j := (xs.length : Int)) ho.sl (by omega) (by simp; omega) fun p hp => ?_
  refine iLd (v := x) (by rw [hp]; simp) ?_
  refine iLdB hB (v := v) rfl (iLdB hB (v := v) rfl ?_)
  refine iLenS ho.sl ?_
  rw [List.length_append, List.length_singleton]
  refine iSub (by omega) ?_
  rw [show ((xs.length + 1 : Nat) : Int) - 1 = (xs.length : Int) by omega]
  refine iSlDown ho fun v' hb' ho' => ?_
  have hnb : v'.ownBlock ≠ some b := by rw [hb']; exact ho.ne_blk hB hne
  refine iStB hB (i := 0) (by simp) ho'.cell fun hB' => ?_
  exact ⟨rfl, v', hB', ho'.other hnb _, (Upd.setCell w b 0 v').ch rfl⟩
theorem ok_impl_forced {f : Fr} (hf : f.ok) {va vv vn : Value} {w : World} (hs : SlN w va f.a) {vals : List Nat} (hv : SlN w vv vals) (h6 : vals.length = 6) (hlt : ∀ x ∈ vals, x < 2 ^ f.n) {a : Fm} (ha : FmS w vn a) (hpl : Fm.pl a) (hsz : a.size ≤ 1000000) :
    Ret Tryz.prog f_impl_Poset_forced #[.agg #[.int .i64 (f.n : Int), va], vv, vn] w (.int .i64 ((frc f (fun v => vals.getD v 0) a : Nat) : Int)) := by
  obtain ⟨V, hVe⟩ : ∃ V : Nat → Nat, V = fun v => vals.getD v 0 := ⟨_, rfl⟩
  rw [← hVe]
  have hV : ∀ v, V v < 2 ^ f.n := fun v => by
    rw [hVe]
    show vals.getD v 0 < _
    rcases Nat.lt_or_ge v vals.length with h | h
    · exact getD_lt hlt h
    · rw [List.getD_eq_getElem?_getD, List.getElem?_eq_none h]; exact Nat.two_pow_pos _
  have h63 : ∀ g, frc f V g < 2 ^ 63 := fun g => Nat.lt_of_lt_of_le (frc_lt2 hV g) (Nat.pow_le_pow_right (by omega) (by have := hf.1; omega))
  apply c_impl_Poset_forced; unfold S_impl_Poset_forced
  refine iNew fun b3 w1 hb3 x1 hB3 => ?_
  have hB3 : Blk _ w1 b3 [.int .i64 (f.n : Int), va] := hB3
  refine iNew fun b7 w2 hb7 x2 hB7 => ?_
  have hB7 : Blk _ w2 b7 [.slice none 0 0] := hB7
  have hx := x1.trans x2
  refine iLenK (ha.ext hx) ?_
  refine iSub (by omega) ?_
  have hlo : w.heap.size ≤ w2.heap.size := hx.size
  have hsa : sizeL [a] = a.size := by simp [sizeL]
  refine iLp (fun n : Nat => [.int .i64 ((n : Int) - 1)]) (fun n w' => n ≤ a.size ∧ Ext w w' ∧ Blk 26 w' b3 [.int .i64 (f.n : Int), va] ∧ ∃ v, Blk 24 w' b7 [v] ∧ Ow w.heap.size t_i64 w' v (ints (nats (stk f V a n)))) (fun n => n) a.size rfl ⟨Nat.le_refl _, hx, hB3.ext x2, _, hB7, ?_⟩ ?_
  · have : stk f V a a.size = [] := by
      have h1 := sfx_size a.size [a]
      rw [hsa, Nat.sub_self] at h1
      have h2 := sizeL_len (sfx [a] a.size)
      have : sfx [a] a.size = [] := List.length_eq_zero_iff.1 (by omega)
      unfold stk; rw [this]; rfl
    rw [this]
    exact Ow.nil _ _ _
  rintro n w4 Kn ⟨hn, x4, hB3, v, hB7, ho⟩ hKn
  intro _
  simp only [gx]
  have hs4 := hs.ext x4
  have hv4 := hv.ext x4
  have ha4 := ha.ext x4
  have hsub : ∀ {w'}, Ch (fun c => c = b7) w4 w' → Ext w w' := fun hc => x4.thenCh hc fun c h => by subst h; have := x1.size; omega
  refine iLe (iCndP (fun h => ?_) (fun h => ?_))
  · obtain ⟨m, rfl⟩ : ∃ m, n = m + 1 := ⟨n - 1, by omega⟩
    have hm : m < a.size := by omega
    rw [show ((m + 1 : Nat) : Int) - 1 = (m : Int) by omega]
    obtain ⟨g, r, hg⟩ : ∃ g r, sfx [a] m = g :: r := by
      have h1 := sfx_size m [a]
      rw [hsa] at h1
      cases hc : sfx [a] m with
      | nil => rw [hc] at h1; simp [sizeL] at h1; omega
      | cons g r => exact ⟨g, r, rfl⟩
    have hpg : Fm.pl g := sfx_all (Q := Fm.pl) (fun _ h => pl_kids h) m [a] (by simpa using hpl) g (by rw [hg]; simp)
    have hcell : a.cells.drop (m * 2) = cellsL (g :: r) ++ [] := by
      rw [List.append_nil, ← hg, ← sfx_cells]; simp [cellsL]
    obtain ⟨hk, hsy, -⟩ := kind_at hcell
    have hnext : sfx [a] (m + 1) = g.kids ++ r := by rw [sfx_succ, hg]
    have hst : stk f V a (m + 1) = (r.map (frc f V)).reverse ++ (g.kids.map (frc f V)).reverse := by
      unfold stk; rw [hnext, List.map_append, List.reverse_append]
    have hst0 : stk f V a m = (r.map (frc f V)).reverse ++ [frc f V g] := by
      unfold stk; rw [hg, List.map_cons, List.reverse_cons]
    rw [hst] at ho
    -- the way on: the stack without the parts, and the value
    have go : ∀ w6 v6, Ext w w6 → Blk 26 w6 b3 [.int .i64 (f.n : Int), va] → Blk 24 w6 b7 [v6] → Ow w.heap.size t_i64 w6 v6 (ints (nats ((r.map (frc f V)).reverse))) →
        xLd w6 (.pointer (some ⟨b7, 0, none⟩)) fun v58 => xBs t_i64 (Value.cells (.int .i64 0)) 1 1 [(0, (.int .i64 ((frc f V g : Nat) : Int)))] w6 fun v60 w21 => xOp Tryz.prog (Builtin.append_ #[24, 24] 24 #[v58, v60]) w21 fun v61 w22 =>
        xSt w22 (.pointer (some ⟨b7, 0, none⟩)) v61 fun w23 => xSub .i64 (.int .i64 (m : Int)) (.int .i64 1) fun v19 => Kn [v19] w23 := by
      intro w6 v6 x6 hB36 hB76 ho6
      refine iLdB hB76 (v := v6) rfl ?_
      have hrl : r.length ≤ a.size := by
        have h1 := sfx_size m [a]
        rw [hsa, hg] at h1
        have h2 := sizeL_len (g :: r)
        rw [List.length_cons] at h2
        omega
      refine iApp1 u_Si64 i_Si64 rfl ho6 rfl (by simp [ints, nats]; omega) (by simp [ints, nats]; omega) (by have := x6.size; omega) fun v7 w7 ho7 hg7 => ?_
      have hnb6 := ho6.ne_blk hB76 (show t_i64 ≠ 24 by decide)
      have hB77 : Blk 24 w7 b7 [v6] := by
        unfold Blk at hB76 ⊢
        rw [hg7.block b7 (heap_lt hB76) fun e => hnb6 e.symm]; exact hB76
      have hnb3 := ho6.ne_blk hB36 (show t_i64 ≠ 26 by decide)
      have hB37 : Blk 26 w7 b3 [.int .i64 (f.n : Int), va] := by
        unfold Blk at hB36 ⊢
        rw [hg7.block b3 (heap_lt hB36) fun e => hnb3 e.symm]; exact hB36
      have x7 : Ext w w7 := x6.grown hg7 fun b hb => (ho6.blk b hb).1
      refine iStB hB77 (i := 0) (by simp) ho7.cell fun hB78 => ?_
      have hnb7 := ho7.ne_blk hB77 (show t_i64 ≠ 24 by decide)
      refine iSub (by omega) ?_
      refine hKn m _ ⟨by omega, ?_, hB37.other (hB37.ne_blk hB77 (by decide)) _, v7, hB78, ?_⟩ (by omega)
      · exact ext_set x7 (by have := x1.size; show w.heap.size ≤ b7; omega) _
      · have := ho7.other (i := 0) hnb7 v7
        rw [hst0]
        simpa [ints, nats] using this
    refine iFld (f := 0) ha4 rfl hm (by decide) hk ?_
    cases g with
    | var z =>
      refine iEq (iCndT (by first | rfl | decide) ?_)
      refine iFld (f := 1) ha4 rfl hm (by decide) hsy ?_
      have hz : z < 6 := hpg
      refine iIaNN (j := z) hv4 (by omega) fun p hp => iLd hp ?_
      intro _
      simp only [gx]
      have e : frc f V (.var z) = vals.getD z 0 := by simp only [frc, hVe]
      have := go w4 v x4 hB3 hB7 (by simpa [Fm.kids] using ho)
      rw [e] at this
      exact this
    | fls =>
      refine iEq (iCndF (by first | rfl | decide) ?_)
      refine iEq (iCndF (by first | rfl | decide) ?_)
      refine iEq (iCndF (by first | rfl | decide) ?_)
      refine iEq (iCndF (by first | rfl | decide) ?_)
      intro _; intro _; intro _; intro _
      simp only [gx]
      exact go w4 v x4 hB3 hB7 (by simpa [Fm.kids] using ho)
    | and p q =>
      refine iEq (iCndF (by first | rfl | decide) ?_)
      refine iEq (iCndT (by first | rfl | decide) ?_)
      have ho : Ow w.heap.size t_i64 w4 v (ints (nats ((r.map (frc f V)).reverse)) ++ [.int .i64 ((frc f V q : Nat) : Int)] ++ [.int .i64 ((frc f V p : Nat) : Int)]) := by simpa [Fm.kids, ints, nats] using ho
      refine iClo rfl ((ok_forced_1 hB7 ho (by decide)).mono ?_)
      rintro u1 w5 ⟨rfl, v5, hB75, ho5, c5⟩
      refine iClo rfl ((ok_forced_1 hB75 ho5 (by decide)).mono ?_)
      rintro u2 w6 ⟨rfl, v6, hB76, ho6, c6⟩
      refine iBAnd (h63 _) (h63 _) ?_
      intro _; intro _
      simp only [gx]
      have c46 : Ch (fun c => c = b7) w4 w6 := c5.trans c6 fun b hb => .inl hb
      exact go w6 v6 (hsub c46) (hB3.ch c46 (hB3.ne_blk hB7 (by decide))) hB76 ho6
    | or p q =>
      refine iEq (iCndF (by first | rfl | decide) ?_)
      refine iEq (iCndF (by first | rfl | decide) ?_)
      refine iEq (iCndT (by first | rfl | decide) ?_)
      have ho : Ow w.heap.size t_i64 w4 v (ints (nats ((r.map (frc f V)).reverse)) ++ [.int .i64 ((frc f V q : Nat) : Int)] ++ [.int .i64 ((frc f V p : Nat) : Int)]) := by simpa [Fm.kids, ints, nats] using ho
      refine iClo rfl ((ok_forced_1 hB7 ho (by decide)).mono ?_)
      rintro u1 w5 ⟨rfl, v5, hB75, ho5, c5⟩
      refine iClo rfl ((ok_forced_1 hB75 ho5 (by decide)).mono ?_)
      rintro u2 w6 ⟨rfl, v6, hB76, ho6, c6⟩
      refine iBOr (h63 _) (h63 _) ?_
      intro _; intro _; intro _
      simp only [gx]
      have c46 : Ch (fun c => c = b7) w4 w6 := c5.trans c6 fun b hb => .inl hb
      exact go w6 v6 (hsub c46) (hB3.ch c46 (hB3.ne_blk hB7 (by decide))) hB76 ho6
    | imp p q =>
      refine iEq (iCndF (by first | rfl | decide) ?_)
      refine iEq (iCndF (by first | rfl | decide) ?_)
      refine iEq (iCndF (by first | rfl | decide) ?_)
      refine iEq (iCndT (by first | rfl | decide) ?_)
      have ho : Ow w.heap.size t_i64 w4 v (ints (nats ((r.map (frc f V)).reverse)) ++ [.int .i64 ((frc f V q : Nat) : Int)] ++ [.int .i64 ((frc f V p : Nat) : Int)]) := by simpa [Fm.kids, ints, nats] using ho
      refine iClo rfl ((ok_forced_1 hB7 ho (by decide)).mono ?_)
      rintro u1 w5 ⟨rfl, v5, hB75, ho5, c5⟩
      have hB35 := hB3.ch c5 (hB3.ne_blk hB7 (by decide))
      refine ⟨fun c => c = b7, iLdA hB35 rfl ⟨fun w7 c7 => iLdA (hB35.ch c7 (hB35.ne_blk hB75 (by decide))) rfl rfl, fun w6 x6 => ?_⟩⟩
      have hB76 := hB75.ext x6
      refine iClo rfl ((ok_forced_1 hB76 (ho5.ext x6) (by decide)).mono ?_)
      rintro u2 w7 ⟨rfl, v7, hB77, ho7, c7⟩
      refine ⟨c7, _, fun w8 c8 => iCall ((ok_impl_imply hf ?_ _ _ (frc_lt2 hV p) (frc_lt2 hV q)).mono fun _ _ h => h), ?_⟩
      · have c48 : Ch (fun c => c = b7) w4 w8 := ((c5.trans x6.ch (S' := fun c => c = b7) fun b hb => .inl hb).trans c7 fun b hb => .inl hb).trans c8 fun b hb => .inl hb
        exact hs.ext (hsub c48)
      · intro w8 x8
        have c48 : Ch (fun c => c = b7) w4 w8 := ((c5.trans x6.ch (S' := fun c => c = b7) fun b hb => .inl hb).trans c7 fun b hb => .inl hb).trans x8.ch (S' := fun c => c = b7) fun b hb => .inl hb
        intro _; intro _; intro _; intro _
        simp only [gx]
        exact go w8 v7 (hsub c48) (hB3.ch c48 (hB3.ne_blk hB7 (by decide))) (hB77.ext x8) (ho7.ext x8)
    | box p => exact hpg.elim
    | dia p => exact hpg.elim
  · have h0 : n = 0 := by omega
    subst h0
    have e : stk f V a 0 = [frc f V a] := by simp [stk, sfx]
    rw [e] at ho
    refine iLdB hB7 (v := v) rfl ?_
    refine iIa (j := 0) ho.sl (by omega) (by simp [ints, nats]) fun p hp => ?_
    refine iLd (v := .int .i64 ((frc f V a : Nat) : Int)) (by rw [hp]; simp [ints, nats]) ⟨rfl, x4⟩
end Go.Proofs.YtikfhibcdhdglaaGreat

/- Plain facts on duals of maps: they tell the maps apart; as many as the maps. No program in sight. Conditions: none. -/
namespace Go.Vc
section
variable {α : Type} {lt : α → α → Bool}
end
end Go.Vc

/- Contracts: the frame of an algebra in the program; isomorphic algebras. Conditions: none. -/
namespace Go.Proofs.YtikfhibcdhdglaaGreat
open Go.Vc
end Go.Proofs.YtikfhibcdhdglaaGreat

/- Contracts: duals of maps in the program and in the reference. Conditions: none. -/
namespace Go.Proofs.YtikfhibcdhdglaaGreat
open Go.Vc
end Go.Proofs.YtikfhibcdhdglaaGreat

/- Contracts: premises in the reference, conclusions, TellingFormulas. Conditions: none. -/
namespace Go.Proofs.YtikfhibcdhdglaaGreat
open Go.Vc
theorem ok_spec_premises {f : Fr} (hf : f.ok) (hr : Rooted f) {w : World} {v : Value} (hs : SlN w v f.a) : Cal Tryz.prog f_spec_l21Premises #[.agg #[.int .i64 (f.n : Int), v]] w fun r w' => Ext w w' ∧ ∃ L, RF w.heap.size w' r L ∧ EF w.heap.size w' L ∧ L.map Prod.snd = premF f := by
  apply c_spec_l21Premises; unfold S_spec_l21Premises
  have hf8 := hf.1
  have hfl := hf.2.1
  refine iNew fun b w1 hb x1 hB => ?_
  refine iLdA hB rfl ?_
  refine iRet (ok_spec_l16Root hf hr (hs.ext x1)) fun w2 x2 => ?_
  refine iCall ((ok_spec_l02Var (rootN f) w2).mono ?_)
  rintro y w3 ⟨x3, hy⟩
  refine iBs1 rfl hy.cell fun c w4 hc4 x4 hB4 => ?_
  have x14 := (x2.trans x3).trans x4
  have hR4 : RF w1.heap.size w4 (.slice (some ⟨c, 0, none⟩) 1 1) [(y, .var (rootN f))] := Ow.ofBlk (n := 1) hB4 (by have := (x2.trans x3).size; omega) rfl (by decide)
  have hE4 : EF w1.heap.size w4 [(y, .var (rootN f))] := EF.one (OwK.mono (OwK.ext hy x4) x2.size)
  refine iLp (fun s : Value × Nat => [s.1, .int .i64 (s.2 : Int)]) (fun s w' => s.2 ≤ f.n ∧ Ext w1 w' ∧ ∃ L, RF w1.heap.size w' s.1 L ∧ EF w1.heap.size w' L ∧ L.map Prod.snd = [.var (rootN f)] ++ pairsK f s.2 0) (fun s => f.n - s.2) (.slice (some ⟨c, 0, none⟩) 1 1, 0) rfl ⟨Nat.zero_le _, x14, _, hR4, hE4, by rw [pairsK_zero]; rfl⟩ ?_
  rintro ⟨o, x⟩ w6 Kn ⟨hx, x6, L, hR, hE, hL⟩ hKn
  have hx : x ≤ f.n := hx
  have hR : RF w1.heap.size w6 o L := hR
  have hL : L.map Prod.snd = [.var (rootN f)] ++ pairsK f x 0 := hL
  have hB6 := hB.ext x6
  (intro _; (try simp only [gx]); (with_reducible refine iFa ?_); refine iLdB (by assumption) (by first | rfl | simp) ?_; (with_reducible refine iLt ?_))
  refine iCndP (fun h => ?_) (fun h => ?_)
  · have hx1 : x < f.n := by omega
    refine iAdd (by omega) ?_
    have ex : (x : Int) + 1 = ((x + 1 : Nat) : Int) := by omega
    rw [ex]
    refine iLp (fun s : Value × Nat => [s.1, .int .i64 (s.2 : Int)]) (fun s w' => x + 1 ≤ s.2 ∧ s.2 ≤ f.n ∧ Ext w1 w' ∧ ∃ L, RF w1.heap.size w' s.1 L ∧ EF w1.heap.size w' L ∧ L.map Prod.snd = [.var (rootN f)] ++ pairsK f x s.2) (fun s => f.n - s.2) (o, x + 1) rfl ⟨Nat.le_refl _, hx1, x6, L, hR, hE, by rw [hL]; show _ = [Fm.var (rootN f)] ++ pairsK f x (x + 1); rw [pairsK_start]⟩ ?_
    rintro ⟨o2, y⟩ w8 Kn2 ⟨hy1, hy2, x8, M, hRM, hEM, hM⟩ hKn2
    have hy1 : x + 1 ≤ y := hy1
    have hy2 : y ≤ f.n := hy2
    have hRM : RF w1.heap.size w8 o2 M := hRM
    have hM : M.map Prod.snd = [.var (rootN f)] ++ pairsK f x y := hM
    have hB8 := hB.ext x8
    have hs8 := hs.ext (x1.trans x8)
    have hMl : M.length ≤ 300 := by
      have h1 := congrArg List.length hM
      have h2 := pairsK_len hf8 (x := x) (y := y) (by omega) (by omega)
      rw [List.length_map, List.length_append, List.length_singleton] at h1
      omega
    (intro _; (try simp only [gx]); (with_reducible refine iFa ?_); refine iLdB (by assumption) (by first | rfl | simp) ?_; (with_reducible refine iLt ?_))
    refine iCndP (fun h8 => ?_) (fun h8 => ?_)
    · have hy3 : y < f.n := by omega
      have hax := hf.lt hx1
      have hay := hf.lt hy3
      have h28 : 2 ^ f.n ≤ 2 ^ 8 := Nat.pow_le_pow_right (by omega) hf8
      ((with_reducible refine iLdA (by assumption) ?_ ?_); rfl; (with_reducible refine iFa ?_); refine iLdB (by assumption) (by first | rfl | simp) ?_; (with_reducible refine iIaNN (by assumption) ?_ (fun pa_ hpa_ => ?_)); omega; (with_reducible refine iLd (by assumption) ?_; refine iFa ?_); refine iLdB (by assumption) (by first | rfl | simp) ?_; (with_reducible refine iIaNN (by assumption) ?_ (fun pa_ hpa_ => ?_)); omega; (with_reducible refine iLd (by assumption) ?_))
      refine iBAnd (by omega) (by omega) ?_
      intro w9 x9
      refine iCall ((ok_spec_l02Var x w9).mono ?_)
      rintro a1 w10 ⟨x10, h10⟩
      refine ⟨x10, fun w11 x11 => ?_⟩
      refine iCall ((ok_spec_l02Var y w11).mono ?_)
      rintro a2 w12 ⟨x12, h12⟩
      refine ⟨x12, fun w13 x13 => ?_⟩
      refine iCall ((ok_spec_l02Pair (c := .and (.var x) (.var y)) (k := 2) rfl rfl (SlK.ext h10.sl (x11.trans (x12.trans x13))) (SlK.ext h12.sl x13) (by simp only [Fm.size]; omega)).mono ?_)
      rintro a3 w14 ⟨x14, h14⟩
      refine ⟨x14, fun w15 x15 => ?_⟩
      have X15 : Ext w8 w15 := (x9.trans (x10.trans (x11.trans (x12.trans x13)))).trans (x14.trans x15)
      refine iCall ((ok_spec_l21Join hf (hs8.ext X15) _ (and_lt8 hf hx1)).mono ?_)
      rintro a4 w16 ⟨x16, h16⟩
      intro w17 x17
      have X17 : Ext w8 w17 := X15.trans (x16.trans x17)
      refine iCall ((ok_spec_l21Both (A := .and (.var x) (.var y)) (B := jnF f (f.a.getD x 0 &&& f.a.getD y 0)) (SlK.ext h14.sl (x15.trans (x16.trans x17))) (SlK.ext h16.sl x17) (by simp only [Fm.size]; omega) (by have := jnF_size hf (m := f.a.getD x 0 &&& f.a.getD y 0) (and_lt8 hf hx1); omega)).mono ?_)
      rintro r w18 ⟨x18, N, hsN, hEN, hN⟩
      intro w19 x19
      have X19 : Ext w8 w19 := X17.trans (x18.trans x19)
      have hd := EF.fresh (hEM.ext X17) hEN (Nat.le_refl _)
      have hNl : N.length = 2 := by have := congrArg List.length hN; simpa [bothF] using this
      refine RF.appS (Ow.ext hRM X19) ((hEM.ext X19).app ((hEN.ext x19).mono (x8.trans X17).size) hd) (Sl.ext hsN x19) (x8.trans X19).size (by omega) fun v' w20 hR' hE' hg => ?_
      intro w21 x21
      refine iAdd (by omega) ?_
      refine hKn2 (v', y + 1) _ ⟨by show x + 1 ≤ y + 1; omega, by show y + 1 ≤ f.n; omega, ((x8.trans X19).grown hg fun c hc => (Ow.blk hRM c hc).1).trans x21, M ++ N, Ow.ext hR' x21, hE'.ext x21, ?_⟩ (by show f.n - (y + 1) < f.n - y; omega)
      show (M ++ N).map Prod.snd = [.var (rootN f)] ++ pairsK f x (y + 1)
      rw [List.map_append, hM, hN, pairsK_step f x y hy1, List.append_assoc]; rfl
    · obtain rfl : y = f.n := by omega
      refine iAdd (by omega) ?_
      refine hKn (o2, x + 1) _ ⟨by show x + 1 ≤ f.n; omega, x8, M, hRM, hEM, ?_⟩ (by show f.n - (x + 1) < f.n - x; omega)
      rw [hM, pairsK_row]
  · obtain rfl : x = f.n := by omega
    refine iLdA hB6 rfl ?_
    refine iCall ((ok_spec_l16Upsets hf (hs.ext (x1.trans x6))).mono ?_)
    rintro uv w22 ⟨x22, hu⟩
    have hul := upsets_len hf
    refine iLp (fun s : Value × Nat => [s.1, .int .i64 (s.2 : Int)]) (fun s w' => s.2 ≤ f.n ∧ Ext w1 w' ∧ Ow 0 t_i64 w' uv (ints (nats (upsets f))) ∧ ∃ L, RF w1.heap.size w' s.1 L ∧ EF w1.heap.size w' L ∧ L.map Prod.snd = [.var (rootN f)] ++ pairsK f f.n 0 ++ upsK f s.2 0) (fun s => f.n - s.2) (o, 0) rfl ⟨Nat.zero_le _, x6.trans x22, hu.mono (Nat.zero_le _), L, Ow.ext hR x22, hE.ext x22, by rw [upsK_zero, List.append_nil]; exact hL⟩ ?_
    rintro ⟨o2, x⟩ w24 Kn2 ⟨hx2, x24, y24, M, hRM, hEM, hM⟩ hKn2
    have hx2 : x ≤ f.n := hx2
    have hRM : RF w1.heap.size w24 o2 M := hRM
    have hM : M.map Prod.snd = [.var (rootN f)] ++ pairsK f f.n 0 ++ upsK f x 0 := hM
    have hB24 := hB.ext x24
    (intro _; (try simp only [gx]); (with_reducible refine iFa ?_); refine iLdB (by assumption) (by first | rfl | simp) ?_; (with_reducible refine iLt ?_))
    refine iCndP (fun h => ?_) (fun h => ?_)
    · have hx1 : x < f.n := by omega
      refine iLp (fun s : Value × Nat => [s.1, .int .i64 (s.2 : Int)]) (fun s w' => s.2 ≤ (upsets f).length ∧ Ext w1 w' ∧ Ow 0 t_i64 w' uv (ints (nats (upsets f))) ∧ ∃ L, RF w1.heap.size w' s.1 L ∧ EF w1.heap.size w' L ∧ L.map Prod.snd = [.var (rootN f)] ++ pairsK f f.n 0 ++ upsK f x s.2) (fun s => (upsets f).length - s.2) (o2, 0) rfl ⟨Nat.zero_le _, x24, y24, M, hRM, hEM, hM⟩ ?_
      rintro ⟨o3, k⟩ w26 Kn3 ⟨hk, x26, y26, M3, hR3, hE3, hM3⟩ hKn3
      have hk : k ≤ (upsets f).length := hk
      have hR3 : RF w1.heap.size w26 o3 M3 := hR3
      have hM3 : M3.map Prod.snd = [.var (rootN f)] ++ pairsK f f.n 0 ++ upsK f x k := hM3
      have hB26 := hB.ext x26
      have hs26 := hs.ext (x1.trans x26)
      have hus26 : SlN w26 uv (upsets f) := y26.sl
      have hMl : M3.length ≤ 6000 := by
        have h1 := congrArg List.length hM3
        have h2 := pairsK_len hf8 (x := f.n) (y := 0) hf8 (by omega)
        have h3 := upsK_len hf (x := x) (k := k) (by omega)
        rw [List.length_map, List.length_append, List.length_append, List.length_singleton] at h1
        omega
      (intro _; (try simp only [gx]); (with_reducible refine iLenN (by assumption) ?_; refine iLt ?_))
      refine iCndP (fun h28 => ?_) (fun h28 => ?_)
      · have hk1 : k < (upsets f).length := by omega
        have hul2 : (upsets f).getD k 0 < 2 ^ f.n := upsets_lt (getD_mem hk1)
        have hue : (upsets f).getD k 0 = (upsets f)[k] := by simp [List.getD_eq_getElem?_getD, hk1]
        have sz1 := jnF_size hf hul2
        ((with_reducible refine iLdA (by assumption) ?_ ?_); rfl; (with_reducible refine iIaNN (by assumption) ?_ (fun pa_ hpa_ => ?_)); omega; (with_reducible refine iLd (by assumption) ?_))
        intro w27 x27
        refine iCall ((ok_spec_l02Var x w27).mono ?_)
        rintro a1 w28 ⟨x28, h28'⟩
        refine ⟨x28, fun w29 x29 => ?_⟩
        have X29 : Ext w26 w29 := x27.trans (x28.trans x29)
        refine iCall ((ok_spec_l21Join hf (hs26.ext X29) _ hul2).mono ?_)
        rintro a2 w30 ⟨x30, h30⟩
        intro w31 x31
        refine iCall ((ok_spec_l02Pair (c := .imp (.var x) (jnF f ((upsets f).getD k 0))) (k := 4) rfl rfl (SlK.ext h28'.sl (x29.trans (x30.trans x31))) (SlK.ext h30.sl x31) (by simp only [Fm.size]; omega)).mono ?_)
        rintro a3 w32 ⟨x32, h32⟩
        intro w33 x33
        have X33 : Ext w26 w33 := X29.trans ((x30.trans x31).trans (x32.trans x33))
        have hB33 := hB26.ext X33
        have hs33 := hs26.ext X33
        have hus33 := hus26.ext X33
        ((with_reducible refine iLdA (by assumption) ?_ ?_); rfl; (with_reducible refine iLdA (by assumption) ?_ ?_); rfl; (with_reducible refine iFa ?_); refine iLdB (by assumption) (by first | rfl | simp) ?_; (with_reducible refine iIaNN (by assumption) ?_ (fun pa_ hpa_ => ?_)); omega; (with_reducible refine iLd (by assumption) ?_); (with_reducible refine iIaNN (by assumption) ?_ (fun pa_ hpa_ => ?_)); omega; (with_reducible refine iLd (by assumption) ?_))
        refine iRetQ (fun w' h' => ok_spec_l17Arrow hf (hs33.ext h') _ _ (hf.lt hx1) hul2) ?_
        intro w34 x34
        refine iCall ((ok_spec_l21Join hf (hs33.ext x34) _ (impM_lt f _ _)).mono ?_)
        rintro a4 w35 ⟨x35, h35⟩
        intro w36 x36
        have X36 : Ext w26 w36 := X33.trans (x34.trans (x35.trans x36))
        refine iCall ((ok_spec_l21Both (A := .imp (.var x) (jnF f ((upsets f).getD k 0))) (B := jnF f (impM f (f.a.getD x 0) ((upsets f).getD k 0))) (SlK.ext h32.sl (x33.trans (x34.trans (x35.trans x36)))) (SlK.ext h35.sl x36) (by simp only [Fm.size]; omega) (by have := jnF_size hf (impM_lt f (f.a.getD x 0) ((upsets f).getD k 0)); omega)).mono ?_)
        rintro r w37 ⟨x37, N, hsN, hEN, hN⟩
        intro w38 x38
        have X38 : Ext w26 w38 := X36.trans (x37.trans x38)
        have hd := EF.fresh (hE3.ext X36) hEN (Nat.le_refl _)
        have hNl : N.length = 2 := by have := congrArg List.length hN; simpa [bothF] using this
        refine RF.appS (Ow.ext hR3 X38) ((hE3.ext X38).app ((hEN.ext x38).mono (x26.trans X36).size) hd) (Sl.ext hsN x38) (x26.trans X38).size (by omega) fun v' w39 hR' hE' hg => ?_
        intro w40 x40
        refine iAdd (by omega) ?_
        refine hKn3 (v', k + 1) _ ⟨by show k + 1 ≤ (upsets f).length; omega, ((x26.trans X38).grown hg fun c hc => (Ow.blk hR3 c hc).1).trans x40, ?_, M3 ++ N, Ow.ext hR' x40, hE'.ext x40, ?_⟩ (by show (upsets f).length - (k + 1) < (upsets f).length - k; omega)
        · exact ((y26.ext X38).ch (grown_ch (S := fun c => o3.ownBlock = some c) hg fun c hc => hc) fun c hc hc' => (y26.ext X38).ne_ow (Ow.ext hR3 X38) (by decide) hc hc').ext x40
        · rw [List.map_append, hM3, hN]
          show _ = [Fm.var (rootN f)] ++ pairsK f f.n 0 ++ upsK f x (k + 1)
          rw [upsK_step f x k hk1, ← hue, List.append_assoc, List.append_assoc, List.append_assoc]
          rfl
      · obtain rfl : k = (upsets f).length := by omega
        refine iAdd (by omega) ?_
        refine hKn2 (o3, x + 1) _ ⟨by show x + 1 ≤ f.n; omega, x26, y26, M3, hR3, hE3, ?_⟩ (by show f.n - (x + 1) < f.n - x; omega)
        rw [hM3, upsK_row]
    · obtain rfl : x = f.n := by omega
      exact ⟨x1.trans x24, M, Ow.mono hRM x1.size, hEM.mono x1.size, hM⟩
theorem frOf_natsJ (g : Fr) : frOf (g.n : Int) (nats g.a) = g := by
  unfold frOf nats
  rw [Int.toNat_natCast, List.map_map]
  have : (Int.toNat ∘ fun (x : Nat) => (x : Int)) = id := by funext x; simp
  first
    | rw [this, List.map_id]
    | simp [Function.comp_def]
theorem poB_ofJ {f : Fr} (hp : Po f) : poB f = true := by
  unfold poB
  rw [Bool.and_eq_true, Bool.and_eq_true]
  refine ⟨?_, (flagB_trans hp.ok).2 hp.trans, flagB_iff.2 fun x _ => ⟨by unfold flag1; simp, fun y _ => ?_⟩⟩
  · rw [flagB_refl, List.all_eq_true]
    exact fun x hx => hp.refl x (List.mem_range.1 hx)
  · unfold flag2
    cases h1 : (f.a.getD x 0).testBit y
    · rfl
    · cases h2 : (f.a.getD y 0).testBit x
      · simp
      · simp [hp.anti x y h1 h2]
theorem posetOk_ofJ {f : Fr} (hp : Po f) : posetOk (f.n : Int) (nats f.a) = true := by
  unfold posetOk frameOk
  rw [frOf_natsJ, poB_ofJ hp, Bool.and_true, Bool.and_eq_true, Bool.and_eq_true, decide_eq_true_eq, decide_eq_true_eq, List.all_eq_true, Int.toNat_natCast]
  refine ⟨⟨⟨by omega, by have := hp.ok.1; omega⟩, by rw [nats_length, hp.ok.2.1]⟩, fun z hz => ?_⟩
  obtain ⟨m, hm, rfl⟩ := List.mem_map.1 hz
  have := hp.ok.2.2 m hm
  unfold maskB
  rw [decide_eq_true_eq]
  generalize 2 ^ f.n = k at *
  show 0 ≤ (m : Int) ∧ (m : Int) ≤ ((k - 1 : Nat) : Int)
  omega
theorem conc_lt (f : Fr) : sdiff (2 ^ f.n - 1) (2 ^ rootN f) < 2 ^ f.n := sdiff_lt (by have := Nat.two_pow_pos f.n; omega)
theorem ok_impl_conclusion {f : Fr} (hf : f.ok) (hr : Rooted f) {w : World} {v : Value} (hs : SlN w v f.a) : Cal Tryz.prog f_impl_jankovConclusion #[.agg #[.int .i64 (f.n : Int), v]] w fun r w' => Ext w w' ∧ FmW w.heap.size w' r (concF f) := by
  apply c_impl_jankovConclusion; unfold S_impl_jankovConclusion
  have hf8 := hf.1
  obtain ⟨r1, _, _⟩ := hr.root
  have h28 : 2 ^ f.n ≤ 2 ^ 8 := Nat.pow_le_pow_right (by omega) hf8
  have h2r : 2 ^ rootN f < 2 ^ 8 := Nat.pow_lt_pow_right (by omega) (by omega)
  refine iNew fun b w1 hb x1 hB => ?_
  have hs1 := hs.ext x1
  ((with_reducible refine iLdA (by assumption) ?_ ?_); rfl; (with_reducible refine iLdA (by assumption) ?_ ?_); rfl)
  refine iRetQ (fun w' _ => ok_impl_Poset_all f.n hf8 v w') ?_
  ((with_reducible refine iLdA (by assumption) ?_ ?_); rfl)
  refine iRetQ (fun w' h' => ok_impl_root hf hr (hs1.ext h')) ?_
  refine iShlOne (by omega) ?_
  refine iBAndNot (by omega) (by omega) ?_
  intro w2 x2
  refine iCall ((ok_impl_joined hf (hs1.ext x2) _ (conc_lt f)).mono ?_)
  rintro r w3 ⟨x3, hr3⟩
  intro w4 x4
  exact ⟨((x1.trans x2).trans x3).trans x4, OwK.mono (OwK.ext hr3 x4) (x1.trans x2).size⟩
theorem ok_spec_conclusion {f : Fr} (hf : f.ok) (hr : Rooted f) {w : World} {v : Value} (hs : SlN w v f.a) : Cal Tryz.prog f_spec_l21Conclusion #[.agg #[.int .i64 (f.n : Int), v]] w fun r w' => Ext w w' ∧ FmW w.heap.size w' r (concF f) := by
  apply c_spec_l21Conclusion; unfold S_spec_l21Conclusion
  have hf8 := hf.1
  obtain ⟨r1, _, _⟩ := hr.root
  have h28 : 2 ^ f.n ≤ 2 ^ 8 := Nat.pow_le_pow_right (by omega) hf8
  have h2r : 2 ^ rootN f < 2 ^ 8 := Nat.pow_lt_pow_right (by omega) (by omega)
  refine iNew fun b w1 hb x1 hB => ?_
  have hs1 := hs.ext x1
  ((with_reducible refine iLdA (by assumption) ?_ ?_); rfl; (with_reducible refine iFa ?_); refine iLdB (by assumption) (by first | rfl | simp) ?_)
  refine iRetQ (fun w' _ => ok_spec_l01Full f.n (by omega) w') ?_
  ((with_reducible refine iLdA (by assumption) ?_ ?_); rfl)
  refine iRetQ (fun w' h' => ok_spec_l16Root hf hr (hs1.ext h')) ?_
  refine iRetQ (fun w' _ => ok_spec_l01One (rootN f) (by omega) w') ?_
  refine iBAndNot (by omega) (by omega) ?_
  intro w2 x2
  refine iCall ((ok_spec_l21Join hf (hs1.ext x2) _ (conc_lt f)).mono ?_)
  rintro r w3 ⟨x3, hr3⟩
  intro w4 x4
  exact ⟨((x1.trans x2).trans x3).trans x4, OwK.mono (OwK.ext hr3 x4) (x1.trans x2).size⟩
theorem ok_impl_jankovCode {f : Fr} (hp : Po f) (hr : Rooted f) {w : World} {v : Value} (hs : SlN w v f.a) : Ret Tryz.prog f_impl_jankovCode #[.agg #[.int .i64 (f.n : Int), v]] w (.int .i64 (if 5 < f.n then 3 else 0)) := by
  apply c_impl_jankovCode; unfold S_impl_jankovCode
  refine iNew fun b w1 hb x1 hB => ?_
  have hs1 := hs.ext x1
  refine iLdA hB rfl ?_
  refine iRet (ok_impl_isPoset hs1 (f.n : Int)) fun w2 x2 => ?_
  rw [posetOk_ofJ hp]
  refine iNot (iCndF rfl ?_)
  refine iLdA (hB.ext x2) rfl ?_
  refine iRet (ok_impl_root hp.ok hr (hs1.ext x2)) fun w3 x3 => ?_
  refine iLt (iCndP (fun h => absurd h (by omega)) (fun _ => ?_))
  have hB3 := (hB.ext x2).ext x3
  have hX := (x1.trans x2).trans x3
  ((with_reducible refine iFa ?_); refine iLdB (by assumption) (by first | rfl | simp) ?_; (with_reducible refine iLt ?_))
  refine iCndP (fun h => ?_) (fun h => ?_)
  · rw [if_pos (by omega)]; exact ⟨by first | trivial | rfl, hX⟩
  · rw [if_neg (by omega)]; exact ⟨by first | trivial | rfl, hX⟩
end Go.Proofs.YtikfhibcdhdglaaGreat

/- Contracts: maps between posets, masks drawn back and spread, roots, the code of Jankov's formulas. Conditions: none. -/
namespace Go.Proofs.YtikfhibcdhdglaaGreat
open Go.Vc
/-! ### Spread -/
/-! ### Roots, where there may be none -/
end Go.Proofs.YtikfhibcdhdglaaGreat

/- Contracts: which rows of nodes are formulas, in the reference. Conditions: none. -/
namespace Go.Vc
/-- A row of nodes that can be read; a row of the call's own. -/
abbrev RawS (w : World) (v : Value) (N : List RN) : Prop := SlK 2 w v N.length (cellsN N)
theorem goN_drop {N : List RN} {j : Nat} (hj : j < N.length) (o : Nat) : goN (N.drop j) (o + 1) = goN (N.drop (j + 1)) (o + arZ N[j].1) := by
  rw [List.drop_eq_getElem_cons hj]; rfl
/-- The end of the formula that begins at i, or -1. -/
def endN (N : List RN) (i : Nat) : Int := match goN (N.drop i) 1 with
  | some R => ((N.length - R.length : Nat) : Int)
  | none => -1
theorem goN_len : ∀ (N : List RN) (o : Nat) (R : List RN), goN N o = some R → R.length ≤ N.length
  | N, 0, R, h => by rw [goN_zero] at h; cases h; exact Nat.le_refl _
  | [], _ + 1, _, h => by cases h
  | q :: N, o + 1, R, h => by
    rw [goN_cons] at h
    have := goN_len N _ R h
    rw [List.length_cons]; omega
theorem endN_tree {N : List RN} (h : N.all okN = true) (hp : 0 < N.length) : decide (endN N 0 = (N.length : Int)) = treeN N := by
  unfold treeN endN
  rw [h, Bool.true_and, List.drop_zero]
  cases hg : goN N 1 with
  | none => 
    refine decide_eq_decide.2 ⟨fun e => ?_, fun e => by cases e⟩
    have e : (-1 : Int) = (N.length : Int) := e
    omega
  | some R =>
    have hl := goN_len N 1 R hg
    refine decide_eq_decide.2 ⟨fun e => ?_, fun e => ?_⟩
    · have e : ((N.length - R.length : Nat) : Int) = (N.length : Int) := e
      have : R = [] := List.length_eq_zero_iff.1 (by omega)
      rw [this]
    · cases e
      show ((N.length - 0 : Nat) : Int) = _
      rw [Nat.sub_zero]
theorem okN_nat {q : RN} (h : okN q = true) : ∃ k s : Nat, q = ((k : Int), (s : Int)) ∧ k ≤ 6 ∧ s ≤ 5 := by
  obtain ⟨⟨h1, h2⟩, ⟨h3, h4⟩, _⟩ := okN_iff.1 h
  obtain ⟨a, b⟩ := q
  have h1 : 0 ≤ a := h1
  have h2 : a ≤ 6 := h2
  have h3 : 0 ≤ b := h3
  have h4 : b ≤ 5 := h4
  refine ⟨a.toNat, b.toNat, ?_, by omega, by omega⟩
  rw [Int.toNat_of_nonneg h1, Int.toNat_of_nonneg h3]
end Go.Vc
namespace Go.Proofs.YtikfhibcdhdglaaGreat
open Go.Vc
theorem FmS.raw {w : World} {v : Value} {f : Fm} (h : FmS w v f) : RawS w v (rawF f) := by
  show SlK 2 w v (rawF f).length (cellsN (rawF f))
  rw [rawF_len, cellsN_raw]; exact h
theorem RawS.fm {w : World} {v : Value} {f : Fm} (h : RawS w v (rawF f)) : FmS w v f := by
  have h : SlK 2 w v (rawF f).length (cellsN (rawF f)) := h
  rwa [rawF_len, cellsN_raw] at h
end Go.Proofs.YtikfhibcdhdglaaGreat
