/- Contracts: the part of a poset, cones, FindPart's search, and what tells one poset from another. Conditions: none. -/
import Derived.Test.YtoolpnkcmlebkaaGreatC30
import Derived.Test.YtoolpnkcmlebkaaGreatC31
import Derived.Test.YtoolpnkcmlebkaaGreatC25
namespace Go.Vc
theorem findSome_at {α β : Type} {l : List α} {p : α → Option β} {k : Nat} {x : β} (hk : k < l.length) (h : (l.take k).findSome? p = none) (h2 : p l[k] = some x) : l.findSome? p = some x := by
  have e : l = l.take k ++ l[k] :: l.drop (k + 1) := by rw [← List.drop_eq_getElem_cons hk, List.take_append_drop]
  rw [e, List.findSome?_append, h, List.findSome?_cons, h2]; rfl
theorem findSome_next {α β : Type} {l : List α} {p : α → Option β} {k : Nat} (hk : k < l.length) (h : (l.take k).findSome? p = none) (h2 : p l[k] = none) : (l.take (k + 1)).findSome? p = none := by
  rw [List.take_succ_eq_append_getElem hk, List.findSome?_append, h]
  simp [h2]
def sqL (f : Fr) (ms : List Nat) (k : Nat) : List Nat := (ms.take k).map fun x => sqz ms (f.a.getD x 0)
theorem sqL_succ (f : Fr) (ms : List Nat) (k : Nat) (h : k < ms.length) : sqL f ms (k + 1) = sqL f ms k ++ [sqz ms (f.a.getD ms[k] 0)] := by
  unfold sqL
  rw [List.take_succ_eq_append_getElem h, List.map_append]; rfl
theorem sqL_end (f : Fr) (m : Nat) : sqL f (mem m) (mem m).length = (partFr f m).a := by
  unfold sqL partFr
  rw [List.take_length]
theorem sqL_len (f : Fr) (ms : List Nat) (k : Nat) : (sqL f ms k).length ≤ k := by
  unfold sqL
  rw [List.length_map, List.length_take]; omega
def pmO (o : Option (Nat × List Nat)) : Nat := (o.map Prod.fst).getD 0
def pfO (o : Option (Nat × List Nat)) : List Nat := (o.map Prod.snd).getD []
end Go.Vc
namespace Go.Proofs.YtoolpnkcmlebkaaGreat
open Go.Vc
theorem ok_spec_l16Make {v : Value} {w : World} {l : List Nat} (hs : SlN w v l) (hl : l.length ≤ 1099511627776) : Cal Tryz.prog f_spec_l16Make #[v] w fun r w' => Ext w w' ∧ ∃ v', r = .agg #[.int .i64 (l.length : Int), v'] ∧ Ow w.heap.size t_i64 w' v' (ints (nats l)) := by
  apply c_spec_l16Make; unfold S_spec_l16Make
  refine iNew fun b w1 hb h1 hB => ?_
  have hs1 := hs.ext h1
  (repeat first
    | (with_reducible first | refine iFa ?_ | refine iNil ?_ | refine iNilF ?_ | refine iLd (by assumption) ?_ | refine iLenN (by assumption) ?_ | refine iLenI (by assumption) ?_ | refine iLenS (by assumption) ?_ | refine iLenL ?_ | refine iEq ?_ | refine iNe ?_ | refine iLt ?_ | refine iLe ?_ | refine iNot ?_ | refine iPick ?_ | refine iE20 ?_ | refine iE21 ?_ | refine iE30 ?_ | refine iE31 ?_ | refine iE32 ?_ | refine iJn ?_)
    | ((with_reducible show xLd _ _ _); refine iLdB (by assumption) (by first | rfl | simp) ?_) | ((with_reducible refine iLdA (by assumption) ?_ ?_); rfl)
    | ((with_reducible refine iIaNN (by assumption) ?_ (fun pa_ hpa_ => ?_)); omega) | ((with_reducible refine iIaN (by assumption) ?_ (fun pa_ hpa_ => ?_)); omega)
    | ((with_reducible refine iIaI (by assumption) ?_ ?_ (fun pa_ hpa_ => ?_)); omega; omega) | ((with_reducible refine iAdd ?_ ?_); omega) | ((with_reducible refine iSub ?_ ?_); omega)
    | ((with_reducible show xEx _ _ _); refine iEx (by rfl) ?_) | ((with_reducible refine fun (_ : Nat → Value) => ?_); (try simp only [gx])))
  refine iCall ((ok_spec_l01Own hs1 (by rw [nats_length]; exact hl)).mono ?_)
  rintro u w2 ⟨h2, ho⟩
  have hB2 := hB.ext h2
  have hX2 := h1.trans h2
  have hsz := h1.size
  have hne : u.ownBlock ≠ some b := fun e => by have := (ho.blk b e).1; have := hB.lt; omega
  obtain ⟨va, vn, vc, rfl⟩ := ho.shape
  refine iBuild (cs := #[.int .i64 (l.length : Int), .slice va vn vc]) (by simp [Instr.fill, Value.cells]) ?_
  refine iStAB hB2 rfl rfl (ho.pair _) fun w3 hu hB3 => ?_
  refine iLdA hB3 rfl ?_
  exact ⟨hX2.upd hu (by omega), _, rfl, (ho.mono hsz).upd hu hne⟩
theorem ok_spec_l16Part {f : Fr} (hf : f.ok) {v : Value} {w : World} (hs : SlN w v f.a) (m : Nat) (hm : m < 2 ^ f.n) : Cal Tryz.prog f_spec_l16Part #[.agg #[.int .i64 (f.n : Int), v], .int .i64 (m : Int)] w fun r w' => Ext w w' ∧ ∃ v', r = .agg #[.int .i64 ((partFr f m).n : Int), v'] ∧ Ow w.heap.size t_i64 w' v' (ints (nats (partFr f m).a)) := by
  apply c_spec_l16Part; unfold S_spec_l16Part
  have hf8 := hf.1
  have hfl := hf.2.1
  have hm8 : m < 2 ^ 8 := Nat.lt_of_lt_of_le hm (Nat.pow_le_pow_right (by omega) hf8)
  refine iNew fun b w1 hb1 h1 hB1 => ?_
  refine iNew fun b4 w2 hb4 h2 hB4 => ?_
  have hX2 := h1.trans h2
  have hsz1 := h1.size
  refine iCall ((ok_spec_l01List m (by omega) w2).mono ?_)
  rintro u w3 ⟨h3, hou⟩
  have hml : (mem m).length ≤ 8 := Nat.le_trans (mem_len hf hm) hf8
  have hmx : ∀ x ∈ mem m, x < f.n := fun x hx => mem_lt hf hm hx
  have hX3 := hX2.trans h3
  have hB1 := (hB1.ext h2).ext h3
  have hB4 := hB4.ext h3
  have hus : SlN w3 u (mem m) := hou.sl
  refine iBs0 fun vo w4 _ h4 ho => ?_
  refine iLp (fun s : Value × Nat => [s.1, .int .i64 (s.2 : Int)]) (fun s w' => s.2 ≤ (mem m).length ∧ Ext w3 w' ∧ Ow w3.heap.size t_i64 w' s.1 (ints (nats (sqL f (mem m) s.2)))) (fun s => (mem m).length - s.2) (vo, 0) rfl ⟨Nat.zero_le _, h4, ho⟩ ?_
  rintro ⟨vo, k⟩ w6 Kn ⟨hk, h6, ho6⟩ hKn
  have hk : k ≤ (mem m).length := hk
  have ho6 : Ow w3.heap.size t_i64 w6 vo (ints (nats (sqL f (mem m) k))) := ho6
  have hs6 := hs.ext (hX3.trans h6)
  have hus6 := hus.ext h6
  have hB16 := hB1.ext h6
  (repeat first
    | (with_reducible first | refine iFa ?_ | refine iNil ?_ | refine iNilF ?_ | refine iLd (by assumption) ?_ | refine iLenN (by assumption) ?_ | refine iLenI (by assumption) ?_ | refine iLenS (by assumption) ?_ | refine iLenL ?_ | refine iEq ?_ | refine iNe ?_ | refine iLt ?_ | refine iLe ?_ | refine iNot ?_ | refine iPick ?_ | refine iE20 ?_ | refine iE21 ?_ | refine iE30 ?_ | refine iE31 ?_ | refine iE32 ?_ | refine iJn ?_)
    | ((with_reducible show xLd _ _ _); refine iLdB (by assumption) (by first | rfl | simp) ?_) | ((with_reducible refine iLdA (by assumption) ?_ ?_); rfl)
    | ((with_reducible refine iIaNN (by assumption) ?_ (fun pa_ hpa_ => ?_)); omega) | ((with_reducible refine iIaN (by assumption) ?_ (fun pa_ hpa_ => ?_)); omega)
    | ((with_reducible refine iIaI (by assumption) ?_ ?_ (fun pa_ hpa_ => ?_)); omega; omega) | ((with_reducible refine iAdd ?_ ?_); omega) | ((with_reducible refine iSub ?_ ?_); omega)
    | ((with_reducible show xEx _ _ _); refine iEx (by rfl) ?_) | ((with_reducible refine fun (_ : Nat → Value) => ?_); (try simp only [gx])))
  refine iCndP (fun h7 => ?_) (fun h7 => ?_)
  · have hk1 : k < (mem m).length := by omega
    have hg : (mem m).getD k 0 = (mem m)[k] := getD_of_lt hk1
    have hx := hmx _ (List.getElem_mem hk1)
    have hgx := fr_lt63 hf (mem m)[k]
    have hsu := sqL_succ f (mem m) k hk1
    (repeat first
    | (with_reducible first | refine iFa ?_ | refine iNil ?_ | refine iNilF ?_ | refine iLd (by assumption) ?_ | refine iLenN (by assumption) ?_ | refine iLenI (by assumption) ?_ | refine iLenS (by assumption) ?_ | refine iLenL ?_ | refine iEq ?_ | refine iNe ?_ | refine iLt ?_ | refine iLe ?_ | refine iNot ?_ | refine iPick ?_ | refine iE20 ?_ | refine iE21 ?_ | refine iE30 ?_ | refine iE31 ?_ | refine iE32 ?_ | refine iJn ?_)
    | ((with_reducible show xLd _ _ _); refine iLdB (by assumption) (by first | rfl | simp) ?_) | ((with_reducible refine iLdA (by assumption) ?_ ?_); rfl)
    | ((with_reducible refine iIaNN (by assumption) ?_ (fun pa_ hpa_ => ?_)); omega) | ((with_reducible refine iIaN (by assumption) ?_ (fun pa_ hpa_ => ?_)); omega)
    | ((with_reducible refine iIaI (by assumption) ?_ ?_ (fun pa_ hpa_ => ?_)); omega; omega) | ((with_reducible refine iAdd ?_ ?_); omega) | ((with_reducible refine iSub ?_ ?_); omega)
    | ((with_reducible show xEx _ _ _); refine iEx (by rfl) ?_) | ((with_reducible refine fun (_ : Nat → Value) => ?_); (try simp only [gx])))
    rw [hg]
    (repeat first
    | (with_reducible first | refine iFa ?_ | refine iNil ?_ | refine iNilF ?_ | refine iLd (by assumption) ?_ | refine iLenN (by assumption) ?_ | refine iLenI (by assumption) ?_ | refine iLenS (by assumption) ?_ | refine iLenL ?_ | refine iEq ?_ | refine iNe ?_ | refine iLt ?_ | refine iLe ?_ | refine iNot ?_ | refine iPick ?_ | refine iE20 ?_ | refine iE21 ?_ | refine iE30 ?_ | refine iE31 ?_ | refine iE32 ?_ | refine iJn ?_)
    | ((with_reducible show xLd _ _ _); refine iLdB (by assumption) (by first | rfl | simp) ?_) | ((with_reducible refine iLdA (by assumption) ?_ ?_); rfl)
    | ((with_reducible refine iIaNN (by assumption) ?_ (fun pa_ hpa_ => ?_)); omega) | ((with_reducible refine iIaN (by assumption) ?_ (fun pa_ hpa_ => ?_)); omega)
    | ((with_reducible refine iIaI (by assumption) ?_ ?_ (fun pa_ hpa_ => ?_)); omega; omega) | ((with_reducible refine iAdd ?_ ?_); omega) | ((with_reducible refine iSub ?_ ?_); omega)
    | ((with_reducible show xEx _ _ _); refine iEx (by rfl) ?_) | ((with_reducible refine fun (_ : Nat → Value) => ?_); (try simp only [gx])))
    refine iRetQ (fun w' h' => ok_spec_l05Squeeze (hus6.ext h') (by omega) (fun x hx => by have := hmx x hx; omega) _ (by omega)) ?_
    intro w7 h8
    refine iBs1 rfl rfl fun bb w8 hbb h9 hBb => ?_
    (try refine ⟨h9, ?_⟩)
    intro w9 hA
    have hX9 := h6.trans (h8.trans (h9.trans hA))
    have ho9 := ((ho6.ext h8).ext h9).ext hA
    have hil : (ints (nats (sqL f (mem m) k))).length ≤ k := by rw [ints_length, nats_length]; exact sqL_len _ _ _
    refine iApp u_Si64 i_Si64 rfl ho9 (Sl.ofBlk (hBb.ext hA) rfl (by omega)) (fun x hx => by simp at hx; subst hx; rfl) (by simp; omega) (by simp; omega) hX9.size fun v' wB ho' hg' => ?_
    rw [ints_snoc, ← hsu] at ho'
    have hXB := hX9.grown hg' (fun c hc => (ho9.blk c hc).1)
    (try refine ⟨h9, ?_⟩)
    intro w11 hC
    (repeat first
    | (with_reducible first | refine iFa ?_ | refine iNil ?_ | refine iNilF ?_ | refine iLd (by assumption) ?_ | refine iLenN (by assumption) ?_ | refine iLenI (by assumption) ?_ | refine iLenS (by assumption) ?_ | refine iLenL ?_ | refine iEq ?_ | refine iNe ?_ | refine iLt ?_ | refine iLe ?_ | refine iNot ?_ | refine iPick ?_ | refine iE20 ?_ | refine iE21 ?_ | refine iE30 ?_ | refine iE31 ?_ | refine iE32 ?_ | refine iJn ?_)
    | ((with_reducible show xLd _ _ _); refine iLdB (by assumption) (by first | rfl | simp) ?_) | ((with_reducible refine iLdA (by assumption) ?_ ?_); rfl)
    | ((with_reducible refine iIaNN (by assumption) ?_ (fun pa_ hpa_ => ?_)); omega) | ((with_reducible refine iIaN (by assumption) ?_ (fun pa_ hpa_ => ?_)); omega)
    | ((with_reducible refine iIaI (by assumption) ?_ ?_ (fun pa_ hpa_ => ?_)); omega; omega) | ((with_reducible refine iAdd ?_ ?_); omega) | ((with_reducible refine iSub ?_ ?_); omega)
    | ((with_reducible show xEx _ _ _); refine iEx (by rfl) ?_) | ((with_reducible refine fun (_ : Nat → Value) => ?_); (try simp only [gx])))
    exact hKn (v', k + 1) _ ⟨by show k + 1 ≤ (mem m).length; omega, hXB.trans hC, ho'.ext hC⟩ (by show (mem m).length - (k + 1) < (mem m).length - k; omega)
  · have hk2 : k = (mem m).length := by omega
    subst hk2
    rw [sqL_end] at ho6
    have hsl6 : SlN w6 vo (partFr f m).a := ho6.sl
    have hpl : (partFr f m).a.length = (partFr f m).n := by simp [partFr]
    have hpn : (partFr f m).n = (mem m).length := rfl
    refine iCall ((ok_spec_l16Make hsl6 (by omega)).mono ?_)
    rintro _ w12 ⟨h12, v', rfl, ho'⟩
    rw [hpl]
    have hB4 := (hB4.ext h6).ext h12
    have hX12 := hX3.trans (h6.trans h12)
    have hX6s := (hX3.trans h6).size
    have hne : v'.ownBlock ≠ some b4 := fun e => by
      have := (ho'.blk b4 e).1
      have h3s := h3.size
      have h6s := h6.size
      omega
    refine iStAB hB4 rfl rfl (ho'.pair _) fun w13 hu hB13 => ?_
    refine iLdA hB13 rfl ?_
    exact ⟨hX12.upd hu (by omega), _, rfl, (ho'.mono hX6s).upd hu hne⟩
theorem ok_spec_l34Cone {f : Fr} (hf : f.ok) {v : Value} {w : World} (hs : SlN w v f.a) (x : Nat) (hx : x < f.n) : Cal Tryz.prog f_spec_l34Cone #[.agg #[.int .i64 (f.n : Int), v], .int .i64 (x : Int)] w fun r w' => Ext w w' ∧ ∃ v', r = .agg #[.int .i64 ((partFr f (f.a.getD x 0)).n : Int), v'] ∧ Ow w.heap.size t_i64 w' v' (ints (nats (partFr f (f.a.getD x 0)).a)) := by
  apply c_spec_l34Cone; unfold S_spec_l34Cone
  have hf8 := hf.1
  have hfl := hf.2.1
  refine iNew fun b w1 hb1 h1 hB1 => ?_
  refine iNew fun b4 w2 hb4 h2 hB4 => ?_
  have hX2 := h1.trans h2
  have hsz1 := h1.size
  have hB1 := hB1.ext h2
  have hs2 := hs.ext hX2
  (repeat first
    | (with_reducible first | refine iFa ?_ | refine iNil ?_ | refine iNilF ?_ | refine iLd (by assumption) ?_ | refine iLenN (by assumption) ?_ | refine iLenI (by assumption) ?_ | refine iLenS (by assumption) ?_ | refine iLenL ?_ | refine iEq ?_ | refine iNe ?_ | refine iLt ?_ | refine iLe ?_ | refine iNot ?_ | refine iPick ?_ | refine iE20 ?_ | refine iE21 ?_ | refine iE30 ?_ | refine iE31 ?_ | refine iE32 ?_ | refine iJn ?_)
    | ((with_reducible show xLd _ _ _); refine iLdB (by assumption) (by first | rfl | simp) ?_) | ((with_reducible refine iLdA (by assumption) ?_ ?_); rfl)
    | ((with_reducible refine iIaNN (by assumption) ?_ (fun pa_ hpa_ => ?_)); omega) | ((with_reducible refine iIaN (by assumption) ?_ (fun pa_ hpa_ => ?_)); omega)
    | ((with_reducible refine iIaI (by assumption) ?_ ?_ (fun pa_ hpa_ => ?_)); omega; omega) | ((with_reducible refine iAdd ?_ ?_); omega) | ((with_reducible refine iSub ?_ ?_); omega)
    | ((with_reducible show xEx _ _ _); refine iEx (by rfl) ?_) | ((with_reducible refine fun (_ : Nat → Value) => ?_); (try simp only [gx])))
  intro w3 h3
  have hX3 := hX2.trans h3
  refine iCall ((ok_spec_l16Part hf (hs.ext hX3) _ (hf.lt hx)).mono ?_)
  rintro _ w4 ⟨h4, v', rfl, ho'⟩
  (try refine ⟨h4, ?_⟩)
  intro w5 h5
  have ho5 := ho'.ext h5
  have hB5 := ((hB4.ext h3).ext h4).ext h5
  have h3s := hX3.size
  have hne : v'.ownBlock ≠ some b4 := fun e => by have := (ho5.blk b4 e).1; have := (hB4.ext h3).lt; omega
  refine iStAB hB5 rfl rfl (ho5.pair _) fun w6 hu hB6 => ?_
  intro w7 h7
  refine iLdA (hB6.ext h7) rfl ?_
  exact ⟨((hX3.trans (h4.trans h5)).upd hu (by omega)).trans h7, _, rfl, ((ho5.mono h3s).upd hu hne).ext h7⟩
theorem ok_impl_partOn {f : Fr} (hf : f.ok) {v : Value} {w : World} (hs : SlN w v f.a) (m : Nat) (hm : m < 2 ^ f.n) : Cal Tryz.prog f_impl_partOn #[v, .int .i64 (m : Int)] w fun r w' => Ext w w' ∧ Ow w.heap.size t_i64 w' r (ints (nats (partFr f m).a)) := by
  apply c_impl_partOn; unfold S_impl_partOn
  have hf8 := hf.1
  have hfl := hf.2.1
  have hm8 : m < 2 ^ 8 := Nat.lt_of_lt_of_le hm (Nat.pow_le_pow_right (by omega) hf8)
  refine iCall ((ok_impl_membersOf m (by omega) w).mono ?_)
  rintro u w1 ⟨h1, hou⟩
  have hml : (mem m).length ≤ 8 := Nat.le_trans (mem_len hf hm) hf8
  have hmx : ∀ x ∈ mem m, x < f.n := fun x hx => mem_lt hf hm hx
  have hus : SlN w1 u (mem m) := hou.sl
  (repeat first
    | (with_reducible first | refine iFa ?_ | refine iNil ?_ | refine iNilF ?_ | refine iLd (by assumption) ?_ | refine iLenN (by assumption) ?_ | refine iLenI (by assumption) ?_ | refine iLenS (by assumption) ?_ | refine iLenL ?_ | refine iEq ?_ | refine iNe ?_ | refine iLt ?_ | refine iLe ?_ | refine iNot ?_ | refine iPick ?_ | refine iE20 ?_ | refine iE21 ?_ | refine iE30 ?_ | refine iE31 ?_ | refine iE32 ?_ | refine iJn ?_)
    | ((with_reducible show xLd _ _ _); refine iLdB (by assumption) (by first | rfl | simp) ?_) | ((with_reducible refine iLdA (by assumption) ?_ ?_); rfl)
    | ((with_reducible refine iIaNN (by assumption) ?_ (fun pa_ hpa_ => ?_)); omega) | ((with_reducible refine iIaN (by assumption) ?_ (fun pa_ hpa_ => ?_)); omega)
    | ((with_reducible refine iIaI (by assumption) ?_ ?_ (fun pa_ hpa_ => ?_)); omega; omega) | ((with_reducible refine iAdd ?_ ?_); omega) | ((with_reducible refine iSub ?_ ?_); omega)
    | ((with_reducible show xEx _ _ _); refine iEx (by rfl) ?_) | ((with_reducible refine fun (_ : Nat → Value) => ?_); (try simp only [gx])))
  refine iLp (fun s : Value × Nat => [s.1, .int .i64 (s.2 : Int)]) (fun s w' => s.2 ≤ (mem m).length ∧ Ext w1 w' ∧ Ow w1.heap.size t_i64 w' s.1 (ints (nats (sqL f (mem m) s.2)))) (fun s => (mem m).length - s.2) (.slice none 0 0, 0) rfl ⟨Nat.zero_le _, Ext.refl _, Ow.nil _ _ _⟩ ?_
  rintro ⟨vo, k⟩ w6 Kn ⟨hk, h6, ho6⟩ hKn
  have hk : k ≤ (mem m).length := hk
  have ho6 : Ow w1.heap.size t_i64 w6 vo (ints (nats (sqL f (mem m) k))) := ho6
  have hs6 := hs.ext (h1.trans h6)
  have hus6 := hus.ext h6
  (repeat first
    | (with_reducible first | refine iFa ?_ | refine iNil ?_ | refine iNilF ?_ | refine iLd (by assumption) ?_ | refine iLenN (by assumption) ?_ | refine iLenI (by assumption) ?_ | refine iLenS (by assumption) ?_ | refine iLenL ?_ | refine iEq ?_ | refine iNe ?_ | refine iLt ?_ | refine iLe ?_ | refine iNot ?_ | refine iPick ?_ | refine iE20 ?_ | refine iE21 ?_ | refine iE30 ?_ | refine iE31 ?_ | refine iE32 ?_ | refine iJn ?_)
    | ((with_reducible show xLd _ _ _); refine iLdB (by assumption) (by first | rfl | simp) ?_) | ((with_reducible refine iLdA (by assumption) ?_ ?_); rfl)
    | ((with_reducible refine iIaNN (by assumption) ?_ (fun pa_ hpa_ => ?_)); omega) | ((with_reducible refine iIaN (by assumption) ?_ (fun pa_ hpa_ => ?_)); omega)
    | ((with_reducible refine iIaI (by assumption) ?_ ?_ (fun pa_ hpa_ => ?_)); omega; omega) | ((with_reducible refine iAdd ?_ ?_); omega) | ((with_reducible refine iSub ?_ ?_); omega)
    | ((with_reducible show xEx _ _ _); refine iEx (by rfl) ?_) | ((with_reducible refine fun (_ : Nat → Value) => ?_); (try simp only [gx])))
  refine iCndP (fun h7 => ?_) (fun h7 => ?_)
  · have hk1 : k < (mem m).length := by omega
    have hg : (mem m).getD k 0 = (mem m)[k] := getD_of_lt hk1
    have hx := hmx _ (List.getElem_mem hk1)
    have hgx := fr_lt63 hf (mem m)[k]
    have hsu := sqL_succ f (mem m) k hk1
    (repeat first
    | (with_reducible first | refine iFa ?_ | refine iNil ?_ | refine iNilF ?_ | refine iLd (by assumption) ?_ | refine iLenN (by assumption) ?_ | refine iLenI (by assumption) ?_ | refine iLenS (by assumption) ?_ | refine iLenL ?_ | refine iEq ?_ | refine iNe ?_ | refine iLt ?_ | refine iLe ?_ | refine iNot ?_ | refine iPick ?_ | refine iE20 ?_ | refine iE21 ?_ | refine iE30 ?_ | refine iE31 ?_ | refine iE32 ?_ | refine iJn ?_)
    | ((with_reducible show xLd _ _ _); refine iLdB (by assumption) (by first | rfl | simp) ?_) | ((with_reducible refine iLdA (by assumption) ?_ ?_); rfl)
    | ((with_reducible refine iIaNN (by assumption) ?_ (fun pa_ hpa_ => ?_)); omega) | ((with_reducible refine iIaN (by assumption) ?_ (fun pa_ hpa_ => ?_)); omega)
    | ((with_reducible refine iIaI (by assumption) ?_ ?_ (fun pa_ hpa_ => ?_)); omega; omega) | ((with_reducible refine iAdd ?_ ?_); omega) | ((with_reducible refine iSub ?_ ?_); omega)
    | ((with_reducible show xEx _ _ _); refine iEx (by rfl) ?_) | ((with_reducible refine fun (_ : Nat → Value) => ?_); (try simp only [gx])))
    rw [hg]
    (repeat first
    | (with_reducible first | refine iFa ?_ | refine iNil ?_ | refine iNilF ?_ | refine iLd (by assumption) ?_ | refine iLenN (by assumption) ?_ | refine iLenI (by assumption) ?_ | refine iLenS (by assumption) ?_ | refine iLenL ?_ | refine iEq ?_ | refine iNe ?_ | refine iLt ?_ | refine iLe ?_ | refine iNot ?_ | refine iPick ?_ | refine iE20 ?_ | refine iE21 ?_ | refine iE30 ?_ | refine iE31 ?_ | refine iE32 ?_ | refine iJn ?_)
    | ((with_reducible show xLd _ _ _); refine iLdB (by assumption) (by first | rfl | simp) ?_) | ((with_reducible refine iLdA (by assumption) ?_ ?_); rfl)
    | ((with_reducible refine iIaNN (by assumption) ?_ (fun pa_ hpa_ => ?_)); omega) | ((with_reducible refine iIaN (by assumption) ?_ (fun pa_ hpa_ => ?_)); omega)
    | ((with_reducible refine iIaI (by assumption) ?_ ?_ (fun pa_ hpa_ => ?_)); omega; omega) | ((with_reducible refine iAdd ?_ ?_); omega) | ((with_reducible refine iSub ?_ ?_); omega)
    | ((with_reducible show xEx _ _ _); refine iEx (by rfl) ?_) | ((with_reducible refine fun (_ : Nat → Value) => ?_); (try simp only [gx])))
    refine iRet (ok_impl_squeeze _ m (by omega) (by omega) w6) fun w7 h8 => ?_
    have ho7 := ho6.ext h8
    have hil : (ints (nats (sqL f (mem m) k))).length ≤ k := by rw [ints_length, nats_length]; exact sqL_len _ _ _
    refine iApp1 u_Si64 i_Si64 rfl ho7 rfl (by omega) (by omega) (h6.trans h8).size fun v' wB ho' hg' => ?_
    rw [ints_snoc, ← hsu] at ho'
    (repeat first
    | (with_reducible first | refine iFa ?_ | refine iNil ?_ | refine iNilF ?_ | refine iLd (by assumption) ?_ | refine iLenN (by assumption) ?_ | refine iLenI (by assumption) ?_ | refine iLenS (by assumption) ?_ | refine iLenL ?_ | refine iEq ?_ | refine iNe ?_ | refine iLt ?_ | refine iLe ?_ | refine iNot ?_ | refine iPick ?_ | refine iE20 ?_ | refine iE21 ?_ | refine iE30 ?_ | refine iE31 ?_ | refine iE32 ?_ | refine iJn ?_)
    | ((with_reducible show xLd _ _ _); refine iLdB (by assumption) (by first | rfl | simp) ?_) | ((with_reducible refine iLdA (by assumption) ?_ ?_); rfl)
    | ((with_reducible refine iIaNN (by assumption) ?_ (fun pa_ hpa_ => ?_)); omega) | ((with_reducible refine iIaN (by assumption) ?_ (fun pa_ hpa_ => ?_)); omega)
    | ((with_reducible refine iIaI (by assumption) ?_ ?_ (fun pa_ hpa_ => ?_)); omega; omega) | ((with_reducible refine iAdd ?_ ?_); omega) | ((with_reducible refine iSub ?_ ?_); omega)
    | ((with_reducible show xEx _ _ _); refine iEx (by rfl) ?_) | ((with_reducible refine fun (_ : Nat → Value) => ?_); (try simp only [gx])))
    exact hKn (v', k + 1) _ ⟨by show k + 1 ≤ (mem m).length; omega, (h6.trans h8).grown hg' (fun c hc => (ho7.blk c hc).1), ho'⟩ (by show (mem m).length - (k + 1) < (mem m).length - k; omega)
  · have hk2 : k = (mem m).length := by omega
    subst hk2
    rw [sqL_end] at ho6
    exact ⟨h1.trans h6, ho6.mono h1.size⟩
theorem ok_impl_posetOf {lo : Nat} {v : Value} {w : World} {l : List Nat} (hs : Ow lo t_i64 w v (ints (nats l))) : Cal Tryz.prog f_impl_posetOf #[v] w fun r w' => Ext w w' ∧ r = .agg #[.int .i64 (l.length : Int), v] := by
  apply c_impl_posetOf; unfold S_impl_posetOf
  refine iNew fun b w1 hb h1 hB => ?_
  have ho1 := hs.ext h1
  refine iRet (ok_impl_size_i64 ho1.sl) fun w2 h2 => ?_
  have hB2 := hB.ext h2
  have ho2 := ho1.ext h2
  obtain ⟨va, vn, vc, rfl⟩ := ho2.shape
  rw [ints_length, nats_length]
  refine iBuild (cs := #[.int .i64 (l.length : Int), .slice va vn vc]) (by simp [Instr.fill, Value.cells]) ?_
  refine iStAB hB2 rfl rfl (ho2.pair _) fun w3 hu hB3 => ?_
  refine iLdA hB3 rfl ?_
  exact ⟨(h1.trans h2).upd hu (by omega), rfl⟩
theorem ok_impl_Poset_on {f : Fr} (hf : f.ok) {v : Value} {w : World} (hs : SlN w v f.a) (m : Nat) (hm : m < 2 ^ f.n) : Cal Tryz.prog f_impl_Poset_on #[.agg #[.int .i64 (f.n : Int), v], .int .i64 (m : Int)] w fun r w' => Ext w w' ∧ ∃ v', r = .agg #[.int .i64 ((partFr f m).n : Int), v'] ∧ Ow w.heap.size t_i64 w' v' (ints (nats (partFr f m).a)) := by
  apply c_impl_Poset_on; unfold S_impl_Poset_on
  refine iNew fun b w1 hb1 h1 hB1 => ?_
  refine iNew fun b4 w2 hb4 h2 hB4 => ?_
  have hX2 := h1.trans h2
  have hsz1 := h1.size
  have hB1 := hB1.ext h2
  have hs2 := hs.ext hX2
  (repeat first
    | (with_reducible first | refine iFa ?_ | refine iNil ?_ | refine iNilF ?_ | refine iLd (by assumption) ?_ | refine iLenN (by assumption) ?_ | refine iLenI (by assumption) ?_ | refine iLenS (by assumption) ?_ | refine iLenL ?_ | refine iEq ?_ | refine iNe ?_ | refine iLt ?_ | refine iLe ?_ | refine iNot ?_ | refine iPick ?_ | refine iE20 ?_ | refine iE21 ?_ | refine iE30 ?_ | refine iE31 ?_ | refine iE32 ?_ | refine iJn ?_)
    | ((with_reducible show xLd _ _ _); refine iLdB (by assumption) (by first | rfl | simp) ?_) | ((with_reducible refine iLdA (by assumption) ?_ ?_); rfl)
    | ((with_reducible refine iIaNN (by assumption) ?_ (fun pa_ hpa_ => ?_)); omega) | ((with_reducible refine iIaN (by assumption) ?_ (fun pa_ hpa_ => ?_)); omega)
    | ((with_reducible refine iIaI (by assumption) ?_ ?_ (fun pa_ hpa_ => ?_)); omega; omega) | ((with_reducible refine iAdd ?_ ?_); omega) | ((with_reducible refine iSub ?_ ?_); omega)
    | ((with_reducible show xEx _ _ _); refine iEx (by rfl) ?_) | ((with_reducible refine fun (_ : Nat → Value) => ?_); (try simp only [gx])))
  refine iCall ((ok_impl_partOn hf hs2 m hm).mono ?_)
  rintro u w3 ⟨h3, ho⟩
  refine iCall ((ok_impl_posetOf ho).mono ?_)
  rintro _ w4 ⟨h4, rfl⟩
  have ho4 := ho.ext h4
  have hB5 := (hB4.ext h3).ext h4
  have hpl : (partFr f m).a.length = (partFr f m).n := by simp [partFr]
  rw [hpl]
  have h3s := hX2.size
  have hne : u.ownBlock ≠ some b4 := fun e => by have := (ho4.blk b4 e).1; have := hB4.lt; omega
  refine iStAB hB5 rfl rfl (ho4.pair _) fun w6 hu hB6 => ?_
  refine iLdA hB6 rfl ?_
  exact ⟨(hX2.trans (h3.trans h4)).upd hu (by omega), _, rfl, (ho4.mono h3s).upd hu hne⟩
theorem ok_impl_Poset_cone {f : Fr} (hf : f.ok) {v : Value} {w : World} (hs : SlN w v f.a) (x : Nat) (hx : x < f.n) : Cal Tryz.prog f_impl_Poset_cone #[.agg #[.int .i64 (f.n : Int), v], .int .i64 (x : Int)] w fun r w' => Ext w w' ∧ ∃ v', r = .agg #[.int .i64 ((partFr f (f.a.getD x 0)).n : Int), v'] ∧ Ow w.heap.size t_i64 w' v' (ints (nats (partFr f (f.a.getD x 0)).a)) := by
  apply c_impl_Poset_cone; unfold S_impl_Poset_cone
  have hf8 := hf.1
  have hfl := hf.2.1
  refine iNew fun b w1 hb1 h1 hB1 => ?_
  refine iNew fun b4 w2 hb4 h2 hB4 => ?_
  have hX2 := h1.trans h2
  have hsz1 := h1.size
  have hB1 := hB1.ext h2
  have hs2 := hs.ext hX2
  (repeat first
    | (with_reducible first | refine iFa ?_ | refine iNil ?_ | refine iNilF ?_ | refine iLd (by assumption) ?_ | refine iLenN (by assumption) ?_ | refine iLenI (by assumption) ?_ | refine iLenS (by assumption) ?_ | refine iLenL ?_ | refine iEq ?_ | refine iNe ?_ | refine iLt ?_ | refine iLe ?_ | refine iNot ?_ | refine iPick ?_ | refine iE20 ?_ | refine iE21 ?_ | refine iE30 ?_ | refine iE31 ?_ | refine iE32 ?_ | refine iJn ?_)
    | ((with_reducible show xLd _ _ _); refine iLdB (by assumption) (by first | rfl | simp) ?_) | ((with_reducible refine iLdA (by assumption) ?_ ?_); rfl)
    | ((with_reducible refine iIaNN (by assumption) ?_ (fun pa_ hpa_ => ?_)); omega) | ((with_reducible refine iIaN (by assumption) ?_ (fun pa_ hpa_ => ?_)); omega)
    | ((with_reducible refine iIaI (by assumption) ?_ ?_ (fun pa_ hpa_ => ?_)); omega; omega) | ((with_reducible refine iAdd ?_ ?_); omega) | ((with_reducible refine iSub ?_ ?_); omega)
    | ((with_reducible show xEx _ _ _); refine iEx (by rfl) ?_) | ((with_reducible refine fun (_ : Nat → Value) => ?_); (try simp only [gx])))
  intro w3 h3
  have hX3 := hX2.trans h3
  refine iCall ((ok_impl_Poset_on hf (hs.ext hX3) _ (hf.lt hx)).mono ?_)
  rintro _ w4 ⟨h4, v', rfl, ho'⟩
  (try refine ⟨h4, ?_⟩)
  intro w5 h5
  have ho5 := ho'.ext h5
  have hB5 := ((hB4.ext h3).ext h4).ext h5
  have h3s := hX3.size
  have hne : v'.ownBlock ≠ some b4 := fun e => by have := (ho5.blk b4 e).1; have := (hB4.ext h3).lt; omega
  refine iStAB hB5 rfl rfl (ho5.pair _) fun w6 hu hB6 => ?_
  intro w7 h7
  refine iLdA (hB6.ext h7) rfl ?_
  exact ⟨((hX3.trans (h4.trans h5)).upd hu (by omega)).trans h7, _, rfl, ((ho5.mono h3s).upd hu hne).ext h7⟩
theorem ok_spec_l21Part {f g : Fr} (hp : Po f) (hg : g.ok) {w : World} {fa ga : Value} (hfa : SlN w fa f.a) (hga : SlN w ga g.a) : Cal Tryz.prog f_spec_l21Part #[.agg #[.int .i64 (f.n : Int), fa], .agg #[.int .i64 (g.n : Int), ga]] w fun r w' => Ext w w' ∧ ∃ v,
    r = .tuple #[.int .i64 ((pmO (partOut f g) : Nat) : Int), v, .bool (partOut f g).isSome] ∧ Ow w.heap.size t_i64 w' v (ints (nats (pfO (partOut f g)))) := by
  apply c_spec_l21Part; unfold S_spec_l21Part
  have hf8 := hp.ok.1
  refine iNew fun b1 w1 hb1 h1 hB1 => ?_
  refine iNew fun b2 w2 hb2 h2 hB2 => ?_
  have hX2 := h1.trans h2
  have hB1 := hB1.ext h2
  (repeat first
    | (with_reducible first | refine iFa ?_ | refine iNil ?_ | refine iNilF ?_ | refine iLd (by assumption) ?_ | refine iLenN (by assumption) ?_ | refine iLenI (by assumption) ?_ | refine iLenS (by assumption) ?_ | refine iLenL ?_ | refine iEq ?_ | refine iNe ?_ | refine iLt ?_ | refine iLe ?_ | refine iNot ?_ | refine iPick ?_ | refine iE20 ?_ | refine iE21 ?_ | refine iE30 ?_ | refine iE31 ?_ | refine iE32 ?_ | refine iJn ?_)
    | ((with_reducible show xLd _ _ _); refine iLdB (by assumption) (by first | rfl | simp) ?_) | ((with_reducible refine iLdA (by assumption) ?_ ?_); rfl)
    | ((with_reducible refine iIaNN (by assumption) ?_ (fun pa_ hpa_ => ?_)); omega) | ((with_reducible refine iIaN (by assumption) ?_ (fun pa_ hpa_ => ?_)); omega)
    | ((with_reducible refine iIaI (by assumption) ?_ ?_ (fun pa_ hpa_ => ?_)); omega; omega) | ((with_reducible refine iAdd ?_ ?_); omega) | ((with_reducible refine iSub ?_ ?_); omega)
    | ((with_reducible show xEx _ _ _); refine iEx (by rfl) ?_) | ((with_reducible refine fun (_ : Nat → Value) => ?_); (try simp only [gx])))
  refine iCall ((ok_spec_l16Upsets hp.ok (hfa.ext hX2)).mono ?_)
  rintro u w3 ⟨h3, hou⟩
  have hX3 := hX2.trans h3
  have hB1 := hB1.ext h3
  have hB2 := hB2.ext h3
  have hul := upsets_len hp.ok
  have hus : SlN w3 u (upsets f) := hou.sl
  refine iLp (fun k : Nat => [.int .i64 (k : Int)]) (fun k w' => k ≤ (upsets f).length ∧ Ext w3 w' ∧ ((upsets f).take k).findSome? (oneOut f g) = none) (fun k => (upsets f).length - k) 0 rfl ⟨Nat.zero_le _, Ext.refl _, rfl⟩ ?_
  rintro k w5 Kn ⟨hk, h5, hno⟩ hKn
  have hus5 := hus.ext h5
  (repeat first
    | (with_reducible first | refine iFa ?_ | refine iNil ?_ | refine iNilF ?_ | refine iLd (by assumption) ?_ | refine iLenN (by assumption) ?_ | refine iLenI (by assumption) ?_ | refine iLenS (by assumption) ?_ | refine iLenL ?_ | refine iEq ?_ | refine iNe ?_ | refine iLt ?_ | refine iLe ?_ | refine iNot ?_ | refine iPick ?_ | refine iE20 ?_ | refine iE21 ?_ | refine iE30 ?_ | refine iE31 ?_ | refine iE32 ?_ | refine iJn ?_)
    | ((with_reducible show xLd _ _ _); refine iLdB (by assumption) (by first | rfl | simp) ?_) | ((with_reducible refine iLdA (by assumption) ?_ ?_); rfl)
    | ((with_reducible refine iIaNN (by assumption) ?_ (fun pa_ hpa_ => ?_)); omega) | ((with_reducible refine iIaN (by assumption) ?_ (fun pa_ hpa_ => ?_)); omega)
    | ((with_reducible refine iIaI (by assumption) ?_ ?_ (fun pa_ hpa_ => ?_)); omega; omega) | ((with_reducible refine iAdd ?_ ?_); omega) | ((with_reducible refine iSub ?_ ?_); omega)
    | ((with_reducible show xEx _ _ _); refine iEx (by rfl) ?_) | ((with_reducible refine fun (_ : Nat → Value) => ?_); (try simp only [gx])))
  refine iCndP (fun h6 => ?_) (fun h6 => ?_)
  · have hk1 : k < (upsets f).length := by omega
    have hgt : (upsets f).getD k 0 = (upsets f)[k] := getD_of_lt hk1
    have hm : (upsets f)[k] < 2 ^ f.n := upsets_lt (List.getElem_mem hk1)
    have hm8 : (upsets f)[k] < 2 ^ 8 := Nat.lt_of_lt_of_le hm (Nat.pow_le_pow_right (by omega) hf8)
    have hB25 := hB2.ext h5
    (repeat first
    | (with_reducible first | refine iFa ?_ | refine iNil ?_ | refine iNilF ?_ | refine iLd (by assumption) ?_ | refine iLenN (by assumption) ?_ | refine iLenI (by assumption) ?_ | refine iLenS (by assumption) ?_ | refine iLenL ?_ | refine iEq ?_ | refine iNe ?_ | refine iLt ?_ | refine iLe ?_ | refine iNot ?_ | refine iPick ?_ | refine iE20 ?_ | refine iE21 ?_ | refine iE30 ?_ | refine iE31 ?_ | refine iE32 ?_ | refine iJn ?_)
    | ((with_reducible show xLd _ _ _); refine iLdB (by assumption) (by first | rfl | simp) ?_) | ((with_reducible refine iLdA (by assumption) ?_ ?_); rfl)
    | ((with_reducible refine iIaNN (by assumption) ?_ (fun pa_ hpa_ => ?_)); omega) | ((with_reducible refine iIaN (by assumption) ?_ (fun pa_ hpa_ => ?_)); omega)
    | ((with_reducible refine iIaI (by assumption) ?_ ?_ (fun pa_ hpa_ => ?_)); omega; omega) | ((with_reducible refine iAdd ?_ ?_); omega) | ((with_reducible refine iSub ?_ ?_); omega)
    | ((with_reducible show xEx _ _ _); refine iEx (by rfl) ?_) | ((with_reducible refine fun (_ : Nat → Value) => ?_); (try simp only [gx])))
    rw [hgt]
    refine iRetQ (fun w' _ => ok_spec_l01Bits _ (by omega) w') ?_
    (repeat first
    | (with_reducible first | refine iFa ?_ | refine iNil ?_ | refine iNilF ?_ | refine iLd (by assumption) ?_ | refine iLenN (by assumption) ?_ | refine iLenI (by assumption) ?_ | refine iLenS (by assumption) ?_ | refine iLenL ?_ | refine iEq ?_ | refine iNe ?_ | refine iLt ?_ | refine iLe ?_ | refine iNot ?_ | refine iPick ?_ | refine iE20 ?_ | refine iE21 ?_ | refine iE30 ?_ | refine iE31 ?_ | refine iE32 ?_ | refine iJn ?_)
    | ((with_reducible show xLd _ _ _); refine iLdB (by assumption) (by first | rfl | simp) ?_) | ((with_reducible refine iLdA (by assumption) ?_ ?_); rfl)
    | ((with_reducible refine iIaNN (by assumption) ?_ (fun pa_ hpa_ => ?_)); omega) | ((with_reducible refine iIaN (by assumption) ?_ (fun pa_ hpa_ => ?_)); omega)
    | ((with_reducible refine iIaI (by assumption) ?_ ?_ (fun pa_ hpa_ => ?_)); omega; omega) | ((with_reducible refine iAdd ?_ ?_); omega) | ((with_reducible refine iSub ?_ ?_); omega)
    | ((with_reducible show xEx _ _ _); refine iEx (by rfl) ?_) | ((with_reducible refine fun (_ : Nat → Value) => ?_); (try simp only [gx])))
    intro w6 h7
    have h56 := h5.trans h7
    refine iCndP (fun h8 => ?_) (fun h8 => ?_)
    · (repeat first
    | (with_reducible first | refine iFa ?_ | refine iNil ?_ | refine iNilF ?_ | refine iLd (by assumption) ?_ | refine iLenN (by assumption) ?_ | refine iLenI (by assumption) ?_ | refine iLenS (by assumption) ?_ | refine iLenL ?_ | refine iEq ?_ | refine iNe ?_ | refine iLt ?_ | refine iLe ?_ | refine iNot ?_ | refine iPick ?_ | refine iE20 ?_ | refine iE21 ?_ | refine iE30 ?_ | refine iE31 ?_ | refine iE32 ?_ | refine iJn ?_)
    | ((with_reducible show xLd _ _ _); refine iLdB (by assumption) (by first | rfl | simp) ?_) | ((with_reducible refine iLdA (by assumption) ?_ ?_); rfl)
    | ((with_reducible refine iIaNN (by assumption) ?_ (fun pa_ hpa_ => ?_)); omega) | ((with_reducible refine iIaN (by assumption) ?_ (fun pa_ hpa_ => ?_)); omega)
    | ((with_reducible refine iIaI (by assumption) ?_ ?_ (fun pa_ hpa_ => ?_)); omega; omega) | ((with_reducible refine iAdd ?_ ?_); omega) | ((with_reducible refine iSub ?_ ?_); omega)
    | ((with_reducible show xEx _ _ _); refine iEx (by rfl) ?_) | ((with_reducible refine fun (_ : Nat → Value) => ?_); (try simp only [gx])))
      exact hKn (k + 1) _ ⟨by omega, h56, findSome_next hk1 hno (oneOut_small hp.ok hg hm (by omega))⟩ (by omega)
    · have hB16 := hB1.ext h56
      have hB26 := hB2.ext h56
      have hus6 := hus.ext h56
      (repeat first
    | (with_reducible first | refine iFa ?_ | refine iNil ?_ | refine iNilF ?_ | refine iLd (by assumption) ?_ | refine iLenN (by assumption) ?_ | refine iLenI (by assumption) ?_ | refine iLenS (by assumption) ?_ | refine iLenL ?_ | refine iEq ?_ | refine iNe ?_ | refine iLt ?_ | refine iLe ?_ | refine iNot ?_ | refine iPick ?_ | refine iE20 ?_ | refine iE21 ?_ | refine iE30 ?_ | refine iE31 ?_ | refine iE32 ?_ | refine iJn ?_)
    | ((with_reducible show xLd _ _ _); refine iLdB (by assumption) (by first | rfl | simp) ?_) | ((with_reducible refine iLdA (by assumption) ?_ ?_); rfl)
    | ((with_reducible refine iIaNN (by assumption) ?_ (fun pa_ hpa_ => ?_)); omega) | ((with_reducible refine iIaN (by assumption) ?_ (fun pa_ hpa_ => ?_)); omega)
    | ((with_reducible refine iIaI (by assumption) ?_ ?_ (fun pa_ hpa_ => ?_)); omega; omega) | ((with_reducible refine iAdd ?_ ?_); omega) | ((with_reducible refine iSub ?_ ?_); omega)
    | ((with_reducible show xEx _ _ _); refine iEx (by rfl) ?_) | ((with_reducible refine fun (_ : Nat → Value) => ?_); (try simp only [gx])))
      rw [hgt]
      (repeat first
    | (with_reducible first | refine iFa ?_ | refine iNil ?_ | refine iNilF ?_ | refine iLd (by assumption) ?_ | refine iLenN (by assumption) ?_ | refine iLenI (by assumption) ?_ | refine iLenS (by assumption) ?_ | refine iLenL ?_ | refine iEq ?_ | refine iNe ?_ | refine iLt ?_ | refine iLe ?_ | refine iNot ?_ | refine iPick ?_ | refine iE20 ?_ | refine iE21 ?_ | refine iE30 ?_ | refine iE31 ?_ | refine iE32 ?_ | refine iJn ?_)
    | ((with_reducible show xLd _ _ _); refine iLdB (by assumption) (by first | rfl | simp) ?_) | ((with_reducible refine iLdA (by assumption) ?_ ?_); rfl)
    | ((with_reducible refine iIaNN (by assumption) ?_ (fun pa_ hpa_ => ?_)); omega) | ((with_reducible refine iIaN (by assumption) ?_ (fun pa_ hpa_ => ?_)); omega)
    | ((with_reducible refine iIaI (by assumption) ?_ ?_ (fun pa_ hpa_ => ?_)); omega; omega) | ((with_reducible refine iAdd ?_ ?_); omega) | ((with_reducible refine iSub ?_ ?_); omega)
    | ((with_reducible show xEx _ _ _); refine iEx (by rfl) ?_) | ((with_reducible refine fun (_ : Nat → Value) => ?_); (try simp only [gx])))
      intro w7 h9
      have h57 := h56.trans h9
      refine iCall ((ok_spec_l16Part hp.ok (hfa.ext (hX3.trans h57)) _ hm).mono ?_)
      rintro _ w8 ⟨hA, v', rfl, ho'⟩
      (try refine ⟨hA, ?_⟩)
      intro w9 hC
      have h59 := h57.trans (hA.trans hC)
      refine iCall ((ok_spec_l21Onto (part_po hp hm) hg (ho'.ext hC).sl (hga.ext (hX3.trans h59))).mono ?_)
      rintro _ w10 ⟨hD, vi, rfl, hoi⟩
      (try refine ⟨hD, ?_⟩)
      (repeat first
    | (with_reducible first | refine iFa ?_ | refine iNil ?_ | refine iNilF ?_ | refine iLd (by assumption) ?_ | refine iLenN (by assumption) ?_ | refine iLenI (by assumption) ?_ | refine iLenS (by assumption) ?_ | refine iLenL ?_ | refine iEq ?_ | refine iNe ?_ | refine iLt ?_ | refine iLe ?_ | refine iNot ?_ | refine iPick ?_ | refine iE20 ?_ | refine iE21 ?_ | refine iE30 ?_ | refine iE31 ?_ | refine iE32 ?_ | refine iJn ?_)
    | ((with_reducible show xLd _ _ _); refine iLdB (by assumption) (by first | rfl | simp) ?_) | ((with_reducible refine iLdA (by assumption) ?_ ?_); rfl)
    | ((with_reducible refine iIaNN (by assumption) ?_ (fun pa_ hpa_ => ?_)); omega) | ((with_reducible refine iIaN (by assumption) ?_ (fun pa_ hpa_ => ?_)); omega)
    | ((with_reducible refine iIaI (by assumption) ?_ ?_ (fun pa_ hpa_ => ?_)); omega; omega) | ((with_reducible refine iAdd ?_ ?_); omega) | ((with_reducible refine iSub ?_ ?_); omega)
    | ((with_reducible show xEx _ _ _); refine iEx (by rfl) ?_) | ((with_reducible refine fun (_ : Nat → Value) => ?_); (try simp only [gx])))
      intro w11 hE
      have h511 := h59.trans (hD.trans hE)
      have hlo := (hX3.trans h59).size
      cases hL : leaves (fitsB (partFr f (upsets f)[k]) g true false) g.n (partFr f (upsets f)[k]).n [] with
      | nil =>
        have hone : oneOut f g (upsets f)[k] = none := by unfold oneOut; rw [hL]
        refine iCndF rfl ?_
        (repeat first
    | (with_reducible first | refine iFa ?_ | refine iNil ?_ | refine iNilF ?_ | refine iLd (by assumption) ?_ | refine iLenN (by assumption) ?_ | refine iLenI (by assumption) ?_ | refine iLenS (by assumption) ?_ | refine iLenL ?_ | refine iEq ?_ | refine iNe ?_ | refine iLt ?_ | refine iLe ?_ | refine iNot ?_ | refine iPick ?_ | refine iE20 ?_ | refine iE21 ?_ | refine iE30 ?_ | refine iE31 ?_ | refine iE32 ?_ | refine iJn ?_)
    | ((with_reducible show xLd _ _ _); refine iLdB (by assumption) (by first | rfl | simp) ?_) | ((with_reducible refine iLdA (by assumption) ?_ ?_); rfl)
    | ((with_reducible refine iIaNN (by assumption) ?_ (fun pa_ hpa_ => ?_)); omega) | ((with_reducible refine iIaN (by assumption) ?_ (fun pa_ hpa_ => ?_)); omega)
    | ((with_reducible refine iIaI (by assumption) ?_ ?_ (fun pa_ hpa_ => ?_)); omega; omega) | ((with_reducible refine iAdd ?_ ?_); omega) | ((with_reducible refine iSub ?_ ?_); omega)
    | ((with_reducible show xEx _ _ _); refine iEx (by rfl) ?_) | ((with_reducible refine fun (_ : Nat → Value) => ?_); (try simp only [gx])))
        exact hKn (k + 1) _ ⟨by omega, h511, findSome_next hk1 hno hone⟩ (by omega)
      | cons F Fs =>
        have hone : oneOut f g (upsets f)[k] = some ((upsets f)[k], F) := by unfold oneOut; rw [hL]
        have hpo : partOut f g = some ((upsets f)[k], F) := findSome_at hk1 hno hone
        rw [hL] at hoi
        refine iCndT rfl ?_
        have hus11 := hus.ext h511
        (repeat first
    | (with_reducible first | refine iFa ?_ | refine iNil ?_ | refine iNilF ?_ | refine iLd (by assumption) ?_ | refine iLenN (by assumption) ?_ | refine iLenI (by assumption) ?_ | refine iLenS (by assumption) ?_ | refine iLenL ?_ | refine iEq ?_ | refine iNe ?_ | refine iLt ?_ | refine iLe ?_ | refine iNot ?_ | refine iPick ?_ | refine iE20 ?_ | refine iE21 ?_ | refine iE30 ?_ | refine iE31 ?_ | refine iE32 ?_ | refine iJn ?_)
    | ((with_reducible show xLd _ _ _); refine iLdB (by assumption) (by first | rfl | simp) ?_) | ((with_reducible refine iLdA (by assumption) ?_ ?_); rfl)
    | ((with_reducible refine iIaNN (by assumption) ?_ (fun pa_ hpa_ => ?_)); omega) | ((with_reducible refine iIaN (by assumption) ?_ (fun pa_ hpa_ => ?_)); omega)
    | ((with_reducible refine iIaI (by assumption) ?_ ?_ (fun pa_ hpa_ => ?_)); omega; omega) | ((with_reducible refine iAdd ?_ ?_); omega) | ((with_reducible refine iSub ?_ ?_); omega)
    | ((with_reducible show xEx _ _ _); refine iEx (by rfl) ?_) | ((with_reducible refine fun (_ : Nat → Value) => ?_); (try simp only [gx])))
        rw [hgt, hpo]
        exact ⟨hX3.trans h511, vi, rfl, (hoi.ext hE).mono hlo⟩
  · have hk2 : k = (upsets f).length := by omega
    rw [List.take_of_length_le (by omega)] at hno
    have hpo : partOut f g = none := hno
    rw [hpo]
    exact ⟨hX3.trans h5, _, rfl, Ow.nil _ _ _⟩
theorem ok_impl_findPart {f g : Fr} (hp : Po f) (hg : g.ok) {w : World} {fa ga : Value} (hfa : SlN w fa f.a) (hga : SlN w ga g.a) : Cal Tryz.prog f_impl_findPart #[.agg #[.int .i64 (f.n : Int), fa], .agg #[.int .i64 (g.n : Int), ga]] w fun r w' => Ext w w' ∧ ∃ v,
    r = .tuple #[.int .i64 ((pmO (partOut f g) : Nat) : Int), v, .bool (partOut f g).isSome] ∧ Ow w.heap.size t_i64 w' v (ints (nats (pfO (partOut f g)))) := by
  apply c_impl_findPart; unfold S_impl_findPart
  have hf8 := hp.ok.1
  refine iNew fun b1 w1 hb1 h1 hB1 => ?_
  refine iNew fun b2 w2 hb2 h2 hB2 => ?_
  have hX2 := h1.trans h2
  have hB1 := hB1.ext h2
  (repeat first
    | (with_reducible first | refine iFa ?_ | refine iNil ?_ | refine iNilF ?_ | refine iLd (by assumption) ?_ | refine iLenN (by assumption) ?_ | refine iLenI (by assumption) ?_ | refine iLenS (by assumption) ?_ | refine iLenL ?_ | refine iEq ?_ | refine iNe ?_ | refine iLt ?_ | refine iLe ?_ | refine iNot ?_ | refine iPick ?_ | refine iE20 ?_ | refine iE21 ?_ | refine iE30 ?_ | refine iE31 ?_ | refine iE32 ?_ | refine iJn ?_)
    | ((with_reducible show xLd _ _ _); refine iLdB (by assumption) (by first | rfl | simp) ?_) | ((with_reducible refine iLdA (by assumption) ?_ ?_); rfl)
    | ((with_reducible refine iIaNN (by assumption) ?_ (fun pa_ hpa_ => ?_)); omega) | ((with_reducible refine iIaN (by assumption) ?_ (fun pa_ hpa_ => ?_)); omega)
    | ((with_reducible refine iIaI (by assumption) ?_ ?_ (fun pa_ hpa_ => ?_)); omega; omega) | ((with_reducible refine iAdd ?_ ?_); omega) | ((with_reducible refine iSub ?_ ?_); omega)
    | ((with_reducible show xEx _ _ _); refine iEx (by rfl) ?_) | ((with_reducible refine fun (_ : Nat → Value) => ?_); (try simp only [gx])))
  refine iCall ((ok_impl_Poset_upsets hp.ok (hfa.ext hX2)).mono ?_)
  rintro u w3 ⟨h3, hou⟩
  have hX3 := hX2.trans h3
  have hB1 := hB1.ext h3
  have hB2 := hB2.ext h3
  have hul := upsets_len hp.ok
  have hus : SlN w3 u (upsets f) := hou.sl
  (repeat first
    | (with_reducible first | refine iFa ?_ | refine iNil ?_ | refine iNilF ?_ | refine iLd (by assumption) ?_ | refine iLenN (by assumption) ?_ | refine iLenI (by assumption) ?_ | refine iLenS (by assumption) ?_ | refine iLenL ?_ | refine iEq ?_ | refine iNe ?_ | refine iLt ?_ | refine iLe ?_ | refine iNot ?_ | refine iPick ?_ | refine iE20 ?_ | refine iE21 ?_ | refine iE30 ?_ | refine iE31 ?_ | refine iE32 ?_ | refine iJn ?_)
    | ((with_reducible show xLd _ _ _); refine iLdB (by assumption) (by first | rfl | simp) ?_) | ((with_reducible refine iLdA (by assumption) ?_ ?_); rfl)
    | ((with_reducible refine iIaNN (by assumption) ?_ (fun pa_ hpa_ => ?_)); omega) | ((with_reducible refine iIaN (by assumption) ?_ (fun pa_ hpa_ => ?_)); omega)
    | ((with_reducible refine iIaI (by assumption) ?_ ?_ (fun pa_ hpa_ => ?_)); omega; omega) | ((with_reducible refine iAdd ?_ ?_); omega) | ((with_reducible refine iSub ?_ ?_); omega)
    | ((with_reducible show xEx _ _ _); refine iEx (by rfl) ?_) | ((with_reducible refine fun (_ : Nat → Value) => ?_); (try simp only [gx])))
  refine iLp (fun k : Nat => [.int .i64 (k : Int)]) (fun k w' => k ≤ (upsets f).length ∧ Ext w3 w' ∧ ((upsets f).take k).findSome? (oneOut f g) = none) (fun k => (upsets f).length - k) 0 rfl ⟨Nat.zero_le _, Ext.refl _, rfl⟩ ?_
  rintro k w5 Kn ⟨hk, h5, hno⟩ hKn
  have hus5 := hus.ext h5
  (repeat first
    | (with_reducible first | refine iFa ?_ | refine iNil ?_ | refine iNilF ?_ | refine iLd (by assumption) ?_ | refine iLenN (by assumption) ?_ | refine iLenI (by assumption) ?_ | refine iLenS (by assumption) ?_ | refine iLenL ?_ | refine iEq ?_ | refine iNe ?_ | refine iLt ?_ | refine iLe ?_ | refine iNot ?_ | refine iPick ?_ | refine iE20 ?_ | refine iE21 ?_ | refine iE30 ?_ | refine iE31 ?_ | refine iE32 ?_ | refine iJn ?_)
    | ((with_reducible show xLd _ _ _); refine iLdB (by assumption) (by first | rfl | simp) ?_) | ((with_reducible refine iLdA (by assumption) ?_ ?_); rfl)
    | ((with_reducible refine iIaNN (by assumption) ?_ (fun pa_ hpa_ => ?_)); omega) | ((with_reducible refine iIaN (by assumption) ?_ (fun pa_ hpa_ => ?_)); omega)
    | ((with_reducible refine iIaI (by assumption) ?_ ?_ (fun pa_ hpa_ => ?_)); omega; omega) | ((with_reducible refine iAdd ?_ ?_); omega) | ((with_reducible refine iSub ?_ ?_); omega)
    | ((with_reducible show xEx _ _ _); refine iEx (by rfl) ?_) | ((with_reducible refine fun (_ : Nat → Value) => ?_); (try simp only [gx])))
  refine iCndP (fun h6 => ?_) (fun h6 => ?_)
  · have hk1 : k < (upsets f).length := by omega
    have hgt : (upsets f).getD k 0 = (upsets f)[k] := getD_of_lt hk1
    have hm : (upsets f)[k] < 2 ^ f.n := upsets_lt (List.getElem_mem hk1)
    have hB15 := hB1.ext h5
    have hB25 := hB2.ext h5
    (repeat first
    | (with_reducible first | refine iFa ?_ | refine iNil ?_ | refine iNilF ?_ | refine iLd (by assumption) ?_ | refine iLenN (by assumption) ?_ | refine iLenI (by assumption) ?_ | refine iLenS (by assumption) ?_ | refine iLenL ?_ | refine iEq ?_ | refine iNe ?_ | refine iLt ?_ | refine iLe ?_ | refine iNot ?_ | refine iPick ?_ | refine iE20 ?_ | refine iE21 ?_ | refine iE30 ?_ | refine iE31 ?_ | refine iE32 ?_ | refine iJn ?_)
    | ((with_reducible show xLd _ _ _); refine iLdB (by assumption) (by first | rfl | simp) ?_) | ((with_reducible refine iLdA (by assumption) ?_ ?_); rfl)
    | ((with_reducible refine iIaNN (by assumption) ?_ (fun pa_ hpa_ => ?_)); omega) | ((with_reducible refine iIaN (by assumption) ?_ (fun pa_ hpa_ => ?_)); omega)
    | ((with_reducible refine iIaI (by assumption) ?_ ?_ (fun pa_ hpa_ => ?_)); omega; omega) | ((with_reducible refine iAdd ?_ ?_); omega) | ((with_reducible refine iSub ?_ ?_); omega)
    | ((with_reducible show xEx _ _ _); refine iEx (by rfl) ?_) | ((with_reducible refine fun (_ : Nat → Value) => ?_); (try simp only [gx])))
    rw [hgt]
    (repeat first
    | (with_reducible first | refine iFa ?_ | refine iNil ?_ | refine iNilF ?_ | refine iLd (by assumption) ?_ | refine iLenN (by assumption) ?_ | refine iLenI (by assumption) ?_ | refine iLenS (by assumption) ?_ | refine iLenL ?_ | refine iEq ?_ | refine iNe ?_ | refine iLt ?_ | refine iLe ?_ | refine iNot ?_ | refine iPick ?_ | refine iE20 ?_ | refine iE21 ?_ | refine iE30 ?_ | refine iE31 ?_ | refine iE32 ?_ | refine iJn ?_)
    | ((with_reducible show xLd _ _ _); refine iLdB (by assumption) (by first | rfl | simp) ?_) | ((with_reducible refine iLdA (by assumption) ?_ ?_); rfl)
    | ((with_reducible refine iIaNN (by assumption) ?_ (fun pa_ hpa_ => ?_)); omega) | ((with_reducible refine iIaN (by assumption) ?_ (fun pa_ hpa_ => ?_)); omega)
    | ((with_reducible refine iIaI (by assumption) ?_ ?_ (fun pa_ hpa_ => ?_)); omega; omega) | ((with_reducible refine iAdd ?_ ?_); omega) | ((with_reducible refine iSub ?_ ?_); omega)
    | ((with_reducible show xEx _ _ _); refine iEx (by rfl) ?_) | ((with_reducible refine fun (_ : Nat → Value) => ?_); (try simp only [gx])))
    intro w6 h7
    have h56 := h5.trans h7
    refine iCall ((ok_impl_Poset_on hp.ok (hfa.ext (hX3.trans h56)) _ hm).mono ?_)
    rintro _ w7 ⟨h8, v', rfl, ho'⟩
    (try refine ⟨h8, ?_⟩)
    intro w8 h9
    have ho8 := ho'.ext h9
    have h58 := h56.trans (h8.trans h9)
    have hpl : (nats (partFr f (upsets f)[k]).a).length = (partFr f (upsets f)[k]).n := by rw [nats_length]; simp [partFr]
    have hgl : (nats g.a).length = g.n := by rw [nats_length]; exact hg.2.1
    refine iRet (ok_impl_Poset_frame (l := nats (partFr f (upsets f)[k]).a) ho8.sl _) fun w9 hA => ?_
    (try refine ⟨hA, ?_⟩)
    rw [hpl]
    intro w10 hC
    have h5A := h58.trans (hA.trans hC)
    refine iRet (ok_impl_Poset_frame (l := nats g.a) (hga.ext (hX3.trans h5A)) _) fun w11 hD => ?_
    (try refine ⟨hD, ?_⟩)
    rw [hgl]
    intro w12 hE
    have h5C := h5A.trans (hD.trans hE)
    have hlo := (hX3.trans h5C).size
    refine iCall ((ok_impl_firstMorphism (onto := true) (one := false) (part_ok hp.ok hm) hg ((((ho8.ext hA).ext hC).ext hD).ext hE).sl (hga.ext (hX3.trans h5C))).mono ?_)
    rintro _ w13 ⟨hF, vi, rfl, hoi⟩
    (try refine ⟨hF, ?_⟩)
    (repeat first
    | (with_reducible first | refine iFa ?_ | refine iNil ?_ | refine iNilF ?_ | refine iLd (by assumption) ?_ | refine iLenN (by assumption) ?_ | refine iLenI (by assumption) ?_ | refine iLenS (by assumption) ?_ | refine iLenL ?_ | refine iEq ?_ | refine iNe ?_ | refine iLt ?_ | refine iLe ?_ | refine iNot ?_ | refine iPick ?_ | refine iE20 ?_ | refine iE21 ?_ | refine iE30 ?_ | refine iE31 ?_ | refine iE32 ?_ | refine iJn ?_)
    | ((with_reducible show xLd _ _ _); refine iLdB (by assumption) (by first | rfl | simp) ?_) | ((with_reducible refine iLdA (by assumption) ?_ ?_); rfl)
    | ((with_reducible refine iIaNN (by assumption) ?_ (fun pa_ hpa_ => ?_)); omega) | ((with_reducible refine iIaN (by assumption) ?_ (fun pa_ hpa_ => ?_)); omega)
    | ((with_reducible refine iIaI (by assumption) ?_ ?_ (fun pa_ hpa_ => ?_)); omega; omega) | ((with_reducible refine iAdd ?_ ?_); omega) | ((with_reducible refine iSub ?_ ?_); omega)
    | ((with_reducible show xEx _ _ _); refine iEx (by rfl) ?_) | ((with_reducible refine fun (_ : Nat → Value) => ?_); (try simp only [gx])))
    intro w14 hG
    have h514 := h5C.trans (hF.trans hG)
    cases hL : leaves (fitsB (partFr f (upsets f)[k]) g true false) g.n (partFr f (upsets f)[k]).n [] with
    | nil =>
      have hone : oneOut f g (upsets f)[k] = none := by unfold oneOut; rw [hL]
      refine iCndF rfl ?_
      (repeat first
    | (with_reducible first | refine iFa ?_ | refine iNil ?_ | refine iNilF ?_ | refine iLd (by assumption) ?_ | refine iLenN (by assumption) ?_ | refine iLenI (by assumption) ?_ | refine iLenS (by assumption) ?_ | refine iLenL ?_ | refine iEq ?_ | refine iNe ?_ | refine iLt ?_ | refine iLe ?_ | refine iNot ?_ | refine iPick ?_ | refine iE20 ?_ | refine iE21 ?_ | refine iE30 ?_ | refine iE31 ?_ | refine iE32 ?_ | refine iJn ?_)
    | ((with_reducible show xLd _ _ _); refine iLdB (by assumption) (by first | rfl | simp) ?_) | ((with_reducible refine iLdA (by assumption) ?_ ?_); rfl)
    | ((with_reducible refine iIaNN (by assumption) ?_ (fun pa_ hpa_ => ?_)); omega) | ((with_reducible refine iIaN (by assumption) ?_ (fun pa_ hpa_ => ?_)); omega)
    | ((with_reducible refine iIaI (by assumption) ?_ ?_ (fun pa_ hpa_ => ?_)); omega; omega) | ((with_reducible refine iAdd ?_ ?_); omega) | ((with_reducible refine iSub ?_ ?_); omega)
    | ((with_reducible show xEx _ _ _); refine iEx (by rfl) ?_) | ((with_reducible refine fun (_ : Nat → Value) => ?_); (try simp only [gx])))
      exact hKn (k + 1) _ ⟨by omega, h514, findSome_next hk1 hno hone⟩ (by omega)
    | cons F Fs =>
      have hone : oneOut f g (upsets f)[k] = some ((upsets f)[k], F) := by unfold oneOut; rw [hL]
      have hpo : partOut f g = some ((upsets f)[k], F) := findSome_at hk1 hno hone
      rw [hL] at hoi
      refine iCndT rfl ?_
      rw [hpo]
      exact ⟨hX3.trans h514, vi, rfl, (hoi.ext hG).mono hlo⟩
  · have hk2 : k = (upsets f).length := by omega
    rw [List.take_of_length_le (by omega)] at hno
    have hpo : partOut f g = none := hno
    rw [hpo]
    exact ⟨hX3.trans h5, _, rfl, Ow.nil _ _ _⟩
theorem ok_spec_l34Telling {f g : Fr} (hp : Po f) (hq : Po g) {w : World} {fa ga : Value} (hfa : SlN w fa f.a) (hga : SlN w ga g.a) : Ret Tryz.prog f_spec_l34Telling #[.agg #[.int .i64 (f.n : Int), fa], .agg #[.int .i64 (g.n : Int), ga]] w (.int .i64 ((tell f g : Nat) : Int)) := by
  apply c_spec_l34Telling; unfold S_spec_l34Telling
  have hg8 := hq.ok.1
  refine iNew fun b1 w1 hb1 h1 hB1 => ?_
  refine iNew fun b2 w2 hb2 h2 hB2 => ?_
  have hX2 := h1.trans h2
  have hB1 := hB1.ext h2
  refine iLp (fun k : Nat => [.int .i64 ((tellK f g k : Nat) : Int), .int .i64 (k : Int)]) (fun k w' => k ≤ g.n ∧ Ext w2 w') (fun k => g.n - k) 0 rfl ⟨Nat.zero_le _, Ext.refl _⟩ ?_
  rintro k w4 Kn ⟨hk, h4⟩ hKn
  have hB14 := hB1.ext h4
  have hB24 := hB2.ext h4
  (repeat first
    | (with_reducible first | refine iFa ?_ | refine iNil ?_ | refine iNilF ?_ | refine iLd (by assumption) ?_ | refine iLenN (by assumption) ?_ | refine iLenI (by assumption) ?_ | refine iLenS (by assumption) ?_ | refine iLenL ?_ | refine iEq ?_ | refine iNe ?_ | refine iLt ?_ | refine iLe ?_ | refine iNot ?_ | refine iPick ?_ | refine iE20 ?_ | refine iE21 ?_ | refine iE30 ?_ | refine iE31 ?_ | refine iE32 ?_ | refine iJn ?_)
    | ((with_reducible show xLd _ _ _); refine iLdB (by assumption) (by first | rfl | simp) ?_) | ((with_reducible refine iLdA (by assumption) ?_ ?_); rfl)
    | ((with_reducible refine iIaNN (by assumption) ?_ (fun pa_ hpa_ => ?_)); omega) | ((with_reducible refine iIaN (by assumption) ?_ (fun pa_ hpa_ => ?_)); omega)
    | ((with_reducible refine iIaI (by assumption) ?_ ?_ (fun pa_ hpa_ => ?_)); omega; omega) | ((with_reducible refine iAdd ?_ ?_); omega) | ((with_reducible refine iSub ?_ ?_); omega)
    | ((with_reducible show xEx _ _ _); refine iEx (by rfl) ?_) | ((with_reducible refine fun (_ : Nat → Value) => ?_); (try simp only [gx])))
  refine iCndP (fun h5 => ?_) (fun h5 => ?_)
  · have hk1 : k < g.n := by omega
    have hsu := tellK_succ f g k
    have hlt := Nat.lt_of_lt_of_le (tellK_lt f g k) (Nat.pow_le_pow_right (by omega) (show k ≤ 8 by omega) : 2 ^ k ≤ 2 ^ 8)
    have h2k : 2 ^ k < 2 ^ 8 := Nat.pow_lt_pow_right (by omega) (by omega)
    (repeat first
    | (with_reducible first | refine iFa ?_ | refine iNil ?_ | refine iNilF ?_ | refine iLd (by assumption) ?_ | refine iLenN (by assumption) ?_ | refine iLenI (by assumption) ?_ | refine iLenS (by assumption) ?_ | refine iLenL ?_ | refine iEq ?_ | refine iNe ?_ | refine iLt ?_ | refine iLe ?_ | refine iNot ?_ | refine iPick ?_ | refine iE20 ?_ | refine iE21 ?_ | refine iE30 ?_ | refine iE31 ?_ | refine iE32 ?_ | refine iJn ?_)
    | ((with_reducible show xLd _ _ _); refine iLdB (by assumption) (by first | rfl | simp) ?_) | ((with_reducible refine iLdA (by assumption) ?_ ?_); rfl)
    | ((with_reducible refine iIaNN (by assumption) ?_ (fun pa_ hpa_ => ?_)); omega) | ((with_reducible refine iIaN (by assumption) ?_ (fun pa_ hpa_ => ?_)); omega)
    | ((with_reducible refine iIaI (by assumption) ?_ ?_ (fun pa_ hpa_ => ?_)); omega; omega) | ((with_reducible refine iAdd ?_ ?_); omega) | ((with_reducible refine iSub ?_ ?_); omega)
    | ((with_reducible show xEx _ _ _); refine iEx (by rfl) ?_) | ((with_reducible refine fun (_ : Nat → Value) => ?_); (try simp only [gx])))
    intro w5 h6
    have h45 := h4.trans h6
    refine iCall ((ok_spec_l34Cone hq.ok (hga.ext (hX2.trans h45)) k hk1).mono ?_)
    rintro _ w6 ⟨h7, v', rfl, ho'⟩
    (try refine ⟨h7, ?_⟩)
    intro w7 h8
    have h47 := h45.trans (h7.trans h8)
    refine iCall ((ok_spec_l21Part hp (part_ok hq.ok (hq.ok.lt hk1)) (hfa.ext (hX2.trans h47)) (ho'.ext h8).sl).mono ?_)
    rintro _ w8 ⟨h9, vr, rfl, _⟩
    (try refine ⟨h9, ?_⟩)
    (repeat first
    | (with_reducible first | refine iFa ?_ | refine iNil ?_ | refine iNilF ?_ | refine iLd (by assumption) ?_ | refine iLenN (by assumption) ?_ | refine iLenI (by assumption) ?_ | refine iLenS (by assumption) ?_ | refine iLenL ?_ | refine iEq ?_ | refine iNe ?_ | refine iLt ?_ | refine iLe ?_ | refine iNot ?_ | refine iPick ?_ | refine iE20 ?_ | refine iE21 ?_ | refine iE30 ?_ | refine iE31 ?_ | refine iE32 ?_ | refine iJn ?_)
    | ((with_reducible show xLd _ _ _); refine iLdB (by assumption) (by first | rfl | simp) ?_) | ((with_reducible refine iLdA (by assumption) ?_ ?_); rfl)
    | ((with_reducible refine iIaNN (by assumption) ?_ (fun pa_ hpa_ => ?_)); omega) | ((with_reducible refine iIaN (by assumption) ?_ (fun pa_ hpa_ => ?_)); omega)
    | ((with_reducible refine iIaI (by assumption) ?_ ?_ (fun pa_ hpa_ => ?_)); omega; omega) | ((with_reducible refine iAdd ?_ ?_); omega) | ((with_reducible refine iSub ?_ ?_); omega)
    | ((with_reducible show xEx _ _ _); refine iEx (by rfl) ?_) | ((with_reducible refine fun (_ : Nat → Value) => ?_); (try simp only [gx])))
    intro w9 hA
    have h49 := h47.trans (h9.trans hA)
    (repeat first
    | (with_reducible first | refine iFa ?_ | refine iNil ?_ | refine iNilF ?_ | refine iLd (by assumption) ?_ | refine iLenN (by assumption) ?_ | refine iLenI (by assumption) ?_ | refine iLenS (by assumption) ?_ | refine iLenL ?_ | refine iEq ?_ | refine iNe ?_ | refine iLt ?_ | refine iLe ?_ | refine iNot ?_ | refine iPick ?_ | refine iE20 ?_ | refine iE21 ?_ | refine iE30 ?_ | refine iE31 ?_ | refine iE32 ?_ | refine iJn ?_)
    | ((with_reducible show xLd _ _ _); refine iLdB (by assumption) (by first | rfl | simp) ?_) | ((with_reducible refine iLdA (by assumption) ?_ ?_); rfl)
    | ((with_reducible refine iIaNN (by assumption) ?_ (fun pa_ hpa_ => ?_)); omega) | ((with_reducible refine iIaN (by assumption) ?_ (fun pa_ hpa_ => ?_)); omega)
    | ((with_reducible refine iIaI (by assumption) ?_ ?_ (fun pa_ hpa_ => ?_)); omega; omega) | ((with_reducible refine iAdd ?_ ?_); omega) | ((with_reducible refine iSub ?_ ?_); omega)
    | ((with_reducible show xEx _ _ _); refine iEx (by rfl) ?_) | ((with_reducible refine fun (_ : Nat → Value) => ?_); (try simp only [gx])))
    have hT : (!(partOut f (partFr g (g.a.getD k 0))).isSome) = tellB f g k := by
      unfold tellB
      cases partOut f (partFr g (g.a.getD k 0)) <;> rfl
    rw [hT]
    refine iCnd (fun hb => ?_) (fun hb => ?_)
    · rw [hb, if_pos rfl] at hsu
      refine iRet (ok_spec_l01One k (by omega) w9) fun w10 hC => ?_
      refine iBOr (by omega) (by omega) ?_
      rw [← hsu]
      (repeat first
    | (with_reducible first | refine iFa ?_ | refine iNil ?_ | refine iNilF ?_ | refine iLd (by assumption) ?_ | refine iLenN (by assumption) ?_ | refine iLenI (by assumption) ?_ | refine iLenS (by assumption) ?_ | refine iLenL ?_ | refine iEq ?_ | refine iNe ?_ | refine iLt ?_ | refine iLe ?_ | refine iNot ?_ | refine iPick ?_ | refine iE20 ?_ | refine iE21 ?_ | refine iE30 ?_ | refine iE31 ?_ | refine iE32 ?_ | refine iJn ?_)
    | ((with_reducible show xLd _ _ _); refine iLdB (by assumption) (by first | rfl | simp) ?_) | ((with_reducible refine iLdA (by assumption) ?_ ?_); rfl)
    | ((with_reducible refine iIaNN (by assumption) ?_ (fun pa_ hpa_ => ?_)); omega) | ((with_reducible refine iIaN (by assumption) ?_ (fun pa_ hpa_ => ?_)); omega)
    | ((with_reducible refine iIaI (by assumption) ?_ ?_ (fun pa_ hpa_ => ?_)); omega; omega) | ((with_reducible refine iAdd ?_ ?_); omega) | ((with_reducible refine iSub ?_ ?_); omega)
    | ((with_reducible show xEx _ _ _); refine iEx (by rfl) ?_) | ((with_reducible refine fun (_ : Nat → Value) => ?_); (try simp only [gx])))
      exact hKn (k + 1) _ ⟨by omega, h49.trans hC⟩ (by omega)
    · rw [hb, if_neg (by simp)] at hsu
      (repeat first
    | (with_reducible first | refine iFa ?_ | refine iNil ?_ | refine iNilF ?_ | refine iLd (by assumption) ?_ | refine iLenN (by assumption) ?_ | refine iLenI (by assumption) ?_ | refine iLenS (by assumption) ?_ | refine iLenL ?_ | refine iEq ?_ | refine iNe ?_ | refine iLt ?_ | refine iLe ?_ | refine iNot ?_ | refine iPick ?_ | refine iE20 ?_ | refine iE21 ?_ | refine iE30 ?_ | refine iE31 ?_ | refine iE32 ?_ | refine iJn ?_)
    | ((with_reducible show xLd _ _ _); refine iLdB (by assumption) (by first | rfl | simp) ?_) | ((with_reducible refine iLdA (by assumption) ?_ ?_); rfl)
    | ((with_reducible refine iIaNN (by assumption) ?_ (fun pa_ hpa_ => ?_)); omega) | ((with_reducible refine iIaN (by assumption) ?_ (fun pa_ hpa_ => ?_)); omega)
    | ((with_reducible refine iIaI (by assumption) ?_ ?_ (fun pa_ hpa_ => ?_)); omega; omega) | ((with_reducible refine iAdd ?_ ?_); omega) | ((with_reducible refine iSub ?_ ?_); omega)
    | ((with_reducible show xEx _ _ _); refine iEx (by rfl) ?_) | ((with_reducible refine fun (_ : Nat → Value) => ?_); (try simp only [gx])))
      rw [← hsu]
      exact hKn (k + 1) _ ⟨by omega, h49⟩ (by omega)
  · have hk2 : k = g.n := by omega
    subst hk2
    exact ⟨rfl, hX2.trans h4⟩
theorem ok_impl_belongsTo {f g : Fr} (hp : Po f) (hg : g.ok) {w : World} {fa ga : Value} (hfa : SlN w fa f.a) (hga : SlN w ga g.a) : Ret Tryz.prog f_impl_Poset_belongsTo #[.agg #[.int .i64 (g.n : Int), ga], .agg #[.int .i64 (f.n : Int), fa]] w (.bool (partOut f g).isSome) := by
  apply c_impl_Poset_belongsTo; unfold S_impl_Poset_belongsTo
  refine iNew fun b1 w1 hb1 h1 hB1 => ?_
  refine iNew fun b2 w2 hb2 h2 hB2 => ?_
  have hX2 := h1.trans h2
  have hB1 := hB1.ext h2
  (repeat first
    | (with_reducible first | refine iFa ?_ | refine iNil ?_ | refine iNilF ?_ | refine iLd (by assumption) ?_ | refine iLenN (by assumption) ?_ | refine iLenI (by assumption) ?_ | refine iLenS (by assumption) ?_ | refine iLenL ?_ | refine iEq ?_ | refine iNe ?_ | refine iLt ?_ | refine iLe ?_ | refine iNot ?_ | refine iPick ?_ | refine iE20 ?_ | refine iE21 ?_ | refine iE30 ?_ | refine iE31 ?_ | refine iE32 ?_ | refine iJn ?_)
    | ((with_reducible show xLd _ _ _); refine iLdB (by assumption) (by first | rfl | simp) ?_) | ((with_reducible refine iLdA (by assumption) ?_ ?_); rfl)
    | ((with_reducible refine iIaNN (by assumption) ?_ (fun pa_ hpa_ => ?_)); omega) | ((with_reducible refine iIaN (by assumption) ?_ (fun pa_ hpa_ => ?_)); omega)
    | ((with_reducible refine iIaI (by assumption) ?_ ?_ (fun pa_ hpa_ => ?_)); omega; omega) | ((with_reducible refine iAdd ?_ ?_); omega) | ((with_reducible refine iSub ?_ ?_); omega)
    | ((with_reducible show xEx _ _ _); refine iEx (by rfl) ?_) | ((with_reducible refine fun (_ : Nat → Value) => ?_); (try simp only [gx])))
  refine iCall ((ok_impl_findPart hp hg (hfa.ext hX2) (hga.ext hX2)).mono ?_)
  rintro _ w3 ⟨h3, v, rfl, _⟩
  (repeat first
    | (with_reducible first | refine iFa ?_ | refine iNil ?_ | refine iNilF ?_ | refine iLd (by assumption) ?_ | refine iLenN (by assumption) ?_ | refine iLenI (by assumption) ?_ | refine iLenS (by assumption) ?_ | refine iLenL ?_ | refine iEq ?_ | refine iNe ?_ | refine iLt ?_ | refine iLe ?_ | refine iNot ?_ | refine iPick ?_ | refine iE20 ?_ | refine iE21 ?_ | refine iE30 ?_ | refine iE31 ?_ | refine iE32 ?_ | refine iJn ?_)
    | ((with_reducible show xLd _ _ _); refine iLdB (by assumption) (by first | rfl | simp) ?_) | ((with_reducible refine iLdA (by assumption) ?_ ?_); rfl)
    | ((with_reducible refine iIaNN (by assumption) ?_ (fun pa_ hpa_ => ?_)); omega) | ((with_reducible refine iIaN (by assumption) ?_ (fun pa_ hpa_ => ?_)); omega)
    | ((with_reducible refine iIaI (by assumption) ?_ ?_ (fun pa_ hpa_ => ?_)); omega; omega) | ((with_reducible refine iAdd ?_ ?_); omega) | ((with_reducible refine iSub ?_ ?_); omega)
    | ((with_reducible show xEx _ _ _); refine iEx (by rfl) ?_) | ((with_reducible refine fun (_ : Nat → Value) => ?_); (try simp only [gx])))
  exact ⟨rfl, hX2.trans h3⟩
theorem ok_impl_telling {f g : Fr} (hp : Po f) (hq : Po g) {w : World} {fa ga : Value} (hfa : SlN w fa f.a) (hga : SlN w ga g.a) : Ret Tryz.prog f_impl_telling #[.agg #[.int .i64 (f.n : Int), fa], .agg #[.int .i64 (g.n : Int), ga]] w (.int .i64 ((tell f g : Nat) : Int)) := by
  apply c_impl_telling; unfold S_impl_telling
  have hg8 := hq.ok.1
  refine iNew fun b1 w1 hb1 h1 hB1 => ?_
  refine iNew fun b2 w2 hb2 h2 hB2 => ?_
  have hX2 := h1.trans h2
  have hB1 := hB1.ext h2
  (repeat first
    | (with_reducible first | refine iFa ?_ | refine iNil ?_ | refine iNilF ?_ | refine iLd (by assumption) ?_ | refine iLenN (by assumption) ?_ | refine iLenI (by assumption) ?_ | refine iLenS (by assumption) ?_ | refine iLenL ?_ | refine iEq ?_ | refine iNe ?_ | refine iLt ?_ | refine iLe ?_ | refine iNot ?_ | refine iPick ?_ | refine iE20 ?_ | refine iE21 ?_ | refine iE30 ?_ | refine iE31 ?_ | refine iE32 ?_ | refine iJn ?_)
    | ((with_reducible show xLd _ _ _); refine iLdB (by assumption) (by first | rfl | simp) ?_) | ((with_reducible refine iLdA (by assumption) ?_ ?_); rfl)
    | ((with_reducible refine iIaNN (by assumption) ?_ (fun pa_ hpa_ => ?_)); omega) | ((with_reducible refine iIaN (by assumption) ?_ (fun pa_ hpa_ => ?_)); omega)
    | ((with_reducible refine iIaI (by assumption) ?_ ?_ (fun pa_ hpa_ => ?_)); omega; omega) | ((with_reducible refine iAdd ?_ ?_); omega) | ((with_reducible refine iSub ?_ ?_); omega)
    | ((with_reducible show xEx _ _ _); refine iEx (by rfl) ?_) | ((with_reducible refine fun (_ : Nat → Value) => ?_); (try simp only [gx])))
  refine iLp (fun k : Nat => [.int .i64 ((tellK f g k : Nat) : Int), .int .i64 (k : Int)]) (fun k w' => k ≤ g.n ∧ Ext w2 w') (fun k => g.n - k) 0 rfl ⟨Nat.zero_le _, Ext.refl _⟩ ?_
  rintro k w4 Kn ⟨hk, h4⟩ hKn
  have hB14 := hB1.ext h4
  have hB24 := hB2.ext h4
  (repeat first
    | (with_reducible first | refine iFa ?_ | refine iNil ?_ | refine iNilF ?_ | refine iLd (by assumption) ?_ | refine iLenN (by assumption) ?_ | refine iLenI (by assumption) ?_ | refine iLenS (by assumption) ?_ | refine iLenL ?_ | refine iEq ?_ | refine iNe ?_ | refine iLt ?_ | refine iLe ?_ | refine iNot ?_ | refine iPick ?_ | refine iE20 ?_ | refine iE21 ?_ | refine iE30 ?_ | refine iE31 ?_ | refine iE32 ?_ | refine iJn ?_)
    | ((with_reducible show xLd _ _ _); refine iLdB (by assumption) (by first | rfl | simp) ?_) | ((with_reducible refine iLdA (by assumption) ?_ ?_); rfl)
    | ((with_reducible refine iIaNN (by assumption) ?_ (fun pa_ hpa_ => ?_)); omega) | ((with_reducible refine iIaN (by assumption) ?_ (fun pa_ hpa_ => ?_)); omega)
    | ((with_reducible refine iIaI (by assumption) ?_ ?_ (fun pa_ hpa_ => ?_)); omega; omega) | ((with_reducible refine iAdd ?_ ?_); omega) | ((with_reducible refine iSub ?_ ?_); omega)
    | ((with_reducible show xEx _ _ _); refine iEx (by rfl) ?_) | ((with_reducible refine fun (_ : Nat → Value) => ?_); (try simp only [gx])))
  refine iCndP (fun h5 => ?_) (fun h5 => ?_)
  · have hk1 : k < g.n := by omega
    have hsu := tellK_succ f g k
    have hlt := Nat.lt_of_lt_of_le (tellK_lt f g k) (Nat.pow_le_pow_right (by omega) (show k ≤ 8 by omega) : 2 ^ k ≤ 2 ^ 8)
    have h2k : 2 ^ k < 2 ^ 8 := Nat.pow_lt_pow_right (by omega) (by omega)
    (repeat first
    | (with_reducible first | refine iFa ?_ | refine iNil ?_ | refine iNilF ?_ | refine iLd (by assumption) ?_ | refine iLenN (by assumption) ?_ | refine iLenI (by assumption) ?_ | refine iLenS (by assumption) ?_ | refine iLenL ?_ | refine iEq ?_ | refine iNe ?_ | refine iLt ?_ | refine iLe ?_ | refine iNot ?_ | refine iPick ?_ | refine iE20 ?_ | refine iE21 ?_ | refine iE30 ?_ | refine iE31 ?_ | refine iE32 ?_ | refine iJn ?_)
    | ((with_reducible show xLd _ _ _); refine iLdB (by assumption) (by first | rfl | simp) ?_) | ((with_reducible refine iLdA (by assumption) ?_ ?_); rfl)
    | ((with_reducible refine iIaNN (by assumption) ?_ (fun pa_ hpa_ => ?_)); omega) | ((with_reducible refine iIaN (by assumption) ?_ (fun pa_ hpa_ => ?_)); omega)
    | ((with_reducible refine iIaI (by assumption) ?_ ?_ (fun pa_ hpa_ => ?_)); omega; omega) | ((with_reducible refine iAdd ?_ ?_); omega) | ((with_reducible refine iSub ?_ ?_); omega)
    | ((with_reducible show xEx _ _ _); refine iEx (by rfl) ?_) | ((with_reducible refine fun (_ : Nat → Value) => ?_); (try simp only [gx])))
    intro w5 h6
    have h45 := h4.trans h6
    refine iCall ((ok_impl_Poset_cone hq.ok (hga.ext (hX2.trans h45)) k hk1).mono ?_)
    rintro _ w6 ⟨h7, v', rfl, ho'⟩
    (try refine ⟨h7, ?_⟩)
    refine iRetQ (fun w' h8 => ok_impl_belongsTo hp (part_ok hq.ok (hq.ok.lt hk1)) (hfa.ext (hX2.trans (h45.trans (h7.trans h8)))) (ho'.ext h8).sl) ?_
    (repeat first
    | (with_reducible first | refine iFa ?_ | refine iNil ?_ | refine iNilF ?_ | refine iLd (by assumption) ?_ | refine iLenN (by assumption) ?_ | refine iLenI (by assumption) ?_ | refine iLenS (by assumption) ?_ | refine iLenL ?_ | refine iEq ?_ | refine iNe ?_ | refine iLt ?_ | refine iLe ?_ | refine iNot ?_ | refine iPick ?_ | refine iE20 ?_ | refine iE21 ?_ | refine iE30 ?_ | refine iE31 ?_ | refine iE32 ?_ | refine iJn ?_)
    | ((with_reducible show xLd _ _ _); refine iLdB (by assumption) (by first | rfl | simp) ?_) | ((with_reducible refine iLdA (by assumption) ?_ ?_); rfl)
    | ((with_reducible refine iIaNN (by assumption) ?_ (fun pa_ hpa_ => ?_)); omega) | ((with_reducible refine iIaN (by assumption) ?_ (fun pa_ hpa_ => ?_)); omega)
    | ((with_reducible refine iIaI (by assumption) ?_ ?_ (fun pa_ hpa_ => ?_)); omega; omega) | ((with_reducible refine iAdd ?_ ?_); omega) | ((with_reducible refine iSub ?_ ?_); omega)
    | ((with_reducible show xEx _ _ _); refine iEx (by rfl) ?_) | ((with_reducible refine fun (_ : Nat → Value) => ?_); (try simp only [gx])))
    intro w9 hA
    have h49 := h45.trans (h7.trans hA)
    have hT : (!(partOut f (partFr g (g.a.getD k 0))).isSome) = tellB f g k := by
      unfold tellB
      cases partOut f (partFr g (g.a.getD k 0)) <;> rfl
    rw [hT]
    refine iCnd (fun hb => ?_) (fun hb => ?_)
    · rw [hb, if_pos rfl] at hsu
      refine iShlOne (by omega) ?_
      refine iBOr (by omega) (by omega) ?_
      rw [← hsu]
      (repeat first
    | (with_reducible first | refine iFa ?_ | refine iNil ?_ | refine iNilF ?_ | refine iLd (by assumption) ?_ | refine iLenN (by assumption) ?_ | refine iLenI (by assumption) ?_ | refine iLenS (by assumption) ?_ | refine iLenL ?_ | refine iEq ?_ | refine iNe ?_ | refine iLt ?_ | refine iLe ?_ | refine iNot ?_ | refine iPick ?_ | refine iE20 ?_ | refine iE21 ?_ | refine iE30 ?_ | refine iE31 ?_ | refine iE32 ?_ | refine iJn ?_)
    | ((with_reducible show xLd _ _ _); refine iLdB (by assumption) (by first | rfl | simp) ?_) | ((with_reducible refine iLdA (by assumption) ?_ ?_); rfl)
    | ((with_reducible refine iIaNN (by assumption) ?_ (fun pa_ hpa_ => ?_)); omega) | ((with_reducible refine iIaN (by assumption) ?_ (fun pa_ hpa_ => ?_)); omega)
    | ((with_reducible refine iIaI (by assumption) ?_ ?_ (fun pa_ hpa_ => ?_)); omega; omega) | ((with_reducible refine iAdd ?_ ?_); omega) | ((with_reducible refine iSub ?_ ?_); omega)
    | ((with_reducible show xEx _ _ _); refine iEx (by rfl) ?_) | ((with_reducible refine fun (_ : Nat → Value) => ?_); (try simp only [gx])))
      exact hKn (k + 1) _ ⟨by omega, h49⟩ (by omega)
    · rw [hb, if_neg (by simp)] at hsu
      (repeat first
    | (with_reducible first | refine iFa ?_ | refine iNil ?_ | refine iNilF ?_ | refine iLd (by assumption) ?_ | refine iLenN (by assumption) ?_ | refine iLenI (by assumption) ?_ | refine iLenS (by assumption) ?_ | refine iLenL ?_ | refine iEq ?_ | refine iNe ?_ | refine iLt ?_ | refine iLe ?_ | refine iNot ?_ | refine iPick ?_ | refine iE20 ?_ | refine iE21 ?_ | refine iE30 ?_ | refine iE31 ?_ | refine iE32 ?_ | refine iJn ?_)
    | ((with_reducible show xLd _ _ _); refine iLdB (by assumption) (by first | rfl | simp) ?_) | ((with_reducible refine iLdA (by assumption) ?_ ?_); rfl)
    | ((with_reducible refine iIaNN (by assumption) ?_ (fun pa_ hpa_ => ?_)); omega) | ((with_reducible refine iIaN (by assumption) ?_ (fun pa_ hpa_ => ?_)); omega)
    | ((with_reducible refine iIaI (by assumption) ?_ ?_ (fun pa_ hpa_ => ?_)); omega; omega) | ((with_reducible refine iAdd ?_ ?_); omega) | ((with_reducible refine iSub ?_ ?_); omega)
    | ((with_reducible show xEx _ _ _); refine iEx (by rfl) ?_) | ((with_reducible refine fun (_ : Nat → Value) => ?_); (try simp only [gx])))
      rw [← hsu]
      exact hKn (k + 1) _ ⟨by omega, h49⟩ (by omega)
  · have hk2 : k = g.n := by omega
    subst hk2
    exact ⟨rfl, hX2.trans h4⟩
theorem ok_impl_isUnder {f g : Fr} (hp : Po f) (hq : Po g) {w : World} {fa ga : Value} (hfa : SlN w fa f.a) (hga : SlN w ga g.a) : Ret Tryz.prog f_impl_isUnder #[.agg #[.int .i64 (f.n : Int), fa], .agg #[.int .i64 (g.n : Int), ga]] w (.bool (decide (tell f g = 0))) := by
  apply c_impl_isUnder; unfold S_impl_isUnder
  refine iNew fun b1 w1 hb1 h1 hB1 => ?_
  refine iNew fun b2 w2 hb2 h2 hB2 => ?_
  have hX2 := h1.trans h2
  have hB1 := hB1.ext h2
  (repeat first
    | (with_reducible first | refine iFa ?_ | refine iNil ?_ | refine iNilF ?_ | refine iLd (by assumption) ?_ | refine iLenN (by assumption) ?_ | refine iLenI (by assumption) ?_ | refine iLenS (by assumption) ?_ | refine iLenL ?_ | refine iEq ?_ | refine iNe ?_ | refine iLt ?_ | refine iLe ?_ | refine iNot ?_ | refine iPick ?_ | refine iE20 ?_ | refine iE21 ?_ | refine iE30 ?_ | refine iE31 ?_ | refine iE32 ?_ | refine iJn ?_)
    | ((with_reducible show xLd _ _ _); refine iLdB (by assumption) (by first | rfl | simp) ?_) | ((with_reducible refine iLdA (by assumption) ?_ ?_); rfl)
    | ((with_reducible refine iIaNN (by assumption) ?_ (fun pa_ hpa_ => ?_)); omega) | ((with_reducible refine iIaN (by assumption) ?_ (fun pa_ hpa_ => ?_)); omega)
    | ((with_reducible refine iIaI (by assumption) ?_ ?_ (fun pa_ hpa_ => ?_)); omega; omega) | ((with_reducible refine iAdd ?_ ?_); omega) | ((with_reducible refine iSub ?_ ?_); omega)
    | ((with_reducible show xEx _ _ _); refine iEx (by rfl) ?_) | ((with_reducible refine fun (_ : Nat → Value) => ?_); (try simp only [gx])))
  refine iRet (ok_impl_telling hp hq (hfa.ext hX2) (hga.ext hX2)) fun w3 h3 => ?_
  (repeat first
    | (with_reducible first | refine iFa ?_ | refine iNil ?_ | refine iNilF ?_ | refine iLd (by assumption) ?_ | refine iLenN (by assumption) ?_ | refine iLenI (by assumption) ?_ | refine iLenS (by assumption) ?_ | refine iLenL ?_ | refine iEq ?_ | refine iNe ?_ | refine iLt ?_ | refine iLe ?_ | refine iNot ?_ | refine iPick ?_ | refine iE20 ?_ | refine iE21 ?_ | refine iE30 ?_ | refine iE31 ?_ | refine iE32 ?_ | refine iJn ?_)
    | ((with_reducible show xLd _ _ _); refine iLdB (by assumption) (by first | rfl | simp) ?_) | ((with_reducible refine iLdA (by assumption) ?_ ?_); rfl)
    | ((with_reducible refine iIaNN (by assumption) ?_ (fun pa_ hpa_ => ?_)); omega) | ((with_reducible refine iIaN (by assumption) ?_ (fun pa_ hpa_ => ?_)); omega)
    | ((with_reducible refine iIaI (by assumption) ?_ ?_ (fun pa_ hpa_ => ?_)); omega; omega) | ((with_reducible refine iAdd ?_ ?_); omega) | ((with_reducible refine iSub ?_ ?_); omega)
    | ((with_reducible show xEx _ _ _); refine iEx (by rfl) ?_) | ((with_reducible refine fun (_ : Nat → Value) => ?_); (try simp only [gx])))
  exact ⟨congrArg Value.bool (decide_eq_decide.2 (by omega)), hX2.trans h3⟩
theorem ok_impl_areAlike {f g : Fr} (hp : Po f) (hq : Po g) {w : World} {fa ga : Value} (hfa : SlN w fa f.a) (hga : SlN w ga g.a) : Ret Tryz.prog f_impl_areAlike #[.agg #[.int .i64 (f.n : Int), fa], .agg #[.int .i64 (g.n : Int), ga]] w (.bool (decide (tell f g = 0) && decide (tell g f = 0))) := by
  apply c_impl_areAlike; unfold S_impl_areAlike
  refine iNew fun b1 w1 hb1 h1 hB1 => ?_
  refine iNew fun b2 w2 hb2 h2 hB2 => ?_
  have hX2 := h1.trans h2
  have hB1 := hB1.ext h2
  refine iJnB (decide (tell f g = 0) && decide (tell g f = 0)) w2 (fun J hJ => ?_) (fun w4 h4 => ?_)
  · (repeat first
    | (with_reducible first | refine iFa ?_ | refine iNil ?_ | refine iNilF ?_ | refine iLd (by assumption) ?_ | refine iLenN (by assumption) ?_ | refine iLenI (by assumption) ?_ | refine iLenS (by assumption) ?_ | refine iLenL ?_ | refine iEq ?_ | refine iNe ?_ | refine iLt ?_ | refine iLe ?_ | refine iNot ?_ | refine iPick ?_ | refine iE20 ?_ | refine iE21 ?_ | refine iE30 ?_ | refine iE31 ?_ | refine iE32 ?_ | refine iJn ?_)
    | ((with_reducible show xLd _ _ _); refine iLdB (by assumption) (by first | rfl | simp) ?_) | ((with_reducible refine iLdA (by assumption) ?_ ?_); rfl)
    | ((with_reducible refine iIaNN (by assumption) ?_ (fun pa_ hpa_ => ?_)); omega) | ((with_reducible refine iIaN (by assumption) ?_ (fun pa_ hpa_ => ?_)); omega)
    | ((with_reducible refine iIaI (by assumption) ?_ ?_ (fun pa_ hpa_ => ?_)); omega; omega) | ((with_reducible refine iAdd ?_ ?_); omega) | ((with_reducible refine iSub ?_ ?_); omega)
    | ((with_reducible show xEx _ _ _); refine iEx (by rfl) ?_) | ((with_reducible refine fun (_ : Nat → Value) => ?_); (try simp only [gx])))
    refine iRet (ok_impl_isUnder hp hq (hfa.ext hX2) (hga.ext hX2)) fun w5 h5 => ?_
    refine iCnd (fun hb => ?_) (fun hb => ?_)
    · rw [hb, Bool.true_and] at hJ
      have hB15 := hB1.ext h5
      have hB25 := hB2.ext h5
      (repeat first
    | (with_reducible first | refine iFa ?_ | refine iNil ?_ | refine iNilF ?_ | refine iLd (by assumption) ?_ | refine iLenN (by assumption) ?_ | refine iLenI (by assumption) ?_ | refine iLenS (by assumption) ?_ | refine iLenL ?_ | refine iEq ?_ | refine iNe ?_ | refine iLt ?_ | refine iLe ?_ | refine iNot ?_ | refine iPick ?_ | refine iE20 ?_ | refine iE21 ?_ | refine iE30 ?_ | refine iE31 ?_ | refine iE32 ?_ | refine iJn ?_)
    | ((with_reducible show xLd _ _ _); refine iLdB (by assumption) (by first | rfl | simp) ?_) | ((with_reducible refine iLdA (by assumption) ?_ ?_); rfl)
    | ((with_reducible refine iIaNN (by assumption) ?_ (fun pa_ hpa_ => ?_)); omega) | ((with_reducible refine iIaN (by assumption) ?_ (fun pa_ hpa_ => ?_)); omega)
    | ((with_reducible refine iIaI (by assumption) ?_ ?_ (fun pa_ hpa_ => ?_)); omega; omega) | ((with_reducible refine iAdd ?_ ?_); omega) | ((with_reducible refine iSub ?_ ?_); omega)
    | ((with_reducible show xEx _ _ _); refine iEx (by rfl) ?_) | ((with_reducible refine fun (_ : Nat → Value) => ?_); (try simp only [gx])))
      refine iRet (ok_impl_isUnder hq hp (hga.ext (hX2.trans h5)) (hfa.ext (hX2.trans h5))) fun w6 h6 => ?_
      exact hJ w6 (h5.trans h6)
    · rw [hb, Bool.false_and] at hJ
      exact hJ w5 h5
  · (repeat first
    | (with_reducible first | refine iFa ?_ | refine iNil ?_ | refine iNilF ?_ | refine iLd (by assumption) ?_ | refine iLenN (by assumption) ?_ | refine iLenI (by assumption) ?_ | refine iLenS (by assumption) ?_ | refine iLenL ?_ | refine iEq ?_ | refine iNe ?_ | refine iLt ?_ | refine iLe ?_ | refine iNot ?_ | refine iPick ?_ | refine iE20 ?_ | refine iE21 ?_ | refine iE30 ?_ | refine iE31 ?_ | refine iE32 ?_ | refine iJn ?_)
    | ((with_reducible show xLd _ _ _); refine iLdB (by assumption) (by first | rfl | simp) ?_) | ((with_reducible refine iLdA (by assumption) ?_ ?_); rfl)
    | ((with_reducible refine iIaNN (by assumption) ?_ (fun pa_ hpa_ => ?_)); omega) | ((with_reducible refine iIaN (by assumption) ?_ (fun pa_ hpa_ => ?_)); omega)
    | ((with_reducible refine iIaI (by assumption) ?_ ?_ (fun pa_ hpa_ => ?_)); omega; omega) | ((with_reducible refine iAdd ?_ ?_); omega) | ((with_reducible refine iSub ?_ ?_); omega)
    | ((with_reducible show xEx _ _ _); refine iEx (by rfl) ?_) | ((with_reducible refine fun (_ : Nat → Value) => ?_); (try simp only [gx])))
    exact ⟨by trivial, hX2.trans h4⟩
end Go.Proofs.YtoolpnkcmlebkaaGreat
