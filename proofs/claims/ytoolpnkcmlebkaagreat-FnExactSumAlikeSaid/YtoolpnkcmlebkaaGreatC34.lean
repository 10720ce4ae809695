/- Contracts: sums of posets, SumAlike. Conditions: none. -/
import Derived.Test.YtoolpnkcmlebkaaGreatC33
namespace Go.Vc
theorem iShlN {a k : Nat} {yk : IntKind} {K : Value → Prop} (hk : k ≤ 40) (ha : a < 2 ^ 20) (h : K (.int .i64 ((a <<< k : Nat) : Int))) : xSh iShl .i64 (.int .i64 (a : Int)) (.int yk (k : Int)) K := by
  refine ⟨_, _, _, rfl, rfl, by omega, ?_⟩
  have e : iShl .i64 (a : Int) (k : Int) = ((a <<< k : Nat) : Int) := by
    have h1 : min k 64 = k := by omega
    simp only [iShl, IntKind.bits, Int.toNat_natCast, h1]
    have h2 : a <<< k < 2 ^ 60 := by
      rw [Nat.shiftLeft_eq]
      exact Nat.lt_of_lt_of_le (Nat.mul_lt_mul_of_pos_right ha (Nat.two_pow_pos k)) (by rw [← Nat.pow_add]; exact Nat.pow_le_pow_right (by omega) (by omega))
    rw [show (a : Int) * ((2 : Int) ^ k) = ((a <<< k : Nat) : Int) by rw [Nat.shiftLeft_eq]; simp]
    generalize a <<< k = m at *
    exact IntWalk.i64_in _ (by omega)
  rw [e]; exact h
def sumFr (f g : Fr) : Fr := ⟨f.n + g.n, f.a ++ g.a.map fun m => m <<< f.n⟩
section
variable {f g : Fr}
theorem sum_get0 (hf : f.ok) {x : Nat} (hx : x < f.n) : (sumFr f g).a.getD x 0 = f.a.getD x 0 := by
  have : x < f.a.length := by rw [hf.2.1]; exact hx
  simp [sumFr, List.getD_eq_getElem?_getD, List.getElem?_append_left this]
theorem sum_get1 (hf : f.ok) (hg : g.ok) {x : Nat} (hx : x < g.n) : (sumFr f g).a.getD (f.n + x) 0 = g.a.getD x 0 <<< f.n := by
  have h1 : x < g.a.length := by rw [hg.2.1]; exact hx
  have h2 := hf.2.1
  simp [sumFr, List.getD_eq_getElem?_getD, List.getElem?_append_right (show f.a.length ≤ f.n + x by omega), show f.n + x - f.a.length = x by omega, h1]
theorem sum_ok (hf : f.ok) (hg : g.ok) (hn : f.n + g.n ≤ 8) : (sumFr f g).ok := by
  refine ⟨hn, by simp [sumFr, hf.2.1, hg.2.1], fun x hx => ?_⟩
  have e : (sumFr f g).n = f.n + g.n := rfl
  rw [e]
  rcases List.mem_append.1 hx with h | h
  · exact Nat.lt_of_lt_of_le (hf.2.2 x h) (Nat.pow_le_pow_right (by omega) (by omega))
  · obtain ⟨m, hm, rfl⟩ := List.mem_map.1 h
    rw [Nat.shiftLeft_eq, Nat.pow_add, Nat.mul_comm]
    exact Nat.mul_lt_mul_of_pos_left (hg.2.2 m hm) (Nat.two_pow_pos _)
theorem sum_bit (hf : f.ok) (hg : g.ok) (x y : Nat) : (((sumFr f g).a.getD x 0).testBit y = true) ↔ (f.a.getD x 0).testBit y = true ∨ (f.n ≤ x ∧ f.n ≤ y ∧ (g.a.getD (x - f.n) 0).testBit (y - f.n) = true) := by
  by_cases hx : x < f.n
  · rw [sum_get0 hf hx]
    exact ⟨.inl, fun h => h.elim id fun h => by omega⟩
  · have hno : ¬ (f.a.getD x 0).testBit y = true := fun h => by have := (fr_bit_lt hf h).1; omega
    by_cases hx' : x - f.n < g.n
    · have := sum_get1 (f := f) (g := g) hf hg hx'
      rw [show f.n + (x - f.n) = x by omega] at this
      rw [this, Nat.testBit_shiftLeft, Bool.and_eq_true, decide_eq_true_eq]
      exact ⟨fun h => .inr ⟨by omega, h.1, h.2⟩, fun h => h.elim (fun h => absurd h hno) fun h => ⟨h.2.1, h.2.2⟩⟩
    · have e : (sumFr f g).a.getD x 0 = 0 := by
        have h1 : (sumFr f g).a.length ≤ x := by simp [sumFr, hf.2.1, hg.2.1]; omega
        simp [List.getD_eq_getElem?_getD, List.getElem?_eq_none h1]
      rw [e, Nat.zero_testBit]
      exact ⟨fun h => absurd h (by simp), fun h => h.elim (fun h => absurd h hno) fun h => by have := (fr_bit_lt hg h.2.2).1; omega⟩
theorem sum_po (hp : Po f) (hq : Po g) (hn : f.n + g.n ≤ 8) : Po (sumFr f g) := by
  have hb := sum_bit hp.ok hq.ok
  refine ⟨sum_ok hp.ok hq.ok hn, fun x hx => ?_, fun x y z h1 h2 => ?_, fun x y h1 h2 => ?_⟩
  · have hx : x < f.n + g.n := hx
    rw [hb]
    by_cases h : x < f.n
    · exact .inl (hp.refl x h)
    · exact .inr ⟨by omega, by omega, hq.refl _ (by omega)⟩
  · rw [hb] at h1 h2 ⊢
    rcases h1 with h1 | ⟨a1, a2, a3⟩
    · have := fr_bit_lt hp.ok h1
      rcases h2 with h2 | ⟨b1, _, _⟩
      · exact .inl (hp.trans x y z h1 h2)
      · omega
    · rcases h2 with h2 | ⟨b1, b2, b3⟩
      · have := fr_bit_lt hp.ok h2; omega
      · exact .inr ⟨a1, b2, hq.trans _ _ _ a3 b3⟩
  · rw [hb] at h1 h2
    rcases h1 with h1 | ⟨a1, a2, a3⟩
    · have := fr_bit_lt hp.ok h1
      rcases h2 with h2 | ⟨b1, _, _⟩
      · exact hp.anti x y h1 h2
      · omega
    · rcases h2 with h2 | ⟨b1, b2, b3⟩
      · have := fr_bit_lt hp.ok h2; omega
      · have := hq.anti _ _ a3 b3; omega
end
theorem take_get {l : List Nat} {k : Nat} (h : k < l.length) : l.take (k + 1) = l.take k ++ [l.getD k 0] := by
  rw [List.take_succ_eq_append_getElem h]; simp [List.getD_eq_getElem?_getD, h]
end Go.Vc
namespace Go.Proofs.YtoolpnkcmlebkaaGreat
open Go.Vc
theorem ok_spec_l16Join {f g : Fr} (hf : f.ok) (hg : g.ok) {v u : Value} {w : World} (hs : SlN w v f.a) (ht : SlN w u g.a) : Cal Tryz.prog f_spec_l16Join #[.agg #[.int .i64 (f.n : Int), v], .agg #[.int .i64 (g.n : Int), u], .bool false] w fun r w' => Ext w w' ∧ ∃ v', r = .agg #[.int .i64 ((sumFr f g).n : Int), v'] ∧ Ow w.heap.size t_i64 w' v' (ints (nats (sumFr f g).a)) := by
  apply c_spec_l16Join; unfold S_spec_l16Join
  have hf8 := hf.1
  have hfl := hf.2.1
  have hg8 := hg.1
  have hgl := hg.2.1
  refine iNew fun b1 w1 hb1 h1 hB1 => ?_
  refine iNew fun b2 w2 hb2 h2 hB2 => ?_
  refine iNew fun b3 w3 hb3 h3 hB3 => ?_
  have hX3 := h1.trans (h2.trans h3)
  have hB1 := (hB1.ext h2).ext h3
  have hB2 := hB2.ext h3
  refine iBs0 fun vo w4 _ h4 ho => ?_
  refine iLp (fun s : Value × Nat => [s.1, .int .i64 (s.2 : Int)]) (fun s w' => s.2 ≤ f.n ∧ Ext w3 w' ∧ Ow w3.heap.size t_i64 w' s.1 (ints (nats (f.a.take s.2)))) (fun s => f.n - s.2) (vo, 0) rfl ⟨Nat.zero_le _, h4, ho⟩ ?_
  rintro ⟨vo, k⟩ w6 Kn ⟨hk, h6, ho6⟩ hKn
  have hk : k ≤ f.n := hk
  have ho6 : Ow w3.heap.size t_i64 w6 vo (ints (nats (f.a.take k))) := ho6
  have hB16 := hB1.ext h6
  have hs6 := hs.ext (hX3.trans h6)
  (repeat first
    | (with_reducible first | refine iFa ?_ | refine iNil ?_ | refine iNilF ?_ | refine iLd (by assumption) ?_ | refine iLenN (by assumption) ?_ | refine iLenI (by assumption) ?_ | refine iLenS (by assumption) ?_ | refine iLenL ?_ | refine iEq ?_ | refine iNe ?_ | refine iLt ?_ | refine iLe ?_ | refine iNot ?_ | refine iPick ?_ | refine iE20 ?_ | refine iE21 ?_ | refine iE30 ?_ | refine iE31 ?_ | refine iE32 ?_ | refine iJn ?_)
    | ((with_reducible show xLd _ _ _); refine iLdB (by assumption) (by first | rfl | simp) ?_) | ((with_reducible refine iLdA (by assumption) ?_ ?_); rfl)
    | ((with_reducible refine iIaNN (by assumption) ?_ (fun pa_ hpa_ => ?_)); omega) | ((with_reducible refine iIaN (by assumption) ?_ (fun pa_ hpa_ => ?_)); omega)
    | ((with_reducible refine iIaI (by assumption) ?_ ?_ (fun pa_ hpa_ => ?_)); omega; omega) | ((with_reducible refine iAdd ?_ ?_); omega) | ((with_reducible refine iSub ?_ ?_); omega)
    | ((with_reducible show xEx _ _ _); refine iEx (by rfl) ?_) | ((with_reducible refine fun (_ : Nat → Value) => ?_); (try simp only [gx])))
  refine iCndP (fun h7 => ?_) (fun h7 => ?_)
  · have hk1 : k < f.n := by omega
    have ht := take_get (l := f.a) (k := k) (by omega)
    (repeat first
    | (with_reducible first | refine iFa ?_ | refine iNil ?_ | refine iNilF ?_ | refine iLd (by assumption) ?_ | refine iLenN (by assumption) ?_ | refine iLenI (by assumption) ?_ | refine iLenS (by assumption) ?_ | refine iLenL ?_ | refine iEq ?_ | refine iNe ?_ | refine iLt ?_ | refine iLe ?_ | refine iNot ?_ | refine iPick ?_ | refine iE20 ?_ | refine iE21 ?_ | refine iE30 ?_ | refine iE31 ?_ | refine iE32 ?_ | refine iJn ?_)
    | ((with_reducible show xLd _ _ _); refine iLdB (by assumption) (by first | rfl | simp) ?_) | ((with_reducible refine iLdA (by assumption) ?_ ?_); rfl)
    | ((with_reducible refine iIaNN (by assumption) ?_ (fun pa_ hpa_ => ?_)); omega) | ((with_reducible refine iIaN (by assumption) ?_ (fun pa_ hpa_ => ?_)); omega)
    | ((with_reducible refine iIaI (by assumption) ?_ ?_ (fun pa_ hpa_ => ?_)); omega; omega) | ((with_reducible refine iAdd ?_ ?_); omega) | ((with_reducible refine iSub ?_ ?_); omega)
    | ((with_reducible show xEx _ _ _); refine iEx (by rfl) ?_) | ((with_reducible refine fun (_ : Nat → Value) => ?_); (try simp only [gx])))
    refine iCndF rfl ?_
    (repeat first
    | (with_reducible first | refine iFa ?_ | refine iNil ?_ | refine iNilF ?_ | refine iLd (by assumption) ?_ | refine iLenN (by assumption) ?_ | refine iLenI (by assumption) ?_ | refine iLenS (by assumption) ?_ | refine iLenL ?_ | refine iEq ?_ | refine iNe ?_ | refine iLt ?_ | refine iLe ?_ | refine iNot ?_ | refine iPick ?_ | refine iE20 ?_ | refine iE21 ?_ | refine iE30 ?_ | refine iE31 ?_ | refine iE32 ?_ | refine iJn ?_)
    | ((with_reducible show xLd _ _ _); refine iLdB (by assumption) (by first | rfl | simp) ?_) | ((with_reducible refine iLdA (by assumption) ?_ ?_); rfl)
    | ((with_reducible refine iIaNN (by assumption) ?_ (fun pa_ hpa_ => ?_)); omega) | ((with_reducible refine iIaN (by assumption) ?_ (fun pa_ hpa_ => ?_)); omega)
    | ((with_reducible refine iIaI (by assumption) ?_ ?_ (fun pa_ hpa_ => ?_)); omega; omega) | ((with_reducible refine iAdd ?_ ?_); omega) | ((with_reducible refine iSub ?_ ?_); omega)
    | ((with_reducible show xEx _ _ _); refine iEx (by rfl) ?_) | ((with_reducible refine fun (_ : Nat → Value) => ?_); (try simp only [gx])))
    have hil : (ints (nats (f.a.take k))).length ≤ k := by rw [ints_length, nats_length, List.length_take]; omega
    refine iApp1 u_Si64 i_Si64 rfl ho6 rfl (by omega) (by omega) h6.size fun v' wB ho' hg' => ?_
    rw [ints_snoc, ← ht] at ho'
    (repeat first
    | (with_reducible first | refine iFa ?_ | refine iNil ?_ | refine iNilF ?_ | refine iLd (by assumption) ?_ | refine iLenN (by assumption) ?_ | refine iLenI (by assumption) ?_ | refine iLenS (by assumption) ?_ | refine iLenL ?_ | refine iEq ?_ | refine iNe ?_ | refine iLt ?_ | refine iLe ?_ | refine iNot ?_ | refine iPick ?_ | refine iE20 ?_ | refine iE21 ?_ | refine iE30 ?_ | refine iE31 ?_ | refine iE32 ?_ | refine iJn ?_)
    | ((with_reducible show xLd _ _ _); refine iLdB (by assumption) (by first | rfl | simp) ?_) | ((with_reducible refine iLdA (by assumption) ?_ ?_); rfl)
    | ((with_reducible refine iIaNN (by assumption) ?_ (fun pa_ hpa_ => ?_)); omega) | ((with_reducible refine iIaN (by assumption) ?_ (fun pa_ hpa_ => ?_)); omega)
    | ((with_reducible refine iIaI (by assumption) ?_ ?_ (fun pa_ hpa_ => ?_)); omega; omega) | ((with_reducible refine iAdd ?_ ?_); omega) | ((with_reducible refine iSub ?_ ?_); omega)
    | ((with_reducible show xEx _ _ _); refine iEx (by rfl) ?_) | ((with_reducible refine fun (_ : Nat → Value) => ?_); (try simp only [gx])))
    exact hKn (v', k + 1) _ ⟨by show k + 1 ≤ f.n; omega, h6.grown hg' (fun c hc => (ho6.blk c hc).1), ho'⟩ (by show f.n - (k + 1) < f.n - k; omega)
  · have hk2 : k = f.n := by omega
    subst hk2
    rw [List.take_of_length_le (by omega)] at ho6
    refine iLp (fun s : Value × Nat => [s.1, .int .i64 (s.2 : Int)]) (fun s w' => s.2 ≤ g.n ∧ Ext w3 w' ∧ Ow w3.heap.size t_i64 w' s.1 (ints (nats (f.a ++ (g.a.take s.2).map fun m => m <<< f.n)))) (fun s => g.n - s.2) (vo, 0) rfl ⟨Nat.zero_le _, h6, by show Ow w3.heap.size t_i64 w6 vo (ints (nats (f.a ++ (g.a.take 0).map fun m => m <<< f.n))); rw [List.take_zero, List.map_nil, List.append_nil]; exact ho6⟩ ?_
    rintro ⟨vo', k⟩ w13 Kn' ⟨hk, h13, ho13⟩ hKn'
    have hk : k ≤ g.n := hk
    have ho13 : Ow w3.heap.size t_i64 w13 vo' (ints (nats (f.a ++ (g.a.take k).map fun m => m <<< f.n))) := ho13
    have hB113 := hB1.ext h13
    have hB213 := hB2.ext h13
    have ht13 := ht.ext (hX3.trans h13)
    (repeat first
    | (with_reducible first | refine iFa ?_ | refine iNil ?_ | refine iNilF ?_ | refine iLd (by assumption) ?_ | refine iLenN (by assumption) ?_ | refine iLenI (by assumption) ?_ | refine iLenS (by assumption) ?_ | refine iLenL ?_ | refine iEq ?_ | refine iNe ?_ | refine iLt ?_ | refine iLe ?_ | refine iNot ?_ | refine iPick ?_ | refine iE20 ?_ | refine iE21 ?_ | refine iE30 ?_ | refine iE31 ?_ | refine iE32 ?_ | refine iJn ?_)
    | ((with_reducible show xLd _ _ _); refine iLdB (by assumption) (by first | rfl | simp) ?_) | ((with_reducible refine iLdA (by assumption) ?_ ?_); rfl)
    | ((with_reducible refine iIaNN (by assumption) ?_ (fun pa_ hpa_ => ?_)); omega) | ((with_reducible refine iIaN (by assumption) ?_ (fun pa_ hpa_ => ?_)); omega)
    | ((with_reducible refine iIaI (by assumption) ?_ ?_ (fun pa_ hpa_ => ?_)); omega; omega) | ((with_reducible refine iAdd ?_ ?_); omega) | ((with_reducible refine iSub ?_ ?_); omega)
    | ((with_reducible show xEx _ _ _); refine iEx (by rfl) ?_) | ((with_reducible refine fun (_ : Nat → Value) => ?_); (try simp only [gx])))
    refine iCndP (fun h8 => ?_) (fun h8 => ?_)
    · have hk1 : k < g.n := by omega
      have ht := take_get (l := g.a) (k := k) (by omega)
      have hgk := fr_lt63 hg k
      (repeat first
    | (with_reducible first | refine iFa ?_ | refine iNil ?_ | refine iNilF ?_ | refine iLd (by assumption) ?_ | refine iLenN (by assumption) ?_ | refine iLenI (by assumption) ?_ | refine iLenS (by assumption) ?_ | refine iLenL ?_ | refine iEq ?_ | refine iNe ?_ | refine iLt ?_ | refine iLe ?_ | refine iNot ?_ | refine iPick ?_ | refine iE20 ?_ | refine iE21 ?_ | refine iE30 ?_ | refine iE31 ?_ | refine iE32 ?_ | refine iJn ?_)
    | ((with_reducible show xLd _ _ _); refine iLdB (by assumption) (by first | rfl | simp) ?_) | ((with_reducible refine iLdA (by assumption) ?_ ?_); rfl)
    | ((with_reducible refine iIaNN (by assumption) ?_ (fun pa_ hpa_ => ?_)); omega) | ((with_reducible refine iIaN (by assumption) ?_ (fun pa_ hpa_ => ?_)); omega)
    | ((with_reducible refine iIaI (by assumption) ?_ ?_ (fun pa_ hpa_ => ?_)); omega; omega) | ((with_reducible refine iAdd ?_ ?_); omega) | ((with_reducible refine iSub ?_ ?_); omega)
    | ((with_reducible show xEx _ _ _); refine iEx (by rfl) ?_) | ((with_reducible refine fun (_ : Nat → Value) => ?_); (try simp only [gx])))
      refine iConvU (by omega) ?_
      refine iShlN (by omega) (by omega) ?_
      intro w14 hA
      refine iBs1 rfl rfl fun bb w15 hbb hC hBb => ?_
      (try refine ⟨hC, ?_⟩)
      intro w16 hD
      have hX16 := h13.trans (hA.trans (hC.trans hD))
      have ho16 := ((ho13.ext hA).ext hC).ext hD
      have hil : (ints (nats (f.a ++ (g.a.take k).map fun m => m <<< f.n))).length ≤ f.n + k := by rw [ints_length, nats_length, List.length_append, List.length_map, List.length_take]; omega
      refine iApp u_Si64 i_Si64 rfl ho16 (Sl.ofBlk (hBb.ext hD) rfl (by omega)) (fun x hx => by simp at hx; subst hx; rfl) (by simp only [List.length_singleton]; omega) (by simp only [List.length_singleton]; omega) hX16.size fun v' wB ho' hg' => ?_
      have e : (f.a ++ (g.a.take (k + 1)).map fun m => m <<< f.n) = (f.a ++ (g.a.take k).map fun m => m <<< f.n) ++ [g.a.getD k 0 <<< f.n] := by
        rw [ht, List.map_append, List.append_assoc]; rfl
      rw [ints_snoc, ← e] at ho'
      intro w18 hE
      (repeat first
    | (with_reducible first | refine iFa ?_ | refine iNil ?_ | refine iNilF ?_ | refine iLd (by assumption) ?_ | refine iLenN (by assumption) ?_ | refine iLenI (by assumption) ?_ | refine iLenS (by assumption) ?_ | refine iLenL ?_ | refine iEq ?_ | refine iNe ?_ | refine iLt ?_ | refine iLe ?_ | refine iNot ?_ | refine iPick ?_ | refine iE20 ?_ | refine iE21 ?_ | refine iE30 ?_ | refine iE31 ?_ | refine iE32 ?_ | refine iJn ?_)
    | ((with_reducible show xLd _ _ _); refine iLdB (by assumption) (by first | rfl | simp) ?_) | ((with_reducible refine iLdA (by assumption) ?_ ?_); rfl)
    | ((with_reducible refine iIaNN (by assumption) ?_ (fun pa_ hpa_ => ?_)); omega) | ((with_reducible refine iIaN (by assumption) ?_ (fun pa_ hpa_ => ?_)); omega)
    | ((with_reducible refine iIaI (by assumption) ?_ ?_ (fun pa_ hpa_ => ?_)); omega; omega) | ((with_reducible refine iAdd ?_ ?_); omega) | ((with_reducible refine iSub ?_ ?_); omega)
    | ((with_reducible show xEx _ _ _); refine iEx (by rfl) ?_) | ((with_reducible refine fun (_ : Nat → Value) => ?_); (try simp only [gx])))
      exact hKn' (v', k + 1) _ ⟨by show k + 1 ≤ g.n; omega, (hX16.grown hg' (fun c hc => (ho16.blk c hc).1)).trans hE, ho'.ext hE⟩ (by show g.n - (k + 1) < g.n - k; omega)
    · have hk2 : k = g.n := by omega
      subst hk2
      rw [List.take_of_length_le (by omega)] at ho13
      have hsl : SlN w13 vo' (sumFr f g).a := ho13.sl
      have hpl : (sumFr f g).a.length = (sumFr f g).n := by simp [sumFr, hfl, hgl]
      have hpn : (sumFr f g).n = f.n + g.n := rfl
      refine iCall ((ok_spec_l16Make hsl (by omega)).mono ?_)
      rintro _ w19 ⟨h19, v', rfl, ho'⟩
      rw [hpl]
      have hB3 := (hB3.ext h13).ext h19
      have hX19 := hX3.trans (h13.trans h19)
      have hXs := (hX3.trans h13).size
      have hne : v'.ownBlock ≠ some b3 := fun e => by
        have := (ho'.blk b3 e).1
        have h3s := h3.size
        have h13s := h13.size
        omega
      have hsz := (h1.trans h2).size
      refine iStAB hB3 rfl rfl (ho'.pair _) fun w20 hu hB20 => ?_
      refine iLdA hB20 rfl ?_
      exact ⟨hX19.upd hu (by omega), _, rfl, (ho'.mono hXs).upd hu hne⟩
theorem ok_impl_summed {f g : Fr} (hp : posetOk (f.n : Int) (nats f.a) = true) (hq : posetOk (g.n : Int) (nats g.a) = true) (hf : f.ok) (hg : g.ok) (hn : f.n + g.n ≤ 8) {v u : Value} {w : World} (hs : SlN w v f.a) (ht : SlN w u g.a) : Cal Tryz.prog f_impl_summed #[.agg #[.int .i64 (f.n : Int), v], .agg #[.int .i64 (g.n : Int), u], .int .i64 0] w fun r w' => Ext w w' ∧ ∃ v', r = .tuple #[.agg #[.int .i64 ((sumFr f g).n : Int), v'], .int .i64 0] ∧ Ow w.heap.size t_i64 w' v' (ints (nats (sumFr f g).a)) := by
  apply c_impl_summed; unfold S_impl_summed
  have hf8 := hf.1
  have hfl := hf.2.1
  have hg8 := hg.1
  have hgl := hg.2.1
  refine iNew fun b1 w1 hb1 h1 hB1 => ?_
  refine iNew fun b2 w2 hb2 h2 hB2 => ?_
  refine iNew fun b3 w3 hb3 h3 hB3 => ?_
  have hX3 := h1.trans (h2.trans h3)
  have hB1 := (hB1.ext h2).ext h3
  have hB2 := hB2.ext h3
  refine iJnB false w3 (fun J hJ => ?_) (fun w5 h5 => ?_)
  · (repeat first
    | (with_reducible first | refine iFa ?_ | refine iNil ?_ | refine iNilF ?_ | refine iLd (by assumption) ?_ | refine iLenN (by assumption) ?_ | refine iLenI (by assumption) ?_ | refine iLenS (by assumption) ?_ | refine iLenL ?_ | refine iEq ?_ | refine iNe ?_ | refine iLt ?_ | refine iLe ?_ | refine iNot ?_ | refine iPick ?_ | refine iE20 ?_ | refine iE21 ?_ | refine iE30 ?_ | refine iE31 ?_ | refine iE32 ?_ | refine iJn ?_)
    | ((with_reducible show xLd _ _ _); refine iLdB (by assumption) (by first | rfl | simp) ?_) | ((with_reducible refine iLdA (by assumption) ?_ ?_); rfl)
    | ((with_reducible refine iIaNN (by assumption) ?_ (fun pa_ hpa_ => ?_)); omega) | ((with_reducible refine iIaN (by assumption) ?_ (fun pa_ hpa_ => ?_)); omega)
    | ((with_reducible refine iIaI (by assumption) ?_ ?_ (fun pa_ hpa_ => ?_)); omega; omega) | ((with_reducible refine iAdd ?_ ?_); omega) | ((with_reducible refine iSub ?_ ?_); omega)
    | ((with_reducible show xEx _ _ _); refine iEx (by rfl) ?_) | ((with_reducible refine fun (_ : Nat → Value) => ?_); (try simp only [gx])))
    refine iRet (ok_impl_isPoset (hs.ext hX3) (f.n : Int)) fun w6 h6 => ?_
    rw [hp]
    have hB2 := hB2.ext h6
    (repeat first
    | (with_reducible first | refine iFa ?_ | refine iNil ?_ | refine iNilF ?_ | refine iLd (by assumption) ?_ | refine iLenN (by assumption) ?_ | refine iLenI (by assumption) ?_ | refine iLenS (by assumption) ?_ | refine iLenL ?_ | refine iEq ?_ | refine iNe ?_ | refine iLt ?_ | refine iLe ?_ | refine iNot ?_ | refine iPick ?_ | refine iE20 ?_ | refine iE21 ?_ | refine iE30 ?_ | refine iE31 ?_ | refine iE32 ?_ | refine iJn ?_)
    | ((with_reducible show xLd _ _ _); refine iLdB (by assumption) (by first | rfl | simp) ?_) | ((with_reducible refine iLdA (by assumption) ?_ ?_); rfl)
    | ((with_reducible refine iIaNN (by assumption) ?_ (fun pa_ hpa_ => ?_)); omega) | ((with_reducible refine iIaN (by assumption) ?_ (fun pa_ hpa_ => ?_)); omega)
    | ((with_reducible refine iIaI (by assumption) ?_ ?_ (fun pa_ hpa_ => ?_)); omega; omega) | ((with_reducible refine iAdd ?_ ?_); omega) | ((with_reducible refine iSub ?_ ?_); omega)
    | ((with_reducible show xEx _ _ _); refine iEx (by rfl) ?_) | ((with_reducible refine fun (_ : Nat → Value) => ?_); (try simp only [gx])))
    refine iCndF rfl ?_
    (repeat first
    | (with_reducible first | refine iFa ?_ | refine iNil ?_ | refine iNilF ?_ | refine iLd (by assumption) ?_ | refine iLenN (by assumption) ?_ | refine iLenI (by assumption) ?_ | refine iLenS (by assumption) ?_ | refine iLenL ?_ | refine iEq ?_ | refine iNe ?_ | refine iLt ?_ | refine iLe ?_ | refine iNot ?_ | refine iPick ?_ | refine iE20 ?_ | refine iE21 ?_ | refine iE30 ?_ | refine iE31 ?_ | refine iE32 ?_ | refine iJn ?_)
    | ((with_reducible show xLd _ _ _); refine iLdB (by assumption) (by first | rfl | simp) ?_) | ((with_reducible refine iLdA (by assumption) ?_ ?_); rfl)
    | ((with_reducible refine iIaNN (by assumption) ?_ (fun pa_ hpa_ => ?_)); omega) | ((with_reducible refine iIaN (by assumption) ?_ (fun pa_ hpa_ => ?_)); omega)
    | ((with_reducible refine iIaI (by assumption) ?_ ?_ (fun pa_ hpa_ => ?_)); omega; omega) | ((with_reducible refine iAdd ?_ ?_); omega) | ((with_reducible refine iSub ?_ ?_); omega)
    | ((with_reducible show xEx _ _ _); refine iEx (by rfl) ?_) | ((with_reducible refine fun (_ : Nat → Value) => ?_); (try simp only [gx])))
    refine iRet (ok_impl_isPoset (ht.ext (hX3.trans h6)) (g.n : Int)) fun w7 h7 => ?_
    rw [hq]
    (repeat first
    | (with_reducible first | refine iFa ?_ | refine iNil ?_ | refine iNilF ?_ | refine iLd (by assumption) ?_ | refine iLenN (by assumption) ?_ | refine iLenI (by assumption) ?_ | refine iLenS (by assumption) ?_ | refine iLenL ?_ | refine iEq ?_ | refine iNe ?_ | refine iLt ?_ | refine iLe ?_ | refine iNot ?_ | refine iPick ?_ | refine iE20 ?_ | refine iE21 ?_ | refine iE30 ?_ | refine iE31 ?_ | refine iE32 ?_ | refine iJn ?_)
    | ((with_reducible show xLd _ _ _); refine iLdB (by assumption) (by first | rfl | simp) ?_) | ((with_reducible refine iLdA (by assumption) ?_ ?_); rfl)
    | ((with_reducible refine iIaNN (by assumption) ?_ (fun pa_ hpa_ => ?_)); omega) | ((with_reducible refine iIaN (by assumption) ?_ (fun pa_ hpa_ => ?_)); omega)
    | ((with_reducible refine iIaI (by assumption) ?_ ?_ (fun pa_ hpa_ => ?_)); omega; omega) | ((with_reducible refine iAdd ?_ ?_); omega) | ((with_reducible refine iSub ?_ ?_); omega)
    | ((with_reducible show xEx _ _ _); refine iEx (by rfl) ?_) | ((with_reducible refine fun (_ : Nat → Value) => ?_); (try simp only [gx])))
    exact hJ w7 (h6.trans h7)
  · have hB15 := hB1.ext h5
    have hB25 := hB2.ext h5
    have hB35 := hB3.ext h5
    have hX5 := hX3.trans h5
    have hs5 := hs.ext hX5
    (repeat first
    | (with_reducible first | refine iFa ?_ | refine iNil ?_ | refine iNilF ?_ | refine iLd (by assumption) ?_ | refine iLenN (by assumption) ?_ | refine iLenI (by assumption) ?_ | refine iLenS (by assumption) ?_ | refine iLenL ?_ | refine iEq ?_ | refine iNe ?_ | refine iLt ?_ | refine iLe ?_ | refine iNot ?_ | refine iPick ?_ | refine iE20 ?_ | refine iE21 ?_ | refine iE30 ?_ | refine iE31 ?_ | refine iE32 ?_ | refine iJn ?_)
    | ((with_reducible show xLd _ _ _); refine iLdB (by assumption) (by first | rfl | simp) ?_) | ((with_reducible refine iLdA (by assumption) ?_ ?_); rfl)
    | ((with_reducible refine iIaNN (by assumption) ?_ (fun pa_ hpa_ => ?_)); omega) | ((with_reducible refine iIaN (by assumption) ?_ (fun pa_ hpa_ => ?_)); omega)
    | ((with_reducible refine iIaI (by assumption) ?_ ?_ (fun pa_ hpa_ => ?_)); omega; omega) | ((with_reducible refine iAdd ?_ ?_); omega) | ((with_reducible refine iSub ?_ ?_); omega)
    | ((with_reducible show xEx _ _ _); refine iEx (by rfl) ?_) | ((with_reducible refine fun (_ : Nat → Value) => ?_); (try simp only [gx])))
    refine iCndF rfl ?_
    (repeat first
    | (with_reducible first | refine iFa ?_ | refine iNil ?_ | refine iNilF ?_ | refine iLd (by assumption) ?_ | refine iLenN (by assumption) ?_ | refine iLenI (by assumption) ?_ | refine iLenS (by assumption) ?_ | refine iLenL ?_ | refine iEq ?_ | refine iNe ?_ | refine iLt ?_ | refine iLe ?_ | refine iNot ?_ | refine iPick ?_ | refine iE20 ?_ | refine iE21 ?_ | refine iE30 ?_ | refine iE31 ?_ | refine iE32 ?_ | refine iJn ?_)
    | ((with_reducible show xLd _ _ _); refine iLdB (by assumption) (by first | rfl | simp) ?_) | ((with_reducible refine iLdA (by assumption) ?_ ?_); rfl)
    | ((with_reducible refine iIaNN (by assumption) ?_ (fun pa_ hpa_ => ?_)); omega) | ((with_reducible refine iIaN (by assumption) ?_ (fun pa_ hpa_ => ?_)); omega)
    | ((with_reducible refine iIaI (by assumption) ?_ ?_ (fun pa_ hpa_ => ?_)); omega; omega) | ((with_reducible refine iAdd ?_ ?_); omega) | ((with_reducible refine iSub ?_ ?_); omega)
    | ((with_reducible show xEx _ _ _); refine iEx (by rfl) ?_) | ((with_reducible refine fun (_ : Nat → Value) => ?_); (try simp only [gx])))
    refine iCndP (fun h => absurd h (by omega)) (fun _ => ?_)
    (repeat first
    | (with_reducible first | refine iFa ?_ | refine iNil ?_ | refine iNilF ?_ | refine iLd (by assumption) ?_ | refine iLenN (by assumption) ?_ | refine iLenI (by assumption) ?_ | refine iLenS (by assumption) ?_ | refine iLenL ?_ | refine iEq ?_ | refine iNe ?_ | refine iLt ?_ | refine iLe ?_ | refine iNot ?_ | refine iPick ?_ | refine iE20 ?_ | refine iE21 ?_ | refine iE30 ?_ | refine iE31 ?_ | refine iE32 ?_ | refine iJn ?_)
    | ((with_reducible show xLd _ _ _); refine iLdB (by assumption) (by first | rfl | simp) ?_) | ((with_reducible refine iLdA (by assumption) ?_ ?_); rfl)
    | ((with_reducible refine iIaNN (by assumption) ?_ (fun pa_ hpa_ => ?_)); omega) | ((with_reducible refine iIaN (by assumption) ?_ (fun pa_ hpa_ => ?_)); omega)
    | ((with_reducible refine iIaI (by assumption) ?_ ?_ (fun pa_ hpa_ => ?_)); omega; omega) | ((with_reducible refine iAdd ?_ ?_); omega) | ((with_reducible refine iSub ?_ ?_); omega)
    | ((with_reducible show xEx _ _ _); refine iEx (by rfl) ?_) | ((with_reducible refine fun (_ : Nat → Value) => ?_); (try simp only [gx])))
    refine iLp (fun s : Value × Nat => [s.1, .int .i64 (s.2 : Int)]) (fun s w' => s.2 ≤ f.n ∧ Ext w5 w' ∧ Ow w5.heap.size t_i64 w' s.1 (ints (nats (f.a.take s.2)))) (fun s => f.n - s.2) (.slice none 0 0, 0) rfl ⟨Nat.zero_le _, Ext.refl _, Ow.nil _ _ _⟩ ?_
    rintro ⟨vo, k⟩ w6 Kn ⟨hk, h6, ho6⟩ hKn
    have hk : k ≤ f.n := hk
    have ho6 : Ow w5.heap.size t_i64 w6 vo (ints (nats (f.a.take k))) := ho6
    have hB16 := hB15.ext h6
    have hB26 := hB25.ext h6
    have hs6 := hs5.ext h6
    (repeat first
    | (with_reducible first | refine iFa ?_ | refine iNil ?_ | refine iNilF ?_ | refine iLd (by assumption) ?_ | refine iLenN (by assumption) ?_ | refine iLenI (by assumption) ?_ | refine iLenS (by assumption) ?_ | refine iLenL ?_ | refine iEq ?_ | refine iNe ?_ | refine iLt ?_ | refine iLe ?_ | refine iNot ?_ | refine iPick ?_ | refine iE20 ?_ | refine iE21 ?_ | refine iE30 ?_ | refine iE31 ?_ | refine iE32 ?_ | refine iJn ?_)
    | ((with_reducible show xLd _ _ _); refine iLdB (by assumption) (by first | rfl | simp) ?_) | ((with_reducible refine iLdA (by assumption) ?_ ?_); rfl)
    | ((with_reducible refine iIaNN (by assumption) ?_ (fun pa_ hpa_ => ?_)); omega) | ((with_reducible refine iIaN (by assumption) ?_ (fun pa_ hpa_ => ?_)); omega)
    | ((with_reducible refine iIaI (by assumption) ?_ ?_ (fun pa_ hpa_ => ?_)); omega; omega) | ((with_reducible refine iAdd ?_ ?_); omega) | ((with_reducible refine iSub ?_ ?_); omega)
    | ((with_reducible show xEx _ _ _); refine iEx (by rfl) ?_) | ((with_reducible refine fun (_ : Nat → Value) => ?_); (try simp only [gx])))
    refine iCndP (fun h7 => ?_) (fun h7 => ?_)
    · have hk1 : k < f.n := by omega
      have ht := take_get (l := f.a) (k := k) (by omega)
      have hgk := fr_lt63 hf k
      (repeat first
    | (with_reducible first | refine iFa ?_ | refine iNil ?_ | refine iNilF ?_ | refine iLd (by assumption) ?_ | refine iLenN (by assumption) ?_ | refine iLenI (by assumption) ?_ | refine iLenS (by assumption) ?_ | refine iLenL ?_ | refine iEq ?_ | refine iNe ?_ | refine iLt ?_ | refine iLe ?_ | refine iNot ?_ | refine iPick ?_ | refine iE20 ?_ | refine iE21 ?_ | refine iE30 ?_ | refine iE31 ?_ | refine iE32 ?_ | refine iJn ?_)
    | ((with_reducible show xLd _ _ _); refine iLdB (by assumption) (by first | rfl | simp) ?_) | ((with_reducible refine iLdA (by assumption) ?_ ?_); rfl)
    | ((with_reducible refine iIaNN (by assumption) ?_ (fun pa_ hpa_ => ?_)); omega) | ((with_reducible refine iIaN (by assumption) ?_ (fun pa_ hpa_ => ?_)); omega)
    | ((with_reducible refine iIaI (by assumption) ?_ ?_ (fun pa_ hpa_ => ?_)); omega; omega) | ((with_reducible refine iAdd ?_ ?_); omega) | ((with_reducible refine iSub ?_ ?_); omega)
    | ((with_reducible show xEx _ _ _); refine iEx (by rfl) ?_) | ((with_reducible refine fun (_ : Nat → Value) => ?_); (try simp only [gx])))
      refine iShlN (a := 0) (by omega) (by omega) ?_
      have e0 : (0 <<< f.n : Nat) = 0 := by simp
      rw [e0]
      refine iBOr (by omega) (by omega) ?_
      rw [Nat.or_zero]
      have hil : (ints (nats (f.a.take k))).length ≤ k := by rw [ints_length, nats_length, List.length_take]; omega
      refine iApp1 u_Si64 i_Si64 rfl ho6 rfl (by omega) (by omega) h6.size fun v' wB ho' hg' => ?_
      rw [ints_snoc, ← ht] at ho'
      (repeat first
    | (with_reducible first | refine iFa ?_ | refine iNil ?_ | refine iNilF ?_ | refine iLd (by assumption) ?_ | refine iLenN (by assumption) ?_ | refine iLenI (by assumption) ?_ | refine iLenS (by assumption) ?_ | refine iLenL ?_ | refine iEq ?_ | refine iNe ?_ | refine iLt ?_ | refine iLe ?_ | refine iNot ?_ | refine iPick ?_ | refine iE20 ?_ | refine iE21 ?_ | refine iE30 ?_ | refine iE31 ?_ | refine iE32 ?_ | refine iJn ?_)
    | ((with_reducible show xLd _ _ _); refine iLdB (by assumption) (by first | rfl | simp) ?_) | ((with_reducible refine iLdA (by assumption) ?_ ?_); rfl)
    | ((with_reducible refine iIaNN (by assumption) ?_ (fun pa_ hpa_ => ?_)); omega) | ((with_reducible refine iIaN (by assumption) ?_ (fun pa_ hpa_ => ?_)); omega)
    | ((with_reducible refine iIaI (by assumption) ?_ ?_ (fun pa_ hpa_ => ?_)); omega; omega) | ((with_reducible refine iAdd ?_ ?_); omega) | ((with_reducible refine iSub ?_ ?_); omega)
    | ((with_reducible show xEx _ _ _); refine iEx (by rfl) ?_) | ((with_reducible refine fun (_ : Nat → Value) => ?_); (try simp only [gx])))
      exact hKn (v', k + 1) _ ⟨by show k + 1 ≤ f.n; omega, h6.grown hg' (fun c hc => (ho6.blk c hc).1), ho'⟩ (by show f.n - (k + 1) < f.n - k; omega)
    · have hk2 : k = f.n := by omega
      subst hk2
      rw [List.take_of_length_le (by omega)] at ho6
      have ht6 := ht.ext (hX5.trans h6)
      (repeat first
    | (with_reducible first | refine iFa ?_ | refine iNil ?_ | refine iNilF ?_ | refine iLd (by assumption) ?_ | refine iLenN (by assumption) ?_ | refine iLenI (by assumption) ?_ | refine iLenS (by assumption) ?_ | refine iLenL ?_ | refine iEq ?_ | refine iNe ?_ | refine iLt ?_ | refine iLe ?_ | refine iNot ?_ | refine iPick ?_ | refine iE20 ?_ | refine iE21 ?_ | refine iE30 ?_ | refine iE31 ?_ | refine iE32 ?_ | refine iJn ?_)
    | ((with_reducible show xLd _ _ _); refine iLdB (by assumption) (by first | rfl | simp) ?_) | ((with_reducible refine iLdA (by assumption) ?_ ?_); rfl)
    | ((with_reducible refine iIaNN (by assumption) ?_ (fun pa_ hpa_ => ?_)); omega) | ((with_reducible refine iIaN (by assumption) ?_ (fun pa_ hpa_ => ?_)); omega)
    | ((with_reducible refine iIaI (by assumption) ?_ ?_ (fun pa_ hpa_ => ?_)); omega; omega) | ((with_reducible refine iAdd ?_ ?_); omega) | ((with_reducible refine iSub ?_ ?_); omega)
    | ((with_reducible show xEx _ _ _); refine iEx (by rfl) ?_) | ((with_reducible refine fun (_ : Nat → Value) => ?_); (try simp only [gx])))
      refine iLp (fun s : Value × Nat => [s.1, .int .i64 (s.2 : Int)]) (fun s w' => s.2 ≤ g.n ∧ Ext w5 w' ∧ Ow w5.heap.size t_i64 w' s.1 (ints (nats (f.a ++ (g.a.take s.2).map fun m => m <<< f.n)))) (fun s => g.n - s.2) (vo, 0) rfl ⟨Nat.zero_le _, h6, by show Ow w5.heap.size t_i64 w6 vo (ints (nats (f.a ++ (g.a.take 0).map fun m => m <<< f.n))); rw [List.take_zero, List.map_nil, List.append_nil]; exact ho6⟩ ?_
      rintro ⟨vo', k⟩ w13 Kn' ⟨hk, h13, ho13⟩ hKn'
      have hk : k ≤ g.n := hk
      have ho13 : Ow w5.heap.size t_i64 w13 vo' (ints (nats (f.a ++ (g.a.take k).map fun m => m <<< f.n))) := ho13
      have hB113 := hB15.ext h13
      have ht13 := ht.ext (hX5.trans h13)
      (repeat first
    | (with_reducible first | refine iFa ?_ | refine iNil ?_ | refine iNilF ?_ | refine iLd (by assumption) ?_ | refine iLenN (by assumption) ?_ | refine iLenI (by assumption) ?_ | refine iLenS (by assumption) ?_ | refine iLenL ?_ | refine iEq ?_ | refine iNe ?_ | refine iLt ?_ | refine iLe ?_ | refine iNot ?_ | refine iPick ?_ | refine iE20 ?_ | refine iE21 ?_ | refine iE30 ?_ | refine iE31 ?_ | refine iE32 ?_ | refine iJn ?_)
    | ((with_reducible show xLd _ _ _); refine iLdB (by assumption) (by first | rfl | simp) ?_) | ((with_reducible refine iLdA (by assumption) ?_ ?_); rfl)
    | ((with_reducible refine iIaNN (by assumption) ?_ (fun pa_ hpa_ => ?_)); omega) | ((with_reducible refine iIaN (by assumption) ?_ (fun pa_ hpa_ => ?_)); omega)
    | ((with_reducible refine iIaI (by assumption) ?_ ?_ (fun pa_ hpa_ => ?_)); omega; omega) | ((with_reducible refine iAdd ?_ ?_); omega) | ((with_reducible refine iSub ?_ ?_); omega)
    | ((with_reducible show xEx _ _ _); refine iEx (by rfl) ?_) | ((with_reducible refine fun (_ : Nat → Value) => ?_); (try simp only [gx])))
      refine iCndP (fun h8 => ?_) (fun h8 => ?_)
      · have hk1 : k < g.n := by omega
        have ht := take_get (l := g.a) (k := k) (by omega)
        have hgk := fr_lt63 hg k
        (repeat first
    | (with_reducible first | refine iFa ?_ | refine iNil ?_ | refine iNilF ?_ | refine iLd (by assumption) ?_ | refine iLenN (by assumption) ?_ | refine iLenI (by assumption) ?_ | refine iLenS (by assumption) ?_ | refine iLenL ?_ | refine iEq ?_ | refine iNe ?_ | refine iLt ?_ | refine iLe ?_ | refine iNot ?_ | refine iPick ?_ | refine iE20 ?_ | refine iE21 ?_ | refine iE30 ?_ | refine iE31 ?_ | refine iE32 ?_ | refine iJn ?_)
    | ((with_reducible show xLd _ _ _); refine iLdB (by assumption) (by first | rfl | simp) ?_) | ((with_reducible refine iLdA (by assumption) ?_ ?_); rfl)
    | ((with_reducible refine iIaNN (by assumption) ?_ (fun pa_ hpa_ => ?_)); omega) | ((with_reducible refine iIaN (by assumption) ?_ (fun pa_ hpa_ => ?_)); omega)
    | ((with_reducible refine iIaI (by assumption) ?_ ?_ (fun pa_ hpa_ => ?_)); omega; omega) | ((with_reducible refine iAdd ?_ ?_); omega) | ((with_reducible refine iSub ?_ ?_); omega)
    | ((with_reducible show xEx _ _ _); refine iEx (by rfl) ?_) | ((with_reducible refine fun (_ : Nat → Value) => ?_); (try simp only [gx])))
        refine iShlN (by omega) (by omega) ?_
        have hil : (ints (nats (f.a ++ (g.a.take k).map fun m => m <<< f.n))).length ≤ f.n + k := by rw [ints_length, nats_length, List.length_append, List.length_map, List.length_take]; omega
        refine iApp1 u_Si64 i_Si64 rfl ho13 rfl (by omega) (by omega) h13.size fun v' wB ho' hg' => ?_
        have e : (f.a ++ (g.a.take (k + 1)).map fun m => m <<< f.n) = (f.a ++ (g.a.take k).map fun m => m <<< f.n) ++ [g.a.getD k 0 <<< f.n] := by
          rw [ht, List.map_append, List.append_assoc]; rfl
        rw [ints_snoc, ← e] at ho'
        (repeat first
    | (with_reducible first | refine iFa ?_ | refine iNil ?_ | refine iNilF ?_ | refine iLd (by assumption) ?_ | refine iLenN (by assumption) ?_ | refine iLenI (by assumption) ?_ | refine iLenS (by assumption) ?_ | refine iLenL ?_ | refine iEq ?_ | refine iNe ?_ | refine iLt ?_ | refine iLe ?_ | refine iNot ?_ | refine iPick ?_ | refine iE20 ?_ | refine iE21 ?_ | refine iE30 ?_ | refine iE31 ?_ | refine iE32 ?_ | refine iJn ?_)
    | ((with_reducible show xLd _ _ _); refine iLdB (by assumption) (by first | rfl | simp) ?_) | ((with_reducible refine iLdA (by assumption) ?_ ?_); rfl)
    | ((with_reducible refine iIaNN (by assumption) ?_ (fun pa_ hpa_ => ?_)); omega) | ((with_reducible refine iIaN (by assumption) ?_ (fun pa_ hpa_ => ?_)); omega)
    | ((with_reducible refine iIaI (by assumption) ?_ ?_ (fun pa_ hpa_ => ?_)); omega; omega) | ((with_reducible refine iAdd ?_ ?_); omega) | ((with_reducible refine iSub ?_ ?_); omega)
    | ((with_reducible show xEx _ _ _); refine iEx (by rfl) ?_) | ((with_reducible refine fun (_ : Nat → Value) => ?_); (try simp only [gx])))
        exact hKn' (v', k + 1) _ ⟨by show k + 1 ≤ g.n; omega, h13.grown hg' (fun c hc => (ho13.blk c hc).1), ho'⟩ (by show g.n - (k + 1) < g.n - k; omega)
      · have hk2 : k = g.n := by omega
        subst hk2
        rw [List.take_of_length_le (by omega)] at ho13
        have ho13 : Ow w5.heap.size t_i64 w13 vo' (ints (nats (sumFr f g).a)) := ho13
        have hpl : (sumFr f g).a.length = (sumFr f g).n := by simp [sumFr, hfl, hgl]
        refine iCall ((ok_impl_posetOf ho13).mono ?_)
        rintro _ w20 ⟨h20, rfl⟩
        rw [hpl]
        have hB3 := (hB35.ext h13).ext h20
        have ho20 := ho13.ext h20
        have hX20 := hX5.trans (h13.trans h20)
        have hX5s := hX5.size
        have hne : vo'.ownBlock ≠ some b3 := fun e => by
          have := (ho13.blk b3 e).1
          have := hB35.lt
          omega
        have hsz := (h1.trans h2).size
        refine iStAB hB3 rfl rfl (ho20.pair _) fun w21 hu hB21 => ?_
        refine iLdA hB21 rfl ?_
        exact ⟨hX20.upd hu (by omega), _, rfl, (ho20.mono hX5s).upd hu hne⟩
theorem ok_impl_SumPosets {f g : Fr} (hp : posetOk (f.n : Int) (nats f.a) = true) (hq : posetOk (g.n : Int) (nats g.a) = true) (hf : f.ok) (hg : g.ok) (hn : f.n + g.n ≤ 8) {v u : Value} {w : World} (hs : SlN w v f.a) (ht : SlN w u g.a) : Cal Tryz.prog f_impl_SumPosets #[.agg #[.int .i64 (f.n : Int), v], .agg #[.int .i64 (g.n : Int), u]] w fun r w' => Ext w w' ∧ ∃ v', r = .tuple #[.agg #[.int .i64 ((sumFr f g).n : Int), v'], .int .i64 0] ∧ Ow w.heap.size t_i64 w' v' (ints (nats (sumFr f g).a)) := by
  apply c_impl_SumPosets; unfold S_impl_SumPosets
  refine iNew fun b1 w1 hb1 h1 hB1 => ?_
  refine iNew fun b2 w2 hb2 h2 hB2 => ?_
  refine iNew fun b3 w3 hb3 h3 hB3 => ?_
  have hX3 := h1.trans (h2.trans h3)
  have hB1 := (hB1.ext h2).ext h3
  have hB2 := hB2.ext h3
  (repeat first
    | (with_reducible first | refine iFa ?_ | refine iNil ?_ | refine iNilF ?_ | refine iLd (by assumption) ?_ | refine iLenN (by assumption) ?_ | refine iLenI (by assumption) ?_ | refine iLenS (by assumption) ?_ | refine iLenL ?_ | refine iEq ?_ | refine iNe ?_ | refine iLt ?_ | refine iLe ?_ | refine iNot ?_ | refine iPick ?_ | refine iE20 ?_ | refine iE21 ?_ | refine iE30 ?_ | refine iE31 ?_ | refine iE32 ?_ | refine iJn ?_)
    | ((with_reducible show xLd _ _ _); refine iLdB (by assumption) (by first | rfl | simp) ?_) | ((with_reducible refine iLdA (by assumption) ?_ ?_); rfl)
    | ((with_reducible refine iIaNN (by assumption) ?_ (fun pa_ hpa_ => ?_)); omega) | ((with_reducible refine iIaN (by assumption) ?_ (fun pa_ hpa_ => ?_)); omega)
    | ((with_reducible refine iIaI (by assumption) ?_ ?_ (fun pa_ hpa_ => ?_)); omega; omega) | ((with_reducible refine iAdd ?_ ?_); omega) | ((with_reducible refine iSub ?_ ?_); omega)
    | ((with_reducible show xEx _ _ _); refine iEx (by rfl) ?_) | ((with_reducible refine fun (_ : Nat → Value) => ?_); (try simp only [gx])))
  refine iCall ((ok_impl_summed hp hq hf hg hn (hs.ext hX3) (ht.ext hX3)).mono ?_)
  rintro _ w4 ⟨h4, v', rfl, ho'⟩
  (repeat first
    | (with_reducible first | refine iFa ?_ | refine iNil ?_ | refine iNilF ?_ | refine iLd (by assumption) ?_ | refine iLenN (by assumption) ?_ | refine iLenI (by assumption) ?_ | refine iLenS (by assumption) ?_ | refine iLenL ?_ | refine iEq ?_ | refine iNe ?_ | refine iLt ?_ | refine iLe ?_ | refine iNot ?_ | refine iPick ?_ | refine iE20 ?_ | refine iE21 ?_ | refine iE30 ?_ | refine iE31 ?_ | refine iE32 ?_ | refine iJn ?_)
    | ((with_reducible show xLd _ _ _); refine iLdB (by assumption) (by first | rfl | simp) ?_) | ((with_reducible refine iLdA (by assumption) ?_ ?_); rfl)
    | ((with_reducible refine iIaNN (by assumption) ?_ (fun pa_ hpa_ => ?_)); omega) | ((with_reducible refine iIaN (by assumption) ?_ (fun pa_ hpa_ => ?_)); omega)
    | ((with_reducible refine iIaI (by assumption) ?_ ?_ (fun pa_ hpa_ => ?_)); omega; omega) | ((with_reducible refine iAdd ?_ ?_); omega) | ((with_reducible refine iSub ?_ ?_); omega)
    | ((with_reducible show xEx _ _ _); refine iEx (by rfl) ?_) | ((with_reducible refine fun (_ : Nat → Value) => ?_); (try simp only [gx])))
  have hX3s := hX3.size
  have hB34 := hB3.ext h4
  have hne : v'.ownBlock ≠ some b3 := fun e => by
    have := (ho'.blk b3 e).1
    have := hB3.lt
    omega
  have hsz := (h1.trans h2).size
  refine iStAB hB34 rfl rfl (ho'.pair _) fun w21 hu hB21 => ?_
  refine iLdA hB21 rfl ?_
  exact ⟨(hX3.trans h4).upd hu (by omega), _, rfl, (ho'.mono hX3s).upd hu hne⟩
def sumRes (n0 : Int) (l0 : List Int) (n1 : Int) (l1 : List Int) : Bool × Int :=
  if codeS [(n0, l0), (n1, l1)] = 0 then if 6 < n0 + n1 then (false, 3) else
    (decide (tell (frOf n0 l0) (sumFr (frOf n0 l0) (frOf n1 l1)) = 0) && decide (tell (sumFr (frOf n0 l0) (frOf n1 l1)) (frOf n0 l0) = 0), 0) else (false, codeS [(n0, l0), (n1, l1)])
theorem ok_spec_SumAlike {w : World} {v0 v1 : Value} {l0 l1 : List Int} (hs0 : SlI w v0 l0) (hs1 : SlI w v1 l1) (n0 n1 : Int) : Ret Tryz.prog f_spec_SumAlike #[.agg #[.int .i64 n0, v0], .agg #[.int .i64 n1, v1]] w (.tuple #[.bool (sumRes n0 l0 n1 l1).1, .int .i64 (sumRes n0 l0 n1 l1).2]) := by
  apply c_spec_SumAlike; unfold S_spec_SumAlike
  have hX := Ext.refl w
  refine iNew fun b2 w1 hb2 h hB2 => ?_
  have hX := hX.trans h
  refine iNew fun b3 w2 hb3 h hB3 => ?_
  have hX := hX.trans h
  have hB2 := hB2.ext h
  (repeat first
    | (with_reducible first | refine iFa ?_ | refine iNil ?_ | refine iNilF ?_ | refine iLd (by assumption) ?_ | refine iLenN (by assumption) ?_ | refine iLenI (by assumption) ?_ | refine iLenS (by assumption) ?_ | refine iLenL ?_ | refine iEq ?_ | refine iNe ?_ | refine iLt ?_ | refine iLe ?_ | refine iNot ?_ | refine iPick ?_ | refine iE20 ?_ | refine iE21 ?_ | refine iE30 ?_ | refine iE31 ?_ | refine iE32 ?_ | refine iJn ?_)
    | ((with_reducible show xLd _ _ _); refine iLdB (by assumption) (by first | rfl | simp) ?_) | ((with_reducible refine iLdA (by assumption) ?_ ?_); rfl)
    | ((with_reducible refine iIaNN (by assumption) ?_ (fun pa_ hpa_ => ?_)); omega) | ((with_reducible refine iIaN (by assumption) ?_ (fun pa_ hpa_ => ?_)); omega)
    | ((with_reducible refine iIaI (by assumption) ?_ ?_ (fun pa_ hpa_ => ?_)); omega; omega) | ((with_reducible refine iAdd ?_ ?_); omega) | ((with_reducible refine iSub ?_ ?_); omega)
    | ((with_reducible show xEx _ _ _); refine iEx (by rfl) ?_) | ((with_reducible refine fun (_ : Nat → Value) => ?_); (try simp only [gx])))
  refine iBs22 fun bb w3 hbb h hBB => ?_
  have hX := hX.trans h
  have hB2 := hB2.ext h
  have hB3 := hB3.ext h
  refine iRet (ok_spec_l34Code (SlP.two hBB (hs0.ext hX) (hs1.ext hX))) fun w4 h => ?_
  have hX := hX.trans h
  have hB2 := hB2.ext h
  have hB3 := hB3.ext h
  unfold sumRes
  (repeat first
    | (with_reducible first | refine iFa ?_ | refine iNil ?_ | refine iNilF ?_ | refine iLd (by assumption) ?_ | refine iLenN (by assumption) ?_ | refine iLenI (by assumption) ?_ | refine iLenS (by assumption) ?_ | refine iLenL ?_ | refine iEq ?_ | refine iNe ?_ | refine iLt ?_ | refine iLe ?_ | refine iNot ?_ | refine iPick ?_ | refine iE20 ?_ | refine iE21 ?_ | refine iE30 ?_ | refine iE31 ?_ | refine iE32 ?_ | refine iJn ?_)
    | ((with_reducible show xLd _ _ _); refine iLdB (by assumption) (by first | rfl | simp) ?_) | ((with_reducible refine iLdA (by assumption) ?_ ?_); rfl)
    | ((with_reducible refine iIaNN (by assumption) ?_ (fun pa_ hpa_ => ?_)); omega) | ((with_reducible refine iIaN (by assumption) ?_ (fun pa_ hpa_ => ?_)); omega)
    | ((with_reducible refine iIaI (by assumption) ?_ ?_ (fun pa_ hpa_ => ?_)); omega; omega) | ((with_reducible refine iAdd ?_ ?_); omega) | ((with_reducible refine iSub ?_ ?_); omega)
    | ((with_reducible show xEx _ _ _); refine iEx (by rfl) ?_) | ((with_reducible refine fun (_ : Nat → Value) => ?_); (try simp only [gx])))
  refine iCndP (fun hc => ?_) (fun hc => ?_)
  · rw [if_neg hc]; exact ⟨rfl, hX⟩
  · have hc := Classical.not_not.1 hc
    rw [if_pos hc]
    obtain ⟨h0, h1, _, _⟩ := codeS_two hc
    obtain ⟨hP, hn0, hl0⟩ := posetOk_po h0
    obtain ⟨hQ, hn1, hl1⟩ := posetOk_po h1
    generalize frOf n0 l0 = f at *
    generalize frOf n1 l1 = g at *
    subst hn0; subst hl0; subst hn1; subst hl1
    (repeat first
    | (with_reducible first | refine iFa ?_ | refine iNil ?_ | refine iNilF ?_ | refine iLd (by assumption) ?_ | refine iLenN (by assumption) ?_ | refine iLenI (by assumption) ?_ | refine iLenS (by assumption) ?_ | refine iLenL ?_ | refine iEq ?_ | refine iNe ?_ | refine iLt ?_ | refine iLe ?_ | refine iNot ?_ | refine iPick ?_ | refine iE20 ?_ | refine iE21 ?_ | refine iE30 ?_ | refine iE31 ?_ | refine iE32 ?_ | refine iJn ?_)
    | ((with_reducible show xLd _ _ _); refine iLdB (by assumption) (by first | rfl | simp) ?_) | ((with_reducible refine iLdA (by assumption) ?_ ?_); rfl)
    | ((with_reducible refine iIaNN (by assumption) ?_ (fun pa_ hpa_ => ?_)); omega) | ((with_reducible refine iIaN (by assumption) ?_ (fun pa_ hpa_ => ?_)); omega)
    | ((with_reducible refine iIaI (by assumption) ?_ ?_ (fun pa_ hpa_ => ?_)); omega; omega) | ((with_reducible refine iAdd ?_ ?_); omega) | ((with_reducible refine iSub ?_ ?_); omega)
    | ((with_reducible show xEx _ _ _); refine iEx (by rfl) ?_) | ((with_reducible refine fun (_ : Nat → Value) => ?_); (try simp only [gx])))
    refine iCndP (fun h6 => ?_) (fun h6 => ?_)
    · rw [if_pos h6]; exact ⟨rfl, hX⟩
    · rw [if_neg h6]
      (repeat first
    | (with_reducible first | refine iFa ?_ | refine iNil ?_ | refine iNilF ?_ | refine iLd (by assumption) ?_ | refine iLenN (by assumption) ?_ | refine iLenI (by assumption) ?_ | refine iLenS (by assumption) ?_ | refine iLenL ?_ | refine iEq ?_ | refine iNe ?_ | refine iLt ?_ | refine iLe ?_ | refine iNot ?_ | refine iPick ?_ | refine iE20 ?_ | refine iE21 ?_ | refine iE30 ?_ | refine iE31 ?_ | refine iE32 ?_ | refine iJn ?_)
    | ((with_reducible show xLd _ _ _); refine iLdB (by assumption) (by first | rfl | simp) ?_) | ((with_reducible refine iLdA (by assumption) ?_ ?_); rfl)
    | ((with_reducible refine iIaNN (by assumption) ?_ (fun pa_ hpa_ => ?_)); omega) | ((with_reducible refine iIaN (by assumption) ?_ (fun pa_ hpa_ => ?_)); omega)
    | ((with_reducible refine iIaI (by assumption) ?_ ?_ (fun pa_ hpa_ => ?_)); omega; omega) | ((with_reducible refine iAdd ?_ ?_); omega) | ((with_reducible refine iSub ?_ ?_); omega)
    | ((with_reducible show xEx _ _ _); refine iEx (by rfl) ?_) | ((with_reducible refine fun (_ : Nat → Value) => ?_); (try simp only [gx])))
      refine iCall ((ok_spec_l16Join hP.ok hQ.ok (hs0.ext hX) (hs1.ext hX)).mono ?_)
      rintro _ w5 ⟨h, vs, rfl, ho⟩
      have hX := hX.trans h
      have hB2 := hB2.ext h
      have hS := sum_po hP hQ (by omega)
      have hlo5 := hX.size
      refine iNew fun b7 w6 hb7 h hB7 => ?_
      have hne2 : b2 ≠ b7 := by have := hB2.lt; omega
      have hno : vs.ownBlock ≠ some b7 := fun e => by have := (ho.blk b7 e).2; omega
      have hX := hX.trans h
      have hB2 := hB2.ext h
      have ho := ho.ext h
      refine iStAB hB7 rfl rfl (ho.pair _) fun w7 hu hB7' => ?_
      have hX := hX.upd hu (by omega)
      have hB2 := hB2.upd hu hne2
      have ho := ho.upd hu hno
      have hB7 := hB7'
      generalize sumFr f g = q at *
      have e : decide (((tell f q : Nat) : Int) = 0) = decide (tell f q = 0) := decide_eq_decide.2 (by omega)
      have e' : decide (((tell q f : Nat) : Int) = 0) = decide (tell q f = 0) := decide_eq_decide.2 (by omega)
      (repeat first
    | (with_reducible first | refine iFa ?_ | refine iNil ?_ | refine iNilF ?_ | refine iLd (by assumption) ?_ | refine iLenN (by assumption) ?_ | refine iLenI (by assumption) ?_ | refine iLenS (by assumption) ?_ | refine iLenL ?_ | refine iEq ?_ | refine iNe ?_ | refine iLt ?_ | refine iLe ?_ | refine iNot ?_ | refine iPick ?_ | refine iE20 ?_ | refine iE21 ?_ | refine iE30 ?_ | refine iE31 ?_ | refine iE32 ?_ | refine iJn ?_)
    | ((with_reducible show xLd _ _ _); refine iLdB (by assumption) (by first | rfl | simp) ?_) | ((with_reducible refine iLdA (by assumption) ?_ ?_); rfl)
    | ((with_reducible refine iIaNN (by assumption) ?_ (fun pa_ hpa_ => ?_)); omega) | ((with_reducible refine iIaN (by assumption) ?_ (fun pa_ hpa_ => ?_)); omega)
    | ((with_reducible refine iIaI (by assumption) ?_ ?_ (fun pa_ hpa_ => ?_)); omega; omega) | ((with_reducible refine iAdd ?_ ?_); omega) | ((with_reducible refine iSub ?_ ?_); omega)
    | ((with_reducible show xEx _ _ _); refine iEx (by rfl) ?_) | ((with_reducible refine fun (_ : Nat → Value) => ?_); (try simp only [gx])))
      refine iRet (ok_spec_l34Telling hP hS (hs0.ext hX) ho.sl) fun w8 h => ?_
      have hX := hX.trans h
      have hB2 := hB2.ext h
      have hB7 := hB7.ext h
      have ho := ho.ext h
      (repeat first
    | (with_reducible first | refine iFa ?_ | refine iNil ?_ | refine iNilF ?_ | refine iLd (by assumption) ?_ | refine iLenN (by assumption) ?_ | refine iLenI (by assumption) ?_ | refine iLenS (by assumption) ?_ | refine iLenL ?_ | refine iEq ?_ | refine iNe ?_ | refine iLt ?_ | refine iLe ?_ | refine iNot ?_ | refine iPick ?_ | refine iE20 ?_ | refine iE21 ?_ | refine iE30 ?_ | refine iE31 ?_ | refine iE32 ?_ | refine iJn ?_)
    | ((with_reducible show xLd _ _ _); refine iLdB (by assumption) (by first | rfl | simp) ?_) | ((with_reducible refine iLdA (by assumption) ?_ ?_); rfl)
    | ((with_reducible refine iIaNN (by assumption) ?_ (fun pa_ hpa_ => ?_)); omega) | ((with_reducible refine iIaN (by assumption) ?_ (fun pa_ hpa_ => ?_)); omega)
    | ((with_reducible refine iIaI (by assumption) ?_ ?_ (fun pa_ hpa_ => ?_)); omega; omega) | ((with_reducible refine iAdd ?_ ?_); omega) | ((with_reducible refine iSub ?_ ?_); omega)
    | ((with_reducible show xEx _ _ _); refine iEx (by rfl) ?_) | ((with_reducible refine fun (_ : Nat → Value) => ?_); (try simp only [gx])))
      rw [e]
      refine iCnd (fun hb => ?_) (fun hb => ?_)
      · rw [hb, Bool.true_and]
        (repeat first
    | (with_reducible first | refine iFa ?_ | refine iNil ?_ | refine iNilF ?_ | refine iLd (by assumption) ?_ | refine iLenN (by assumption) ?_ | refine iLenI (by assumption) ?_ | refine iLenS (by assumption) ?_ | refine iLenL ?_ | refine iEq ?_ | refine iNe ?_ | refine iLt ?_ | refine iLe ?_ | refine iNot ?_ | refine iPick ?_ | refine iE20 ?_ | refine iE21 ?_ | refine iE30 ?_ | refine iE31 ?_ | refine iE32 ?_ | refine iJn ?_)
    | ((with_reducible show xLd _ _ _); refine iLdB (by assumption) (by first | rfl | simp) ?_) | ((with_reducible refine iLdA (by assumption) ?_ ?_); rfl)
    | ((with_reducible refine iIaNN (by assumption) ?_ (fun pa_ hpa_ => ?_)); omega) | ((with_reducible refine iIaN (by assumption) ?_ (fun pa_ hpa_ => ?_)); omega)
    | ((with_reducible refine iIaI (by assumption) ?_ ?_ (fun pa_ hpa_ => ?_)); omega; omega) | ((with_reducible refine iAdd ?_ ?_); omega) | ((with_reducible refine iSub ?_ ?_); omega)
    | ((with_reducible show xEx _ _ _); refine iEx (by rfl) ?_) | ((with_reducible refine fun (_ : Nat → Value) => ?_); (try simp only [gx])))
        refine iRet (ok_spec_l34Telling hS hP ho.sl (hs0.ext hX)) fun w9 h => ?_
        (repeat first
    | (with_reducible first | refine iFa ?_ | refine iNil ?_ | refine iNilF ?_ | refine iLd (by assumption) ?_ | refine iLenN (by assumption) ?_ | refine iLenI (by assumption) ?_ | refine iLenS (by assumption) ?_ | refine iLenL ?_ | refine iEq ?_ | refine iNe ?_ | refine iLt ?_ | refine iLe ?_ | refine iNot ?_ | refine iPick ?_ | refine iE20 ?_ | refine iE21 ?_ | refine iE30 ?_ | refine iE31 ?_ | refine iE32 ?_ | refine iJn ?_)
    | ((with_reducible show xLd _ _ _); refine iLdB (by assumption) (by first | rfl | simp) ?_) | ((with_reducible refine iLdA (by assumption) ?_ ?_); rfl)
    | ((with_reducible refine iIaNN (by assumption) ?_ (fun pa_ hpa_ => ?_)); omega) | ((with_reducible refine iIaN (by assumption) ?_ (fun pa_ hpa_ => ?_)); omega)
    | ((with_reducible refine iIaI (by assumption) ?_ ?_ (fun pa_ hpa_ => ?_)); omega; omega) | ((with_reducible refine iAdd ?_ ?_); omega) | ((with_reducible refine iSub ?_ ?_); omega)
    | ((with_reducible show xEx _ _ _); refine iEx (by rfl) ?_) | ((with_reducible refine fun (_ : Nat → Value) => ?_); (try simp only [gx])))
        rw [e']
        exact ⟨rfl, hX.trans h⟩
      · rw [hb, Bool.false_and]
        (repeat first
    | (with_reducible first | refine iFa ?_ | refine iNil ?_ | refine iNilF ?_ | refine iLd (by assumption) ?_ | refine iLenN (by assumption) ?_ | refine iLenI (by assumption) ?_ | refine iLenS (by assumption) ?_ | refine iLenL ?_ | refine iEq ?_ | refine iNe ?_ | refine iLt ?_ | refine iLe ?_ | refine iNot ?_ | refine iPick ?_ | refine iE20 ?_ | refine iE21 ?_ | refine iE30 ?_ | refine iE31 ?_ | refine iE32 ?_ | refine iJn ?_)
    | ((with_reducible show xLd _ _ _); refine iLdB (by assumption) (by first | rfl | simp) ?_) | ((with_reducible refine iLdA (by assumption) ?_ ?_); rfl)
    | ((with_reducible refine iIaNN (by assumption) ?_ (fun pa_ hpa_ => ?_)); omega) | ((with_reducible refine iIaN (by assumption) ?_ (fun pa_ hpa_ => ?_)); omega)
    | ((with_reducible refine iIaI (by assumption) ?_ ?_ (fun pa_ hpa_ => ?_)); omega; omega) | ((with_reducible refine iAdd ?_ ?_); omega) | ((with_reducible refine iSub ?_ ?_); omega)
    | ((with_reducible show xEx _ _ _); refine iEx (by rfl) ?_) | ((with_reducible refine fun (_ : Nat → Value) => ?_); (try simp only [gx])))
        exact ⟨by trivial, hX⟩
theorem ok_impl_SumAlike {w : World} {v0 v1 : Value} {l0 l1 : List Int} (hs0 : SlI w v0 l0) (hs1 : SlI w v1 l1) (n0 n1 : Int) : Ret Tryz.prog f_impl_SumAlike #[.agg #[.int .i64 n0, v0], .agg #[.int .i64 n1, v1]] w (.tuple #[.bool (sumRes n0 l0 n1 l1).1, .int .i64 (sumRes n0 l0 n1 l1).2]) := by
  apply c_impl_SumAlike; unfold S_impl_SumAlike
  have hX := Ext.refl w
  refine iNew fun b2 w1 hb2 h hB2 => ?_
  have hX := hX.trans h
  refine iNew fun b3 w2 hb3 h hB3 => ?_
  have hX := hX.trans h
  have hB2 := hB2.ext h
  (repeat first
    | (with_reducible first | refine iFa ?_ | refine iNil ?_ | refine iNilF ?_ | refine iLd (by assumption) ?_ | refine iLenN (by assumption) ?_ | refine iLenI (by assumption) ?_ | refine iLenS (by assumption) ?_ | refine iLenL ?_ | refine iEq ?_ | refine iNe ?_ | refine iLt ?_ | refine iLe ?_ | refine iNot ?_ | refine iPick ?_ | refine iE20 ?_ | refine iE21 ?_ | refine iE30 ?_ | refine iE31 ?_ | refine iE32 ?_ | refine iJn ?_)
    | ((with_reducible show xLd _ _ _); refine iLdB (by assumption) (by first | rfl | simp) ?_) | ((with_reducible refine iLdA (by assumption) ?_ ?_); rfl)
    | ((with_reducible refine iIaNN (by assumption) ?_ (fun pa_ hpa_ => ?_)); omega) | ((with_reducible refine iIaN (by assumption) ?_ (fun pa_ hpa_ => ?_)); omega)
    | ((with_reducible refine iIaI (by assumption) ?_ ?_ (fun pa_ hpa_ => ?_)); omega; omega) | ((with_reducible refine iAdd ?_ ?_); omega) | ((with_reducible refine iSub ?_ ?_); omega)
    | ((with_reducible show xEx _ _ _); refine iEx (by rfl) ?_) | ((with_reducible refine fun (_ : Nat → Value) => ?_); (try simp only [gx])))
  refine iBs22 fun bb w3 hbb h hBB => ?_
  have hX := hX.trans h
  have hB2 := hB2.ext h
  have hB3 := hB3.ext h
  refine iRet (ok_impl_sixCode (SlP.two hBB (hs0.ext hX) (hs1.ext hX))) fun w4 h => ?_
  have hX := hX.trans h
  have hB2 := hB2.ext h
  have hB3 := hB3.ext h
  unfold sumRes
  (repeat first
    | (with_reducible first | refine iFa ?_ | refine iNil ?_ | refine iNilF ?_ | refine iLd (by assumption) ?_ | refine iLenN (by assumption) ?_ | refine iLenI (by assumption) ?_ | refine iLenS (by assumption) ?_ | refine iLenL ?_ | refine iEq ?_ | refine iNe ?_ | refine iLt ?_ | refine iLe ?_ | refine iNot ?_ | refine iPick ?_ | refine iE20 ?_ | refine iE21 ?_ | refine iE30 ?_ | refine iE31 ?_ | refine iE32 ?_ | refine iJn ?_)
    | ((with_reducible show xLd _ _ _); refine iLdB (by assumption) (by first | rfl | simp) ?_) | ((with_reducible refine iLdA (by assumption) ?_ ?_); rfl)
    | ((with_reducible refine iIaNN (by assumption) ?_ (fun pa_ hpa_ => ?_)); omega) | ((with_reducible refine iIaN (by assumption) ?_ (fun pa_ hpa_ => ?_)); omega)
    | ((with_reducible refine iIaI (by assumption) ?_ ?_ (fun pa_ hpa_ => ?_)); omega; omega) | ((with_reducible refine iAdd ?_ ?_); omega) | ((with_reducible refine iSub ?_ ?_); omega)
    | ((with_reducible show xEx _ _ _); refine iEx (by rfl) ?_) | ((with_reducible refine fun (_ : Nat → Value) => ?_); (try simp only [gx])))
  refine iCndP (fun hc => ?_) (fun hc => ?_)
  · rw [if_neg hc]; exact ⟨rfl, hX⟩
  · have hc := Classical.not_not.1 hc
    rw [if_pos hc]
    obtain ⟨h0, h1, _, _⟩ := codeS_two hc
    obtain ⟨hP, hn0, hl0⟩ := posetOk_po h0
    obtain ⟨hQ, hn1, hl1⟩ := posetOk_po h1
    generalize frOf n0 l0 = f at *
    generalize frOf n1 l1 = g at *
    subst hn0; subst hl0; subst hn1; subst hl1
    (repeat first
    | (with_reducible first | refine iFa ?_ | refine iNil ?_ | refine iNilF ?_ | refine iLd (by assumption) ?_ | refine iLenN (by assumption) ?_ | refine iLenI (by assumption) ?_ | refine iLenS (by assumption) ?_ | refine iLenL ?_ | refine iEq ?_ | refine iNe ?_ | refine iLt ?_ | refine iLe ?_ | refine iNot ?_ | refine iPick ?_ | refine iE20 ?_ | refine iE21 ?_ | refine iE30 ?_ | refine iE31 ?_ | refine iE32 ?_ | refine iJn ?_)
    | ((with_reducible show xLd _ _ _); refine iLdB (by assumption) (by first | rfl | simp) ?_) | ((with_reducible refine iLdA (by assumption) ?_ ?_); rfl)
    | ((with_reducible refine iIaNN (by assumption) ?_ (fun pa_ hpa_ => ?_)); omega) | ((with_reducible refine iIaN (by assumption) ?_ (fun pa_ hpa_ => ?_)); omega)
    | ((with_reducible refine iIaI (by assumption) ?_ ?_ (fun pa_ hpa_ => ?_)); omega; omega) | ((with_reducible refine iAdd ?_ ?_); omega) | ((with_reducible refine iSub ?_ ?_); omega)
    | ((with_reducible show xEx _ _ _); refine iEx (by rfl) ?_) | ((with_reducible refine fun (_ : Nat → Value) => ?_); (try simp only [gx])))
    refine iCndP (fun h6 => ?_) (fun h6 => ?_)
    · rw [if_pos h6]; exact ⟨rfl, hX⟩
    · rw [if_neg h6]
      (repeat first
    | (with_reducible first | refine iFa ?_ | refine iNil ?_ | refine iNilF ?_ | refine iLd (by assumption) ?_ | refine iLenN (by assumption) ?_ | refine iLenI (by assumption) ?_ | refine iLenS (by assumption) ?_ | refine iLenL ?_ | refine iEq ?_ | refine iNe ?_ | refine iLt ?_ | refine iLe ?_ | refine iNot ?_ | refine iPick ?_ | refine iE20 ?_ | refine iE21 ?_ | refine iE30 ?_ | refine iE31 ?_ | refine iE32 ?_ | refine iJn ?_)
    | ((with_reducible show xLd _ _ _); refine iLdB (by assumption) (by first | rfl | simp) ?_) | ((with_reducible refine iLdA (by assumption) ?_ ?_); rfl)
    | ((with_reducible refine iIaNN (by assumption) ?_ (fun pa_ hpa_ => ?_)); omega) | ((with_reducible refine iIaN (by assumption) ?_ (fun pa_ hpa_ => ?_)); omega)
    | ((with_reducible refine iIaI (by assumption) ?_ ?_ (fun pa_ hpa_ => ?_)); omega; omega) | ((with_reducible refine iAdd ?_ ?_); omega) | ((with_reducible refine iSub ?_ ?_); omega)
    | ((with_reducible show xEx _ _ _); refine iEx (by rfl) ?_) | ((with_reducible refine fun (_ : Nat → Value) => ?_); (try simp only [gx])))
      refine iCall ((ok_impl_SumPosets h0 h1 hP.ok hQ.ok (by omega) (hs0.ext hX) (hs1.ext hX)).mono ?_)
      rintro _ w5 ⟨h, vs, rfl, ho⟩
      have hX := hX.trans h
      have hB2 := hB2.ext h
      have hS := sum_po hP hQ (by omega)
      have hlo5 := hX.size
      (repeat first
    | (with_reducible first | refine iFa ?_ | refine iNil ?_ | refine iNilF ?_ | refine iLd (by assumption) ?_ | refine iLenN (by assumption) ?_ | refine iLenI (by assumption) ?_ | refine iLenS (by assumption) ?_ | refine iLenL ?_ | refine iEq ?_ | refine iNe ?_ | refine iLt ?_ | refine iLe ?_ | refine iNot ?_ | refine iPick ?_ | refine iE20 ?_ | refine iE21 ?_ | refine iE30 ?_ | refine iE31 ?_ | refine iE32 ?_ | refine iJn ?_)
    | ((with_reducible show xLd _ _ _); refine iLdB (by assumption) (by first | rfl | simp) ?_) | ((with_reducible refine iLdA (by assumption) ?_ ?_); rfl)
    | ((with_reducible refine iIaNN (by assumption) ?_ (fun pa_ hpa_ => ?_)); omega) | ((with_reducible refine iIaN (by assumption) ?_ (fun pa_ hpa_ => ?_)); omega)
    | ((with_reducible refine iIaI (by assumption) ?_ ?_ (fun pa_ hpa_ => ?_)); omega; omega) | ((with_reducible refine iAdd ?_ ?_); omega) | ((with_reducible refine iSub ?_ ?_); omega)
    | ((with_reducible show xEx _ _ _); refine iEx (by rfl) ?_) | ((with_reducible refine fun (_ : Nat → Value) => ?_); (try simp only [gx])))
      refine iNew fun b7 w6 hb7 h hB7 => ?_
      have hne2 : b2 ≠ b7 := by have := hB2.lt; omega
      have hno : vs.ownBlock ≠ some b7 := fun e => by have := (ho.blk b7 e).2; omega
      have hX := hX.trans h
      have hB2 := hB2.ext h
      have ho := ho.ext h
      refine iStAB hB7 rfl rfl (ho.pair _) fun w7 hu hB7' => ?_
      have hX := hX.upd hu (by omega)
      have hB2 := hB2.upd hu hne2
      have ho := ho.upd hu hno
      have hB7 := hB7'
      generalize sumFr f g = q at *
      (repeat first
    | (with_reducible first | refine iFa ?_ | refine iNil ?_ | refine iNilF ?_ | refine iLd (by assumption) ?_ | refine iLenN (by assumption) ?_ | refine iLenI (by assumption) ?_ | refine iLenS (by assumption) ?_ | refine iLenL ?_ | refine iEq ?_ | refine iNe ?_ | refine iLt ?_ | refine iLe ?_ | refine iNot ?_ | refine iPick ?_ | refine iE20 ?_ | refine iE21 ?_ | refine iE30 ?_ | refine iE31 ?_ | refine iE32 ?_ | refine iJn ?_)
    | ((with_reducible show xLd _ _ _); refine iLdB (by assumption) (by first | rfl | simp) ?_) | ((with_reducible refine iLdA (by assumption) ?_ ?_); rfl)
    | ((with_reducible refine iIaNN (by assumption) ?_ (fun pa_ hpa_ => ?_)); omega) | ((with_reducible refine iIaN (by assumption) ?_ (fun pa_ hpa_ => ?_)); omega)
    | ((with_reducible refine iIaI (by assumption) ?_ ?_ (fun pa_ hpa_ => ?_)); omega; omega) | ((with_reducible refine iAdd ?_ ?_); omega) | ((with_reducible refine iSub ?_ ?_); omega)
    | ((with_reducible show xEx _ _ _); refine iEx (by rfl) ?_) | ((with_reducible refine fun (_ : Nat → Value) => ?_); (try simp only [gx])))
      refine iRet (ok_impl_areAlike hS hP ho.sl (hs0.ext hX)) fun w8 h => ?_
      rw [Bool.and_comm]
      exact ⟨rfl, hX.trans h⟩
end Go.Proofs.YtoolpnkcmlebkaaGreat
