/- Contracts: the reference's search for p-morphisms from its start (l21Find). Conditions: none. -/
import Derived.Test.YtoolpnkcmlebkaaGreatC23
namespace Go.Vc
/-- The order, as far as it is made. -/
def ordPart (f : Fr) (d k : Nat) : List Nat := ordK f d ++ (List.range k).filter fun x => decide (dep f x = d + 1)
theorem ordPart_succ (f : Fr) (d k : Nat) : ordPart f d (k + 1) = if dep f k = d + 1 then ordPart f d k ++ [k] else ordPart f d k := by
  unfold ordPart
  rw [List.range_succ, List.filter_append]
  by_cases h : dep f k = d + 1
  · rw [if_pos h, List.append_assoc]; simp [h]
  · rw [if_neg h]; simp [h]
theorem ordPart_end (f : Fr) (d : Nat) : ordPart f d f.n = ordK f (d + 1) := by
  unfold ordPart ordK
  rw [List.range_succ, List.flatMap_append]; simp
theorem ordPart_len (f : Fr) (d k : Nat) : (ordPart f d k).length ≤ d * f.n + k := by
  unfold ordPart
  rw [List.length_append]
  have h1 : (ordK f d).length ≤ d * f.n := by
    unfold ordK
    induction d with
    | zero => simp
    | succ d ih =>
      rw [List.range_succ, List.flatMap_append, List.length_append, Nat.succ_mul]
      have : ((List.range f.n).filter fun x => decide (dep f x = d + 1)).length ≤ f.n := by
        have := List.length_filter_le (fun x => decide (dep f x = d + 1)) (List.range f.n)
        rwa [List.length_range] at this
      simp only [List.flatMap_cons, List.flatMap_nil, List.append_nil]
      omega
  have h2 := List.length_filter_le (fun x => decide (dep f x = d + 1)) (List.range k)
  rw [List.length_range] at h2
  omega
end Go.Vc
namespace Go.Proofs.YtoolpnkcmlebkaaGreat
open Go.Vc
theorem ok_spec_l21Find {f g : Fr} (hp : Po f) (hg : g.ok) {onto : Bool} {fix : List Int} (hfl : fix.length = f.n) {w : World} {fa ga vfix : Value} (hfa : SlN w fa f.a) (hga : SlN w ga g.a) (hfix : SlI w vfix fix) {most : Nat} (hmost : most ≤ 1000000) :
    Cal Tryz.prog f_spec_l21Find #[.agg #[.int .i64 (f.n : Int), fa], .agg #[.int .i64 (g.n : Int), ga], vfix, .bool onto, .int .i64 (most : Int)] w fun v w' => Ext w w' ∧ ∃ vs,
      Ow w.heap.size t_Si64 w' v vs ∧ OwL w.heap.size t_i64 w' vs ((findP f g fix onto most).map ints) := by
  apply c_spec_l21Find; unfold S_spec_l21Find
  have hf8 := hp.ok.1
  have hfal := hp.ok.2.1
  refine iNew fun b1 w1 hb1 h1 hB1 => ?_
  refine iNew fun b2 w2 hb2 h2 hB2 => ?_
  have hB1 := hB1.ext h2
  (repeat first
    | (with_reducible first | refine iFa ?_ | refine iNil ?_ | refine iNilF ?_ | refine iLd (by assumption) ?_ | refine iLenN (by assumption) ?_ | refine iLenI (by assumption) ?_ | refine iLenS (by assumption) ?_ | refine iLenL ?_ | refine iEq ?_ | refine iNe ?_ | refine iLt ?_ | refine iLe ?_ | refine iNot ?_ | refine iPick ?_ | refine iE20 ?_ | refine iE21 ?_ | refine iE30 ?_ | refine iE31 ?_ | refine iE32 ?_ | refine iJn ?_)
    | ((with_reducible show xLd _ _ _); refine iLdB (by assumption) (by first | rfl | simp) ?_) | ((with_reducible refine iLdA (by assumption) ?_ ?_); rfl)
    | ((with_reducible refine iIaNN (by assumption) ?_ (fun pa_ hpa_ => ?_)); omega) | ((with_reducible refine iIaN (by assumption) ?_ (fun pa_ hpa_ => ?_)); omega)
    | ((with_reducible refine iIaI (by assumption) ?_ ?_ (fun pa_ hpa_ => ?_)); omega; omega) | ((with_reducible refine iAdd ?_ ?_); omega) | ((with_reducible refine iSub ?_ ?_); omega)
    | ((with_reducible show xEx _ _ _); refine iEx (by rfl) ?_) | ((with_reducible refine fun (_ : Nat → Value) => ?_); (try simp only [gx])))
  refine iBs0 fun v22 w3 _ h3 ho22 => ?_
  obtain ⟨va, vn, vc, rfl⟩ := ho22.shape
  obtain ⟨xa, xc, rfl, hsx⟩ := id hfix
  refine iBuild (cs := #[.int .i64 (f.n : Int), fa, .int .i64 (g.n : Int), ga, .slice none 0 0, .slice xa (ints fix).length xc, .bool onto, .int .i64 (most : Int), .slice va vn vc]) (by simp [Instr.fill, Value.cells]) ?_
  refine iNew fun b w4 hb4 h4 hB => ?_
  have hX2 : Ext w w2 := h1.trans h2
  have hX4 : Ext w w4 := hX2.trans (h3.trans h4)
  have hB1 := (hB1.ext h3).ext h4
  have hs4 := hfa.ext hX4
  (repeat first
    | (with_reducible first | refine iFa ?_ | refine iNil ?_ | refine iNilF ?_ | refine iLd (by assumption) ?_ | refine iLenN (by assumption) ?_ | refine iLenI (by assumption) ?_ | refine iLenS (by assumption) ?_ | refine iLenL ?_ | refine iEq ?_ | refine iNe ?_ | refine iLt ?_ | refine iLe ?_ | refine iNot ?_ | refine iPick ?_ | refine iE20 ?_ | refine iE21 ?_ | refine iE30 ?_ | refine iE31 ?_ | refine iE32 ?_ | refine iJn ?_)
    | ((with_reducible show xLd _ _ _); refine iLdB (by assumption) (by first | rfl | simp) ?_) | ((with_reducible refine iLdA (by assumption) ?_ ?_); rfl)
    | ((with_reducible refine iIaNN (by assumption) ?_ (fun pa_ hpa_ => ?_)); omega) | ((with_reducible refine iIaN (by assumption) ?_ (fun pa_ hpa_ => ?_)); omega)
    | ((with_reducible refine iIaI (by assumption) ?_ ?_ (fun pa_ hpa_ => ?_)); omega; omega) | ((with_reducible refine iAdd ?_ ?_); omega) | ((with_reducible refine iSub ?_ ?_); omega)
    | ((with_reducible show xEx _ _ _); refine iEx (by rfl) ?_) | ((with_reducible refine fun (_ : Nat → Value) => ?_); (try simp only [gx])))
  refine iCall ((ok_spec_l16Depths hp hs4).mono ?_)
  rintro vd w5 ⟨h5, hod⟩
  refine iBs0 fun v27 w6 _ h6 ho27 => ?_
  have hX6 : Ext w w6 := hX4.trans (h5.trans h6)
  have hod6 := hod.ext h6
  have hB1 := (hB1.ext h5).ext h6
  obtain ⟨e1, he1, hB1⟩ : ∃ e, t_i64 ≠ e ∧ Blk e w6 b1 [.int .i64 (f.n : Int), fa] := ⟨_, by decide, hB1⟩
  obtain ⟨e, he, he', hB⟩ : ∃ e, t_i64 ≠ e ∧ t_Si64 ≠ e ∧ Blk e w6 b [.int .i64 (f.n : Int), fa, .int .i64 (g.n : Int), ga, .slice none 0 0, .slice xa (ints fix).length xc, .bool onto, .int .i64 (most : Int), .slice va vn vc] := ⟨_, by decide, by decide, (hB.ext h5).ext h6⟩
  have hb1b : b1 ≠ b := by
    have := (h3.trans h4).size
    have := h3.size; have := h2.size
    omega
  have hbw : w.heap.size ≤ b := by have := (hX2.trans h3).size; omega
  have hb6 := hB.lt
  have hbb6 := hB1.lt
  have hsz6 := hX6.size
  refine iLp (fun d : Nat => [.int .i64 ((d + 1 : Nat) : Int)]) (fun d w' => d ≤ f.n ∧ Ch (fun k => k = b) w6 w' ∧ ∃ vo, Blk e w' b [.int .i64 (f.n : Int), fa, .int .i64 (g.n : Int), ga, vo, .slice xa (ints fix).length xc, .bool onto, .int .i64 (most : Int), .slice va vn vc] ∧ Ow w6.heap.size t_i64 w' vo (ints (nats (ordK f d)))) (fun d => f.n - d) 0 rfl ⟨Nat.zero_le _, (Ext.refl w6).ch, _, hB, Ow.nil _ _ _⟩ ?_
  rintro d w8 Kn ⟨hd, hch, vo, hB8, hoo⟩ hKn
  have hB18 := hB1.ch hch (fun h => hb1b h)
  (repeat first
    | (with_reducible first | refine iFa ?_ | refine iNil ?_ | refine iNilF ?_ | refine iLd (by assumption) ?_ | refine iLenN (by assumption) ?_ | refine iLenI (by assumption) ?_ | refine iLenS (by assumption) ?_ | refine iLenL ?_ | refine iEq ?_ | refine iNe ?_ | refine iLt ?_ | refine iLe ?_ | refine iNot ?_ | refine iPick ?_ | refine iE20 ?_ | refine iE21 ?_ | refine iE30 ?_ | refine iE31 ?_ | refine iE32 ?_ | refine iJn ?_)
    | ((with_reducible show xLd _ _ _); refine iLdB (by assumption) (by first | rfl | simp) ?_) | ((with_reducible refine iLdA (by assumption) ?_ ?_); rfl)
    | ((with_reducible refine iIaNN (by assumption) ?_ (fun pa_ hpa_ => ?_)); omega) | ((with_reducible refine iIaN (by assumption) ?_ (fun pa_ hpa_ => ?_)); omega)
    | ((with_reducible refine iIaI (by assumption) ?_ ?_ (fun pa_ hpa_ => ?_)); omega; omega) | ((with_reducible refine iAdd ?_ ?_); omega) | ((with_reducible refine iSub ?_ ?_); omega)
    | ((with_reducible show xEx _ _ _); refine iEx (by rfl) ?_) | ((with_reducible refine fun (_ : Nat → Value) => ?_); (try simp only [gx])))
  refine iCndP (fun h7 => ?_) (fun h7 => ?_)
  · have hd1 : d < f.n := by omega
    refine iLp (fun k : Nat => [.int .i64 (k : Int)]) (fun k w' => k ≤ f.n ∧ Ch (fun k => k = b) w6 w' ∧ ∃ vo, Blk e w' b [.int .i64 (f.n : Int), fa, .int .i64 (g.n : Int), ga, vo, .slice xa (ints fix).length xc, .bool onto, .int .i64 (most : Int), .slice va vn vc] ∧ Ow w6.heap.size t_i64 w' vo (ints (nats (ordPart f d k)))) (fun k => f.n - k) 0 rfl ⟨Nat.zero_le _, hch, vo, hB8, by rw [show ordPart f d 0 = ordK f d by simp [ordPart]]; exact hoo⟩ ?_
    rintro k w10 Kn10 ⟨hk, hch10, vo', hB10, hoo10⟩ hKn10
    have hB110 := hB1.ch hch10 (fun h => hb1b h)
    have hod10 : SlN w10 vd ((List.range f.n).map (dep f)) := (hod6.ch hch10 (fun c hc h => hod6.ne_blk hB he (by rw [hc, h]))).sl
    have hdl : ((List.range f.n).map (dep f)).length = f.n := by rw [List.length_map, List.length_range]
    (repeat first
    | (with_reducible first | refine iFa ?_ | refine iNil ?_ | refine iNilF ?_ | refine iLd (by assumption) ?_ | refine iLenN (by assumption) ?_ | refine iLenI (by assumption) ?_ | refine iLenS (by assumption) ?_ | refine iLenL ?_ | refine iEq ?_ | refine iNe ?_ | refine iLt ?_ | refine iLe ?_ | refine iNot ?_ | refine iPick ?_ | refine iE20 ?_ | refine iE21 ?_ | refine iE30 ?_ | refine iE31 ?_ | refine iE32 ?_ | refine iJn ?_)
    | ((with_reducible show xLd _ _ _); refine iLdB (by assumption) (by first | rfl | simp) ?_) | ((with_reducible refine iLdA (by assumption) ?_ ?_); rfl)
    | ((with_reducible refine iIaNN (by assumption) ?_ (fun pa_ hpa_ => ?_)); omega) | ((with_reducible refine iIaN (by assumption) ?_ (fun pa_ hpa_ => ?_)); omega)
    | ((with_reducible refine iIaI (by assumption) ?_ ?_ (fun pa_ hpa_ => ?_)); omega; omega) | ((with_reducible refine iAdd ?_ ?_); omega) | ((with_reducible refine iSub ?_ ?_); omega)
    | ((with_reducible show xEx _ _ _); refine iEx (by rfl) ?_) | ((with_reducible refine fun (_ : Nat → Value) => ?_); (try simp only [gx])))
    refine iCndP (fun h8 => ?_) (fun h8 => ?_)
    · have hk1 : k < f.n := by omega
      have hsucc := ordPart_succ f d k
      have hgd : ((List.range f.n).map (dep f)).getD k 0 = dep f k := by simp [List.getD_eq_getElem?_getD, hk1]
      (repeat first
    | (with_reducible first | refine iFa ?_ | refine iNil ?_ | refine iNilF ?_ | refine iLd (by assumption) ?_ | refine iLenN (by assumption) ?_ | refine iLenI (by assumption) ?_ | refine iLenS (by assumption) ?_ | refine iLenL ?_ | refine iEq ?_ | refine iNe ?_ | refine iLt ?_ | refine iLe ?_ | refine iNot ?_ | refine iPick ?_ | refine iE20 ?_ | refine iE21 ?_ | refine iE30 ?_ | refine iE31 ?_ | refine iE32 ?_ | refine iJn ?_)
    | ((with_reducible show xLd _ _ _); refine iLdB (by assumption) (by first | rfl | simp) ?_) | ((with_reducible refine iLdA (by assumption) ?_ ?_); rfl)
    | ((with_reducible refine iIaNN (by assumption) ?_ (fun pa_ hpa_ => ?_)); omega) | ((with_reducible refine iIaN (by assumption) ?_ (fun pa_ hpa_ => ?_)); omega)
    | ((with_reducible refine iIaI (by assumption) ?_ ?_ (fun pa_ hpa_ => ?_)); omega; omega) | ((with_reducible refine iAdd ?_ ?_); omega) | ((with_reducible refine iSub ?_ ?_); omega)
    | ((with_reducible show xEx _ _ _); refine iEx (by rfl) ?_) | ((with_reducible refine fun (_ : Nat → Value) => ?_); (try simp only [gx])))
      rw [hgd]
      refine iCndP (fun h9 => ?_) (fun h9 => ?_)
      · rw [if_pos (show dep f k = d + 1 by omega)] at hsucc
        (repeat first
    | (with_reducible first | refine iFa ?_ | refine iNil ?_ | refine iNilF ?_ | refine iLd (by assumption) ?_ | refine iLenN (by assumption) ?_ | refine iLenI (by assumption) ?_ | refine iLenS (by assumption) ?_ | refine iLenL ?_ | refine iEq ?_ | refine iNe ?_ | refine iLt ?_ | refine iLe ?_ | refine iNot ?_ | refine iPick ?_ | refine iE20 ?_ | refine iE21 ?_ | refine iE30 ?_ | refine iE31 ?_ | refine iE32 ?_ | refine iJn ?_)
    | ((with_reducible show xLd _ _ _); refine iLdB (by assumption) (by first | rfl | simp) ?_) | ((with_reducible refine iLdA (by assumption) ?_ ?_); rfl)
    | ((with_reducible refine iIaNN (by assumption) ?_ (fun pa_ hpa_ => ?_)); omega) | ((with_reducible refine iIaN (by assumption) ?_ (fun pa_ hpa_ => ?_)); omega)
    | ((with_reducible refine iIaI (by assumption) ?_ ?_ (fun pa_ hpa_ => ?_)); omega; omega) | ((with_reducible refine iAdd ?_ ?_); omega) | ((with_reducible refine iSub ?_ ?_); omega)
    | ((with_reducible show xEx _ _ _); refine iEx (by rfl) ?_) | ((with_reducible refine fun (_ : Nat → Value) => ?_); (try simp only [gx])))
        have hil : (ints (nats (ordPart f d k))).length ≤ d * f.n + k := by rw [ints_length, nats_length]; exact ordPart_len f d k
        have hdn : d * f.n ≤ 8 * 8 := Nat.mul_le_mul (by omega) (by omega)
        refine iApp1A u_Si64 i_Si64 rfl hoo10 rfl (by omega) (by omega) hch10.size fun v' w12 ho' hg' hat => ?_
        rw [ints_snoc, ← hsucc] at ho'
        have hch12 := hch10.trans (grown_ch (S := fun c => vo'.ownBlock = some c) hg' (fun k hk => hk)) (fun c hc => .inr (hoo10.blk c hc).1)
        have hB12 := hB10.grown hg' (hoo10.ne_blk hB10 he)
        (repeat first
    | (with_reducible first | refine iFa ?_ | refine iNil ?_ | refine iNilF ?_ | refine iLd (by assumption) ?_ | refine iLenN (by assumption) ?_ | refine iLenI (by assumption) ?_ | refine iLenS (by assumption) ?_ | refine iLenL ?_ | refine iEq ?_ | refine iNe ?_ | refine iLt ?_ | refine iLe ?_ | refine iNot ?_ | refine iPick ?_ | refine iE20 ?_ | refine iE21 ?_ | refine iE30 ?_ | refine iE31 ?_ | refine iE32 ?_ | refine iJn ?_)
    | ((with_reducible show xLd _ _ _); refine iLdB (by assumption) (by first | rfl | simp) ?_) | ((with_reducible refine iLdA (by assumption) ?_ ?_); rfl)
    | ((with_reducible refine iIaNN (by assumption) ?_ (fun pa_ hpa_ => ?_)); omega) | ((with_reducible refine iIaN (by assumption) ?_ (fun pa_ hpa_ => ?_)); omega)
    | ((with_reducible refine iIaI (by assumption) ?_ ?_ (fun pa_ hpa_ => ?_)); omega; omega) | ((with_reducible refine iAdd ?_ ?_); omega) | ((with_reducible refine iSub ?_ ?_); omega)
    | ((with_reducible show xEx _ _ _); refine iEx (by rfl) ?_) | ((with_reducible refine fun (_ : Nat → Value) => ?_); (try simp only [gx])))
        refine iStB hB12 (by simp) ho'.cell fun hB13 => ?_
        have hu := Upd.setCell w12 b 4 v'
        have hch13 := hch12.trans (hu.ch (S := fun k => k = b) rfl) (fun k hk => .inl hk)
        have ho13 := ho'.upd hu (ho'.ne_blk hB12 he)
        (repeat first
    | (with_reducible first | refine iFa ?_ | refine iNil ?_ | refine iNilF ?_ | refine iLd (by assumption) ?_ | refine iLenN (by assumption) ?_ | refine iLenI (by assumption) ?_ | refine iLenS (by assumption) ?_ | refine iLenL ?_ | refine iEq ?_ | refine iNe ?_ | refine iLt ?_ | refine iLe ?_ | refine iNot ?_ | refine iPick ?_ | refine iE20 ?_ | refine iE21 ?_ | refine iE30 ?_ | refine iE31 ?_ | refine iE32 ?_ | refine iJn ?_)
    | ((with_reducible show xLd _ _ _); refine iLdB (by assumption) (by first | rfl | simp) ?_) | ((with_reducible refine iLdA (by assumption) ?_ ?_); rfl)
    | ((with_reducible refine iIaNN (by assumption) ?_ (fun pa_ hpa_ => ?_)); omega) | ((with_reducible refine iIaN (by assumption) ?_ (fun pa_ hpa_ => ?_)); omega)
    | ((with_reducible refine iIaI (by assumption) ?_ ?_ (fun pa_ hpa_ => ?_)); omega; omega) | ((with_reducible refine iAdd ?_ ?_); omega) | ((with_reducible refine iSub ?_ ?_); omega)
    | ((with_reducible show xEx _ _ _); refine iEx (by rfl) ?_) | ((with_reducible refine fun (_ : Nat → Value) => ?_); (try simp only [gx])))
        exact hKn10 (k + 1) _ ⟨by omega, hch13, v', hB13, ho13⟩ (by omega)
      · rw [if_neg (show ¬ dep f k = d + 1 by omega)] at hsucc
        (repeat first
    | (with_reducible first | refine iFa ?_ | refine iNil ?_ | refine iNilF ?_ | refine iLd (by assumption) ?_ | refine iLenN (by assumption) ?_ | refine iLenI (by assumption) ?_ | refine iLenS (by assumption) ?_ | refine iLenL ?_ | refine iEq ?_ | refine iNe ?_ | refine iLt ?_ | refine iLe ?_ | refine iNot ?_ | refine iPick ?_ | refine iE20 ?_ | refine iE21 ?_ | refine iE30 ?_ | refine iE31 ?_ | refine iE32 ?_ | refine iJn ?_)
    | ((with_reducible show xLd _ _ _); refine iLdB (by assumption) (by first | rfl | simp) ?_) | ((with_reducible refine iLdA (by assumption) ?_ ?_); rfl)
    | ((with_reducible refine iIaNN (by assumption) ?_ (fun pa_ hpa_ => ?_)); omega) | ((with_reducible refine iIaN (by assumption) ?_ (fun pa_ hpa_ => ?_)); omega)
    | ((with_reducible refine iIaI (by assumption) ?_ ?_ (fun pa_ hpa_ => ?_)); omega; omega) | ((with_reducible refine iAdd ?_ ?_); omega) | ((with_reducible refine iSub ?_ ?_); omega)
    | ((with_reducible show xEx _ _ _); refine iEx (by rfl) ?_) | ((with_reducible refine fun (_ : Nat → Value) => ?_); (try simp only [gx])))
        exact hKn10 (k + 1) _ ⟨by omega, hch10, vo', hB10, by rw [hsucc]; exact hoo10⟩ (by omega)
    · obtain rfl : k = f.n := by omega
      (repeat first
    | (with_reducible first | refine iFa ?_ | refine iNil ?_ | refine iNilF ?_ | refine iLd (by assumption) ?_ | refine iLenN (by assumption) ?_ | refine iLenI (by assumption) ?_ | refine iLenS (by assumption) ?_ | refine iLenL ?_ | refine iEq ?_ | refine iNe ?_ | refine iLt ?_ | refine iLe ?_ | refine iNot ?_ | refine iPick ?_ | refine iE20 ?_ | refine iE21 ?_ | refine iE30 ?_ | refine iE31 ?_ | refine iE32 ?_ | refine iJn ?_)
    | ((with_reducible show xLd _ _ _); refine iLdB (by assumption) (by first | rfl | simp) ?_) | ((with_reducible refine iLdA (by assumption) ?_ ?_); rfl)
    | ((with_reducible refine iIaNN (by assumption) ?_ (fun pa_ hpa_ => ?_)); omega) | ((with_reducible refine iIaN (by assumption) ?_ (fun pa_ hpa_ => ?_)); omega)
    | ((with_reducible refine iIaI (by assumption) ?_ ?_ (fun pa_ hpa_ => ?_)); omega; omega) | ((with_reducible refine iAdd ?_ ?_); omega) | ((with_reducible refine iSub ?_ ?_); omega)
    | ((with_reducible show xEx _ _ _); refine iEx (by rfl) ?_) | ((with_reducible refine fun (_ : Nat → Value) => ?_); (try simp only [gx])))
      refine hKn (d + 1) _ ⟨by omega, hch10, vo', hB10, by rw [← ordPart_end]; exact hoo10⟩ (by omega)
  · obtain rfl : d = f.n := by omega
    have ho27b := fun c hc => (ho27.blk c hc)
    have ho278 := ho27.ch hch (fun c hc h => ho27.ne_blk hB he (by rw [hc, h]))
    have h5s := h5.size
    refine iLp (fun s : Value × Nat => [s.1, .int .i64 (s.2 : Int)]) (fun s w' => s.2 ≤ f.n ∧ Ch (fun k => v27.ownBlock = some k) w8 w' ∧ Ow w5.heap.size t_i64 w' s.1 (ints (List.replicate s.2 (-1))) ∧ ∀ c, s.1.ownBlock = some c → v27.ownBlock = some c ∨ w8.heap.size ≤ c) (fun s => f.n - s.2) (v27, 0) rfl ⟨Nat.zero_le _, (Ext.refl w8).ch, ho278, fun c hc => .inl hc⟩ ?_
    rintro ⟨u, k⟩ w15 Kn15 ⟨hk, hch15, ho15, hat15⟩ hKn15
    have hk : k ≤ f.n := hk
    have ho15 : Ow w5.heap.size t_i64 w15 u (ints (List.replicate k (-1))) := ho15
    have hch8s := hch.size
    have hch15s := hch15.size
    have h6s := h6.size
    have hB115 := hB18.ch hch15 (fun h => ho278.ne_blk hB18 he1 h)
    (repeat first
    | (with_reducible first | refine iFa ?_ | refine iNil ?_ | refine iNilF ?_ | refine iLd (by assumption) ?_ | refine iLenN (by assumption) ?_ | refine iLenI (by assumption) ?_ | refine iLenS (by assumption) ?_ | refine iLenL ?_ | refine iEq ?_ | refine iNe ?_ | refine iLt ?_ | refine iLe ?_ | refine iNot ?_ | refine iPick ?_ | refine iE20 ?_ | refine iE21 ?_ | refine iE30 ?_ | refine iE31 ?_ | refine iE32 ?_ | refine iJn ?_)
    | ((with_reducible show xLd _ _ _); refine iLdB (by assumption) (by first | rfl | simp) ?_) | ((with_reducible refine iLdA (by assumption) ?_ ?_); rfl)
    | ((with_reducible refine iIaNN (by assumption) ?_ (fun pa_ hpa_ => ?_)); omega) | ((with_reducible refine iIaN (by assumption) ?_ (fun pa_ hpa_ => ?_)); omega)
    | ((with_reducible refine iIaI (by assumption) ?_ ?_ (fun pa_ hpa_ => ?_)); omega; omega) | ((with_reducible refine iAdd ?_ ?_); omega) | ((with_reducible refine iSub ?_ ?_); omega)
    | ((with_reducible show xEx _ _ _); refine iEx (by rfl) ?_) | ((with_reducible refine fun (_ : Nat → Value) => ?_); (try simp only [gx])))
    refine iCndP (fun h8 => ?_) (fun h8 => ?_)
    · have hil : (ints (List.replicate k (-1))).length = k := by rw [ints_length, List.length_replicate]
      refine iApp1A u_Si64 i_Si64 rfl ho15 rfl (by omega) (by omega) (by omega) fun v' w17 ho' hg' hat => ?_
      (repeat first
    | (with_reducible first | refine iFa ?_ | refine iNil ?_ | refine iNilF ?_ | refine iLd (by assumption) ?_ | refine iLenN (by assumption) ?_ | refine iLenI (by assumption) ?_ | refine iLenS (by assumption) ?_ | refine iLenL ?_ | refine iEq ?_ | refine iNe ?_ | refine iLt ?_ | refine iLe ?_ | refine iNot ?_ | refine iPick ?_ | refine iE20 ?_ | refine iE21 ?_ | refine iE30 ?_ | refine iE31 ?_ | refine iE32 ?_ | refine iJn ?_)
    | ((with_reducible show xLd _ _ _); refine iLdB (by assumption) (by first | rfl | simp) ?_) | ((with_reducible refine iLdA (by assumption) ?_ ?_); rfl)
    | ((with_reducible refine iIaNN (by assumption) ?_ (fun pa_ hpa_ => ?_)); omega) | ((with_reducible refine iIaN (by assumption) ?_ (fun pa_ hpa_ => ?_)); omega)
    | ((with_reducible refine iIaI (by assumption) ?_ ?_ (fun pa_ hpa_ => ?_)); omega; omega) | ((with_reducible refine iAdd ?_ ?_); omega) | ((with_reducible refine iSub ?_ ?_); omega)
    | ((with_reducible show xEx _ _ _); refine iEx (by rfl) ?_) | ((with_reducible refine fun (_ : Nat → Value) => ?_); (try simp only [gx])))
      refine hKn15 (v', k + 1) _ ⟨by show k + 1 ≤ f.n; omega, hch15.trans (grown_ch (S := fun c => u.ownBlock = some c) hg' (fun k hk => hk)) (fun c hc => hat15 c hc), ?_, fun c hc => ?_⟩ (by show f.n - (k + 1) < f.n - k; omega)
      · show Ow w5.heap.size t_i64 w17 v' (ints (List.replicate (k + 1) (-1)))
        rw [List.replicate_succ']
        unfold ints at ho' ⊢
        rw [List.map_append]
        exact ho'
      · have hc : v'.ownBlock = some c := hc
        rcases hat with h | ⟨c', h, h'⟩
        · exact hat15 c (by rw [← h]; exact hc)
        · rw [h] at hc; cases hc
          exact .inr (by omega)
    · obtain rfl : k = f.n := by omega
      have hB15 := hB8.ch hch15 (fun h => ho278.ne_blk hB8 he h)
      have hoo15 := hoo.ch hch15 (fun c hc h => by have := (hoo.blk c hc).1; have := (ho27b c h).2; omega)
      have hX8 : Ext w w8 := hX6.thenCh hch (fun c hc => by rw [hc]; exact hbw)
      have hX5 : Ext w w5 := hX4.trans h5
      have hX5s := hX5.size
      have hX15 : Ext w w15 := hX8.thenCh hch15 (fun c hc => by have := (ho27b c hc).1; omega)
      have hov15 := (((ho22.mono hX2.size).ext h4).ext h5).ext h6
      have hov8 := hov15.ch hch (fun c hc h => hov15.ne_blk hB he' (by rw [hc, h]))
      have hov := hov8.ch hch15 (fun c hc h => hov8.ne_ow ho278 (by decide) hc h)
      have hst : SrSt f g onto e t_i64 t_Si64 w fa ga vo (.slice xa (ints fix).length xc) (ordOf f) b most w15 (.slice va vn vc) [] [] := ⟨hX15, hB15, hoo15.mono hX6.size, hov, OwL.nil _ _ _⟩
      have hpn := part_nil f.n (ordOf f)
      refine iCall ((ok_spec_l21Search hp.ok hg he he' (ordOf_ok hp) hfl hfa hga hfix hbw hmost f.n [] w15 u (.slice va vn vc) [] [] (by simp) (fun y hy => by cases hy) (by simp) hst (by rw [hpn]; exact ho15.mono hX5s)).mono ?_)
      rintro _ w16 ⟨rfl, found', vs', ls', hst', hls', _, _⟩
      have hB16 := hst'.blk
      (repeat first
    | (with_reducible first | refine iFa ?_ | refine iNil ?_ | refine iNilF ?_ | refine iLd (by assumption) ?_ | refine iLenN (by assumption) ?_ | refine iLenI (by assumption) ?_ | refine iLenS (by assumption) ?_ | refine iLenL ?_ | refine iEq ?_ | refine iNe ?_ | refine iLt ?_ | refine iLe ?_ | refine iNot ?_ | refine iPick ?_ | refine iE20 ?_ | refine iE21 ?_ | refine iE30 ?_ | refine iE31 ?_ | refine iE32 ?_ | refine iJn ?_)
    | ((with_reducible show xLd _ _ _); refine iLdB (by assumption) (by first | rfl | simp) ?_) | ((with_reducible refine iLdA (by assumption) ?_ ?_); rfl)
    | ((with_reducible refine iIaNN (by assumption) ?_ (fun pa_ hpa_ => ?_)); omega) | ((with_reducible refine iIaN (by assumption) ?_ (fun pa_ hpa_ => ?_)); omega)
    | ((with_reducible refine iIaI (by assumption) ?_ ?_ (fun pa_ hpa_ => ?_)); omega; omega) | ((with_reducible refine iAdd ?_ ?_); omega) | ((with_reducible refine iSub ?_ ?_); omega)
    | ((with_reducible show xEx _ _ _); refine iEx (by rfl) ?_) | ((with_reducible refine fun (_ : Nat → Value) => ?_); (try simp only [gx])))
      refine ⟨hst'.ext, vs', hst'.ow, ?_⟩
      have := hst'.owl
      rw [hls', List.nil_append] at this
      exact this
end Go.Proofs.YtoolpnkcmlebkaaGreat
