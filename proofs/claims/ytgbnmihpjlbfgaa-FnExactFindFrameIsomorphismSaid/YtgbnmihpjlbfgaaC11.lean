/- Contracts of the functions on one frame that count or list its maps. Conditions: none. -/
import Derived.Test.YtgbnmihpjlbfgaaMa9
import Derived.Test.YtgbnmihpjlbfgaaC05
namespace Go.Proofs.Ytgbnmihpjlbfgaa
open Go.Vc
theorem frameOk_fr {n : Int} {l : List Int} (h : frameOk n l = true) : (frOf n l).ok ∧ n = ((frOf n l).n : Int) ∧ l = nats (frOf n l).a := by
  unfold frameOk at h
  rw [Bool.and_eq_true, Bool.and_eq_true, decide_eq_true_eq, decide_eq_true_eq, List.all_eq_true] at h
  obtain ⟨⟨h1, h2⟩, h3⟩ := h
  have hx : ∀ x ∈ l, 0 ≤ x ∧ x ≤ ((2 ^ n.toNat - 1 : Nat) : Int) := fun x hx => by
    have := h3 x hx
    unfold maskB at this
    simpa using this
  refine ⟨⟨by show n.toNat ≤ 8; omega, by show (l.map Int.toNat).length = n.toNat; rw [List.length_map]; omega, ?_⟩, by show n = (n.toNat : Int); omega, ?_⟩
  · intro y hy
    obtain ⟨x, h4, rfl⟩ := List.mem_map.1 hy
    have := hx x h4
    have hp := Nat.two_pow_pos n.toNat
    show x.toNat < 2 ^ n.toNat
    omega
  · show l = (l.map Int.toNat).map Int.ofNat
    rw [List.map_map]
    conv => lhs; rw [← List.map_id l]
    refine List.map_congr_left fun x h4 => ?_
    have := hx x h4
    simp only [id, Function.comp, Int.ofNat_eq_natCast]
    omega
theorem ok_impl_CountAutomorphisms_1 {v : Value} {w : World} {c : Nat} {k : Nat} (hk : k < 100000000) (hc : Blk t_i64 w c [.int .i64 (k : Int)]) :
    Cal Try.prog f_impl_CountAutomorphisms_1 #[v, .pointer (some ⟨c, 0, none⟩)] w fun r w' => r = .bool true ∧ Blk t_i64 w' c [.int .i64 ((k + 1 : Nat) : Int)] ∧ Upd c w w' := by
  apply c_impl_CountAutomorphisms_1; unfold S_impl_CountAutomorphisms_1
  (repeat first
    | (with_reducible first | refine iFa ?_ | refine iNil ?_ | refine iNilF ?_ | refine iLd (by assumption) ?_ | refine iLenN (by assumption) ?_ | refine iLenI (by assumption) ?_ | refine iLenS (by assumption) ?_ | refine iLenL ?_ | refine iEq ?_ | refine iNe ?_ | refine iLt ?_ | refine iLe ?_ | refine iNot ?_ | refine iPick ?_ | refine iE20 ?_ | refine iE21 ?_ | refine iJn ?_)
    | ((with_reducible show xLd _ _ _); refine iLdB (by assumption) (by first | rfl | simp) ?_) | ((with_reducible refine iLdA (by assumption) ?_ ?_); rfl)
    | ((with_reducible refine iIaNN (by assumption) ?_ (fun pa_ hpa_ => ?_)); omega) | ((with_reducible refine iIaN (by assumption) ?_ (fun pa_ hpa_ => ?_)); omega)
    | ((with_reducible refine iIaI (by assumption) ?_ ?_ (fun pa_ hpa_ => ?_)); omega; omega) | ((with_reducible refine iAdd ?_ ?_); omega) | ((with_reducible refine iSub ?_ ?_); omega)
    | ((with_reducible show xEx _ _ _); refine iEx (by rfl) ?_) | ((with_reducible refine fun (_ : Nat → Value) => ?_); (try simp only [gx])))
  refine iStB hc (by simp) rfl fun hc2 => ?_
  exact ⟨rfl, hc2, Upd.setCell w c 0 _⟩
def visCount (c n m : Nat) : Visitor Try.prog t_i64 (.func (.func f_impl_CountAutomorphisms_1) #[] #[.pointer (some ⟨c, 0, none⟩)]) n m (fun _ => true) where
  J S l w := S = (fun k => k = c) ∧ Blk t_i64 w c [.int .i64 (l.length : Int)]
  below := by
    rintro S l w ⟨rfl, h⟩ k rfl
    exact h.lt
  keep := by
    rintro S l w w' ⟨rfl, h⟩ _ hk
    refine ⟨rfl, ?_⟩
    unfold Blk at *
    rw [hk c rfl]; exact h
  visit := by
    rintro S l w v lo im ⟨rfl, h⟩ _ hl _ _ _ _
    refine ⟨_, _, _, rfl, (ok_impl_CountAutomorphisms_1 (v := v) hl h).mono ?_⟩
    rintro r w' ⟨rfl, h1, h2⟩
    refine ⟨rfl, fun k => k = c, ⟨rfl, ?_⟩, h2.ch rfl, fun k hk => .inl hk⟩
    rw [List.length_append, List.length_singleton]; exact h1
def autCount (f : Fr) : Nat := (leaves (fitsB f f true true) f.n f.n []).length
theorem pow88 {m n : Nat} (hm : m ≤ 8) (hn : n ≤ 8) : m ^ n ≤ 100000000 := by
  have h1 : m ^ n ≤ 8 ^ n := Nat.pow_le_pow_left hm n
  have h2 : 8 ^ n ≤ 8 ^ 8 := Nat.pow_le_pow_right (by omega) hn
  omega
def autRes (n : Int) (l : List Int) : Value := if frameOk n l then .tuple #[.int .i64 (autCount (frOf n l) : Int), .int .i64 0] else .tuple #[.int .i64 0, .int .i64 1]
theorem ok_impl_CountAutomorphisms {v : Value} {w : World} {l : List Int} (hs : SlI w v l) (n : Int) : Ret Try.prog f_impl_CountAutomorphisms #[.agg #[.int .i64 n, v]] w (autRes n l) := by
  apply c_impl_CountAutomorphisms; unfold S_impl_CountAutomorphisms
  refine iNew fun b w1 hb h1 hB => ?_
  (repeat first
    | (with_reducible first | refine iFa ?_ | refine iNil ?_ | refine iNilF ?_ | refine iLd (by assumption) ?_ | refine iLenN (by assumption) ?_ | refine iLenI (by assumption) ?_ | refine iLenS (by assumption) ?_ | refine iLenL ?_ | refine iEq ?_ | refine iNe ?_ | refine iLt ?_ | refine iLe ?_ | refine iNot ?_ | refine iPick ?_ | refine iE20 ?_ | refine iE21 ?_ | refine iJn ?_)
    | ((with_reducible show xLd _ _ _); refine iLdB (by assumption) (by first | rfl | simp) ?_) | ((with_reducible refine iLdA (by assumption) ?_ ?_); rfl)
    | ((with_reducible refine iIaNN (by assumption) ?_ (fun pa_ hpa_ => ?_)); omega) | ((with_reducible refine iIaN (by assumption) ?_ (fun pa_ hpa_ => ?_)); omega)
    | ((with_reducible refine iIaI (by assumption) ?_ ?_ (fun pa_ hpa_ => ?_)); omega; omega) | ((with_reducible refine iAdd ?_ ?_); omega) | ((with_reducible refine iSub ?_ ?_); omega)
    | ((with_reducible show xEx _ _ _); refine iEx (by rfl) ?_) | ((with_reducible refine fun (_ : Nat → Value) => ?_); (try simp only [gx])))
  refine iRet (ok_impl_isFrame (hs.ext h1) n) fun w2 h2 => ?_
  have hB := hB.ext h2
  have hX2 : Ext w w2 := h1.trans h2
  (repeat first
    | (with_reducible first | refine iFa ?_ | refine iNil ?_ | refine iNilF ?_ | refine iLd (by assumption) ?_ | refine iLenN (by assumption) ?_ | refine iLenI (by assumption) ?_ | refine iLenS (by assumption) ?_ | refine iLenL ?_ | refine iEq ?_ | refine iNe ?_ | refine iLt ?_ | refine iLe ?_ | refine iNot ?_ | refine iPick ?_ | refine iE20 ?_ | refine iE21 ?_ | refine iJn ?_)
    | ((with_reducible show xLd _ _ _); refine iLdB (by assumption) (by first | rfl | simp) ?_) | ((with_reducible refine iLdA (by assumption) ?_ ?_); rfl)
    | ((with_reducible refine iIaNN (by assumption) ?_ (fun pa_ hpa_ => ?_)); omega) | ((with_reducible refine iIaN (by assumption) ?_ (fun pa_ hpa_ => ?_)); omega)
    | ((with_reducible refine iIaI (by assumption) ?_ ?_ (fun pa_ hpa_ => ?_)); omega; omega) | ((with_reducible refine iAdd ?_ ?_); omega) | ((with_reducible refine iSub ?_ ?_); omega)
    | ((with_reducible show xEx _ _ _); refine iEx (by rfl) ?_) | ((with_reducible refine fun (_ : Nat → Value) => ?_); (try simp only [gx])))
  unfold autRes
  cases hfr : frameOk n l
  · refine iCndT rfl ?_
    exact ⟨rfl, hX2⟩
  · refine iCndF rfl ?_
    obtain ⟨hf, hn, hl⟩ := frameOk_fr hfr
    generalize frOf n l = f at *
    subst hn; subst hl
    refine iNew fun c w3 hc h3 hC => ?_
    have hB := hB.ext h3
    (repeat first
    | (with_reducible first | refine iFa ?_ | refine iNil ?_ | refine iNilF ?_ | refine iLd (by assumption) ?_ | refine iLenN (by assumption) ?_ | refine iLenI (by assumption) ?_ | refine iLenS (by assumption) ?_ | refine iLenL ?_ | refine iEq ?_ | refine iNe ?_ | refine iLt ?_ | refine iLe ?_ | refine iNot ?_ | refine iPick ?_ | refine iE20 ?_ | refine iE21 ?_ | refine iJn ?_)
    | ((with_reducible show xLd _ _ _); refine iLdB (by assumption) (by first | rfl | simp) ?_) | ((with_reducible refine iLdA (by assumption) ?_ ?_); rfl)
    | ((with_reducible refine iIaNN (by assumption) ?_ (fun pa_ hpa_ => ?_)); omega) | ((with_reducible refine iIaN (by assumption) ?_ (fun pa_ hpa_ => ?_)); omega)
    | ((with_reducible refine iIaI (by assumption) ?_ ?_ (fun pa_ hpa_ => ?_)); omega; omega) | ((with_reducible refine iAdd ?_ ?_); omega) | ((with_reducible refine iSub ?_ ?_); omega)
    | ((with_reducible show xEx _ _ _); refine iEx (by rfl) ?_) | ((with_reducible refine fun (_ : Nat → Value) => ?_); (try simp only [gx])))
    refine iBuild (cs := #[.int .i64 (f.n : Int), v, .int .i64 (f.n : Int), v, .slice none 0 0, .func (.func f_impl_CountAutomorphisms_1) #[] #[.pointer (some ⟨c, 0, none⟩)], .bool true, .bool true]) (by simp [Instr.fill, Value.cells]) ?_
    refine iNew fun d w4 hd h4 hD => ?_
    have hC := hC.ext h4
    have hX3 : Ext w w3 := hX2.trans h3
    have hX4 : Ext w w4 := hX3.trans h4
    have hst : RunSt (visCount c f.n f.n) f f true true _ w _ _ d w4 [] (.slice none 0 0) (fun k => k = c) [] :=
      ⟨hX4, hD, Ow.nil _ _ _, ⟨rfl, hC⟩, by show ¬ d = c; omega, (fun c hc => by cases hc), (fun k hk => by have := hX2.size; show w.heap.size ≤ k; rw [hk]; omega)⟩
    refine iCall ((ok_impl_morphismSearch_run hf hf (by decide) (visCount c f.n f.n) hs hs (by have := hX3.size; omega) f.n [] w4 _ _ [] (by simp) (fun y hy => by cases hy) (.inl rfl) (by have := pow88 hf.1 hf.1; simpa using this) hst).mono ?_)
    rintro _ w5 ⟨rfl, vim', S', hst'⟩
    rw [visitAll_true, List.nil_append] at hst'
    have hC' := hst'.j.2
    (repeat first
    | (with_reducible first | refine iFa ?_ | refine iNil ?_ | refine iNilF ?_ | refine iLd (by assumption) ?_ | refine iLenN (by assumption) ?_ | refine iLenI (by assumption) ?_ | refine iLenS (by assumption) ?_ | refine iLenL ?_ | refine iEq ?_ | refine iNe ?_ | refine iLt ?_ | refine iLe ?_ | refine iNot ?_ | refine iPick ?_ | refine iE20 ?_ | refine iE21 ?_ | refine iJn ?_)
    | ((with_reducible show xLd _ _ _); refine iLdB (by assumption) (by first | rfl | simp) ?_) | ((with_reducible refine iLdA (by assumption) ?_ ?_); rfl)
    | ((with_reducible refine iIaNN (by assumption) ?_ (fun pa_ hpa_ => ?_)); omega) | ((with_reducible refine iIaN (by assumption) ?_ (fun pa_ hpa_ => ?_)); omega)
    | ((with_reducible refine iIaI (by assumption) ?_ ?_ (fun pa_ hpa_ => ?_)); omega; omega) | ((with_reducible refine iAdd ?_ ?_); omega) | ((with_reducible refine iSub ?_ ?_); omega)
    | ((with_reducible show xEx _ _ _); refine iEx (by rfl) ?_) | ((with_reducible refine fun (_ : Nat → Value) => ?_); (try simp only [gx])))
    exact ⟨rfl, hst'.ext⟩
theorem ok_spec_CountAutomorphisms {v : Value} {w : World} {l : List Int} (hs : SlI w v l) (n : Int) : Ret Try.prog f_spec_CountAutomorphisms #[.agg #[.int .i64 n, v]] w (autRes n l) := by
  apply c_spec_CountAutomorphisms; unfold S_spec_CountAutomorphisms
  refine iNew fun b w1 hb h1 hB => ?_
  (repeat first
    | (with_reducible first | refine iFa ?_ | refine iNil ?_ | refine iNilF ?_ | refine iLd (by assumption) ?_ | refine iLenN (by assumption) ?_ | refine iLenI (by assumption) ?_ | refine iLenS (by assumption) ?_ | refine iLenL ?_ | refine iEq ?_ | refine iNe ?_ | refine iLt ?_ | refine iLe ?_ | refine iNot ?_ | refine iPick ?_ | refine iE20 ?_ | refine iE21 ?_ | refine iJn ?_)
    | ((with_reducible show xLd _ _ _); refine iLdB (by assumption) (by first | rfl | simp) ?_) | ((with_reducible refine iLdA (by assumption) ?_ ?_); rfl)
    | ((with_reducible refine iIaNN (by assumption) ?_ (fun pa_ hpa_ => ?_)); omega) | ((with_reducible refine iIaN (by assumption) ?_ (fun pa_ hpa_ => ?_)); omega)
    | ((with_reducible refine iIaI (by assumption) ?_ ?_ (fun pa_ hpa_ => ?_)); omega; omega) | ((with_reducible refine iAdd ?_ ?_); omega) | ((with_reducible refine iSub ?_ ?_); omega)
    | ((with_reducible show xEx _ _ _); refine iEx (by rfl) ?_) | ((with_reducible refine fun (_ : Nat → Value) => ?_); (try simp only [gx])))
  refine iRet (ok_spec_l05Is (hs.ext h1) n) fun w2 h2 => ?_
  have hB := hB.ext h2
  have hX2 : Ext w w2 := h1.trans h2
  have hs2 := hs.ext hX2
  (repeat first
    | (with_reducible first | refine iFa ?_ | refine iNil ?_ | refine iNilF ?_ | refine iLd (by assumption) ?_ | refine iLenN (by assumption) ?_ | refine iLenI (by assumption) ?_ | refine iLenS (by assumption) ?_ | refine iLenL ?_ | refine iEq ?_ | refine iNe ?_ | refine iLt ?_ | refine iLe ?_ | refine iNot ?_ | refine iPick ?_ | refine iE20 ?_ | refine iE21 ?_ | refine iJn ?_)
    | ((with_reducible show xLd _ _ _); refine iLdB (by assumption) (by first | rfl | simp) ?_) | ((with_reducible refine iLdA (by assumption) ?_ ?_); rfl)
    | ((with_reducible refine iIaNN (by assumption) ?_ (fun pa_ hpa_ => ?_)); omega) | ((with_reducible refine iIaN (by assumption) ?_ (fun pa_ hpa_ => ?_)); omega)
    | ((with_reducible refine iIaI (by assumption) ?_ ?_ (fun pa_ hpa_ => ?_)); omega; omega) | ((with_reducible refine iAdd ?_ ?_); omega) | ((with_reducible refine iSub ?_ ?_); omega)
    | ((with_reducible show xEx _ _ _); refine iEx (by rfl) ?_) | ((with_reducible refine fun (_ : Nat → Value) => ?_); (try simp only [gx])))
  unfold autRes
  cases hfr : frameOk n l
  · refine iCndT rfl ?_
    exact ⟨rfl, hX2⟩
  · refine iCndF rfl ?_
    obtain ⟨hf, hn, hl⟩ := frameOk_fr hfr
    generalize frOf n l = f at *
    subst hn; subst hl
    (repeat first
    | (with_reducible first | refine iFa ?_ | refine iNil ?_ | refine iNilF ?_ | refine iLd (by assumption) ?_ | refine iLenN (by assumption) ?_ | refine iLenI (by assumption) ?_ | refine iLenS (by assumption) ?_ | refine iLenL ?_ | refine iEq ?_ | refine iNe ?_ | refine iLt ?_ | refine iLe ?_ | refine iNot ?_ | refine iPick ?_ | refine iE20 ?_ | refine iE21 ?_ | refine iJn ?_)
    | ((with_reducible show xLd _ _ _); refine iLdB (by assumption) (by first | rfl | simp) ?_) | ((with_reducible refine iLdA (by assumption) ?_ ?_); rfl)
    | ((with_reducible refine iIaNN (by assumption) ?_ (fun pa_ hpa_ => ?_)); omega) | ((with_reducible refine iIaN (by assumption) ?_ (fun pa_ hpa_ => ?_)); omega)
    | ((with_reducible refine iIaI (by assumption) ?_ ?_ (fun pa_ hpa_ => ?_)); omega; omega) | ((with_reducible refine iAdd ?_ ?_); omega) | ((with_reducible refine iSub ?_ ?_); omega)
    | ((with_reducible show xEx _ _ _); refine iEx (by rfl) ?_) | ((with_reducible refine fun (_ : Nat → Value) => ?_); (try simp only [gx])))
    refine iCall ((ok_spec_l08Find hf hf (onto := true) (one := true) hs2 hs2 (most := 50000) (by omega) (by omega)).mono ?_)
    rintro r w3 ⟨h3, vs, ho, hol⟩
    have hlen : vs.length = autCount f := by
      have h1 := hol.1
      rw [List.length_map, ref_eq hf hf (fun h => h)] at h1
      rw [h1, List.take_of_length_le (by have := leaves_inj_length hf hf true; omega)]; rfl
    have hsl := ho.sl
    (repeat first
    | (with_reducible first | refine iFa ?_ | refine iNil ?_ | refine iNilF ?_ | refine iLd (by assumption) ?_ | refine iLenN (by assumption) ?_ | refine iLenI (by assumption) ?_ | refine iLenS (by assumption) ?_ | refine iLenL ?_ | refine iEq ?_ | refine iNe ?_ | refine iLt ?_ | refine iLe ?_ | refine iNot ?_ | refine iPick ?_ | refine iE20 ?_ | refine iE21 ?_ | refine iJn ?_)
    | ((with_reducible show xLd _ _ _); refine iLdB (by assumption) (by first | rfl | simp) ?_) | ((with_reducible refine iLdA (by assumption) ?_ ?_); rfl)
    | ((with_reducible refine iIaNN (by assumption) ?_ (fun pa_ hpa_ => ?_)); omega) | ((with_reducible refine iIaN (by assumption) ?_ (fun pa_ hpa_ => ?_)); omega)
    | ((with_reducible refine iIaI (by assumption) ?_ ?_ (fun pa_ hpa_ => ?_)); omega; omega) | ((with_reducible refine iAdd ?_ ?_); omega) | ((with_reducible refine iSub ?_ ?_); omega)
    | ((with_reducible show xEx _ _ _); refine iEx (by rfl) ?_) | ((with_reducible refine fun (_ : Nat → Value) => ?_); (try simp only [gx])))
    exact ⟨by rw [hlen]; rfl, hX2.trans h3⟩
end Go.Proofs.Ytgbnmihpjlbfgaa
