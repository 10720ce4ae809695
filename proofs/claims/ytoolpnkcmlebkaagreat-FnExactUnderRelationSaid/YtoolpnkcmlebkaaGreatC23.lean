/- Contracts: depths in posets, and the reference's search for p-morphisms from its start. Conditions: none. -/
import Derived.Test.YtoolpnkcmlebkaaGreatMaB
import Derived.Test.YtoolpnkcmlebkaaGreatC22
namespace Go.Vc
theorem iMaxN {a b : Nat} {k : IntKind} {K : Value → Prop} (h : K (.int k ((max a b : Nat) : Int))) : xMax (.int k (a : Int)) (.int k (b : Int)) K := by
  refine ⟨_, _, _, _, rfl, rfl, ?_⟩
  have e : (if (b : Int) > (a : Int) then (b : Int) else (a : Int)) = ((max a b : Nat) : Int) := by split <;> omega
  rw [e]; exact h
/-- What a search finds, as the reference lays it. -/
def findP (f g : Fr) (fix : List Int) (onto : Bool) (most : Nat) : List (List Int) := ((srch f g fix onto (ordOf f) f.n []).map (partL f.n (ordOf f))).take most
theorem part_nil (n : Nat) (ord : List Nat) : partL n ord [] = List.replicate n (-1) := by
  apply List.ext_getElem
  · simp [partL]
  · intro i h1 h2
    simp [partL]
theorem depF_succ (f : Fr) (k x : Nat) : depF f (k + 1) x = bestF (depF f k) (aboveB f x) f.n + 1 := rfl
theorem dep_unf {f : Fr} (hp : Po f) (x : Nat) : dep f x = bestF (dep f) (aboveB f x) f.n + 1 := by
  have h : bestF (depF f 8) (aboveB f x) f.n = bestF (dep f) (aboveB f x) f.n := by
    refine bestF_congr f.n fun u hu hb => ?_
    have h7 := popc_above hp hb
    have h8 := popc_le8 hp.ok x
    have h9 := hp.ok.1
    exact dep_eq hp hu (by omega)
  rw [← h]
  exact depF_succ f 8 x
theorem dep_le {f : Fr} (hp : Po f) {x : Nat} (hx : x < f.n) : dep f x ≤ f.n := Nat.le_trans (depF_le hp 9 x hx) (popc_le8 hp.ok x)
theorem getD_range {n k : Nat} (h : k < n) : (List.range n).getD k 0 = k := by simp [List.getD_eq_getElem?_getD, h]
end Go.Vc
namespace Go.Proofs.YtoolpnkcmlebkaaGreat
open Go.Vc
theorem ok_spec_l05Reach_po {f : Fr} (hp : Po f) {v : Value} {w : World} (hs : SlN w v f.a) (m : Nat) (hm : m < 2 ^ f.n) : Ret Tryz.prog f_spec_l05Reach #[.agg #[.int .i64 (f.n : Int), v], .int .i64 (m : Int)] w (.int .i64 ((rowsK f.a m f.n : Nat) : Int)) := by
  apply c_spec_l05Reach; unfold S_spec_l05Reach
  have hf8 := hp.ok.1
  have hfl := hp.ok.2.1
  have h63 : ∀ z, z < 2 ^ f.n → z < 2 ^ 63 := fun z hz => Nat.lt_of_lt_of_le hz (Nat.pow_le_pow_right (by omega) (by omega))
  refine iNew fun b w1 hb1 h1 hB => ?_
  refine iLp (fun s : Nat => [.int .i64 (s : Int)]) (fun s w' => (s = m ∨ s = rowsK f.a m f.n) ∧ Ext w1 w') (fun s => if s = rowsK f.a m f.n then 0 else 1) m rfl ⟨.inl rfl, Ext.refl _⟩ ?_
  rintro s w3 Kn ⟨hsm, h3⟩ hKn
  have hB3 := hB.ext h3
  have hs3 : SlN w3 v f.a := (hs.ext h1).ext h3
  have hslt : s < 2 ^ f.n := by
    rcases hsm with rfl | rfl
    · exact hm
    · exact rowsK_lt hp.ok.2.2 m f.n
  have hrlt := rowsK_lt hp.ok.2.2 s f.n
  have hri := ok_spec_l01Image hs3 (show f.n ≤ 62 by omega) hp.ok.2.2 (by omega) s (h63 _ hslt)
  rw [hfl] at hri
  (repeat first
    | (with_reducible first | refine iFa ?_ | refine iNil ?_ | refine iNilF ?_ | refine iLd (by assumption) ?_ | refine iLenN (by assumption) ?_ | refine iLenI (by assumption) ?_ | refine iLenS (by assumption) ?_ | refine iLenL ?_ | refine iEq ?_ | refine iNe ?_ | refine iLt ?_ | refine iLe ?_ | refine iNot ?_ | refine iPick ?_ | refine iE20 ?_ | refine iE21 ?_ | refine iE30 ?_ | refine iE31 ?_ | refine iE32 ?_ | refine iJn ?_)
    | ((with_reducible show xLd _ _ _); refine iLdB (by assumption) (by first | rfl | simp) ?_) | ((with_reducible refine iLdA (by assumption) ?_ ?_); rfl)
    | ((with_reducible refine iIaNN (by assumption) ?_ (fun pa_ hpa_ => ?_)); omega) | ((with_reducible refine iIaN (by assumption) ?_ (fun pa_ hpa_ => ?_)); omega)
    | ((with_reducible refine iIaI (by assumption) ?_ ?_ (fun pa_ hpa_ => ?_)); omega; omega) | ((with_reducible refine iAdd ?_ ?_); omega) | ((with_reducible refine iSub ?_ ?_); omega)
    | ((with_reducible show xEx _ _ _); refine iEx (by rfl) ?_) | ((with_reducible refine fun (_ : Nat → Value) => ?_); (try simp only [gx])))
  refine iRet hri fun w4 h4 => ?_
  refine iBAndNot (h63 _ hrlt) (h63 _ hslt) ?_
  (repeat first
    | (with_reducible first | refine iFa ?_ | refine iNil ?_ | refine iNilF ?_ | refine iLd (by assumption) ?_ | refine iLenN (by assumption) ?_ | refine iLenI (by assumption) ?_ | refine iLenS (by assumption) ?_ | refine iLenL ?_ | refine iEq ?_ | refine iNe ?_ | refine iLt ?_ | refine iLe ?_ | refine iNot ?_ | refine iPick ?_ | refine iE20 ?_ | refine iE21 ?_ | refine iE30 ?_ | refine iE31 ?_ | refine iE32 ?_ | refine iJn ?_)
    | ((with_reducible show xLd _ _ _); refine iLdB (by assumption) (by first | rfl | simp) ?_) | ((with_reducible refine iLdA (by assumption) ?_ ?_); rfl)
    | ((with_reducible refine iIaNN (by assumption) ?_ (fun pa_ hpa_ => ?_)); omega) | ((with_reducible refine iIaN (by assumption) ?_ (fun pa_ hpa_ => ?_)); omega)
    | ((with_reducible refine iIaI (by assumption) ?_ ?_ (fun pa_ hpa_ => ?_)); omega; omega) | ((with_reducible refine iAdd ?_ ?_); omega) | ((with_reducible refine iSub ?_ ?_); omega)
    | ((with_reducible show xEx _ _ _); refine iEx (by rfl) ?_) | ((with_reducible refine fun (_ : Nat → Value) => ?_); (try simp only [gx])))
  refine iCndP (fun h5 => ?_) (fun h5 => ?_)
  · have hB4 := hB3.ext h4
    have hs4 := hs3.ext h4
    have hri4 := ok_spec_l01Image hs4 (show f.n ≤ 62 by omega) hp.ok.2.2 (by omega) s (h63 _ hslt)
    rw [hfl] at hri4
    (repeat first
    | (with_reducible first | refine iFa ?_ | refine iNil ?_ | refine iNilF ?_ | refine iLd (by assumption) ?_ | refine iLenN (by assumption) ?_ | refine iLenI (by assumption) ?_ | refine iLenS (by assumption) ?_ | refine iLenL ?_ | refine iEq ?_ | refine iNe ?_ | refine iLt ?_ | refine iLe ?_ | refine iNot ?_ | refine iPick ?_ | refine iE20 ?_ | refine iE21 ?_ | refine iE30 ?_ | refine iE31 ?_ | refine iE32 ?_ | refine iJn ?_)
    | ((with_reducible show xLd _ _ _); refine iLdB (by assumption) (by first | rfl | simp) ?_) | ((with_reducible refine iLdA (by assumption) ?_ ?_); rfl)
    | ((with_reducible refine iIaNN (by assumption) ?_ (fun pa_ hpa_ => ?_)); omega) | ((with_reducible refine iIaN (by assumption) ?_ (fun pa_ hpa_ => ?_)); omega)
    | ((with_reducible refine iIaI (by assumption) ?_ ?_ (fun pa_ hpa_ => ?_)); omega; omega) | ((with_reducible refine iAdd ?_ ?_); omega) | ((with_reducible refine iSub ?_ ?_); omega)
    | ((with_reducible show xEx _ _ _); refine iEx (by rfl) ?_) | ((with_reducible refine fun (_ : Nat → Value) => ?_); (try simp only [gx])))
    refine iRet hri4 fun w5 h6 => ?_
    refine iBOr (h63 _ hslt) (h63 _ hrlt) ?_
    have hsm' : s = m := by
      rcases hsm with h | h
      · exact h
      · exfalso
        apply h5
        rw [h, rows_rows hp]; rfl
    have hor : s ||| rowsK f.a s f.n = rowsK f.a m f.n := by
      rw [hsm']
      apply Nat.eq_of_testBit_eq
      intro j
      rw [Nat.testBit_or, Bool.eq_iff_iff, Bool.or_eq_true]
      exact ⟨fun h => h.elim (rows_sub hp hm j) id, .inr⟩
    rw [hor]
    refine hKn _ _ ⟨.inr rfl, h3.trans (h4.trans h6)⟩ ?_
    rw [if_pos rfl, if_neg]
    · omega
    · rintro h
      apply h5
      rw [h, rows_rows hp]; rfl
  · refine ⟨?_, h1.trans (h3.trans h4)⟩
    have hz : sdiff (rowsK f.a s f.n) s = 0 := by omega
    have : s = rowsK f.a m f.n := by
      rcases hsm with rfl | h
      · apply Nat.eq_of_testBit_eq
        intro j
        rw [Bool.eq_iff_iff]
        exact ⟨rows_sub hp hm j, fun h => (sdiff_eq_zero.1 hz) j h⟩
      · exact h
    rw [← this]
theorem ok_reach_one {f : Fr} (hp : Po f) {v : Value} {w : World} (hs : SlN w v f.a) {x : Nat} (hx : x < f.n) : Ret Tryz.prog f_spec_l05Reach #[.agg #[.int .i64 (f.n : Int), v], .int .i64 ((2 ^ x : Nat) : Int)] w (.int .i64 ((f.a.getD x 0 : Nat) : Int)) := by
  have := ok_spec_l05Reach_po hp hs (2 ^ x) (Nat.pow_lt_pow_right (by omega) hx)
  rwa [rows_one hp.ok hx] at this
theorem ok_spec_l05Clusters_po {f : Fr} (hp : Po f) {v : Value} {w : World} (hs : SlN w v f.a) : Cal Tryz.prog f_spec_l05Clusters #[.agg #[.int .i64 (f.n : Int), v]] w fun u w' => Ext w w' ∧ Ow w.heap.size t_i64 w' u (ints (nats (List.range f.n))) := by
  apply c_spec_l05Clusters; unfold S_spec_l05Clusters
  have hf8 := hp.ok.1
  have hfl := hp.ok.2.1
  refine iNew fun b w1 hb1 h1 hB => ?_
  refine iBs0 fun v8 w2 _ h2 ho => ?_
  obtain ⟨e, hne, hB⟩ : ∃ e, t_i64 ≠ e ∧ Blk e w2 b [.int .i64 (f.n : Int), v] := ⟨_, by decide, hB.ext h2⟩
  have hX2 := h1.trans h2
  have hsz1 := h1.size
  have ho := ho.mono hsz1
  refine iLp (fun s : Value × Nat => [s.1, .int .i64 (s.2 : Int), .int .i64 (s.2 : Int)]) (fun s w' => s.2 ≤ f.n ∧ Ext w w' ∧ Blk e w' b [.int .i64 (f.n : Int), v] ∧ Ow w.heap.size t_i64 w' s.1 (ints (nats (List.range s.2)))) (fun s => f.n - s.2) (v8, 0) rfl ⟨Nat.zero_le _, hX2, hB, ho⟩ ?_
  rintro ⟨u, k⟩ w4 Kn ⟨hk, hX4, hB4, ho4⟩ hKn
  have hk : k ≤ f.n := hk
  have ho4 : Ow w.heap.size t_i64 w4 u (ints (nats (List.range k))) := ho4
  have hs4 := hs.ext hX4
  (repeat first
    | (with_reducible first | refine iFa ?_ | refine iNil ?_ | refine iNilF ?_ | refine iLd (by assumption) ?_ | refine iLenN (by assumption) ?_ | refine iLenI (by assumption) ?_ | refine iLenS (by assumption) ?_ | refine iLenL ?_ | refine iEq ?_ | refine iNe ?_ | refine iLt ?_ | refine iLe ?_ | refine iNot ?_ | refine iPick ?_ | refine iE20 ?_ | refine iE21 ?_ | refine iE30 ?_ | refine iE31 ?_ | refine iE32 ?_ | refine iJn ?_)
    | ((with_reducible show xLd _ _ _); refine iLdB (by assumption) (by first | rfl | simp) ?_) | ((with_reducible refine iLdA (by assumption) ?_ ?_); rfl)
    | ((with_reducible refine iIaNN (by assumption) ?_ (fun pa_ hpa_ => ?_)); omega) | ((with_reducible refine iIaN (by assumption) ?_ (fun pa_ hpa_ => ?_)); omega)
    | ((with_reducible refine iIaI (by assumption) ?_ ?_ (fun pa_ hpa_ => ?_)); omega; omega) | ((with_reducible refine iAdd ?_ ?_); omega) | ((with_reducible refine iSub ?_ ?_); omega)
    | ((with_reducible show xEx _ _ _); refine iEx (by rfl) ?_) | ((with_reducible refine fun (_ : Nat → Value) => ?_); (try simp only [gx])))
  refine iCndP (fun h5 => ?_) (fun h5 => ?_)
  · have hk1 : k < f.n := by omega
    have hgk := fr_lt63 hp.ok k
    refine iLp (fun j : Nat => [.int .i64 (-1), .int .i64 (j : Int)]) (fun j w' => j ≤ k ∧ Ext w4 w') (fun j => k - j) 0 rfl ⟨Nat.zero_le _, Ext.refl _⟩ ?_
    rintro j w6 Kn6 ⟨hj, h6⟩ hKn6
    have hB6 := hB4.ext h6
    have hs6 := hs4.ext h6
    have ho6 := ho4.ext h6
    (repeat first
    | (with_reducible first | refine iFa ?_ | refine iNil ?_ | refine iNilF ?_ | refine iLd (by assumption) ?_ | refine iLenN (by assumption) ?_ | refine iLenI (by assumption) ?_ | refine iLenS (by assumption) ?_ | refine iLenL ?_ | refine iEq ?_ | refine iNe ?_ | refine iLt ?_ | refine iLe ?_ | refine iNot ?_ | refine iPick ?_ | refine iE20 ?_ | refine iE21 ?_ | refine iE30 ?_ | refine iE31 ?_ | refine iE32 ?_ | refine iJn ?_)
    | ((with_reducible show xLd _ _ _); refine iLdB (by assumption) (by first | rfl | simp) ?_) | ((with_reducible refine iLdA (by assumption) ?_ ?_); rfl)
    | ((with_reducible refine iIaNN (by assumption) ?_ (fun pa_ hpa_ => ?_)); omega) | ((with_reducible refine iIaN (by assumption) ?_ (fun pa_ hpa_ => ?_)); omega)
    | ((with_reducible refine iIaI (by assumption) ?_ ?_ (fun pa_ hpa_ => ?_)); omega; omega) | ((with_reducible refine iAdd ?_ ?_); omega) | ((with_reducible refine iSub ?_ ?_); omega)
    | ((with_reducible show xEx _ _ _); refine iEx (by rfl) ?_) | ((with_reducible refine fun (_ : Nat → Value) => ?_); (try simp only [gx])))
    refine iCndP (fun h7 => ?_) (fun h7 => ?_)
    · have hgj := fr_lt63 hp.ok j
      have hj1 : j < f.n := by omega
      (repeat first
    | (with_reducible first | refine iFa ?_ | refine iNil ?_ | refine iNilF ?_ | refine iLd (by assumption) ?_ | refine iLenN (by assumption) ?_ | refine iLenI (by assumption) ?_ | refine iLenS (by assumption) ?_ | refine iLenL ?_ | refine iEq ?_ | refine iNe ?_ | refine iLt ?_ | refine iLe ?_ | refine iNot ?_ | refine iPick ?_ | refine iE20 ?_ | refine iE21 ?_ | refine iE30 ?_ | refine iE31 ?_ | refine iE32 ?_)
    | ((with_reducible show xLd _ _ _); refine iLdB (by assumption) (by first | rfl | simp) ?_) | ((with_reducible refine iLdA (by assumption) ?_ ?_); rfl)
    | ((with_reducible refine iIaNN (by assumption) ?_ (fun pa_ hpa_ => ?_)); omega) | ((with_reducible refine iIaN (by assumption) ?_ (fun pa_ hpa_ => ?_)); omega)
    | ((with_reducible refine iIaI (by assumption) ?_ ?_ (fun pa_ hpa_ => ?_)); omega; omega) | ((with_reducible refine iAdd ?_ ?_); omega) | ((with_reducible refine iSub ?_ ?_); omega)
    | ((with_reducible show xEx _ _ _); refine iEx (by rfl) ?_) | ((with_reducible refine fun (_ : Nat → Value) => ?_); (try simp only [gx])))
      refine iJnB false w6 (fun J hJ => ?_) (fun w8 h8 => ?_)
      · (repeat first
    | (with_reducible first | refine iFa ?_ | refine iNil ?_ | refine iNilF ?_ | refine iLd (by assumption) ?_ | refine iLenN (by assumption) ?_ | refine iLenI (by assumption) ?_ | refine iLenS (by assumption) ?_ | refine iLenL ?_ | refine iEq ?_ | refine iNe ?_ | refine iLt ?_ | refine iLe ?_ | refine iNot ?_ | refine iPick ?_ | refine iE20 ?_ | refine iE21 ?_ | refine iE30 ?_ | refine iE31 ?_ | refine iE32 ?_ | refine iJn ?_)
    | ((with_reducible show xLd _ _ _); refine iLdB (by assumption) (by first | rfl | simp) ?_) | ((with_reducible refine iLdA (by assumption) ?_ ?_); rfl)
    | ((with_reducible refine iIaNN (by assumption) ?_ (fun pa_ hpa_ => ?_)); omega) | ((with_reducible refine iIaN (by assumption) ?_ (fun pa_ hpa_ => ?_)); omega)
    | ((with_reducible refine iIaI (by assumption) ?_ ?_ (fun pa_ hpa_ => ?_)); omega; omega) | ((with_reducible refine iAdd ?_ ?_); omega) | ((with_reducible refine iSub ?_ ?_); omega)
    | ((with_reducible show xEx _ _ _); refine iEx (by rfl) ?_) | ((with_reducible refine fun (_ : Nat → Value) => ?_); (try simp only [gx])))
        refine iCndP (fun _ => ?_) (fun h => absurd (show (-1 : Int) < 0 by omega) h)
        (repeat first
    | (with_reducible first | refine iFa ?_ | refine iNil ?_ | refine iNilF ?_ | refine iLd (by assumption) ?_ | refine iLenN (by assumption) ?_ | refine iLenI (by assumption) ?_ | refine iLenS (by assumption) ?_ | refine iLenL ?_ | refine iEq ?_ | refine iNe ?_ | refine iLt ?_ | refine iLe ?_ | refine iNot ?_ | refine iPick ?_ | refine iE20 ?_ | refine iE21 ?_ | refine iE30 ?_ | refine iE31 ?_ | refine iE32 ?_ | refine iJn ?_)
    | ((with_reducible show xLd _ _ _); refine iLdB (by assumption) (by first | rfl | simp) ?_) | ((with_reducible refine iLdA (by assumption) ?_ ?_); rfl)
    | ((with_reducible refine iIaNN (by assumption) ?_ (fun pa_ hpa_ => ?_)); omega) | ((with_reducible refine iIaN (by assumption) ?_ (fun pa_ hpa_ => ?_)); omega)
    | ((with_reducible refine iIaI (by assumption) ?_ ?_ (fun pa_ hpa_ => ?_)); omega; omega) | ((with_reducible refine iAdd ?_ ?_); omega) | ((with_reducible refine iSub ?_ ?_); omega)
    | ((with_reducible show xEx _ _ _); refine iEx (by rfl) ?_) | ((with_reducible refine fun (_ : Nat → Value) => ?_); (try simp only [gx])))
        refine iRetQ (fun w' h' => ok_spec_l01One k (by omega) w') ?_
        refine iRetQ (fun w' h' => ok_reach_one hp (hs6.ext h') hk1) ?_
        refine iRetQ (fun w' h' => ok_spec_l01Bit _ j (by omega) (by omega) w') ?_
        refine iCnd (fun hb1 => ?_) (fun hb1 => ?_)
        · (repeat first
    | (with_reducible first | refine iFa ?_ | refine iNil ?_ | refine iNilF ?_ | refine iLd (by assumption) ?_ | refine iLenN (by assumption) ?_ | refine iLenI (by assumption) ?_ | refine iLenS (by assumption) ?_ | refine iLenL ?_ | refine iEq ?_ | refine iNe ?_ | refine iLt ?_ | refine iLe ?_ | refine iNot ?_ | refine iPick ?_ | refine iE20 ?_ | refine iE21 ?_ | refine iE30 ?_ | refine iE31 ?_ | refine iE32 ?_ | refine iJn ?_)
    | ((with_reducible show xLd _ _ _); refine iLdB (by assumption) (by first | rfl | simp) ?_) | ((with_reducible refine iLdA (by assumption) ?_ ?_); rfl)
    | ((with_reducible refine iIaNN (by assumption) ?_ (fun pa_ hpa_ => ?_)); omega) | ((with_reducible refine iIaN (by assumption) ?_ (fun pa_ hpa_ => ?_)); omega)
    | ((with_reducible refine iIaI (by assumption) ?_ ?_ (fun pa_ hpa_ => ?_)); omega; omega) | ((with_reducible refine iAdd ?_ ?_); omega) | ((with_reducible refine iSub ?_ ?_); omega)
    | ((with_reducible show xEx _ _ _); refine iEx (by rfl) ?_) | ((with_reducible refine fun (_ : Nat → Value) => ?_); (try simp only [gx])))
          refine iRetQ (fun w' h' => ok_spec_l01One j (by omega) w') ?_
          refine iRetQ (fun w' h' => ok_reach_one hp (hs6.ext h') hj1) ?_
          refine iRetQ (fun w' h' => ok_spec_l01Bit _ k (by omega) (by omega) w') ?_
          intro w9 h9
          have hb2 : (f.a.getD j 0).testBit k = false := by
            rw [Bool.eq_false_iff]
            intro hb2
            have := hp.anti k j hb1 hb2
            omega
          rw [hb2]
          exact hJ w9 h9
        · exact fun w9 h9 => hJ w9 h9
      · (repeat first
    | (with_reducible first | refine iFa ?_ | refine iNil ?_ | refine iNilF ?_ | refine iLd (by assumption) ?_ | refine iLenN (by assumption) ?_ | refine iLenI (by assumption) ?_ | refine iLenS (by assumption) ?_ | refine iLenL ?_ | refine iEq ?_ | refine iNe ?_ | refine iLt ?_ | refine iLe ?_ | refine iNot ?_ | refine iPick ?_ | refine iE20 ?_ | refine iE21 ?_ | refine iE30 ?_ | refine iE31 ?_ | refine iE32 ?_ | refine iJn ?_)
    | ((with_reducible show xLd _ _ _); refine iLdB (by assumption) (by first | rfl | simp) ?_) | ((with_reducible refine iLdA (by assumption) ?_ ?_); rfl)
    | ((with_reducible refine iIaNN (by assumption) ?_ (fun pa_ hpa_ => ?_)); omega) | ((with_reducible refine iIaN (by assumption) ?_ (fun pa_ hpa_ => ?_)); omega)
    | ((with_reducible refine iIaI (by assumption) ?_ ?_ (fun pa_ hpa_ => ?_)); omega; omega) | ((with_reducible refine iAdd ?_ ?_); omega) | ((with_reducible refine iSub ?_ ?_); omega)
    | ((with_reducible show xEx _ _ _); refine iEx (by rfl) ?_) | ((with_reducible refine fun (_ : Nat → Value) => ?_); (try simp only [gx])))
        refine iCndF rfl ?_
        (repeat first
    | (with_reducible first | refine iFa ?_ | refine iNil ?_ | refine iNilF ?_ | refine iLd (by assumption) ?_ | refine iLenN (by assumption) ?_ | refine iLenI (by assumption) ?_ | refine iLenS (by assumption) ?_ | refine iLenL ?_ | refine iEq ?_ | refine iNe ?_ | refine iLt ?_ | refine iLe ?_ | refine iNot ?_ | refine iPick ?_ | refine iE20 ?_ | refine iE21 ?_ | refine iE30 ?_ | refine iE31 ?_ | refine iE32 ?_ | refine iJn ?_)
    | ((with_reducible show xLd _ _ _); refine iLdB (by assumption) (by first | rfl | simp) ?_) | ((with_reducible refine iLdA (by assumption) ?_ ?_); rfl)
    | ((with_reducible refine iIaNN (by assumption) ?_ (fun pa_ hpa_ => ?_)); omega) | ((with_reducible refine iIaN (by assumption) ?_ (fun pa_ hpa_ => ?_)); omega)
    | ((with_reducible refine iIaI (by assumption) ?_ ?_ (fun pa_ hpa_ => ?_)); omega; omega) | ((with_reducible refine iAdd ?_ ?_); omega) | ((with_reducible refine iSub ?_ ?_); omega)
    | ((with_reducible show xEx _ _ _); refine iEx (by rfl) ?_) | ((with_reducible refine fun (_ : Nat → Value) => ?_); (try simp only [gx])))
        exact hKn6 (j + 1) _ ⟨by omega, h6.trans h8⟩ (by omega)
    · (repeat first
    | (with_reducible first | refine iFa ?_ | refine iNil ?_ | refine iNilF ?_ | refine iLd (by assumption) ?_ | refine iLenN (by assumption) ?_ | refine iLenI (by assumption) ?_ | refine iLenS (by assumption) ?_ | refine iLenL ?_ | refine iEq ?_ | refine iNe ?_ | refine iLt ?_ | refine iLe ?_ | refine iNot ?_ | refine iPick ?_ | refine iE20 ?_ | refine iE21 ?_ | refine iE30 ?_ | refine iE31 ?_ | refine iE32 ?_)
    | ((with_reducible show xLd _ _ _); refine iLdB (by assumption) (by first | rfl | simp) ?_) | ((with_reducible refine iLdA (by assumption) ?_ ?_); rfl)
    | ((with_reducible refine iIaNN (by assumption) ?_ (fun pa_ hpa_ => ?_)); omega) | ((with_reducible refine iIaN (by assumption) ?_ (fun pa_ hpa_ => ?_)); omega)
    | ((with_reducible refine iIaI (by assumption) ?_ ?_ (fun pa_ hpa_ => ?_)); omega; omega) | ((with_reducible refine iAdd ?_ ?_); omega) | ((with_reducible refine iSub ?_ ?_); omega)
    | ((with_reducible show xEx _ _ _); refine iEx (by rfl) ?_) | ((with_reducible refine fun (_ : Nat → Value) => ?_); (try simp only [gx])))
      refine iJn ?_
      refine iCndP (fun _ => ?_) (fun h => absurd (show (-1 : Int) < 0 by omega) h)
      (repeat first
    | (with_reducible first | refine iFa ?_ | refine iNil ?_ | refine iNilF ?_ | refine iLd (by assumption) ?_ | refine iLenN (by assumption) ?_ | refine iLenI (by assumption) ?_ | refine iLenS (by assumption) ?_ | refine iLenL ?_ | refine iEq ?_ | refine iNe ?_ | refine iLt ?_ | refine iLe ?_ | refine iNot ?_ | refine iPick ?_ | refine iE20 ?_ | refine iE21 ?_ | refine iE30 ?_ | refine iE31 ?_ | refine iE32 ?_ | refine iJn ?_)
    | ((with_reducible show xLd _ _ _); refine iLdB (by assumption) (by first | rfl | simp) ?_) | ((with_reducible refine iLdA (by assumption) ?_ ?_); rfl)
    | ((with_reducible refine iIaNN (by assumption) ?_ (fun pa_ hpa_ => ?_)); omega) | ((with_reducible refine iIaN (by assumption) ?_ (fun pa_ hpa_ => ?_)); omega)
    | ((with_reducible refine iIaI (by assumption) ?_ ?_ (fun pa_ hpa_ => ?_)); omega; omega) | ((with_reducible refine iAdd ?_ ?_); omega) | ((with_reducible refine iSub ?_ ?_); omega)
    | ((with_reducible show xEx _ _ _); refine iEx (by rfl) ?_) | ((with_reducible refine fun (_ : Nat → Value) => ?_); (try simp only [gx])))
      have hil : (ints (nats (List.range k))).length = k := by rw [ints_length, nats_length, List.length_range]
      refine iApp1 u_Si64 i_Si64 rfl ho6 rfl (by omega) (by omega) (hX4.trans h6).size fun v' w7 ho' hg => ?_
      rw [ints_snoc, ← List.range_succ] at ho'
      (repeat first
    | (with_reducible first | refine iFa ?_ | refine iNil ?_ | refine iNilF ?_ | refine iLd (by assumption) ?_ | refine iLenN (by assumption) ?_ | refine iLenI (by assumption) ?_ | refine iLenS (by assumption) ?_ | refine iLenL ?_ | refine iEq ?_ | refine iNe ?_ | refine iLt ?_ | refine iLe ?_ | refine iNot ?_ | refine iPick ?_ | refine iE20 ?_ | refine iE21 ?_ | refine iE30 ?_ | refine iE31 ?_ | refine iE32 ?_ | refine iJn ?_)
    | ((with_reducible show xLd _ _ _); refine iLdB (by assumption) (by first | rfl | simp) ?_) | ((with_reducible refine iLdA (by assumption) ?_ ?_); rfl)
    | ((with_reducible refine iIaNN (by assumption) ?_ (fun pa_ hpa_ => ?_)); omega) | ((with_reducible refine iIaN (by assumption) ?_ (fun pa_ hpa_ => ?_)); omega)
    | ((with_reducible refine iIaI (by assumption) ?_ ?_ (fun pa_ hpa_ => ?_)); omega; omega) | ((with_reducible refine iAdd ?_ ?_); omega) | ((with_reducible refine iSub ?_ ?_); omega)
    | ((with_reducible show xEx _ _ _); refine iEx (by rfl) ?_) | ((with_reducible refine fun (_ : Nat → Value) => ?_); (try simp only [gx])))
      refine hKn (v', k + 1) _ ⟨by show k + 1 ≤ f.n; omega, (hX4.trans h6).grown hg (fun c hc => (ho6.blk c hc).1), hB6.grown hg (ho6.ne_blk hB6 hne), ho'⟩ (by show f.n - (k + 1) < f.n - k; omega)
  · have : k = f.n := by omega
    subst this
    exact ⟨hX4, ho4⟩
theorem ok_spec_l05Depth_po {f : Fr} (hp : Po f) : ∀ (d x : Nat), x < f.n → popc (f.a.getD x 0) ≤ d → ∀ (v vc : Value) (w : World), SlN w v f.a → SlN w vc (List.range f.n) →
    Ret Tryz.prog f_spec_l05Depth #[.agg #[.int .i64 (f.n : Int), v], vc, .int .i64 (x : Int)] w (.int .i64 ((dep f x : Nat) : Int)) := by
  have hf8 := hp.ok.1
  have hfl := hp.ok.2.1
  intro d
  induction d with
  | zero => intro x hx h; have := popc_pos hp hx; omega
  | succ d ih =>
    intro x hx hd v vc w hs hc
    apply c_spec_l05Depth; unfold S_spec_l05Depth
    have hgx := fr_lt63 hp.ok x
    have hrl : (List.range f.n).length = f.n := List.length_range
    refine iNew fun b w1 hb1 h1 hB => ?_
    have hs1 := hs.ext h1
    have hc1 := hc.ext h1
    (repeat first
    | (with_reducible first | refine iFa ?_ | refine iNil ?_ | refine iNilF ?_ | refine iLd (by assumption) ?_ | refine iLenN (by assumption) ?_ | refine iLenI (by assumption) ?_ | refine iLenS (by assumption) ?_ | refine iLenL ?_ | refine iEq ?_ | refine iNe ?_ | refine iLt ?_ | refine iLe ?_ | refine iNot ?_ | refine iPick ?_ | refine iE20 ?_ | refine iE21 ?_ | refine iE30 ?_ | refine iE31 ?_ | refine iE32 ?_ | refine iJn ?_)
    | ((with_reducible show xLd _ _ _); refine iLdB (by assumption) (by first | rfl | simp) ?_) | ((with_reducible refine iLdA (by assumption) ?_ ?_); rfl)
    | ((with_reducible refine iIaNN (by assumption) ?_ (fun pa_ hpa_ => ?_)); omega) | ((with_reducible refine iIaN (by assumption) ?_ (fun pa_ hpa_ => ?_)); omega)
    | ((with_reducible refine iIaI (by assumption) ?_ ?_ (fun pa_ hpa_ => ?_)); omega; omega) | ((with_reducible refine iAdd ?_ ?_); omega) | ((with_reducible refine iSub ?_ ?_); omega)
    | ((with_reducible show xEx _ _ _); refine iEx (by rfl) ?_) | ((with_reducible refine fun (_ : Nat → Value) => ?_); (try simp only [gx])))
    refine iRetQ (fun w' h' => ok_spec_l01One x (by omega) w') ?_
    refine iRetQ (fun w' h' => ok_reach_one hp (hs1.ext h') hx) ?_
    intro w2 h2
    have hB2 := hB.ext h2
    have hs2 := hs1.ext h2
    have hc2 := hc1.ext h2
    refine iLp (fun k : Nat => [.int .i64 ((bestF (dep f) (aboveB f x) k : Nat) : Int), .int .i64 (k : Int)]) (fun k w' => k ≤ f.n ∧ Ext w2 w') (fun k => f.n - k) 0 rfl ⟨Nat.zero_le _, Ext.refl _⟩ ?_
    rintro k w4 Kn ⟨hk, h4⟩ hKn
    have hB4 := hB2.ext h4
    have hs4 := hs2.ext h4
    have hc4 := hc2.ext h4
    (repeat first
    | (with_reducible first | refine iFa ?_ | refine iNil ?_ | refine iNilF ?_ | refine iLd (by assumption) ?_ | refine iLenN (by assumption) ?_ | refine iLenI (by assumption) ?_ | refine iLenS (by assumption) ?_ | refine iLenL ?_ | refine iEq ?_ | refine iNe ?_ | refine iLt ?_ | refine iLe ?_ | refine iNot ?_ | refine iPick ?_ | refine iE20 ?_ | refine iE21 ?_ | refine iE30 ?_ | refine iE31 ?_ | refine iE32 ?_ | refine iJn ?_)
    | ((with_reducible show xLd _ _ _); refine iLdB (by assumption) (by first | rfl | simp) ?_) | ((with_reducible refine iLdA (by assumption) ?_ ?_); rfl)
    | ((with_reducible refine iIaNN (by assumption) ?_ (fun pa_ hpa_ => ?_)); omega) | ((with_reducible refine iIaN (by assumption) ?_ (fun pa_ hpa_ => ?_)); omega)
    | ((with_reducible refine iIaI (by assumption) ?_ ?_ (fun pa_ hpa_ => ?_)); omega; omega) | ((with_reducible refine iAdd ?_ ?_); omega) | ((with_reducible refine iSub ?_ ?_); omega)
    | ((with_reducible show xEx _ _ _); refine iEx (by rfl) ?_) | ((with_reducible refine fun (_ : Nat → Value) => ?_); (try simp only [gx])))
    refine iCndP (fun h5 => ?_) (fun h5 => ?_)
    · have hk1 : k < f.n := by omega
      have hbs := bestF_succ (dep f) (aboveB f x) k
      (repeat first
    | (with_reducible first | refine iFa ?_ | refine iNil ?_ | refine iNilF ?_ | refine iLd (by assumption) ?_ | refine iLenN (by assumption) ?_ | refine iLenI (by assumption) ?_ | refine iLenS (by assumption) ?_ | refine iLenL ?_ | refine iEq ?_ | refine iNe ?_ | refine iLt ?_ | refine iLe ?_ | refine iNot ?_ | refine iPick ?_ | refine iE20 ?_ | refine iE21 ?_ | refine iE30 ?_ | refine iE31 ?_ | refine iE32 ?_)
    | ((with_reducible show xLd _ _ _); refine iLdB (by assumption) (by first | rfl | simp) ?_) | ((with_reducible refine iLdA (by assumption) ?_ ?_); rfl)
    | ((with_reducible refine iIaNN (by assumption) ?_ (fun pa_ hpa_ => ?_)); omega) | ((with_reducible refine iIaN (by assumption) ?_ (fun pa_ hpa_ => ?_)); omega)
    | ((with_reducible refine iIaI (by assumption) ?_ ?_ (fun pa_ hpa_ => ?_)); omega; omega) | ((with_reducible refine iAdd ?_ ?_); omega) | ((with_reducible refine iSub ?_ ?_); omega)
    | ((with_reducible show xEx _ _ _); refine iEx (by rfl) ?_) | ((with_reducible refine fun (_ : Nat → Value) => ?_); (try simp only [gx])))
      refine iJnB (aboveB f x k) w4 (fun J hJ => ?_) (fun w6 h6 => ?_)
      · (repeat first
    | (with_reducible first | refine iFa ?_ | refine iNil ?_ | refine iNilF ?_ | refine iLd (by assumption) ?_ | refine iLenN (by assumption) ?_ | refine iLenI (by assumption) ?_ | refine iLenS (by assumption) ?_ | refine iLenL ?_ | refine iEq ?_ | refine iNe ?_ | refine iLt ?_ | refine iLe ?_ | refine iNot ?_ | refine iPick ?_ | refine iE20 ?_ | refine iE21 ?_ | refine iE30 ?_ | refine iE31 ?_ | refine iE32 ?_ | refine iJn ?_)
    | ((with_reducible show xLd _ _ _); refine iLdB (by assumption) (by first | rfl | simp) ?_) | ((with_reducible refine iLdA (by assumption) ?_ ?_); rfl)
    | ((with_reducible refine iIaNN (by assumption) ?_ (fun pa_ hpa_ => ?_)); omega) | ((with_reducible refine iIaN (by assumption) ?_ (fun pa_ hpa_ => ?_)); omega)
    | ((with_reducible refine iIaI (by assumption) ?_ ?_ (fun pa_ hpa_ => ?_)); omega; omega) | ((with_reducible refine iAdd ?_ ?_); omega) | ((with_reducible refine iSub ?_ ?_); omega)
    | ((with_reducible show xEx _ _ _); refine iEx (by rfl) ?_) | ((with_reducible refine fun (_ : Nat → Value) => ?_); (try simp only [gx])))
        rw [getD_range hk1, getD_range hx]
        refine iCndP (fun h7 => ?_) (fun h7 => ?_)
        · have e : aboveB f x k = (f.a.getD x 0).testBit k := by
            unfold aboveB
            rw [decide_eq_false (show ¬ k = x by omega)]; rfl
          refine iRetQ (fun w' h' => ok_spec_l01Bit _ k (by omega) (by omega) w') ?_
          intro w7 h7
          rw [← e]
          exact hJ w7 h7
        · have e : aboveB f x k = false := by
            unfold aboveB
            rw [decide_eq_true (show k = x by omega)]; rfl
          intro w7 h7
          rw [← e]
          exact hJ w7 h7
      · have hB6 := hB4.ext h6
        have hs6 := hs4.ext h6
        have hc6 := hc4.ext h6
        (repeat first
    | (with_reducible first | refine iFa ?_ | refine iNil ?_ | refine iNilF ?_ | refine iLd (by assumption) ?_ | refine iLenN (by assumption) ?_ | refine iLenI (by assumption) ?_ | refine iLenS (by assumption) ?_ | refine iLenL ?_ | refine iEq ?_ | refine iNe ?_ | refine iLt ?_ | refine iLe ?_ | refine iNot ?_ | refine iPick ?_ | refine iE20 ?_ | refine iE21 ?_ | refine iE30 ?_ | refine iE31 ?_ | refine iE32 ?_ | refine iJn ?_)
    | ((with_reducible show xLd _ _ _); refine iLdB (by assumption) (by first | rfl | simp) ?_) | ((with_reducible refine iLdA (by assumption) ?_ ?_); rfl)
    | ((with_reducible refine iIaNN (by assumption) ?_ (fun pa_ hpa_ => ?_)); omega) | ((with_reducible refine iIaN (by assumption) ?_ (fun pa_ hpa_ => ?_)); omega)
    | ((with_reducible refine iIaI (by assumption) ?_ ?_ (fun pa_ hpa_ => ?_)); omega; omega) | ((with_reducible refine iAdd ?_ ?_); omega) | ((with_reducible refine iSub ?_ ?_); omega)
    | ((with_reducible show xEx _ _ _); refine iEx (by rfl) ?_) | ((with_reducible refine fun (_ : Nat → Value) => ?_); (try simp only [gx])))
        refine iCnd (fun h7 => ?_) (fun h7 => ?_)
        · rw [h7, if_pos rfl] at hbs
          have hpk := popc_above hp h7
          (repeat first
    | (with_reducible first | refine iFa ?_ | refine iNil ?_ | refine iNilF ?_ | refine iLd (by assumption) ?_ | refine iLenN (by assumption) ?_ | refine iLenI (by assumption) ?_ | refine iLenS (by assumption) ?_ | refine iLenL ?_ | refine iEq ?_ | refine iNe ?_ | refine iLt ?_ | refine iLe ?_ | refine iNot ?_ | refine iPick ?_ | refine iE20 ?_ | refine iE21 ?_ | refine iE30 ?_ | refine iE31 ?_ | refine iE32 ?_ | refine iJn ?_)
    | ((with_reducible show xLd _ _ _); refine iLdB (by assumption) (by first | rfl | simp) ?_) | ((with_reducible refine iLdA (by assumption) ?_ ?_); rfl)
    | ((with_reducible refine iIaNN (by assumption) ?_ (fun pa_ hpa_ => ?_)); omega) | ((with_reducible refine iIaN (by assumption) ?_ (fun pa_ hpa_ => ?_)); omega)
    | ((with_reducible refine iIaI (by assumption) ?_ ?_ (fun pa_ hpa_ => ?_)); omega; omega) | ((with_reducible refine iAdd ?_ ?_); omega) | ((with_reducible refine iSub ?_ ?_); omega)
    | ((with_reducible show xEx _ _ _); refine iEx (by rfl) ?_) | ((with_reducible refine fun (_ : Nat → Value) => ?_); (try simp only [gx])))
          refine iRet (ih k hk1 (by omega) v vc w6 hs6 hc6) fun w9 h9 => ?_
          refine iMaxN ?_
          rw [← hbs]
          (repeat first
    | (with_reducible first | refine iFa ?_ | refine iNil ?_ | refine iNilF ?_ | refine iLd (by assumption) ?_ | refine iLenN (by assumption) ?_ | refine iLenI (by assumption) ?_ | refine iLenS (by assumption) ?_ | refine iLenL ?_ | refine iEq ?_ | refine iNe ?_ | refine iLt ?_ | refine iLe ?_ | refine iNot ?_ | refine iPick ?_ | refine iE20 ?_ | refine iE21 ?_ | refine iE30 ?_ | refine iE31 ?_ | refine iE32 ?_ | refine iJn ?_)
    | ((with_reducible show xLd _ _ _); refine iLdB (by assumption) (by first | rfl | simp) ?_) | ((with_reducible refine iLdA (by assumption) ?_ ?_); rfl)
    | ((with_reducible refine iIaNN (by assumption) ?_ (fun pa_ hpa_ => ?_)); omega) | ((with_reducible refine iIaN (by assumption) ?_ (fun pa_ hpa_ => ?_)); omega)
    | ((with_reducible refine iIaI (by assumption) ?_ ?_ (fun pa_ hpa_ => ?_)); omega; omega) | ((with_reducible refine iAdd ?_ ?_); omega) | ((with_reducible refine iSub ?_ ?_); omega)
    | ((with_reducible show xEx _ _ _); refine iEx (by rfl) ?_) | ((with_reducible refine fun (_ : Nat → Value) => ?_); (try simp only [gx])))
          exact hKn (k + 1) _ ⟨by omega, h4.trans (h6.trans h9)⟩ (by omega)
        · rw [h7, if_neg (by simp)] at hbs
          (repeat first
    | (with_reducible first | refine iFa ?_ | refine iNil ?_ | refine iNilF ?_ | refine iLd (by assumption) ?_ | refine iLenN (by assumption) ?_ | refine iLenI (by assumption) ?_ | refine iLenS (by assumption) ?_ | refine iLenL ?_ | refine iEq ?_ | refine iNe ?_ | refine iLt ?_ | refine iLe ?_ | refine iNot ?_ | refine iPick ?_ | refine iE20 ?_ | refine iE21 ?_ | refine iE30 ?_ | refine iE31 ?_ | refine iE32 ?_ | refine iJn ?_)
    | ((with_reducible show xLd _ _ _); refine iLdB (by assumption) (by first | rfl | simp) ?_) | ((with_reducible refine iLdA (by assumption) ?_ ?_); rfl)
    | ((with_reducible refine iIaNN (by assumption) ?_ (fun pa_ hpa_ => ?_)); omega) | ((with_reducible refine iIaN (by assumption) ?_ (fun pa_ hpa_ => ?_)); omega)
    | ((with_reducible refine iIaI (by assumption) ?_ ?_ (fun pa_ hpa_ => ?_)); omega; omega) | ((with_reducible refine iAdd ?_ ?_); omega) | ((with_reducible refine iSub ?_ ?_); omega)
    | ((with_reducible show xEx _ _ _); refine iEx (by rfl) ?_) | ((with_reducible refine fun (_ : Nat → Value) => ?_); (try simp only [gx])))
          rw [← hbs]
          exact hKn (k + 1) _ ⟨by omega, h4.trans h6⟩ (by omega)
    · obtain rfl : k = f.n := by omega
      have e := dep_unf hp x
      have hle3 := dep_le hp hx
      (repeat first
    | (with_reducible first | refine iFa ?_ | refine iNil ?_ | refine iNilF ?_ | refine iLd (by assumption) ?_ | refine iLenN (by assumption) ?_ | refine iLenI (by assumption) ?_ | refine iLenS (by assumption) ?_ | refine iLenL ?_ | refine iEq ?_ | refine iNe ?_ | refine iLt ?_ | refine iLe ?_ | refine iNot ?_ | refine iPick ?_ | refine iE20 ?_ | refine iE21 ?_ | refine iE30 ?_ | refine iE31 ?_ | refine iE32 ?_ | refine iJn ?_)
    | ((with_reducible show xLd _ _ _); refine iLdB (by assumption) (by first | rfl | simp) ?_) | ((with_reducible refine iLdA (by assumption) ?_ ?_); rfl)
    | ((with_reducible refine iIaNN (by assumption) ?_ (fun pa_ hpa_ => ?_)); omega) | ((with_reducible refine iIaN (by assumption) ?_ (fun pa_ hpa_ => ?_)); omega)
    | ((with_reducible refine iIaI (by assumption) ?_ ?_ (fun pa_ hpa_ => ?_)); omega; omega) | ((with_reducible refine iAdd ?_ ?_); omega) | ((with_reducible refine iSub ?_ ?_); omega)
    | ((with_reducible show xEx _ _ _); refine iEx (by rfl) ?_) | ((with_reducible refine fun (_ : Nat → Value) => ?_); (try simp only [gx])))
      refine ⟨?_, h1.trans (h2.trans h4)⟩
      rw [e, Int.natCast_add]; rfl
theorem ok_spec_l05Depths_po {f : Fr} (hp : Po f) {v : Value} {w : World} (hs : SlN w v f.a) : Cal Tryz.prog f_spec_l05Depths #[.agg #[.int .i64 (f.n : Int), v]] w fun u w' => Ext w w' ∧ Ow w.heap.size t_i64 w' u (ints (nats ((List.range f.n).map (dep f)))) := by
  apply c_spec_l05Depths; unfold S_spec_l05Depths
  have hf8 := hp.ok.1
  have hfl := hp.ok.2.1
  refine iNew fun b w1 hb1 h1 hB => ?_
  have hs1 := hs.ext h1
  (repeat first
    | (with_reducible first | refine iFa ?_ | refine iNil ?_ | refine iNilF ?_ | refine iLd (by assumption) ?_ | refine iLenN (by assumption) ?_ | refine iLenI (by assumption) ?_ | refine iLenS (by assumption) ?_ | refine iLenL ?_ | refine iEq ?_ | refine iNe ?_ | refine iLt ?_ | refine iLe ?_ | refine iNot ?_ | refine iPick ?_ | refine iE20 ?_ | refine iE21 ?_ | refine iE30 ?_ | refine iE31 ?_ | refine iE32 ?_ | refine iJn ?_)
    | ((with_reducible show xLd _ _ _); refine iLdB (by assumption) (by first | rfl | simp) ?_) | ((with_reducible refine iLdA (by assumption) ?_ ?_); rfl)
    | ((with_reducible refine iIaNN (by assumption) ?_ (fun pa_ hpa_ => ?_)); omega) | ((with_reducible refine iIaN (by assumption) ?_ (fun pa_ hpa_ => ?_)); omega)
    | ((with_reducible refine iIaI (by assumption) ?_ ?_ (fun pa_ hpa_ => ?_)); omega; omega) | ((with_reducible refine iAdd ?_ ?_); omega) | ((with_reducible refine iSub ?_ ?_); omega)
    | ((with_reducible show xEx _ _ _); refine iEx (by rfl) ?_) | ((with_reducible refine fun (_ : Nat → Value) => ?_); (try simp only [gx])))
  refine iCall ((ok_spec_l05Clusters_po hp hs1).mono ?_)
  rintro vc w2 ⟨h2, hoc⟩
  refine iBs0 fun v8 w3 _ h3 ho => ?_
  have hX3 := h1.trans (h2.trans h3)
  have hsz := (h1.trans h2).size
  obtain ⟨e, hne, hB⟩ : ∃ e, t_i64 ≠ e ∧ Blk e w3 b [.int .i64 (f.n : Int), v] := ⟨_, by decide, (hB.ext h2).ext h3⟩
  have hoc3 := hoc.ext h3
  refine iLp (fun s : Value × Nat => [s.1, .int .i64 (s.2 : Int)]) (fun s w' => s.2 ≤ f.n ∧ Ext w2 w' ∧ Blk e w' b [.int .i64 (f.n : Int), v] ∧ Ow w2.heap.size t_i64 w' s.1 (ints (nats ((List.range s.2).map (dep f))))) (fun s => f.n - s.2) (v8, 0) rfl ⟨Nat.zero_le _, h3, hB, ho⟩ ?_
  rintro ⟨u, k⟩ w5 Kn ⟨hk, h5, hB5, ho5⟩ hKn
  have hk : k ≤ f.n := hk
  have ho5 : Ow w2.heap.size t_i64 w5 u (ints (nats ((List.range k).map (dep f)))) := ho5
  have hs5 := (hs1.ext h2).ext h5
  have hc5 : SlN w5 vc (List.range f.n) := (hoc.ext h5).sl
  (repeat first
    | (with_reducible first | refine iFa ?_ | refine iNil ?_ | refine iNilF ?_ | refine iLd (by assumption) ?_ | refine iLenN (by assumption) ?_ | refine iLenI (by assumption) ?_ | refine iLenS (by assumption) ?_ | refine iLenL ?_ | refine iEq ?_ | refine iNe ?_ | refine iLt ?_ | refine iLe ?_ | refine iNot ?_ | refine iPick ?_ | refine iE20 ?_ | refine iE21 ?_ | refine iE30 ?_ | refine iE31 ?_ | refine iE32 ?_ | refine iJn ?_)
    | ((with_reducible show xLd _ _ _); refine iLdB (by assumption) (by first | rfl | simp) ?_) | ((with_reducible refine iLdA (by assumption) ?_ ?_); rfl)
    | ((with_reducible refine iIaNN (by assumption) ?_ (fun pa_ hpa_ => ?_)); omega) | ((with_reducible refine iIaN (by assumption) ?_ (fun pa_ hpa_ => ?_)); omega)
    | ((with_reducible refine iIaI (by assumption) ?_ ?_ (fun pa_ hpa_ => ?_)); omega; omega) | ((with_reducible refine iAdd ?_ ?_); omega) | ((with_reducible refine iSub ?_ ?_); omega)
    | ((with_reducible show xEx _ _ _); refine iEx (by rfl) ?_) | ((with_reducible refine fun (_ : Nat → Value) => ?_); (try simp only [gx])))
  refine iCndP (fun h6 => ?_) (fun h6 => ?_)
  · have hk1 : k < f.n := by omega
    (repeat first
    | (with_reducible first | refine iFa ?_ | refine iNil ?_ | refine iNilF ?_ | refine iLd (by assumption) ?_ | refine iLenN (by assumption) ?_ | refine iLenI (by assumption) ?_ | refine iLenS (by assumption) ?_ | refine iLenL ?_ | refine iEq ?_ | refine iNe ?_ | refine iLt ?_ | refine iLe ?_ | refine iNot ?_ | refine iPick ?_ | refine iE20 ?_ | refine iE21 ?_ | refine iE30 ?_ | refine iE31 ?_ | refine iE32 ?_ | refine iJn ?_)
    | ((with_reducible show xLd _ _ _); refine iLdB (by assumption) (by first | rfl | simp) ?_) | ((with_reducible refine iLdA (by assumption) ?_ ?_); rfl)
    | ((with_reducible refine iIaNN (by assumption) ?_ (fun pa_ hpa_ => ?_)); omega) | ((with_reducible refine iIaN (by assumption) ?_ (fun pa_ hpa_ => ?_)); omega)
    | ((with_reducible refine iIaI (by assumption) ?_ ?_ (fun pa_ hpa_ => ?_)); omega; omega) | ((with_reducible refine iAdd ?_ ?_); omega) | ((with_reducible refine iSub ?_ ?_); omega)
    | ((with_reducible show xEx _ _ _); refine iEx (by rfl) ?_) | ((with_reducible refine fun (_ : Nat → Value) => ?_); (try simp only [gx])))
    refine iRet (ok_spec_l05Depth_po hp 9 k hk1 (by have := popc_le8 hp.ok k; omega) v vc w5 hs5 hc5) fun w6 h7 => ?_
    have ho6 := ho5.ext h7
    have hB6 := hB5.ext h7
    have hil : (ints (nats ((List.range k).map (dep f)))).length = k := by rw [ints_length, nats_length, List.length_map, List.length_range]
    refine iApp1 u_Si64 i_Si64 rfl ho6 rfl (by omega) (by omega) (h5.trans h7).size fun v' w7 ho' hg => ?_
    rw [ints_snoc] at ho'
    (repeat first
    | (with_reducible first | refine iFa ?_ | refine iNil ?_ | refine iNilF ?_ | refine iLd (by assumption) ?_ | refine iLenN (by assumption) ?_ | refine iLenI (by assumption) ?_ | refine iLenS (by assumption) ?_ | refine iLenL ?_ | refine iEq ?_ | refine iNe ?_ | refine iLt ?_ | refine iLe ?_ | refine iNot ?_ | refine iPick ?_ | refine iE20 ?_ | refine iE21 ?_ | refine iE30 ?_ | refine iE31 ?_ | refine iE32 ?_ | refine iJn ?_)
    | ((with_reducible show xLd _ _ _); refine iLdB (by assumption) (by first | rfl | simp) ?_) | ((with_reducible refine iLdA (by assumption) ?_ ?_); rfl)
    | ((with_reducible refine iIaNN (by assumption) ?_ (fun pa_ hpa_ => ?_)); omega) | ((with_reducible refine iIaN (by assumption) ?_ (fun pa_ hpa_ => ?_)); omega)
    | ((with_reducible refine iIaI (by assumption) ?_ ?_ (fun pa_ hpa_ => ?_)); omega; omega) | ((with_reducible refine iAdd ?_ ?_); omega) | ((with_reducible refine iSub ?_ ?_); omega)
    | ((with_reducible show xEx _ _ _); refine iEx (by rfl) ?_) | ((with_reducible refine fun (_ : Nat → Value) => ?_); (try simp only [gx])))
    refine hKn (v', k + 1) _ ⟨by show k + 1 ≤ f.n; omega, (h5.trans h7).grown hg (fun c hc => (ho6.blk c hc).1), hB6.grown hg (ho6.ne_blk hB6 hne), ?_⟩ (by show f.n - (k + 1) < f.n - k; omega)
    show Ow w2.heap.size t_i64 w7 v' (ints (nats ((List.range (k + 1)).map (dep f))))
    rw [List.range_succ, List.map_append]
    exact ho'
  · have : k = f.n := by omega
    subst this
    exact ⟨(h1.trans h2).trans h5, ho5.mono hsz⟩
theorem ok_spec_l16Depths {f : Fr} (hp : Po f) {v : Value} {w : World} (hs : SlN w v f.a) : Cal Tryz.prog f_spec_l16Depths #[.agg #[.int .i64 (f.n : Int), v]] w fun u w' => Ext w w' ∧ Ow w.heap.size t_i64 w' u (ints (nats ((List.range f.n).map (dep f)))) := by
  apply c_spec_l16Depths; unfold S_spec_l16Depths
  refine iNew fun b w1 hb1 h1 hB => ?_
  have hs1 := hs.ext h1
  (repeat first
    | (with_reducible first | refine iFa ?_ | refine iNil ?_ | refine iNilF ?_ | refine iLd (by assumption) ?_ | refine iLenN (by assumption) ?_ | refine iLenI (by assumption) ?_ | refine iLenS (by assumption) ?_ | refine iLenL ?_ | refine iEq ?_ | refine iNe ?_ | refine iLt ?_ | refine iLe ?_ | refine iNot ?_ | refine iPick ?_ | refine iE20 ?_ | refine iE21 ?_ | refine iE30 ?_ | refine iE31 ?_ | refine iE32 ?_ | refine iJn ?_)
    | ((with_reducible show xLd _ _ _); refine iLdB (by assumption) (by first | rfl | simp) ?_) | ((with_reducible refine iLdA (by assumption) ?_ ?_); rfl)
    | ((with_reducible refine iIaNN (by assumption) ?_ (fun pa_ hpa_ => ?_)); omega) | ((with_reducible refine iIaN (by assumption) ?_ (fun pa_ hpa_ => ?_)); omega)
    | ((with_reducible refine iIaI (by assumption) ?_ ?_ (fun pa_ hpa_ => ?_)); omega; omega) | ((with_reducible refine iAdd ?_ ?_); omega) | ((with_reducible refine iSub ?_ ?_); omega)
    | ((with_reducible show xEx _ _ _); refine iEx (by rfl) ?_) | ((with_reducible refine fun (_ : Nat → Value) => ?_); (try simp only [gx])))
  obtain ⟨va, vc, rfl, hsh⟩ := id hs
  refine iBuild (cs := #[.int .i64 (f.n : Int), .slice va (ints (nats f.a)).length vc]) (by simp [Instr.fill, Value.cells]) ?_
  refine iCall ((ok_spec_l05Depths_po hp hs1).mono ?_)
  rintro u w2 ⟨h2, ho⟩
  exact ⟨h1.trans h2, ho.mono h1.size⟩
theorem ok_spec_l21Free (n : Nat) (hn : n ≤ 8) (w : World) : Cal Tryz.prog f_spec_l21Free #[.int .i64 (n : Int)] w fun u w' => Ext w w' ∧ Ow w.heap.size t_i64 w' u (ints (List.replicate n (-1))) := by
  apply c_spec_l21Free; unfold S_spec_l21Free
  refine iBs0 fun v8 w1 _ h1 ho => ?_
  refine iLp (fun s : Value × Nat => [s.1, .int .i64 (s.2 : Int)]) (fun s w' => s.2 ≤ n ∧ Ext w w' ∧ Ow w.heap.size t_i64 w' s.1 (ints (List.replicate s.2 (-1)))) (fun s => n - s.2) (v8, 0) rfl ⟨Nat.zero_le _, h1, ho⟩ ?_
  rintro ⟨u, k⟩ w3 Kn ⟨hk, h3, ho3⟩ hKn
  have hk : k ≤ n := hk
  have ho3 : Ow w.heap.size t_i64 w3 u (ints (List.replicate k (-1))) := ho3
  (repeat first
    | (with_reducible first | refine iFa ?_ | refine iNil ?_ | refine iNilF ?_ | refine iLd (by assumption) ?_ | refine iLenN (by assumption) ?_ | refine iLenI (by assumption) ?_ | refine iLenS (by assumption) ?_ | refine iLenL ?_ | refine iEq ?_ | refine iNe ?_ | refine iLt ?_ | refine iLe ?_ | refine iNot ?_ | refine iPick ?_ | refine iE20 ?_ | refine iE21 ?_ | refine iE30 ?_ | refine iE31 ?_ | refine iE32 ?_ | refine iJn ?_)
    | ((with_reducible show xLd _ _ _); refine iLdB (by assumption) (by first | rfl | simp) ?_) | ((with_reducible refine iLdA (by assumption) ?_ ?_); rfl)
    | ((with_reducible refine iIaNN (by assumption) ?_ (fun pa_ hpa_ => ?_)); omega) | ((with_reducible refine iIaN (by assumption) ?_ (fun pa_ hpa_ => ?_)); omega)
    | ((with_reducible refine iIaI (by assumption) ?_ ?_ (fun pa_ hpa_ => ?_)); omega; omega) | ((with_reducible refine iAdd ?_ ?_); omega) | ((with_reducible refine iSub ?_ ?_); omega)
    | ((with_reducible show xEx _ _ _); refine iEx (by rfl) ?_) | ((with_reducible refine fun (_ : Nat → Value) => ?_); (try simp only [gx])))
  refine iCndP (fun h4 => ?_) (fun h4 => ?_)
  · have hil : (ints (List.replicate k (-1))).length = k := by rw [ints_length, List.length_replicate]
    refine iApp1 u_Si64 i_Si64 rfl ho3 rfl (by omega) (by omega) h3.size fun v' w5 ho' hg => ?_
    (repeat first
    | (with_reducible first | refine iFa ?_ | refine iNil ?_ | refine iNilF ?_ | refine iLd (by assumption) ?_ | refine iLenN (by assumption) ?_ | refine iLenI (by assumption) ?_ | refine iLenS (by assumption) ?_ | refine iLenL ?_ | refine iEq ?_ | refine iNe ?_ | refine iLt ?_ | refine iLe ?_ | refine iNot ?_ | refine iPick ?_ | refine iE20 ?_ | refine iE21 ?_ | refine iE30 ?_ | refine iE31 ?_ | refine iE32 ?_ | refine iJn ?_)
    | ((with_reducible show xLd _ _ _); refine iLdB (by assumption) (by first | rfl | simp) ?_) | ((with_reducible refine iLdA (by assumption) ?_ ?_); rfl)
    | ((with_reducible refine iIaNN (by assumption) ?_ (fun pa_ hpa_ => ?_)); omega) | ((with_reducible refine iIaN (by assumption) ?_ (fun pa_ hpa_ => ?_)); omega)
    | ((with_reducible refine iIaI (by assumption) ?_ ?_ (fun pa_ hpa_ => ?_)); omega; omega) | ((with_reducible refine iAdd ?_ ?_); omega) | ((with_reducible refine iSub ?_ ?_); omega)
    | ((with_reducible show xEx _ _ _); refine iEx (by rfl) ?_) | ((with_reducible refine fun (_ : Nat → Value) => ?_); (try simp only [gx])))
    refine hKn (v', k + 1) _ ⟨by show k + 1 ≤ n; omega, h3.grown hg (fun c hc => (ho3.blk c hc).1), ?_⟩ (by show n - (k + 1) < n - k; omega)
    show Ow w.heap.size t_i64 w5 v' (ints (List.replicate (k + 1) (-1)))
    rw [List.replicate_succ']
    unfold ints at ho' ⊢
    rw [List.map_append]
    exact ho'
  · have : k = n := by omega
    subst this
    exact ⟨h3, ho3⟩
end Go.Proofs.YtoolpnkcmlebkaaGreat
