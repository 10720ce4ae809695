/- Contracts: the laws' helpers on lists of posets. Conditions: none. -/
import Derived.Test.YtoolpnkcmlebkaaGreatCla
import Derived.Test.YtoolpnkcmlebkaaGreatC30
namespace Go.Vc
/-- Structs of two cells, laid one behind the other. -/
def fl (n : Nat) (F : Nat → Value × Value) : List Value := (List.range n).flatMap fun i => [(F i).1, (F i).2]
theorem fl_succ (n : Nat) (F : Nat → Value × Value) : fl (n + 1) F = fl n F ++ [(F n).1, (F n).2] := by
  unfold fl; rw [List.range_succ, List.flatMap_append]; simp
theorem fl_len (n : Nat) (F : Nat → Value × Value) : (fl n F).length = 2 * n := by
  induction n with
  | zero => rfl
  | succ n ih => rw [fl_succ, List.length_append, ih]; simp; omega
theorem fl_get {n : Nat} {F : Nat → Value × Value} : ∀ {i : Nat}, i < n → (fl n F)[2 * i]? = some (F i).1 ∧ (fl n F)[2 * i + 1]? = some (F i).2 := by
  induction n with
  | zero => intro i h; omega
  | succ n ih =>
    intro i h
    rw [fl_succ]
    by_cases hi : i < n
    · obtain ⟨h1, h2⟩ := ih hi
      have hl := fl_len n F
      rw [List.getElem?_append_left (by omega), List.getElem?_append_left (by omega)]
      exact ⟨h1, h2⟩
    · obtain rfl : i = n := by omega
      have hl := fl_len i F
      rw [List.getElem?_append_right (by omega), List.getElem?_append_right (by omega), hl, Nat.sub_self, show 2 * i + 1 - 2 * i = 1 by omega]
      exact ⟨rfl, rfl⟩
theorem fl_congr {n : Nat} {F G : Nat → Value × Value} (h : ∀ i, i < n → F i = G i) : fl n F = fl n G := by
  induction n with
  | zero => rfl
  | succ n ih => rw [fl_succ, fl_succ, ih (fun i hi => h i (by omega)), h n (by omega)]
theorem fl_ext {n : Nat} {F : Nat → Value × Value} {l : List Value} (hl : l.length = 2 * n) (h : ∀ i, i < n → l[2 * i]? = some (F i).1 ∧ l[2 * i + 1]? = some (F i).2) : l = fl n F := by
  have hf := fl_len n F
  apply List.ext_getElem?
  intro m
  rcases Nat.lt_or_ge m (2 * n) with hm | hm
  · have hi : m / 2 < n := by omega
    obtain ⟨a1, a2⟩ := h _ hi
    obtain ⟨b1, b2⟩ := fl_get (F := F) hi
    rcases Nat.mod_two_eq_zero_or_one m with e | e
    · rw [show m = 2 * (m / 2) by omega, a1, b1]
    · rw [show m = 2 * (m / 2) + 1 by omega, a2, b2]
  · rw [List.getElem?_eq_none (by omega), List.getElem?_eq_none (by omega)]
theorem fl_set0 {n k : Nat} {F : Nat → Value × Value} (x : Value) : (fl n F).set (2 * k) x = fl n (fun j => if j = k then (x, (F j).2) else F j) := by
  refine fl_ext (by rw [List.length_set, fl_len]) fun i hi => ?_
  obtain ⟨b1, b2⟩ := fl_get (F := F) hi
  have hl := fl_len n F
  by_cases h : i = k
  · subst h
    rw [if_pos rfl, List.getElem?_set_self (by omega), List.getElem?_set_ne (by omega)]
    exact ⟨rfl, b2⟩
  · rw [if_neg h, List.getElem?_set_ne (by omega), List.getElem?_set_ne (by omega)]
    exact ⟨b1, b2⟩
theorem fl_set2 {n k : Nat} {F : Nat → Value × Value} (x y : Value) : ((fl n F).set (2 * k) x).set (2 * k + 1) y = fl n (fun j => if j = k then (x, y) else F j) := by
  refine fl_ext (by rw [List.length_set, List.length_set, fl_len]) fun i hi => ?_
  obtain ⟨b1, b2⟩ := fl_get (F := F) hi
  have hl := fl_len n F
  by_cases h : i = k
  · subst h
    rw [if_pos rfl, List.getElem?_set_ne (by omega), List.getElem?_set_self (by omega), List.getElem?_set_self (by rw [List.length_set]; omega)]
    exact ⟨rfl, rfl⟩
  · rw [if_neg h, List.getElem?_set_ne (by omega), List.getElem?_set_ne (by omega), List.getElem?_set_ne (by omega), List.getElem?_set_ne (by omega)]
    exact ⟨b1, b2⟩
section
variable {P : Program} {w : World}
/-- make([]T, n) of structs of two cells. -/
theorem iMk2 {e : TypeId} {x y : Value} {bytes n : Nat} {k : IntKind} {K : Value → World → Prop} (h1 : bytes * n ≤ 2 ^ 48) (h2 : (n : Int) ≤ 9223372036854775807)
    (h : ∀ b w', b = w.heap.size ∧ w'.heap.size = b + 1 → Ext w w' → Blk e w' b (fl n fun _ => (x, y)) → K (.slice (some ⟨b, 0, none⟩) n n) w') : xMk e (Value.cells (.agg #[x, y])) 2 bytes (.int k (n : Int)) (.int k (n : Int)) w K := by
  refine ⟨k, k, n, n, rfl, rfl, Nat.le_refl _, h2, by exact_mod_cast h1, ?_⟩
  have hb := Blk.new w ((Array.range (n * 2)).map (fun i => (Value.cells (.agg #[x, y]))[i % (Value.cells (.agg #[x, y])).size]!)) e
  have hc : ((Array.range (n * 2)).map (fun i => (Value.cells (.agg #[x, y]))[i % (Value.cells (.agg #[x, y])).size]!)).toList = fl n fun _ => (x, y) := by
    refine fl_ext (by simp; omega) fun i hi => ?_
    have e0 : 2 * i % 2 = 0 := by omega
    have e1 : (2 * i + 1) % 2 = 1 := by omega
    simp [Value.cells, show 2 * i < n * 2 by omega, show 2 * i + 1 < n * 2 by omega, e0, e1]
  rw [hc] at hb
  exact h _ _ ⟨rfl, by simp⟩ (Ext.alloc w _) hb
/-- A struct of two cells stored into a row of them. -/
theorem iStA2 {e : TypeId} {b o : Nat} {cs : List Value} {x y : Value} {K : World → Prop} (hb : Blk e w b cs) (ho : o + 1 < cs.length) (hx : isCell x = true) (hy : isCell y = true)
    (h : ∀ w', Upd b w w' → Blk e w' b ((cs.set o x).set (o + 1) y) → K w') : xStA P w 2 (.pointer (some ⟨b, o, none⟩)) (.agg #[x, y]) K := by
  have ha : ∀ i, (⟨b, o, none⟩ : Addr).add i = ⟨b, o + i, none⟩ := fun i => by
    simp only [Addr.add]; split
    · rename_i e; simp [e]
    · rfl
  have h1 : (store ⟨b, o, none⟩ x).run P w = .ok () (w.setCell ⟨b, o, none⟩ x) := by
    rw [run_store P w _ _ _ (isCell_one hx), hb.cell o, List.getElem?_eq_getElem (by omega)]
    simp [hb.frozen o]
  have hb1 := hb.set o x
  have h2 : (store ⟨b, o + 1, none⟩ y).run P (w.setCell ⟨b, o, none⟩ x) = .ok () ((w.setCell ⟨b, o, none⟩ x).setCell ⟨b, o + 1, none⟩ y) := by
    rw [run_store P _ _ _ _ (isCell_one hy), hb1.cell (o + 1), List.getElem?_eq_getElem (by rw [List.length_set]; omega)]
    simp [hb1.frozen (o + 1)]
  refine ⟨_, _, rfl, rfl, ?_, h _ ((Upd.setCell w b o x).trans (Upd.setCell _ b (o + 1) y)) (hb1.set (o + 1) y)⟩
  show (storeCells ⟨b, o, none⟩ [x, y] 0).run P w = _
  simp only [storeCells, Sem.run_bind, ha, Nat.add_zero, Nat.zero_add, h1, h2, Result.andThen_ok, Sem.run_pure]
end
def totP (ps : List (Int × List Int)) : Nat := (ps.map fun q => 1 + q.2.length).sum
theorem totP_snoc (ps : List (Int × List Int)) (q : Int × List Int) : totP (ps ++ [q]) = totP ps + (1 + q.2.length) := by simp [totP]
theorem totP_len (ps : List (Int × List Int)) : ps.length ≤ totP ps := by
  unfold totP
  induction ps with
  | nil => simp
  | cons q ps ih => simp only [List.map_cons, List.sum_cons, List.length_cons]; omega
theorem totP_mem {ps : List (Int × List Int)} {q : Int × List Int} (h : q ∈ ps) : 1 + q.2.length ≤ totP ps := by
  unfold totP
  induction ps with
  | nil => cases h
  | cons a ps ih =>
    simp only [List.map_cons, List.sum_cons]
    rcases List.mem_cons.1 h with rfl | h
    · omega
    · have := ih h; omega
theorem totP_take (ps : List (Int × List Int)) (k : Nat) : totP (ps.take k) ≤ totP ps := by
  have h : totP (ps.take k ++ ps.drop k) = totP (ps.take k) + totP (ps.drop k) := by
    simp only [totP, List.map_append, List.sum_append]
  rw [List.take_append_drop] at h
  omega
/-- A list of posets of the call's own. -/
structure OwPs (lo : Nat) (w : World) (v : Value) (ps : List (Int × List Int)) (b : Nat) (e : TypeId) (ti : TypeId) (vs : List Value) : Prop where
  val : v = .slice (some ⟨b, 0, none⟩) ps.length ps.length
  lob : lo ≤ b
  ne : ti ≠ e
  blk : Blk e w b (fl ps.length fun i => (.int .i64 (ps.getD i (0, [])).1, vs.getD i (.slice none 0 0)))
  owl : OwL lo ti w vs (ps.map fun q => ints q.2)
theorem OwPs.len {lo : Nat} {w : World} {v : Value} {ps : List (Int × List Int)} {b : Nat} {e ti : TypeId} {vs : List Value} (h : OwPs lo w v ps b e ti vs) : vs.length = ps.length := by simpa using h.owl.1
theorem OwPs.ext {lo : Nat} {w w' : World} {v : Value} {ps : List (Int × List Int)} {b : Nat} {e ti : TypeId} {vs : List Value} (h : OwPs lo w v ps b e ti vs) (he : Ext w w') : OwPs lo w' v ps b e ti vs := ⟨h.val, h.lob, h.ne, h.blk.ext he, h.owl.ext he⟩
theorem OwPs.mono {lo lo' : Nat} {w : World} {v : Value} {ps : List (Int × List Int)} {b : Nat} {e ti : TypeId} {vs : List Value} (h : OwPs lo w v ps b e ti vs) (hl : lo' ≤ lo) : OwPs lo' w v ps b e ti vs := ⟨h.val, Nat.le_trans hl h.lob, h.ne, h.blk, h.owl.mono hl⟩
theorem OwPs.slp {lo : Nat} {w : World} {v : Value} {ps : List (Int × List Int)} {b : Nat} {e ti : TypeId} {vs : List Value} (h : OwPs lo w v ps b e ti vs) (hm : ps.length ≤ 1048576) : SlP w v ps := by
  refine ⟨_, ps.length, h.val, Nat.le_refl _, by omega, .inr ⟨b, 0, rfl, fun i n l hi => ?_⟩⟩
  have hil := (List.getElem?_eq_some_iff.1 hi).1
  have hvl := h.len
  obtain ⟨g1, g2⟩ := fl_get (n := ps.length) (F := fun i => (.int .i64 (ps.getD i (0, [])).1, vs.getD i (.slice none 0 0))) hil
  have e1 : ps.getD i (0, []) = (n, l) := by rw [List.getD_eq_getElem?_getD, hi]; rfl
  have e2 : vs.getD i (.slice none 0 0) = vs[i]'(by omega) := by rw [List.getD_eq_getElem?_getD, List.getElem?_eq_getElem (by omega)]; rfl
  refine ⟨vs[i]'(by omega), ?_, ?_, ?_⟩
  · rw [Nat.zero_add, h.blk.cell, g1]; simp only [e1]
  · rw [Nat.zero_add, h.blk.cell, g2]; simp only [e2]
  · exact (h.owl.2.1 i _ (ints l) (List.getElem?_eq_getElem (by omega)) (by rw [List.getElem?_map, hi]; rfl)).sl
end Go.Vc
namespace Go.Proofs.YtoolpnkcmlebkaaGreat
open Go.Vc
def szP (ps : List (Int × List Int)) (left : Int) : Int := if left < (totP ps : Int) then -1 else left - totP ps
theorem ok_laws_szPosetS {v : Value} {w : World} {ps : List (Int × List Int)} (hs : SlP w v ps) (left : Int) (h0 : 0 ≤ left ∧ left ≤ 1048576) : Ret Tryz.prog f_laws_szPosetS #[v, .int .i64 left] w (.int .i64 (szP ps left)) := by
  apply c_laws_szPosetS; unfold S_laws_szPosetS
  have hlen := hs.len
  have htl := totP_len ps
  unfold szP
  refine iLenP hs ?_
  (repeat first
    | (with_reducible first | refine iFa ?_ | refine iNil ?_ | refine iNilF ?_ | refine iLd (by assumption) ?_ | refine iLenN (by assumption) ?_ | refine iLenI (by assumption) ?_ | refine iLenS (by assumption) ?_ | refine iLenL ?_ | refine iEq ?_ | refine iNe ?_ | refine iLt ?_ | refine iLe ?_ | refine iNot ?_ | refine iPick ?_ | refine iE20 ?_ | refine iE21 ?_ | refine iE30 ?_ | refine iE31 ?_ | refine iE32 ?_ | refine iJn ?_)
    | ((with_reducible show xLd _ _ _); refine iLdB (by assumption) (by first | rfl | simp) ?_) | ((with_reducible refine iLdA (by assumption) ?_ ?_); rfl)
    | ((with_reducible refine iIaNN (by assumption) ?_ (fun pa_ hpa_ => ?_)); omega) | ((with_reducible refine iIaN (by assumption) ?_ (fun pa_ hpa_ => ?_)); omega)
    | ((with_reducible refine iIaI (by assumption) ?_ ?_ (fun pa_ hpa_ => ?_)); omega; omega) | ((with_reducible refine iAdd ?_ ?_); omega) | ((with_reducible refine iSub ?_ ?_); omega)
    | ((with_reducible show xEx _ _ _); refine iEx (by rfl) ?_) | ((with_reducible refine fun (_ : Nat → Value) => ?_); (try simp only [gx])))
  refine iCndP (fun h1 => ?_) (fun h1 => ?_)
  · rw [if_pos (by omega)]; exact ⟨rfl, Ext.refl _⟩
  · refine iLp (fun s : Int × Nat => [.int .i64 s.1, .int .i64 (s.2 : Int)]) (fun s w' => s.2 ≤ ps.length ∧ Ext w w' ∧ 0 ≤ s.1 ∧ s.1 = left - totP (ps.take s.2) - (ps.length - s.2 : Nat)) (fun s => ps.length - s.2) (left - ps.length, 0) rfl ⟨Nat.zero_le _, Ext.refl _, by show 0 ≤ left - (ps.length : Int); omega, by show left - (ps.length : Int) = left - totP (ps.take 0) - ((ps.length - 0 : Nat) : Int); rw [List.take_zero]; simp [totP]⟩ ?_
    rintro ⟨z, k⟩ w2 Kn ⟨hk, h2, hz0, hz⟩ hKn
    have hk : k ≤ ps.length := hk
    have hz0 : 0 ≤ z := hz0
    have hz : z = left - totP (ps.take k) - ((ps.length - k : Nat) : Int) := hz
    have hs2 := hs.ext h2
    (repeat first
    | (with_reducible first | refine iFa ?_ | refine iNil ?_ | refine iNilF ?_ | refine iLd (by assumption) ?_ | refine iLenN (by assumption) ?_ | refine iLenI (by assumption) ?_ | refine iLenS (by assumption) ?_ | refine iLenL ?_ | refine iEq ?_ | refine iNe ?_ | refine iLt ?_ | refine iLe ?_ | refine iNot ?_ | refine iPick ?_ | refine iE20 ?_ | refine iE21 ?_ | refine iE30 ?_ | refine iE31 ?_ | refine iE32 ?_ | refine iJn ?_)
    | ((with_reducible show xLd _ _ _); refine iLdB (by assumption) (by first | rfl | simp) ?_) | ((with_reducible refine iLdA (by assumption) ?_ ?_); rfl)
    | ((with_reducible refine iIaNN (by assumption) ?_ (fun pa_ hpa_ => ?_)); omega) | ((with_reducible refine iIaN (by assumption) ?_ (fun pa_ hpa_ => ?_)); omega)
    | ((with_reducible refine iIaI (by assumption) ?_ ?_ (fun pa_ hpa_ => ?_)); omega; omega) | ((with_reducible refine iAdd ?_ ?_); omega) | ((with_reducible refine iSub ?_ ?_); omega)
    | ((with_reducible show xEx _ _ _); refine iEx (by rfl) ?_) | ((with_reducible refine fun (_ : Nat → Value) => ?_); (try simp only [gx])))
    refine iLenP hs2 ?_
    (repeat first
    | (with_reducible first | refine iFa ?_ | refine iNil ?_ | refine iNilF ?_ | refine iLd (by assumption) ?_ | refine iLenN (by assumption) ?_ | refine iLenI (by assumption) ?_ | refine iLenS (by assumption) ?_ | refine iLenL ?_ | refine iEq ?_ | refine iNe ?_ | refine iLt ?_ | refine iLe ?_ | refine iNot ?_ | refine iPick ?_ | refine iE20 ?_ | refine iE21 ?_ | refine iE30 ?_ | refine iE31 ?_ | refine iE32 ?_ | refine iJn ?_)
    | ((with_reducible show xLd _ _ _); refine iLdB (by assumption) (by first | rfl | simp) ?_) | ((with_reducible refine iLdA (by assumption) ?_ ?_); rfl)
    | ((with_reducible refine iIaNN (by assumption) ?_ (fun pa_ hpa_ => ?_)); omega) | ((with_reducible refine iIaN (by assumption) ?_ (fun pa_ hpa_ => ?_)); omega)
    | ((with_reducible refine iIaI (by assumption) ?_ ?_ (fun pa_ hpa_ => ?_)); omega; omega) | ((with_reducible refine iAdd ?_ ?_); omega) | ((with_reducible refine iSub ?_ ?_); omega)
    | ((with_reducible show xEx _ _ _); refine iEx (by rfl) ?_) | ((with_reducible refine fun (_ : Nat → Value) => ?_); (try simp only [gx])))
    refine iCndP (fun h3 => ?_) (fun h3 => ?_)
    · have hk1 : k < ps.length := by omega
      have ht : totP (ps.take (k + 1)) = totP (ps.take k) + (1 + ps[k].2.length) := by rw [List.take_succ_eq_append_getElem hk1, totP_snoc]
      have htk := totP_take ps (k + 1)
      refine iIaP hs2 hk1 fun b o u g1 g2 g3 => ?_
      refine iLd2 g1 g2 ?_
      refine iRet (ok_laws_szPoset g3 _ z (by omega)) fun w3 h4 => ?_
      (repeat first
    | (with_reducible first | refine iFa ?_ | refine iNil ?_ | refine iNilF ?_ | refine iLd (by assumption) ?_ | refine iLenN (by assumption) ?_ | refine iLenI (by assumption) ?_ | refine iLenS (by assumption) ?_ | refine iLenL ?_ | refine iEq ?_ | refine iNe ?_ | refine iLt ?_ | refine iLe ?_ | refine iNot ?_ | refine iPick ?_ | refine iE20 ?_ | refine iE21 ?_ | refine iE30 ?_ | refine iE31 ?_ | refine iE32 ?_ | refine iJn ?_)
    | ((with_reducible show xLd _ _ _); refine iLdB (by assumption) (by first | rfl | simp) ?_) | ((with_reducible refine iLdA (by assumption) ?_ ?_); rfl)
    | ((with_reducible refine iIaNN (by assumption) ?_ (fun pa_ hpa_ => ?_)); omega) | ((with_reducible refine iIaN (by assumption) ?_ (fun pa_ hpa_ => ?_)); omega)
    | ((with_reducible refine iIaI (by assumption) ?_ ?_ (fun pa_ hpa_ => ?_)); omega; omega) | ((with_reducible refine iAdd ?_ ?_); omega) | ((with_reducible refine iSub ?_ ?_); omega)
    | ((with_reducible show xEx _ _ _); refine iEx (by rfl) ?_) | ((with_reducible refine fun (_ : Nat → Value) => ?_); (try simp only [gx])))
      refine iCndP (fun h5 => ?_) (fun h5 => ?_)
      · unfold szN at h5
        split at h5
        · rw [if_pos]
          · exact ⟨rfl, h2.trans h4⟩
          · have hd : totP ps = totP (ps.take (k + 1)) + totP (ps.drop (k + 1)) := by
              have h : totP (ps.take (k + 1) ++ ps.drop (k + 1)) = totP (ps.take (k + 1)) + totP (ps.drop (k + 1)) := by simp only [totP, List.map_append, List.sum_append]
              rwa [List.take_append_drop] at h
            have hdl := totP_len (ps.drop (k + 1))
            rw [List.length_drop] at hdl
            omega
        · omega
      · unfold szN at h5
        split at h5
        · omega
        · rename_i h6
          have e : szN ps[k].2.length z = z - ps[k].2.length := by unfold szN; rw [if_neg h6]
          (repeat first
    | (with_reducible first | refine iFa ?_ | refine iNil ?_ | refine iNilF ?_ | refine iLd (by assumption) ?_ | refine iLenN (by assumption) ?_ | refine iLenI (by assumption) ?_ | refine iLenS (by assumption) ?_ | refine iLenL ?_ | refine iEq ?_ | refine iNe ?_ | refine iLt ?_ | refine iLe ?_ | refine iNot ?_ | refine iPick ?_ | refine iE20 ?_ | refine iE21 ?_ | refine iE30 ?_ | refine iE31 ?_ | refine iE32 ?_ | refine iJn ?_)
    | ((with_reducible show xLd _ _ _); refine iLdB (by assumption) (by first | rfl | simp) ?_) | ((with_reducible refine iLdA (by assumption) ?_ ?_); rfl)
    | ((with_reducible refine iIaNN (by assumption) ?_ (fun pa_ hpa_ => ?_)); omega) | ((with_reducible refine iIaN (by assumption) ?_ (fun pa_ hpa_ => ?_)); omega)
    | ((with_reducible refine iIaI (by assumption) ?_ ?_ (fun pa_ hpa_ => ?_)); omega; omega) | ((with_reducible refine iAdd ?_ ?_); omega) | ((with_reducible refine iSub ?_ ?_); omega)
    | ((with_reducible show xEx _ _ _); refine iEx (by rfl) ?_) | ((with_reducible refine fun (_ : Nat → Value) => ?_); (try simp only [gx])))
          refine hKn (szN ps[k].2.length z, k + 1) _ ⟨by show k + 1 ≤ ps.length; omega, h2.trans h4, ?_, ?_⟩ (by show ps.length - (k + 1) < ps.length - k; omega)
          · show 0 ≤ szN ps[k].2.length z
            rw [e]; omega
          · show szN ps[k].2.length z = left - totP (ps.take (k + 1)) - ((ps.length - (k + 1) : Nat) : Int)
            rw [e, ht]; omega
    · have e : ps.take k = ps := List.take_of_length_le (by omega)
      rw [e] at hz
      rw [if_neg (by omega)]
      refine ⟨?_, h2⟩
      rw [hz]; congr 1; omega
theorem ok_laws_toPosetS {v : Value} {w : World} {ps : List (Int × List Int)} (hs : SlP w v ps) (hl : totP ps ≤ 1048576) : Cal Tryz.prog f_laws_toPosetS #[v] w fun r w' => Ext w w' ∧ ∃ b e vs, OwPs w.heap.size w' r ps b e t_i64 vs := by
  apply c_laws_toPosetS; unfold S_laws_toPosetS
  have htl := totP_len ps
  refine iLenP hs ?_
  refine iMk2 (by omega) (by omega) fun b w1 hb h1 hB => ?_
  obtain ⟨e, hne, hB⟩ : ∃ e, t_i64 ≠ e ∧ Blk e w1 b (fl ps.length fun _ => (.int .i64 0, .slice none 0 0)) := ⟨_, by decide, hB⟩
  have hlb : w.heap.size ≤ b := by omega
  refine iLp (fun k : Nat => [.int .i64 (k : Int)]) (fun k w' => k ≤ ps.length ∧ Ext w w' ∧ ∃ vs, OwL w.heap.size t_i64 w' vs ((ps.take k).map fun q => ints q.2) ∧ Blk e w' b (fl ps.length fun i => if i < k then (.int .i64 (ps.getD i (0, [])).1, vs.getD i (.slice none 0 0)) else (.int .i64 0, .slice none 0 0))) (fun k => ps.length - k) 0 rfl ⟨Nat.zero_le _, h1, [], OwL.nil _ _ _, hB⟩ ?_
  rintro k w3 Kn ⟨hk, h3, vs, hol, hB3⟩ hKn
  have hs3 := hs.ext h3
  have hvl : vs.length = k := by have := hol.1; rw [List.length_map, List.length_take] at this; omega
  (repeat first
    | (with_reducible first | refine iFa ?_ | refine iNil ?_ | refine iNilF ?_ | refine iLd (by assumption) ?_ | refine iLenN (by assumption) ?_ | refine iLenI (by assumption) ?_ | refine iLenS (by assumption) ?_ | refine iLenL ?_ | refine iEq ?_ | refine iNe ?_ | refine iLt ?_ | refine iLe ?_ | refine iNot ?_ | refine iPick ?_ | refine iE20 ?_ | refine iE21 ?_ | refine iE30 ?_ | refine iE31 ?_ | refine iE32 ?_ | refine iJn ?_)
    | ((with_reducible show xLd _ _ _); refine iLdB (by assumption) (by first | rfl | simp) ?_) | ((with_reducible refine iLdA (by assumption) ?_ ?_); rfl)
    | ((with_reducible refine iIaNN (by assumption) ?_ (fun pa_ hpa_ => ?_)); omega) | ((with_reducible refine iIaN (by assumption) ?_ (fun pa_ hpa_ => ?_)); omega)
    | ((with_reducible refine iIaI (by assumption) ?_ ?_ (fun pa_ hpa_ => ?_)); omega; omega) | ((with_reducible refine iAdd ?_ ?_); omega) | ((with_reducible refine iSub ?_ ?_); omega)
    | ((with_reducible show xEx _ _ _); refine iEx (by rfl) ?_) | ((with_reducible refine fun (_ : Nat → Value) => ?_); (try simp only [gx])))
  refine iLenP hs3 ?_
  (repeat first
    | (with_reducible first | refine iFa ?_ | refine iNil ?_ | refine iNilF ?_ | refine iLd (by assumption) ?_ | refine iLenN (by assumption) ?_ | refine iLenI (by assumption) ?_ | refine iLenS (by assumption) ?_ | refine iLenL ?_ | refine iEq ?_ | refine iNe ?_ | refine iLt ?_ | refine iLe ?_ | refine iNot ?_ | refine iPick ?_ | refine iE20 ?_ | refine iE21 ?_ | refine iE30 ?_ | refine iE31 ?_ | refine iE32 ?_ | refine iJn ?_)
    | ((with_reducible show xLd _ _ _); refine iLdB (by assumption) (by first | rfl | simp) ?_) | ((with_reducible refine iLdA (by assumption) ?_ ?_); rfl)
    | ((with_reducible refine iIaNN (by assumption) ?_ (fun pa_ hpa_ => ?_)); omega) | ((with_reducible refine iIaN (by assumption) ?_ (fun pa_ hpa_ => ?_)); omega)
    | ((with_reducible refine iIaI (by assumption) ?_ ?_ (fun pa_ hpa_ => ?_)); omega; omega) | ((with_reducible refine iAdd ?_ ?_); omega) | ((with_reducible refine iSub ?_ ?_); omega)
    | ((with_reducible show xEx _ _ _); refine iEx (by rfl) ?_) | ((with_reducible refine fun (_ : Nat → Value) => ?_); (try simp only [gx])))
  refine iCndP (fun h4 => ?_) (fun h4 => ?_)
  · have hk1 : k < ps.length := by omega
    have ht : ps.take (k + 1) = ps.take k ++ [ps[k]] := List.take_succ_eq_append_getElem hk1
    have hml := totP_mem (List.getElem_mem hk1)
    refine iIaP hs3 hk1 fun b' o u g1 g2 g3 => ?_
    refine iLd2 g1 g2 ?_
    refine iCall ((ok_laws_toPoset g3 ps[k].1 (by omega)).mono ?_)
    rintro _ w4 ⟨h5, v', rfl, ho'⟩
    refine iIaL2 (j := k) hk1 ?_
    have hB4 := hB3.ext h5
    have hf := fl_len ps.length fun i => if i < k then ((.int .i64 (ps.getD i (0, [])).1, vs.getD i (.slice none 0 0)) : Value × Value) else (.int .i64 0, .slice none 0 0)
    refine iStA2 hB4 (by omega) rfl ho'.cell fun w5 hu hB5 => ?_
    have hlo3 := h3.size
    have hol5 := (hol.ext h5).ch (hu.ch (S := fun c => c = b) rfl) (fun x hx c hc hcb => by
      obtain ⟨l, hl⟩ := (hol.ext h5).ow hx
      exact hl.ne_blk hB4 hne (by rw [hc, hcb]))
    have ho5 := ho'.upd hu (ho'.ne_blk hB4 hne)
    (repeat first
    | (with_reducible first | refine iFa ?_ | refine iNil ?_ | refine iNilF ?_ | refine iLd (by assumption) ?_ | refine iLenN (by assumption) ?_ | refine iLenI (by assumption) ?_ | refine iLenS (by assumption) ?_ | refine iLenL ?_ | refine iEq ?_ | refine iNe ?_ | refine iLt ?_ | refine iLe ?_ | refine iNot ?_ | refine iPick ?_ | refine iE20 ?_ | refine iE21 ?_ | refine iE30 ?_ | refine iE31 ?_ | refine iE32 ?_ | refine iJn ?_)
    | ((with_reducible show xLd _ _ _); refine iLdB (by assumption) (by first | rfl | simp) ?_) | ((with_reducible refine iLdA (by assumption) ?_ ?_); rfl)
    | ((with_reducible refine iIaNN (by assumption) ?_ (fun pa_ hpa_ => ?_)); omega) | ((with_reducible refine iIaN (by assumption) ?_ (fun pa_ hpa_ => ?_)); omega)
    | ((with_reducible refine iIaI (by assumption) ?_ ?_ (fun pa_ hpa_ => ?_)); omega; omega) | ((with_reducible refine iAdd ?_ ?_); omega) | ((with_reducible refine iSub ?_ ?_); omega)
    | ((with_reducible show xEx _ _ _); refine iEx (by rfl) ?_) | ((with_reducible refine fun (_ : Nat → Value) => ?_); (try simp only [gx])))
    refine hKn (k + 1) _ ⟨by omega, (h3.trans h5).upd hu hlb, vs ++ [v'], ?_, ?_⟩ (by omega)
    · rw [ht, List.map_append]
      exact hol5.snoc (ho5.mono hlo3) (fun x hx c hc hc' => by
        have := (hol.lt hx hc).2
        have := (ho'.blk c hc').1
        omega)
    · have e2 : fl ps.length (fun i => if i < k + 1 then ((.int .i64 (ps.getD i (0, [])).1, (vs ++ [v']).getD i (.slice none 0 0)) : Value × Value) else (.int .i64 0, .slice none 0 0)) = fl ps.length (fun j => if j = k then ((.int .i64 ps[k].1, v') : Value × Value) else if j < k then (.int .i64 (ps.getD j (0, [])).1, vs.getD j (.slice none 0 0)) else (.int .i64 0, .slice none 0 0)) := by
        refine fl_congr fun i hi => ?_
        by_cases hik : i = k
        · subst hik
          have e3 : ps.getD i (0, []) = ps[i] := by simp [List.getD_eq_getElem?_getD, hk1]
          have e4 : (vs ++ [v']).getD i (.slice none 0 0) = v' := by
            rw [List.getD_eq_getElem?_getD, List.getElem?_append_right (by omega), hvl, Nat.sub_self]; rfl
          rw [if_pos (by omega), if_pos rfl, e3, e4]
        · rw [if_neg hik]
          by_cases hlt : i < k
          · rw [if_pos (by omega), if_pos hlt]
            simp [List.getD_eq_getElem?_getD, List.getElem?_append_left (show i < vs.length by omega)]
          · rw [if_neg (by omega), if_neg hlt]
      rw [e2, ← fl_set2]; exact hB5
  · obtain rfl : k = ps.length := by omega
    rw [List.take_of_length_le (Nat.le_refl _)] at hol
    refine ⟨h3, b, e, vs, rfl, hlb, hne, ?_, hol⟩
    rw [fl_congr (G := fun i => if i < ps.length then (.int .i64 (ps.getD i (0, [])).1, vs.getD i (.slice none 0 0)) else (.int .i64 0, .slice none 0 0)) fun i hi => by rw [if_pos hi]]
    exact hB3
theorem ok_laws_eqPosetS {v v' : Value} {w : World} {ps : List (Int × List Int)} (hs : SlP w v ps) (hs' : SlP w v' ps) : Ret Tryz.prog f_laws_eqPosetS #[v, v'] w (.bool true) := by
  apply c_laws_eqPosetS; unfold S_laws_eqPosetS
  have hlen := hs.len
  refine iLenP hs ?_
  refine iLenP hs' ?_
  (repeat first
    | (with_reducible first | refine iFa ?_ | refine iNil ?_ | refine iNilF ?_ | refine iLd (by assumption) ?_ | refine iLenN (by assumption) ?_ | refine iLenI (by assumption) ?_ | refine iLenS (by assumption) ?_ | refine iLenL ?_ | refine iEq ?_ | refine iNe ?_ | refine iLt ?_ | refine iLe ?_ | refine iNot ?_ | refine iPick ?_ | refine iE20 ?_ | refine iE21 ?_ | refine iE30 ?_ | refine iE31 ?_ | refine iE32 ?_ | refine iJn ?_)
    | ((with_reducible show xLd _ _ _); refine iLdB (by assumption) (by first | rfl | simp) ?_) | ((with_reducible refine iLdA (by assumption) ?_ ?_); rfl)
    | ((with_reducible refine iIaNN (by assumption) ?_ (fun pa_ hpa_ => ?_)); omega) | ((with_reducible refine iIaN (by assumption) ?_ (fun pa_ hpa_ => ?_)); omega)
    | ((with_reducible refine iIaI (by assumption) ?_ ?_ (fun pa_ hpa_ => ?_)); omega; omega) | ((with_reducible refine iAdd ?_ ?_); omega) | ((with_reducible refine iSub ?_ ?_); omega)
    | ((with_reducible show xEx _ _ _); refine iEx (by rfl) ?_) | ((with_reducible refine fun (_ : Nat → Value) => ?_); (try simp only [gx])))
  refine iCndP (fun h => absurd rfl h) (fun _ => ?_)
  refine iLp (fun k : Nat => [.int .i64 (k : Int)]) (fun k w' => k ≤ ps.length ∧ Ext w w') (fun k => ps.length - k) 0 rfl ⟨Nat.zero_le _, Ext.refl _⟩ ?_
  rintro k w2 Kn ⟨hk, h2⟩ hKn
  have hs2 := hs.ext h2
  have hs2' := hs'.ext h2
  (repeat first
    | (with_reducible first | refine iFa ?_ | refine iNil ?_ | refine iNilF ?_ | refine iLd (by assumption) ?_ | refine iLenN (by assumption) ?_ | refine iLenI (by assumption) ?_ | refine iLenS (by assumption) ?_ | refine iLenL ?_ | refine iEq ?_ | refine iNe ?_ | refine iLt ?_ | refine iLe ?_ | refine iNot ?_ | refine iPick ?_ | refine iE20 ?_ | refine iE21 ?_ | refine iE30 ?_ | refine iE31 ?_ | refine iE32 ?_ | refine iJn ?_)
    | ((with_reducible show xLd _ _ _); refine iLdB (by assumption) (by first | rfl | simp) ?_) | ((with_reducible refine iLdA (by assumption) ?_ ?_); rfl)
    | ((with_reducible refine iIaNN (by assumption) ?_ (fun pa_ hpa_ => ?_)); omega) | ((with_reducible refine iIaN (by assumption) ?_ (fun pa_ hpa_ => ?_)); omega)
    | ((with_reducible refine iIaI (by assumption) ?_ ?_ (fun pa_ hpa_ => ?_)); omega; omega) | ((with_reducible refine iAdd ?_ ?_); omega) | ((with_reducible refine iSub ?_ ?_); omega)
    | ((with_reducible show xEx _ _ _); refine iEx (by rfl) ?_) | ((with_reducible refine fun (_ : Nat → Value) => ?_); (try simp only [gx])))
  refine iLenP hs2 ?_
  (repeat first
    | (with_reducible first | refine iFa ?_ | refine iNil ?_ | refine iNilF ?_ | refine iLd (by assumption) ?_ | refine iLenN (by assumption) ?_ | refine iLenI (by assumption) ?_ | refine iLenS (by assumption) ?_ | refine iLenL ?_ | refine iEq ?_ | refine iNe ?_ | refine iLt ?_ | refine iLe ?_ | refine iNot ?_ | refine iPick ?_ | refine iE20 ?_ | refine iE21 ?_ | refine iE30 ?_ | refine iE31 ?_ | refine iE32 ?_ | refine iJn ?_)
    | ((with_reducible show xLd _ _ _); refine iLdB (by assumption) (by first | rfl | simp) ?_) | ((with_reducible refine iLdA (by assumption) ?_ ?_); rfl)
    | ((with_reducible refine iIaNN (by assumption) ?_ (fun pa_ hpa_ => ?_)); omega) | ((with_reducible refine iIaN (by assumption) ?_ (fun pa_ hpa_ => ?_)); omega)
    | ((with_reducible refine iIaI (by assumption) ?_ ?_ (fun pa_ hpa_ => ?_)); omega; omega) | ((with_reducible refine iAdd ?_ ?_); omega) | ((with_reducible refine iSub ?_ ?_); omega)
    | ((with_reducible show xEx _ _ _); refine iEx (by rfl) ?_) | ((with_reducible refine fun (_ : Nat → Value) => ?_); (try simp only [gx])))
  refine iCndP (fun h3 => ?_) (fun h3 => ⟨by trivial, h2⟩)
  have hk1 : k < ps.length := by omega
  refine iIaP hs2 hk1 fun b o u g1 g2 g3 => ?_
  refine iLd2 g1 g2 ?_
  refine iIaP hs2' hk1 fun b' o' u' g1' g2' g3' => ?_
  refine iLd2 g1' g2' ?_
  refine iRetQ (fun w' h' => ok_laws_eqPoset (g3.ext h') (g3'.ext h') ps[k].1 ps[k].1) ?_
  (repeat first
    | (with_reducible first | refine iFa ?_ | refine iNil ?_ | refine iNilF ?_ | refine iLd (by assumption) ?_ | refine iLenN (by assumption) ?_ | refine iLenI (by assumption) ?_ | refine iLenS (by assumption) ?_ | refine iLenL ?_ | refine iEq ?_ | refine iNe ?_ | refine iLt ?_ | refine iLe ?_ | refine iNot ?_ | refine iPick ?_ | refine iE20 ?_ | refine iE21 ?_ | refine iE30 ?_ | refine iE31 ?_ | refine iE32 ?_ | refine iJn ?_)
    | ((with_reducible show xLd _ _ _); refine iLdB (by assumption) (by first | rfl | simp) ?_) | ((with_reducible refine iLdA (by assumption) ?_ ?_); rfl)
    | ((with_reducible refine iIaNN (by assumption) ?_ (fun pa_ hpa_ => ?_)); omega) | ((with_reducible refine iIaN (by assumption) ?_ (fun pa_ hpa_ => ?_)); omega)
    | ((with_reducible refine iIaI (by assumption) ?_ ?_ (fun pa_ hpa_ => ?_)); omega; omega) | ((with_reducible refine iAdd ?_ ?_); omega) | ((with_reducible refine iSub ?_ ?_); omega)
    | ((with_reducible show xEx _ _ _); refine iEx (by rfl) ?_) | ((with_reducible refine fun (_ : Nat → Value) => ?_); (try simp only [gx])))
  intro w3 h4
  refine iCndF (by simp) ?_
  (repeat first
    | (with_reducible first | refine iFa ?_ | refine iNil ?_ | refine iNilF ?_ | refine iLd (by assumption) ?_ | refine iLenN (by assumption) ?_ | refine iLenI (by assumption) ?_ | refine iLenS (by assumption) ?_ | refine iLenL ?_ | refine iEq ?_ | refine iNe ?_ | refine iLt ?_ | refine iLe ?_ | refine iNot ?_ | refine iPick ?_ | refine iE20 ?_ | refine iE21 ?_ | refine iE30 ?_ | refine iE31 ?_ | refine iE32 ?_ | refine iJn ?_)
    | ((with_reducible show xLd _ _ _); refine iLdB (by assumption) (by first | rfl | simp) ?_) | ((with_reducible refine iLdA (by assumption) ?_ ?_); rfl)
    | ((with_reducible refine iIaNN (by assumption) ?_ (fun pa_ hpa_ => ?_)); omega) | ((with_reducible refine iIaN (by assumption) ?_ (fun pa_ hpa_ => ?_)); omega)
    | ((with_reducible refine iIaI (by assumption) ?_ ?_ (fun pa_ hpa_ => ?_)); omega; omega) | ((with_reducible refine iAdd ?_ ?_); omega) | ((with_reducible refine iSub ?_ ?_); omega)
    | ((with_reducible show xEx _ _ _); refine iEx (by rfl) ?_) | ((with_reducible refine fun (_ : Nat → Value) => ?_); (try simp only [gx])))
  exact hKn (k + 1) _ ⟨by omega, h2.trans h4⟩ (by omega)
theorem ok_laws_markPosetS {lo : Nat} {v : Value} {w : World} {ps : List (Int × List Int)} {b : Nat} {e : TypeId} {vs : List Value} (hs : OwPs lo w v ps b e t_i64 vs) (hl : totP ps ≤ 1048576) {hi : Nat} (hbw : b < hi) (hvw : ∀ x ∈ vs, ∀ c, x.ownBlock = some c → c < hi) : Cal Tryz.prog f_laws_markPosetS #[v, .int .i64 1] w fun r w' => (∃ z : Int, 0 ≤ z ∧ r = .int .i64 z) ∧ Ch (fun c => lo ≤ c ∧ c < hi) w w' := by
  apply c_laws_markPosetS; unfold S_laws_markPosetS
  have htl := totP_len ps
  have hvl := hs.len
  obtain ⟨rfl, hlb, hne, hB, hol⟩ := hs
  refine iLp (fun s : Nat × Nat => [.int .i64 (s.1 : Int), .int .i64 (s.2 : Int)]) (fun s w' => s.2 ≤ ps.length ∧ s.1 = 1 + totP (ps.take s.2) ∧ Ch (fun c => lo ≤ c ∧ c < hi) w w' ∧ (∃ G : Nat → Value, Blk e w' b (fl ps.length fun i => (G i, vs.getD i (.slice none 0 0)))) ∧ ∀ j (hj : j < ps.length) (hj' : j < vs.length), s.2 ≤ j → Ow lo t_i64 w' vs[j] (ints ps[j].2)) (fun s => ps.length - s.2) (1, 0) rfl ⟨Nat.zero_le _, rfl, (Ext.refl w).ch, ⟨_, hB⟩, fun j hj hj' _ => hol.2.1 j _ _ (List.getElem?_eq_getElem hj') (by rw [List.getElem?_map, List.getElem?_eq_getElem hj]; rfl)⟩ ?_
  rintro ⟨c, k⟩ w2 Kn ⟨hk, hc, hch, ⟨G, hB2⟩, how⟩ hKn
  have hk : k ≤ ps.length := hk
  have hc : c = 1 + totP (ps.take k) := hc
  have how : ∀ j (hj : j < ps.length) (hj' : j < vs.length), k ≤ j → Ow lo t_i64 w2 vs[j] (ints ps[j].2) := how
  have htk := totP_take ps k
  (repeat first
    | (with_reducible first | refine iFa ?_ | refine iNil ?_ | refine iNilF ?_ | refine iLd (by assumption) ?_ | refine iLenN (by assumption) ?_ | refine iLenI (by assumption) ?_ | refine iLenS (by assumption) ?_ | refine iLenL ?_ | refine iEq ?_ | refine iNe ?_ | refine iLt ?_ | refine iLe ?_ | refine iNot ?_ | refine iPick ?_ | refine iE20 ?_ | refine iE21 ?_ | refine iE30 ?_ | refine iE31 ?_ | refine iE32 ?_ | refine iJn ?_)
    | ((with_reducible show xLd _ _ _); refine iLdB (by assumption) (by first | rfl | simp) ?_) | ((with_reducible refine iLdA (by assumption) ?_ ?_); rfl)
    | ((with_reducible refine iIaNN (by assumption) ?_ (fun pa_ hpa_ => ?_)); omega) | ((with_reducible refine iIaN (by assumption) ?_ (fun pa_ hpa_ => ?_)); omega)
    | ((with_reducible refine iIaI (by assumption) ?_ ?_ (fun pa_ hpa_ => ?_)); omega; omega) | ((with_reducible refine iAdd ?_ ?_); omega) | ((with_reducible refine iSub ?_ ?_); omega)
    | ((with_reducible show xEx _ _ _); refine iEx (by rfl) ?_) | ((with_reducible refine fun (_ : Nat → Value) => ?_); (try simp only [gx])))
  refine iCndP (fun h3 => ?_) (fun h3 => ⟨⟨c, by omega, rfl⟩, hch⟩)
  have hk1 : k < ps.length := by omega
  have hk2 : k < vs.length := by omega
  have ht : totP (ps.take (k + 1)) = totP (ps.take k) + (1 + ps[k].2.length) := by rw [List.take_succ_eq_append_getElem hk1, totP_snoc]
  have htk1 := totP_take ps (k + 1)
  have hfl := fl_len ps.length fun i => ((G i, vs.getD i (.slice none 0 0)) : Value × Value)
  refine iIaL2 (j := k) hk1 ?_
  refine iFa ?_
  refine iStB (i := 2 * k) hB2 (by omega) rfl fun hB3 => ?_
  rw [fl_set0] at hB3
  have hu := Upd.setCell w2 b (2 * k) (.int .i64 (c : Int))
  have hch3 := hch.trans (hu.ch (S := fun c => c = b) rfl) (fun c hc => .inl (by rw [hc]; exact ⟨hlb, hbw⟩))
  have how3 : ∀ j (hj : j < ps.length) (hj' : j < vs.length), k ≤ j → Ow lo t_i64 (w2.setCell ⟨b, 2 * k, none⟩ (.int .i64 (c : Int))) vs[j] (ints ps[j].2) := fun j hj hj' hkj => (how j hj hj' hkj).upd hu ((how j hj hj' hkj).ne_blk hB2 hne)
  generalize w2.setCell ⟨b, 2 * k, none⟩ (.int .i64 (c : Int)) = w3 at *
  (repeat first
    | (with_reducible first | refine iFa ?_ | refine iNil ?_ | refine iNilF ?_ | refine iLd (by assumption) ?_ | refine iLenN (by assumption) ?_ | refine iLenI (by assumption) ?_ | refine iLenS (by assumption) ?_ | refine iLenL ?_ | refine iEq ?_ | refine iNe ?_ | refine iLt ?_ | refine iLe ?_ | refine iNot ?_ | refine iPick ?_ | refine iE20 ?_ | refine iE21 ?_ | refine iE30 ?_ | refine iE31 ?_ | refine iE32 ?_ | refine iJn ?_)
    | ((with_reducible show xLd _ _ _); refine iLdB (by assumption) (by first | rfl | simp) ?_) | ((with_reducible refine iLdA (by assumption) ?_ ?_); rfl)
    | ((with_reducible refine iIaNN (by assumption) ?_ (fun pa_ hpa_ => ?_)); omega) | ((with_reducible refine iIaN (by assumption) ?_ (fun pa_ hpa_ => ?_)); omega)
    | ((with_reducible refine iIaI (by assumption) ?_ ?_ (fun pa_ hpa_ => ?_)); omega; omega) | ((with_reducible refine iAdd ?_ ?_); omega) | ((with_reducible refine iSub ?_ ?_); omega)
    | ((with_reducible show xEx _ _ _); refine iEx (by rfl) ?_) | ((with_reducible refine fun (_ : Nat → Value) => ?_); (try simp only [gx])))
  refine iIaL2 (j := k) hk1 ?_
  refine iFa ?_
  obtain ⟨_, g2⟩ := fl_get (n := ps.length) (F := fun j => if j = k then (.int .i64 (c : Int), vs.getD j (.slice none 0 0)) else (G j, vs.getD j (.slice none 0 0))) hk1
  refine iLd (p := ⟨b, 2 * k + 1, none⟩) ((hB3.cell _).trans g2) ?_
  rw [if_pos rfl]
  have e2 : vs.getD k (.slice none 0 0) = vs[k] := by rw [List.getD_eq_getElem?_getD, List.getElem?_eq_getElem hk2]; rfl
  have hok := how3 k hk1 hk2 (Nat.le_refl _)
  have ec : (c : Int) + 1 = ((c + 1 : Nat) : Int) := by omega
  rw [ec]
  refine iCall ((show Cal Tryz.prog f_laws_markInt64S #[vs.getD k (.slice none 0 0), .int .i64 ((c + 1 : Nat) : Int)] w3 _ by rw [e2]; exact ok_laws_markInt64S hok (c + 1) (by omega)).mono ?_)
  rintro _ w4 ⟨rfl, _, hg⟩
  have hch4 := hch3.trans (grown_ch (S := fun c => vs[k].ownBlock = some c) hg (fun c hc => hc)) (fun d hd => by
    have h1 := hol.lt (List.getElem_mem hk2) hd
    exact .inl ⟨h1.1, hvw _ (List.getElem_mem hk2) _ hd⟩)
  have hB4 := hB3.grown hg (hok.ne_blk hB3 hne)
  (repeat first
    | (with_reducible first | refine iFa ?_ | refine iNil ?_ | refine iNilF ?_ | refine iLd (by assumption) ?_ | refine iLenN (by assumption) ?_ | refine iLenI (by assumption) ?_ | refine iLenS (by assumption) ?_ | refine iLenL ?_ | refine iEq ?_ | refine iNe ?_ | refine iLt ?_ | refine iLe ?_ | refine iNot ?_ | refine iPick ?_ | refine iE20 ?_ | refine iE21 ?_ | refine iE30 ?_ | refine iE31 ?_ | refine iE32 ?_ | refine iJn ?_)
    | ((with_reducible show xLd _ _ _); refine iLdB (by assumption) (by first | rfl | simp) ?_) | ((with_reducible refine iLdA (by assumption) ?_ ?_); rfl)
    | ((with_reducible refine iIaNN (by assumption) ?_ (fun pa_ hpa_ => ?_)); omega) | ((with_reducible refine iIaN (by assumption) ?_ (fun pa_ hpa_ => ?_)); omega)
    | ((with_reducible refine iIaI (by assumption) ?_ ?_ (fun pa_ hpa_ => ?_)); omega; omega) | ((with_reducible refine iAdd ?_ ?_); omega) | ((with_reducible refine iSub ?_ ?_); omega)
    | ((with_reducible show xEx _ _ _); refine iEx (by rfl) ?_) | ((with_reducible refine fun (_ : Nat → Value) => ?_); (try simp only [gx])))
  refine hKn (c + 1 + ps[k].2.length, k + 1) _ ⟨by show k + 1 ≤ ps.length; omega, ?_, hch4, ⟨fun j => if j = k then .int .i64 (c : Int) else G j, ?_⟩, fun j hj hj' hkj => ?_⟩ (by show ps.length - (k + 1) < ps.length - k; omega)
  · show c + 1 + ps[k].2.length = 1 + totP (ps.take (k + 1))
    rw [ht, hc]; omega
  · rw [fl_congr (G := fun j => if j = k then (.int .i64 (c : Int), vs.getD j (.slice none 0 0)) else (G j, vs.getD j (.slice none 0 0))) fun i _ => by by_cases h : i = k <;> simp [h]]
    exact hB4
  · have hkj : k + 1 ≤ j := hkj
    refine (how3 j hj hj' (by omega)).grown hg ?_
    cases hcj : vs[j].ownBlock with
    | none => exact .inl rfl
    | some d => exact .inr fun e => hol.ne hk2 hj' (by omega) e.symm hcj
end Go.Proofs.YtoolpnkcmlebkaaGreat
