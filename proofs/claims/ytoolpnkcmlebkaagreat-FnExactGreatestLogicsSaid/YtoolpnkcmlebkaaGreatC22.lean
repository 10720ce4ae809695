/- Contracts: the reference's search for p-morphisms, the recursion. Conditions: none. -/
import Derived.Test.YtoolpnkcmlebkaaGreatC21
namespace Go.Vc
/-- The state of the search. -/
structure SrSt (f g : Fr) (onto : Bool) (e ti ts : TypeId) (w0 : World) (fa ga vord vfix : Value) (ord : List Nat) (b most : Nat) (w : World) (found : Value) (vs : List Value) (ls : List (List Int)) : Prop where
  ext : Ext w0 w
  blk : Blk e w b [.int .i64 (f.n : Int), fa, .int .i64 (g.n : Int), ga, vord, vfix, .bool onto, .int .i64 (most : Int), found]
  ord : Ow w0.heap.size ti w vord (ints (nats ord))
  ow : Ow w0.heap.size ts w found vs
  owl : OwL w0.heap.size ti w vs (ls.map ints)
theorem SrSt.later {f g : Fr} {onto : Bool} {e ti ts : TypeId} {w0 : World} {fa ga vord vfix : Value} {od : List Nat} {b most : Nat} {w w' : World} {found : Value} {vs : List Value} {ls : List (List Int)}
    (h : SrSt f g onto e ti ts w0 fa ga vord vfix od b most w found vs ls) (he : Ext w w') : SrSt f g onto e ti ts w0 fa ga vord vfix od b most w' found vs ls :=
  ⟨h.ext.trans he, h.blk.ext he, h.ord.ext he, h.ow.ext he, h.owl.ext he⟩
theorem SrSt.len {f g : Fr} {onto : Bool} {e ti ts : TypeId} {w0 : World} {fa ga vord vfix : Value} {od : List Nat} {b most : Nat} {w : World} {found : Value} {vs : List Value} {ls : List (List Int)}
    (h : SrSt f g onto e ti ts w0 fa ga vord vfix od b most w found vs ls) : vs.length = ls.length := by simpa using h.owl.1
theorem take_take_append {α : Type} (A B : List α) (n : Nat) : (A.take n ++ B).take n = (A ++ B).take n := by
  rw [List.take_append, List.take_append, List.take_take, Nat.min_self, List.length_take]
  by_cases h : A.length ≤ n
  · rw [Nat.min_eq_right h]
  · rw [Nat.min_eq_left (by omega), Nat.sub_self, show n - A.length = 0 by omega]
theorem part_length (n : Nat) (ord ys : List Nat) : (partL n ord ys).length = n := by simp [partL]
theorem part_lt {n m : Nat} {ord ys : List Nat} (h : ∀ y ∈ ys, y < m) : ∀ y ∈ partL n ord ys, -1 ≤ y ∧ y < m := by
  intro y hy
  obtain ⟨x, _, rfl⟩ := List.mem_map.1 hy
  split
  · rename_i h1
    have := getD_lt h h1
    omega
  · omega
theorem part_snoc {f : Fr} {ord ys : List Nat} (ho : OrdOk f ord) (hk : ys.length < f.n) (y : Nat) : partL f.n ord (ys ++ [y]) = (partL f.n ord ys).set (ord.getD ys.length 0) (y : Int) := by
  apply List.ext_getElem
  · simp [partL]
  · intro x h1 h2
    have hx : x < f.n := by simpa [partL] using h1
    have e1 := part_get (ord := ord) (ys := ys ++ [y]) hx
    have e2 := part_get (ord := ord) (ys := ys) hx
    have g1 : (partL f.n ord (ys ++ [y])).getD x (-1) = (partL f.n ord (ys ++ [y]))[x] := by simp [List.getD_eq_getElem?_getD, h1]
    have g2 : (partL f.n ord ys).getD x (-1) = (partL f.n ord ys)[x]'(by simpa [partL] using hx) := by simp [List.getD_eq_getElem?_getD, show x < (partL f.n ord ys).length by simpa [partL] using hx]
    rw [List.getElem_set, ← g1, e1]
    by_cases hxe : ord.getD ys.length 0 = x
    · have hi : ord.idxOf x = ys.length := by rw [← hxe, ho.idx_at hk]
      rw [if_pos hxe, hi, if_pos (by simp)]
      simp [List.getD_eq_getElem?_getD]
    · have hne : ord.idxOf x ≠ ys.length := fun h => hxe (by rw [← h, ho.at_idx hx])
      rw [if_neg hxe, ← g2, e2, List.length_append, List.length_singleton]
      by_cases h4 : ord.idxOf x < ys.length
      · rw [if_pos h4, if_pos (by omega)]
        simp [List.getD_eq_getElem?_getD, List.getElem?_append_left h4]
      · rw [if_neg h4, if_neg (by omega)]
end Go.Vc
namespace Go.Proofs.YtoolpnkcmlebkaaGreat
open Go.Vc
theorem ok_spec_l21Search {f g : Fr} (hf : f.ok) (hg : g.ok) {onto : Bool} {e : TypeId} (he1 : t_i64 ≠ e) (he2 : t_Si64 ≠ e) {ord : List Nat} (hord : OrdOk f ord) {fix : List Int} (hfl : fix.length = f.n) {w0 : World} {fa ga vord vfix : Value} (hfa : SlN w0 fa f.a) (hga : SlN w0 ga g.a) (hfix : SlI w0 vfix fix) {b : Nat} (hb : w0.heap.size ≤ b) {most : Nat} (hmost : most ≤ 1000000) :
    ∀ (d : Nat) (ys : List Nat) (w : World) (vim found : Value) (vs : List Value) (ls : List (List Int)), ys.length + d = f.n → (∀ y ∈ ys, y < g.n) → ls.length ≤ most →
      SrSt f g onto e t_i64 t_Si64 w0 fa ga vord vfix ord b most w found vs ls → Ow w0.heap.size t_i64 w vim (ints (partL f.n ord ys)) →
      Cal Tryz.prog f_spec_l21Search #[.pointer (some ⟨b, 0, none⟩), vim, .int .i64 (ys.length : Int)] w fun v w' => v = .tuple #[] ∧ ∃ found' vs' ls', SrSt f g onto e t_i64 t_Si64 w0 fa ga vord vfix ord b most w' found' vs' ls' ∧
        ls' = (ls ++ (srch f g fix onto ord d ys).map (partL f.n ord)).take most ∧ Ch (fun k => k = b ∨ found.ownBlock = some k) w w' ∧ ∀ c, found'.ownBlock = some c → found.ownBlock = some c ∨ w.heap.size ≤ c := by
  have hf8 := hf.1
  have hg8 := hg.1
  intro d
  induction d with
  | zero =>
    intro ys w vim found vs ls hlen hm hls hst hvim
    have hpl := part_length f.n ord ys
    have hplt := part_lt (n := f.n) (ord := ord) hm
    have hvl := hst.len
    apply c_spec_l21Search; unfold S_spec_l21Search
    refine iJnB (!openB f g fix onto (partL f.n ord ys) || decide (most ≤ ls.length)) w (fun J hJ => ?_) (fun w2 h2 => ?_)
    · refine iRetQ (fun w' h' => ok_spec_l21Open hf hg hpl hplt hfl (hst.later h').blk (hfa.ext (hst.later h').ext) (hga.ext (hst.later h').ext) (hfix.ext (hst.later h').ext) (hvim.ext h').sl) ?_
      (repeat first
    | (with_reducible first | refine iFa ?_ | refine iNil ?_ | refine iNilF ?_ | refine iLd (by assumption) ?_ | refine iLenN (by assumption) ?_ | refine iLenI (by assumption) ?_ | refine iLenS (by assumption) ?_ | refine iLenL ?_ | refine iEq ?_ | refine iNe ?_ | refine iLt ?_ | refine iLe ?_ | refine iNot ?_ | refine iPick ?_ | refine iE20 ?_ | refine iE21 ?_ | refine iE30 ?_ | refine iE31 ?_ | refine iE32 ?_ | refine iJn ?_)
    | ((with_reducible show xLd _ _ _); refine iLdB (by assumption) (by first | rfl | simp) ?_) | ((with_reducible refine iLdA (by assumption) ?_ ?_); rfl)
    | ((with_reducible refine iIaNN (by assumption) ?_ (fun pa_ hpa_ => ?_)); omega) | ((with_reducible refine iIaN (by assumption) ?_ (fun pa_ hpa_ => ?_)); omega)
    | ((with_reducible refine iIaI (by assumption) ?_ ?_ (fun pa_ hpa_ => ?_)); omega; omega) | ((with_reducible refine iAdd ?_ ?_); omega) | ((with_reducible refine iSub ?_ ?_); omega)
    | ((with_reducible show xEx _ _ _); refine iEx (by rfl) ?_) | ((with_reducible refine fun (_ : Nat → Value) => ?_); (try simp only [gx])))
      cases hop : openB f g fix onto (partL f.n ord ys)
      · refine iCndT rfl ?_
        intro w3 h3
        have := hJ w3 h3
        rwa [hop] at this
      · refine iCndF rfl ?_
        have hB := hst.blk
        have hfs := hst.ow.sl
        (repeat first
    | (with_reducible first | refine iFa ?_ | refine iNil ?_ | refine iNilF ?_ | refine iLd (by assumption) ?_ | refine iLenN (by assumption) ?_ | refine iLenI (by assumption) ?_ | refine iLenS (by assumption) ?_ | refine iLenL ?_ | refine iEq ?_ | refine iNe ?_ | refine iLt ?_ | refine iLe ?_ | refine iNot ?_ | refine iPick ?_ | refine iE20 ?_ | refine iE21 ?_ | refine iE30 ?_ | refine iE31 ?_ | refine iE32 ?_ | refine iJn ?_)
    | ((with_reducible show xLd _ _ _); refine iLdB (by assumption) (by first | rfl | simp) ?_) | ((with_reducible refine iLdA (by assumption) ?_ ?_); rfl)
    | ((with_reducible refine iIaNN (by assumption) ?_ (fun pa_ hpa_ => ?_)); omega) | ((with_reducible refine iIaN (by assumption) ?_ (fun pa_ hpa_ => ?_)); omega)
    | ((with_reducible refine iIaI (by assumption) ?_ ?_ (fun pa_ hpa_ => ?_)); omega; omega) | ((with_reducible refine iAdd ?_ ?_); omega) | ((with_reducible refine iSub ?_ ?_); omega)
    | ((with_reducible show xEx _ _ _); refine iEx (by rfl) ?_) | ((with_reducible refine fun (_ : Nat → Value) => ?_); (try simp only [gx])))
        intro w4 h4
        have := hJ w4 h4
        rw [hop, Bool.not_true, Bool.false_or] at this
        have e3 : decide ((most : Int) ≤ (vs.length : Int)) = decide (most ≤ ls.length) := decide_eq_decide.2 (by omega)
        rw [e3]; exact this
    have hst2 := hst.later h2
    have hvim2 := hvim.ext h2
    have hch2 : Ch (fun k => k = b ∨ found.ownBlock = some k) w w2 := h2.ch
    (repeat first
    | (with_reducible first | refine iFa ?_ | refine iNil ?_ | refine iNilF ?_ | refine iLd (by assumption) ?_ | refine iLenN (by assumption) ?_ | refine iLenI (by assumption) ?_ | refine iLenS (by assumption) ?_ | refine iLenL ?_ | refine iEq ?_ | refine iNe ?_ | refine iLt ?_ | refine iLe ?_ | refine iNot ?_ | refine iPick ?_ | refine iE20 ?_ | refine iE21 ?_ | refine iE30 ?_ | refine iE31 ?_ | refine iE32 ?_ | refine iJn ?_)
    | ((with_reducible show xLd _ _ _); refine iLdB (by assumption) (by first | rfl | simp) ?_) | ((with_reducible refine iLdA (by assumption) ?_ ?_); rfl)
    | ((with_reducible refine iIaNN (by assumption) ?_ (fun pa_ hpa_ => ?_)); omega) | ((with_reducible refine iIaN (by assumption) ?_ (fun pa_ hpa_ => ?_)); omega)
    | ((with_reducible refine iIaI (by assumption) ?_ ?_ (fun pa_ hpa_ => ?_)); omega; omega) | ((with_reducible refine iAdd ?_ ?_); omega) | ((with_reducible refine iSub ?_ ?_); omega)
    | ((with_reducible show xEx _ _ _); refine iEx (by rfl) ?_) | ((with_reducible refine fun (_ : Nat → Value) => ?_); (try simp only [gx])))
    cases hT : (!openB f g fix onto (partL f.n ord ys) || decide (most ≤ ls.length))
    case true =>
      refine iCndT rfl ⟨by trivial, found, vs, ls, hst2, ?_, hch2, fun c hc => .inl hc⟩
      rw [Bool.or_eq_true, Bool.not_eq_true', decide_eq_true_eq] at hT
      rcases hT with hT | hT
      · unfold srch
        rw [hT, if_neg (by simp), List.map_nil, List.append_nil, List.take_of_length_le hls]
      · rw [List.take_append_of_le_length hT, List.take_of_length_le hls]
    rw [Bool.or_eq_false_iff, Bool.not_eq_false', decide_eq_false_iff_not] at hT
    obtain ⟨hop, hmo⟩ := hT
    refine iCndF rfl ?_
    have hB2 := hst2.blk
    have hos : SlN w2 vord ord := hst2.ord.sl
    have hol := hord.len
    (repeat first
    | (with_reducible first | refine iFa ?_ | refine iNil ?_ | refine iNilF ?_ | refine iLd (by assumption) ?_ | refine iLenN (by assumption) ?_ | refine iLenI (by assumption) ?_ | refine iLenS (by assumption) ?_ | refine iLenL ?_ | refine iEq ?_ | refine iNe ?_ | refine iLt ?_ | refine iLe ?_ | refine iNot ?_ | refine iPick ?_ | refine iE20 ?_ | refine iE21 ?_ | refine iE30 ?_ | refine iE31 ?_ | refine iE32 ?_ | refine iJn ?_)
    | ((with_reducible show xLd _ _ _); refine iLdB (by assumption) (by first | rfl | simp) ?_) | ((with_reducible refine iLdA (by assumption) ?_ ?_); rfl)
    | ((with_reducible refine iIaNN (by assumption) ?_ (fun pa_ hpa_ => ?_)); omega) | ((with_reducible refine iIaN (by assumption) ?_ (fun pa_ hpa_ => ?_)); omega)
    | ((with_reducible refine iIaI (by assumption) ?_ ?_ (fun pa_ hpa_ => ?_)); omega; omega) | ((with_reducible refine iAdd ?_ ?_); omega) | ((with_reducible refine iSub ?_ ?_); omega)
    | ((with_reducible show xEx _ _ _); refine iEx (by rfl) ?_) | ((with_reducible refine fun (_ : Nat → Value) => ?_); (try simp only [gx])))
    refine iCndP (fun h3 => ?_) (fun h3 => absurd (show (ys.length : Int) = ord.length by omega) h3)
    (repeat first
    | (with_reducible first | refine iFa ?_ | refine iNil ?_ | refine iNilF ?_ | refine iLd (by assumption) ?_ | refine iLenN (by assumption) ?_ | refine iLenI (by assumption) ?_ | refine iLenS (by assumption) ?_ | refine iLenL ?_ | refine iEq ?_ | refine iNe ?_ | refine iLt ?_ | refine iLe ?_ | refine iNot ?_ | refine iPick ?_ | refine iE20 ?_ | refine iE21 ?_ | refine iE30 ?_ | refine iE31 ?_ | refine iE32 ?_ | refine iJn ?_)
    | ((with_reducible show xLd _ _ _); refine iLdB (by assumption) (by first | rfl | simp) ?_) | ((with_reducible refine iLdA (by assumption) ?_ ?_); rfl)
    | ((with_reducible refine iIaNN (by assumption) ?_ (fun pa_ hpa_ => ?_)); omega) | ((with_reducible refine iIaN (by assumption) ?_ (fun pa_ hpa_ => ?_)); omega)
    | ((with_reducible refine iIaI (by assumption) ?_ ?_ (fun pa_ hpa_ => ?_)); omega; omega) | ((with_reducible refine iAdd ?_ ?_); omega) | ((with_reducible refine iSub ?_ ?_); omega)
    | ((with_reducible show xEx _ _ _); refine iEx (by rfl) ?_) | ((with_reducible refine fun (_ : Nat → Value) => ?_); (try simp only [gx])))
    intro w5 h
    have hst5 := hst2.later h
    have hch5 := hch2.trans (h.ch (S := fun _ => False)) (fun _ h => h.elim)
    refine iCall ((ok_spec_l01Own (hvim2.ext h).sl (by rw [hpl]; omega)).mono ?_)
    rintro u w6 ⟨h, ho⟩
    (try refine ⟨h, ?_⟩)
    have hnew : ∀ x ∈ vs, ∀ c, x.ownBlock = some c → u.ownBlock ≠ some c := fun x hx c hc e => by have := (hst5.owl.lt hx hc).2; have := (ho.blk c e).1; omega
    have hsz5 := hst5.ext.size
    have hst6 := hst5.later h
    have hch6 := hch5.trans (h.ch (S := fun _ => False)) (fun _ h => h.elim)
    intro w7 h
    have hst7 := hst6.later h
    have hch7 := hch6.trans (h.ch (S := fun _ => False)) (fun _ h => h.elim)
    have ho := ho.ext h
    refine iBs1 rfl ho.cell fun bb w8 hbb h hBb => ?_
    (try refine ⟨h, ?_⟩)
    have hst8 := hst7.later h
    have hch8 := hch7.trans (h.ch (S := fun _ => False)) (fun _ h => h.elim)
    have ho := ho.ext h
    intro w9 h
    have hst9 := hst8.later h
    have hch9 := hch8.trans (h.ch (S := fun _ => False)) (fun _ h => h.elim)
    have ho := ho.ext h
    have hBb := hBb.ext h
    refine iAppA u_SSi64 i_SSi64 rfl hst9.ow (Sl.ofBlk hBb rfl (by omega)) (fun x hx => by simp at hx; subst hx; exact ho.cell) (by simp; omega) (by simp; omega) hst9.ext.size fun found' w10 hf' hg' hat => ?_
    have hfb : found.ownBlock ≠ some b := hst9.ow.ne_blk hst9.blk (fun h => he2 h)
    have hB10 := hst9.blk.grown hg' hfb
    have hgc := grown_ch (S := fun k => found.ownBlock = some k) hg' (fun k hk => hk)
    have hord10 := hst9.ord.ch hgc (fun c hc he => hst9.ord.ne_ow hst9.ow (by decide) hc he)
    have hol10 := hst9.owl.ch hgc (fun x hx c hc he => by
      obtain ⟨l, hl⟩ := hst9.owl.ow hx
      exact hl.ne_ow hst9.ow (by decide) hc he)
    have ho10 := ho.ch hgc (fun c hc he => ho.ne_ow hst9.ow (by decide) hc he)
    have hch10 := hch9.trans hgc (fun k hk => .inl (.inr hk))
    (repeat first
    | (with_reducible first | refine iFa ?_ | refine iNil ?_ | refine iNilF ?_ | refine iLd (by assumption) ?_ | refine iLenN (by assumption) ?_ | refine iLenI (by assumption) ?_ | refine iLenS (by assumption) ?_ | refine iLenL ?_ | refine iEq ?_ | refine iNe ?_ | refine iLt ?_ | refine iLe ?_ | refine iNot ?_ | refine iPick ?_ | refine iE20 ?_ | refine iE21 ?_ | refine iE30 ?_ | refine iE31 ?_ | refine iE32 ?_ | refine iJn ?_)
    | ((with_reducible show xLd _ _ _); refine iLdB (by assumption) (by first | rfl | simp) ?_) | ((with_reducible refine iLdA (by assumption) ?_ ?_); rfl)
    | ((with_reducible refine iIaNN (by assumption) ?_ (fun pa_ hpa_ => ?_)); omega) | ((with_reducible refine iIaN (by assumption) ?_ (fun pa_ hpa_ => ?_)); omega)
    | ((with_reducible refine iIaI (by assumption) ?_ ?_ (fun pa_ hpa_ => ?_)); omega; omega) | ((with_reducible refine iAdd ?_ ?_); omega) | ((with_reducible refine iSub ?_ ?_); omega)
    | ((with_reducible show xEx _ _ _); refine iEx (by rfl) ?_) | ((with_reducible refine fun (_ : Nat → Value) => ?_); (try simp only [gx])))
    intro w11 h
    have hB11 := hB10.ext h
    have hord11 := hord10.ext h
    have hol11 := hol10.ext h
    have ho11 := ho10.ext h
    have hf11 := hf'.ext h
    have hch11 := hch10.trans (h.ch (S := fun _ => False)) (fun _ h => h.elim)
    refine iStB hB11 (by simp) hf'.cell fun hB12 => ?_
    have hu := Upd.setCell w11 b 8 found'
    have hch12 := hch11.trans (hu.ch (S := fun k => k = b) rfl) (fun k hk => .inl (.inl hk))
    have hord12 := hord11.upd hu (hord11.ne_blk hB11 (fun h => he1 h))
    have hf12 := hf11.upd hu (hf11.ne_blk hB11 (fun h => he2 h))
    have ho12 := ho11.upd hu (ho11.ne_blk hB11 (fun h => he1 h))
    have hol12 := hol11.ch (hu.ch (S := fun k => k = b) rfl) (fun x hx c hc he => by
      obtain ⟨l, hl⟩ := hol11.ow hx
      exact hl.ne_blk hB11 (fun h => he1 h) (by rw [hc, he]))
    intro w13 h
    have hS : ∀ c, (c = b ∨ found.ownBlock = some c) → w0.heap.size ≤ c := fun c hc => by
      rcases hc with rfl | hc
      · exact hb
      · exact (hst.ow.blk c hc).1
    have hL : srch f g fix onto ord 0 ys = [ys] := by
      unfold srch
      rw [if_pos hop]; rfl
    refine ⟨by trivial, found', vs ++ [u], ls ++ [partL f.n ord ys], ⟨(hst.ext.thenCh hch12 hS).trans h, hB12.ext h, hord12.ext h, hf12.ext h, ?_⟩, ?_, hch12.trans (h.ch (S := fun _ => False)) (fun _ h => h.elim), fun c hc => ?_⟩
    · rw [List.map_append]
      exact (hol12.ext h).snoc ((ho12.ext h).mono hsz5) hnew
    · rw [hL, List.take_of_length_le]
      · rfl
      · simp; omega
    · rcases hat with h1 | ⟨c', h1, h2⟩
      · exact .inl (by rw [← h1]; exact hc)
      · rw [h1] at hc; cases hc
        have := hch9.size
        exact .inr (by omega)
  | succ d ih =>
    intro ys w vim found vs ls hlen hm hls hst hvim
    have hpl := part_length f.n ord ys
    have hplt := part_lt (n := f.n) (ord := ord) hm
    have hvl := hst.len
    apply c_spec_l21Search; unfold S_spec_l21Search
    refine iJnB (!openB f g fix onto (partL f.n ord ys) || decide (most ≤ ls.length)) w (fun J hJ => ?_) (fun w2 h2 => ?_)
    · refine iRetQ (fun w' h' => ok_spec_l21Open hf hg hpl hplt hfl (hst.later h').blk (hfa.ext (hst.later h').ext) (hga.ext (hst.later h').ext) (hfix.ext (hst.later h').ext) (hvim.ext h').sl) ?_
      (repeat first
    | (with_reducible first | refine iFa ?_ | refine iNil ?_ | refine iNilF ?_ | refine iLd (by assumption) ?_ | refine iLenN (by assumption) ?_ | refine iLenI (by assumption) ?_ | refine iLenS (by assumption) ?_ | refine iLenL ?_ | refine iEq ?_ | refine iNe ?_ | refine iLt ?_ | refine iLe ?_ | refine iNot ?_ | refine iPick ?_ | refine iE20 ?_ | refine iE21 ?_ | refine iE30 ?_ | refine iE31 ?_ | refine iE32 ?_ | refine iJn ?_)
    | ((with_reducible show xLd _ _ _); refine iLdB (by assumption) (by first | rfl | simp) ?_) | ((with_reducible refine iLdA (by assumption) ?_ ?_); rfl)
    | ((with_reducible refine iIaNN (by assumption) ?_ (fun pa_ hpa_ => ?_)); omega) | ((with_reducible refine iIaN (by assumption) ?_ (fun pa_ hpa_ => ?_)); omega)
    | ((with_reducible refine iIaI (by assumption) ?_ ?_ (fun pa_ hpa_ => ?_)); omega; omega) | ((with_reducible refine iAdd ?_ ?_); omega) | ((with_reducible refine iSub ?_ ?_); omega)
    | ((with_reducible show xEx _ _ _); refine iEx (by rfl) ?_) | ((with_reducible refine fun (_ : Nat → Value) => ?_); (try simp only [gx])))
      cases hop : openB f g fix onto (partL f.n ord ys)
      · refine iCndT rfl ?_
        intro w3 h3
        have := hJ w3 h3
        rwa [hop] at this
      · refine iCndF rfl ?_
        have hB := hst.blk
        have hfs := hst.ow.sl
        (repeat first
    | (with_reducible first | refine iFa ?_ | refine iNil ?_ | refine iNilF ?_ | refine iLd (by assumption) ?_ | refine iLenN (by assumption) ?_ | refine iLenI (by assumption) ?_ | refine iLenS (by assumption) ?_ | refine iLenL ?_ | refine iEq ?_ | refine iNe ?_ | refine iLt ?_ | refine iLe ?_ | refine iNot ?_ | refine iPick ?_ | refine iE20 ?_ | refine iE21 ?_ | refine iE30 ?_ | refine iE31 ?_ | refine iE32 ?_ | refine iJn ?_)
    | ((with_reducible show xLd _ _ _); refine iLdB (by assumption) (by first | rfl | simp) ?_) | ((with_reducible refine iLdA (by assumption) ?_ ?_); rfl)
    | ((with_reducible refine iIaNN (by assumption) ?_ (fun pa_ hpa_ => ?_)); omega) | ((with_reducible refine iIaN (by assumption) ?_ (fun pa_ hpa_ => ?_)); omega)
    | ((with_reducible refine iIaI (by assumption) ?_ ?_ (fun pa_ hpa_ => ?_)); omega; omega) | ((with_reducible refine iAdd ?_ ?_); omega) | ((with_reducible refine iSub ?_ ?_); omega)
    | ((with_reducible show xEx _ _ _); refine iEx (by rfl) ?_) | ((with_reducible refine fun (_ : Nat → Value) => ?_); (try simp only [gx])))
        intro w4 h4
        have := hJ w4 h4
        rw [hop, Bool.not_true, Bool.false_or] at this
        have e3 : decide ((most : Int) ≤ (vs.length : Int)) = decide (most ≤ ls.length) := decide_eq_decide.2 (by omega)
        rw [e3]; exact this
    have hst2 := hst.later h2
    have hvim2 := hvim.ext h2
    have hch2 : Ch (fun k => k = b ∨ found.ownBlock = some k) w w2 := h2.ch
    (repeat first
    | (with_reducible first | refine iFa ?_ | refine iNil ?_ | refine iNilF ?_ | refine iLd (by assumption) ?_ | refine iLenN (by assumption) ?_ | refine iLenI (by assumption) ?_ | refine iLenS (by assumption) ?_ | refine iLenL ?_ | refine iEq ?_ | refine iNe ?_ | refine iLt ?_ | refine iLe ?_ | refine iNot ?_ | refine iPick ?_ | refine iE20 ?_ | refine iE21 ?_ | refine iE30 ?_ | refine iE31 ?_ | refine iE32 ?_ | refine iJn ?_)
    | ((with_reducible show xLd _ _ _); refine iLdB (by assumption) (by first | rfl | simp) ?_) | ((with_reducible refine iLdA (by assumption) ?_ ?_); rfl)
    | ((with_reducible refine iIaNN (by assumption) ?_ (fun pa_ hpa_ => ?_)); omega) | ((with_reducible refine iIaN (by assumption) ?_ (fun pa_ hpa_ => ?_)); omega)
    | ((with_reducible refine iIaI (by assumption) ?_ ?_ (fun pa_ hpa_ => ?_)); omega; omega) | ((with_reducible refine iAdd ?_ ?_); omega) | ((with_reducible refine iSub ?_ ?_); omega)
    | ((with_reducible show xEx _ _ _); refine iEx (by rfl) ?_) | ((with_reducible refine fun (_ : Nat → Value) => ?_); (try simp only [gx])))
    cases hT : (!openB f g fix onto (partL f.n ord ys) || decide (most ≤ ls.length))
    case true =>
      refine iCndT rfl ⟨by trivial, found, vs, ls, hst2, ?_, hch2, fun c hc => .inl hc⟩
      rw [Bool.or_eq_true, Bool.not_eq_true', decide_eq_true_eq] at hT
      rcases hT with hT | hT
      · unfold srch
        rw [hT, if_neg (by simp), List.map_nil, List.append_nil, List.take_of_length_le hls]
      · rw [List.take_append_of_le_length hT, List.take_of_length_le hls]
    rw [Bool.or_eq_false_iff, Bool.not_eq_false', decide_eq_false_iff_not] at hT
    obtain ⟨hop, hmo⟩ := hT
    refine iCndF rfl ?_
    have hB2 := hst2.blk
    have hos : SlN w2 vord ord := hst2.ord.sl
    have hol := hord.len
    (repeat first
    | (with_reducible first | refine iFa ?_ | refine iNil ?_ | refine iNilF ?_ | refine iLd (by assumption) ?_ | refine iLenN (by assumption) ?_ | refine iLenI (by assumption) ?_ | refine iLenS (by assumption) ?_ | refine iLenL ?_ | refine iEq ?_ | refine iNe ?_ | refine iLt ?_ | refine iLe ?_ | refine iNot ?_ | refine iPick ?_ | refine iE20 ?_ | refine iE21 ?_ | refine iE30 ?_ | refine iE31 ?_ | refine iE32 ?_ | refine iJn ?_)
    | ((with_reducible show xLd _ _ _); refine iLdB (by assumption) (by first | rfl | simp) ?_) | ((with_reducible refine iLdA (by assumption) ?_ ?_); rfl)
    | ((with_reducible refine iIaNN (by assumption) ?_ (fun pa_ hpa_ => ?_)); omega) | ((with_reducible refine iIaN (by assumption) ?_ (fun pa_ hpa_ => ?_)); omega)
    | ((with_reducible refine iIaI (by assumption) ?_ ?_ (fun pa_ hpa_ => ?_)); omega; omega) | ((with_reducible refine iAdd ?_ ?_); omega) | ((with_reducible refine iSub ?_ ?_); omega)
    | ((with_reducible show xEx _ _ _); refine iEx (by rfl) ?_) | ((with_reducible refine fun (_ : Nat → Value) => ?_); (try simp only [gx])))
    refine iCndP (fun h3 => absurd h3 (by omega)) (fun h3 => ?_)
    have hk : ys.length < f.n := by omega
    have hx : ord.getD ys.length 0 < f.n := by
      have h4 : ys.length < ord.length := by omega
      have e4 : ord.getD ys.length 0 = ord[ys.length] := by simp [List.getD_eq_getElem?_getD, h4]
      rw [e4]; exact hord.lt _ (List.getElem_mem h4)
    have hgx := fr_lt63 hf (ord.getD ys.length 0)
    have hnS : ∀ c, vim.ownBlock = some c → ¬ (c = b ∨ found.ownBlock = some c) := fun c hc => by
      rintro (rfl | h1)
      · exact hvim.ne_blk hst.blk (fun h => he1 h) hc
      · exact hvim.ne_ow hst.ow (by decide) hc h1
    (repeat first
    | (with_reducible first | refine iFa ?_ | refine iNil ?_ | refine iNilF ?_ | refine iLd (by assumption) ?_ | refine iLenN (by assumption) ?_ | refine iLenI (by assumption) ?_ | refine iLenS (by assumption) ?_ | refine iLenL ?_ | refine iEq ?_ | refine iNe ?_ | refine iLt ?_ | refine iLe ?_ | refine iNot ?_ | refine iPick ?_ | refine iE20 ?_ | refine iE21 ?_ | refine iE30 ?_ | refine iE31 ?_ | refine iE32 ?_ | refine iJn ?_)
    | ((with_reducible show xLd _ _ _); refine iLdB (by assumption) (by first | rfl | simp) ?_) | ((with_reducible refine iLdA (by assumption) ?_ ?_); rfl)
    | ((with_reducible refine iIaNN (by assumption) ?_ (fun pa_ hpa_ => ?_)); omega) | ((with_reducible refine iIaN (by assumption) ?_ (fun pa_ hpa_ => ?_)); omega)
    | ((with_reducible refine iIaI (by assumption) ?_ ?_ (fun pa_ hpa_ => ?_)); omega; omega) | ((with_reducible refine iAdd ?_ ?_); omega) | ((with_reducible refine iSub ?_ ?_); omega)
    | ((with_reducible show xEx _ _ _); refine iEx (by rfl) ?_) | ((with_reducible refine fun (_ : Nat → Value) => ?_); (try simp only [gx])))
    refine iLp (fun k : Nat => [.int .i64 (k : Int)]) (fun k w' => k ≤ g.n ∧ ∃ found' vs' ls', SrSt f g onto e t_i64 t_Si64 w0 fa ga vord vfix ord b most w' found' vs' ls' ∧
        ls' = (ls ++ ((List.range k).flatMap fun y => if stepB f g fix ord (ys ++ [y]) then srch f g fix onto ord d (ys ++ [y]) else []).map (partL f.n ord)).take most ∧ Ch (fun k => k = b ∨ found.ownBlock = some k) w w' ∧ ∀ c, found'.ownBlock = some c → found.ownBlock = some c ∨ w.heap.size ≤ c)
      (fun k => g.n - k) 0 rfl ⟨Nat.zero_le _, found, vs, ls, hst2, by rw [List.range_zero, List.flatMap_nil, List.map_nil, List.append_nil, List.take_of_length_le hls], hch2, fun c hc => .inl hc⟩ ?_
    rintro k w15 Kn ⟨hkg, found', vs', ls', hst', hls', hch, hfb⟩ hKn
    have hB15 := hst'.blk
    have hfix15 := hfix.ext hst'.ext
    (repeat first
    | (with_reducible first | refine iFa ?_ | refine iNil ?_ | refine iNilF ?_ | refine iLd (by assumption) ?_ | refine iLenN (by assumption) ?_ | refine iLenI (by assumption) ?_ | refine iLenS (by assumption) ?_ | refine iLenL ?_ | refine iEq ?_ | refine iNe ?_ | refine iLt ?_ | refine iLe ?_ | refine iNot ?_ | refine iPick ?_ | refine iE20 ?_ | refine iE21 ?_ | refine iE30 ?_ | refine iE31 ?_ | refine iE32 ?_ | refine iJn ?_)
    | ((with_reducible show xLd _ _ _); refine iLdB (by assumption) (by first | rfl | simp) ?_) | ((with_reducible refine iLdA (by assumption) ?_ ?_); rfl)
    | ((with_reducible refine iIaNN (by assumption) ?_ (fun pa_ hpa_ => ?_)); omega) | ((with_reducible refine iIaN (by assumption) ?_ (fun pa_ hpa_ => ?_)); omega)
    | ((with_reducible refine iIaI (by assumption) ?_ ?_ (fun pa_ hpa_ => ?_)); omega; omega) | ((with_reducible refine iAdd ?_ ?_); omega) | ((with_reducible refine iSub ?_ ?_); omega)
    | ((with_reducible show xEx _ _ _); refine iEx (by rfl) ?_) | ((with_reducible refine fun (_ : Nat → Value) => ?_); (try simp only [gx])))
    refine iCndP (fun h4 => ?_) (fun h4 => ?_)
    · have hk1 : k < g.n := by omega
      have hgk := fr_lt63 hg k
      have hnext : ∀ w', (∃ found' vs' ls', SrSt f g onto e t_i64 t_Si64 w0 fa ga vord vfix ord b most w' found' vs' ls' ∧
          ls' = (ls ++ ((List.range (k + 1)).flatMap fun y => if stepB f g fix ord (ys ++ [y]) then srch f g fix onto ord d (ys ++ [y]) else []).map (partL f.n ord)).take most ∧ Ch (fun k => k = b ∨ found.ownBlock = some k) w w' ∧ ∀ c, found'.ownBlock = some c → found.ownBlock = some c ∨ w.heap.size ≤ c) → Kn [.int .i64 ((k + 1 : Nat) : Int)] w' := fun w' h => hKn (k + 1) _ ⟨by omega, h⟩ (by omega)
      have hflat : ((List.range (k + 1)).flatMap fun y => if stepB f g fix ord (ys ++ [y]) then srch f g fix onto ord d (ys ++ [y]) else []) = ((List.range k).flatMap fun y => if stepB f g fix ord (ys ++ [y]) then srch f g fix onto ord d (ys ++ [y]) else []) ++ if stepB f g fix ord (ys ++ [k]) then srch f g fix onto ord d (ys ++ [k]) else [] := by
        rw [List.range_succ, List.flatMap_append]; simp
      have hlast : (ys ++ [k]).length - 1 = ys.length := by simp
      have hgl : (ys ++ [k]).getD ys.length 0 = k := by simp [List.getD_eq_getElem?_getD]
      have hstepB : stepB f g fix ord (ys ++ [k]) = ((decide (fix.getD (ord.getD ys.length 0) 0 < 0) || decide (fix.getD (ord.getD ys.length 0) 0 = (k : Int))) && decide (imgP (partL f.n ord (ys ++ [k])) (f.a.getD (ord.getD ys.length 0) 0) = g.a.getD k 0)) := by
        unfold stepB
        rw [hlast, hgl]
      (repeat first
    | (with_reducible first | refine iFa ?_ | refine iNil ?_ | refine iNilF ?_ | refine iLd (by assumption) ?_ | refine iLenN (by assumption) ?_ | refine iLenI (by assumption) ?_ | refine iLenS (by assumption) ?_ | refine iLenL ?_ | refine iEq ?_ | refine iNe ?_ | refine iLt ?_ | refine iLe ?_ | refine iNot ?_ | refine iPick ?_ | refine iE20 ?_ | refine iE21 ?_ | refine iE30 ?_ | refine iE31 ?_ | refine iE32 ?_)
    | ((with_reducible show xLd _ _ _); refine iLdB (by assumption) (by first | rfl | simp) ?_) | ((with_reducible refine iLdA (by assumption) ?_ ?_); rfl)
    | ((with_reducible refine iIaNN (by assumption) ?_ (fun pa_ hpa_ => ?_)); omega) | ((with_reducible refine iIaN (by assumption) ?_ (fun pa_ hpa_ => ?_)); omega)
    | ((with_reducible refine iIaI (by assumption) ?_ ?_ (fun pa_ hpa_ => ?_)); omega; omega) | ((with_reducible refine iAdd ?_ ?_); omega) | ((with_reducible refine iSub ?_ ?_); omega)
    | ((with_reducible show xEx _ _ _); refine iEx (by rfl) ?_) | ((with_reducible refine fun (_ : Nat → Value) => ?_); (try simp only [gx])))
      refine iJnB (decide (0 ≤ fix.getD (ord.getD ys.length 0) 0) && !decide (fix.getD (ord.getD ys.length 0) 0 = (k : Int))) w15 (fun J hJ => ?_) (fun w17 h17 => ?_)
      · (repeat first
    | (with_reducible first | refine iFa ?_ | refine iNil ?_ | refine iNilF ?_ | refine iLd (by assumption) ?_ | refine iLenN (by assumption) ?_ | refine iLenI (by assumption) ?_ | refine iLenS (by assumption) ?_ | refine iLenL ?_ | refine iEq ?_ | refine iNe ?_ | refine iLt ?_ | refine iLe ?_ | refine iNot ?_ | refine iPick ?_ | refine iE20 ?_ | refine iE21 ?_ | refine iE30 ?_ | refine iE31 ?_ | refine iE32 ?_ | refine iJn ?_)
    | ((with_reducible show xLd _ _ _); refine iLdB (by assumption) (by first | rfl | simp) ?_) | ((with_reducible refine iLdA (by assumption) ?_ ?_); rfl)
    | ((with_reducible refine iIaNN (by assumption) ?_ (fun pa_ hpa_ => ?_)); omega) | ((with_reducible refine iIaN (by assumption) ?_ (fun pa_ hpa_ => ?_)); omega)
    | ((with_reducible refine iIaI (by assumption) ?_ ?_ (fun pa_ hpa_ => ?_)); omega; omega) | ((with_reducible refine iAdd ?_ ?_); omega) | ((with_reducible refine iSub ?_ ?_); omega)
    | ((with_reducible show xEx _ _ _); refine iEx (by rfl) ?_) | ((with_reducible refine fun (_ : Nat → Value) => ?_); (try simp only [gx])))
        refine iCndP (fun h5 => ?_) (fun h5 => ?_)
        · (repeat first
    | (with_reducible first | refine iFa ?_ | refine iNil ?_ | refine iNilF ?_ | refine iLd (by assumption) ?_ | refine iLenN (by assumption) ?_ | refine iLenI (by assumption) ?_ | refine iLenS (by assumption) ?_ | refine iLenL ?_ | refine iEq ?_ | refine iNe ?_ | refine iLt ?_ | refine iLe ?_ | refine iNot ?_ | refine iPick ?_ | refine iE20 ?_ | refine iE21 ?_ | refine iE30 ?_ | refine iE31 ?_ | refine iE32 ?_ | refine iJn ?_)
    | ((with_reducible show xLd _ _ _); refine iLdB (by assumption) (by first | rfl | simp) ?_) | ((with_reducible refine iLdA (by assumption) ?_ ?_); rfl)
    | ((with_reducible refine iIaNN (by assumption) ?_ (fun pa_ hpa_ => ?_)); omega) | ((with_reducible refine iIaN (by assumption) ?_ (fun pa_ hpa_ => ?_)); omega)
    | ((with_reducible refine iIaI (by assumption) ?_ ?_ (fun pa_ hpa_ => ?_)); omega; omega) | ((with_reducible refine iAdd ?_ ?_); omega) | ((with_reducible refine iSub ?_ ?_); omega)
    | ((with_reducible show xEx _ _ _); refine iEx (by rfl) ?_) | ((with_reducible refine fun (_ : Nat → Value) => ?_); (try simp only [gx])))
          have := hJ w15 (Ext.refl _)
          rw [decide_eq_true h5, Bool.true_and] at this
          have e5 : decide (¬ fix.getD (ord.getD ys.length 0) 0 = (k : Int)) = !decide (fix.getD (ord.getD ys.length 0) 0 = (k : Int)) := by simp
          rw [e5]; exact this
        · have := hJ w15 (Ext.refl _)
          rwa [decide_eq_false h5, Bool.false_and] at this
      · have hst17 := hst'.later h17
        have hch17 := hch.trans (h17.ch (S := fun _ => False)) (fun _ h => h.elim)
        have hvim17 := hvim.ch hch17 hnS
        (repeat first
    | (with_reducible first | refine iFa ?_ | refine iNil ?_ | refine iNilF ?_ | refine iLd (by assumption) ?_ | refine iLenN (by assumption) ?_ | refine iLenI (by assumption) ?_ | refine iLenS (by assumption) ?_ | refine iLenL ?_ | refine iEq ?_ | refine iNe ?_ | refine iLt ?_ | refine iLe ?_ | refine iNot ?_ | refine iPick ?_ | refine iE20 ?_ | refine iE21 ?_ | refine iE30 ?_ | refine iE31 ?_ | refine iE32 ?_ | refine iJn ?_)
    | ((with_reducible show xLd _ _ _); refine iLdB (by assumption) (by first | rfl | simp) ?_) | ((with_reducible refine iLdA (by assumption) ?_ ?_); rfl)
    | ((with_reducible refine iIaNN (by assumption) ?_ (fun pa_ hpa_ => ?_)); omega) | ((with_reducible refine iIaN (by assumption) ?_ (fun pa_ hpa_ => ?_)); omega)
    | ((with_reducible refine iIaI (by assumption) ?_ ?_ (fun pa_ hpa_ => ?_)); omega; omega) | ((with_reducible refine iAdd ?_ ?_); omega) | ((with_reducible refine iSub ?_ ?_); omega)
    | ((with_reducible show xEx _ _ _); refine iEx (by rfl) ?_) | ((with_reducible refine fun (_ : Nat → Value) => ?_); (try simp only [gx])))
        cases hT2 : (decide (0 ≤ fix.getD (ord.getD ys.length 0) 0) && !decide (fix.getD (ord.getD ys.length 0) 0 = (k : Int)))
        · refine iCndF rfl ?_
          have hfixok : (decide (fix.getD (ord.getD ys.length 0) 0 < 0) || decide (fix.getD (ord.getD ys.length 0) 0 = (k : Int))) = true := by
            rw [Bool.and_eq_false_iff] at hT2
            rw [Bool.or_eq_true, decide_eq_true_eq, decide_eq_true_eq]
            rcases hT2 with h | h
            · have := of_decide_eq_false h; exact .inl (by omega)
            · rw [Bool.not_eq_false', decide_eq_true_eq] at h; exact .inr h
          rw [hfixok, Bool.true_and] at hstepB
          refine iCall ((ok_spec_l01Own hvim17.sl (by rw [hpl]; omega)).mono ?_)
          rintro u w18 ⟨h18, hou⟩
          have hil : (ints (partL f.n ord ys)).length = f.n := by rw [ints_length, hpl]
          refine iIaOwE hou (by omega) fun bu hbu hwr => ?_
          obtain ⟨hc1, hc2, hc3⟩ := hwr w18 _ rfl hou
          rw [List.getElem?_eq_getElem (by omega)] at hc1
          refine iSt hc1 hc2 rfl ?_
          have hou2 := hc3 (.int .i64 (k : Int))
          have hset : (ints (partL f.n ord ys)).set (ord.getD ys.length 0) (.int .i64 (k : Int)) = ints (partL f.n ord (ys ++ [k])) := by
            rw [part_snoc hord hk]; simp [ints, List.map_set]
          rw [hset] at hou2
          have hX19 : Ext w17 (w18.setCell ⟨bu, ord.getD ys.length 0, none⟩ (.int .i64 (k : Int))) := h18.upd (Upd.setCell _ _ _ _) (hou.blk bu hbu).1
          have hst19 := hst17.later hX19
          have hch19 := hch17.trans (hX19.ch (S := fun _ => False)) (fun _ h => h.elim)
          have hm' : ∀ y ∈ ys ++ [k], y < g.n := fun y hy => by
            simp at hy
            rcases hy with hy | rfl
            · exact hm y hy
            · exact hk1
          have hpl' := part_length f.n ord (ys ++ [k])
          have hplt' := part_lt (n := f.n) (ord := ord) hm'
          have hB19 := hst19.blk
          have hfa19 := hfa.ext hst19.ext
          have hga19 := hga.ext hst19.ext
          have hlen' : (ys ++ [k]).length = ys.length + 1 := by simp
          have hfal := hf.2.1
          have hgal := hg.2.1
          (repeat first
    | (with_reducible first | refine iFa ?_ | refine iNil ?_ | refine iNilF ?_ | refine iLd (by assumption) ?_ | refine iLenN (by assumption) ?_ | refine iLenI (by assumption) ?_ | refine iLenS (by assumption) ?_ | refine iLenL ?_ | refine iEq ?_ | refine iNe ?_ | refine iLt ?_ | refine iLe ?_ | refine iNot ?_ | refine iPick ?_ | refine iE20 ?_ | refine iE21 ?_ | refine iE30 ?_ | refine iE31 ?_ | refine iE32 ?_ | refine iJn ?_)
    | ((with_reducible show xLd _ _ _); refine iLdB (by assumption) (by first | rfl | simp) ?_) | ((with_reducible refine iLdA (by assumption) ?_ ?_); rfl)
    | ((with_reducible refine iIaNN (by assumption) ?_ (fun pa_ hpa_ => ?_)); omega) | ((with_reducible refine iIaN (by assumption) ?_ (fun pa_ hpa_ => ?_)); omega)
    | ((with_reducible refine iIaI (by assumption) ?_ ?_ (fun pa_ hpa_ => ?_)); omega; omega) | ((with_reducible refine iAdd ?_ ?_); omega) | ((with_reducible refine iSub ?_ ?_); omega)
    | ((with_reducible show xEx _ _ _); refine iEx (by rfl) ?_) | ((with_reducible refine fun (_ : Nat → Value) => ?_); (try simp only [gx])))
          refine iRetQ (fun w' h' => ok_spec_l21Images (hou2.ext h').sl (by rw [hpl']; omega) (fun y hy => by have := (hplt' y hy).2; omega) _ (by rw [hpl']; exact hf.lt hx)) ?_
          (repeat first
    | (with_reducible first | refine iFa ?_ | refine iNil ?_ | refine iNilF ?_ | refine iLd (by assumption) ?_ | refine iLenN (by assumption) ?_ | refine iLenI (by assumption) ?_ | refine iLenS (by assumption) ?_ | refine iLenL ?_ | refine iEq ?_ | refine iNe ?_ | refine iLt ?_ | refine iLe ?_ | refine iNot ?_ | refine iPick ?_ | refine iE20 ?_ | refine iE21 ?_ | refine iE30 ?_ | refine iE31 ?_ | refine iE32 ?_ | refine iJn ?_)
    | ((with_reducible show xLd _ _ _); refine iLdB (by assumption) (by first | rfl | simp) ?_) | ((with_reducible refine iLdA (by assumption) ?_ ?_); rfl)
    | ((with_reducible refine iIaNN (by assumption) ?_ (fun pa_ hpa_ => ?_)); omega) | ((with_reducible refine iIaN (by assumption) ?_ (fun pa_ hpa_ => ?_)); omega)
    | ((with_reducible refine iIaI (by assumption) ?_ ?_ (fun pa_ hpa_ => ?_)); omega; omega) | ((with_reducible refine iAdd ?_ ?_); omega) | ((with_reducible refine iSub ?_ ?_); omega)
    | ((with_reducible show xEx _ _ _); refine iEx (by rfl) ?_) | ((with_reducible refine fun (_ : Nat → Value) => ?_); (try simp only [gx])))
          intro w20 h20
          have hst20 := hst19.later h20
          have hch20 := hch19.trans (h20.ch (S := fun _ => False)) (fun _ h => h.elim)
          have hou20 := hou2.ext h20
          refine iCndP (fun h9 => ?_) (fun h9 => ?_)
          · have hst : stepB f g fix ord (ys ++ [k]) = true := by rw [hstepB]; exact decide_eq_true (by omega)
            rw [hst, if_pos rfl] at hflat
            (repeat first
    | (with_reducible first | refine iFa ?_ | refine iNil ?_ | refine iNilF ?_ | refine iLd (by assumption) ?_ | refine iLenN (by assumption) ?_ | refine iLenI (by assumption) ?_ | refine iLenS (by assumption) ?_ | refine iLenL ?_ | refine iEq ?_ | refine iNe ?_ | refine iLt ?_ | refine iLe ?_ | refine iNot ?_ | refine iPick ?_ | refine iE20 ?_ | refine iE21 ?_ | refine iE30 ?_ | refine iE31 ?_ | refine iE32 ?_ | refine iJn ?_)
    | ((with_reducible show xLd _ _ _); refine iLdB (by assumption) (by first | rfl | simp) ?_) | ((with_reducible refine iLdA (by assumption) ?_ ?_); rfl)
    | ((with_reducible refine iIaNN (by assumption) ?_ (fun pa_ hpa_ => ?_)); omega) | ((with_reducible refine iIaN (by assumption) ?_ (fun pa_ hpa_ => ?_)); omega)
    | ((with_reducible refine iIaI (by assumption) ?_ ?_ (fun pa_ hpa_ => ?_)); omega; omega) | ((with_reducible refine iAdd ?_ ?_); omega) | ((with_reducible refine iSub ?_ ?_); omega)
    | ((with_reducible show xEx _ _ _); refine iEx (by rfl) ?_) | ((with_reducible refine fun (_ : Nat → Value) => ?_); (try simp only [gx])))
            have hc2 : (ys.length : Int) + 1 = ((ys ++ [k]).length : Int) := by rw [hlen']; omega
            rw [hc2]
            refine iCall ((ih (ys ++ [k]) w20 u found' vs' ls' (by omega) hm' (by rw [hls', List.length_take]; omega) hst20 (hou20.mono hst17.ext.size)).mono ?_)
            rintro _ w21 ⟨rfl, found2, vs2, ls2, hst21, hls21, hch21, hfb21⟩
            (repeat first
    | (with_reducible first | refine iFa ?_ | refine iNil ?_ | refine iNilF ?_ | refine iLd (by assumption) ?_ | refine iLenN (by assumption) ?_ | refine iLenI (by assumption) ?_ | refine iLenS (by assumption) ?_ | refine iLenL ?_ | refine iEq ?_ | refine iNe ?_ | refine iLt ?_ | refine iLe ?_ | refine iNot ?_ | refine iPick ?_ | refine iE20 ?_ | refine iE21 ?_ | refine iE30 ?_ | refine iE31 ?_ | refine iE32 ?_ | refine iJn ?_)
    | ((with_reducible show xLd _ _ _); refine iLdB (by assumption) (by first | rfl | simp) ?_) | ((with_reducible refine iLdA (by assumption) ?_ ?_); rfl)
    | ((with_reducible refine iIaNN (by assumption) ?_ (fun pa_ hpa_ => ?_)); omega) | ((with_reducible refine iIaN (by assumption) ?_ (fun pa_ hpa_ => ?_)); omega)
    | ((with_reducible refine iIaI (by assumption) ?_ ?_ (fun pa_ hpa_ => ?_)); omega; omega) | ((with_reducible refine iAdd ?_ ?_); omega) | ((with_reducible refine iSub ?_ ?_); omega)
    | ((with_reducible show xEx _ _ _); refine iEx (by rfl) ?_) | ((with_reducible refine fun (_ : Nat → Value) => ?_); (try simp only [gx])))
            refine hnext w21 ⟨found2, vs2, ls2, hst21, ?_, hch20.trans hch21 (fun c hc => ?_), fun c hc => ?_⟩
            · rw [hls21, hls', hflat, List.map_append, ← List.append_assoc]
              exact take_take_append _ _ _
            · rcases hc with rfl | hc
              · exact .inl (.inl rfl)
              · exact (hfb c hc).imp .inr id
            · rcases hfb21 c hc with h1 | h1
              · exact hfb c h1
              · have := hch20.size
                exact .inr (by omega)
          · have hsf : stepB f g fix ord (ys ++ [k]) = false := by rw [hstepB]; exact decide_eq_false (by omega)
            (repeat first
    | (with_reducible first | refine iFa ?_ | refine iNil ?_ | refine iNilF ?_ | refine iLd (by assumption) ?_ | refine iLenN (by assumption) ?_ | refine iLenI (by assumption) ?_ | refine iLenS (by assumption) ?_ | refine iLenL ?_ | refine iEq ?_ | refine iNe ?_ | refine iLt ?_ | refine iLe ?_ | refine iNot ?_ | refine iPick ?_ | refine iE20 ?_ | refine iE21 ?_ | refine iE30 ?_ | refine iE31 ?_ | refine iE32 ?_ | refine iJn ?_)
    | ((with_reducible show xLd _ _ _); refine iLdB (by assumption) (by first | rfl | simp) ?_) | ((with_reducible refine iLdA (by assumption) ?_ ?_); rfl)
    | ((with_reducible refine iIaNN (by assumption) ?_ (fun pa_ hpa_ => ?_)); omega) | ((with_reducible refine iIaN (by assumption) ?_ (fun pa_ hpa_ => ?_)); omega)
    | ((with_reducible refine iIaI (by assumption) ?_ ?_ (fun pa_ hpa_ => ?_)); omega; omega) | ((with_reducible refine iAdd ?_ ?_); omega) | ((with_reducible refine iSub ?_ ?_); omega)
    | ((with_reducible show xEx _ _ _); refine iEx (by rfl) ?_) | ((with_reducible refine fun (_ : Nat → Value) => ?_); (try simp only [gx])))
            refine hnext w20 ⟨found', vs', ls', hst20, ?_, hch20, hfb⟩
            rw [hflat, hsf, if_neg (by simp), List.append_nil]; exact hls'
        · refine iCndT rfl ?_
          (repeat first
    | (with_reducible first | refine iFa ?_ | refine iNil ?_ | refine iNilF ?_ | refine iLd (by assumption) ?_ | refine iLenN (by assumption) ?_ | refine iLenI (by assumption) ?_ | refine iLenS (by assumption) ?_ | refine iLenL ?_ | refine iEq ?_ | refine iNe ?_ | refine iLt ?_ | refine iLe ?_ | refine iNot ?_ | refine iPick ?_ | refine iE20 ?_ | refine iE21 ?_ | refine iE30 ?_ | refine iE31 ?_ | refine iE32 ?_ | refine iJn ?_)
    | ((with_reducible show xLd _ _ _); refine iLdB (by assumption) (by first | rfl | simp) ?_) | ((with_reducible refine iLdA (by assumption) ?_ ?_); rfl)
    | ((with_reducible refine iIaNN (by assumption) ?_ (fun pa_ hpa_ => ?_)); omega) | ((with_reducible refine iIaN (by assumption) ?_ (fun pa_ hpa_ => ?_)); omega)
    | ((with_reducible refine iIaI (by assumption) ?_ ?_ (fun pa_ hpa_ => ?_)); omega; omega) | ((with_reducible refine iAdd ?_ ?_); omega) | ((with_reducible refine iSub ?_ ?_); omega)
    | ((with_reducible show xEx _ _ _); refine iEx (by rfl) ?_) | ((with_reducible refine fun (_ : Nat → Value) => ?_); (try simp only [gx])))
          have hsf : stepB f g fix ord (ys ++ [k]) = false := by
            rw [Bool.and_eq_true, decide_eq_true_eq, Bool.not_eq_true', decide_eq_false_iff_not] at hT2
            rw [hstepB, decide_eq_false (show ¬ fix.getD (ord.getD ys.length 0) 0 < 0 by omega), decide_eq_false hT2.2]; rfl
          refine hnext w17 ⟨found', vs', ls', hst17, ?_, hch17, hfb⟩
          rw [hflat, hsf, if_neg (by simp), List.append_nil]; exact hls'
    · obtain rfl : k = g.n := by omega
      refine ⟨by trivial, found', vs', ls', hst', ?_, hch, hfb⟩
      rw [hls', srch_succ _ _ _ _ _ _ _ hop]
end Go.Proofs.YtoolpnkcmlebkaaGreat
