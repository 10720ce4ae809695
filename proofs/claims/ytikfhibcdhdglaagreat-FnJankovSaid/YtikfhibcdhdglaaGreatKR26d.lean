/- The proof of FnJankov, part 4 of 5. Conditions: none. -/
import Derived.Test.YtikfhibcdhdglaaGreatKR26c
/- Contracts: premises and conclusion of Jankov's formulas, in the program and the reference. Conditions: none. -/
namespace Go.Vc
theorem flat_le {α β : Type} (m : Nat) (f : α → List β) : ∀ l : List α, (∀ a ∈ l, (f a).length ≤ m) → (l.flatMap f).length ≤ m * l.length
  | [], _ => by simp
  | a :: l, h => by
    rw [List.flatMap_cons, List.length_append, List.length_cons, Nat.mul_succ]
    have h1 := flat_le m f l fun x hx => h x (List.mem_cons_of_mem _ hx)
    have h2 := h a (by simp)
    omega
theorem pairsK_len {f : Fr} (hf : f.n ≤ 8) {x y : Nat} (hx : x ≤ 8) (hy : y ≤ 8) : (pairsK f x y).length ≤ 200 := by
  unfold pairsK
  rw [List.length_append]
  have hin : ∀ a (l : List Nat), (l.flatMap (pairF f a)).length ≤ 2 * l.length := fun a l => flat_le 2 _ l fun _ _ => Nat.le_refl _
  have h1 := flat_le 16 (fun x => ((List.range f.n).drop (x + 1)).flatMap (pairF f x)) (List.range x) fun a _ => by
    have := hin a ((List.range f.n).drop (a + 1))
    rw [List.length_drop, List.length_range] at this
    omega
  have h2 := hin x ((List.range y).drop (x + 1))
  rw [List.length_range] at h1
  rw [List.length_drop, List.length_range] at h2
  omega
theorem upsK_len {f : Fr} (hf : f.ok) {x k : Nat} (hx : x ≤ 8) : (upsK f x k).length ≤ 5000 := by
  unfold upsK
  rw [List.length_append]
  have hu := upsets_len hf
  have hin : ∀ a (l : List Nat), (l.flatMap (upF f a)).length ≤ 2 * l.length := fun a l => flat_le 2 _ l fun _ _ => Nat.le_refl _
  have h1 := flat_le 512 (fun x => (upsets f).flatMap (upF f x)) (List.range x) fun a _ => by have := hin a (upsets f); omega
  have h2 := hin x ((upsets f).take k)
  rw [List.length_range] at h1
  rw [List.length_take] at h2
  omega
theorem jnF_size {f : Fr} (hf : f.ok) {m : Nat} (hm : m < 2 ^ f.n) : (jnF f m).size ≤ 17 := by
  have h1 := orV_size (minL f m)
  have h2 := minL_len f m
  have h3 := mem_len hf hm
  have := hf.1
  show (orV (minL f m)).size ≤ 17
  omega
theorem impM_lt (f : Fr) (a b : Nat) : impM f a b < 2 ^ f.n := setOf_lt fun _ hy => List.mem_range.1 (List.mem_filter.1 hy).1
end Go.Vc
namespace Go.Proofs.YtikfhibcdhdglaaGreat
open Go.Vc
theorem ok_impl_arrow2 {v va vb : Value} {a b : Fm} {w : World} (hs : Sl w v [va, vb]) (ha : FmS w va a) (hb : FmS w vb b) (hsz : (Fm.imp a b).size ≤ 1099511627776) : Cal Tryz.prog f_impl_arrow #[v] w fun r w' => Ext w w' ∧ FmW w.heap.size w' r (.imp a b) := by
  apply c_impl_arrow; unfold S_impl_arrow
  refine iLenS hs ?_
  refine iSub (by simp) ?_
  refine iIa (j := 1) hs (by omega) (by simp) fun p hp => ?_
  have hp : w.cell? p = some vb := hp
  refine iLd hp ?_
  refine iLenS hs ?_
  refine iSub (by simp) ?_
  refine iLp (fun s : Value × Nat => [s.1, .int .i64 ((s.2 : Int) - 1)]) (fun s w' => (s.2 = 1 ∧ s.1 = vb ∧ w' = w) ∨ (s.2 = 0 ∧ Ext w w' ∧ FmW w.heap.size w' s.1 (.imp a b))) (fun s => s.2) (vb, 1) rfl (.inl ⟨rfl, rfl, rfl⟩) ?_
  rintro ⟨u, s⟩ w2 Kn (⟨h1, h2, h3⟩ | ⟨h1, x2, ho⟩) hKn
  · have h1 : s = 1 := h1
    have h2 : u = vb := h2
    subst h1; subst h2; subst h3
    intro _
    simp only [gx]
    refine iLe (iCndT (by decide) ?_)
    refine iIa (j := 0) hs (by omega) (by simp) fun p hp => ?_
    have hp : w2.cell? p = some va := hp
    refine iLd hp ?_
    refine iCall ((ok_impl_join (k := 4) (c := .imp a b) rfl rfl ha hb hsz).mono ?_)
    rintro r w3 ⟨x3, ho⟩
    refine iSub (by simp) ?_
    exact hKn (r, 0) _ (.inr ⟨rfl, x3, ho⟩) (by simp)
  · have h1 : s = 0 := h1
    subst h1
    intro _
    simp only [gx]
    refine iLe (iCndF (by decide) ?_)
    exact ⟨x2, ho⟩
/-- Both implications, appended. -/
theorem impl_both {lo : Nat} {w : World} {out va vb : Value} {L : List (Value × Fm)} {A B : Fm} {K : Value → World → Prop} (hR : RF lo w out L) (hE : EF lo w L) (ha : FmS w va A) (hb : FmS w vb B) (hsA : A.size ≤ 100) (hsB : B.size ≤ 100) (hlo : lo ≤ w.heap.size) (hL : L.length ≤ 90000)
    (hk : ∀ v' w' N, N.map Prod.snd = bothF A B → RF lo w' v' (L ++ N) → EF lo w' (L ++ N) → w.grownBy w' out.ownBlock → K v' w') :
    xBs t_Simpl_Node (Value.cells (.slice none 0 0)) 1 2 [(0, va), (1, vb)] w fun v51 w18 => callV Tryz.prog (.func (.func f_impl_arrow) #[] #[]) [v51] w18 fun v52 w19 => xBs t_Simpl_Node (Value.cells (.slice none 0 0)) 1 2 [(0, vb), (1, va)] w19 fun v55 w20 => callV Tryz.prog (.func (.func f_impl_arrow) #[] #[]) [v55] w20 fun v56 w21 => xBs t_Simpl_Node (Value.cells (.slice none 0 0)) 1 2 [(0, v52), (1, v56)] w21 fun v57 w22 => xOp Tryz.prog (Builtin.append_ #[t_SSimpl_Node, t_SSimpl_Node] t_SSimpl_Node #[out, v57]) w22 K := by
  have hca : isCell va = true := by obtain ⟨_, _, _, h, _⟩ := ha; rw [h]; rfl
  have hcb : isCell vb = true := by obtain ⟨_, _, _, h, _⟩ := hb; rw [h]; rfl
  refine iBs2 rfl hca hcb fun c1 w1 hc1 x1 hB1 => ?_
  refine iCall ((ok_impl_arrow2 (Sl.ofBlk (n := 2) hB1 rfl (by decide)) (SlK.ext ha x1) (SlK.ext hb x1) (by simp only [Fm.size]; omega)).mono ?_)
  rintro r1 w2 ⟨x2, h1⟩
  have X2 := x1.trans x2
  refine iBs2 rfl hcb hca fun c3 w3 hc3 x3 hB3 => ?_
  have X3 := X2.trans x3
  refine iCall ((ok_impl_arrow2 (Sl.ofBlk (n := 2) hB3 rfl (by decide)) (SlK.ext hb X3) (SlK.ext ha X3) (by simp only [Fm.size]; omega)).mono ?_)
  rintro r2 w4 ⟨x4, h2⟩
  have X4 := X3.trans x4
  refine iBs2 rfl h1.cell h2.cell fun c5 w5 hc5 x5 hB5 => ?_
  have X5 := X4.trans x5
  have h1' : FmW w1.heap.size w5 r1 (.imp A B) := OwK.ext h1 (x3.trans (x4.trans x5))
  have h2' : FmW w3.heap.size w5 r2 (.imp B A) := OwK.ext h2 x5
  have hN : EF w.heap.size w5 [(r1, .imp A B), (r2, .imp B A)] := by
    refine EF.app (A := [(r1, .imp A B)]) (EF.one (OwK.mono h1' x1.size)) (EF.one (OwK.mono h2' (X3.size))) ?_
    have hf := EF.fresh (w0 := w3) (EF.one (OwK.ext h1 x3)) (EF.one h2) (Nat.le_refl _)
    exact hf
  have hd := EF.fresh hE hN (Nat.le_refl _)
  refine RF.appS (Ow.ext hR X5) ((hE.ext X5).app (hN.mono hlo) hd) (Sl.ofBlk (n := 2) hB5 rfl (by decide)) (Nat.le_trans hlo X5.size) (by simp only [List.length_cons, List.length_nil]; omega) fun v' w' hR' hE' hg => hk v' w' _ rfl hR' hE' (grown_of_ext X5 hg)
theorem ok_spec_l21Both {w : World} {va vb : Value} {A B : Fm} (ha : FmS w va A) (hb : FmS w vb B) (hsA : A.size ≤ 100) (hsB : B.size ≤ 100) : Cal Tryz.prog f_spec_l21Both #[va, vb] w fun r w' => Ext w w' ∧ ∃ N, Sl w' r (N.map Prod.fst) ∧ EF w.heap.size w' N ∧ N.map Prod.snd = bothF A B := by
  apply c_spec_l21Both; unfold S_spec_l21Both
  refine iCall ((ok_spec_l02Pair (c := .imp A B) (k := 4) rfl rfl ha hb (by simp only [Fm.size]; omega)).mono ?_)
  rintro r1 w1 ⟨x1, h1⟩
  refine iCall ((ok_spec_l02Pair (c := .imp B A) (k := 4) rfl rfl (SlK.ext hb x1) (SlK.ext ha x1) (by simp only [Fm.size]; omega)).mono ?_)
  rintro r2 w2 ⟨x2, h2⟩
  refine iBs2 rfl h1.cell h2.cell fun c3 w3 hc3 x3 hB3 => ?_
  refine ⟨(x1.trans x2).trans x3, [(r1, .imp A B), (r2, .imp B A)], Sl.ofBlk (n := 2) hB3 rfl (by decide), ?_, rfl⟩
  have hf := EF.fresh (w0 := w1) (EF.one h1) (EF.one h2) (Nat.le_refl _)
  exact EF.app (A := [(r1, .imp A B)]) (EF.one (OwK.ext h1 (x2.trans x3))) (EF.one (OwK.mono (OwK.ext h2 x3) x1.size)) hf
theorem and_lt8 {f : Fr} (hf : f.ok) {x y : Nat} (hx : x < f.n) : f.a.getD x 0 &&& f.a.getD y 0 < 2 ^ f.n := Nat.lt_of_le_of_lt Nat.and_le_left (hf.lt hx)
theorem ok_impl_premises {f : Fr} (hf : f.ok) (hr : Rooted f) {w : World} {v : Value} (hs : SlN w v f.a) : Cal Tryz.prog f_impl_jankovPremises #[.agg #[.int .i64 (f.n : Int), v]] w fun r w' => Ext w w' ∧ ∃ L, RF w.heap.size w' r L ∧ EF w.heap.size w' L ∧ L.map Prod.snd = premF f := by
  apply c_impl_jankovPremises; unfold S_impl_jankovPremises
  have hf8 := hf.1
  have hfl := hf.2.1
  refine iNew fun b w1 hb x1 hB => ?_
  refine iLdA hB rfl ?_
  refine iRet (ok_impl_root hf hr (hs.ext x1)) fun w2 x2 => ?_
  refine iCall ((ok_impl_variable (rootN f) w2).mono ?_)
  rintro y w3 ⟨x3, hy⟩
  refine iBs1 rfl hy.cell fun c w4 hc4 x4 hB4 => ?_
  have hX4 := ((x1.trans x2).trans x3).trans x4
  have x14 := (x2.trans x3).trans x4
  have hz2 := x2.size
  have hR4 : RF w1.heap.size w4 (.slice (some ⟨c, 0, none⟩) 1 1) [(y, .var (rootN f))] := Ow.ofBlk (n := 1) hB4 (by have := (x2.trans x3).size; omega) rfl (by decide)
  have hE4 : EF w1.heap.size w4 [(y, .var (rootN f))] := EF.one (OwK.mono (OwK.ext hy x4) hz2)
  have hB1 := hB.ext x14
  ((with_reducible refine iFa ?_); refine iLdB (by assumption) (by first | rfl | simp) ?_)
  refine iLp (fun s : Value × Nat => [s.1, .int .i64 (s.2 : Int)]) (fun s w' => s.2 ≤ f.n ∧ Ext w1 w' ∧ ∃ L, RF w1.heap.size w' s.1 L ∧ EF w1.heap.size w' L ∧ L.map Prod.snd = [.var (rootN f)] ++ pairsK f s.2 0) (fun s => f.n - s.2) (.slice (some ⟨c, 0, none⟩) 1 1, 0) rfl ⟨Nat.zero_le _, x14, _, hR4, hE4, by rw [pairsK_zero]; rfl⟩ ?_
  rintro ⟨o, x⟩ w6 Kn ⟨hx, x6, L, hR, hE, hL⟩ hKn
  have hx : x ≤ f.n := hx
  have hR : RF w1.heap.size w6 o L := hR
  have hL : L.map Prod.snd = [.var (rootN f)] ++ pairsK f x 0 := hL
  intro _
  simp only [gx]
  refine iLt (iCndP (fun h => ?_) (fun h => ?_))
  · have hx1 : x < f.n := by omega
    refine iAdd (by omega) ?_
    have ex : (x : Int) + 1 = ((x + 1 : Nat) : Int) := by omega
    rw [ex]
    refine iLp (fun s : Value × Nat => [s.1, .int .i64 (s.2 : Int)]) (fun s w' => x + 1 ≤ s.2 ∧ s.2 ≤ f.n ∧ Ext w1 w' ∧ ∃ L, RF w1.heap.size w' s.1 L ∧ EF w1.heap.size w' L ∧ L.map Prod.snd = [.var (rootN f)] ++ pairsK f x s.2) (fun s => f.n - s.2) (o, x + 1) rfl ⟨Nat.le_refl _, hx1, x6, L, hR, hE, by rw [hL]; show _ = [Fm.var (rootN f)] ++ pairsK f x (x + 1); rw [pairsK_start]⟩ ?_
    rintro ⟨o2, y⟩ w8 Kn2 ⟨hy1, hy2, x8, M, hRM, hEM, hM⟩ hKn2
    have hy1 : x + 1 ≤ y := hy1
    have hy2 : y ≤ f.n := hy2
    have hRM : RF w1.heap.size w8 o2 M := hRM
    have hM : M.map Prod.snd = [.var (rootN f)] ++ pairsK f x y := hM
    have hB8 := hB.ext x8
    have hs8 := hs.ext (x1.trans x8)
    have hMl : M.length ≤ 300 := by
      have h1 := congrArg List.length hM
      have h2 := pairsK_len hf8 (x := x) (y := y) (by omega) (by omega)
      rw [List.length_map, List.length_append, List.length_singleton] at h1
      omega
    (intro _; (try simp only [gx]); (with_reducible refine iFa ?_); refine iLdB (by assumption) (by first | rfl | simp) ?_; (with_reducible refine iLt ?_))
    refine iCndP (fun h8 => ?_) (fun h8 => ?_)
    · have hy3 : y < f.n := by omega
      have hax := hf.lt hx1
      have hay := hf.lt hy3
      have h28 : 2 ^ f.n ≤ 2 ^ 8 := Nat.pow_le_pow_right (by omega) hf8
      ((with_reducible refine iLdA (by assumption) ?_ ?_); rfl; (with_reducible refine iFa ?_); refine iLdB (by assumption) (by first | rfl | simp) ?_; (with_reducible refine iIaNN (by assumption) ?_ (fun pa_ hpa_ => ?_)); omega; (with_reducible refine iLd (by assumption) ?_; refine iFa ?_); refine iLdB (by assumption) (by first | rfl | simp) ?_; (with_reducible refine iIaNN (by assumption) ?_ (fun pa_ hpa_ => ?_)); omega; (with_reducible refine iLd (by assumption) ?_))
      refine iBAnd (by omega) (by omega) ?_
      intro w9 x9
      refine iCall ((ok_impl_variable x w9).mono ?_)
      rintro a1 w10 ⟨x10, h10⟩
      refine ⟨x10, fun w11 x11 => ?_⟩
      refine iCall ((ok_impl_variable y w11).mono ?_)
      rintro a2 w12 ⟨x12, h12⟩
      refine ⟨x12, fun w13 x13 => ?_⟩
      refine iCall ((ok_impl_join (c := .and (.var x) (.var y)) (k := 2) rfl rfl (SlK.ext h10.sl (x11.trans (x12.trans x13))) (SlK.ext h12.sl x13) (by simp only [Fm.size]; omega)).mono ?_)
      rintro a3 w14 ⟨x14, h14⟩
      refine ⟨x14, fun w15 x15 => ?_⟩
      have X15 : Ext w8 w15 := (x9.trans (x10.trans (x11.trans (x12.trans x13)))).trans (x14.trans x15)
      refine iCall ((ok_impl_joined hf (hs8.ext X15) _ (and_lt8 hf hx1)).mono ?_)
      rintro a4 w16 ⟨x16, h16⟩
      intro w17 x17
      have X17 : Ext w8 w17 := X15.trans (x16.trans x17)
      refine impl_both (A := .and (.var x) (.var y)) (B := jnF f (f.a.getD x 0 &&& f.a.getD y 0)) (Ow.ext hRM X17) (hEM.ext X17) (SlK.ext h14.sl (x15.trans (x16.trans x17))) (SlK.ext h16.sl x17) (by simp only [Fm.size]; omega) (by have := jnF_size hf (m := f.a.getD x 0 &&& f.a.getD y 0) (and_lt8 hf hx1); omega) (x8.trans X17).size (by omega) fun v' w' N hN hR' hE' hg => ?_
      refine iAdd (by omega) ?_
      refine hKn2 (v', y + 1) _ ⟨by show x + 1 ≤ y + 1; omega, by show y + 1 ≤ f.n; omega, (x8.trans X17).grown hg fun c hc => (Ow.blk hRM c hc).1, M ++ N, hR', hE', ?_⟩ (by show f.n - (y + 1) < f.n - y; omega)
      show (M ++ N).map Prod.snd = [.var (rootN f)] ++ pairsK f x (y + 1)
      rw [List.map_append, hM, hN, pairsK_step f x y hy1, List.append_assoc]; rfl
    · obtain rfl : y = f.n := by omega
      refine iAdd (by omega) ?_
      refine hKn (o2, x + 1) _ ⟨by show x + 1 ≤ f.n; omega, x8, M, hRM, hEM, ?_⟩ (by show f.n - (x + 1) < f.n - x; omega)
      rw [hM, pairsK_row]
  · obtain rfl : x = f.n := by omega
    have hB6 := hB.ext x6
    ((with_reducible refine iFa ?_); refine iLdB (by assumption) (by first | rfl | simp) ?_)
    refine iLp (fun s : Value × Nat => [s.1, .int .i64 (s.2 : Int)]) (fun s w' => s.2 ≤ f.n ∧ Ext w1 w' ∧ ∃ L, RF w1.heap.size w' s.1 L ∧ EF w1.heap.size w' L ∧ L.map Prod.snd = [.var (rootN f)] ++ pairsK f f.n 0 ++ upsK f s.2 0) (fun s => f.n - s.2) (o, 0) rfl ⟨Nat.zero_le _, x6, L, hR, hE, by rw [upsK_zero, List.append_nil]; exact hL⟩ ?_
    rintro ⟨o2, x⟩ w25 Kn2 ⟨hx2, x25, M, hRM, hEM, hM⟩ hKn2
    have hx2 : x ≤ f.n := hx2
    have hRM : RF w1.heap.size w25 o2 M := hRM
    have hM : M.map Prod.snd = [.var (rootN f)] ++ pairsK f f.n 0 ++ upsK f x 0 := hM
    intro _
    simp only [gx]
    refine iLt (iCndP (fun h => ?_) (fun h => ?_))
    · have hx1 : x < f.n := by omega
      refine iLdA (hB.ext x25) rfl ?_
      refine iCall ((ok_impl_Poset_upsets hf (hs.ext (x1.trans x25))).mono ?_)
      rintro uv w26 ⟨x26, hu⟩
      have hul := upsets_len hf
      have hus : SlN w26 uv (upsets f) := hu.sl
      ((with_reducible refine iLenN (by assumption) ?_))
      refine iLp (fun s : Value × Nat => [s.1, .int .i64 (s.2 : Int)]) (fun s w' => s.2 ≤ (upsets f).length ∧ Ext w1 w' ∧ Ow 0 t_i64 w' uv (ints (nats (upsets f))) ∧ ∃ L, RF w1.heap.size w' s.1 L ∧ EF w1.heap.size w' L ∧ L.map Prod.snd = [.var (rootN f)] ++ pairsK f f.n 0 ++ upsK f x s.2) (fun s => (upsets f).length - s.2) (o2, 0) rfl ⟨Nat.zero_le _, x25.trans x26, hu.mono (Nat.zero_le _), M, Ow.ext hRM x26, hEM.ext x26, hM⟩ ?_
      rintro ⟨o3, k⟩ w28 Kn3 ⟨hk, x28, y28, M3, hR3, hE3, hM3⟩ hKn3
      have hk : k ≤ (upsets f).length := hk
      have hR3 : RF w1.heap.size w28 o3 M3 := hR3
      have hM3 : M3.map Prod.snd = [.var (rootN f)] ++ pairsK f f.n 0 ++ upsK f x k := hM3
      have hB28 := hB.ext x28
      have hs28 := hs.ext (x1.trans x28)
      have hus28 : SlN w28 uv (upsets f) := y28.sl
      have hMl : M3.length ≤ 6000 := by
        have h1 := congrArg List.length hM3
        have h2 := pairsK_len hf8 (x := f.n) (y := 0) hf8 (by omega)
        have h3 := upsK_len hf (x := x) (k := k) (by omega)
        rw [List.length_map, List.length_append, List.length_append, List.length_singleton] at h1
        omega
      intro _
      simp only [gx]
      refine iLt (iCndP (fun h28 => ?_) (fun h28 => ?_))
      · have hk1 : k < (upsets f).length := by omega
        have hul2 : (upsets f).getD k 0 < 2 ^ f.n := upsets_lt (getD_mem hk1)
        have hue : (upsets f).getD k 0 = (upsets f)[k] := by simp [List.getD_eq_getElem?_getD, hk1]
        ((with_reducible refine iIaNN (by assumption) ?_ (fun pa_ hpa_ => ?_)); omega; (with_reducible refine iLd (by assumption) ?_); (with_reducible refine iLdA (by assumption) ?_ ?_); rfl; (with_reducible refine iLdA (by assumption) ?_ ?_); rfl; (with_reducible refine iLdA (by assumption) ?_ ?_); rfl; (with_reducible refine iFa ?_); refine iLdB (by assumption) (by first | rfl | simp) ?_; (with_reducible refine iIaNN (by assumption) ?_ (fun pa_ hpa_ => ?_)); omega; (with_reducible refine iLd (by assumption) ?_))
        intro w29 x29
        refine iCall ((ok_impl_variable x w29).mono ?_)
        rintro a1 w30 ⟨x30, h30⟩
        refine ⟨x30, fun w31 x31 => ?_⟩
        have X31 : Ext w28 w31 := x29.trans (x30.trans x31)
        refine iCall ((ok_impl_joined hf (hs28.ext X31) _ hul2).mono ?_)
        rintro a2 w32 ⟨x32, h32⟩
        refine ⟨x32, fun w33 x33 => ?_⟩
        have h30' := OwK.ext h30 (x31.trans (x32.trans x33))
        have h32' := OwK.ext h32 x33
        refine iBs2 rfl h30'.cell h32'.cell fun c34 w34 hc34 x34 hB34 => ⟨x34, fun w35 x35 => ?_⟩
        have sz1 := jnF_size hf hul2
        refine iCall ((ok_impl_arrow2 (Sl.ofBlk (n := 2) (hB34.ext x35) rfl (by decide)) (OwK.ext h30' (x34.trans x35)).sl (OwK.ext h32' (x34.trans x35)).sl (by simp only [Fm.size]; omega)).mono ?_)
        rintro a3 w36 ⟨x36, h36⟩
        have X36 : Ext w28 w36 := X31.trans ((x32.trans x33).trans (x34.trans (x35.trans x36)))
        refine ⟨x36, ?_⟩
        refine iRetQ (fun w' h' => ok_impl_imply hf (hs28.ext (X36.trans h')) _ _ (hf.lt hx1) hul2) ?_
        intro w37 x37
        refine iCall ((ok_impl_joined hf (hs28.ext (X36.trans x37)) _ (impM_lt f _ _)).mono ?_)
        rintro a4 w38 ⟨x38, h38⟩
        intro w39 x39
        have X39 : Ext w28 w39 := X36.trans (x37.trans (x38.trans x39))
        refine impl_both (A := .imp (.var x) (jnF f ((upsets f).getD k 0))) (B := jnF f (impM f (f.a.getD x 0) ((upsets f).getD k 0))) (Ow.ext hR3 X39) (hE3.ext X39) (SlK.ext h36.sl (x37.trans (x38.trans x39))) (SlK.ext h38.sl x39) (by simp only [Fm.size]; omega) (by have := jnF_size hf (impM_lt f (f.a.getD x 0) ((upsets f).getD k 0)); omega) (x28.trans X39).size (by omega) fun v' w' N hN hR' hE' hg => ?_
        refine iAdd (by omega) ?_
        refine hKn3 (v', k + 1) _ ⟨by show k + 1 ≤ (upsets f).length; omega, (x28.trans X39).grown hg fun c hc => (Ow.blk hR3 c hc).1, ?_, M3 ++ N, hR', hE', ?_⟩ (by show (upsets f).length - (k + 1) < (upsets f).length - k; omega)
        · exact (y28.ext X39).ch (grown_ch (S := fun c => o3.ownBlock = some c) hg fun c hc => hc) fun c hc hc' => (y28.ext X39).ne_ow (Ow.ext hR3 X39) (by decide) hc hc'
        · rw [List.map_append, hM3, hN]
          show _ = [Fm.var (rootN f)] ++ pairsK f f.n 0 ++ upsK f x (k + 1)
          rw [upsK_step f x k hk1, ← hue, List.append_assoc, List.append_assoc, List.append_assoc]
          rfl
      · obtain rfl : k = (upsets f).length := by omega
        refine iAdd (by omega) ?_
        refine hKn2 (o3, x + 1) _ ⟨by show x + 1 ≤ f.n; omega, x28, M3, hR3, hE3, ?_⟩ (by show f.n - (x + 1) < f.n - x; omega)
        rw [hM3, upsK_row]
    · obtain rfl : x = f.n := by omega
      exact ⟨x1.trans x25, M, Ow.mono hRM x1.size, hEM.mono x1.size, hM⟩
end Go.Proofs.YtikfhibcdhdglaaGreat

/- Contracts: where a formula is forced on a poset, by the program's stack. Conditions: none. -/
namespace Go.Proofs.YtikfhibcdhdglaaGreat
open Go.Vc
/-- Variables below 6, no modalities. -/
def Fm.pl : Fm → Prop
  | .var v => v < 6
  | .fls => True
  | .and a b => Fm.pl a ∧ Fm.pl b
  | .or a b => Fm.pl a ∧ Fm.pl b
  | .imp a b => Fm.pl a ∧ Fm.pl b
  | .box _ => False
  | .dia _ => False
theorem pl_kids {f : Fm} (h : Fm.pl f) : ∀ g ∈ f.kids, Fm.pl g := by
  intro g hg
  cases f with
  | var v => cases hg
  | fls => cases hg
  | and a b => simp only [Fm.kids, List.mem_cons, List.not_mem_nil, or_false] at hg; rcases hg with rfl | rfl <;> first | exact h.1 | exact h.2
  | or a b => simp only [Fm.kids, List.mem_cons, List.not_mem_nil, or_false] at hg; rcases hg with rfl | rfl <;> first | exact h.1 | exact h.2
  | imp a b => simp only [Fm.kids, List.mem_cons, List.not_mem_nil, or_false] at hg; rcases hg with rfl | rfl <;> first | exact h.1 | exact h.2
  | box a => exact h.elim
  | dia a => exact h.elim
/-- The formulas of which what begins at node n is made. -/
def sfx : List Fm → Nat → List Fm
  | fs, 0 => fs
  | [], _ + 1 => []
  | f :: fs, n + 1 => sfx (f.kids ++ fs) n
theorem sfx_succ : ∀ (n : Nat) (fs : List Fm), sfx fs (n + 1) = match sfx fs n with | f :: r => f.kids ++ r | [] => []
  | 0, [] => rfl
  | 0, f :: fs => by simp [sfx]
  | n + 1, [] => rfl
  | n + 1, f :: fs => sfx_succ n (f.kids ++ fs)
theorem sfx_size : ∀ (n : Nat) (fs : List Fm), sizeL (sfx fs n) = sizeL fs - n
  | 0, fs => by simp [sfx]
  | n + 1, [] => by simp [sfx, sizeL]
  | n + 1, f :: fs => by
    show sizeL (sfx (f.kids ++ fs) n) = _
    have h1 := f.size_kids
    rw [sfx_size n, sizeL_app, show sizeL (f :: fs) = f.size + sizeL fs by simp [sizeL]]
    omega
theorem sfx_cells : ∀ (n : Nat) (fs : List Fm), (cellsL fs).drop (n * 2) = cellsL (sfx fs n)
  | 0, fs => by simp [sfx]
  | n + 1, [] => by simp [sfx, cellsL]
  | n + 1, f :: fs => by
    show _ = cellsL (sfx (f.kids ++ fs) n)
    rw [← sfx_cells n, cellsL_app, show cellsL (f :: fs) = f.cells ++ cellsL fs by simp [cellsL], f.cells_kids, List.append_assoc, show (n + 1) * 2 = n * 2 + 2 by omega, ← List.drop_drop]
    rw [show (nd f.kind f.sym ++ (cellsL f.kids ++ cellsL fs)).drop (n * 2) = (nd f.kind f.sym ++ (cellsL f.kids ++ cellsL fs)).drop (n * 2) from rfl, List.drop_drop, show n * 2 + 2 = 2 + n * 2 by omega, ← List.drop_drop]
    rfl
theorem sfx_all {Q : Fm → Prop} (hQ : ∀ f, Q f → ∀ g ∈ f.kids, Q g) : ∀ (n : Nat) (fs : List Fm), (∀ f ∈ fs, Q f) → ∀ f ∈ sfx fs n, Q f
  | 0, fs, h => by simpa [sfx] using h
  | n + 1, [], h => by simp [sfx]
  | n + 1, f :: fs, h => by
    show ∀ g ∈ sfx (f.kids ++ fs) n, Q g
    refine sfx_all hQ n _ fun g hg => ?_
    rcases List.mem_append.1 hg with hg | hg
    · exact hQ f (h f List.mem_cons_self) g hg
    · exact h g (List.mem_cons_of_mem _ hg)
/-- The stack when nodes from n on are done. -/
def stk (f : Fr) (V : Nat → Nat) (a : Fm) (n : Nat) : List Nat := ((sfx [a] n).map (frc f V)).reverse
theorem frc_lt2 {f : Fr} {V : Nat → Nat} (hV : ∀ v, V v < 2 ^ f.n) : ∀ a, frc f V a < 2 ^ f.n
  | .var v => hV v
  | .fls => Nat.two_pow_pos _
  | .and _ b => Nat.and_lt_two_pow _ (frc_lt2 hV b)
  | .or a b => Nat.or_lt_two_pow (frc_lt2 hV a) (frc_lt2 hV b)
  | .imp _ _ => impM_lt _ _ _
  | .box _ => Nat.two_pow_pos _
  | .dia _ => Nat.two_pow_pos _
theorem ok_forced_1 {lo b : Nat} {e : TypeId} {w : World} {v x : Value} {xs : List Value} (hB : Blk e w b [v]) (ho : Ow lo t_i64 w v (xs ++ [x])) (hne : t_i64 ≠ e) :
    Cal Tryz.prog f_impl_Poset_forced_1 #[.pointer (some ⟨b, 0, none⟩)] w fun r w' => r = x ∧ ∃ v', Blk e w' b [v'] ∧ Ow lo t_i64 w' v' xs ∧ Ch (fun c => c = b) w w' := by
  have hl := ho.sl.len
  rw [List.length_append, List.length_singleton] at hl
  apply c_impl_Poset_forced_1; unfold S_impl_Poset_forced_1
  refine iLdB hB (v := v) rfl (iLdB hB (v := v) rfl ?_)
  refine iLenS ho.sl ?_
  rw [List.length_append, List.length_singleton]
  refine iSub (by omega) ?_
  rw [show ((xs.length + 1 : Nat) : Int) - 1 = (xs.length : Int) by omega]
  refine iIa (j := (xs.length : Int)) ho.sl (by omega) (by simp; omega) fun p hp => ?_
  refine iLd (v := x) (by rw [hp]; simp) ?_
  refine iLdB hB (v := v) rfl (iLdB hB (v := v) rfl ?_)
  refine iLenS ho.sl ?_
  rw [List.length_append, List.length_singleton]
  refine iSub (by omega) ?_
  rw [show ((xs.length + 1 : Nat) : Int) - 1 = (xs.length : Int) by omega]
  refine iSlDown ho fun v' hb' ho' => ?_
  have hnb : v'.ownBlock ≠ some b := by rw [hb']; exact ho.ne_blk hB hne
  refine iStB hB (i := 0) (by simp) ho'.cell fun hB' => ?_
  exact ⟨rfl, v', hB', ho'.other hnb _, (Upd.setCell w b 0 v').ch rfl⟩
theorem ok_impl_forced {f : Fr} (hf : f.ok) {va vv vn : Value} {w : World} (hs : SlN w va f.a) {vals : List Nat} (hv : SlN w vv vals) (h6 : vals.length = 6) (hlt : ∀ x ∈ vals, x < 2 ^ f.n) {a : Fm} (ha : FmS w vn a) (hpl : Fm.pl a) (hsz : a.size ≤ 1000000) :
    Ret Tryz.prog f_impl_Poset_forced #[.agg #[.int .i64 (f.n : Int), va], vv, vn] w (.int .i64 ((frc f (fun v => vals.getD v 0) a : Nat) : Int)) := by
  obtain ⟨V, hVe⟩ : ∃ V : Nat → Nat, V = fun v => vals.getD v 0 := ⟨_, rfl⟩
  rw [← hVe]
  have hV : ∀ v, V v < 2 ^ f.n := fun v => by
    rw [hVe]
    show vals.getD v 0 < _
    rcases Nat.lt_or_ge v vals.length with h | h
    · exact getD_lt hlt h
    · rw [List.getD_eq_getElem?_getD, List.getElem?_eq_none h]; exact Nat.two_pow_pos _
  have h63 : ∀ g, frc f V g < 2 ^ 63 := fun g => Nat.lt_of_lt_of_le (frc_lt2 hV g) (Nat.pow_le_pow_right (by omega) (by have := hf.1; omega))
  apply c_impl_Poset_forced; unfold S_impl_Poset_forced
  refine iNew fun b3 w1 hb3 x1 hB3 => ?_
  have hB3 : Blk _ w1 b3 [.int .i64 (f.n : Int), va] := hB3
  refine iNew fun b7 w2 hb7 x2 hB7 => ?_
  have hB7 : Blk _ w2 b7 [.slice none 0 0] := hB7
  have hx := x1.trans x2
  refine iLenK (ha.ext hx) ?_
  refine iSub (by omega) ?_
  have hlo : w.heap.size ≤ w2.heap.size := hx.size
  have hsa : sizeL [a] = a.size := by simp [sizeL]
  refine iLp (fun n : Nat => [.int .i64 ((n : Int) - 1)]) (fun n w' => n ≤ a.size ∧ Ext w w' ∧ Blk 26 w' b3 [.int .i64 (f.n : Int), va] ∧ ∃ v, Blk 24 w' b7 [v] ∧ Ow w.heap.size t_i64 w' v (ints (nats (stk f V a n)))) (fun n => n) a.size rfl ⟨Nat.le_refl _, hx, hB3.ext x2, _, hB7, ?_⟩ ?_
  · have : stk f V a a.size = [] := by
      have h1 := sfx_size a.size [a]
      rw [hsa, Nat.sub_self] at h1
      have h2 := sizeL_len (sfx [a] a.size)
      have : sfx [a] a.size = [] := List.length_eq_zero_iff.1 (by omega)
      unfold stk; rw [this]; rfl
    rw [this]
    exact Ow.nil _ _ _
  rintro n w4 Kn ⟨hn, x4, hB3, v, hB7, ho⟩ hKn
  intro _
  simp only [gx]
  have hs4 := hs.ext x4
  have hv4 := hv.ext x4
  have ha4 := ha.ext x4
  have hsub : ∀ {w'}, Ch (fun c => c = b7) w4 w' → Ext w w' := fun hc => x4.thenCh hc fun c h => by subst h; have := x1.size; omega
  refine iLe (iCndP (fun h => ?_) (fun h => ?_))
  · obtain ⟨m, rfl⟩ : ∃ m, n = m + 1 := ⟨n - 1, by omega⟩
    have hm : m < a.size := by omega
    rw [show ((m + 1 : Nat) : Int) - 1 = (m : Int) by omega]
    obtain ⟨g, r, hg⟩ : ∃ g r, sfx [a] m = g :: r := by
      have h1 := sfx_size m [a]
      rw [hsa] at h1
      cases hc : sfx [a] m with
      | nil => rw [hc] at h1; simp [sizeL] at h1; omega
      | cons g r => exact ⟨g, r, rfl⟩
    have hpg : Fm.pl g := sfx_all (Q := Fm.pl) (fun _ h => pl_kids h) m [a] (by simpa using hpl) g (by rw [hg]; simp)
    have hcell : a.cells.drop (m * 2) = cellsL (g :: r) ++ [] := by
      rw [List.append_nil, ← hg, ← sfx_cells]; simp [cellsL]
    obtain ⟨hk, hsy, -⟩ := kind_at hcell
    have hnext : sfx [a] (m + 1) = g.kids ++ r := by rw [sfx_succ, hg]
    have hst : stk f V a (m + 1) = (r.map (frc f V)).reverse ++ (g.kids.map (frc f V)).reverse := by
      unfold stk; rw [hnext, List.map_append, List.reverse_append]
    have hst0 : stk f V a m = (r.map (frc f V)).reverse ++ [frc f V g] := by
      unfold stk; rw [hg, List.map_cons, List.reverse_cons]
    rw [hst] at ho
    -- the way on: the stack without the parts, and the value
    have go : ∀ w6 v6, Ext w w6 → Blk 26 w6 b3 [.int .i64 (f.n : Int), va] → Blk 24 w6 b7 [v6] → Ow w.heap.size t_i64 w6 v6 (ints (nats ((r.map (frc f V)).reverse))) →
        xLd w6 (.pointer (some ⟨b7, 0, none⟩)) fun v58 => xBs t_i64 (Value.cells (.int .i64 0)) 1 1 [(0, (.int .i64 ((frc f V g : Nat) : Int)))] w6 fun v60 w21 => xOp Tryz.prog (Builtin.append_ #[24, 24] 24 #[v58, v60]) w21 fun v61 w22 =>
        xSt w22 (.pointer (some ⟨b7, 0, none⟩)) v61 fun w23 => xSub .i64 (.int .i64 (m : Int)) (.int .i64 1) fun v19 => Kn [v19] w23 := by
      intro w6 v6 x6 hB36 hB76 ho6
      refine iLdB hB76 (v := v6) rfl ?_
      have hrl : r.length ≤ a.size := by
        have h1 := sfx_size m [a]
        rw [hsa, hg] at h1
        have h2 := sizeL_len (g :: r)
        rw [List.length_cons] at h2
        omega
      refine iApp1 u_Si64 i_Si64 rfl ho6 rfl (by simp [ints, nats]; omega) (by simp [ints, nats]; omega) (by have := x6.size; omega) fun v7 w7 ho7 hg7 => ?_
      have hnb6 := ho6.ne_blk hB76 (show t_i64 ≠ 24 by decide)
      have hB77 : Blk 24 w7 b7 [v6] := by
        unfold Blk at hB76 ⊢
        rw [hg7.block b7 (heap_lt hB76) fun e => hnb6 e.symm]; exact hB76
      have hnb3 := ho6.ne_blk hB36 (show t_i64 ≠ 26 by decide)
      have hB37 : Blk 26 w7 b3 [.int .i64 (f.n : Int), va] := by
        unfold Blk at hB36 ⊢
        rw [hg7.block b3 (heap_lt hB36) fun e => hnb3 e.symm]; exact hB36
      have x7 : Ext w w7 := x6.grown hg7 fun b hb => (ho6.blk b hb).1
      refine iStB hB77 (i := 0) (by simp) ho7.cell fun hB78 => ?_
      have hnb7 := ho7.ne_blk hB77 (show t_i64 ≠ 24 by decide)
      refine iSub (by omega) ?_
      refine hKn m _ ⟨by omega, ?_, hB37.other (hB37.ne_blk hB77 (by decide)) _, v7, hB78, ?_⟩ (by omega)
      · exact ext_set x7 (by have := x1.size; show w.heap.size ≤ b7; omega) _
      · have := ho7.other (i := 0) hnb7 v7
        rw [hst0]
        simpa [ints, nats] using this
    refine iFld (f := 0) ha4 rfl hm (by decide) hk ?_
    cases g with
    | var z =>
      refine iEq (iCndT (by first | rfl | decide) ?_)
      refine iFld (f := 1) ha4 rfl hm (by decide) hsy ?_
      have hz : z < 6 := hpg
      refine iIaNN (j := z) hv4 (by omega) fun p hp => iLd hp ?_
      intro _
      simp only [gx]
      have e : frc f V (.var z) = vals.getD z 0 := by simp only [frc, hVe]
      have := go w4 v x4 hB3 hB7 (by simpa [Fm.kids] using ho)
      rw [e] at this
      exact this
    | fls =>
      refine iEq (iCndF (by first | rfl | decide) ?_)
      refine iEq (iCndF (by first | rfl | decide) ?_)
      refine iEq (iCndF (by first | rfl | decide) ?_)
      refine iEq (iCndF (by first | rfl | decide) ?_)
      intro _; intro _; intro _; intro _
      simp only [gx]
      exact go w4 v x4 hB3 hB7 (by simpa [Fm.kids] using ho)
    | and p q =>
      refine iEq (iCndF (by first | rfl | decide) ?_)
      refine iEq (iCndT (by first | rfl | decide) ?_)
      have ho : Ow w.heap.size t_i64 w4 v (ints (nats ((r.map (frc f V)).reverse)) ++ [.int .i64 ((frc f V q : Nat) : Int)] ++ [.int .i64 ((frc f V p : Nat) : Int)]) := by simpa [Fm.kids, ints, nats] using ho
      refine iClo rfl ((ok_forced_1 hB7 ho (by decide)).mono ?_)
      rintro u1 w5 ⟨rfl, v5, hB75, ho5, c5⟩
      refine iClo rfl ((ok_forced_1 hB75 ho5 (by decide)).mono ?_)
      rintro u2 w6 ⟨rfl, v6, hB76, ho6, c6⟩
      refine iBAnd (h63 _) (h63 _) ?_
      intro _; intro _
      simp only [gx]
      have c46 : Ch (fun c => c = b7) w4 w6 := c5.trans c6 fun b hb => .inl hb
      exact go w6 v6 (hsub c46) (hB3.ch c46 (hB3.ne_blk hB7 (by decide))) hB76 ho6
    | or p q =>
      refine iEq (iCndF (by first | rfl | decide) ?_)
      refine iEq (iCndF (by first | rfl | decide) ?_)
      refine iEq (iCndT (by first | rfl | decide) ?_)
      have ho : Ow w.heap.size t_i64 w4 v (ints (nats ((r.map (frc f V)).reverse)) ++ [.int .i64 ((frc f V q : Nat) : Int)] ++ [.int .i64 ((frc f V p : Nat) : Int)]) := by simpa [Fm.kids, ints, nats] using ho
      refine iClo rfl ((ok_forced_1 hB7 ho (by decide)).mono ?_)
      rintro u1 w5 ⟨rfl, v5, hB75, ho5, c5⟩
      refine iClo rfl ((ok_forced_1 hB75 ho5 (by decide)).mono ?_)
      rintro u2 w6 ⟨rfl, v6, hB76, ho6, c6⟩
      refine iBOr (h63 _) (h63 _) ?_
      intro _; intro _; intro _
      simp only [gx]
      have c46 : Ch (fun c => c = b7) w4 w6 := c5.trans c6 fun b hb => .inl hb
      exact go w6 v6 (hsub c46) (hB3.ch c46 (hB3.ne_blk hB7 (by decide))) hB76 ho6
    | imp p q =>
      refine iEq (iCndF (by first | rfl | decide) ?_)
      refine iEq (iCndF (by first | rfl | decide) ?_)
      refine iEq (iCndF (by first | rfl | decide) ?_)
      refine iEq (iCndT (by first | rfl | decide) ?_)
      have ho : Ow w.heap.size t_i64 w4 v (ints (nats ((r.map (frc f V)).reverse)) ++ [.int .i64 ((frc f V q : Nat) : Int)] ++ [.int .i64 ((frc f V p : Nat) : Int)]) := by simpa [Fm.kids, ints, nats] using ho
      refine iClo rfl ((ok_forced_1 hB7 ho (by decide)).mono ?_)
      rintro u1 w5 ⟨rfl, v5, hB75, ho5, c5⟩
      have hB35 := hB3.ch c5 (hB3.ne_blk hB7 (by decide))
      refine ⟨fun c => c = b7, iLdA hB35 rfl ⟨fun w7 c7 => iLdA (hB35.ch c7 (hB35.ne_blk hB75 (by decide))) rfl rfl, fun w6 x6 => ?_⟩⟩
      have hB76 := hB75.ext x6
      refine iClo rfl ((ok_forced_1 hB76 (ho5.ext x6) (by decide)).mono ?_)
      rintro u2 w7 ⟨rfl, v7, hB77, ho7, c7⟩
      refine ⟨c7, _, fun w8 c8 => iCall ((ok_impl_imply hf ?_ _ _ (frc_lt2 hV p) (frc_lt2 hV q)).mono fun _ _ h => h), ?_⟩
      · have c48 : Ch (fun c => c = b7) w4 w8 := ((c5.trans x6.ch (S' := fun c => c = b7) fun b hb => .inl hb).trans c7 fun b hb => .inl hb).trans c8 fun b hb => .inl hb
        exact hs.ext (hsub c48)
      · intro w8 x8
        have c48 : Ch (fun c => c = b7) w4 w8 := ((c5.trans x6.ch (S' := fun c => c = b7) fun b hb => .inl hb).trans c7 fun b hb => .inl hb).trans x8.ch (S' := fun c => c = b7) fun b hb => .inl hb
        intro _; intro _; intro _; intro _
        simp only [gx]
        exact go w8 v7 (hsub c48) (hB3.ch c48 (hB3.ne_blk hB7 (by decide))) (hB77.ext x8) (ho7.ext x8)
    | box p => exact hpg.elim
    | dia p => exact hpg.elim
  · have h0 : n = 0 := by omega
    subst h0
    have e : stk f V a 0 = [frc f V a] := by simp [stk, sfx]
    rw [e] at ho
    refine iLdB hB7 (v := v) rfl ?_
    refine iIa (j := 0) ho.sl (by omega) (by simp [ints, nats]) fun p hp => ?_
    refine iLd (v := .int .i64 ((frc f V a : Nat) : Int)) (by rw [hp]; simp [ints, nats]) ⟨rfl, x4⟩
end Go.Proofs.YtikfhibcdhdglaaGreat

/- Plain facts on duals of maps: they tell the maps apart; as many as the maps. No program in sight. Conditions: none. -/
namespace Go.Vc
/-- Which of the first k elements go into a mask. -/
def pullK (im : List Nat) (mask k : Nat) : Nat := setOf ((List.range k).filter fun x => mask.testBit (im.getD x 0))
def pullN (im : List Nat) (mask : Nat) : Nat := pullK im mask im.length
theorem pullK_succ (im : List Nat) (mask k : Nat) : pullK im mask (k + 1) = if mask.testBit (im.getD k 0) then pullK im mask k ||| 2 ^ k else pullK im mask k := by
  unfold pullK
  rw [List.range_succ, List.filter_append]
  cases h : mask.testBit (im.getD k 0)
  · simp only [List.filter_cons, List.filter_nil, h]
    simp
  · simp only [List.filter_cons, List.filter_nil, h, if_true]
    rw [setOf_snoc]
theorem pullK_lt (im : List Nat) (mask k : Nat) : pullK im mask k < 2 ^ k := setOf_lt fun _ hy => List.mem_range.1 (List.mem_filter.1 hy).1
theorem pullN_testBit (im : List Nat) (mask x : Nat) (hx : x < im.length) : (pullN im mask).testBit x = mask.testBit (im.getD x 0) := by
  unfold pullN pullK
  rw [setOf_testBit, List.contains_eq_mem, Bool.eq_iff_iff, decide_eq_true_eq, List.mem_filter, List.mem_range]
  exact ⟨fun h => h.2, fun h => ⟨hx, h⟩⟩
section
variable {α : Type} {lt : α → α → Bool}
end
end Go.Vc

/- Contracts: the frame of an algebra in the program; isomorphic algebras. Conditions: none. -/
namespace Go.Proofs.YtikfhibcdhdglaaGreat
open Go.Vc
end Go.Proofs.YtikfhibcdhdglaaGreat

/- Contracts: duals of maps in the program and in the reference. Conditions: none. -/
namespace Go.Proofs.YtikfhibcdhdglaaGreat
open Go.Vc
theorem ok_impl_pull {v : Value} {w : World} {im : List Nat} (hs : SlN w v im) (hl : im.length ≤ 60) (hy : ∀ y ∈ im, y ≤ 60) (m : Nat) (hm : m < 2 ^ 62) : Ret Tryz.prog f_impl_pull #[v, .int .i64 (m : Int)] w (.int .i64 ((pullN im m : Nat) : Int)) := by
  apply c_impl_pull; unfold S_impl_pull
  ((with_reducible refine iLenN (by assumption) ?_))
  refine iLp (fun k : Nat => [.int .i64 ((pullK im m k : Nat) : Int), .int .i64 (k : Int)]) (fun k w' => k ≤ im.length ∧ Ext w w') (fun k => im.length - k) 0 rfl ⟨Nat.zero_le _, Ext.refl _⟩ ?_
  rintro k w2 Kn ⟨hk, h2⟩ hKn
  have hs2 := hs.ext h2
  (intro _; (try simp only [gx]); (with_reducible refine iLt ?_))
  refine iCndP (fun h3 => ?_) (fun h3 => ?_)
  · have hk1 : k < im.length := by omega
    have hsu := pullK_succ im m k
    have hx : im.getD k 0 ≤ 60 := by rw [getD_of_lt hk1]; exact hy _ (List.getElem_mem hk1)
    have hlt := Nat.lt_of_lt_of_le (pullK_lt im m k) (Nat.pow_le_pow_right (by omega) (show k ≤ 62 by omega) : 2 ^ k ≤ 2 ^ 62)
    have h2k : 2 ^ k < 2 ^ 62 := Nat.pow_lt_pow_right (by omega) (by omega)
    ((with_reducible refine iIaNN (by assumption) ?_ (fun pa_ hpa_ => ?_)); omega; (with_reducible refine iLd (by assumption) ?_))
    refine iRet (ok_impl_has m _ (by omega) (by omega) w2) fun w3 h4 => ?_
    refine iCnd (fun h5 => ?_) (fun h5 => ?_)
    · rw [h5, if_pos rfl] at hsu
      refine iShlOne (by omega) ?_
      refine iBOr (by omega) (by omega) ?_
      rw [← hsu]
      (refine iAdd (by omega) ?_)
      exact hKn (k + 1) _ ⟨by omega, h2.trans h4⟩ (by omega)
    · rw [h5, if_neg (by simp)] at hsu
      (refine iAdd (by omega) ?_)
      rw [← hsu]
      exact hKn (k + 1) _ ⟨by omega, h2.trans h4⟩ (by omega)
  · obtain rfl : k = im.length := by omega
    exact ⟨rfl, h2⟩
end Go.Proofs.YtikfhibcdhdglaaGreat

/- Contracts: premises in the reference, conclusions, TellingFormulas. Conditions: none. -/
namespace Go.Proofs.YtikfhibcdhdglaaGreat
open Go.Vc
theorem ok_spec_premises {f : Fr} (hf : f.ok) (hr : Rooted f) {w : World} {v : Value} (hs : SlN w v f.a) : Cal Tryz.prog f_spec_l21Premises #[.agg #[.int .i64 (f.n : Int), v]] w fun r w' => Ext w w' ∧ ∃ L, RF w.heap.size w' r L ∧ EF w.heap.size w' L ∧ L.map Prod.snd = premF f := by
  apply c_spec_l21Premises; unfold S_spec_l21Premises
  have hf8 := hf.1
  have hfl := hf.2.1
  refine iNew fun b w1 hb x1 hB => ?_
  refine iLdA hB rfl ?_
  refine iRet (ok_spec_l16Root hf hr (hs.ext x1)) fun w2 x2 => ?_
  refine iCall ((ok_spec_l02Var (rootN f) w2).mono ?_)
  rintro y w3 ⟨x3, hy⟩
  refine iBs1 rfl hy.cell fun c w4 hc4 x4 hB4 => ?_
  have x14 := (x2.trans x3).trans x4
  have hR4 : RF w1.heap.size w4 (.slice (some ⟨c, 0, none⟩) 1 1) [(y, .var (rootN f))] := Ow.ofBlk (n := 1) hB4 (by have := (x2.trans x3).size; omega) rfl (by decide)
  have hE4 : EF w1.heap.size w4 [(y, .var (rootN f))] := EF.one (OwK.mono (OwK.ext hy x4) x2.size)
  refine iLp (fun s : Value × Nat => [s.1, .int .i64 (s.2 : Int)]) (fun s w' => s.2 ≤ f.n ∧ Ext w1 w' ∧ ∃ L, RF w1.heap.size w' s.1 L ∧ EF w1.heap.size w' L ∧ L.map Prod.snd = [.var (rootN f)] ++ pairsK f s.2 0) (fun s => f.n - s.2) (.slice (some ⟨c, 0, none⟩) 1 1, 0) rfl ⟨Nat.zero_le _, x14, _, hR4, hE4, by rw [pairsK_zero]; rfl⟩ ?_
  rintro ⟨o, x⟩ w6 Kn ⟨hx, x6, L, hR, hE, hL⟩ hKn
  have hx : x ≤ f.n := hx
  have hR : RF w1.heap.size w6 o L := hR
  have hL : L.map Prod.snd = [.var (rootN f)] ++ pairsK f x 0 := hL
  have hB6 := hB.ext x6
  (intro _; (try simp only [gx]); (with_reducible refine iFa ?_); refine iLdB (by assumption) (by first | rfl | simp) ?_; (with_reducible refine iLt ?_))
  refine iCndP (fun h => ?_) (fun h => ?_)
  · have hx1 : x < f.n := by omega
    refine iAdd (by omega) ?_
    have ex : (x : Int) + 1 = ((x + 1 : Nat) : Int) := by omega
    rw [ex]
    refine iLp (fun s : Value × Nat => [s.1, .int .i64 (s.2 : Int)]) (fun s w' => x + 1 ≤ s.2 ∧ s.2 ≤ f.n ∧ Ext w1 w' ∧ ∃ L, RF w1.heap.size w' s.1 L ∧ EF w1.heap.size w' L ∧ L.map Prod.snd = [.var (rootN f)] ++ pairsK f x s.2) (fun s => f.n - s.2) (o, x + 1) rfl ⟨Nat.le_refl _, hx1, x6, L, hR, hE, by rw [hL]; show _ = [Fm.var (rootN f)] ++ pairsK f x (x + 1); rw [pairsK_start]⟩ ?_
    rintro ⟨o2, y⟩ w8 Kn2 ⟨hy1, hy2, x8, M, hRM, hEM, hM⟩ hKn2
    have hy1 : x + 1 ≤ y := hy1
    have hy2 : y ≤ f.n := hy2
    have hRM : RF w1.heap.size w8 o2 M := hRM
    have hM : M.map Prod.snd = [.var (rootN f)] ++ pairsK f x y := hM
    have hB8 := hB.ext x8
    have hs8 := hs.ext (x1.trans x8)
    have hMl : M.length ≤ 300 := by
      have h1 := congrArg List.length hM
      have h2 := pairsK_len hf8 (x := x) (y := y) (by omega) (by omega)
      rw [List.length_map, List.length_append, List.length_singleton] at h1
      omega
    (intro _; (try simp only [gx]); (with_reducible refine iFa ?_); refine iLdB (by assumption) (by first | rfl | simp) ?_; (with_reducible refine iLt ?_))
    refine iCndP (fun h8 => ?_) (fun h8 => ?_)
    · have hy3 : y < f.n := by omega
      have hax := hf.lt hx1
      have hay := hf.lt hy3
      have h28 : 2 ^ f.n ≤ 2 ^ 8 := Nat.pow_le_pow_right (by omega) hf8
      ((with_reducible refine iLdA (by assumption) ?_ ?_); rfl; (with_reducible refine iFa ?_); refine iLdB (by assumption) (by first | rfl | simp) ?_; (with_reducible refine iIaNN (by assumption) ?_ (fun pa_ hpa_ => ?_)); omega; (with_reducible refine iLd (by assumption) ?_; refine iFa ?_); refine iLdB (by assumption) (by first | rfl | simp) ?_; (with_reducible refine iIaNN (by assumption) ?_ (fun pa_ hpa_ => ?_)); omega; (with_reducible refine iLd (by assumption) ?_))
      refine iBAnd (by omega) (by omega) ?_
      intro w9 x9
      refine iCall ((ok_spec_l02Var x w9).mono ?_)
      rintro a1 w10 ⟨x10, h10⟩
      refine ⟨x10, fun w11 x11 => ?_⟩
      refine iCall ((ok_spec_l02Var y w11).mono ?_)
      rintro a2 w12 ⟨x12, h12⟩
      refine ⟨x12, fun w13 x13 => ?_⟩
      refine iCall ((ok_spec_l02Pair (c := .and (.var x) (.var y)) (k := 2) rfl rfl (SlK.ext h10.sl (x11.trans (x12.trans x13))) (SlK.ext h12.sl x13) (by simp only [Fm.size]; omega)).mono ?_)
      rintro a3 w14 ⟨x14, h14⟩
      refine ⟨x14, fun w15 x15 => ?_⟩
      have X15 : Ext w8 w15 := (x9.trans (x10.trans (x11.trans (x12.trans x13)))).trans (x14.trans x15)
      refine iCall ((ok_spec_l21Join hf (hs8.ext X15) _ (and_lt8 hf hx1)).mono ?_)
      rintro a4 w16 ⟨x16, h16⟩
      intro w17 x17
      have X17 : Ext w8 w17 := X15.trans (x16.trans x17)
      refine iCall ((ok_spec_l21Both (A := .and (.var x) (.var y)) (B := jnF f (f.a.getD x 0 &&& f.a.getD y 0)) (SlK.ext h14.sl (x15.trans (x16.trans x17))) (SlK.ext h16.sl x17) (by simp only [Fm.size]; omega) (by have := jnF_size hf (m := f.a.getD x 0 &&& f.a.getD y 0) (and_lt8 hf hx1); omega)).mono ?_)
      rintro r w18 ⟨x18, N, hsN, hEN, hN⟩
      intro w19 x19
      have X19 : Ext w8 w19 := X17.trans (x18.trans x19)
      have hd := EF.fresh (hEM.ext X17) hEN (Nat.le_refl _)
      have hNl : N.length = 2 := by have := congrArg List.length hN; simpa [bothF] using this
      refine RF.appS (Ow.ext hRM X19) ((hEM.ext X19).app ((hEN.ext x19).mono (x8.trans X17).size) hd) (Sl.ext hsN x19) (x8.trans X19).size (by omega) fun v' w20 hR' hE' hg => ?_
      intro w21 x21
      refine iAdd (by omega) ?_
      refine hKn2 (v', y + 1) _ ⟨by show x + 1 ≤ y + 1; omega, by show y + 1 ≤ f.n; omega, ((x8.trans X19).grown hg fun c hc => (Ow.blk hRM c hc).1).trans x21, M ++ N, Ow.ext hR' x21, hE'.ext x21, ?_⟩ (by show f.n - (y + 1) < f.n - y; omega)
      show (M ++ N).map Prod.snd = [.var (rootN f)] ++ pairsK f x (y + 1)
      rw [List.map_append, hM, hN, pairsK_step f x y hy1, List.append_assoc]; rfl
    · obtain rfl : y = f.n := by omega
      refine iAdd (by omega) ?_
      refine hKn (o2, x + 1) _ ⟨by show x + 1 ≤ f.n; omega, x8, M, hRM, hEM, ?_⟩ (by show f.n - (x + 1) < f.n - x; omega)
      rw [hM, pairsK_row]
  · obtain rfl : x = f.n := by omega
    refine iLdA hB6 rfl ?_
    refine iCall ((ok_spec_l16Upsets hf (hs.ext (x1.trans x6))).mono ?_)
    rintro uv w22 ⟨x22, hu⟩
    have hul := upsets_len hf
    refine iLp (fun s : Value × Nat => [s.1, .int .i64 (s.2 : Int)]) (fun s w' => s.2 ≤ f.n ∧ Ext w1 w' ∧ Ow 0 t_i64 w' uv (ints (nats (upsets f))) ∧ ∃ L, RF w1.heap.size w' s.1 L ∧ EF w1.heap.size w' L ∧ L.map Prod.snd = [.var (rootN f)] ++ pairsK f f.n 0 ++ upsK f s.2 0) (fun s => f.n - s.2) (o, 0) rfl ⟨Nat.zero_le _, x6.trans x22, hu.mono (Nat.zero_le _), L, Ow.ext hR x22, hE.ext x22, by rw [upsK_zero, List.append_nil]; exact hL⟩ ?_
    rintro ⟨o2, x⟩ w24 Kn2 ⟨hx2, x24, y24, M, hRM, hEM, hM⟩ hKn2
    have hx2 : x ≤ f.n := hx2
    have hRM : RF w1.heap.size w24 o2 M := hRM
    have hM : M.map Prod.snd = [.var (rootN f)] ++ pairsK f f.n 0 ++ upsK f x 0 := hM
    have hB24 := hB.ext x24
    (intro _; (try simp only [gx]); (with_reducible refine iFa ?_); refine iLdB (by assumption) (by first | rfl | simp) ?_; (with_reducible refine iLt ?_))
    refine iCndP (fun h => ?_) (fun h => ?_)
    · have hx1 : x < f.n := by omega
      refine iLp (fun s : Value × Nat => [s.1, .int .i64 (s.2 : Int)]) (fun s w' => s.2 ≤ (upsets f).length ∧ Ext w1 w' ∧ Ow 0 t_i64 w' uv (ints (nats (upsets f))) ∧ ∃ L, RF w1.heap.size w' s.1 L ∧ EF w1.heap.size w' L ∧ L.map Prod.snd = [.var (rootN f)] ++ pairsK f f.n 0 ++ upsK f x s.2) (fun s => (upsets f).length - s.2) (o2, 0) rfl ⟨Nat.zero_le _, x24, y24, M, hRM, hEM, hM⟩ ?_
      rintro ⟨o3, k⟩ w26 Kn3 ⟨hk, x26, y26, M3, hR3, hE3, hM3⟩ hKn3
      have hk : k ≤ (upsets f).length := hk
      have hR3 : RF w1.heap.size w26 o3 M3 := hR3
      have hM3 : M3.map Prod.snd = [.var (rootN f)] ++ pairsK f f.n 0 ++ upsK f x k := hM3
      have hB26 := hB.ext x26
      have hs26 := hs.ext (x1.trans x26)
      have hus26 : SlN w26 uv (upsets f) := y26.sl
      have hMl : M3.length ≤ 6000 := by
        have h1 := congrArg List.length hM3
        have h2 := pairsK_len hf8 (x := f.n) (y := 0) hf8 (by omega)
        have h3 := upsK_len hf (x := x) (k := k) (by omega)
        rw [List.length_map, List.length_append, List.length_append, List.length_singleton] at h1
        omega
      (intro _; (try simp only [gx]); (with_reducible refine iLenN (by assumption) ?_; refine iLt ?_))
      refine iCndP (fun h28 => ?_) (fun h28 => ?_)
      · have hk1 : k < (upsets f).length := by omega
        have hul2 : (upsets f).getD k 0 < 2 ^ f.n := upsets_lt (getD_mem hk1)
        have hue : (upsets f).getD k 0 = (upsets f)[k] := by simp [List.getD_eq_getElem?_getD, hk1]
        have sz1 := jnF_size hf hul2
        ((with_reducible refine iLdA (by assumption) ?_ ?_); rfl; (with_reducible refine iIaNN (by assumption) ?_ (fun pa_ hpa_ => ?_)); omega; (with_reducible refine iLd (by assumption) ?_))
        intro w27 x27
        refine iCall ((ok_spec_l02Var x w27).mono ?_)
        rintro a1 w28 ⟨x28, h28'⟩
        refine ⟨x28, fun w29 x29 => ?_⟩
        have X29 : Ext w26 w29 := x27.trans (x28.trans x29)
        refine iCall ((ok_spec_l21Join hf (hs26.ext X29) _ hul2).mono ?_)
        rintro a2 w30 ⟨x30, h30⟩
        intro w31 x31
        refine iCall ((ok_spec_l02Pair (c := .imp (.var x) (jnF f ((upsets f).getD k 0))) (k := 4) rfl rfl (SlK.ext h28'.sl (x29.trans (x30.trans x31))) (SlK.ext h30.sl x31) (by simp only [Fm.size]; omega)).mono ?_)
        rintro a3 w32 ⟨x32, h32⟩
        intro w33 x33
        have X33 : Ext w26 w33 := X29.trans ((x30.trans x31).trans (x32.trans x33))
        have hB33 := hB26.ext X33
        have hs33 := hs26.ext X33
        have hus33 := hus26.ext X33
        ((with_reducible refine iLdA (by assumption) ?_ ?_); rfl; (with_reducible refine iLdA (by assumption) ?_ ?_); rfl; (with_reducible refine iFa ?_); refine iLdB (by assumption) (by first | rfl | simp) ?_; (with_reducible refine iIaNN (by assumption) ?_ (fun pa_ hpa_ => ?_)); omega; (with_reducible refine iLd (by assumption) ?_); (with_reducible refine iIaNN (by assumption) ?_ (fun pa_ hpa_ => ?_)); omega; (with_reducible refine iLd (by assumption) ?_))
        refine iRetQ (fun w' h' => ok_spec_l17Arrow hf (hs33.ext h') _ _ (hf.lt hx1) hul2) ?_
        intro w34 x34
        refine iCall ((ok_spec_l21Join hf (hs33.ext x34) _ (impM_lt f _ _)).mono ?_)
        rintro a4 w35 ⟨x35, h35⟩
        intro w36 x36
        have X36 : Ext w26 w36 := X33.trans (x34.trans (x35.trans x36))
        refine iCall ((ok_spec_l21Both (A := .imp (.var x) (jnF f ((upsets f).getD k 0))) (B := jnF f (impM f (f.a.getD x 0) ((upsets f).getD k 0))) (SlK.ext h32.sl (x33.trans (x34.trans (x35.trans x36)))) (SlK.ext h35.sl x36) (by simp only [Fm.size]; omega) (by have := jnF_size hf (impM_lt f (f.a.getD x 0) ((upsets f).getD k 0)); omega)).mono ?_)
        rintro r w37 ⟨x37, N, hsN, hEN, hN⟩
        intro w38 x38
        have X38 : Ext w26 w38 := X36.trans (x37.trans x38)
        have hd := EF.fresh (hE3.ext X36) hEN (Nat.le_refl _)
        have hNl : N.length = 2 := by have := congrArg List.length hN; simpa [bothF] using this
        refine RF.appS (Ow.ext hR3 X38) ((hE3.ext X38).app ((hEN.ext x38).mono (x26.trans X36).size) hd) (Sl.ext hsN x38) (x26.trans X38).size (by omega) fun v' w39 hR' hE' hg => ?_
        intro w40 x40
        refine iAdd (by omega) ?_
        refine hKn3 (v', k + 1) _ ⟨by show k + 1 ≤ (upsets f).length; omega, ((x26.trans X38).grown hg fun c hc => (Ow.blk hR3 c hc).1).trans x40, ?_, M3 ++ N, Ow.ext hR' x40, hE'.ext x40, ?_⟩ (by show (upsets f).length - (k + 1) < (upsets f).length - k; omega)
        · exact ((y26.ext X38).ch (grown_ch (S := fun c => o3.ownBlock = some c) hg fun c hc => hc) fun c hc hc' => (y26.ext X38).ne_ow (Ow.ext hR3 X38) (by decide) hc hc').ext x40
        · rw [List.map_append, hM3, hN]
          show _ = [Fm.var (rootN f)] ++ pairsK f f.n 0 ++ upsK f x (k + 1)
          rw [upsK_step f x k hk1, ← hue, List.append_assoc, List.append_assoc, List.append_assoc]
          rfl
      · obtain rfl : k = (upsets f).length := by omega
        refine iAdd (by omega) ?_
        refine hKn2 (o3, x + 1) _ ⟨by show x + 1 ≤ f.n; omega, x26, y26, M3, hR3, hE3, ?_⟩ (by show f.n - (x + 1) < f.n - x; omega)
        rw [hM3, upsK_row]
    · obtain rfl : x = f.n := by omega
      exact ⟨x1.trans x24, M, Ow.mono hRM x1.size, hEM.mono x1.size, hM⟩
theorem frOf_natsJ (g : Fr) : frOf (g.n : Int) (nats g.a) = g := by
  unfold frOf nats
  rw [Int.toNat_natCast, List.map_map]
  have : (Int.toNat ∘ fun (x : Nat) => (x : Int)) = id := by funext x; simp
  first
    | rw [this, List.map_id]
    | simp [Function.comp_def]
theorem poB_ofJ {f : Fr} (hp : Po f) : poB f = true := by
  unfold poB
  rw [Bool.and_eq_true, Bool.and_eq_true]
  refine ⟨?_, (flagB_trans hp.ok).2 hp.trans, flagB_iff.2 fun x _ => ⟨by unfold flag1; simp, fun y _ => ?_⟩⟩
  · rw [flagB_refl, List.all_eq_true]
    exact fun x hx => hp.refl x (List.mem_range.1 hx)
  · unfold flag2
    cases h1 : (f.a.getD x 0).testBit y
    · rfl
    · cases h2 : (f.a.getD y 0).testBit x
      · simp
      · simp [hp.anti x y h1 h2]
theorem posetOk_ofJ {f : Fr} (hp : Po f) : posetOk (f.n : Int) (nats f.a) = true := by
  unfold posetOk frameOk
  rw [frOf_natsJ, poB_ofJ hp, Bool.and_true, Bool.and_eq_true, Bool.and_eq_true, decide_eq_true_eq, decide_eq_true_eq, List.all_eq_true, Int.toNat_natCast]
  refine ⟨⟨⟨by omega, by have := hp.ok.1; omega⟩, by rw [nats_length, hp.ok.2.1]⟩, fun z hz => ?_⟩
  obtain ⟨m, hm, rfl⟩ := List.mem_map.1 hz
  have := hp.ok.2.2 m hm
  unfold maskB
  rw [decide_eq_true_eq]
  generalize 2 ^ f.n = k at *
  show 0 ≤ (m : Int) ∧ (m : Int) ≤ ((k - 1 : Nat) : Int)
  omega
theorem conc_lt (f : Fr) : sdiff (2 ^ f.n - 1) (2 ^ rootN f) < 2 ^ f.n := sdiff_lt (by have := Nat.two_pow_pos f.n; omega)
theorem ok_impl_conclusion {f : Fr} (hf : f.ok) (hr : Rooted f) {w : World} {v : Value} (hs : SlN w v f.a) : Cal Tryz.prog f_impl_jankovConclusion #[.agg #[.int .i64 (f.n : Int), v]] w fun r w' => Ext w w' ∧ FmW w.heap.size w' r (concF f) := by
  apply c_impl_jankovConclusion; unfold S_impl_jankovConclusion
  have hf8 := hf.1
  obtain ⟨r1, _, _⟩ := hr.root
  have h28 : 2 ^ f.n ≤ 2 ^ 8 := Nat.pow_le_pow_right (by omega) hf8
  have h2r : 2 ^ rootN f < 2 ^ 8 := Nat.pow_lt_pow_right (by omega) (by omega)
  refine iNew fun b w1 hb x1 hB => ?_
  have hs1 := hs.ext x1
  ((with_reducible refine iLdA (by assumption) ?_ ?_); rfl; (with_reducible refine iLdA (by assumption) ?_ ?_); rfl)
  refine iRetQ (fun w' _ => ok_impl_Poset_all f.n hf8 v w') ?_
  ((with_reducible refine iLdA (by assumption) ?_ ?_); rfl)
  refine iRetQ (fun w' h' => ok_impl_root hf hr (hs1.ext h')) ?_
  refine iShlOne (by omega) ?_
  refine iBAndNot (by omega) (by omega) ?_
  intro w2 x2
  refine iCall ((ok_impl_joined hf (hs1.ext x2) _ (conc_lt f)).mono ?_)
  rintro r w3 ⟨x3, hr3⟩
  intro w4 x4
  exact ⟨((x1.trans x2).trans x3).trans x4, OwK.mono (OwK.ext hr3 x4) (x1.trans x2).size⟩
theorem ok_spec_conclusion {f : Fr} (hf : f.ok) (hr : Rooted f) {w : World} {v : Value} (hs : SlN w v f.a) : Cal Tryz.prog f_spec_l21Conclusion #[.agg #[.int .i64 (f.n : Int), v]] w fun r w' => Ext w w' ∧ FmW w.heap.size w' r (concF f) := by
  apply c_spec_l21Conclusion; unfold S_spec_l21Conclusion
  have hf8 := hf.1
  obtain ⟨r1, _, _⟩ := hr.root
  have h28 : 2 ^ f.n ≤ 2 ^ 8 := Nat.pow_le_pow_right (by omega) hf8
  have h2r : 2 ^ rootN f < 2 ^ 8 := Nat.pow_lt_pow_right (by omega) (by omega)
  refine iNew fun b w1 hb x1 hB => ?_
  have hs1 := hs.ext x1
  ((with_reducible refine iLdA (by assumption) ?_ ?_); rfl; (with_reducible refine iFa ?_); refine iLdB (by assumption) (by first | rfl | simp) ?_)
  refine iRetQ (fun w' _ => ok_spec_l01Full f.n (by omega) w') ?_
  ((with_reducible refine iLdA (by assumption) ?_ ?_); rfl)
  refine iRetQ (fun w' h' => ok_spec_l16Root hf hr (hs1.ext h')) ?_
  refine iRetQ (fun w' _ => ok_spec_l01One (rootN f) (by omega) w') ?_
  refine iBAndNot (by omega) (by omega) ?_
  intro w2 x2
  refine iCall ((ok_spec_l21Join hf (hs1.ext x2) _ (conc_lt f)).mono ?_)
  rintro r w3 ⟨x3, hr3⟩
  intro w4 x4
  exact ⟨((x1.trans x2).trans x3).trans x4, OwK.mono (OwK.ext hr3 x4) (x1.trans x2).size⟩
end Go.Proofs.YtikfhibcdhdglaaGreat

/- Contracts: maps between posets, masks drawn back and spread, roots, the code of Jankov's formulas. Conditions: none. -/
namespace Go.Proofs.YtikfhibcdhdglaaGreat
open Go.Vc
theorem ok_impl_mapMask {v : Value} {w : World} {im : List Nat} (hs : SlN w v im) (hl : im.length ≤ 60) (hy : ∀ y ∈ im, y < 60) (m : Nat) (hm : m < 2 ^ im.length) : Ret Tryz.prog f_impl_mapMask #[v, .int .i64 (m : Int)] w (.int .i64 ((img im m : Nat) : Int)) := by
  have hm63 : m < 2 ^ 63 := Nat.lt_of_lt_of_le hm (Nat.pow_le_pow_right (by omega) (by omega))
  have hml : (mem m).length ≤ 63 := memK_length_le m 63
  have hmb : ∀ x, x ∈ mem m → x < im.length := fun x hx => bit_lt_n hm ((mem_mem hm63).1 hx)
  apply c_impl_mapMask; unfold S_impl_mapMask
  refine iCall ((ok_impl_membersOf m hm63 w).mono ?_)
  rintro u w1 ⟨x1, ho⟩
  have hu : SlN w1 u (mem m) := ho.sl
  have e : ∀ k, setOf (((mem m).take k).map fun i => im.getD i 0) < 2 ^ 60 := fun k => setOf_lt fun y hy' => by
    obtain ⟨i, hi, rfl⟩ := List.mem_map.1 hy'
    exact getD_lt hy (hmb i (List.mem_of_mem_take hi))
  refine iLenN hu ?_
  refine iLp (fun k : Nat => [.int .i64 ((setOf (((mem m).take k).map fun i => im.getD i 0) : Nat) : Int), .int .i64 (k : Int)]) (fun k w' => k ≤ (mem m).length ∧ Ext w1 w') (fun k => (mem m).length - k) 0 rfl ⟨Nat.zero_le _, Ext.refl _⟩ ?_
  rintro k w2 Kn ⟨hk, x2⟩ hKn
  have hu2 := hu.ext x2
  have hs2 := hs.ext (x1.trans x2)
  intro _
  simp only [gx]
  refine iLt (iCndP (fun h => ?_) (fun h => ?_))
  · have hk1 : k < (mem m).length := by omega
    refine iIaNN hu2 hk1 fun p hp => iLd hp ?_
    have hg : (mem m).getD k 0 = (mem m)[k] := by simp [hk1]
    have hx : (mem m).getD k 0 < im.length := by rw [hg]; exact hmb _ (List.getElem_mem hk1)
    refine iIaNN hs2 hx fun p hp => iLd hp ?_
    have hyy := getD_lt hy hx
    refine iShlOne (by omega) ?_
    have h1 := e k
    have h2 : 2 ^ im.getD ((mem m).getD k 0) 0 < 2 ^ 60 := Nat.pow_lt_pow_right (by omega) hyy
    refine iBOr (by omega) (by omega) ?_
    refine iAdd (by omega) ?_
    rw [show setOf (((mem m).take k).map fun i => im.getD i 0) ||| 2 ^ im.getD ((mem m).getD k 0) 0 = setOf (((mem m).take (k + 1)).map fun i => im.getD i 0) by
      rw [List.take_succ_eq_append_getElem hk1, List.map_append, List.map_singleton, setOf_snoc, hg]]
    exact hKn (k + 1) _ ⟨by omega, x2⟩ (by omega)
  · rw [List.take_of_length_le (by omega)]
    refine ⟨?_, x1.trans x2⟩
    have : img im m = setOf ((mem m).map fun i => im.getD i 0) := by
      unfold img imgK
      have : memK m im.length = mem m := by
        obtain ⟨d, hd⟩ : ∃ d, 63 = im.length + d := ⟨63 - im.length, by omega⟩
        unfold mem
        rw [hd]
        exact (memK_high (fun j hj => Nat.testBit_lt_two_pow (Nat.lt_of_lt_of_le hm (Nat.pow_le_pow_right (by omega) hj))) d).symm
      rw [this]
    rw [this]
theorem ok_impl_isMorphism_good {f g : Fr} (hf : f.ok) (hg : g.ok) {v0 v1 v : Value} {w : World} (h0 : SlN w v0 f.a) (h1 : SlN w v1 g.a) {im : List Nat} (hs : SlN w v im) (hl : im.length = f.n) (hy : ∀ y ∈ im, y < g.n) (hm : ∀ x, x < f.n → img im (f.a.getD x 0) = g.a.getD (im.getD x 0) 0) :
    Ret Tryz.prog f_impl_isMorphism #[.agg #[.int .i64 (f.n : Int), v0], .agg #[.int .i64 (g.n : Int), v1], v] w (.bool true) := by
  have hf8 := hf.1
  have hg8 := hg.1
  apply c_impl_isMorphism; unfold S_impl_isMorphism
  refine iNew fun b3 w1 hb3 x1 hB3 => ?_
  refine iNew fun b4 w2 hb4 x2 hB4 => ?_
  refine iNew fun b5 w3 hb5 x3 hB5 => ?_
  have hB3 : Blk _ w3 b3 [.int .i64 (f.n : Int), v0] := (hB3.ext x2).ext x3
  have hB4 : Blk _ w3 b4 [.int .i64 (g.n : Int), v1] := hB4.ext x3
  have hcv : Value.cells v = #[v] := by obtain ⟨a, c, rfl, _⟩ := hs; rfl
  have hB5 : Blk 24 w3 b5 [v] := by rw [hcv] at hB5; exact hB5
  have hX := (x1.trans x2).trans x3
  refine iLdA hB3 rfl ?_
  refine iRet (v := .bool true) ?_ fun w4 x4 => ⟨rfl, hX.trans x4⟩
  have key := ok_impl_Frame_everyWorld (n := f.n) (fv := .func (.func f_impl_isMorphism_1) #[] #[.pointer (some ⟨b5, 0, none⟩), .pointer (some ⟨b3, 0, none⟩), .pointer (some ⟨b4, 0, none⟩)]) (u := v0) (fun _ => true) (by omega) w3 ?_
  · have : (List.range f.n).all (fun _ => true) = true := by simp
    rw [this] at key; exact key
  intro w' x' x hx
  refine iClo rfl ?_
  refine c_impl_isMorphism_1 ?_; unfold S_impl_isMorphism_1
  have hw := hX.trans x'
  have hxl : f.a.getD x 0 < 2 ^ im.length := by rw [hl]; exact hf.lt hx
  refine iLdB (hB5.ext x') (v := v) rfl ?_
  refine iFa (iLdB (hB3.ext x') (i := 1) (v := v0) rfl ?_)
  refine iIaNN (h0.ext hw) (by rw [hf.2.1]; exact hx) fun p hp => iLd hp ?_
  refine iRetQ (fun w'' x'' => ok_impl_mapMask ((hs.ext hw).ext x'') (by omega) (fun y h => by have := hy y h; omega) _ hxl) ?_
  refine iFa (iLdB (hB4.ext x') (i := 1) (v := v1) rfl ?_)
  refine iLdB (hB5.ext x') (v := v) rfl ?_
  refine iIaNN (hs.ext hw) (by omega) fun p hp => iLd hp ?_
  have hyx : im.getD x 0 < g.n := getD_lt hy (by omega)
  refine iIaNN (h1.ext hw) (by rw [hg.2.1]; exact hyx) fun p hp => iLd hp ?_
  refine iEq ?_
  rw [hm x hx, decide_eq_true rfl]
  exact fun w1 x1 => ⟨rfl, x1⟩
theorem ok_impl_hasWorldP {v : Value} (n x : Int) (hn : -1000 ≤ n ∧ n ≤ 1000) (w : World) : Ret Tryz.prog f_impl_Frame_hasWorld #[.agg #[.int .i64 n, v], .int .i64 x] w (.bool (decide (0 ≤ x ∧ x ≤ n - 1))) := by
  apply c_impl_Frame_hasWorld; unfold S_impl_Frame_hasWorld
  refine iNew fun b w1 hb h1 hB => ?_
  have hB : Blk _ w1 b [.int .i64 n, v] := hB
  refine iFa (iLdB hB (v := .int .i64 n) rfl ?_)
  refine iSub (by omega) ?_
  exact iRet (ok_impl_inRange _ _ _ w1) fun w2 h2 => ⟨rfl, h1.trans h2⟩
theorem ok_impl_isMap_goodP {v0 v1 v : Value} {w : World} {im : List Nat} {n0 n1 : Nat} (hs : SlN w v im) (hl : im.length = n0) (hy : ∀ y ∈ im, y < n1) (hn : n0 ≤ 1000 ∧ n1 ≤ 1000) : Ret Tryz.prog f_impl_isMap #[.agg #[.int .i64 (n0 : Int), v0], .agg #[.int .i64 (n1 : Int), v1], v] w (.bool true) := by
  apply c_impl_isMap; unfold S_impl_isMap
  refine iNew fun b w1 hb h1 hB => ?_
  refine iNew fun b2 w2 hb2 h2 hB2 => ?_
  have hX := h1.trans h2
  have hB : Blk _ w2 b [.int .i64 (n0 : Int), v0] := hB.ext h2
  have hB2 : Blk _ w2 b2 [.int .i64 (n1 : Int), v1] := hB2
  have hs2 : SlI w2 v (nats im) := hs.ext hX
  refine iJnB true w2 (fun J hJ => ?_) (fun w4 h4 => fun _ => ⟨rfl, hX.trans h4⟩)
  refine iRetQ (fun w' x => ok_impl_size_i64 (Sl.ext hs2 x)) ?_
  rw [ints_length, nats_length]
  refine iFa (iLdB hB (v := .int .i64 (n0 : Int)) rfl ?_)
  refine iEq (iCndP (fun _ => ?_) (fun h => absurd (by omega) h))
  refine iRetQ (fun w' x => ok_slices_ContainsFunc_Si64_i64 (hs2.ext x) (fun y => !decide (0 ≤ y ∧ y ≤ (n1 : Int) - 1)) (fun w3 x3 y hy' => ?_)) ?_
  · refine iClo rfl ?_
    refine c_impl_isMap_1 ?_
    unfold S_impl_isMap_1
    refine iLdA ((hB2.ext x).ext x3) rfl ?_
    refine iRet (ok_impl_hasWorldP _ _ (by omega) w3) fun w4 h4 => ?_
    exact iNot ⟨rfl, h4⟩
  · have e : (nats im).any (fun y => !decide (0 ≤ y ∧ y ≤ (n1 : Int) - 1)) = false := List.any_eq_false.2 fun y hy' => by
      obtain ⟨i, hi, rfl⟩ := List.mem_map.1 hy'
      have := hy i hi
      have h2 : decide (0 ≤ Int.ofNat i ∧ Int.ofNat i ≤ (n1 : Int) - 1) = true := decide_eq_true ⟨Int.natCast_nonneg _, by show (i : Int) ≤ _; omega⟩
      rw [h2]; simp
    rw [e]
    refine iNot ?_
    intro w5 h5
    exact hJ w5 h5
theorem ok_impl_isPosetMorphism_good {f g : Fr} (hf : f.ok) (hg : g.ok) {v0 v1 v : Value} {w : World} (h0 : SlN w v0 f.a) (h1 : SlN w v1 g.a) {im : List Nat} (hs : SlN w v im) (hl : im.length = f.n) (hy : ∀ y ∈ im, y < g.n) (hm : ∀ x, x < f.n → img im (f.a.getD x 0) = g.a.getD (im.getD x 0) 0) :
    Ret Tryz.prog f_impl_isPosetMorphism #[.agg #[.int .i64 (f.n : Int), v0], .agg #[.int .i64 (g.n : Int), v1], v] w (.bool true) := by
  have hf8 := hf.1
  have hg8 := hg.1
  have hfr : ∀ {w' : World}, Ext w w' → Ret Tryz.prog f_impl_Poset_frame #[.agg #[.int .i64 (f.n : Int), v0]] w' (.agg #[.int .i64 (f.n : Int), v0]) := fun x => by
    have := ok_impl_Poset_frame (h0.ext x) (f.n : Int)
    rw [nats_length, hf.2.1] at this; exact this
  have hgr : ∀ {w' : World}, Ext w w' → Ret Tryz.prog f_impl_Poset_frame #[.agg #[.int .i64 (g.n : Int), v1]] w' (.agg #[.int .i64 (g.n : Int), v1]) := fun x => by
    have := ok_impl_Poset_frame (h1.ext x) (g.n : Int)
    rw [nats_length, hg.2.1] at this; exact this
  apply c_impl_isPosetMorphism; unfold S_impl_isPosetMorphism
  refine iNew fun b3 w1 hb3 x1 hB3 => ?_
  refine iNew fun b4 w2 hb4 x2 hB4 => ?_
  have hB3 : Blk _ w2 b3 [.int .i64 (f.n : Int), v0] := hB3.ext x2
  have hB4 : Blk _ w2 b4 [.int .i64 (g.n : Int), v1] := hB4
  have hX := x1.trans x2
  refine iJnB true w2 (fun J hJ => ?_) (fun w4 h4 => fun _ => ⟨rfl, hX.trans h4⟩)
  refine iLdA hB3 rfl (iLdA hB4 rfl ?_)
  intro w5 x5
  have c5 := hX.trans x5
  refine iRet (hfr c5) fun w6 x6 => ⟨x6, fun w7 x7 => ?_⟩
  have c7 := (c5.trans x6).trans x7
  refine iRet (hgr c7) fun w8 x8 => ?_
  have c8 := c7.trans x8
  refine iRetQ (fun w' x => ok_impl_isMap_goodP ((hs.ext c8).ext x) hl hy (by omega)) ?_
  refine iCndT rfl ?_
  have d8 := ((x5.trans x6).trans x7).trans x8
  refine iLdA (hB3.ext d8) rfl (iLdA (hB4.ext d8) rfl ?_)
  intro w9 x9
  have c9 := c8.trans x9
  refine iRet (hfr c9) fun w10 x10 => ⟨x10, fun w11 x11 => ?_⟩
  have c11 := (c9.trans x10).trans x11
  refine iRet (hgr c11) fun w12 x12 => ?_
  have c12 := c11.trans x12
  refine iRetQ (fun w' x => ok_impl_isMorphism_good hf hg ((h0.ext c12).ext x) ((h1.ext c12).ext x) ((hs.ext c12).ext x) hl hy hm) ?_
  exact fun w13 x13 => hJ _ ((((d8.trans x9).trans x10).trans x11).trans (x12.trans x13))
/-! ### Spread -/
def sprK (m : Nat) (ms : List Nat) (k : Nat) : Nat := setOf (((List.range k).filter fun i => m.testBit i).map fun i => ms.getD i 0)
theorem sprK_succ (m : Nat) (ms : List Nat) (k : Nat) : sprK m ms (k + 1) = if m.testBit k then sprK m ms k ||| 2 ^ ms.getD k 0 else sprK m ms k := by
  unfold sprK
  rw [List.range_succ, List.filter_append, List.map_append]
  by_cases h : m.testBit k
  · rw [if_pos h, List.filter_cons_of_pos h]; exact setOf_snoc _ _
  · rw [if_neg h, List.filter_cons_of_neg h]; simp
def spr (m on : Nat) : Nat := sprK m (mem on) (mem on).length
theorem spr_bit {m on : Nat} (hon : on < 2 ^ 63) (v : Nat) : (spr m on).testBit v = true ↔ on.testBit v = true ∧ m.testBit ((mem on).idxOf v) = true := by
  unfold spr sprK
  rw [setOf_testBit, List.contains_iff_mem, List.mem_map]
  constructor
  · rintro ⟨i, hi, rfl⟩
    rw [List.mem_filter, List.mem_range] at hi
    refine ⟨(mem_mem hon).1 (getD_mem hi.1), ?_⟩
    rw [idx_at (mem_nodup on) hi.1]; exact hi.2
  · rintro ⟨h1, h2⟩
    have := at_idx ((mem_mem hon).2 h1)
    exact ⟨(mem on).idxOf v, by rw [List.mem_filter, List.mem_range]; exact ⟨this.1, h2⟩, this.2⟩
theorem ok_impl_spread (m on : Nat) (hm : m < 2 ^ 63) (hon : on < 2 ^ 60) (w : World) : Ret Tryz.prog f_impl_spread #[.int .i64 (m : Int), .int .i64 (on : Int)] w (.int .i64 ((spr m on : Nat) : Int)) := by
  have hmb : ∀ x, x ∈ mem on → x < 60 := fun x hx => bit_lt_n hon ((mem_mem (by omega)).1 hx)
  have hlen : (mem on).length ≤ 63 := memK_length_le on 63
  have e : ∀ k, k ≤ (mem on).length → sprK m (mem on) k < 2 ^ 60 := fun k hk => setOf_lt fun y hy' => by
    obtain ⟨i, hi, rfl⟩ := List.mem_map.1 hy'
    have := List.mem_range.1 (List.mem_filter.1 hi).1
    exact getD_lt hmb (by omega)
  apply c_impl_spread; unfold S_impl_spread
  refine iCall ((ok_impl_membersOf on (by omega) w).mono ?_)
  rintro u w1 ⟨x1, ho⟩
  have hu : SlN w1 u (mem on) := ho.sl
  refine iLenN hu ?_
  refine iLp (fun k : Nat => [.int .i64 ((sprK m (mem on) k : Nat) : Int), .int .i64 (k : Int)]) (fun k w' => k ≤ (mem on).length ∧ Ext w1 w') (fun k => (mem on).length - k) 0 rfl ⟨Nat.zero_le _, Ext.refl _⟩ ?_
  rintro k w2 Kn ⟨hk, x2⟩ hKn
  have hu2 := hu.ext x2
  intro _
  simp only [gx]
  refine iLt (iCndP (fun h => ?_) (fun h => ?_))
  · have hk1 : k < (mem on).length := by omega
    have hsu := sprK_succ m (mem on) k
    have h0 := e k hk
    refine iIaNN hu2 hk1 fun p hp => iLd hp ?_
    have hx := getD_lt hmb hk1
    refine iRet (ok_impl_has m k hm (by omega) w2) fun w3 x3 => ?_
    refine iCnd (fun h5 => ?_) (fun h5 => ?_)
    · rw [h5, if_pos rfl] at hsu
      refine iShlOne (by omega) ?_
      have h2 : 2 ^ (mem on).getD k 0 < 2 ^ 60 := Nat.pow_lt_pow_right (by omega) hx
      refine iBOr (by omega) (by omega) ?_
      refine iAdd (by omega) ?_
      rw [← hsu]
      exact hKn (k + 1) _ ⟨by omega, x2.trans x3⟩ (by omega)
    · rw [h5, if_neg (by simp)] at hsu
      refine iAdd (by omega) ?_
      rw [← hsu]
      exact hKn (k + 1) _ ⟨by omega, x2.trans x3⟩ (by omega)
  · obtain rfl : k = (mem on).length := by omega
    exact ⟨rfl, x1.trans x2⟩
/-! ### Roots, where there may be none -/
def rootZ (f : Fr) : Int := if rootN f < f.n then (rootN f : Int) else -1
theorem rooted_iff {f : Fr} : Rooted f ↔ rootN f < f.n := by
  constructor
  · exact fun h => h.root.1
  · intro h
    have h' : (List.range f.n).findIdx (fun x => decide (f.a.getD x 0 = 2 ^ f.n - 1)) < (List.range f.n).length := by rw [List.length_range]; exact h
    have := List.findIdx_getElem (w := h')
    rw [decide_eq_true_eq, List.getElem_range] at this
    exact ⟨_, h, this⟩
theorem not_rooted {f : Fr} (h : ¬ Rooted f) {x : Nat} (hx : x < f.n) : ¬ f.a.getD x 0 = 2 ^ f.n - 1 := fun e => h ⟨x, hx, e⟩
theorem ok_slices_Index_noP {v : Value} {w : World} {l : List Nat} (hs : SlN w v l) (x : Nat) (h2 : ∀ i, i < l.length → ¬ l.getD i 0 = x) : Ret Tryz.prog f_slices_Index_Si64_i64 #[v, .int .i64 (x : Int)] w (.int .i64 (-1)) := by
  have hl := hs.len
  apply c_slices_Index_Si64_i64; unfold S_slices_Index_Si64_i64
  refine iLenN hs ?_
  refine iLp (fun i : Nat => [.int .i64 (i : Int)]) (fun i w' => i ≤ l.length ∧ w' = w) (fun i => l.length - i) 0 rfl ⟨Nat.zero_le _, rfl⟩ ?_
  rintro i w2 Kn ⟨hi, rfl⟩ hKn
  intro _
  simp only [gx]
  refine iLt (iCndP (fun h => ?_) (fun _ => ⟨by first | trivial | rfl, Ext.refl _⟩))
  have hi1 : i < l.length := by omega
  refine iIaNN hs hi1 fun p hp => iLd hp ?_
  refine iEq (iCndP (fun h => absurd ?_ (h2 i hi1)) (fun _ => ?_))
  · have : (x : Int) = ((l.getD i 0 : Nat) : Int) := h
    omega
  refine iAdd (by omega) ?_
  exact hKn (i + 1) _ ⟨by omega, rfl⟩ (by omega)
theorem ok_impl_rootZ {f : Fr} (hf : f.ok) {v : Value} {w : World} (hs : SlN w v f.a) : Ret Tryz.prog f_impl_Poset_root #[.agg #[.int .i64 (f.n : Int), v]] w (.int .i64 (rootZ f)) := by
  unfold rootZ
  by_cases hr : Rooted f
  · rw [if_pos (rooted_iff.1 hr)]; exact ok_impl_root hf hr hs
  · rw [if_neg (fun h => hr (rooted_iff.2 h))]
    have hf8 := hf.1
    apply c_impl_Poset_root; unfold S_impl_Poset_root
    refine iNew fun b w1 hb x1 hB => ?_
    have hB : Blk _ w1 b [.int .i64 (f.n : Int), v] := hB
    refine iFa (iLdB hB (i := 1) (v := v) rfl ?_)
    refine iLdA hB rfl ?_
    refine iRetQ (fun w' _ => ok_impl_Poset_all f.n hf8 v w') ?_
    refine iRetQ (fun w' x => ok_slices_Index_noP ((hs.ext x1).ext x) (2 ^ f.n - 1) (fun i hi => not_rooted hr (by rw [hf.2.1] at hi; exact hi))) ?_
    exact fun w2 x2 => ⟨rfl, x1.trans x2⟩
theorem ok_spec_l16RootZ {f : Fr} (hf : f.ok) {v : Value} {w : World} (hs : SlN w v f.a) : Ret Tryz.prog f_spec_l16Root #[.agg #[.int .i64 (f.n : Int), v]] w (.int .i64 (rootZ f)) := by
  unfold rootZ
  by_cases hr : Rooted f
  · rw [if_pos (rooted_iff.1 hr)]; exact ok_spec_l16Root hf hr hs
  · rw [if_neg (fun h => hr (rooted_iff.2 h))]
    have hf8 := hf.1
    have hfl := hf.2.1
    apply c_spec_l16Root; unfold S_spec_l16Root
    refine iNew fun q w1 hq x1 hB => ?_
    refine iLp (fun i : Nat => [.int .i64 (i : Int)]) (fun i w' => i ≤ f.n ∧ Ext w1 w') (fun i => f.n - i) 0 rfl ⟨Nat.zero_le _, Ext.refl w1⟩ ?_
    rintro i w3 Kn ⟨hi, x3⟩ hKn
    have hs3 := hs.ext (x1.trans x3)
    have hB3 := hB.ext x3
    (intro _; (try simp only [gx]); (with_reducible refine iFa ?_); refine iLdB (by assumption) (by first | rfl | simp) ?_; (with_reducible refine iLt ?_))
    refine iCndP (fun h => ?_) (fun _ => ⟨by first | trivial | rfl, x1.trans x3⟩)
    have hi1 : i < f.n := by omega
    ((with_reducible refine iFa ?_); refine iLdB (by assumption) (by first | rfl | simp) ?_; (with_reducible refine iIaNN (by assumption) ?_ (fun pa_ hpa_ => ?_)); omega; (with_reducible refine iLd (by assumption) ?_; refine iFa ?_); refine iLdB (by assumption) (by first | rfl | simp) ?_)
    refine iRetQ (fun w' _ => ok_spec_l01Full f.n (by omega) w') ?_
    ((with_reducible refine iEq ?_))
    intro w4 x4
    refine iCndP (fun h => absurd (by exact_mod_cast h) (not_rooted hr hi1)) (fun _ => ?_)
    (refine iAdd (by omega) ?_)
    exact hKn (i + 1) _ ⟨by omega, x3.trans x4⟩ (by omega)
/-- The code of a poset of which Jankov's formulas are asked. -/
def codeJ (n : Int) (l : List Int) : Int := if posetOk n l = true then (if rootN (frOf n l) < (frOf n l).n then (if 5 < (frOf n l).n then 3 else 0) else 5) else 1
theorem codeJ_zero {n : Int} {l : List Int} (h : codeJ n l = 0) : posetOk n l = true ∧ Rooted (frOf n l) ∧ (frOf n l).n ≤ 5 := by
  unfold codeJ at h
  split at h
  · rename_i h1
    split at h
    · rename_i h2
      split at h
      · omega
      · exact ⟨h1, rooted_iff.2 h2, by omega⟩
    · omega
  · omega
theorem ok_impl_jankovCodeZ {v : Value} {w : World} {n : Int} {l : List Int} (hs : SlI w v l) : Ret Tryz.prog f_impl_jankovCode #[.agg #[.int .i64 n, v]] w (.int .i64 (codeJ n l)) := by
  apply c_impl_jankovCode; unfold S_impl_jankovCode
  refine iNew fun b w1 hb x1 hB => ?_
  have hB : Blk _ w1 b [.int .i64 n, v] := hB
  refine iLdA hB rfl ?_
  refine iRet (ok_impl_isPoset (hs.ext x1) n) fun w2 x2 => iNot ?_
  unfold codeJ
  cases hp : posetOk n l
  · exact iCndT rfl ⟨by simp, x1.trans x2⟩
  · obtain ⟨hP, hn0, hl0⟩ := posetOk_po hp
    refine iCndF rfl (iLdA (hB.ext x2) rfl ?_)
    have hv : SlN w2 v (frOf n l).a := by
      have := (hs.ext x1).ext x2
      unfold SlN
      rw [← hl0]; exact this
    have hr := ok_impl_rootZ hP.ok hv
    rw [← hn0] at hr
    refine iRet hr fun w3 x3 => ?_
    rw [if_pos rfl]
    unfold rootZ
    refine iLt ?_
    by_cases h1 : rootN (frOf n l) < (frOf n l).n
    · rw [if_pos h1, if_pos h1]
      refine iCndF (decide_eq_false (by omega)) ?_
      refine iFa (iLdB ((hB.ext x2).ext x3) (i := 0) (v := .int .i64 n) rfl ?_)
      refine iLt (iCndP (fun h => ?_) (fun h => ?_))
      · rw [if_pos (by omega)]; exact ⟨rfl, (x1.trans x2).trans x3⟩
      · rw [if_neg (by omega)]; exact ⟨rfl, (x1.trans x2).trans x3⟩
    · rw [if_neg h1, if_neg h1]
      exact iCndT (by decide) ⟨rfl, (x1.trans x2).trans x3⟩
theorem ok_spec_l21CodeZ {v : Value} {w : World} {n : Int} {l : List Int} (hs : SlI w v l) : Ret Tryz.prog f_spec_l21Code #[.agg #[.int .i64 n, v]] w (.int .i64 (codeJ n l)) := by
  apply c_spec_l21Code; unfold S_spec_l21Code
  refine iNew fun b w1 hb x1 hB => ?_
  have hB : Blk _ w1 b [.int .i64 n, v] := hB
  refine iLdA hB rfl ?_
  refine iRet (ok_spec_l16Is (hs.ext x1) n) fun w2 x2 => iNot ?_
  unfold codeJ
  cases hp : posetOk n l
  · exact iCndT rfl ⟨by simp, x1.trans x2⟩
  · obtain ⟨hP, hn0, hl0⟩ := posetOk_po hp
    refine iCndF rfl (iLdA (hB.ext x2) rfl ?_)
    have hv : SlN w2 v (frOf n l).a := by
      have := (hs.ext x1).ext x2
      unfold SlN
      rw [← hl0]; exact this
    have hr := ok_spec_l16RootZ hP.ok hv
    rw [← hn0] at hr
    refine iRet hr fun w3 x3 => ?_
    rw [if_pos rfl]
    unfold rootZ
    refine iLt ?_
    by_cases h1 : rootN (frOf n l) < (frOf n l).n
    · rw [if_pos h1, if_pos h1]
      refine iCndF (decide_eq_false (by omega)) ?_
      refine iFa (iLdB ((hB.ext x2).ext x3) (i := 0) (v := .int .i64 n) rfl ?_)
      refine iLt (iCndP (fun h => ?_) (fun h => ?_))
      · rw [if_pos (by omega)]; exact ⟨rfl, (x1.trans x2).trans x3⟩
      · rw [if_neg (by omega)]; exact ⟨rfl, (x1.trans x2).trans x3⟩
    · rw [if_neg h1, if_neg h1]
      exact iCndT (by decide) ⟨rfl, (x1.trans x2).trans x3⟩
theorem ok_impl_MembersOf (n m : Nat) (hn : n ≤ 30) (hm : m < 2 ^ n) (w : World) : Cal Tryz.prog f_impl_MembersOf #[.int .i64 (n : Int), .int .i64 (m : Int)] w fun r w' => Ext w w' ∧ ∃ v, r = .tuple #[v, .int .i64 0] ∧ Ow w.heap.size t_i64 w' v (ints (nats (mem m))) := by
  have hm63 : m < 2 ^ 63 := Nat.lt_of_lt_of_le hm (Nat.pow_le_pow_right (by omega) (by omega))
  apply c_impl_MembersOf; unfold S_impl_MembersOf
  refine iRet (v := .int .i64 0) ?_ fun w1 x1 => ?_
  · apply c_impl_maskCode; unfold S_impl_maskCode
    refine iRet (ok_impl_inRange _ _ _ w) fun w1 x1 => iNot ?_
    rw [decide_eq_true (by omega)]
    refine iCndF rfl ?_
    refine iRet (ok_impl_isMask n m (by omega) w1) fun w2 x2 => iNot ?_
    have hmb : (decide (n ≤ 30) && maskB n (m : Int)) = true := by
      unfold maskB
      rw [Bool.and_eq_true, decide_eq_true_eq, decide_eq_true_eq]; omega
    rw [hmb]
    exact iCndF rfl ⟨rfl, x1.trans x2⟩
  refine iNe (iCndF (by decide) ?_)
  refine iCall ((ok_impl_membersOf m hm63 w1).mono ?_)
  rintro u w2 ⟨x2, ho⟩
  exact ⟨x1.trans x2, u, rfl, ho.mono x1.size⟩
theorem ok_impl_hasElement {v : Value} (n x : Int) (hn : 0 ≤ n ∧ n ≤ 1000) (w : World) : Ret Tryz.prog f_impl_Poset_hasElement #[.agg #[.int .i64 n, v], .int .i64 x] w (.bool (decide (0 ≤ x ∧ x ≤ n - 1))) := by
  apply c_impl_Poset_hasElement; unfold S_impl_Poset_hasElement
  refine iNew fun b w1 hb h1 hB => ?_
  have hB : Blk _ w1 b [.int .i64 n, v] := hB
  refine iFa (iLdB hB (v := .int .i64 n) rfl ?_)
  refine iSub (by omega) ?_
  exact iRet (ok_impl_inRange _ _ _ w1) fun w2 h2 => ⟨rfl, h1.trans h2⟩
theorem ok_impl_RootOf {f : Fr} (hp : Po f) (hr : Rooted f) {v : Value} {w : World} (hs : SlN w v f.a) : Ret Tryz.prog f_impl_RootOf #[.agg #[.int .i64 (f.n : Int), v]] w (.tuple #[.int .i64 ((rootN f : Nat) : Int), .int .i64 0]) := by
  apply c_impl_RootOf; unfold S_impl_RootOf
  refine iNew fun b w1 hb x1 hB => ?_
  have hB : Blk _ w1 b [.int .i64 (f.n : Int), v] := hB
  refine iLdA hB rfl ?_
  refine iRet (ok_impl_isPoset (hs.ext x1) _) fun w2 x2 => iNot ?_
  rw [posetOk_ofJ hp]
  refine iCndF rfl (iLdA (hB.ext x2) rfl ?_)
  refine iRet (ok_impl_root hp.ok hr ((hs.ext x1).ext x2)) fun w3 x3 => ?_
  refine iLt (iCndF (decide_eq_false (by omega)) ?_)
  refine iLdA ((hB.ext x2).ext x3) rfl ?_
  exact iRet (ok_impl_root hp.ok hr (((hs.ext x1).ext x2).ext x3)) fun w4 x4 => ⟨rfl, ((x1.trans x2).trans x3).trans x4⟩
end Go.Proofs.YtikfhibcdhdglaaGreat

/- Contracts: which rows of nodes are formulas, in the reference. Conditions: none. -/
namespace Go.Vc
/-- A row of nodes that can be read; a row of the call's own. -/
abbrev RawS (w : World) (v : Value) (N : List RN) : Prop := SlK 2 w v N.length (cellsN N)
theorem goN_drop {N : List RN} {j : Nat} (hj : j < N.length) (o : Nat) : goN (N.drop j) (o + 1) = goN (N.drop (j + 1)) (o + arZ N[j].1) := by
  rw [List.drop_eq_getElem_cons hj]; rfl
/-- The end of the formula that begins at i, or -1. -/
def endN (N : List RN) (i : Nat) : Int := match goN (N.drop i) 1 with
  | some R => ((N.length - R.length : Nat) : Int)
  | none => -1
theorem goN_len : ∀ (N : List RN) (o : Nat) (R : List RN), goN N o = some R → R.length ≤ N.length
  | N, 0, R, h => by rw [goN_zero] at h; cases h; exact Nat.le_refl _
  | [], _ + 1, _, h => by cases h
  | q :: N, o + 1, R, h => by
    rw [goN_cons] at h
    have := goN_len N _ R h
    rw [List.length_cons]; omega
theorem endN_tree {N : List RN} (h : N.all okN = true) (hp : 0 < N.length) : decide (endN N 0 = (N.length : Int)) = treeN N := by
  unfold treeN endN
  rw [h, Bool.true_and, List.drop_zero]
  cases hg : goN N 1 with
  | none => 
    refine decide_eq_decide.2 ⟨fun e => ?_, fun e => by cases e⟩
    have e : (-1 : Int) = (N.length : Int) := e
    omega
  | some R =>
    have hl := goN_len N 1 R hg
    refine decide_eq_decide.2 ⟨fun e => ?_, fun e => ?_⟩
    · have e : ((N.length - R.length : Nat) : Int) = (N.length : Int) := e
      have : R = [] := List.length_eq_zero_iff.1 (by omega)
      rw [this]
    · cases e
      show ((N.length - 0 : Nat) : Int) = _
      rw [Nat.sub_zero]
theorem okN_nat {q : RN} (h : okN q = true) : ∃ k s : Nat, q = ((k : Int), (s : Int)) ∧ k ≤ 6 ∧ s ≤ 5 := by
  obtain ⟨⟨h1, h2⟩, ⟨h3, h4⟩, _⟩ := okN_iff.1 h
  obtain ⟨a, b⟩ := q
  have h1 : 0 ≤ a := h1
  have h2 : a ≤ 6 := h2
  have h3 : 0 ≤ b := h3
  have h4 : b ≤ 5 := h4
  refine ⟨a.toNat, b.toNat, ?_, by omega, by omega⟩
  rw [Int.toNat_of_nonneg h1, Int.toNat_of_nonneg h3]
end Go.Vc
namespace Go.Proofs.YtikfhibcdhdglaaGreat
open Go.Vc
theorem FmS.raw {w : World} {v : Value} {f : Fm} (h : FmS w v f) : RawS w v (rawF f) := by
  show SlK 2 w v (rawF f).length (cellsN (rawF f))
  rw [rawF_len, cellsN_raw]; exact h
end Go.Proofs.YtikfhibcdhdglaaGreat

/- Contracts: which rows of nodes are formulas, in the program; lists of them. Conditions: none. -/
namespace Go.Vc
/-- A whole element of k cells. -/
theorem iRdAgg6 {P : Program} {sz n j : Nat} {w : World} {v : Value} {xs ys : List Value} {k : IntKind} {K : Value → Prop} (hs : SlK sz w v n xs) (hj : j < n) (hl : ys.length = sz) (hy : ∀ i, i < sz → xs[j * sz + i]? = ys[i]?) (h : K (.agg ys.toArray)) : xIa sz v (.int k (j : Int)) fun p => xLdA w sz p K := by
  have _ := P
  refine iIaK hs hj fun b o hc => ?_
  refine ⟨_, ys.toArray, rfl, by simpa using hl, fun i hi => ?_, h⟩
  have e : (⟨b, o, none⟩ : Addr).add i = ⟨b, o + i, none⟩ := by
    simp only [Addr.add]; split
    · rename_i e; simp [e]
    · rfl
  rw [e, hc i hi, hy i hi]
  simp
end Go.Vc
namespace Go.Proofs.YtikfhibcdhdglaaGreat
open Go.Vc
theorem ok_impl_isVariableN (x : Int) (w : World) : Ret Tryz.prog f_impl_isVariable #[.int .i64 x] w (.bool (decide (0 ≤ x ∧ x ≤ 5))) := by
  apply c_impl_isVariable; unfold S_impl_isVariable
  exact iRet (ok_impl_inRange x 0 5 w) fun w1 h1 => ⟨rfl, h1⟩
theorem ok_impl_isNodeN (q : RN) (w : World) : Ret Tryz.prog f_impl_isNode #[.agg #[.int .i64 q.1, .int .i64 q.2]] w (.bool (okN q)) := by
  obtain ⟨k, s⟩ := q
  show Ret Tryz.prog f_impl_isNode #[.agg #[.int .i64 k, .int .i64 s]] w (.bool (okN (k, s)))
  have e : okN (k, s) = (decide (0 ≤ k ∧ k ≤ 6) && (decide (0 ≤ s ∧ s ≤ 5) && (decide (k = 0) || decide (s = 0)))) := rfl
  apply c_impl_isNode; unfold S_impl_isNode
  refine iNew fun p w1 _ x1 hB => ?_
  have hB : Blk _ w1 p [.int .i64 k, .int .i64 s] := hB
  refine iFa (iLdB hB (v := .int .i64 k) rfl ?_)
  refine iEq (iCndP (fun h0 => ?_) (fun h0 => ?_))
  · refine iFa (iLdB hB (v := .int .i64 s) rfl ?_)
    refine iRet (ok_impl_isVariableN _ w1) fun w2 x2 => ⟨?_, x1.trans x2⟩
    rw [e, decide_eq_true h0, decide_eq_true (by omega : 0 ≤ k ∧ k ≤ 6)]
    simp
  · refine iJnB (okN (k, s)) w1 (fun J hJ => ?_) (fun w2 x2 => fun _ => ⟨rfl, x1.trans x2⟩)
    refine iFa (iLdB hB (v := .int .i64 k) rfl ?_)
    refine iRet (ok_impl_inRange _ _ _ w1) fun w2 x2 => ?_
    rw [e, decide_eq_false h0] at hJ
    by_cases c1 : 1 ≤ k ∧ k ≤ 6
    · rw [decide_eq_true c1]
      refine iCndT rfl ?_
      refine iFa (iLdB (hB.ext x2) (v := .int .i64 s) rfl ?_)
      refine iEq ?_
      rw [decide_eq_true (by omega : 0 ≤ k ∧ k ≤ 6), Bool.true_and, Bool.false_or] at hJ
      by_cases c2 : s = 0
      · rw [decide_eq_true c2] at hJ ⊢
        rw [decide_eq_true (by omega : 0 ≤ s ∧ s ≤ 5)] at hJ
        exact hJ _ x2
      · rw [decide_eq_false c2] at hJ ⊢
        rw [Bool.and_false] at hJ
        exact hJ _ x2
    · rw [decide_eq_false c1]
      rw [decide_eq_false (by omega : ¬ (0 ≤ k ∧ k ≤ 6)), Bool.false_and] at hJ
      exact iCndF rfl (hJ _ x2)
theorem ok_ContainsFunc_N {v fv : Value} {N : List RN} {w : World} (hs : RawS w v N) (p : RN → Bool) (hf : ∀ q ∈ N, ∀ w', Ext w w' → callV Tryz.prog fv [.agg #[.int .i64 q.1, .int .i64 q.2]] w' fun u w'' => u = .bool (p q) ∧ Ext w' w'') :
    Ret Tryz.prog f_slices_ContainsFunc_Simpl_Node_impl_Node #[v, fv] w (.bool (N.any p)) := by
  have hln := hs.len
  apply c_slices_ContainsFunc_Simpl_Node_impl_Node; unfold S_slices_ContainsFunc_Simpl_Node_impl_Node
  refine iRet (v := .int .i64 (match N.findIdx? p with | some i => (i : Int) | none => -1)) ?_ fun w1 x1 => iLe ⟨?_, x1⟩
  · apply c_slices_IndexFunc_Simpl_Node_impl_Node; unfold S_slices_IndexFunc_Simpl_Node_impl_Node
    refine iLenK hs ?_
    refine iLp (fun i : Nat => [.int .i64 (i : Int)]) (fun i w' => i ≤ N.length ∧ Ext w w' ∧ ∀ x ∈ N.take i, p x = false) (fun i => N.length - i) 0 rfl ⟨Nat.zero_le _, Ext.refl _, by simp⟩ ?_
    rintro i w2 Kn ⟨hi, h2, hno⟩ hKn
    intro _
    simp only [gx]
    refine iLt (iCndP (fun h => ?_) (fun h => ?_))
    · have hil : i < N.length := by omega
      have hat := cellsN_at hil
      refine iRdAgg6 (P := Tryz.prog) (ys := [.int .i64 N[i].1, .int .i64 N[i].2]) (hs.ext h2) (by omega) rfl (fun j hj => ?_) ?_
      · rcases j with _ | _ | j
        · exact hat.1
        · exact hat.2
        · omega
      refine (hf _ (List.getElem_mem hil) w2 h2).mono ?_
      rintro u w3 ⟨rfl, x3⟩
      cases hp : p N[i]
      · refine iCndF (by first | rfl | exact hp) ?_
        refine iAdd (by omega) ?_
        refine hKn (i + 1) _ ⟨by omega, h2.trans x3, ?_⟩ (by omega)
        rw [List.take_succ_eq_append_getElem hil]
        intro x hx
        rcases List.mem_append.1 hx with hx | hx
        · exact hno x hx
        · simp at hx; rw [hx]; exact hp
      · refine iCndT (by first | rfl | exact hp) ⟨?_, h2.trans x3⟩
        have : N.findIdx? p = some i := List.findIdx?_eq_some_iff_getElem.2 ⟨hil, hp, fun j hj => by
          have := hno (N[j]'(by omega)) (List.mem_take_iff_getElem.2 ⟨j, by omega, rfl⟩)
          simp [this]⟩
        rw [this]
    · refine ⟨?_, h2⟩
      rw [List.take_of_length_le (by omega)] at hno
      have : N.findIdx? p = none := List.findIdx?_eq_none_iff.2 hno
      rw [this]
  · cases h : N.findIdx? p with
    | none =>
      have := List.findIdx?_eq_none_iff.1 h
      have h2 : N.any p = false := List.any_eq_false.2 fun x hx => by simp [this x hx]
      simp [h2]
    | some i =>
      obtain ⟨hi, hp, _⟩ := List.findIdx?_eq_some_iff_getElem.1 h
      have h2 : N.any p = true := List.any_eq_true.2 ⟨N[i], List.getElem_mem _, hp⟩
      simp [h2]
theorem ok_impl_partEndN {v : Value} {N : List RN} {i : Nat} {w : World} (hs : RawS w v N) (hok : N.all okN = true) (hi : i ≤ N.length) (hn : N.length ≤ 1099511627776) : Ret Tryz.prog f_impl_partEnd #[v, .int .i64 (i : Int)] w (.int .i64 (endN N i)) := by
  apply c_impl_partEnd; unfold S_impl_partEnd
  refine iLp (fun s : Nat × Nat => [.int .i64 (s.1 : Int), .int .i64 (s.2 : Int)]) (fun s w' => Ext w w' ∧ s.1 ≤ N.length ∧ s.2 ≤ 1 + 2 * s.1 ∧ goN (N.drop s.1) s.2 = goN (N.drop i) 1) (fun s => N.length - s.1) (i, 1) rfl ⟨Ext.refl _, hi, by show 1 ≤ 1 + 2 * i; omega, rfl⟩ ?_
  rintro ⟨j, o⟩ w2 Kn ⟨x2, hj, ho, hg⟩ hKn
  have hj : j ≤ N.length := hj
  have ho : o ≤ 1 + 2 * j := ho
  have hg : goN (N.drop j) o = goN (N.drop i) 1 := hg
  intro _
  simp only [gx]
  refine iLt (iCndP (fun h3 => ?_) (fun h3 => ?_))
  · obtain ⟨o', rfl⟩ : ∃ o', o = o' + 1 := ⟨o - 1, by omega⟩
    refine iLenK (SlK.ext hs x2) ?_
    refine iLe (iCndP (fun h4 => ?_) (fun h4 => ?_))
    · obtain rfl : j = N.length := by omega
      rw [List.drop_length] at hg
      refine ⟨?_, x2⟩
      unfold endN
      rw [← hg]; rfl
    · have hj1 : j < N.length := by omega
      have hat := cellsN_at hj1
      obtain ⟨k, s, hq, hk6, _⟩ := okN_nat (List.all_eq_true.1 hok _ (List.getElem_mem hj1))
      refine iFld (f := 0) (SlK.ext hs x2) rfl hj1 (by decide) hat.1 ?_
      have e1 : N[j].1 = (k : Int) := by rw [hq]
      rw [e1]
      refine iRet (ok_impl_partsOf k w2) fun w3 x3 => ?_
      have hak : arity k ≤ 2 := by unfold arity; split; omega; split <;> omega
      refine iSub (by omega) (iAdd (by omega) (iAdd (by omega) ?_))
      rw [show ((o' + 1 : Nat) : Int) + ((arity k : Int) - 1) = ((o' + arity k : Nat) : Int) by omega]
      refine hKn (j + 1, o' + arity k) _ ⟨x2.trans x3, by show j + 1 ≤ N.length; omega, by show o' + arity k ≤ 1 + 2 * (j + 1); omega, ?_⟩ (by show N.length - (j + 1) < N.length - j; omega)
      show goN (N.drop (j + 1)) (o' + arity k) = _
      rw [← hg, goN_drop hj1, e1, arZ_nat]
  · obtain rfl : o = 0 := by omega
    rw [goN_zero] at hg
    refine ⟨?_, x2⟩
    unfold endN
    rw [← hg]
    show Value.int .i64 (j : Int) = .int .i64 ((N.length - (N.drop j).length : Nat) : Int)
    rw [List.length_drop, show N.length - (N.length - j) = j by omega]
/-- No node of a modality. -/
def modN (q : RN) : Bool := decide (q.1 = 5) || decide (q.1 = 6)
def plainN (N : List RN) : Bool := !N.any modN
theorem ok_impl_isFormulaN {v : Value} {N : List RN} {w : World} (hs : RawS w v N) (hn : N.length ≤ 1099511627776) : Ret Tryz.prog f_impl_isFormula #[v] w (.bool (isN N)) := by
  apply c_impl_isFormula; unfold S_impl_isFormula
  refine iJnB (isN N) w (fun J hJ => ?_) (fun w2 x2 => fun _ => ⟨rfl, x2⟩)
  refine iLenK hs ?_
  refine iLe (iCndP (fun h1 => ?_) (fun h1 => ?_))
  · refine iLenK hs ?_
    refine iLe (iCndP (fun h2 => ?_) (fun h2 => ?_))
    · refine iRet (ok_ContainsFunc_N hs (fun q => !okN q) fun q hq w' x' => ?_) fun w3 x3 => ?_
      · refine iRet (v := .bool (!okN q)) ?_ fun w5 x5 => ⟨rfl, x5⟩
        apply c_impl_isFormula_1; unfold S_impl_isFormula_1
        refine iNew fun p w1 _ x1 hB => ?_
        refine iLdA hB rfl ?_
        refine iRet (ok_impl_isNodeN q w1) fun w4 x4 => ?_
        exact iNot ⟨rfl, x1.trans x4⟩
      rw [show (N.any fun q => !okN q) = !N.all okN by rw [List.not_all_eq_any_not]]
      refine iNot ?_
      rw [Bool.not_not]
      unfold isN at hJ
      rw [decide_eq_true (by omega : N.length ≤ 40), Bool.true_and] at hJ
      cases hall : N.all okN
      · refine iCndF rfl ?_
        unfold treeN at hJ
        rw [hall, Bool.false_and] at hJ
        exact hJ _ x3
      · refine iCndT rfl ?_
        refine iRet (ok_impl_partEndN (i := 0) (SlK.ext hs x3) hall (Nat.zero_le _) hn) fun w4 x4 => ?_
        refine iLenK ((SlK.ext hs x3).ext x4) ?_
        refine iEq ?_
        rw [endN_tree hall (by omega)]
        exact hJ _ (x3.trans x4)
    · unfold isN at hJ
      rw [decide_eq_false (by omega : ¬ N.length ≤ 40), Bool.false_and] at hJ
      exact hJ _ (Ext.refl _)
  · have h0 : N = [] := List.length_eq_zero_iff.1 (by omega)
    subst h0
    exact hJ _ (Ext.refl _)
theorem ok_impl_isModalN (k : Int) (w : World) : Ret Tryz.prog f_impl_isModal #[.int .i64 k] w (.bool (decide (k = 5) || decide (k = 6))) := by
  apply c_impl_isModal; unfold S_impl_isModal
  refine iJnB (decide (k = 5) || decide (k = 6)) w (fun J hJ => ?_) (fun w2 x2 => fun _ => ⟨rfl, x2⟩)
  refine iEq (iCndP (fun h => ?_) (fun h => ?_))
  · rw [decide_eq_true h, Bool.true_or] at hJ
    exact hJ _ (Ext.refl _)
  · rw [decide_eq_false h, Bool.false_or] at hJ
    exact iEq (hJ _ (Ext.refl _))
theorem ok_impl_isPlainN {v : Value} {N : List RN} {w : World} (hs : RawS w v N) : Ret Tryz.prog f_impl_isPlain #[v] w (.bool (plainN N)) := by
  apply c_impl_isPlain; unfold S_impl_isPlain
  refine iRet (ok_ContainsFunc_N hs modN fun q hq w' x' => ?_) fun w3 x3 => iNot ⟨rfl, x3⟩
  refine iRet (v := .bool (modN q)) ?_ fun w5 x5 => ⟨rfl, x5⟩
  apply c_impl_isPlain_1; unfold S_impl_isPlain_1
  refine iNew fun p w1 _ x1 hB => ?_
  have hB : Blk _ w1 p [.int .i64 q.1, .int .i64 q.2] := hB
  refine iFa (iLdB hB (v := .int .i64 q.1) rfl ?_)
  exact iRet (ok_impl_isModalN _ w1) fun w4 x4 => ⟨rfl, x1.trans x4⟩
/-! ### Variables -/
end Go.Proofs.YtikfhibcdhdglaaGreat

/- Contracts: valuations; forcing in the reference; IsForcedAt; Shows in the program and the reference. Conditions: none. -/
namespace Go.Proofs.YtikfhibcdhdglaaGreat
open Go.Vc
/-! ### Formulas -/
theorem pl_good : ∀ {a : Fm}, Fm.pl a → a.good
  | .var _, h => h
  | .fls, _ => trivial
  | .and _ _, h => ⟨pl_good h.1, pl_good h.2⟩
  | .or _ _, h => ⟨pl_good h.1, pl_good h.2⟩
  | .imp _ _, h => ⟨pl_good h.1, pl_good h.2⟩
  | .box _, h => h.elim
  | .dia _, h => h.elim
theorem plainN_cons (q : RN) (N : List RN) : plainN (q :: N) = (!modN q && plainN N) := by simp [plainN]
theorem plainN_app (M N : List RN) : plainN (M ++ N) = (plainN M && plainN N) := by simp [plainN]
theorem pl_iff : ∀ {a : Fm}, Fm.pl a ↔ a.good ∧ plainN (rawF a) = true
  | .var v => by simp [Fm.pl, Fm.good, rawF, plainN, modN]
  | .fls => by simp [Fm.pl, Fm.good, rawF, plainN, modN]
  | .and a b => by
    have h1 := pl_iff (a := a)
    have h2 := pl_iff (a := b)
    simp only [Fm.pl, Fm.good, rawF, plainN_cons, plainN_app, h1, h2, Bool.and_eq_true]
    exact ⟨fun h => ⟨⟨h.1.1, h.2.1⟩, rfl, h.1.2, h.2.2⟩, fun h => ⟨⟨h.1.1, h.2.2.1⟩, h.1.2, h.2.2.2⟩⟩
  | .or a b => by
    have h1 := pl_iff (a := a)
    have h2 := pl_iff (a := b)
    simp only [Fm.pl, Fm.good, rawF, plainN_cons, plainN_app, h1, h2, Bool.and_eq_true]
    exact ⟨fun h => ⟨⟨h.1.1, h.2.1⟩, rfl, h.1.2, h.2.2⟩, fun h => ⟨⟨h.1.1, h.2.2.1⟩, h.1.2, h.2.2.2⟩⟩
  | .imp a b => by
    have h1 := pl_iff (a := a)
    have h2 := pl_iff (a := b)
    simp only [Fm.pl, Fm.good, rawF, plainN_cons, plainN_app, h1, h2, Bool.and_eq_true]
    exact ⟨fun h => ⟨⟨h.1.1, h.2.1⟩, rfl, h.1.2, h.2.2⟩, fun h => ⟨⟨h.1.1, h.2.2.1⟩, h.1.2, h.2.2.2⟩⟩
  | .box a => by simp [Fm.pl, rawF, plainN, modN]
  | .dia a => by simp [Fm.pl, rawF, plainN, modN]
theorem isN_raw {a : Fm} (h : a.good) (hs : a.size ≤ 40) : isN (rawF a) = true := isN_iff.2 ⟨a, h, hs, rfl⟩
/-! ### Jankov's formulas are plain -/
theorem orG_pl : ∀ (l : List Nat) (a : Fm), Fm.pl a → (∀ x ∈ l, x < 6) → Fm.pl (orG a l)
  | [], _, h, _ => h
  | y :: l, a, h, hl => orG_pl l (.or a (.var y)) ⟨h, hl y List.mem_cons_self⟩ fun x hx => hl x (List.mem_cons_of_mem _ hx)
theorem jnF_pl {q : Fr} (hq : q.ok) (h6 : q.n ≤ 6) {m : Nat} (hm : m < 2 ^ q.n) : Fm.pl (jnF q m) := by
  have hl : ∀ x ∈ minL q m, x < 6 := fun x hx => by
    have := bit_lt_n hm ((mem_minL (mask63 hq hm)).1 hx).1
    omega
  unfold jnF
  generalize minL q m = l at *
  cases l with
  | nil => trivial
  | cons x l => exact orG_pl l _ (hl x List.mem_cons_self) fun y hy => hl y (List.mem_cons_of_mem _ hy)
theorem prem_pl {q : Fr} (hq : q.ok) (hr : Rooted q) (h6 : q.n ≤ 6) {a : Fm} (ha : a ∈ premF q) : Fm.pl a ∧ a.size ≤ 40 := by
  have hr1 := hr.root.1
  rcases prem_cases ha with rfl | ⟨x, y, hx, hy, ha⟩ | ⟨x, u, hx, hu, ha⟩
  · exact ⟨show rootN q < 6 by omega, by simp [Fm.size]⟩
  · have hl := and_lt8 (y := y) hq (show x < q.n by omega)
    have h1 := jnF_pl hq h6 hl
    have h2 := jnF_size hq hl
    simp only [pairF, bothF, List.mem_cons, List.not_mem_nil, or_false] at ha
    have hx6 : x < 6 := by omega
    have hy6 : y < 6 := by omega
    rcases ha with rfl | rfl
    · exact ⟨⟨⟨hx6, hy6⟩, h1⟩, by simp only [Fm.size]; omega⟩
    · exact ⟨⟨h1, hx6, hy6⟩, by simp only [Fm.size]; omega⟩
  · have h1 := jnF_pl hq h6 (upsets_lt hu)
    have h2 := jnF_size hq (upsets_lt hu)
    have h3 := jnF_pl hq h6 (impM_lt q (q.a.getD x 0) u)
    have h4 := jnF_size hq (impM_lt q (q.a.getD x 0) u)
    simp only [upF, bothF, List.mem_cons, List.not_mem_nil, or_false] at ha
    have hx6 : x < 6 := by omega
    rcases ha with rfl | rfl
    · exact ⟨⟨⟨hx6, h1⟩, h3⟩, by simp only [Fm.size]; omega⟩
    · exact ⟨⟨h3, hx6, h1⟩, by simp only [Fm.size]; omega⟩
theorem conc_pl {q : Fr} (hq : q.ok) (h6 : q.n ≤ 6) : Fm.pl (concF q) ∧ (concF q).size ≤ 40 := ⟨jnF_pl hq h6 (conc_lt q), by have := jnF_size hq (conc_lt q); show (jnF q _).size ≤ 40; omega⟩

/-! ### Valuations -/
def upB (f : Fr) (x : Int) : Bool := maskB f.n x && decide (rowsK f.a x.toNat f.n = x.toNat)
def valB (n : Int) (l vs : List Int) : Bool := posetOk n l && (decide (vs.length = 6) && vs.all (upB (frOf n l)))
theorem upB_nat {f : Fr} {x : Int} (h : upB f x = true) : ∃ m : Nat, x = (m : Int) ∧ m ∈ upsets f := by
  unfold upB maskB at h
  rw [Bool.and_eq_true, decide_eq_true_eq, decide_eq_true_eq] at h
  obtain ⟨⟨h1, h2⟩, h3⟩ := h
  have := Nat.two_pow_pos f.n
  refine ⟨x.toNat, by omega, ?_⟩
  unfold upsets upK
  rw [List.mem_filter, List.mem_range, decide_eq_true_eq]
  exact ⟨by omega, h3⟩
theorem upB_of {f : Fr} {m : Nat} (h : m ∈ upsets f) : upB f (m : Int) = true := by
  have h1 := upsets_lt h
  unfold upsets upK at h
  rw [List.mem_filter, decide_eq_true_eq] at h
  unfold upB maskB
  rw [Bool.and_eq_true, decide_eq_true_eq, decide_eq_true_eq, Int.toNat_natCast]
  exact ⟨by omega, h.2⟩
theorem valB_nat {f : Fr} : ∀ {vs : List Int}, vs.all (upB f) = true → ∃ vals : List Nat, vs = nats vals ∧ ∀ x ∈ vals, x ∈ upsets f
  | [], _ => ⟨[], rfl, fun x hx => by cases hx⟩
  | v :: vs, h => by
    rw [List.all_cons, Bool.and_eq_true] at h
    obtain ⟨m, rfl, hm⟩ := upB_nat h.1
    obtain ⟨vals, rfl, hv⟩ := valB_nat h.2
    exact ⟨m :: vals, rfl, fun x hx => by rcases List.mem_cons.1 hx with rfl | hx; exact hm; exact hv x hx⟩
theorem valB_ok {n : Int} {l vs : List Int} (h : valB n l vs = true) : posetOk n l = true ∧ ∃ vals : List Nat, vs = nats vals ∧ vals.length = 6 ∧ ∀ x ∈ vals, x ∈ upsets (frOf n l) := by
  unfold valB at h
  rw [Bool.and_eq_true, Bool.and_eq_true, decide_eq_true_eq] at h
  obtain ⟨vals, rfl, hv⟩ := valB_nat h.2.2
  exact ⟨h.1, vals, rfl, by rw [← nats_length]; exact h.2.1, hv⟩
abbrev vV (vals : List Nat) : Nat → Nat := fun v => vals.getD v 0
theorem vV_ok {f : Fr} (hp : Po f) {vals : List Nat} (h : ∀ x ∈ vals, x ∈ upsets f) : ValOk f (vV vals) := fun v => by
  show vals.getD v 0 ∈ _
  rcases Nat.lt_or_ge v vals.length with h1 | h1
  · exact h _ (getD_mem h1)
  · rw [List.getD_eq_getElem?_getD, List.getElem?_eq_none h1]; exact zero_up hp
theorem ok_impl_isUpsetZ {f : Fr} (hf : f.ok) {v : Value} {w : World} (hs : SlN w v f.a) (x : Int) : Ret Tryz.prog f_impl_Poset_isUpset #[.agg #[.int .i64 (f.n : Int), v], .int .i64 x] w (.bool (upB f x)) := by
  by_cases h : maskB f.n x = true
  · have h' := h
    unfold maskB at h'
    rw [decide_eq_true_eq] at h'
    have := Nat.two_pow_pos f.n
    obtain ⟨m, rfl⟩ := Int.eq_ofNat_of_zero_le h'.1
    have := ok_impl_Poset_isUpset hf hs m (by omega)
    unfold upB
    rw [h, Bool.true_and, Int.toNat_natCast]
    exact this
  · have h := Bool.eq_false_iff.2 h
    have hf8 := hf.1
    unfold upB
    rw [h, Bool.false_and]
    apply c_impl_Poset_isUpset; unfold S_impl_Poset_isUpset
    refine iNew fun b w1 hb1 x1 hB => ?_
    have hB : Blk _ w1 b [.int .i64 (f.n : Int), v] := hB
    refine iJnB false w1 (fun J hJ => ?_) (fun w3 h3 => fun _ => ⟨rfl, x1.trans h3⟩)
    refine iFa (iLdB hB (i := 0) (v := .int .i64 (f.n : Int)) rfl ?_)
    refine iRet (ok_impl_isMask f.n x (by omega) w1) fun w4 x4 => ?_
    rw [h, Bool.and_false]
    exact iCndF rfl (hJ _ x4)
theorem ok_impl_isValuation {v vv : Value} {w : World} {n : Int} {l vs : List Int} (hs : SlI w v l) (hv : SlI w vv vs) : Ret Tryz.prog f_impl_isValuation #[.agg #[.int .i64 n, v], vv] w (.bool (valB n l vs)) := by
  apply c_impl_isValuation; unfold S_impl_isValuation
  refine iNew fun b w1 hb1 x1 hB => ?_
  have hB : Blk _ w1 b [.int .i64 n, v] := hB
  have hv1 := hv.ext x1
  refine iJnB (valB n l vs) w1 (fun J hJ => ?_) (fun w3 h3 => fun _ => ⟨rfl, x1.trans h3⟩)
  refine iLdA hB rfl ?_
  refine iRet (ok_impl_isPoset (hs.ext x1) n) fun w4 x4 => ?_
  unfold valB at hJ
  cases hp : posetOk n l
  · rw [hp, Bool.false_and] at hJ
    exact iCndF rfl (hJ _ x4)
  · rw [hp, Bool.true_and] at hJ
    obtain ⟨hP, hn0, hl0⟩ := posetOk_po hp
    refine iCndT rfl ?_
    refine iLenI hv1 ?_
    refine iEq (iCndP (fun h6 => ?_) (fun h6 => ?_))
    · rw [decide_eq_true (by omega), Bool.true_and] at hJ
      refine iRet (ok_slices_ContainsFunc_Si64_i64 (hv1.ext x4) (fun x => !upB (frOf n l) x) (fun w' x' x hx => iClo rfl ?_)) fun w5 x5 => ?_
      · refine c_impl_isValuation_1 ?_; unfold S_impl_isValuation_1
        refine iLdA ((hB.ext x4).ext x') rfl ?_
        have hsn : SlN w' v (frOf n l).a := by
          have := ((hs.ext x1).ext x4).ext x'
          unfold SlN
          rw [← hl0]; exact this
        have := ok_impl_isUpsetZ hP.ok hsn x
        rw [← hn0] at this
        exact iRet this fun w6 x6 => iNot ⟨rfl, x6⟩
      · refine iNot ?_
        rw [show (!vs.any fun x => !upB (frOf n l) x) = vs.all (upB (frOf n l)) by rw [List.not_any_eq_all_not]; simp]
        exact hJ _ (x4.trans x5)
    · rw [decide_eq_false (by omega), Bool.false_and] at hJ
      exact hJ _ x4
theorem ok_impl_IsValuation {v vv : Value} {w : World} {n : Int} {l vs : List Int} (hs : SlI w v l) (hv : SlI w vv vs) : Ret Tryz.prog f_impl_IsValuation #[.agg #[.int .i64 n, v], vv] w (.bool (valB n l vs)) := by
  apply c_impl_IsValuation; unfold S_impl_IsValuation
  refine iNew fun b w1 hb1 x1 hB => ?_
  refine iLdA hB rfl ?_
  exact iRet (ok_impl_isValuation (hs.ext x1) (hv.ext x1)) fun w2 x2 => ⟨rfl, x1.trans x2⟩
theorem ok_spec_l17Is {f : Fr} (hf : f.ok) {v vv : Value} {w : World} {vs : List Int} (hs : SlN w v f.a) (hv : SlI w vv vs) : Ret Tryz.prog f_spec_l17Is #[.agg #[.int .i64 (f.n : Int), v], vv] w (.bool (decide (vs.length = 6) && vs.all (upB f))) := by
  have hf8 := hf.1
  have hfl := hf.2.1
  have hln := hv.len
  apply c_spec_l17Is; unfold S_spec_l17Is
  refine iNew fun b w1 hb1 x1 hB => ?_
  have hB : Blk _ w1 b [.int .i64 (f.n : Int), v] := hB
  have hv1 := hv.ext x1
  refine iJnB (!(decide (vs.length = 6) && vs.all (maskB f.n))) w1 (fun J hJ => ?_) (fun w3 x3 => ?_)
  · refine iLenI hv1 ?_
    refine iNe (iCndP (fun h => ?_) (fun h => ?_))
    · rw [decide_eq_false (by omega), Bool.false_and] at hJ
      exact hJ _ (Ext.refl _)
    · rw [decide_eq_true (by omega), Bool.true_and] at hJ
      refine iFa (iLdB hB (i := 0) (v := .int .i64 (f.n : Int)) rfl ?_)
      exact iRet (ok_spec_l01Masks hv1 f.n (by omega)) fun w4 x4 => iNot (hJ _ x4)
  · intro _
    simp only [gx]
    cases hc : decide (vs.length = 6) && vs.all (maskB f.n)
    · refine iCndT rfl ⟨?_, x1.trans x3⟩
      congr 1
      symm
      rw [Bool.and_eq_false_iff] at hc ⊢
      refine hc.imp id fun h => ?_
      rw [List.all_eq_false] at h ⊢
      obtain ⟨x, hx, h⟩ := h
      refine ⟨x, hx, fun h' => h ?_⟩
      unfold upB at h'
      rw [Bool.and_eq_true] at h'
      exact h'.1
    · refine iCndF rfl ?_
      rw [Bool.and_eq_true] at hc
      have hall := List.all_eq_true.1 hc.2
      refine iLp (fun k : Nat => [.int .i64 (k : Int)]) (fun k w' => k ≤ vs.length ∧ Ext w3 w' ∧ (vs.take k).all (upB f) = true) (fun k => vs.length - k) 0 rfl ⟨Nat.zero_le _, Ext.refl _, by simp⟩ ?_
      rintro k w6 Kn ⟨hk, x6, hk2⟩ hKn
      have X6 := x1.trans (x3.trans x6)
      intro _
      simp only [gx]
      refine iLenI (hv.ext X6) ?_
      refine iLt (iCndP (fun h => ?_) (fun h => ?_))
      · have hk1 : k < vs.length := by omega
        have hm := hall _ (List.getElem_mem hk1)
        have hm' := hm
        unfold maskB at hm'
        rw [decide_eq_true_eq] at hm'
        obtain ⟨m, hmm⟩ := Int.eq_ofNat_of_zero_le hm'.1
        have h2n : 2 ^ f.n ≤ 2 ^ 8 := Nat.pow_le_pow_right (by omega) hf8
        have hpos := Nat.two_pow_pos f.n
        have hg : vs.getD (k : Int).toNat 0 = (m : Int) := by rw [Int.toNat_natCast, ← hmm]; simp [hk1]
        refine iFa (iLdB (hB.ext (x3.trans x6)) (i := 1) (v := v) rfl ?_)
        refine iIaI (hv.ext X6) (by omega) (by omega) fun p hp => iLd hp ?_
        rw [hg]
        refine iRetQ (fun w' x => ok_spec_l01Image ((hs.ext X6).ext x) (n := f.n) (by omega) hf.2.2 (by omega) m (by omega)) ?_
        rw [hfl]
        refine iIaI (hv.ext X6) (by omega) (by omega) fun p hp => iLd hp ?_
        rw [hg]
        refine iNe ?_
        intro w7 x7
        have hu : upB f vs[k] = decide (rowsK f.a m f.n = m) := by
          unfold upB
          rw [hm, Bool.true_and, hmm, Int.toNat_natCast]
        refine iCndP (fun h2 => ?_) (fun h2 => ?_)
        · refine ⟨?_, X6.trans x7⟩
          congr 1
          symm
          rw [Bool.and_eq_false_iff]
          refine .inr (List.all_eq_false.2 ⟨vs[k], List.getElem_mem hk1, ?_⟩)
          rw [hu, decide_eq_false (by omega)]; simp
        · refine iAdd (by omega) ?_
          refine hKn (k + 1) _ ⟨by omega, x6.trans x7, ?_⟩ (by omega)
          rw [List.take_succ_eq_append_getElem hk1, List.all_append, hk2]
          simp only [List.all_cons, List.all_nil, Bool.and_true, Bool.true_and]
          rw [hu, decide_eq_true (by omega)]
      · rw [List.take_of_length_le (by omega)] at hk2
        rw [hk2, hc.1]
        exact ⟨rfl, X6⟩
theorem ok_spec_IsValuation {v vv : Value} {w : World} {n : Int} {l vs : List Int} (hs : SlI w v l) (hv : SlI w vv vs) : Ret Tryz.prog f_spec_IsValuation #[.agg #[.int .i64 n, v], vv] w (.bool (valB n l vs)) := by
  apply c_spec_IsValuation; unfold S_spec_IsValuation
  refine iNew fun b w1 hb1 x1 hB => ?_
  have hB : Blk _ w1 b [.int .i64 n, v] := hB
  refine iJnB (valB n l vs) w1 (fun J hJ => ?_) (fun w3 h3 => fun _ => ⟨rfl, x1.trans h3⟩)
  refine iLdA hB rfl ?_
  refine iRet (ok_spec_l16Is (hs.ext x1) n) fun w4 x4 => ?_
  unfold valB at hJ
  cases hp : posetOk n l
  · rw [hp, Bool.false_and] at hJ
    exact iCndF rfl (hJ _ x4)
  · rw [hp, Bool.true_and] at hJ
    obtain ⟨hP, hn0, hl0⟩ := posetOk_po hp
    refine iCndT rfl (iLdA (hB.ext x4) rfl ?_)
    have hsn : SlN w4 v (frOf n l).a := by
      have := (hs.ext x1).ext x4
      unfold SlN
      rw [← hl0]; exact this
    have := ok_spec_l17Is hP.ok hsn ((hv.ext x1).ext x4)
    rw [← hn0] at this
    exact iRet this fun w5 x5 => hJ _ (x4.trans x5)
/-! ### Forcing in the reference -/
theorem ok_spec_l02LeftP {v : Value} {f g : Fm} {gs : List Fm} {w : World} (hs : FmS w v f) (hk : f.kids = g :: gs) (hn : f.size ≤ 1099511627776) : Cal Tryz.prog f_spec_l02Left #[v] w fun u w' => Ext w w' ∧ FmS w' u g := by
  apply c_spec_l02Left; unfold S_spec_l02Left
  have hsz := f.size_kids
  rw [hk] at hsz
  simp only [sizeL, List.map_cons, List.sum_cons] at hsz
  refine iRet (ok_spec_l02Part (i := 1) hs (drop_one hk) hn) fun w1 h1 => ?_
  refine iSlK (i := 1) (j := 1 + g.size) (hs.ext h1) (by omega) (by omega) fun u hu => ⟨h1, ?_⟩
  rw [drop_one hk, Nat.add_sub_cancel_left, ← g.cells_len, List.take_left] at hu
  exact hu
theorem ok_spec_l02RightP {v : Value} {f g h : Fm} {w : World} (hs : FmS w v f) (hk : f.kids = [g, h]) (hn : f.size ≤ 1099511627776) : Cal Tryz.prog f_spec_l02Right #[v] w fun u w' => Ext w w' ∧ FmS w' u h := by
  apply c_spec_l02Right; unfold S_spec_l02Right
  obtain ⟨hd, hsz⟩ := drop_two hk
  refine iRet (ok_spec_l02Part (i := 1) hs (drop_one hk) hn) fun w1 h1 => ?_
  refine iSlKFrom (i := 1 + g.size) (hs.ext h1) (by omega) fun u hu => ⟨h1, ?_⟩
  rw [hd, List.append_nil, hsz, Nat.add_sub_cancel_left] at hu
  exact hu
theorem ok_spec_l17Force {f : Fr} (hf : f.ok) {vals : List Nat} (h6 : vals.length = 6) (hlt : ∀ x ∈ vals, x < 2 ^ f.n) : ∀ (a : Fm) {va vv vn : Value} {w : World}, SlN w va f.a → SlN w vv vals → FmS w vn a → Fm.pl a → a.size ≤ 1000000 →
    Ret Tryz.prog f_spec_l17Force #[.agg #[.int .i64 (f.n : Int), va], vv, vn] w (.int .i64 ((frc f (vV vals) a : Nat) : Int)) := by
  have hV : ∀ v, vV vals v < 2 ^ f.n := fun v => by
    show vals.getD v 0 < _
    rcases Nat.lt_or_ge v vals.length with h | h
    · exact getD_lt hlt h
    · rw [List.getD_eq_getElem?_getD, List.getElem?_eq_none h]; exact Nat.two_pow_pos _
  have h63 : ∀ g, frc f (vV vals) g < 2 ^ 63 := fun g => Nat.lt_of_lt_of_le (frc_lt2 hV g) (Nat.pow_le_pow_right (by omega) (by have := hf.1; omega))
  intro a
  induction a with
  | var z =>
    intro va vv vn w hs hv ha hpl _
    have hz : z < 6 := hpl
    apply c_spec_l17Force; unfold S_spec_l17Force
    refine iNew fun b w1 hb1 x1 hB => ?_
    refine iFld (f := 0) (ha.ext x1) rfl (by simp [Fm.size]) (by decide) (kind_fst ha).1 ?_
    refine iEq (iCndT (by first | rfl | decide) ?_)
    refine iFld (f := 1) (ha.ext x1) rfl (by simp [Fm.size]) (by decide) (kind_fst ha).2 ?_
    refine iIaNN (j := z) (hv.ext x1) (by omega) fun p hp => iLd hp ⟨rfl, x1⟩
  | fls =>
    intro va vv vn w hs hv ha hpl _
    apply c_spec_l17Force; unfold S_spec_l17Force
    refine iNew fun b w1 hb1 x1 hB => ?_
    refine iFld (f := 0) (ha.ext x1) rfl (by simp [Fm.size]) (by decide) (kind_fst ha).1 ?_
    refine iEq (iCndF (by first | rfl | decide) ?_)
    exact iEq (iCndT (by first | rfl | decide) ⟨rfl, x1⟩)
  | and p q ihp ihq =>
    intro va vv vn w hs hv ha hpl hsz
    simp only [Fm.size] at hsz
    apply c_spec_l17Force; unfold S_spec_l17Force
    refine iNew fun b w1 hb1 x1 hB => ?_
    have hB : Blk _ w1 b [.int .i64 (f.n : Int), va] := hB
    refine iFld (f := 0) (ha.ext x1) rfl (by simp [Fm.size]; omega) (by decide) (kind_fst ha).1 ?_
    refine iEq (iCndF (by first | rfl | decide) ?_)
    refine iEq (iCndF (by first | rfl | decide) ?_)
    refine iEq (iCndT (by first | rfl | decide) ?_)
    refine iLdA hB rfl (iLdA hB rfl ?_)
    intro w2 x2
    refine iCall ((ok_spec_l02LeftP (gs := [q]) ((ha.ext x1).ext x2) rfl (by simp only [Fm.size]; omega)).mono ?_)
    rintro u w3 ⟨x3, hu⟩
    have X3 := (x1.trans x2).trans x3
    refine ⟨x3, ?_⟩
    refine iRetQ (fun w' x => ihp ((hs.ext X3).ext x) ((hv.ext X3).ext x) (hu.ext x) hpl.1 (by omega)) ?_
    intro w4 x4
    have X4 := X3.trans x4
    refine iCall ((ok_spec_l02RightP (ha.ext X4) rfl (by simp only [Fm.size]; omega)).mono ?_)
    rintro u5 w5 ⟨x5, hu5⟩
    refine ⟨x5, ?_⟩
    have X5 := X4.trans x5
    refine iRetQ (fun w' x => ihq ((hs.ext X5).ext x) ((hv.ext X5).ext x) (hu5.ext x) hpl.2 (by omega)) ?_
    refine iBAnd (h63 _) (h63 _) ?_
    exact fun w6 x6 => ⟨rfl, X5.trans x6⟩
  | or p q ihp ihq =>
    intro va vv vn w hs hv ha hpl hsz
    simp only [Fm.size] at hsz
    apply c_spec_l17Force; unfold S_spec_l17Force
    refine iNew fun b w1 hb1 x1 hB => ?_
    have hB : Blk _ w1 b [.int .i64 (f.n : Int), va] := hB
    refine iFld (f := 0) (ha.ext x1) rfl (by simp [Fm.size]; omega) (by decide) (kind_fst ha).1 ?_
    refine iEq (iCndF (by first | rfl | decide) ?_)
    refine iEq (iCndF (by first | rfl | decide) ?_)
    refine iEq (iCndF (by first | rfl | decide) ?_)
    refine iEq (iCndT (by first | rfl | decide) ?_)
    refine iLdA hB rfl (iLdA hB rfl ?_)
    intro w2 x2
    refine iCall ((ok_spec_l02LeftP (gs := [q]) ((ha.ext x1).ext x2) rfl (by simp only [Fm.size]; omega)).mono ?_)
    rintro u w3 ⟨x3, hu⟩
    have X3 := (x1.trans x2).trans x3
    refine ⟨x3, ?_⟩
    refine iRetQ (fun w' x => ihp ((hs.ext X3).ext x) ((hv.ext X3).ext x) (hu.ext x) hpl.1 (by omega)) ?_
    intro w4 x4
    have X4 := X3.trans x4
    refine iCall ((ok_spec_l02RightP (ha.ext X4) rfl (by simp only [Fm.size]; omega)).mono ?_)
    rintro u5 w5 ⟨x5, hu5⟩
    refine ⟨x5, ?_⟩
    have X5 := X4.trans x5
    refine iRetQ (fun w' x => ihq ((hs.ext X5).ext x) ((hv.ext X5).ext x) (hu5.ext x) hpl.2 (by omega)) ?_
    refine iBOr (h63 _) (h63 _) ?_
    exact fun w6 x6 => ⟨rfl, X5.trans x6⟩
  | imp p q ihp ihq =>
    intro va vv vn w hs hv ha hpl hsz
    simp only [Fm.size] at hsz
    apply c_spec_l17Force; unfold S_spec_l17Force
    refine iNew fun b w1 hb1 x1 hB => ?_
    have hB : Blk _ w1 b [.int .i64 (f.n : Int), va] := hB
    refine iFld (f := 0) (ha.ext x1) rfl (by simp [Fm.size]; omega) (by decide) (kind_fst ha).1 ?_
    refine iEq (iCndF (by first | rfl | decide) ?_)
    refine iEq (iCndF (by first | rfl | decide) ?_)
    refine iEq (iCndF (by first | rfl | decide) ?_)
    refine iEq (iCndF (by first | rfl | decide) ?_)
    refine iLdA hB rfl (iLdA hB rfl (iLdA hB rfl ?_))
    intro w2 x2
    refine iCall ((ok_spec_l02LeftP (gs := [q]) ((ha.ext x1).ext x2) rfl (by simp only [Fm.size]; omega)).mono ?_)
    rintro u w3 ⟨x3, hu⟩
    have X3 := (x1.trans x2).trans x3
    refine ⟨x3, ?_⟩
    refine iRetQ (fun w' x => ihp ((hs.ext X3).ext x) ((hv.ext X3).ext x) (hu.ext x) hpl.1 (by omega)) ?_
    intro w4 x4
    have X4 := X3.trans x4
    refine iCall ((ok_spec_l02RightP (ha.ext X4) rfl (by simp only [Fm.size]; omega)).mono ?_)
    rintro u5 w5 ⟨x5, hu5⟩
    refine ⟨x5, ?_⟩
    have X5 := X4.trans x5
    refine iRetQ (fun w' x => ihq ((hs.ext X5).ext x) ((hv.ext X5).ext x) (hu5.ext x) hpl.2 (by omega)) ?_
    refine iRetQ (fun w' x => ok_spec_l17Arrow hf ((hs.ext X5).ext x) _ _ (frc_lt2 hV p) (frc_lt2 hV q)) ?_
    exact fun w6 x6 => ⟨rfl, X5.trans x6⟩
  | box p _ => intro va vv vn w hs hv ha hpl _; exact hpl.elim
  | dia p _ => intro va vv vn w hs hv ha hpl _; exact hpl.elim
/-! ### IsForcedAt, where all is well -/
theorem ok_impl_IsForcedAt {f : Fr} (hp : Po f) {va vv vn : Value} {w : World} (hs : SlN w va f.a) {vals : List Nat} (hv : SlN w vv vals) (h6 : vals.length = 6) (hup : ∀ x ∈ vals, x ∈ upsets f) {a : Fm} (ha : FmS w vn a) (hpl : Fm.pl a) (hsz : a.size ≤ 40) {x : Nat} (hx : x < f.n) :
    Ret Tryz.prog f_impl_IsForcedAt #[.agg #[.int .i64 (f.n : Int), va], vv, .int .i64 (x : Int), vn] w (.tuple #[.bool ((frc f (vV vals) a).testBit x), .int .i64 0]) := by
  have hf8 := hp.ok.1
  have hvb : valB (f.n : Int) (nats f.a) (nats vals) = true := by
    unfold valB
    rw [posetOk_ofJ hp, frOf_natsJ, nats_length, decide_eq_true h6, Bool.true_and, Bool.true_and, List.all_eq_true]
    intro y hy
    obtain ⟨m, hm, rfl⟩ := List.mem_map.1 hy
    exact upB_of (hup m hm)
  apply c_impl_IsForcedAt; unfold S_impl_IsForcedAt
  refine iNew fun b w1 hb1 x1 hB => ?_
  have hB : Blk _ w1 b [.int .i64 (f.n : Int), va] := hB
  have hN := FmS.raw ha
  refine iJnB false w1 (fun J hJ => ?_) (fun w3 x3 => ?_)
  · refine iLdA hB rfl ?_
    refine iRet (ok_impl_isValuation (hs.ext x1) (hv.ext x1)) fun w4 x4 => iNot ?_
    rw [hvb]
    refine iCndF rfl ?_
    refine iRet (ok_impl_isFormulaN (SlK.ext (SlK.ext hN x1) x4) (by rw [rawF_len]; omega)) fun w5 x5 => iNot ?_
    rw [isN_raw (pl_good hpl) hsz]
    exact hJ _ (x4.trans x5)
  · intro _
    simp only [gx]
    refine iCndF rfl (iLdA (hB.ext x3) rfl ?_)
    refine iRet (ok_impl_hasElement _ _ (by omega) w3) fun w6 x6 => iNot ?_
    rw [decide_eq_true (by omega)]
    refine iCndF rfl ?_
    have X6 := (x1.trans x3).trans x6
    refine iRet (ok_impl_isPlainN (SlK.ext hN X6)) fun w7 x7 => iNot ?_
    rw [(pl_iff.1 hpl).2]
    refine iCndF rfl (iLdA ((hB.ext x3).ext (x6.trans x7)) rfl ?_)
    have X7 := X6.trans x7
    have hlt : ∀ y ∈ vals, y < 2 ^ f.n := fun y hy => upsets_lt (hup y hy)
    refine iRet (ok_impl_forced hp.ok (hs.ext X7) (hv.ext X7) h6 hlt (ha.ext X7) hpl (by omega)) fun w8 x8 => ?_
    have hfl := frc_lt hp (vV_ok hp hup) a
    have : frc f (vV vals) a < 2 ^ 63 := Nat.lt_of_lt_of_le hfl (Nat.pow_le_pow_right (by omega) (by omega))
    exact iRet (ok_impl_has _ x this (by omega) w8) fun w9 x9 => ⟨rfl, (X7.trans x8).trans x9⟩
end Go.Proofs.YtikfhibcdhdglaaGreat

/- Contracts: Shows in the program and the reference; ShowingValues. Conditions: none. -/
namespace Go.Proofs.YtikfhibcdhdglaaGreat
open Go.Vc
/-- Sets V show the poset q at x. -/
def showB (f : Fr) (V : Nat → Nat) (x : Nat) (q : Fr) : Bool := (premF q).all (fun a => (frc f V a).testBit x) && !(frc f V (concF q)).testBit x
def showRes (n : Int) (l vs : List Int) (x nq : Int) (lq : List Int) : Bool × Int :=
  if valB n l vs = true ∧ posetOk nq lq = true then (if 0 ≤ x ∧ x ≤ n - 1 then (if codeJ nq lq = 0 then (showB (frOf n l) (vV (vs.map Int.toNat)) x.toNat (frOf nq lq), 0) else (false, codeJ nq lq)) else (false, 2)) else (false, 1)
theorem map_toNat (l : List Nat) : (nats l).map Int.toNat = l := by simp [nats, Function.comp_def]
theorem premF_len {q : Fr} (hq : q.ok) : (premF q).length ≤ 6000 := by
  have h2 := pairsK_len hq.1 (x := q.n) (y := 0) hq.1 (by omega)
  have h3 := upsK_len hq (x := q.n) (k := 0) hq.1
  unfold premF
  rw [List.length_append, List.length_append, List.length_singleton]
  omega
theorem ok_impl_Shows {va vv vq : Value} {w : World} {n nq : Int} {l lq vs : List Int} (hs : SlI w va l) (hv : SlI w vv vs) (hq : SlI w vq lq) (x : Int) :
    Ret Tryz.prog f_impl_Shows #[.agg #[.int .i64 n, va], vv, .int .i64 x, .agg #[.int .i64 nq, vq]] w (.tuple #[.bool (showRes n l vs x nq lq).1, .int .i64 (showRes n l vs x nq lq).2]) := by
  apply c_impl_Shows; unfold S_impl_Shows
  refine iNew fun b4 w1 hb1 x1 hB4 => ?_
  refine iNew fun b7 w2 hb2 x2 hB7 => ?_
  have hB4 : Blk _ w2 b4 [.int .i64 n, va] := hB4.ext x2
  have hB7 : Blk _ w2 b7 [.int .i64 nq, vq] := hB7
  have X2 := x1.trans x2
  refine iJnB (!(valB n l vs && posetOk nq lq)) w2 (fun J hJ => ?_) (fun w4 x4 => ?_)
  · refine iLdA hB4 rfl ?_
    refine iRet (ok_impl_isValuation (hs.ext X2) (hv.ext X2)) fun w5 x5 => iNot ?_
    cases h1 : valB n l vs
    · rw [h1, Bool.false_and] at hJ
      exact iCndT rfl (hJ _ x5)
    · rw [h1, Bool.true_and] at hJ
      refine iCndF rfl (iLdA (hB7.ext x5) rfl ?_)
      exact iRet (ok_impl_isPoset ((hq.ext X2).ext x5) nq) fun w6 x6 => iNot (hJ _ (x5.trans x6))
  · intro _
    simp only [gx]
    have X4 := X2.trans x4
    unfold showRes
    cases h1 : valB n l vs && posetOk nq lq
    · have : ¬ (valB n l vs = true ∧ posetOk nq lq = true) := by rw [← Bool.and_eq_true, h1]; simp
      exact iCndT rfl ⟨by rw [if_neg this], X4⟩
    · rw [Bool.and_eq_true] at h1
      rw [if_pos h1]
      obtain ⟨hpo, vals, rfl, h6, hup⟩ := valB_ok h1.1
      obtain ⟨hP, hn0, hl0⟩ := posetOk_po hpo
      obtain ⟨hQ, hn1, hl1⟩ := posetOk_po h1.2
      have hP8 := hP.ok.1
      rw [map_toNat]
      refine iCndF rfl (iLdA (hB4.ext x4) rfl ?_)
      refine iRet (ok_impl_hasElement n x (by omega) w4) fun w7 x7 => iNot ?_
      by_cases hx : 0 ≤ x ∧ x ≤ n - 1
      · rw [decide_eq_true hx, if_pos hx]
        refine iCndF rfl (iLdA ((hB7.ext x4).ext x7) rfl ?_)
        have X7 := X4.trans x7
        refine iRet (ok_impl_jankovCodeZ (hq.ext X7)) fun w8 x8 => ?_
        refine iNe (iCndP (fun hc => ?_) (fun hc => ?_))
        · rw [if_neg hc]; exact ⟨rfl, X7.trans x8⟩
        · have hc : codeJ nq lq = 0 := Classical.not_not.1 hc
          rw [if_pos hc]
          obtain ⟨_, hr, h5⟩ := codeJ_zero hc
          have X8 := X7.trans x8
          have hPa : SlN w va (frOf n l).a := by unfold SlN; rw [← hl0]; exact hs
          have hQa : SlN w vq (frOf nq lq).a := by unfold SlN; rw [← hl1]; exact hq
          obtain ⟨z, rfl⟩ := Int.eq_ofNat_of_zero_le hx.1
          have hV := vV_ok hP hup
          have hlt : ∀ y ∈ vals, y < 2 ^ (frOf n l).n := fun y hy => upsets_lt (hup y hy)
          have h63 : ∀ a, frc (frOf n l) (vV vals) a < 2 ^ 63 := fun a => Nat.lt_of_lt_of_le (frc_lt hP hV a) (Nat.pow_le_pow_right (by omega) (by omega))
          have hz : z ≤ 8 := by omega
          have hfo : ∀ {w' : World} {u : Value} {a : Fm}, Ext w w' → FmS w' u a → Fm.pl a → a.size ≤ 40 → Ret Tryz.prog f_impl_Poset_forced #[.agg #[.int .i64 n, va], vv, u] w' (.int .i64 ((frc (frOf n l) (vV vals) a : Nat) : Int)) := fun x h1 h2 h3 => by
            have := ok_impl_forced hP.ok (hPa.ext x) (hv.ext x) h6 hlt h1 h2 (by omega)
            rw [← hn0] at this; exact this
          refine iLdA (((hB7.ext x4).ext x7).ext x8) rfl ?_
          have hpr := ok_impl_premises hQ.ok hr (hQa.ext X8)
          rw [← hn1] at hpr
          refine iCall (hpr.mono ?_)
          rintro u9 w9 ⟨x9, L, hR, hE, hL⟩
          have X9 := X8.trans x9
          have hLl : L.length = (premF (frOf nq lq)).length := by rw [← hL, List.length_map]
          have hLl6 := premF_len hQ.ok
          refine iLenS hR.sl ?_
          rw [List.length_map]
          refine iLp (fun k : Nat => [.int .i64 (k : Int)]) (fun k w' => k ≤ L.length ∧ Ext w9 w' ∧ ((premF (frOf nq lq)).take k).all (fun a => (frc (frOf n l) (vV vals) a).testBit z) = true) (fun k => L.length - k) 0 rfl ⟨Nat.zero_le _, Ext.refl _, by simp⟩ ?_
          rintro k w11 Kn ⟨hk, x11, hall⟩ hKn
          have X11 := X9.trans x11
          intro _
          simp only [gx]
          refine iLt (iCndP (fun h => ?_) (fun h => ?_))
          · have hk1 : k < L.length := by omega
            have hkp : k < (premF (frOf nq lq)).length := by omega
            refine iRdF (j := k) (Sl.ext hR.sl x11) rfl hk1 ?_
            have e2 : L[k].2 = (premF (frOf nq lq))[k] := by
              have h2 : (L.map Prod.snd)[k]'(by rw [List.length_map]; exact hk1) = (premF (frOf nq lq))[k] := by simp only [hL]
              rwa [List.getElem_map] at h2
            have hpp := prem_pl hQ.ok hr (by omega) (List.getElem_mem hkp)
            have hfm : FmS w11 L[k].1 (premF (frOf nq lq))[k] := by rw [← e2]; exact SlK.ext (hE.1 _ (List.getElem_mem hk1)).sl x11
            refine iLdA ((((hB4.ext x4).ext x7).ext x8).ext (x9.trans x11)) rfl ?_
            refine iRet (hfo X11 hfm hpp.1 hpp.2) fun w12 x12 => ?_
            refine iRet (ok_impl_has _ z (h63 _) (by omega) w12) fun w13 x13 => iNot ?_
            cases hb : (frc (frOf n l) (vV vals) (premF (frOf nq lq))[k]).testBit z
            · refine iCndT rfl ⟨?_, (X11.trans x12).trans x13⟩
              have : showB (frOf n l) (vV vals) z (frOf nq lq) = false := by
                unfold showB
                rw [Bool.and_eq_false_iff]
                exact .inl (List.all_eq_false.2 ⟨_, List.getElem_mem hkp, by show ¬ (frc _ _ _).testBit z = true; rw [hb]; simp⟩)
              show _ = Value.tuple #[.bool (showB (frOf n l) (vV vals) z (frOf nq lq)), .int .i64 0]
              rw [this]
            · refine iCndF rfl (iAdd (by omega) ?_)
              refine hKn (k + 1) _ ⟨by omega, (x11.trans x12).trans x13, ?_⟩ (by omega)
              rw [List.take_succ_eq_append_getElem hkp, List.all_append, hall]
              simp [hb]
          · rw [List.take_of_length_le (by omega)] at hall
            refine iLdA ((((hB4.ext x4).ext x7).ext x8).ext (x9.trans x11)) rfl ?_
            refine iLdA ((((hB7.ext x4).ext x7).ext x8).ext (x9.trans x11)) rfl ?_
            intro w14 x14
            have hco := ok_impl_conclusion hQ.ok hr ((hQa.ext X11).ext x14)
            rw [← hn1] at hco
            refine iCall (hco.mono ?_)
            rintro u15 w15 ⟨x15, hu⟩
            have hcp := conc_pl (q := frOf nq lq) hQ.ok (by omega)
            have X15 := (X11.trans x14).trans x15
            refine ⟨x15, ?_⟩
            refine iRetQ (fun w' x => hfo (X15.trans x) (SlK.ext hu.sl x) hcp.1 hcp.2) ?_
            refine iRetQ (fun w' x => ok_impl_has _ z (h63 _) (by omega) w') ?_
            refine iNot ?_
            intro w16 x16
            refine ⟨?_, X15.trans x16⟩
            have : showB (frOf n l) (vV vals) z (frOf nq lq) = !(frc (frOf n l) (vV vals) (concF (frOf nq lq))).testBit z := by
              unfold showB
              rw [show ((premF (frOf nq lq)).all fun a => (frc (frOf n l) (vV vals) a).testBit z) = true from hall, Bool.true_and]
            show _ = Value.tuple #[.bool (showB (frOf n l) (vV vals) z (frOf nq lq)), .int .i64 0]
            rw [this]
      · rw [decide_eq_false hx, if_neg hx]
        exact iCndT rfl ⟨rfl, X4.trans x7⟩
def shK (f : Fr) (V : Nat → Nat) (q : Fr) (k : Nat) : Nat := ((premF q).take k).foldl (fun m a => m &&& frc f V a) (sdiff (2 ^ f.n - 1) (frc f V (concF q)))
theorem shK_succ {f : Fr} {V : Nat → Nat} {q : Fr} {k : Nat} (h : k < (premF q).length) : shK f V q (k + 1) = shK f V q k &&& frc f V (premF q)[k] := by
  unfold shK
  rw [List.take_succ_eq_append_getElem h, List.foldl_append]; rfl
theorem foldl_and_bit (f : Fr) (V : Nat → Nat) (z : Nat) : ∀ (l : List Fm) (m : Nat), (l.foldl (fun m a => m &&& frc f V a) m).testBit z = (m.testBit z && l.all fun a => (frc f V a).testBit z)
  | [], m => by simp
  | a :: l, m => by rw [List.foldl_cons, foldl_and_bit f V z l, Nat.testBit_and, List.all_cons, Bool.and_assoc]
theorem foldl_and_lt (f : Fr) (V : Nat → Nat) {n : Nat} : ∀ (l : List Fm) (m : Nat), m < 2 ^ n → l.foldl (fun m a => m &&& frc f V a) m < 2 ^ n
  | [], _, h => h
  | _ :: l, _, h => foldl_and_lt f V l _ (Nat.lt_of_le_of_lt Nat.and_le_left h)
theorem shK_lt (f : Fr) (V : Nat → Nat) (q : Fr) (k : Nat) : shK f V q k < 2 ^ f.n := foldl_and_lt f V _ _ (sdiff_lt (by have := Nat.two_pow_pos f.n; omega))
theorem shK_bit (f : Fr) (V : Nat → Nat) (q : Fr) {z : Nat} (hz : z < f.n) : (shK f V q (premF q).length).testBit z = showB f V z q := by
  unfold shK showB
  rw [foldl_and_bit, List.take_length, testBit_sdiff, full_testBit, decide_eq_true hz, Bool.true_and, Bool.and_comm]
theorem ok_spec_l21Shows {f q : Fr} (hP : Po f) (hQ : Po q) (hr : Rooted q) (h5 : q.n ≤ 6) {va vv vq : Value} {w : World} {vals : List Nat} (hs : SlN w va f.a) (hv : SlN w vv vals) (hq : SlN w vq q.a) (h6 : vals.length = 6) (hup : ∀ x ∈ vals, x ∈ upsets f) :
    Ret Tryz.prog f_spec_l21Shows #[.agg #[.int .i64 (f.n : Int), va], vv, .agg #[.int .i64 (q.n : Int), vq]] w (.int .i64 ((shK f (vV vals) q (premF q).length : Nat) : Int)) := by
  have hP8 := hP.ok.1
  have hV := vV_ok hP hup
  have hlt : ∀ y ∈ vals, y < 2 ^ f.n := fun y hy => upsets_lt (hup y hy)
  have h2n : 2 ^ f.n ≤ 2 ^ 8 := Nat.pow_le_pow_right (by omega) hP8
  have hpos := Nat.two_pow_pos f.n
  have h63 : ∀ a, frc f (vV vals) a < 2 ^ 63 := fun a => Nat.lt_of_lt_of_le (frc_lt hP hV a) (by omega)
  apply c_spec_l21Shows; unfold S_spec_l21Shows
  refine iNew fun b3 w1 hb1 x1 hB3 => ?_
  refine iNew fun b5 w2 hb2 x2 hB5 => ?_
  have hB3 : Blk _ w2 b3 [.int .i64 (f.n : Int), va] := hB3.ext x2
  have hB5 : Blk _ w2 b5 [.int .i64 (q.n : Int), vq] := hB5
  have X2 := x1.trans x2
  refine iLdA hB5 rfl ?_
  refine iFa (iLdB hB3 (i := 0) (v := .int .i64 (f.n : Int)) rfl ?_)
  refine iLdA hB3 rfl (iLdA hB5 rfl ?_)
  intro w3 x3
  have X3 := X2.trans x3
  refine iCall ((ok_spec_premises hQ.ok hr (hq.ext X3)).mono ?_)
  rintro u4 w4 ⟨x4, L, hR, hE, hL⟩
  refine ⟨x4, ?_⟩
  refine iRetQ (fun w' _ => ok_spec_l01Full f.n (by omega) w') ?_
  intro w5 x5
  have X5 := (X3.trans x4).trans x5
  refine iCall ((ok_spec_conclusion hQ.ok hr (hq.ext X5)).mono ?_)
  rintro u6 w6 ⟨x6, hu⟩
  refine ⟨x6, ?_⟩
  have hcp := conc_pl (q := q) hQ.ok h5
  have X6 := X5.trans x6
  refine iRetQ (fun w' x => ok_spec_l17Force hP.ok h6 hlt _ (hs.ext (X6.trans x)) (hv.ext (X6.trans x)) (SlK.ext hu.sl x) hcp.1 (by omega)) ?_
  refine iBAndNot (by omega) (h63 _) ?_
  intro w7 x7
  have X7 := X6.trans x7
  have hLl : L.length = (premF q).length := by rw [← hL, List.length_map]
  have hLl6 := premF_len hQ.ok
  refine iLp (fun k : Nat => [.int .i64 ((shK f (vV vals) q k : Nat) : Int), .int .i64 (k : Int)]) (fun k w' => k ≤ L.length ∧ Ext w7 w') (fun k => L.length - k) 0 rfl ⟨Nat.zero_le _, Ext.refl _⟩ ?_
  rintro k w9 Kn ⟨hk, x9⟩ hKn
  have X9 := X7.trans x9
  have hR9 := Sl.ext hR.sl (((x5.trans x6).trans x7).trans x9)
  intro _
  simp only [gx]
  refine iLenS hR9 ?_
  rw [List.length_map]
  refine iLt (iCndP (fun h => ?_) (fun h => ?_))
  · have hk1 : k < L.length := by omega
    have hkp : k < (premF q).length := by omega
    refine iLdA (hB3.ext ((((x3.trans x4).trans x5).trans x6).trans (x7.trans x9))) rfl ?_
    refine iRdF (j := k) hR9 rfl hk1 ?_
    have e2 : L[k].2 = (premF q)[k] := by
      have h2 : (L.map Prod.snd)[k]'(by rw [List.length_map]; exact hk1) = (premF q)[k] := by simp only [hL]
      rwa [List.getElem_map] at h2
    have hpp := prem_pl hQ.ok hr h5 (List.getElem_mem hkp)
    have hfm : FmS w9 L[k].1 (premF q)[k] := by rw [← e2]; exact SlK.ext (hE.1 _ (List.getElem_mem hk1)).sl (((x5.trans x6).trans x7).trans x9)
    refine iRetQ (fun w' x => ok_spec_l17Force hP.ok h6 hlt _ (hs.ext (X9.trans x)) (hv.ext (X9.trans x)) (SlK.ext hfm x) hpp.1 (by omega)) ?_
    have h1 := shK_lt f (vV vals) q k
    refine iBAnd (by omega) (h63 _) ?_
    rw [← shK_succ hkp]
    intro w10 x10
    refine iAdd (by omega) ?_
    exact hKn (k + 1) _ ⟨by omega, x9.trans x10⟩ (by omega)
  · obtain rfl : k = (premF q).length := by omega
    exact ⟨rfl, X9⟩
theorem ok_spec_Shows {va vv vq : Value} {w : World} {n nq : Int} {l lq vs : List Int} (hs : SlI w va l) (hv : SlI w vv vs) (hq : SlI w vq lq) (x : Int) :
    Ret Tryz.prog f_spec_Shows #[.agg #[.int .i64 n, va], vv, .int .i64 x, .agg #[.int .i64 nq, vq]] w (.tuple #[.bool (showRes n l vs x nq lq).1, .int .i64 (showRes n l vs x nq lq).2]) := by
  apply c_spec_Shows; unfold S_spec_Shows
  refine iNew fun b4 w1 hb1 x1 hB4 => ?_
  refine iNew fun b7 w2 hb2 x2 hB7 => ?_
  have hB4 : Blk _ w2 b4 [.int .i64 n, va] := hB4.ext x2
  have hB7 : Blk _ w2 b7 [.int .i64 nq, vq] := hB7
  have X2 := x1.trans x2
  refine iJnB (!(valB n l vs && posetOk nq lq)) w2 (fun J hJ => ?_) (fun w4 x4 => ?_)
  · refine iLdA hB4 rfl ?_
    refine iRet (ok_spec_IsValuation (hs.ext X2) (hv.ext X2)) fun w5 x5 => iNot ?_
    cases h1 : valB n l vs
    · rw [h1, Bool.false_and] at hJ
      exact iCndT rfl (hJ _ x5)
    · rw [h1, Bool.true_and] at hJ
      refine iCndF rfl (iLdA (hB7.ext x5) rfl ?_)
      exact iRet (ok_spec_l16Is ((hq.ext X2).ext x5) nq) fun w6 x6 => iNot (hJ _ (x5.trans x6))
  · intro _
    simp only [gx]
    have X4 := X2.trans x4
    unfold showRes
    cases h1 : valB n l vs && posetOk nq lq
    · have : ¬ (valB n l vs = true ∧ posetOk nq lq = true) := by rw [← Bool.and_eq_true, h1]; simp
      exact iCndT rfl ⟨by rw [if_neg this], X4⟩
    · rw [Bool.and_eq_true] at h1
      rw [if_pos h1]
      obtain ⟨hpo, vals, rfl, h6, hup⟩ := valB_ok h1.1
      obtain ⟨hP, hn0, hl0⟩ := posetOk_po hpo
      obtain ⟨hQ, hn1, hl1⟩ := posetOk_po h1.2
      have hP8 := hP.ok.1
      rw [map_toNat]
      refine iCndF rfl ?_
      refine iFa (iLdB (hB4.ext x4) (i := 0) (v := .int .i64 n) rfl ?_)
      refine iSub (by omega) ?_
      refine iRet (ok_spec_l01In x 0 (n - 1) w4) fun w7 x7 => iNot ?_
      by_cases hx : 0 ≤ x ∧ x ≤ n - 1
      · rw [decide_eq_true hx, if_pos hx]
        refine iCndF rfl (iLdA ((hB7.ext x4).ext x7) rfl ?_)
        have X7 := X4.trans x7
        refine iRet (ok_spec_l21CodeZ (hq.ext X7)) fun w8 x8 => ?_
        refine iNe (iCndP (fun hc => ?_) (fun hc => ?_))
        · rw [if_neg hc]; exact ⟨rfl, X7.trans x8⟩
        · have hc : codeJ nq lq = 0 := Classical.not_not.1 hc
          rw [if_pos hc]
          obtain ⟨_, hr, h5⟩ := codeJ_zero hc
          have X8 := X7.trans x8
          have hPa : SlN w va (frOf n l).a := by unfold SlN; rw [← hl0]; exact hs
          have hQa : SlN w vq (frOf nq lq).a := by unfold SlN; rw [← hl1]; exact hq
          obtain ⟨z, rfl⟩ := Int.eq_ofNat_of_zero_le hx.1
          have hz : z < (frOf n l).n := by omega
          refine iLdA (((hB4.ext x4).ext x7).ext x8) rfl (iLdA (((hB7.ext x4).ext x7).ext x8) rfl ?_)
          have hsh := ok_spec_l21Shows hP hQ hr (by omega) (hPa.ext X8) (hv.ext X8) (hQa.ext X8) h6 hup
          rw [← hn0, ← hn1] at hsh
          refine iRet hsh fun w9 x9 => ?_
          have h1 := shK_lt (frOf n l) (vV vals) (frOf nq lq) (premF (frOf nq lq)).length
          have h2n : 2 ^ (frOf n l).n ≤ 2 ^ 8 := Nat.pow_le_pow_right (by omega) hP8
          refine iRet (ok_spec_l01Bit _ z (by omega) (by omega) w9) fun w10 x10 => ⟨?_, (X8.trans x9).trans x10⟩
          rw [shK_bit _ _ _ hz]; rfl
      · rw [decide_eq_false hx, if_neg hx]
        exact iCndT rfl ⟨rfl, X4.trans x7⟩
/-! ### ShowingValues, where there is a part -/
/-- The sets that a map from the part m of f to q makes. -/
def madeL (q : Fr) (F : List Nat) (m : Nat) : List Nat := (List.range 6).map fun x => if x < q.n then spr (pullN F (q.a.getD x 0)) m else 0
theorem madeL_len (q : Fr) (F : List Nat) (m : Nat) : (madeL q F m).length = 6 := by simp [madeL]
def madeK (q : Fr) (F : List Nat) (m k : Nat) : List Nat := (List.range 6).map fun x => if x < k then spr (pullN F (q.a.getD x 0)) m else 0
theorem madeK_set {q : Fr} {F : List Nat} {m k : Nat} : (madeK q F m k).set k (spr (pullN F (q.a.getD k 0)) m) = madeK q F m (k + 1) := by
  apply List.ext_getElem
  · simp [madeK]
  · intro i h1 h2
    simp only [madeK, List.length_set, List.length_map, List.length_range] at h1
    simp only [madeK, List.getElem_set, List.getElem_map, List.getElem_range]
    by_cases e : k = i
    · subst e; simp
    · rw [if_neg e]
      by_cases h : i < k
      · rw [if_pos h, if_pos (by omega)]
      · rw [if_neg h, if_neg (by omega)]
theorem spr_lt {m on n : Nat} (hon : on < 2 ^ n) (hn : n ≤ 60) : spr m on < 2 ^ n := setOf_lt fun y hy => by
  obtain ⟨i, hi, rfl⟩ := List.mem_map.1 hy
  have h63 : on < 2 ^ 63 := Nat.lt_of_lt_of_le hon (Nat.pow_le_pow_right (by omega) (by omega))
  exact bit_lt_n hon ((mem_mem h63).1 (getD_mem (List.mem_range.1 (List.mem_filter.1 hi).1)))
theorem ok_impl_ShowingValues {f q : Fr} (hP : Po f) (hQ : Po q) (h5 : q.n ≤ 6) {va vq vF : Value} {w : World} (hs : SlN w va f.a) (hq : SlN w vq q.a) {m : Nat} (hm : m ∈ upsets f) {F : List Nat} (hF : SlN w vF F) (hl : F.length = (mem m).length) (hy : ∀ y ∈ F, y < q.n)
    (hmo : ∀ i, i < (mem m).length → img F ((partFr f m).a.getD i 0) = q.a.getD (F.getD i 0) 0) :
    Cal Tryz.prog f_impl_ShowingValues #[.agg #[.int .i64 (f.n : Int), va], .int .i64 (m : Int), vF, .agg #[.int .i64 (q.n : Int), vq]] w fun r w' => Ext w w' ∧ ∃ v, r = .tuple #[v, .int .i64 0] ∧ SlN w' v (madeL q F m) := by
  have hP8 := hP.ok.1
  have hQ8 := hQ.ok.1
  have hm2 := upsets_lt hm
  have h2n : 2 ^ f.n ≤ 2 ^ 8 := Nat.pow_le_pow_right (by omega) hP8
  have hF62 : F.length ≤ 60 := by have := mem_len hP.ok hm2; omega
  apply c_impl_ShowingValues; unfold S_impl_ShowingValues
  refine iNew fun b4 w1 hb1 x1 hB4 => ?_
  refine iNew fun b7 w2 hb2 x2 hB7 => ?_
  have hB4 : Blk _ w2 b4 [.int .i64 (f.n : Int), va] := hB4.ext x2
  have hB7 : Blk 26 w2 b7 [.int .i64 (q.n : Int), vq] := hB7
  have X2 := x1.trans x2
  refine iJnB false w2 (fun J hJ => ?_) (fun w4 x4 => ?_)
  · refine iLdA hB4 rfl ?_
    refine iRet (ok_impl_isPoset (hs.ext X2) _) fun w5 x5 => iNot ?_
    rw [posetOk_ofJ hP]
    refine iCndF rfl (iLdA (hB7.ext x5) rfl ?_)
    refine iRet (ok_impl_isPoset ((hq.ext X2).ext x5) _) fun w6 x6 => iNot ?_
    rw [posetOk_ofJ hQ]
    exact hJ _ (x5.trans x6)
  intro _
  simp only [gx]
  have X4 := X2.trans x4
  refine iCndF rfl ?_
  refine iFa (iLdB (hB4.ext x4) (i := 0) (v := .int .i64 (f.n : Int)) rfl ?_)
  refine iRet (ok_impl_isMask f.n m (by omega) w4) fun w7 x7 => iNot ?_
  have hmb : (decide (f.n ≤ 30) && maskB f.n (m : Int)) = true := by
    unfold maskB
    rw [Bool.and_eq_true, decide_eq_true_eq, decide_eq_true_eq]; omega
  rw [hmb]
  refine iCndF rfl ?_
  have X7 := X4.trans x7
  refine iJnB false w7 (fun J hJ => ?_) (fun w9 x9 => ?_)
  · refine iLdA ((hB4.ext x4).ext x7) rfl ?_
    refine iRetQ (fun w' x => ok_impl_isUpsetZ hP.ok ((hs.ext X7).ext x) (m : Int)) ?_
    refine iNot ?_
    rw [upB_of hm]
    refine iCndF rfl ?_
    refine iLdA ((hB4.ext x4).ext x7) rfl (iLdA ((hB7.ext x4).ext x7) rfl ?_)
    intro w12 x12
    have X12 := X7.trans x12
    refine iCall ((ok_impl_Poset_on hP.ok (hs.ext X12) m hm2).mono ?_)
    rintro r13 w13 ⟨x13, v13, rfl, ho13⟩
    refine ⟨x13, ?_⟩
    have X13 := X12.trans x13
    refine iRetQ (fun w' x => ok_impl_isPosetMorphism_good (part_ok hP.ok hm2) hQ.ok (Sl.ext ho13.sl x) ((hq.ext X13).ext x) ((hF.ext X13).ext x) hl hy hmo) ?_
    refine iNot ?_
    exact fun w14 x14 => hJ _ ((x12.trans x13).trans x14)
  intro _
  simp only [gx]
  refine iCndF rfl ?_
  have X9 := X7.trans x9
  refine iFa (iLdB (((hB7.ext x4).ext x7).ext x9) (i := 0) (v := .int .i64 (q.n : Int)) rfl ?_)
  refine iLt (iCndF (decide_eq_false (by omega)) ?_)
  refine iMk (k := .i64) (n := 6) (by decide) (by decide) rfl fun b15 w15 hb15 x15 hB15 => ?_
  have ho15 : Ow w9.heap.size t_i64 w15 (.slice (some ⟨b15, 0, none⟩) 6 6) (List.replicate 6 (.int .i64 0)) := Ow.ofBlk hB15 (by omega) (by simp) (by decide)
  obtain ⟨v15, hv15⟩ : ∃ v, v = Value.slice (some ⟨b15, 0, none⟩) 6 6 := ⟨_, rfl⟩
  rw [← hv15] at ho15 ⊢
  have X15 := X9.trans x15
  refine iFa (iLdB ((((hB7.ext x4).ext x7).ext x9).ext x15) (i := 1) (v := vq) rfl ?_)
  refine iLenN (hq.ext X15) ?_
  rw [hQ.ok.2.1]
  refine iLp (fun k : Nat => [.int .i64 (k : Int)]) (fun k w' => k ≤ q.n ∧ Ext w9 w' ∧ Ow w9.heap.size t_i64 w' v15 (ints (nats (madeK q F m k)))) (fun k => q.n - k) 0 rfl ⟨Nat.zero_le _, x15, by
    have : madeK q F m 0 = List.replicate 6 0 := rfl
    rw [this]; exact ho15⟩ ?_
  rintro k w17 Kn ⟨hk, x17, ho⟩ hKn
  have X17 := X9.trans x17
  intro _
  simp only [gx]
  refine iLt (iCndP (fun h => ?_) (fun h => ?_))
  · have hk1 : k < q.n := by omega
    refine iIaNN (hq.ext X17) (by rw [hQ.ok.2.1]; exact hk1) fun p hp => iLd hp ?_
    have hqk := hQ.ok.lt hk1
    have h2q : 2 ^ q.n ≤ 2 ^ 8 := Nat.pow_le_pow_right (by omega) hQ8
    refine iRet (ok_impl_pull (hF.ext X17) hF62 (fun y h => by have := hy y h; omega) _ (by omega)) fun w18 x18 => ?_
    have hpl := pullK_lt F (q.a.getD k 0) F.length
    have h260 : 2 ^ F.length ≤ 2 ^ 60 := Nat.pow_le_pow_right (by omega) hF62
    refine iRet (ok_impl_spread _ m (by show pullK F _ F.length < _; omega) (by omega) w18) fun w19 x19 => ?_
    have ho19 := (ho.ext x18).ext x19
    refine iIaOwE ho19 (j := k) (by simp [ints, nats, madeK]; omega) fun b hb hw => ?_
    obtain ⟨h1, h2, h3⟩ := hw w19 _ rfl ho19
    have hlen : (ints (nats (madeK q F m k))).length = 6 := by simp [ints, nats, madeK]
    refine iSt (by rw [h1, List.getElem?_eq_getElem (by omega)]) h2 rfl ?_
    refine iAdd (by omega) ?_
    refine hKn (k + 1) _ ⟨by omega, ext_set ((x17.trans x18).trans x19) (ho19.blk b hb).1 _, ?_⟩ (by omega)
    have h4 := h3 (.int .i64 ((spr (pullN F (q.a.getD k 0)) m : Nat) : Int))
    have e : (ints (nats (madeK q F m k))).set k (.int .i64 ((spr (pullN F (q.a.getD k 0)) m : Nat) : Int)) = ints (nats (madeK q F m (k + 1))) := by
      rw [← madeK_set]
      simp [ints, nats, List.map_set]
    rw [e] at h4
    exact h4
  · obtain rfl : k = q.n := by omega
    exact ⟨X17, v15, rfl, ho.sl⟩
end Go.Proofs.YtikfhibcdhdglaaGreat

/- Contracts: drawn posets with valuations (l17Draw, DrawShows). Conditions: none. -/
namespace Go.Vc
theorem iBs4E {w : World} {e : TypeId} {a b c d : Int} {K : Value → World → Prop} (h : ∀ bb w', bb = w.heap.size ∧ w'.heap.size = bb + 1 → Ext w w' → Blk e w' bb (ints [a, b, c, d]) → K (.slice (some ⟨bb, 0, none⟩) 4 4) w') :
    xBs e (Value.cells (.int .i64 0)) 1 4 [(0, .int .i64 a), (1, .int .i64 b), (2, .int .i64 c), (3, .int .i64 d)] w K := by
  refine ⟨#[.int .i64 a, .int .i64 b, .int .i64 c, .int .i64 d], ?_, h _ _ ⟨rfl, by simp⟩ (Ext.alloc w _) (Blk.new w #[.int .i64 a, .int .i64 b, .int .i64 c, .int .i64 d] e)⟩
  simp [Instr.fill, Value.cells, show Array.range 4 = #[0, 1, 2, 3] from rfl]
theorem Ow.srcD {e e' : TypeId} {lo : Nat} {w0 w w' : World} {vc v : Value} {b : Nat} {xs : List Value} (h : Ow lo e' w v xs) (hS : Src e w0 vc b w) (hne : e' ≠ e) (k : Ch (fun c => c = b) w w') : Ow lo e' w' v xs :=
  h.ch k fun c hc h' => hS.neOw h hne (by rw [hc, h'])
/-- A part of a row of numbers, in a block of that type. -/
def RdB (lo : Nat) (e : TypeId) (w : World) (v : Value) (L : List Int) : Prop := ∃ bb o c cs, v = .slice (some ⟨bb, o, none⟩) L.length c ∧ L.length ≤ c ∧ c ≤ 9223372036854775807 ∧ Blk e w bb cs ∧ lo ≤ bb ∧ ∀ i, i < L.length → cs[o + i]? = (ints L)[i]?
theorem RdB.sl {lo : Nat} {e : TypeId} {w : World} {v : Value} {L : List Int} (h : RdB lo e w v L) : SlI w v L := by
  obtain ⟨bb, o, c, cs, rfl, h1, h2, hB, _, h3⟩ := h
  refine ⟨some ⟨bb, o, none⟩, c, by rw [ints_length], by rw [ints_length]; exact h1, h2, .inr ⟨bb, o, rfl, fun i hi => ?_⟩⟩
  rw [hB.cell, h3 i (by rw [ints_length] at hi; exact hi)]
theorem RdB.ch {lo : Nat} {e : TypeId} {S : Nat → Prop} {w w' : World} {v : Value} {L : List Int} (h : RdB lo e w v L) (k : Ch S w w') (hS : ∀ c cs, Blk e w c cs → lo ≤ c → ¬ S c) : RdB lo e w' v L := by
  obtain ⟨bb, o, c, cs, hv, h1, h2, hB, hl, h3⟩ := h
  exact ⟨bb, o, c, cs, hv, h1, h2, hB.ch k (hS _ _ hB hl), hl, h3⟩
theorem RdB.ext {lo : Nat} {e : TypeId} {w w' : World} {v : Value} {L : List Int} (h : RdB lo e w v L) (k : Ext w w') : RdB lo e w' v L := h.ch (S := fun _ => False) k.ch fun _ _ _ _ => id
theorem RdB.mono {lo lo' : Nat} {e : TypeId} {w : World} {v : Value} {L : List Int} (h : RdB lo e w v L) (hl : lo' ≤ lo) : RdB lo' e w v L := by
  obtain ⟨bb, o, c, cs, hv, h1, h2, hB, hb, h3⟩ := h
  exact ⟨bb, o, c, cs, hv, h1, h2, hB, Nat.le_trans hl hb, h3⟩
theorem Ow.rdB {lo : Nat} {e : TypeId} {w : World} {v : Value} {L : List Int} (h : Ow lo e w v (ints L)) (h0 : 0 < L.length) {k : Nat} (hk : k ≤ L.length) : ∃ g cap, v = .slice (some ⟨g, 0, none⟩) L.length cap ∧ L.length ≤ cap ∧ RdB lo e w (.slice (some ⟨g, k, none⟩) (L.length - k) (cap - k)) (L.drop k) := by
  obtain ⟨hl, hc | ⟨g, cap, cur, hv, hg, hh, h2, h3, h4, h5⟩⟩ := h
  · rw [ints_length] at hc; omega
  · rw [ints_length] at *
    refine ⟨g, cap, hv, h2, ⟨g, k, cap - k, cur.toList, by rw [List.length_drop], by rw [List.length_drop]; omega, by simp only [maxLen] at h3; omega, ?_, hg, fun i hi => ?_⟩⟩
    · unfold Blk; rw [hh]
    · rw [List.length_drop] at hi
      have h6 : (cur.toList.take (L.length * 1))[k + i]? = (ints L)[k + i]? := by rw [h5]
      rw [List.getElem?_take, if_pos (by omega)] at h6
      rw [h6]
      simp [ints]
end Go.Vc
namespace Go.Proofs.YtikfhibcdhdglaaGreat
open Go.Vc
theorem ok_spec_l17Some {e : TypeId} (hne : t_i64 ≠ e) {w0 : World} {vc : Value} {bs : List Nat} (hc : SlB w0 vc bs) {b : Nat} {w : World} (hS : Src e w0 vc b w) {f : Fr} (hP : Po f) {v : Value} (hs : Ow w0.heap.size t_i64 w v (ints (nats f.a))) :
    Drw Tryz.prog f_spec_l17Some #[.pointer (some ⟨b, 0, none⟩), .agg #[.int .i64 (f.n : Int), v]] e w0 vc b w fun r w' => ∃ L : List Int, L.length = 6 ∧ Ow w.heap.size t_i64 w' r (ints L) := by
  apply c_spec_l17Some; unfold S_spec_l17Some
  refine iNew fun b3 w1 hb3 x1 hB3 => ?_
  refine iLdA hB3 rfl ?_
  refine iCall ((ok_spec_l16Upsets hP.ok (hs.ext x1).sl).mono ?_)
  rintro u w2 ⟨x2, hu⟩
  have hS2 := hS.later (x1.trans x2)
  refine iBs0 fun u0 w3 _ x3 ho3 => ?_
  have X2 := (x1.trans x2).size
  have hup : 0 < (upsets f).length := List.length_pos_of_mem (zero_up hP)
  have hul := upsets_len hP.ok
  refine iLp (fun s : Value × List Int => [s.1, .int .i64 (s.2.length : Int)]) (fun s w' => s.2.length ≤ 6 ∧ Src e w0 vc b w' ∧ Ch (fun c => c = b) w2 w' ∧ Ow w1.heap.size t_i64 w' u (ints (nats (upsets f))) ∧ Ow w2.heap.size t_i64 w' s.1 (ints s.2)) (fun s => 6 - s.2.length) (u0, []) rfl
    ⟨by simp, hS2.later x3, x3.ch, hu.ext x3, ho3⟩ ?_
  rintro ⟨r, L⟩ w5 Kn ⟨hL, hS5, hC5, hu5, ho5⟩ hKn
  have hL : L.length ≤ 6 := hL
  have ho5 : Ow w2.heap.size t_i64 w5 r (ints L) := ho5
  intro _
  simp only [gx]
  refine iLt (iCndP (fun h => ?_) (fun h => ⟨⟨L, by omega, ho5.mono (x1.trans x2).size⟩, hS5, ch_self (x1.trans x2).ch hC5⟩))
  refine iLenS hu5.sl ?_
  rw [ints_length, nats_length]
  refine iCall ((ok_spec_l01Next hc hS5 ((upsets f).length : Nat)).mono ?_)
  rintro _ w6 ⟨⟨x, rfl, hx, _⟩, hS6, hch6⟩
  have hx := hx (by omega)
  have hu6 := hu5.srcD hS5 hne hch6
  have ho6 := ho5.srcD hS5 hne hch6
  have hsl : SlN w6 u (upsets f) := hu6.sl
  refine iIaNN hsl (by omega) fun p hp => iLd hp ?_
  have hC6 := ch_self hC5 hch6
  refine iApp1 u_Si64 i_Si64 rfl ho6 rfl (by rw [ints_length]; omega) (by rw [ints_length]; omega) hC6.size fun v' w8 ho' hg => ?_
  refine iAdd (by omega) ?_
  have hb6 : ∀ c, r.ownBlock = some c → c ≠ b := fun c hc' e' => hS6.neOw ho6 hne (by rw [hc', e'])
  have hgc : Ch (fun c => r.ownBlock = some c) w6 w8 := grown_ch hg fun c hc => hc
  have e1 : ints L ++ [.int .i64 (((upsets f).getD x 0 : Nat) : Int)] = ints (L ++ [(((upsets f).getD x 0 : Nat) : Int)]) := by simp [ints]
  rw [e1] at ho'
  have hne' : ∀ c, u.ownBlock = some c → ¬ r.ownBlock = some c := fun c hc1 hc2 => by
    have := (hu.blk c hc1).2
    have := (ho6.blk c hc2).1
    omega
  have := hKn (v', L ++ [(((upsets f).getD x 0 : Nat) : Int)]) w8 ⟨by show (L ++ [_]).length ≤ 6; simp; omega, hS6.ch hgc (fun h' => hb6 b h' rfl) (fun c hc' => by have := (ho6.blk c hc').1; have := hS.ext.size; omega), hC6.trans hgc (fun c hc' => .inr (ho6.blk c hc').1), hu6.ch hgc hne', ho'⟩ (by show 6 - (L ++ [_]).length < 6 - L.length; simp; omega)
  simpa using this
theorem ok_spec_l01Number {e : TypeId} {w0 : World} {vc : Value} {bs : List Nat} (hc : SlB w0 vc bs) {b : Nat} {w : World} (hS : Src e w0 vc b w) (n : Int) :
    Drw Tryz.prog f_spec_l01Number #[.pointer (some ⟨b, 0, none⟩), .int .i64 n] e w0 vc b w fun r _ => ∃ x : Int, r = .int .i64 x := by
  apply c_spec_l01Number; unfold S_spec_l01Number
  refine iCall ((ok_spec_l01Next hc hS 40).mono ?_)
  rintro _ w1 ⟨⟨x, rfl, _, _⟩, hS1, hch1⟩
  refine iEq (iCndP (fun _ => ?_) (fun _ => ?_))
  · refine iBs4E fun q w2 hq x2 hB => ?_
    refine iCall ((ok_spec_l01Pick hc (hS1.later x2) (l := [-1, n, 9223372036854775807, -9223372036854775808]) rfl hB (by have := hS1.lt; omega) (by simp) (by simp)).mono ?_)
    rintro _ w3 ⟨⟨y, rfl, _⟩, hS3, hch3⟩
    exact ⟨⟨y, rfl⟩, hS3, ch_self (ch_ext hch1 x2) hch3⟩
  · refine iCall ((ok_spec_l01Next hc hS1 n).mono ?_)
    rintro _ w3 ⟨⟨y, rfl, _, _⟩, hS3, hch3⟩
    exact ⟨⟨_, rfl⟩, hS3, ch_self hch1 hch3⟩
theorem ok_spec_l17Draw {e : TypeId} (hne : t_i64 ≠ e) {w0 : World} {vc : Value} {bs : List Nat} (hc : SlB w0 vc bs) {b : Nat} {w : World} (hS : Src e w0 vc b w) (size : Nat) (hw : size ≤ 8) :
    Drw Tryz.prog f_spec_l17Draw #[.pointer (some ⟨b, 0, none⟩), .int .i64 ((size + 1 : Nat) : Int)] e w0 vc b w fun r w' => ∃ (n : Int) (l : List Int) (v vv : Value) (L : List Int), r = .tuple #[.agg #[.int .i64 n, v], vv] ∧ Ow w.heap.size t_i64 w' v (ints l) ∧ RdB w.heap.size t_i64 w' vv L := by
  apply c_spec_l17Draw; unfold S_spec_l17Draw
  have hlow := hS.ext.size
  have hbl := hS.lt
  refine iNew fun b4 w1 hb4 x1 hB4 => ?_
  have hB4 : Blk 26 w1 b4 [.int .i64 0, .slice none 0 0] := hB4
  have hS1 := hS.later x1
  refine iCall ((ok_spec_l16Draw hne hc hS1 size hw).mono ?_)
  rintro _ w2 ⟨⟨n, l, v, rfl, hl, ho2⟩, hS2, hch2⟩
  have hB2 := hB4.ch hch2 (by omega)
  have hC2 : Ch (fun c => c = b) w w2 := ch_self x1.ch hch2
  have ho2 := ho2.mono x1.size
  have hs2 := hch2.size
  refine iNew fun b6 w3 hb6 x3 hB6 => ?_
  have hB6 : Blk 26 w3 b6 [.int .i64 0, .slice none 0 0] := hB6
  have h46 : b4 ≠ b6 := by have := hB2.lt; omega
  refine iStAB hB6 rfl rfl ((ho2.ext x3).pair n) fun w4 hu4 hB6' => ?_
  have hB6 : Blk 26 w4 b6 [.int .i64 n, v] := hB6'
  have hlt6 := hS2.lt
  have hb6b : b6 ≠ b := by omega
  have X4 : Ext w2 w4 := x3.upd hu4 (by omega)
  have hB4 := (hB2.ext x3).upd hu4 h46
  have ho4 : Ow w.heap.size t_i64 w4 v (ints l) := ho2.ext X4
  have hS4 := hS2.later X4
  have hC4 := ch_ext hC2 X4
  refine iLdA hB6 rfl ?_
  refine iRet (ok_spec_l16Is ho4.sl n) fun w5 x5 => iNot ?_
  have hB4 := hB4.ext x5
  have hB6 := hB6.ext x5
  have ho5 := ho4.ext x5
  have hS5 := hS4.later x5
  have hC5 := ch_ext hC4 x5
  have hs5 := hC5.size
  -- the end: the poset is stored
  have fin : ∀ (w9 : World) (vv : Value) (L : List Int) (Q : World → Prop), Src e w0 vc b w9 → Ch (fun c => c = b) w w9 → Blk 26 w9 b4 [.int .i64 0, .slice none 0 0] → Ow w.heap.size t_i64 w9 v (ints l) → RdB w.heap.size t_i64 w9 vv L →
      (∀ w10, Blk 26 w10 b4 [.int .i64 n, v] → Src e w0 vc b w10 → Ch (fun c => c = b) w w10 → Ow w.heap.size t_i64 w10 v (ints l) → RdB w.heap.size t_i64 w10 vv L → Ch (fun c => c = b4) w9 w10 → Q w10) →
      xStA Tryz.prog w9 2 (.pointer (some ⟨b4, 0, none⟩)) (.agg #[.int .i64 n, v]) Q := by
    intro w9 vv L Q hS9 hC9 hB9 ho9 hr9 hQ
    refine iStAB hB9 rfl rfl (ho9.pair n) fun w10 hu hB10 => ?_
    have hk : Ch (fun c => c = b4) w9 w10 := hu.ch rfl
    refine hQ w10 hB10 (hS9.upd hu (by omega) (by omega)) (hC9.trans hk (fun c hc => .inr (by have := x1.size; omega))) (ho9.upd hu (ho9.ne_blk hB9 (by decide))) (hr9.ch hk fun c cs hBc _ => hBc.ne_blk hB9 (by decide)) hk
  cases hp : posetOk n l
  · refine iCndT rfl ?_
    refine iLdA hB6 rfl ?_
    intro w6 x6
    constructor
    · refine iMk (k := .i64) (n := 6) (by decide) (by decide) rfl fun b7 w7 hb7 x7 hB7 => ⟨x7, fun w8 x8 => ?_⟩
      have X8 := (x6.trans x7).trans x8
      have hr : RdB w.heap.size t_i64 w8 (.slice (some ⟨b7, 0, none⟩) 6 6) [0, 0, 0, 0, 0, 0] := ⟨b7, 0, 6, _, rfl, by decide, by decide, hB7.ext x8, by have := x6.size; omega, fun i hi => by simp [ints, List.replicate]⟩
      refine fin w8 _ _ _ (hS5.later X8) (ch_ext hC5 X8) (hB4.ext X8) (ho5.ext X8) hr ?_
      intro w9 hB9 hS9 hC9 ho9 hr9 _ w10 x10
      refine iLdA (hB9.ext x10) rfl ?_
      exact ⟨⟨n, l, v, _, _, rfl, ho9.ext x10, hr9.ext x10⟩, hS9.later x10, ch_ext hC9 x10⟩
    · refine iStAB (hB4.ext x6) rfl rfl ((ho5.ext x6).pair n) fun w12 hu12 hB12 => ?_
      intro w13 x13
      have hS12 := (hS5.later x6).upd hu12 (by omega) (by omega)
      have hC12 : Ch (fun c => c = b) w w12 := (ch_ext hC5 x6).trans (hu12.ch (S := fun c => c = b4) rfl) (fun c hc => .inr (by have := x1.size; omega))
      have ho12 := (ho5.ext x6).upd hu12 ((ho5.ext x6).ne_blk (hB4.ext x6) (by decide))
      refine iMk (k := .i64) (n := 6) (by decide) (by decide) rfl fun b7 w14 hb7 x14 hB7 => ⟨x14, fun w15 x15 => ?_⟩
      have X15 := (x13.trans x14).trans x15
      have hB12 : Blk 26 w12 b4 [.int .i64 n, v] := hB12
      refine iLdA (hB12.ext X15) rfl ?_
      have hr : RdB w.heap.size t_i64 w15 (.slice (some ⟨b7, 0, none⟩) 6 6) [0, 0, 0, 0, 0, 0] := ⟨b7, 0, 6, _, rfl, by decide, by decide, hB7.ext x15, by have := x13.size; have := hC12.size; omega, fun i hi => by simp [ints, List.replicate]⟩
      exact ⟨⟨n, l, v, _, _, rfl, ho12.ext X15, hr⟩, hS12.later X15, ch_ext hC12 X15⟩
  · refine iCndF rfl ?_
    obtain ⟨hP, hn0, hl0⟩ := posetOk_po hp
    have hP8 := hP.ok.1
    refine iLdA hB6 rfl ?_
    have hso : Ow w0.heap.size t_i64 w5 v (ints (nats (frOf n l).a)) := by rw [← hl0]; exact ho5.mono hlow
    have hso1 := ok_spec_l17Some hne hc hS5 hP hso
    rw [← hn0] at hso1
    refine iCall (hso1.mono ?_)
    rintro u w17 ⟨⟨L, hL, hou⟩, hS17, hch17⟩
    have hou5 := hou
    have hB4w := hB4
    have hbw6 : b6 < w5.heap.size := hB6.lt
    have hB4 := hB4.ch hch17 (by omega)
    have hB6 := hB6.ch hch17 hb6b
    have ho17 := ho5.srcD hS5 hne hch17
    have hC17 := ch_self hC5 hch17
    refine iCall ((ok_spec_l01Next hc hS17 40).mono ?_)
    rintro _ w18 ⟨⟨x, rfl, _, _⟩, hS18, hch18⟩
    have hB4 := hB4.ch hch18 (by omega)
    have hB6 := hB6.ch hch18 hb6b
    have ho18 := ho17.srcD hS17 hne hch18
    have hou := (hou.srcD hS17 hne hch18).mono hs5
    have hC18 := ch_self hC17 hch18
    have hub : ∀ c, u.ownBlock = some c → w5.heap.size ≤ c := fun c hc' => (hou5.blk c hc').1
    have hvb : ∀ c, v.ownBlock = some c → c < w5.heap.size := fun c hc' => (ho5.blk c hc').2
    have hL1 : (1 : Nat) ≤ L.length := by omega
    have hb46 : b6 ≠ b4 := fun h => h46 h.symm
    refine iEq (iCndP (fun _ => ?_) (fun _ => ?_))
    · obtain ⟨g, cap, rfl, hcap, htail⟩ := hou.rdB (by omega) hL1
      refine ⟨fun c => c = b4, iLdA hB6 rfl ⟨fun w20 h20 => iLdA (hB6.ch h20 hb46) rfl rfl, iSlTail (k := 1) (by omega) hcap ?_⟩⟩
      intro w19 x19
      refine fin w19 _ _ _ (hS18.later x19) (ch_ext hC18 x19) (hB4.ext x19) (ho18.ext x19) (htail.ext x19) ?_
      intro w20 hB20 hS20 hC20 ho20 hr20 hk20
      refine ⟨hk20, fun w21 x21 => ?_⟩
      refine iLdA (hB20.ext x21) rfl ?_
      exact ⟨⟨n, l, v, _, _, rfl, ho20.ext x21, hr20.ext x21⟩, hS20.later x21, ch_ext hC20 x21⟩
    · refine iEq ?_
      refine iJnX (fun xs wq => xs = [] ∧ ∃ L' : List Int, L'.length = 6 ∧ Ow w.heap.size t_i64 wq u (ints L') ∧ Ow w.heap.size t_i64 wq v (ints l) ∧ Src e w0 vc b wq ∧ Ch (fun c => c = b) w wq ∧ Blk 26 wq b4 [.int .i64 0, .slice none 0 0] ∧ Blk 26 wq b6 [.int .i64 n, v]) (fun J hJ => ?_) ?_
      · refine iCndP (fun _ => ?_) (fun _ => hJ [] w18 ⟨rfl, L, hL, hou, ho18, hS18, hC18, hB4, hB6⟩)
        refine ⟨fun c => c = b, iFa (iLdB hB6 (i := 0) (v := .int .i64 n) rfl ⟨fun w28 h28 => iLdB (hB6.ch h28 hb6b) (i := 0) (v := .int .i64 n) rfl rfl, fun w29 x29 => ?_⟩)⟩
        refine iCall ((ok_spec_l01Next hc (hS18.later x29) 6).mono ?_)
        rintro _ w30 ⟨⟨y, rfl, hy, _⟩, hS30, hch30⟩
        have hy := hy (by omega)
        refine ⟨hch30, ?_⟩
        obtain ⟨m, hm⟩ : ∃ m : Nat, n = (m : Int) := ⟨_, hn0⟩
        have hm8 : m ≤ 8 := by omega
        have h2m : 2 ^ m ≤ 2 ^ 8 := Nat.pow_le_pow_right (by omega) hm8
        have hpm := Nat.two_pow_pos m
        refine ⟨.int .i64 ((2 ^ m - 1 : Nat) : Int), fun w' _ => by rw [hm]; exact iRet (ok_spec_l01Full m (by omega) w') fun w'' h => ⟨rfl, h⟩, ?_⟩
        refine iAdd (by omega) ?_
        intro w31 x31
        refine iCall ((ok_spec_l01Next hc (hS30.later x31) _).mono ?_)
        rintro _ w32 ⟨⟨z, rfl, hz, _⟩, hS32, hch32⟩
        have hz := hz (by omega)
        refine iSub (by omega) ?_
        have hk32 : Ch (fun c => c = b) w18 w32 := ch_self (ch_ext (ch_self x29.ch hch30) x31) hch32
        have hu32 := hou.srcD hS18 hne hk32
        refine iIaOwE hu32 (j := y) (by rw [ints_length]; omega) fun bu hbu hwr => ?_
        intro w33 x33
        obtain ⟨h1, h2, h3⟩ := hwr w33 _ rfl (hu32.ext x33)
        refine iSt (by rw [h1, List.getElem?_eq_getElem (by rw [ints_length]; omega)]) h2 rfl ?_
        intro w35 x35
        have hk33 : Ch (fun c => c = b) w18 w33 := ch_ext hk32 x33
        have hv33 := ho18.srcD hS18 hne hk33
        have hset := Upd.setCell w33 bu y (.int .i64 ((z : Int) - 1))
        have hbu1 := hub bu hbu
        have hB4' := hB4.ch hk33 (by omega)
        have hB6' := hB6.ch hk33 hb6b
        have hS33 := hS32.later x33
        have h4' := h3 (.int .i64 ((z : Int) - 1))
        have e1 : (ints L).set y (.int .i64 ((z : Int) - 1)) = ints (L.set y ((z : Int) - 1)) := by simp [ints, List.map_set]
        rw [e1] at h4'
        have hbb : b ≠ bu := fun h' => hS33.neOw (hu32.ext x33) hne (by rw [hbu, h'])
        refine hJ [] w35 ⟨rfl, L.set y ((z : Int) - 1), by rw [List.length_set]; exact hL, h4'.ext x35, (hv33.upd hset (fun h' => by have := hvb _ h'; omega)).ext x35, (hS33.upd hset hbb (by omega)).later x35, ?_, (hB4'.upd hset (fun h' => by have := hB4w.lt; omega)).ext x35, (hB6'.upd hset (fun h' => by omega)).ext x35⟩
        exact ch_ext ((ch_self hC18 hk33).trans (hset.ch (S := fun c => c = bu) rfl) fun c hc' => .inr (by omega)) x35
      · rintro _ wq ⟨rfl, L', hL', hu', hv', hS', hC', hB4', hB6'⟩
        intro _
        refine iLdA hB6' rfl ?_
        obtain ⟨g, cap, hvu, hcap, hrd⟩ := hu'.rdB (by omega) (Nat.zero_le _)
        have hrd : RdB w.heap.size t_i64 wq u L' := by rw [hvu]; simpa using hrd
        refine fin wq _ _ _ hS' hC' hB4' hv' hrd ?_
        intro w20 hB20 hS20 hC20 ho20 hr20 _
        refine iLdA hB20 rfl ?_
        exact ⟨⟨n, l, v, _, _, rfl, ho20, hr20⟩, hS20, hC20⟩
theorem ok_spec_l21Root {e : TypeId} (hne : t_i64 ≠ e) {w0 : World} {vc : Value} {bs : List Nat} (hc : SlB w0 vc bs) {b : Nat} {w : World} (hS : Src e w0 vc b w) :
    Drw Tryz.prog f_spec_l21Root #[.pointer (some ⟨b, 0, none⟩)] e w0 vc b w fun r w' => ∃ (n : Int) (l : List Int) (v : Value), r = .agg #[.int .i64 n, v] ∧ Ow w.heap.size t_i64 w' v (ints l) := by
  apply c_spec_l21Root; unfold S_spec_l21Root
  have hbl := hS.lt
  have hlow := hS.ext.size
  refine iNew fun b2 w1 hb2 x1 hB2 => ?_
  have hB2 : Blk 26 w1 b2 [.int .i64 0, .slice none 0 0] := hB2
  have hS1 := hS.later x1
  have hs1 := x1.size
  refine iCall ((ok_spec_l01Next hc hS1 10).mono ?_)
  rintro _ w2 ⟨⟨x, rfl, _, _⟩, hS2, hch2⟩
  have hB2 := hB2.ch hch2 (by omega)
  have hs2 := hch2.size
  have fin : ∀ (w3 : World) (n : Int) (l : List Int) (v : Value), Src e w0 vc b w3 → Ch (fun c => c = b) w2 w3 → Ow w2.heap.size t_i64 w3 v (ints l) → xStA Tryz.prog w3 2 (.pointer (some ⟨b2, 0, none⟩)) (.agg #[.int .i64 n, v]) fun w4 => xLdA w4 2 (.pointer (some ⟨b2, 0, none⟩)) fun r5 =>
      (∃ (n : Int) (l : List Int) (v : Value), r5 = .agg #[.int .i64 n, v] ∧ Ow w.heap.size t_i64 w4 v (ints l)) ∧ Src e w0 vc b w4 ∧ Ch (fun c => c = b) w w4 := by
    intro w3 n l v hS3 hk3 ho3
    have hB3 := hB2.ch hk3 (by omega)
    refine iStAB hB3 rfl rfl (ho3.pair n) fun w4 hu hB4 => iLdA hB4 rfl ?_
    exact ⟨⟨n, l, v, rfl, (ho3.mono (by omega)).upd hu (ho3.ne_blk hB3 (by decide))⟩, hS3.upd hu (by omega) (by omega), (ch_self (ch_self x1.ch hch2) hk3).trans (hu.ch (S := fun c => c = b2) rfl) fun c hc' => .inr (by omega)⟩
  refine iEq (iCndP (fun _ => ?_) (fun _ => ?_))
  · refine iCall ((ok_spec_l16Draw hne hc hS2 5 (by omega)).mono ?_)
    rintro _ w3 ⟨⟨n, l, v, rfl, _, ho⟩, hS3, hch3⟩
    exact fin w3 n l v hS3 hch3 ho
  · refine iCall ((ok_spec_l01Next hc hS2 4).mono ?_)
    rintro _ w3 ⟨⟨y, rfl, hy, _⟩, hS3, hch3⟩
    have hy := hy (by omega)
    refine iAdd (by omega) ?_
    rw [show (1 : Int) + (y : Int) = ((y + 1 : Nat) : Int) by omega]
    refine iCall ((ok_spec_l16Rooted hne hc hS3 y (by omega)).mono ?_)
    rintro _ w4 ⟨⟨n, a, v, rfl, _, _, ho⟩, hS4, hch4⟩
    exact fin w4 n (nats a) v hS4 (ch_self hch3 hch4) (ho.mono hch3.size)
theorem ok_spec_l21Self (n : Nat) (hn : n ≤ 8) (w : World) : Cal Tryz.prog f_spec_l21Self #[.int .i64 (n : Int)] w fun u w' => Ext w w' ∧ Ow w.heap.size t_i64 w' u (ints (nats (List.range n))) := by
  apply c_spec_l21Self; unfold S_spec_l21Self
  refine iBs0 fun u0 w1 _ x1 ho1 => ?_
  refine iLp (fun s : Value × Nat => [s.1, .int .i64 (s.2 : Int)]) (fun s w' => s.2 ≤ n ∧ Ext w w' ∧ Ow w.heap.size t_i64 w' s.1 (ints (nats (List.range s.2)))) (fun s => n - s.2) (u0, 0) rfl ⟨Nat.zero_le _, x1, ho1⟩ ?_
  rintro ⟨u, k⟩ w3 Kn ⟨hk, x3, ho⟩ hKn
  have hk : k ≤ n := hk
  have ho : Ow w.heap.size t_i64 w3 u (ints (nats (List.range k))) := ho
  intro _
  simp only [gx]
  refine iLt (iCndP (fun h => ?_) (fun h => ?_))
  · refine iApp1 u_Si64 i_Si64 rfl ho rfl (by simp [ints, nats]; omega) (by simp [ints, nats]; omega) x3.size fun v' w5 ho' hg => ?_
    refine iAdd (by omega) ?_
    refine hKn (v', k + 1) _ ⟨by show k + 1 ≤ n; omega, x3.grown hg (fun c hc => (ho.blk c hc).1), ?_⟩ (by show n - (k + 1) < n - k; omega)
    show Ow _ _ _ v' (ints (nats (List.range (k + 1))))
    rw [List.range_succ]
    simpa [ints, nats] using ho'
  · obtain rfl : k = n := by omega
    exact ⟨x3, ho⟩
theorem ok_spec_l21Values {f : Fr} (hf : f.ok) (h6 : f.n ≤ 6) {w : World} {vi vq : Value} (hi : SlN w vi (List.range f.n)) (hq : SlN w vq f.a) :
    Cal Tryz.prog f_spec_l21Values #[.int .i64 ((2 ^ f.n - 1 : Nat) : Int), vi, .agg #[.int .i64 (f.n : Int), vq]] w fun u w' => Ext w w' ∧ ∃ L : List Int, L.length = 6 ∧ Ow w.heap.size t_i64 w' u (ints L) := by
  have hf8 := hf.1
  have h2n : 2 ^ f.n ≤ 2 ^ 8 := Nat.pow_le_pow_right (by omega) hf8
  have hpos := Nat.two_pow_pos f.n
  have hml : (mem (2 ^ f.n - 1)).length = f.n := popc_range (by omega)
  have hmb : ∀ y ∈ mem (2 ^ f.n - 1), y < f.n := fun y hy => by
    have := (mem_mem (show 2 ^ f.n - 1 < 2 ^ 63 by omega)).1 hy
    rw [full_testBit] at this
    exact of_decide_eq_true this
  apply c_spec_l21Values; unfold S_spec_l21Values
  refine iNew fun b5 w1 hb5 x1 hB5 => ?_
  have hB5 : Blk 26 w1 b5 [.int .i64 (f.n : Int), vq] := hB5
  have loop : ∀ (w6 : World) (vm vl : Value) (lo : Nat), w.heap.size ≤ lo → Ext w w6 → Blk 26 w6 b5 [.int .i64 (f.n : Int), vq] → Ow lo t_i64 w6 vm (ints (nats (List.replicate 6 0))) → SlN w6 vl (mem (2 ^ f.n - 1)) → (∀ c, vm.ownBlock = some c → ∀ w', Ch (fun c' => c' = c) w6 w' → SlN w' vl (mem (2 ^ f.n - 1))) → w1.heap.size ≤ lo →
      lp (fun K7 xs7 w8 => ∀ _ : Nat → Value, xLenS vl fun v16 => xLt .i64 (gx xs7 0) v16 fun v17 => cnd v17 (lp (fun K9 xs9 w10 => ∀ _ : Nat → Value, xFa 0 (.pointer (some ⟨b5, 0, none⟩)) fun v21 => xLd w10 v21 fun v22 => xLt .i64 (gx xs9 0) v22 fun v23 => cnd v23 (xLdA w10 2 (.pointer (some ⟨b5, 0, none⟩)) fun v26 => xIa 1 vi (gx xs7 0) fun v30 => xLd w10 v30 fun v31 =>
        callQ Tryz.prog (.func (.func f_spec_l16Leq) #[] #[]) [v26, (gx xs9 0), v31] w10 fun v32 => ∀ w11, Ext w10 w11 → cnd v32 (xIa 1 vm (gx xs9 0) fun v37 => xLd w11 v37 fun v38 => xIa 1 vl (gx xs7 0) fun v41 => xLd w11 v41 fun v42 => callQ Tryz.prog (.func (.func f_spec_l01One) #[] #[]) [v42] w11 fun v43 => xBits iOr .i64 v38 v43 fun v44 => xIa 1 vm (gx xs9 0) fun v45 =>
        ∀ w12, Ext w11 w12 → xSt w12 v45 v44 fun w13 => ∀ w14, Ext w13 w14 → xAdd .i64 (gx xs9 0) (.int .i64 1) fun v25 => K9 [v25] w14) (xAdd .i64 (gx xs9 0) (.int .i64 1) fun v25 => K9 [v25] w11)) (xAdd .i64 (gx xs7 0) (.int .i64 1) fun v19 => K7 [v19] w10)) [(.int .i64 0)] w8)
        ((fun u w' => Ext w w' ∧ ∃ L : List Int, L.length = 6 ∧ Ow w.heap.size t_i64 w' u (ints L)) vm w8)) [(.int .i64 0)] w6 := by
    intro w6 vm vl lo hlo x6 hB6 ho6 hl6 hstay hlo1
    obtain ⟨c0, hc0⟩ : ∃ c0, vm.ownBlock = some c0 := by
      obtain ⟨_, h | ⟨g, cap, cur, hv, _⟩⟩ := ho6
      · have := h.2; simp [ints, nats] at this
      · exact ⟨g, by rw [hv]; rfl⟩
    have hc0l := ho6.blk c0 hc0
    have hcb : b5 ≠ c0 := by omega
    -- what holds all along
    have keep : ∀ w', Ch (fun c => c = c0) w6 w' → Ext w w' ∧ SlN w' vl (mem (2 ^ f.n - 1)) ∧ Blk 26 w' b5 [.int .i64 (f.n : Int), vq] := fun w' k => ⟨x6.thenCh k (fun c h => by omega), hstay c0 hc0 w' k, hB6.ch k hcb⟩
    refine iLp (fun k : Nat => [.int .i64 (k : Int)]) (fun k w' => k ≤ f.n ∧ Ch (fun c => c = c0) w6 w' ∧ ∃ T : List Nat, T.length = 6 ∧ (∀ t ∈ T, t < 2 ^ f.n) ∧ Ow lo t_i64 w' vm (ints (nats T))) (fun k => f.n - k) 0 rfl ⟨Nat.zero_le _, (Ext.refl _).ch, _, by simp, fun t ht => by rw [List.eq_of_mem_replicate ht]; exact hpos, ho6⟩ ?_
    rintro k w8 Kn ⟨hk, hk8, T, hT, hTb, ho8⟩ hKn
    obtain ⟨X8, hl8, hB8⟩ := keep w8 hk8
    intro _
    simp only [gx]
    refine iLenN hl8 ?_
    rw [hml]
    refine iLt (iCndP (fun h => ?_) (fun h => ⟨X8, nats T, by rw [nats_length]; exact hT, ho8.mono hlo⟩))
    have hk1 : k < f.n := by omega
    refine iLp (fun j : Nat => [.int .i64 (j : Int)]) (fun j w' => j ≤ f.n ∧ Ch (fun c => c = c0) w6 w' ∧ ∃ T : List Nat, T.length = 6 ∧ (∀ t ∈ T, t < 2 ^ f.n) ∧ Ow lo t_i64 w' vm (ints (nats T))) (fun j => f.n - j) 0 rfl ⟨Nat.zero_le _, hk8, T, hT, hTb, ho8⟩ ?_
    clear hk8 ho8 hT hTb X8 hl8 hB8
    rintro j w10 Kn2 ⟨hj, hk10, T, hT, hTb, ho10⟩ hKn2
    obtain ⟨X10, hl10, hB10⟩ := keep w10 hk10
    intro _
    simp only [gx]
    refine iFa (iLdB hB10 (i := 0) (v := .int .i64 (f.n : Int)) rfl ?_)
    refine iLt (iCndP (fun h2 => ?_) (fun h2 => ?_))
    · have hj1 : j < f.n := by omega
      refine iLdA hB10 rfl ?_
      refine iIaNN (hi.ext X10) (j := k) (by rw [List.length_range]; exact hk1) fun p hp => iLd hp ?_
      rw [show (List.range f.n).getD k 0 = k by simp [hk1]]
      refine iRetQ (fun w' x => ok_spec_l16Leq hf ((hq.ext X10).ext x) j k hj1 (by omega)) ?_
      intro w11 x11
      have hk11 : Ch (fun c => c = c0) w6 w11 := ch_ext hk10 x11
      obtain ⟨X11, hl11, hB11⟩ := keep w11 hk11
      have ho11 := ho10.ext x11
      cases hb : (f.a.getD j 0).testBit k
      · refine iCndF rfl (iAdd (by omega) ?_)
        exact hKn2 (j + 1) _ ⟨by omega, hk11, T, hT, hTb, ho11⟩ (by omega)
      · refine iCndT rfl ?_
        have hsm : SlN w11 vm T := ho11.sl
        refine iIaNN hsm (j := j) (by omega) fun p hp => iLd hp ?_
        refine iIaNN hl11 (j := k) (by omega) fun p hp => iLd hp ?_
        have hy := getD_lt hmb (x := k) (by omega)
        refine iRetQ (fun w' _ => ok_spec_l01One _ (by omega) w') ?_
        have ht := getD_lt hTb (x := j) (by omega)
        have h2y : 2 ^ (mem (2 ^ f.n - 1)).getD k 0 < 2 ^ f.n := Nat.pow_lt_pow_right (by omega) hy
        refine iBOr (by omega) (by omega) ?_
        have hil : (ints (nats T)).length = 6 := by rw [ints_length, nats_length]; exact hT
        refine iIaOwE ho11 (j := j) (by omega) fun bu hbu hwr => ?_
        intro w12 x12
        obtain ⟨h1, h3, h4⟩ := hwr w12 _ rfl (ho11.ext x12)
        refine iSt (by rw [h1, List.getElem?_eq_getElem (by omega)]) h3 rfl ?_
        intro w14 x14
        refine iAdd (by omega) ?_
        have hbc : bu = c0 := by rw [hc0] at hbu; cases hbu; rfl
        subst hbc
        have h5 := h4 (.int .i64 ((T.getD j 0 ||| 2 ^ (mem (2 ^ f.n - 1)).getD k 0 : Nat) : Int))
        refine hKn2 (j + 1) _ ⟨by omega, ?_, T.set j (T.getD j 0 ||| 2 ^ (mem (2 ^ f.n - 1)).getD k 0), by rw [List.length_set]; exact hT, fun t htm => ?_, ?_⟩ (by omega)
        · exact ch_ext (ch_self (ch_ext hk11 x12) ((Upd.setCell w12 bu j _).ch rfl)) x14
        · rcases List.mem_or_eq_of_mem_set htm with h | rfl
          · exact hTb t h
          · exact Nat.or_lt_two_pow ht h2y
        · have e : (ints (nats T)).set j (.int .i64 ((T.getD j 0 ||| 2 ^ (mem (2 ^ f.n - 1)).getD k 0 : Nat) : Int)) = ints (nats (T.set j (T.getD j 0 ||| 2 ^ (mem (2 ^ f.n - 1)).getD k 0))) := by simp [ints, nats, List.map_set]
          rw [e] at h5
          exact h5.ext x14
    · refine iAdd (by omega) ?_
      exact hKn (k + 1) _ ⟨by omega, hk10, T, hT, hTb, ho10⟩ (by omega)
  intro w2 x2
  have hm63 : 2 ^ f.n - 1 < 2 ^ 63 := by omega
  constructor
  · refine iMk (k := .i64) (n := 6) (by decide) (by decide) rfl fun bm w3 hbm x3 hBm => ?_
    intro w4 x4
    have hom : Ow w2.heap.size t_i64 w4 (.slice (some ⟨bm, 0, none⟩) 6 6) (ints (nats (List.replicate 6 0))) := Ow.ofBlk (hBm.ext x4) (by omega) rfl (by decide)
    refine iCall ((ok_spec_l01List _ hm63 w4).mono ?_)
    rintro u w5 ⟨x5, hu⟩
    intro w6 x6
    have hom6 := (hom.ext x5).ext x6
    have hu6 := hu.ext x6
    refine loop w6 _ u w2.heap.size (by have := (x1.trans x2).size; omega) (((((x1.trans x2).trans x3).trans x4).trans x5).trans x6) ((((hB5.ext x2).ext (x3.trans x4)).ext x5).ext x6) hom6 hu6.sl (fun c hc' w' hk => (hu6.ch hk fun d hd he => ?_).sl) x2.size
    have := (hu6.blk d hd).1
    have := (hom.blk c hc').2
    omega
  · refine iCall ((ok_spec_l01List _ hm63 w2).mono ?_)
    rintro u w3 ⟨x3, hu⟩
    intro w4 x4
    refine iMk (k := .i64) (n := 6) (by decide) (by decide) rfl fun bm w5 hbm x5 hBm => ?_
    intro w6 x6
    have hom : Ow w4.heap.size t_i64 w6 (.slice (some ⟨bm, 0, none⟩) 6 6) (ints (nats (List.replicate 6 0))) := Ow.ofBlk (hBm.ext x6) (by omega) rfl (by decide)
    have hu4 := hu.ext x4
    have hu6 := (hu4.ext x5).ext x6
    have hs4 := (((x1.trans x2).trans x3).trans x4).size
    refine loop w6 _ u w4.heap.size hs4 (((((x1.trans x2).trans x3).trans x4).trans x5).trans x6) ((((hB5.ext x2).ext (x3.trans x4)).ext x5).ext x6) hom hu6.sl (fun c hc' w' hk => (hu6.ch hk fun d hd he => ?_).sl) (((x2.trans x3).trans x4).size)
    have := (hu4.blk d hd).2
    have := (hom.blk c hc').1
    omega
end Go.Proofs.YtikfhibcdhdglaaGreat

/- Contracts: DrawShows. Conditions: none. -/
namespace Go.Proofs.YtikfhibcdhdglaaGreat
open Go.Vc
/-- What holds while a poset p with sets and a poset q are drawn. -/
structure DS (e : TypeId) (w2 : World) (vc : Value) (b b2 b5 b7 b8 : Nat) (n : Int) (l : List Int) (v : Value) (nq : Int) (lq : List Int) (vq : Value) (w' : World) : Prop where
  src : Src e w2 vc b w'
  B2 : Blk 26 w' b2 [.int .i64 0, .slice none 0 0]
  B5 : Blk 26 w' b5 [.int .i64 0, .slice none 0 0]
  B7 : Blk 26 w' b7 [.int .i64 nq, vq]
  B8 : Blk 26 w' b8 [.int .i64 n, v]
  op : Ow w2.heap.size t_i64 w' v (ints l)
  oq : Ow w2.heap.size t_i64 w' vq (ints lq)
section
variable {e : TypeId} {w2 w' w'' : World} {vc v vq : Value} {b b2 b5 b7 b8 : Nat} {n nq : Int} {l lq : List Int}
theorem DS.ext (h : DS e w2 vc b b2 b5 b7 b8 n l v nq lq vq w') (x : Ext w' w'') : DS e w2 vc b b2 b5 b7 b8 n l v nq lq vq w'' := ⟨h.src.later x, h.B2.ext x, h.B5.ext x, h.B7.ext x, h.B8.ext x, h.op.ext x, h.oq.ext x⟩
theorem DS.ch (h : DS e w2 vc b b2 b5 b7 b8 n l v nq lq vq w') (hne : t_i64 ≠ e) (hb : b2 ≠ b ∧ b5 ≠ b ∧ b7 ≠ b ∧ b8 ≠ b) (hS : Src e w2 vc b w'') (k : Ch (fun c => c = b) w' w'') : DS e w2 vc b b2 b5 b7 b8 n l v nq lq vq w'' :=
  ⟨hS, h.B2.ch k hb.1, h.B5.ch k hb.2.1, h.B7.ch k hb.2.2.1, h.B8.ch k hb.2.2.2, h.op.srcD h.src hne k, h.oq.srcD h.src hne k⟩
end
theorem ok_spec_DrawShows {vc : Value} {w : World} {bs : List Nat} (hc : SlB w vc bs) : Cal Tryz.prog f_spec_DrawShows #[vc] w fun r w' => Ext w w' ∧ ∃ (n : Int) (l : List Int) (v vv : Value) (L : List Int) (x nq : Int) (lq : List Int) (vq : Value),
    r = .tuple #[.agg #[.int .i64 n, v], vv, .int .i64 x, .agg #[.int .i64 nq, vq]] ∧ Ow w.heap.size t_i64 w' v (ints l) ∧ RdB w.heap.size t_i64 w' vv L ∧ Ow w.heap.size t_i64 w' vq (ints lq) := by
  apply c_spec_DrawShows; unfold S_spec_DrawShows
  refine iNew fun b2 w1 hb2 x1 hB2 => ?_
  have hB2 : Blk 26 w1 b2 [.int .i64 0, .slice none 0 0] := hB2
  refine iNew fun b5 w2 hb5 x2 hB5 => ?_
  have hB5 : Blk 26 w2 b5 [.int .i64 0, .slice none 0 0] := hB5
  have hB2 := hB2.ext x2
  have X2 := x1.trans x2
  have hc2 := hc.ext X2
  refine iCall ((ok_spec_l01From hc2).mono ?_)
  rintro _ w3 ⟨e, b, hne, _, rfl, hS3⟩
  have hb3 := hS3.lo
  have hb3' := hS3.lt
  refine iCall ((ok_spec_l21Root hne hc2 hS3).mono ?_)
  rintro _ w4 ⟨⟨nq, lq, vq, rfl, hoq⟩, hS4, hch4⟩
  have hB2 := (hB2.ext hS3.ext).ch hch4 (by omega)
  have hB5 := (hB5.ext hS3.ext).ch hch4 (by omega)
  have hoq := hoq.mono hS3.ext.size
  have hs4 := hch4.size
  refine iNew fun b7 w5 hb7 x5 hB7 => ?_
  have hB7 : Blk 26 w5 b7 [.int .i64 0, .slice none 0 0] := hB7
  refine iStAB hB7 rfl rfl ((hoq.ext x5).pair nq) fun w6 hu6 hB7' => ?_
  have hB7 : Blk 26 w6 b7 [.int .i64 nq, vq] := hB7'
  have X6 : Ext w4 w6 := x5.upd hu6 (by omega)
  have hB2 := hB2.ext X6
  have hB5 := hB5.ext X6
  have hoq := hoq.ext X6
  have hS6 := hS4.later X6
  refine iCall ((ok_spec_l17Draw hne hc2 hS6 5 (by omega)).mono ?_)
  rintro _ w7 ⟨⟨n, l, v, vv, L, rfl, hop, hrv⟩, hS7, hch7⟩
  have hs6 := hS6.ext.size
  refine iE20 (iE21 ?_)
  have hB2 := hB2.ch hch7 (by omega)
  have hB5 := hB5.ch hch7 (by omega)
  have hb76 := hB7.lt
  have hB7 := hB7.ch hch7 (by omega)
  have hoq := hoq.srcD hS6 hne hch7
  have hop := hop.mono hs6
  have hrv := hrv.mono hs6
  have hs7 := hch7.size
  refine iNew fun b8 w8 hb8 x8 hB8 => ?_
  have hB8 : Blk 26 w8 b8 [.int .i64 0, .slice none 0 0] := hB8
  refine iStAB hB8 rfl rfl ((hop.ext x8).pair n) fun w9 hu9 hB8' => ?_
  have hB8 : Blk 26 w9 b8 [.int .i64 n, v] := hB8'
  have X9 : Ext w7 w9 := x8.upd hu9 (by omega)
  have hD9 : DS e w2 vc b b2 b5 b7 b8 n l v nq lq vq w9 := ⟨hS7.later X9, hB2.ext X9, hB5.ext X9, hB7.ext X9, hB8, hop.ext X9, hoq.ext X9⟩
  have hr9 := hrv.ext X9
  have hnb : b2 ≠ b ∧ b5 ≠ b ∧ b7 ≠ b ∧ b8 ≠ b := by omega
  have hrch : ∀ {w' w'' : World} {vv : Value} {L : List Int}, RdB w2.heap.size t_i64 w' vv L → Src e w2 vc b w' → Ch (fun c => c = b) w' w'' → RdB w2.heap.size t_i64 w'' vv L := fun h hS k => h.ch k fun c cs hB _ => hS.ne hB hne
  clear hB2 hB5 hB7 hB7' hB8 hB8' hoq hop hrv hS3 hS4 hS6 hS7 hu6 hu9
  -- the end
  have fin : ∀ (w11 : World) (n : Int) (l : List Int) (v vv : Value) (L : List Int), DS e w2 vc b b2 b5 b7 b8 n l v nq lq vq w11 → RdB w2.heap.size t_i64 w11 vv L →
      ∃ D46 : Nat → Prop, xLdA w11 2 (.pointer (some ⟨b8, 0, none⟩)) fun v57 => (∀ w47, Ch D46 w11 w47 → xLdA w47 2 (.pointer (some ⟨b8, 0, none⟩)) fun u57 => u57 = v57) ∧ xFa 0 (.pointer (some ⟨b8, 0, none⟩)) fun v60 => xLd w11 v60 fun v61 => (∀ w48, Ch D46 w11 w48 → xLd w48 v60 fun u61 => u61 = v61) ∧
      xLdA w11 2 (.pointer (some ⟨b7, 0, none⟩)) fun v63 => (∀ w49, Ch D46 w11 w49 → xLdA w49 2 (.pointer (some ⟨b7, 0, none⟩)) fun u63 => u63 = v63) ∧ ∀ w50, Ext w11 w50 → callV Tryz.prog (.func (.func f_spec_l01Number) #[] #[]) [.pointer (some ⟨b, 0, none⟩), v61] w50 fun v62 w51 =>
      Ch D46 w50 w51 ∧ ∀ w52, Ext w51 w52 → xStA Tryz.prog w52 2 (.pointer (some ⟨b2, 0, none⟩)) v57 fun w53 => Ch D46 w52 w53 ∧ ∀ w54, Ext w53 w54 → xStA Tryz.prog w54 2 (.pointer (some ⟨b5, 0, none⟩)) v63 fun w55 => ∀ w56, Ext w55 w56 → xLdA w56 2 (.pointer (some ⟨b2, 0, none⟩)) fun r57 => xLdA w56 2 (.pointer (some ⟨b5, 0, none⟩)) fun r58 =>
      (fun (r : Value) (w' : World) => Ext w w' ∧ ∃ (n : Int) (l : List Int) (v vv : Value) (L : List Int) (x nq : Int) (lq : List Int) (vq : Value), r = Value.tuple #[.agg #[.int .i64 n, v], vv, .int .i64 x, .agg #[.int .i64 nq, vq]] ∧ Ow w.heap.size t_i64 w' v (ints l) ∧ RdB w.heap.size t_i64 w' vv L ∧ Ow w.heap.size t_i64 w' vq (ints lq)) (Value.tuple #[r57, vv, v62, r58]) w56 := by
    intro w11 n l v vv L hD hr
    refine ⟨fun c => c = b ∨ c = b2, iLdA hD.B8 rfl ⟨fun w47 h => iLdA (hD.B8.ch h (by omega)) rfl rfl, iFa (iLdB hD.B8 (i := 0) (v := .int .i64 n) rfl ⟨fun w48 h => iLdB (hD.B8.ch h (by omega)) (i := 0) (v := .int .i64 n) rfl rfl, iLdA hD.B7 rfl ⟨fun w49 h => iLdA (hD.B7.ch h (by omega)) rfl rfl, fun w50 x50 => ?_⟩⟩)⟩⟩
    have hD50 := hD.ext x50
    refine iCall ((ok_spec_l01Number hc2 hD50.src n).mono ?_)
    rintro _ w51 ⟨⟨x, rfl⟩, hS51, hch51⟩
    refine ⟨hch51.mono fun c h => .inl h, fun w52 x52 => ?_⟩
    have hD52 := (hD50.ch hne hnb hS51 hch51).ext x52
    have hr52 := (hrch (hr.ext x50) hD50.src hch51).ext x52
    have hX52 : Ext w w52 := X2.trans hD52.src.ext
    refine iStAB hD52.B2 rfl rfl (hD52.op.pair n) fun w53 hu53 hB53 => ⟨hu53.ch (.inr rfl), fun w54 x54 => ?_⟩
    have hB53 : Blk 26 w53 b2 [.int .i64 n, v] := hB53
    have hX54 := (hX52.upd hu53 (by omega)).trans x54
    have hB554 := (hD52.B5.upd hu53 (by omega)).ext x54
    have hop := (hD52.op.upd hu53 (hD52.op.ne_blk hD52.B2 (by decide))).ext x54
    have hoq := (hD52.oq.upd hu53 (hD52.oq.ne_blk hD52.B2 (by decide))).ext x54
    have hr54 := (hr52.ch (hu53.ch (S := fun c => c = b2) rfl) fun c cs hB _ => hB.ne_blk hD52.B2 (by decide)).ext x54
    refine iStAB hB554 rfl rfl (hoq.pair nq) fun w55 hu55 hB55 => fun w56 x56 => ?_
    have hB55 : Blk 26 w55 b5 [.int .i64 nq, vq] := hB55
    refine iLdA (((hB53.ext x54).upd hu55 (by omega)).ext x56) rfl (iLdA (hB55.ext x56) rfl ?_)
    refine ⟨(hX54.upd hu55 (by omega)).trans x56, n, l, v, vv, L, x, nq, lq, vq, rfl, ?_, ?_, ?_⟩
    · exact ((hop.upd hu55 (hop.ne_blk hB554 (by decide))).ext x56).mono X2.size
    · exact ((hr54.ch (hu55.ch (S := fun c => c = b5) rfl) fun c cs hB _ => hB.ne_blk hB554 (by decide)).ext x56).mono X2.size
    · exact ((hoq.upd hu55 (hoq.ne_blk hB554 (by decide))).ext x56).mono X2.size
  refine iJnX (fun xs wq => ∃ t, xs = [.bool t] ∧ (t = true → posetOk nq lq = true ∧ nq ≤ 5) ∧ DS e w2 vc b b2 b5 b7 b8 n l v nq lq vq wq ∧ RdB w2.heap.size t_i64 wq vv L) (fun J hJ => ?_) ?_
  · refine iLdA hD9.B7 rfl ?_
    refine iRet (ok_spec_l16Is hD9.oq.sl nq) fun w12 x12 => ?_
    have hD12 := hD9.ext x12
    cases hp : posetOk nq lq
    · exact iCndF rfl (hJ _ _ ⟨false, rfl, fun h => (by cases h), hD12, hr9.ext x12⟩)
    refine iCndT rfl ?_
    refine iFa (iLdB hD12.B7 (i := 0) (v := .int .i64 nq) rfl ?_)
    refine iLe (iCndP (fun h5 => ?_) (fun _ => hJ _ _ ⟨false, rfl, fun h => (by cases h), hD12, hr9.ext x12⟩))
    refine iCall ((ok_spec_l01Next hc2 hD12.src 2).mono ?_)
    rintro _ w13 ⟨⟨x, rfl, _, _⟩, hS13, hch13⟩
    exact iEq (hJ _ _ ⟨_, rfl, fun _ => ⟨hp, h5⟩, hD12.ch hne hnb hS13 hch13, hrch (hr9.ext x12) hD12.src hch13⟩)
  clear hD9 hr9
  rintro _ w11 ⟨t, rfl, ht, hD, hr⟩
  intro _
  simp only [gx]
  cases t
  · exact iCndF rfl (fin w11 n l v vv L hD hr)
  obtain ⟨hpo, h5⟩ := ht rfl
  obtain ⟨hQ, hn0, hl0⟩ := posetOk_po hpo
  have hq8 := hQ.ok.1
  refine iCndT rfl ?_
  refine ⟨fun c => c = b, iLdA hD.B7 rfl ⟨fun w15 h => iLdA (hD.B7.ch h (by omega)) rfl rfl, fun w16 x16 => ?_⟩⟩
  have hD16 := hD.ext x16
  refine iCall ((ok_spec_l16Some hne hc2 hD16.src 3 (by omega)).mono ?_)
  rintro _ w17 ⟨⟨n3, a3, v3, rfl, hn3, ha3, ho3⟩, hS17, hch17⟩
  refine ⟨hch17, fun w18 x18 => ?_⟩
  have hD18 := (hD16.ch hne hnb hS17 hch17).ext x18
  have ho3 := ho3.ext x18
  have hQs : ∀ {w' : World}, Ow w2.heap.size t_i64 w' vq (ints lq) → SlN w' vq (frOf nq lq).a := fun h => by
    have := h.sl
    unfold SlN
    rw [← hl0]; exact this
  have hjo := ok_spec_l16Join (f := frOf nq lq) (g := ⟨n3, a3⟩) hQ.ok ⟨by show n3 ≤ 8; omega, ha3.1, ha3.2⟩ (hQs hD18.oq) ho3.sl
  rw [← hn0] at hjo
  refine iCall (hjo.mono ?_)
  rintro _ w19 ⟨x19, v', rfl, ho'⟩
  intro w20 x20
  have hs18 := hD18.src.ext.size
  have ho20 := (ho'.mono hs18).ext x20
  have hD20 := (hD18.ext x19).ext x20
  refine iStAB hD20.B8 rfl rfl (ho20.pair _) fun w21 hu21 hB21 => ?_
  intro w22 x22
  have hlt8 := hD20.B8.lt
  have hD21 : DS e w2 vc b b2 b5 b7 b8 ((sumFr (frOf nq lq) ⟨n3, a3⟩).n : Int) (nats (sumFr (frOf nq lq) ⟨n3, a3⟩).a) v' nq lq vq w21 :=
    ⟨hD20.src.upd hu21 (by omega) (by omega), hD20.B2.upd hu21 (by omega), hD20.B5.upd hu21 (by omega), hD20.B7.upd hu21 (by omega), hB21, ho20.upd hu21 (ho20.ne_blk hD20.B8 (by decide)), hD20.oq.upd hu21 (hD20.oq.ne_blk hD20.B8 (by decide))⟩
  have hD22 := hD21.ext x22
  generalize (nats (sumFr (frOf nq lq) ⟨n3, a3⟩).a) = l' at *
  generalize ((sumFr (frOf nq lq) ⟨n3, a3⟩).n : Int) = n' at *
  obtain ⟨m, hm⟩ : ∃ m : Nat, nq = (m : Int) ∧ (frOf nq lq).n = m := ⟨_, hn0, rfl⟩
  refine iFa (iLdB hD22.B7 (i := 0) (v := .int .i64 nq) rfl ?_)
  refine iRetQ (v := .int .i64 ((2 ^ m - 1 : Nat) : Int)) (fun w' _ => by rw [hm.1]; exact ok_spec_l01Full m (by omega) w') ?_
  refine iFa (iLdB hD22.B7 (i := 0) (v := .int .i64 nq) rfl ?_)
  refine iLdA hD22.B7 rfl ?_
  intro w23 x23
  have hD23 := hD22.ext x23
  have hse := ok_spec_l21Self m (by omega) w23
  rw [← hm.1] at hse
  refine iCall (hse.mono ?_)
  rintro u24 w24 ⟨x24, hu24⟩
  refine ⟨x24, fun w25 x25 => ?_⟩
  have hD25 := (hD23.ext x24).ext x25
  have hva := ok_spec_l21Values (f := frOf nq lq) hQ.ok (by omega) (w := w25) (vi := u24) (by rw [hm.2]; exact (hu24.ext x25).sl) (hQs hD25.oq)
  rw [← hn0, hm.2] at hva
  refine iCall (hva.mono ?_)
  rintro u26 w26 ⟨x26, L', hL', hu26⟩
  intro w27 x27
  have hD27 := (hD25.ext x26).ext x27
  have hu27 := (hu26.mono hD25.src.ext.size).ext x27
  refine iCall ((ok_spec_l01Next hc2 hD27.src 4).mono ?_)
  rintro _ w28 ⟨⟨y, rfl, _, _⟩, hS28, hch28⟩
  have hD28 := hD27.ch hne hnb hS28 hch28
  have hu28 := hu27.srcD hD27.src hne hch28
  have hvv : ∀ c, u26.ownBlock = some c → v'.ownBlock ≠ some c ∧ vq.ownBlock ≠ some c := fun c hc' => by
    have h1 := (hu26.blk c hc').1
    refine ⟨fun h => ?_, fun h => ?_⟩
    · have := (hD25.op.blk c h).2; omega
    · have := (hD25.oq.blk c h).2; omega
  refine iEq ?_
  refine iJnX (fun xs wq => xs = [] ∧ ∃ L' : List Int, L'.length = 6 ∧ DS e w2 vc b b2 b5 b7 b8 n' l' v' nq lq vq wq ∧ Ow w2.heap.size t_i64 wq u26 (ints L')) (fun J hJ => ?_) ?_
  · refine iCndP (fun _ => ?_) (fun _ => hJ [] _ ⟨rfl, L', hL', hD28, hu28⟩)
    refine iCall ((ok_spec_l01Next hc2 hD28.src 6).mono ?_)
    rintro _ w31 ⟨⟨z, rfl, hz, _⟩, hS31, hch31⟩
    have hz := hz (by omega)
    have hD31 := hD28.ch hne hnb hS31 hch31
    have hu31 := hu28.srcD hD28.src hne hch31
    refine iIaOwE hu31 (j := z) (by rw [ints_length]; omega) fun bu hbu hwr => ?_
    obtain ⟨h1, h2, h3⟩ := hwr w31 _ rfl hu31
    refine iSt (by rw [h1, List.getElem?_eq_getElem (by rw [ints_length]; omega)]) h2 rfl ?_
    have hset := Upd.setCell w31 bu z (.int .i64 0)
    have hbl := hu31.blk bu hbu
    have h4 := h3 (.int .i64 0)
    have e1 : (ints L').set z (.int .i64 0) = ints (L'.set z 0) := by simp [ints, List.map_set]
    rw [e1] at h4
    have nb : ∀ {c : Nat} {cs : List Value}, Blk 26 w31 c cs → c ≠ bu := fun h h' => hu31.ne_blk h (by decide) (by rw [hbu, h'])
    refine hJ [] _ ⟨rfl, L'.set z 0, by rw [List.length_set]; exact hL', ⟨hD31.src.upd hset (fun h' => hD31.src.neOw hu31 hne (by rw [hbu, h'])) hbl.1, hD31.B2.upd hset (nb hD31.B2), hD31.B5.upd hset (nb hD31.B5), hD31.B7.upd hset (nb hD31.B7), hD31.B8.upd hset (nb hD31.B8), hD31.op.upd hset (hvv bu hbu).1, hD31.oq.upd hset (hvv bu hbu).2⟩, h4⟩
  · rintro _ w30 ⟨rfl, L2, hL2, hD30, hu30⟩
    intro _
    obtain ⟨g, cap, hvu, hcap, hrd⟩ := hu30.rdB (by omega) (Nat.zero_le _)
    have hrd : RdB w2.heap.size t_i64 w30 u26 L2 := by rw [hvu]; simpa using hrd
    exact fin w30 n' l' v' u26 L2 hD30 hrd
end Go.Proofs.YtikfhibcdhdglaaGreat

/- Plain facts: the sets that a map onto a poset makes show it, just where the root is drawn. No program in sight. Conditions: none. -/
namespace Go.Proofs.YtikfhibcdhdglaaGreat
open Go.Vc
theorem madeL_get {q : Fr} {F : List Nat} {m x : Nat} (h6 : q.n ≤ 6) : vV (madeL q F m) x = if x < q.n then spr (pullN F (q.a.getD x 0)) m else 0 := by
  show (madeL q F m).getD x 0 = _
  unfold madeL
  rw [List.getD_eq_getElem?_getD]
  by_cases h : x < 6
  · simp [h]
  · rw [List.getElem?_eq_none (by simp; omega), if_neg (by omega)]; rfl
theorem madeL_bit {f q : Fr} (hP : Po f) (h6 : q.n ≤ 6) {m : Nat} (hm : m ∈ upsets f) {F : List Nat} (hl : F.length = (mem m).length) {x v : Nat} :
    (vV (madeL q F m) x).testBit v = true ↔ m.testBit v = true ∧ (ownV q x).testBit (F.getD ((mem m).idxOf v) 0) = true := by
  have h63 := mask63 hP.ok (upsets_lt hm)
  rw [madeL_get h6]
  unfold ownV
  by_cases hx : x < q.n
  · rw [if_pos hx, if_pos hx, spr_bit h63]
    refine and_congr_right fun hv => ?_
    rw [pullN_testBit _ _ _ (by rw [hl]; exact (at_idx ((mem_mem h63).2 hv)).1)]
  · rw [if_neg hx, if_neg hx]; simp
section
variable {f q : Fr} (hP : Po f) (hQ : Po q) (h6 : q.n ≤ 6) {m : Nat} (hm : m ∈ upsets f) {F : List Nat} (hl : F.length = (mem m).length) (hy : ∀ y ∈ F, y < q.n)
  (hmo : ∀ i, i < (mem m).length → img F ((partFr f m).a.getD i 0) = q.a.getD (F.getD i 0) 0)
 include hP hQ h6 hm hl hy hmo
theorem made_map : ∀ v, m.testBit v = true → ∀ y, q.r (F.getD ((mem m).idxOf v) 0) y ↔ ∃ u, f.r v u ∧ F.getD ((mem m).idxOf u) 0 = y := by
  obtain ⟨hm2, hup⟩ := (upsets_iff hP).1 hm
  have hm63 := mask63 hP.ok hm2
  have hmm : ∀ v, v ∈ mem m ↔ m.testBit v = true := fun v => mem_mem hm63
  have hpb : ∀ i j, (((partFr f m).a.getD i 0).testBit j = true) ↔ i < (mem m).length ∧ j < (mem m).length ∧ f.r ((mem m).getD i 0) ((mem m).getD j 0) := fun i j => part_bit i j
  have hmn := mem_nodup m
  have _ := hQ
  have _ := h6
  have _ := hy
  generalize mem m = M at *
  have hid : ∀ v, m.testBit v = true → M.idxOf v < M.length ∧ M.getD (M.idxOf v) 0 = v := fun v hv => at_idx ((hmm v).2 hv)
  intro v hv y
  have hi := hid v hv
  have e := hmo _ hi.1
  show (q.a.getD (F.getD (M.idxOf v) 0) 0).testBit y = true ↔ _
  rw [← e, img_testBit]
  constructor
  · rintro ⟨k, hk, hk1, hk2⟩
    obtain ⟨_, hk3, hk4⟩ := (hpb _ _).1 hk1
    rw [hi.2] at hk4
    exact ⟨M.getD k 0, hk4, by rw [idx_at hmn hk3, hk2]⟩
  · rintro ⟨u, hu, rfl⟩
    have hk := hid u (hup v u hv hu)
    exact ⟨M.idxOf u, by omega, (hpb _ _).2 ⟨hi.1, hk.1, by rw [hi.2, hk.2]; exact hu⟩, rfl⟩
theorem made_lt {v : Nat} (hv : m.testBit v = true) : v < f.n ∧ F.getD ((mem m).idxOf v) 0 < q.n := by
  have hm2 := upsets_lt hm
  have hm63 := mask63 hP.ok hm2
  have _ := hQ
  have _ := h6
  have _ := hmo
  exact ⟨bit_lt_n hm2 hv, getD_lt hy (by rw [hl]; exact (at_idx ((mem_mem hm63).2 hv)).1)⟩
theorem made_up : ∀ x ∈ madeL q F m, x ∈ upsets f := by
  intro x hx
  obtain ⟨i, hi, rfl⟩ := List.getElem_of_mem hx
  have hm2 := upsets_lt hm
  have hup := ((upsets_iff hP).1 hm).2
  have e : (madeL q F m)[i] = vV (madeL q F m) i := by show _ = (madeL q F m).getD i 0; simp [hi]
  rw [e]
  have hb : ∀ v, _ := fun v => madeL_bit hP h6 hm hl (x := i) (v := v)
  refine (upsets_iff hP).2 ⟨?_, fun v u hv hr => ?_⟩
  · rw [madeL_get h6]
    split
    · exact spr_lt hm2 (by have := hP.ok.1; omega)
    · exact Nat.two_pow_pos _
  · rw [hb] at hv ⊢
    exact ⟨hup v u hv.1 hr, ((upsets_iff hQ).1 (ownV_ok hQ i)).2 _ _ hv.2 ((made_map hP hQ h6 hm hl hy hmo v hv.1 _).2 ⟨u, hr, rfl⟩)⟩
theorem made_frc (a : Fm) {v : Nat} (hv : m.testBit v = true) : (frc f (vV (madeL q F m)) a).testBit v = (frc q (ownV q) a).testBit (F.getD ((mem m).idxOf v) 0) :=
  frc_map hP.ok hQ.ok (U := fun v => m.testBit v = true) (h := fun v => F.getD ((mem m).idxOf v) 0) (fun _ h => made_lt hP hQ h6 hm hl hy hmo h) (fun v u h hr => ((upsets_iff hP).1 hm).2 v u h hr) (made_map hP hQ h6 hm hl hy hmo)
    (fun x v h => by
      have h : m.testBit v = true := h
      rw [Bool.eq_iff_iff, madeL_bit hP h6 hm hl]
      exact ⟨fun h' => h'.2, fun h' => ⟨h, h'⟩⟩) a v hv
theorem made_prem (hr : Rooted q) {v : Nat} (hv : m.testBit v = true) {a : Fm} (ha : a ∈ premF q) : (frc f (vV (madeL q F m)) a).testBit v = true := by
  rw [made_frc hP hQ h6 hm hl hy hmo a hv, own_prem hQ hr ha, full_testBit]
  exact decide_eq_true (made_lt hP hQ h6 hm hl hy hmo hv).2
theorem made_conc (hr : Rooted q) {v : Nat} (hv : m.testBit v = true) : (frc f (vV (madeL q F m)) (concF q)).testBit v = !decide (F.getD ((mem m).idxOf v) 0 = rootN q) := by
  rw [made_frc hP hQ h6 hm hl hy hmo _ hv, Bool.eq_iff_iff, own_conc hQ hr, Bool.not_eq_true', decide_eq_false_iff_not]
  exact ⟨fun h => h.2, fun h => ⟨(made_lt hP hQ h6 hm hl hy hmo hv).2, h⟩⟩
theorem made_shows (hr : Rooted q) {v : Nat} (hv : m.testBit v = true) : showB f (vV (madeL q F m)) v q = decide (F.getD ((mem m).idxOf v) 0 = rootN q) := by
  unfold showB
  rw [made_conc hP hQ h6 hm hl hy hmo hr hv, Bool.not_not]
  have : ((premF q).all fun a => (frc f (vV (madeL q F m)) a).testBit v) = true := List.all_eq_true.2 fun a ha => made_prem hP hQ h6 hm hl hy hmo hr hv ha
  rw [this, Bool.true_and]
end
/-- What shows a poset has it as an image of a part. -/
theorem shows_bel {f q : Fr} (hP : Po f) (hQ : Po q) (hr : Rooted q) {V : Nat → Nat} (hV : ValOk f V) {x : Nat} (h : showB f V x q = true) : Bel f q := by
  unfold showB at h
  rw [Bool.and_eq_true, List.all_eq_true, Bool.not_eq_true'] at h
  exact jankov hP hQ hr hV h.1 (by rw [h.2]; simp)
/-- What the search for a part finds. -/
theorem partOut_at {f q : Fr} (hP : Po f) (hq : q.ok) {m : Nat} {F : List Nat} (h : partOut f q = some (m, F)) : m ∈ upsets f ∧ F.length = (mem m).length ∧ (∀ y ∈ F, y < q.n) ∧ ∀ i, i < (mem m).length → img F ((partFr f m).a.getD i 0) = q.a.getD (F.getD i 0) 0 := by
  obtain ⟨hm, Fs, hL⟩ := partOut_some h
  have hF : F ∈ leaves (fitsB (partFr f m) q true false) q.n (partFr f m).n [] := by rw [hL]; simp
  rw [mem_leaves (part_ok hP.ok (upsets_lt hm)) hq] at hF
  exact ⟨hm, hF.1, hF.2.1, fun i hi => hF.2.2.1 i hi⟩
end Go.Proofs.YtikfhibcdhdglaaGreat

/- The laws' helpers: sizes of codes, equal lists and frames. Conditions: none. -/
namespace Go.Vc
end Go.Vc
namespace Go.Proofs.YtikfhibcdhdglaaGreat
open Go.Vc
theorem ok_laws_big {vc : Value} {w : World} {bs : List Nat} (hc : SlB w vc bs) : Ret Tryz.prog f_laws_big #[vc] w (.bool (decide ((4096 : Int) < (bs.length : Nat)))) := by
  apply c_laws_big; unfold S_laws_big
  refine iLenB hc ?_
  refine iLt ?_
  exact ⟨rfl, Ext.refl _⟩
end Go.Proofs.YtikfhibcdhdglaaGreat

/- The law on Jankov's formulas: its contract. Conditions: none. -/
namespace Go.Proofs.YtikfhibcdhdglaaGreat
open Go.Vc
theorem iBoolNeJ {a b : Bool} {K : Value → Prop} (h : K (.bool (false == (a == b)))) : xBoolEq false (.bool a) (.bool b) K := ⟨_, _, rfl, rfl, h⟩
theorem showRes_zero {n : Int} {l vs : List Int} {x nq : Int} {lq : List Int} (h : (showRes n l vs x nq lq).2 = 0) : valB n l vs = true ∧ posetOk nq lq = true ∧ (0 ≤ x ∧ x ≤ n - 1) ∧ codeJ nq lq = 0 ∧ showRes n l vs x nq lq = (showB (frOf n l) (vV (vs.map Int.toNat)) x.toNat (frOf nq lq), 0) := by
  unfold showRes at h ⊢
  by_cases h1 : valB n l vs = true ∧ posetOk nq lq = true
  · rw [if_pos h1] at h ⊢
    by_cases h2 : 0 ≤ x ∧ x ≤ n - 1
    · rw [if_pos h2] at h ⊢
      by_cases h3 : codeJ nq lq = 0
      · rw [if_pos h3]; exact ⟨h1.1, h1.2, h2, h3, rfl⟩
      · rw [if_neg h3] at h; exact absurd h h3
    · rw [if_neg h2] at h; cases h
  · rw [if_neg h1] at h; cases h
theorem showRes_not {n : Int} {l vs : List Int} {x nq : Int} {lq : List Int} (h : ¬ (showRes n l vs x nq lq).2 = 0) : (showRes n l vs x nq lq).1 = false := by
  unfold showRes at h ⊢
  by_cases h1 : valB n l vs = true ∧ posetOk nq lq = true
  · rw [if_pos h1] at h ⊢
    by_cases h2 : 0 ≤ x ∧ x ≤ n - 1
    · rw [if_pos h2] at h ⊢
      by_cases h3 : codeJ nq lq = 0
      · rw [if_pos h3] at h; exact absurd rfl h
      · rw [if_neg h3]
    · rw [if_neg h2]
  · rw [if_neg h1]
theorem ok_impl_JankovPremises {v : Value} {w : World} {n : Int} {l : List Int} (hs : SlI w v l) (hc : codeJ n l = 0) : Cal Tryz.prog f_impl_JankovPremises #[.agg #[.int .i64 n, v]] w fun r w' => Ext w w' ∧ ∃ u L, r = .tuple #[u, .int .i64 0] ∧ RF w.heap.size w' u L ∧ EF w.heap.size w' L ∧ L.map Prod.snd = premF (frOf n l) := by
  obtain ⟨hpo, hr, _⟩ := codeJ_zero hc
  obtain ⟨hQ, hn, hl⟩ := posetOk_po hpo
  apply c_impl_JankovPremises; unfold S_impl_JankovPremises
  refine iNew fun b w1 hb x1 hB => ?_
  have hB : Blk 26 w1 b [.int .i64 n, v] := hB
  refine iLdA hB rfl ?_
  refine iRet (ok_impl_jankovCodeZ (hs.ext x1)) fun w2 x2 => ?_
  rw [hc]
  refine iNe (iCndF (by decide) (iLdA (hB.ext x2) rfl ?_))
  have hsn : SlN w2 v (frOf n l).a := by
    have := (hs.ext x1).ext x2
    unfold SlN
    rw [← hl]; exact this
  have hp := ok_impl_premises hQ.ok hr hsn
  rw [← hn] at hp
  refine iCall (hp.mono ?_)
  rintro u w3 ⟨x3, L, h1, h2, h3⟩
  have hz := (x1.trans x2).size
  exact ⟨(x1.trans x2).trans x3, u, L, rfl, h1.mono hz, h2.mono hz, h3⟩
theorem ok_impl_JankovConclusion {v : Value} {w : World} {n : Int} {l : List Int} (hs : SlI w v l) (hc : codeJ n l = 0) : Cal Tryz.prog f_impl_JankovConclusion #[.agg #[.int .i64 n, v]] w fun r w' => Ext w w' ∧ ∃ u, r = .tuple #[u, .int .i64 0] ∧ FmW w.heap.size w' u (concF (frOf n l)) := by
  obtain ⟨hpo, hr, _⟩ := codeJ_zero hc
  obtain ⟨hQ, hn, hl⟩ := posetOk_po hpo
  apply c_impl_JankovConclusion; unfold S_impl_JankovConclusion
  refine iNew fun b w1 hb x1 hB => ?_
  have hB : Blk 26 w1 b [.int .i64 n, v] := hB
  refine iLdA hB rfl ?_
  refine iRet (ok_impl_jankovCodeZ (hs.ext x1)) fun w2 x2 => ?_
  rw [hc]
  refine iNe (iCndF (by decide) (iLdA (hB.ext x2) rfl ?_))
  have hsn : SlN w2 v (frOf n l).a := by
    have := (hs.ext x1).ext x2
    unfold SlN
    rw [← hl]; exact this
  have hp := ok_impl_conclusion hQ.ok hr hsn
  rw [← hn] at hp
  refine iCall (hp.mono ?_)
  rintro u w3 ⟨x3, h1⟩
  exact ⟨(x1.trans x2).trans x3, u, rfl, OwK.mono h1 (x1.trans x2).size⟩
theorem ok_laws_FnJankov {w : World} {vc : Value} {bs : List Nat} (hc : SlB w vc bs) : Ret Tryz.prog f_laws_FnJankov #[vc] w (.bool true) := by
  apply c_laws_FnJankov; unfold S_laws_FnJankov
  refine iRet (ok_laws_big hc) fun w1 x1 => ?_
  refine iCndP (fun _ => ⟨rfl, x1⟩) (fun _ => ?_)
  refine iCall ((ok_spec_DrawShows (hc.ext x1)).mono ?_)
  rintro _ w2 ⟨x2, n, l, v, vv, L, x, nq, lq, vq, rfl, hov, hrv, hoq⟩
  refine iEx rfl (iEx rfl (iEx rfl (iEx rfl ?_)))
  have X2 := x1.trans x2
  have hs2 := hov.sl
  have hv2 := hrv.sl
  have hq2 := hoq.sl
  refine iNew fun b3 w3 hb3 x3 hB3 => ?_
  refine iNew fun b6 w4 hb6 x4 hB6 => ?_
  refine iStAB (hB3.ext x4) rfl rfl ((hov.ext (x3.trans x4)).pair n) fun w5 hu5 hB3' => ?_
  refine iStAB (hB6.upd hu5 (by omega)) rfl rfl (fun u hu => ?_) fun w6 hu6 hB6' => ?_
  · simp at hu
    rcases hu with rfl | rfl
    · rfl
    · exact hoq.cell
  have x26 : Ext w2 w6 := ((x3.trans x4).upd hu5 (by omega)).upd hu6 (by omega)
  have hB3 : Blk 26 w6 b3 [.int .i64 n, v] := hB3'.upd hu6 (by omega)
  have hB6 : Blk 26 w6 b6 [.int .i64 nq, vq] := hB6'
  have hs6 : SlI w6 v l := Sl.ext hs2 x26
  have hv6 : SlI w6 vv L := hv2.ext x26
  have hq6 : SlI w6 vq lq := Sl.ext hq2 x26
  have X6 := X2.trans x26
  clear hB3' hB6' hu5 hu6 hs2 hv2 hq2 hov hrv hoq
  refine iLdA hB3 rfl (iLdA hB6 rfl ?_)
  refine iRet (ok_impl_Shows hs6 hv6 hq6 x) fun w7 x7 => iE20 (iE21 ?_)
  refine iLdA (hB3.ext x7) rfl (iLdA (hB6.ext x7) rfl ?_)
  refine iRet (ok_spec_Shows (hs6.ext x7) (hv6.ext x7) (hq6.ext x7) x) fun w8 x8 => iE20 (iE21 ?_)
  have x68 := x7.trans x8
  refine iJnB false w8 (fun J hJ => ?_) (fun w10 x10 => fun _ => iCndF rfl ?_)
  · refine iNe (iCndF (decide_eq_false fun h => h rfl) ?_)
    refine iBoolNeJ ?_
    rw [show (false == ((showRes n l L x nq lq).1 == (showRes n l L x nq lq).1)) = false by cases (showRes n l L x nq lq).1 <;> rfl]
    exact hJ _ (Ext.refl _)
  have X10 := (X6.trans x68).trans x10
  have x610 := x68.trans x10
  refine iNe (iCndP (fun hz => ?_) (fun hz => ?_))
  · refine iNot ⟨?_, X10⟩
    rw [showRes_not hz]; rfl
  have hz : (showRes n l L x nq lq).2 = 0 := Classical.not_not.1 hz
  obtain ⟨hval, hpq, hx, hcj, hsr⟩ := showRes_zero hz
  obtain ⟨hpo, vals, rfl, h6, hup⟩ := valB_ok hval
  obtain ⟨hP, hn0, hl0⟩ := posetOk_po hpo
  obtain ⟨hQ, hn1, hl1⟩ := posetOk_po hpq
  obtain ⟨_, hroot, h5⟩ := codeJ_zero hcj
  have hP8 := hP.ok.1
  rw [map_toNat] at hsr
  rw [hsr]
  obtain ⟨z, rfl⟩ := Int.eq_ofNat_of_zero_le hx.1
  have hsz : showB (frOf n l) (vV vals) (Int.ofNat z).toNat (frOf nq lq) = showB (frOf n l) (vV vals) z (frOf nq lq) := rfl
  have hs10 := hs6.ext x610
  have hq10 := hq6.ext x610
  refine iLdA (hB3.ext x610) rfl (iLdA (hB6.ext x610) rfl ?_)
  refine iCall ((ok_impl_FindPart hs10 hq10 n nq).mono ?_)
  rintro _ w11 ⟨x11, vF, rfl, hoF⟩
  refine iE30 (iE31 (iE32 ?_))
  have x611 := x610.trans x11
  have X11 := X10.trans x11
  have hpr : partRes n l nq lq = (((pmO (partOut (frOf n l) (frOf nq lq)) : Nat) : Int), nats (pfO (partOut (frOf n l) (frOf nq lq))), if (partOut (frOf n l) (frOf nq lq)).isSome then 0 else 4) := by
    unfold partRes; rw [hpo, hpq]; rfl
  rw [hpr] at hoF ⊢
  have hbel := bel_iff hP hQ.ok
  refine iJnB false w11 (fun J hJ => ?_) (fun w13 x13 => fun _ => iCndF rfl ?_)
  · show cnd (.bool (showB (frOf n l) (vV vals) z (frOf nq lq))) _ _
    have tail : xNe .i64 (.int .i64 (if (partOut (frOf n l) (frOf nq lq)).isSome then 0 else 4)) (.int .i64 0) fun v83 => cnd v83 (xNe .i64 (.int .i64 (if (partOut (frOf n l) (frOf nq lq)).isSome then 0 else 4)) (.int .i64 4) fun v86 => J [v86] w11) (J [.bool false] w11) := by
      refine iNe ?_
      cases hs : (partOut (frOf n l) (frOf nq lq)).isSome
      · exact iCndT (by simp) (iNe (hJ _ (Ext.refl _)))
      · exact iCndF (by simp) (hJ _ (Ext.refl _))
    cases hb : showB (frOf n l) (vV vals) z (frOf nq lq)
    · exact iCndF rfl tail
    · refine iCndT rfl ?_
      rw [hbel.2 (shows_bel hP hQ hroot (vV_ok hP hup) hb)] at tail ⊢
      exact iNe (iCndF (by simp) tail)
  have x613 := x611.trans x13
  have X13 := X11.trans x13
  refine iLdA (hB6.ext x613) rfl ?_
  refine iCall ((ok_impl_JankovPremises (hq6.ext x613) hcj).mono ?_)
  rintro _ w14 ⟨x14, uP, LP, rfl, hRP, hEP, hLP⟩
  refine iE20 (iE21 ?_)
  have x614 := x613.trans x14
  refine iLdA (hB6.ext x614) rfl ?_
  refine iCall ((ok_impl_JankovConclusion (hq6.ext x614) hcj).mono ?_)
  rintro _ w15 ⟨x15, uC, rfl, hC⟩
  refine iE20 (iE21 (iAdd (by decide) (iNe (iCndF (by decide) ?_))))
  have x615 := x614.trans x15
  have X15 := (X13.trans x14).trans x15
  refine iNe ?_
  cases hso : partOut (frOf n l) (frOf nq lq) with
  | none => exact iCndT (by simp) ⟨rfl, X15⟩
  | some mF =>
  obtain ⟨m, F⟩ := mF
  rw [hso] at hoF
  refine iCndF (by simp) ?_
  obtain ⟨hm, hFl, hFy, hmo⟩ := partOut_at hP hQ.ok hso
  have hm2 := upsets_lt hm
  have hF8 : F.length ≤ 8 := by have := mem_len hP.ok hm2; omega
  have h2n : 2 ^ (frOf n l).n ≤ 2 ^ 8 := Nat.pow_le_pow_right (by omega) hP8
  have x1115 := (x13.trans x14).trans x15
  have hF15 : SlN w15 vF F := Sl.ext hoF.sl x1115
  have hPs : ∀ {w' : World}, Ext w6 w' → SlN w' v (frOf n l).a := fun h => by
    have := hs6.ext h
    unfold SlN
    rw [← hl0]; exact this
  have hQs : ∀ {w' : World}, Ext w6 w' → SlN w' vq (frOf nq lq).a := fun h => by
    have := hq6.ext h
    unfold SlN
    rw [← hl1]; exact this
  refine iLdA (hB3.ext x615) rfl (iLdA (hB6.ext x615) rfl ?_)
  have hsv := ok_impl_ShowingValues hP hQ (by omega) (hPs x615) (hQs x615) hm hF15 hFl hFy hmo
  rw [← hn0, ← hn1] at hsv
  refine iCall (hsv.mono ?_)
  rintro _ w16 ⟨x16, vM, rfl, hM⟩
  refine iE20 (iE21 ?_)
  have x616 := x615.trans x16
  refine iFa (iLdB (hB3.ext x616) (i := 0) (v := .int .i64 n) rfl ?_)
  have hmem := ok_impl_MembersOf (frOf n l).n m (by omega) hm2 w16
  rw [← hn0] at hmem
  refine iCall (hmem.mono ?_)
  rintro _ w17 ⟨x17, vE, rfl, hE⟩
  refine iE20 (iE21 ?_)
  have x617 := x616.trans x17
  refine iLdA (hB6.ext x617) rfl ?_
  have hro := ok_impl_RootOf hQ hroot (hQs x617)
  rw [← hn1] at hro
  refine iRet hro fun w18 x18 => iE20 (iE21 ?_)
  have x618 := x617.trans x18
  have x1518 := (x16.trans x17).trans x18
  have hE18 : SlN w18 vE (mem m) := Sl.ext hE.sl x18
  have hM18 : SlN w18 vM (madeL (frOf nq lq) F m) := hM.ext (x17.trans x18)
  have hF18 := hF15.ext x1518
  have hmup := made_up hP hQ (by omega) hm hFl hFy hmo
  have hvb : valB n l (nats (madeL (frOf nq lq) F m)) = true := by
    unfold valB
    rw [hpo, nats_length, decide_eq_true (madeL_len _ _ _), Bool.true_and, Bool.true_and, List.all_eq_true]
    intro y hy
    obtain ⟨i, hi, rfl⟩ := List.mem_map.1 hy
    exact upB_of (hmup i hi)
  refine iJnB false w18 (fun J hJ => ?_) (fun w20 x20 => fun _ => iCndF rfl ?_)
  · refine iAdd (by decide) (iAdd (by decide) (iNe (iCndF (by decide) ?_)))
    refine iLenN hE18 (iLenN hF18 (iNe (iCndF (decide_eq_false (by omega)) ?_)))
    refine iLdA (hB3.ext x618) rfl ?_
    refine iRet (ok_impl_IsValuation (hs6.ext x618) hM18) fun w21 x21 => iNot ?_
    rw [hvb]
    exact hJ _ x21
  have x620 := x618.trans x20
  have hX20 : Ext w w20 := X6.trans x620
  refine iLp (fun k : Nat => [.int .i64 (k : Int)]) (fun k w' => k ≤ F.length ∧ Ext w20 w') (fun k => F.length - k) 0 rfl ⟨Nat.zero_le _, Ext.refl _⟩ ?_
  rintro k w23 Kn ⟨hk, x23⟩ hKn
  have x623 := x620.trans x23
  have x1823 := x20.trans x23
  intro _
  simp only [gx]
  refine iLenN (hF18.ext x1823) (iLt (iCndP (fun h => ?_) (fun h => ⟨by first | trivial | rfl, hX20.trans x23⟩)))
  have hk1 : k < F.length := by omega
  have hke : (mem m).getD k 0 ∈ mem m := getD_mem (by omega)
  have hm63 := mask63 hP.ok hm2
  have hbit : m.testBit ((mem m).getD k 0) = true := (mem_mem hm63).1 hke
  have hidx : (mem m).idxOf ((mem m).getD k 0) = k := idx_at (mem_nodup m) (by omega)
  have helt : (mem m).getD k 0 < (frOf n l).n := bit_lt_n hm2 hbit
  have hsh := made_shows hP hQ (by omega) hm hFl hFy hmo hroot hbit
  rw [hidx] at hsh
  have hres : showRes n l (nats (madeL (frOf nq lq) F m)) (((mem m).getD k 0 : Nat) : Int) nq lq = (decide (F.getD k 0 = rootN (frOf nq lq)), 0) := by
    unfold showRes
    rw [if_pos ⟨hvb, hpq⟩, if_pos (by omega), if_pos hcj, map_toNat, Int.toNat_natCast, hsh]
  refine iLdA (hB3.ext x623) rfl ?_
  refine iIaNN (hE18.ext x1823) (by omega) fun p hp => iLd hp ?_
  refine iLdA (hB6.ext x623) rfl ?_
  refine iRetQ (fun w' x => ok_impl_Shows (hs6.ext (x623.trans x)) ((hM18.ext x1823).ext x) (hq6.ext (x623.trans x)) _) ?_
  refine iE20 (iE21 ?_)
  intro w24 x24
  have x624 := x623.trans x24
  have x1824 := x1823.trans x24
  rw [hres]
  refine iJnB false w24 (fun J hJ => ?_) (fun w26 x26' => fun _ => iCndF rfl ?_)
  · refine iNe (iCndF (by simp) ?_)
    refine iIaNN (hF18.ext x1824) hk1 fun p hp => iLd hp ?_
    refine iEq (iBoolNeJ ?_)
    have : (false == (decide (F.getD k 0 = rootN (frOf nq lq)) == decide (((F.getD k 0 : Nat) : Int) = ((rootN (frOf nq lq) : Nat) : Int)))) = false := by
      have : decide (((F.getD k 0 : Nat) : Int) = ((rootN (frOf nq lq) : Nat) : Int)) = decide (F.getD k 0 = rootN (frOf nq lq)) := decide_eq_decide.2 (by omega)
      rw [this]
      cases decide (F.getD k 0 = rootN (frOf nq lq)) <;> rfl
    rw [this]
    exact hJ _ (Ext.refl _)
  have x626 := x624.trans x26'
  have x1826 := x1824.trans x26'
  have x2026 := (x23.trans x24).trans x26'
  refine iIaNN (hF18.ext x1826) hk1 fun p hp => iLd hp ?_
  refine iNe (iCndP (fun hne => iAdd (by omega) (hKn (k + 1) _ ⟨by omega, x2026⟩ (by omega))) (fun hroot' => ?_))
  have hrk : F.getD k 0 = rootN (frOf nq lq) := by have := Classical.not_not.1 hroot'; omega
  -- all premises are forced
  have hLl : LP.length = (premF (frOf nq lq)).length := by rw [← hLP, List.length_map]
  have hLl6 := premF_len hQ.ok
  refine iLp (fun i : Nat => [.int .i64 (i : Int)]) (fun i w' => i ≤ LP.length ∧ Ext w26 w') (fun i => LP.length - i) 0 rfl ⟨Nat.zero_le _, Ext.refl _⟩ ?_
  rintro i w28 Kn2 ⟨hi, x28⟩ hKn2
  have x628 := x626.trans x28
  have x1828 := x1826.trans x28
  have x1428 : Ext w14 w28 := x15.trans (x1518.trans x1828)
  have hR28 := Sl.ext hRP.sl x1428
  have hfo : ∀ {u : Value} {a : Fm}, FmS w28 u a → Fm.pl a → a.size ≤ 40 → ∀ w', Ext w28 w' → Ret Tryz.prog f_impl_IsForcedAt #[.agg #[.int .i64 n, v], vM, .int .i64 (((mem m).getD k 0 : Nat) : Int), u] w' (.tuple #[.bool ((frc (frOf n l) (vV (madeL (frOf nq lq) F m)) a).testBit ((mem m).getD k 0)), .int .i64 0]) := fun ha hpl hsz w' x => by
    have := ok_impl_IsForcedAt hP (hPs (x628.trans x)) ((hM18.ext x1828).ext x) (madeL_len _ _ _) hmup (SlK.ext ha x) hpl hsz helt
    rw [← hn0] at this; exact this
  intro _
  simp only [gx]
  refine iLenS hR28 ?_
  rw [List.length_map]
  refine iLt (iCndP (fun h => ?_) (fun h => ?_))
  · have hi1 : i < LP.length := by omega
    have hip : i < (premF (frOf nq lq)).length := by omega
    refine iLdA (hB3.ext x628) rfl ?_
    refine iIaNN (hE18.ext x1828) (by omega) fun p hp => iLd hp ?_
    refine iRdF (j := i) hR28 rfl hi1 ?_
    have e2 : LP[i].2 = (premF (frOf nq lq))[i] := by
      have h2 : (LP.map Prod.snd)[i]'(by rw [List.length_map]; exact hi1) = (premF (frOf nq lq))[i] := by simp only [hLP]
      rwa [List.getElem_map] at h2
    have hpp := prem_pl hQ.ok hroot (by omega) (List.getElem_mem hip)
    have hfm : FmS w28 LP[i].1 (premF (frOf nq lq))[i] := by rw [← e2]; exact SlK.ext (hEP.1 _ (List.getElem_mem hi1)).sl x1428
    refine iRetQ (hfo hfm hpp.1 hpp.2) ?_
    refine iE20 (iE21 ?_)
    intro w29 x29
    rw [made_prem hP hQ (by omega) hm hFl hFy hmo hroot hbit (List.getElem_mem hip)]
    refine iJnB false w29 (fun J hJ => ?_) (fun w31 x31 => fun _ => iCndF rfl ?_)
    · exact iNe (iCndF (by decide) (iNot (hJ _ (Ext.refl _))))
    · exact iAdd (by omega) (hKn2 (i + 1) _ ⟨by omega, (x28.trans x29).trans x31⟩ (by omega))
  · refine iLdA (hB3.ext x628) rfl ?_
    refine iIaNN (hE18.ext x1828) (by omega) fun p hp => iLd hp ?_
    have hcp := conc_pl (q := frOf nq lq) hQ.ok (by omega)
    refine iRetQ (hfo (SlK.ext hC.sl (x1518.trans x1828)) hcp.1 hcp.2) ?_
    refine iE20 (iE21 ?_)
    intro w32 x32
    have hcf := made_conc hP hQ (by omega) hm hFl hFy hmo hroot hbit
    rw [hidx, hrk, decide_eq_true rfl] at hcf
    rw [hcf]
    refine iJnB false w32 (fun J hJ => ?_) (fun w34 x34 => fun _ => iCndF rfl ?_)
    · exact iNe (iCndF (by decide) (hJ _ (Ext.refl _)))
    · exact iAdd (by omega) (hKn (k + 1) _ ⟨by omega, ((x2026.trans x28).trans x32).trans x34⟩ (by omega))
end Go.Proofs.YtikfhibcdhdglaaGreat
