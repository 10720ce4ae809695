/- The proof of FnImagesKeepValidityCard, part 6 of 7. Conditions: none. -/
import Derived.Test.YtaipnnkpplinoaaGreatDoorKR50e
namespace Go.Vc
abbrev RawW (lo : Nat) (e : TypeId) (w : World) (v : Value) (N : List RN) : Prop := OwK 2 lo e w v N.length (cellsN N)
theorem OwK.ne_src {k lo n : Nat} {e e' : TypeId} {w0 w : World} {vc v : Value} {b : Nat} {xs : List Value} (h : OwK k lo e' w v n xs) (hS : Vc.Src e w0 vc b w) (hne : e' ≠ e) : v.ownBlock ≠ some b := by
  intro hc
  obtain ⟨cur, h1⟩ := h.ty hc
  obtain ⟨_, _, _, _, h3, _⟩ := hS
  unfold Blk at h3
  rw [h1] at h3
  injection h3 with h3
  injection h3 with _ he _
  exact hne he
theorem OwK.src {k lo n : Nat} {e e' : TypeId} {w0 w w' : World} {vc v : Value} {b : Nat} {xs : List Value} (h : OwK k lo e' w v n xs) (hS : Vc.Src e w0 vc b w) (hne : e' ≠ e) (hch : Ch (fun c => c = b) w w') : OwK k lo e' w' v n xs :=
  h.ch hch fun c hc hb => h.ne_src hS hne (by rw [hc, hb])
def preF (y : Nat) (a : Fm) : Fm := if y = 0 then .box a else .dia a
theorem preF_cells {y : Nat} (hy : y < 2) (a : Fm) : (preF y a).cells = nd (5 + y) 0 ++ a.cells := by
  have : y = 0 ∨ y = 1 := by omega
  rcases this with rfl | rfl <;> rfl
theorem preF_size (y : Nat) (a : Fm) : (preF y a).size = 1 + a.size := by unfold preF; split <;> rfl
theorem preF_good (y : Nat) {a : Fm} (h : a.good) : (preF y a).good := by unfold preF; split <;> exact h
def binF (z : Nat) (a b : Fm) : Fm := if z = 0 then .and a b else if z = 1 then .or a b else .imp a b
theorem binF_cells {z : Nat} (hz : z < 3) (a b : Fm) : (binF z a b).cells = nd (2 + z) 0 ++ a.cells ++ b.cells := by
  have : z = 0 ∨ z = 1 ∨ z = 2 := by omega
  rcases this with rfl | rfl | rfl <;> rfl
theorem binF_size (z : Nat) (a b : Fm) : (binF z a b).size = 1 + a.size + b.size := by unfold binF; split; rfl; split <;> rfl
theorem binF_good (z : Nat) {a b : Fm} (h : a.good) (k : b.good) : (binF z a b).good := by unfold binF; split; exact ⟨h, k⟩; split <;> exact ⟨h, k⟩
theorem cellsN_set0 (N : List RN) (k : Nat) (hk : k < N.length) (x : Int) : (cellsN N).set (k * 2 + 0) (.int .i64 x) = cellsN (N.set k (x, N[k].2)) := by
  induction N generalizing k with
  | nil => simp at hk
  | cons q N ih =>
    cases k with
    | zero => rfl
    | succ k =>
      have ih := ih k (by simpa using hk)
      show (Value.int .i64 q.1 :: Value.int .i64 q.2 :: cellsN N).set ((k + 1) * 2 + 0) _ = Value.int .i64 q.1 :: Value.int .i64 q.2 :: cellsN (N.set k _)
      rw [Nat.add_zero] at ih
      rw [show (k + 1) * 2 + 0 = k * 2 + 1 + 1 by omega, List.set_cons_succ, List.set_cons_succ, ih]
      rfl
theorem cellsN_set1 (N : List RN) (k : Nat) (hk : k < N.length) (x : Int) : (cellsN N).set (k * 2 + 1) (.int .i64 x) = cellsN (N.set k (N[k].1, x)) := by
  induction N generalizing k with
  | nil => simp at hk
  | cons q N ih =>
    cases k with
    | zero => rfl
    | succ k =>
      have ih := ih k (by simpa using hk)
      show (Value.int .i64 q.1 :: Value.int .i64 q.2 :: cellsN N).set ((k + 1) * 2 + 1) _ = Value.int .i64 q.1 :: Value.int .i64 q.2 :: cellsN (N.set k _)
      rw [show (k + 1) * 2 + 1 = (k * 2 + 1) + 1 + 1 by omega, List.set_cons_succ, List.set_cons_succ, ih]
      rfl
theorem cellsN_take (N : List RN) (k : Nat) : (cellsN N).take (k * 2) = cellsN (N.take k) := by
  induction N generalizing k with
  | nil => simp [cellsN]
  | cons q N ih =>
    cases k with
    | zero => simp [cellsN]
    | succ k =>
      rw [cellsN_cons, List.take_succ_cons, cellsN_cons, ← ih k, show (k + 1) * 2 = (rcell q).length + k * 2 by show _ = 2 + k * 2; omega, List.take_length_add_append]
theorem cellsN_drop (N : List RN) (k : Nat) : (cellsN N).drop (k * 2) = cellsN (N.drop k) := by
  induction N generalizing k with
  | nil => simp [cellsN]
  | cons q N ih =>
    cases k with
    | zero => simp
    | succ k =>
      rw [cellsN_cons, List.drop_succ_cons, ← ih k, show (k + 1) * 2 = (rcell q).length + k * 2 by show _ = 2 + k * 2; omega, List.drop_length_add_append]
theorem cellsN_cell (N : List RN) : ∀ u ∈ cellsN N, isCell u = true := fun u hu => by
  obtain ⟨q, _, hq⟩ := List.mem_flatMap.1 hu
  simp only [rcell, List.mem_cons, List.not_mem_nil, or_false] at hq
  rcases hq with rfl | rfl <;> rfl
theorem iBs5D {w : World} {e : TypeId} {a b c d f : Int} {K : Value → World → Prop} (h : ∀ bb w', bb = w.heap.size ∧ w'.heap.size = bb + 1 → Ext w w' → Blk e w' bb (ints [a, b, c, d, f]) → K (.slice (some ⟨bb, 0, none⟩) 5 5) w') :
    xBs e (Value.cells (.int .i64 0)) 1 5 [(0, .int .i64 a), (1, .int .i64 b), (2, .int .i64 c), (3, .int .i64 d), (4, .int .i64 f)] w K := by
  refine ⟨#[.int .i64 a, .int .i64 b, .int .i64 c, .int .i64 d, .int .i64 f], ?_, h _ _ ⟨rfl, by simp⟩ (Ext.alloc w _) (Blk.new w #[.int .i64 a, .int .i64 b, .int .i64 c, .int .i64 d, .int .i64 f] e)⟩
  simp [Instr.fill, Value.cells, show Array.range 5 = #[0, 1, 2, 3, 4] from rfl]
end Go.Vc
namespace Go.Proofs.YtaipnnkpplinoaaGreatDoor
open Go.Vc
theorem ok_spec_l02Draw {e : TypeId} (hneN : t_impl_Node ≠ e) {w0 : World} {vc : Value} {bs : List Nat} (hc : SlB w0 vc bs) {b k : Nat} (hk : 1 ≤ k ∧ k ≤ 6) (m : Bool) : ∀ (n : Nat) {w : World}, Vc.Src e w0 vc b w → 1 ≤ n → n ≤ 1000 →
    Drw Tryz.prog f_spec_l02Draw #[.pointer (some ⟨b, 0, none⟩), .int .i64 (n : Int), .int .i64 (k : Int), .bool m] e w0 vc b w fun r w' => ∃ f : Fm, f.good ∧ f.size ≤ n ∧ FmW w.heap.size w' r f := by
  intro n
  induction n using Nat.strongRecOn with
  | _ n ih =>
  intro w hS hn1 hn2
  apply c_spec_l02Draw; unfold S_spec_l02Draw
  refine iJnX (fun xs w' => (∃ t, xs = [.bool t] ∧ (t = false → 3 ≤ n)) ∧ Vc.Src e w0 vc b w' ∧ Ch (fun c => c = b) w w') (fun J hJ => ?_) ?_
  · refine iLe (iCndP (fun h => ?_) (fun h => ?_))
    · exact hJ _ _ ⟨⟨true, rfl, fun h => by cases h⟩, hS, (Ext.refl w).ch⟩
    · refine iCall ((ok_spec_l01Next hc hS 9).mono ?_)
      rintro _ w3 ⟨⟨x, rfl, _, _⟩, hS3, hch3⟩
      refine iEq ?_
      exact hJ _ _ ⟨⟨_, rfl, fun _ => by omega⟩, hS3, hch3⟩
  rintro _ w2 ⟨⟨t, rfl, ht⟩, hS2, hC2⟩
  intro _
  cases t with
  | true =>
    refine iCndT rfl ?_
    refine iCall ((ok_spec_l01Next hc hS2 8).mono ?_)
    rintro _ w4 ⟨⟨x, rfl, _, _⟩, hS4, hch4⟩
    have hC4 := ch_self hC2 hch4
    refine iEq (iCndP (fun _ => ?_) (fun _ => ?_))
    · refine iCall ((ok_spec_l02False w4).mono ?_)
      rintro u w5 ⟨x5, h5⟩
      exact ⟨⟨.fls, trivial, hn1, OwK.mono h5 hC4.size⟩, hS4.later x5, ch_ext hC4 x5⟩
    · refine iCall ((ok_spec_l01Next hc hS4 k).mono ?_)
      rintro _ w6 ⟨⟨y, rfl, hy, _⟩, hS6, hch6⟩
      have hy := hy (by omega)
      refine iCall ((ok_spec_l02Var y w6).mono ?_)
      rintro u w7 ⟨x7, h7⟩
      have hC6 := ch_self hC4 hch6
      exact ⟨⟨.var y, show y < 6 by omega, hn1, OwK.mono h7 hC6.size⟩, hS6.later x7, ch_ext hC6 x7⟩
  | false =>
    refine iCndF rfl ?_
    have h3 := ht rfl
    refine iJnX (fun xs w' => (∃ t, xs = [.bool t]) ∧ Vc.Src e w0 vc b w' ∧ Ch (fun c => c = b) w w') (fun J hJ => ?_) ?_
    · cases m with
      | true =>
        refine iCndT rfl ?_
        refine iCall ((ok_spec_l01Next hc hS2 3).mono ?_)
        rintro _ w10 ⟨⟨x, rfl, _, _⟩, hS10, hch10⟩
        refine iEq ?_
        exact hJ _ _ ⟨⟨_, rfl⟩, hS10, ch_self hC2 hch10⟩
      | false => exact iCndF rfl (hJ _ _ ⟨⟨_, rfl⟩, hS2, hC2⟩)
    rintro _ w9 ⟨⟨t, rfl⟩, hS9, hC9⟩
    intro _
    cases t with
    | true =>
      refine iCndT rfl ?_
      refine iCall ((ok_spec_l01Next hc hS9 2).mono ?_)
      rintro _ w11 ⟨⟨y, rfl, hy, _⟩, hS11, hch11⟩
      have hy := hy (by omega)
      have hC11 := ch_self hC9 hch11
      refine iAdd (by omega) (iSub (by omega) ?_)
      rw [show (5 : Int) + (y : Int) = ((5 + y : Nat) : Int) by omega, show (n : Int) - 1 = ((n - 1 : Nat) : Int) by omega]
      refine iCall ((ih (n - 1) (by omega) hS11 (by omega) (by omega)).mono ?_)
      rintro u w12 ⟨⟨a, ga, sa, ha⟩, hS12, hch12⟩
      have hC12 := ch_self hC11 hch12
      refine iCall ((ok_spec_l02Pre (c := preF y a) (preF_cells (by omega) a) (preF_size y a) ha.sl (by rw [preF_size]; omega)).mono ?_)
      rintro r w13 ⟨x13, hr⟩
      exact ⟨⟨preF y a, preF_good y ga, by rw [preF_size]; omega, OwK.mono hr hC12.size⟩, hS12.later x13, ch_ext hC12 x13⟩
    | false =>
      refine iCndF rfl ?_
      refine iCall ((ok_spec_l01Next hc hS9 6).mono ?_)
      rintro _ w14 ⟨⟨y, rfl, _, _⟩, hS14, hch14⟩
      have hC14 := ch_self hC9 hch14
      refine iEq (iCndP (fun _ => ?_) (fun _ => ?_))
      · refine iSub (by omega) ?_
        rw [show (n : Int) - 2 = ((n - 2 : Nat) : Int) by omega]
        refine iCall ((ih (n - 2) (by omega) hS14 (by omega) (by omega)).mono ?_)
        rintro u w15 ⟨⟨a, ga, sa, ha⟩, hS15, hch15⟩
        have hC15 := ch_self hC14 hch15
        refine iCall ((ok_spec_l02Not ha.sl (by omega)).mono ?_)
        rintro r w16 ⟨x16, hr⟩
        exact ⟨⟨.imp a .fls, ⟨ga, trivial⟩, by show 1 + a.size + 1 ≤ n; omega, OwK.mono hr hC15.size⟩, hS15.later x16, ch_ext hC15 x16⟩
      · refine iSub (by omega) ?_
        refine iCall ((ok_spec_l01Next hc hS14 _).mono ?_)
        rintro _ w17 ⟨⟨z, rfl, hz, _⟩, hS17, hch17⟩
        have hz := hz (by omega)
        have hC17 := ch_self hC14 hch17
        refine iAdd (by omega) ?_
        rw [show (1 : Int) + (z : Int) = ((1 + z : Nat) : Int) by omega]
        refine iCall ((ih (1 + z) (by omega) hS17 (by omega) (by omega)).mono ?_)
        rintro u w18 ⟨⟨a, ga, sa, ha⟩, hS18, hch18⟩
        have hC18 := ch_self hC17 hch18
        refine iCall ((ok_spec_l01Next hc hS18 3).mono ?_)
        rintro _ w19 ⟨⟨q, rfl, hq, _⟩, hS19, hch19⟩
        have hq := hq (by omega)
        have hC19 := ch_self hC18 hch19
        have ha19 := OwK.src ha hS18 hneN hch19
        refine iAdd (by omega) (iSub (by omega) (iSub (by omega) ?_))
        rw [show (2 : Int) + (q : Int) = ((2 + q : Nat) : Int) by omega, show (n : Int) - 1 - ((1 + z : Nat) : Int) = ((n - 1 - (1 + z) : Nat) : Int) by omega]
        refine iCall ((ih (n - 1 - (1 + z)) (by omega) hS19 (by omega) (by omega)).mono ?_)
        rintro u2 w20 ⟨⟨a2, ga2, sa2, ha2⟩, hS20, hch20⟩
        have hC20 := ch_self hC19 hch20
        have ha20 := OwK.src ha19 hS19 hneN hch20
        refine iCall ((ok_spec_l02Pair (c := binF q a a2) (binF_cells (by omega) a a2) (binF_size q a a2) ha20.sl ha2.sl (by rw [binF_size]; omega)).mono ?_)
        rintro r w21 ⟨x21, hr⟩
        exact ⟨⟨binF q a a2, binF_good q ga ga2, by rw [binF_size]; omega, OwK.mono hr hC20.size⟩, hS20.later x21, ch_ext hC20 x21⟩
theorem ok_spec_l02OwnD {va : Value} {w : World} {N : List RN} (ha : RawS w va N) (hsz : N.length ≤ 1000000) : Cal Tryz.prog f_spec_l02Own #[va] w fun r w' => Ext w w' ∧ RawW w.heap.size t_impl_Node w' r N := by
  apply c_spec_l02Own; unfold S_spec_l02Own
  refine iBsA0 fun u w1 _ x1 ho => ?_
  refine iAppK u_Simpl_Node i_Simpl_Node rfl (by omega) ho (SlK.ext ha x1) (cellsN_cell N) (by omega) (by omega) x1.size fun v2 w2 ho2 hg2 _ => ?_
  refine ⟨x1.grown hg2 fun c hc => (ho.blk c hc).1, ?_⟩
  show OwK 2 _ _ w2 v2 _ _
  rw [Nat.zero_add, List.nil_append] at ho2
  exact ho2
theorem ok_spec_l02Bend {e : TypeId} (hneN : t_impl_Node ≠ e) {w0 : World} {vc : Value} {bs : List Nat} (hc : SlB w0 vc bs) {b : Nat} {w : World} (hS : Vc.Src e w0 vc b w) {va : Value} {N : List RN} (ha : RawS w va N) (hN : 1 ≤ N.length ∧ N.length ≤ 1000) :
    Drw Tryz.prog f_spec_l02Bend #[.pointer (some ⟨b, 0, none⟩), va] e w0 vc b w fun r w' => ∃ M : List RN, M.length ≤ N.length + 1 ∧ RawW w.heap.size t_impl_Node w' r M := by
  apply c_spec_l02Bend; unfold S_spec_l02Bend
  have hlow := hS.ext.size
  refine iCall ((ok_spec_l02OwnD ha (by omega)).mono ?_)
  rintro v w1 ⟨x1, ho1⟩
  have hS1 := hS.later x1
  have hC1 : Ch (fun c => c = b) w w1 := x1.ch (S := fun c => c = b)
  refine iLenK ho1.sl ?_
  refine iCall ((ok_spec_l01Next hc hS1 _).mono ?_)
  rintro _ w2 ⟨⟨k, rfl, hk, _⟩, hS2, hch2⟩
  have hk := hk (by omega)
  have hkN : k < N.length := by omega
  have ho2 := OwK.src ho1 hS1 hneN hch2
  have hC2 := ch_self hC1 hch2
  refine iCall ((ok_spec_l01Next hc hS2 5).mono ?_)
  rintro _ w3 ⟨⟨x, rfl, _, _⟩, hS3, hch3⟩
  have ho3 := OwK.src ho2 hS2 hneN hch3
  have hC3 := ch_self hC2 hch3
  have turn : ∀ {w' w'' : World} {xs : List Value}, OwK 2 w.heap.size t_impl_Node w' v N.length xs → Vc.Src e w0 vc b w' → Ch (fun c => c = b) w w' → Ch (fun c => v.ownBlock = some c) w' w'' → Vc.Src e w0 vc b w'' ∧ Ch (fun c => c = b) w w'' := fun ho gS gC k =>
    ⟨gS.ch k (fun h => ho.ne_src gS hneN h) fun c hc => by have := (ho.blk c hc).1; omega, gC.trans k fun c hc => .inr (ho.blk c hc).1⟩
  refine iEq (iCndP (fun _ => ?_) (fun _ => ?_))
  · refine iCall ((ok_spec_l01Next hc hS3 9).mono ?_)
    rintro _ w4 ⟨⟨y, rfl, hy, _⟩, hS4, hch4⟩
    have hy := hy (by omega)
    have ho4 := OwK.src ho3 hS3 hneN hch4
    have hC4 := ch_self hC3 hch4
    refine iSub (by omega) ?_
    refine iStFX (f := 0) ho4 rfl hkN (by decide) rfl fun w5 ho5 hch5 => ?_
    rw [cellsN_set0 N k hkN] at ho5
    obtain ⟨gS, gC⟩ := turn ho4 hS4 hC4 hch5
    exact ⟨⟨N.set k (_, N[k].2), by rw [List.length_set]; omega, by show OwK 2 _ _ _ _ (N.set k _).length _; rw [List.length_set]; exact ho5⟩, gS, gC⟩
  refine iEq (iCndP (fun _ => ?_) (fun _ => ?_))
  · refine iBs5D fun q w6 hq x6 hB => ?_
    have hS6 := hS3.later x6
    refine iCall ((ok_spec_l01Pick hc hS6 (l := [-1, 0, 1, 5, 6]) rfl hB (by have := hS3.lt; omega) (by decide) (by decide)).mono ?_)
    rintro _ w7 ⟨⟨y, rfl, _⟩, hS7, hch7⟩
    have ho7 := OwK.src (ho3.ext x6) hS6 hneN hch7
    have hC7 := ch_self (ch_ext hC3 x6) hch7
    refine iStFX (f := 1) ho7 rfl hkN (by decide) rfl fun w8 ho8 hch8 => ?_
    rw [cellsN_set1 N k hkN] at ho8
    obtain ⟨gS, gC⟩ := turn ho7 hS7 hC7 hch8
    exact ⟨⟨N.set k (N[k].1, _), by rw [List.length_set]; omega, by show OwK 2 _ _ _ _ (N.set k _).length _; rw [List.length_set]; exact ho8⟩, gS, gC⟩
  refine iEq (iCndP (fun _ => ?_) (fun _ => ?_))
  · refine iCall ((ok_spec_l01Next hc hS3 7).mono ?_)
    rintro _ w9 ⟨⟨y, rfl, _, _⟩, hS9, hch9⟩
    have ho9 := OwK.src ho3 hS3 hneN hch9
    have hC9 := ch_self hC3 hch9
    refine iBuild1 rfl ?_
    refine iBsA fun q w10 hq x10 hB => ?_
    have ho10 := ho9.ext x10
    have hC10 := ch_ext hC9 x10
    refine iAppK u_Simpl_Node i_Simpl_Node rfl (by omega) ho10 (node_one hq hB).sl (fun u hu => ?_) (by omega) (by omega) hC10.size fun v11 w11 ho11 hg11 _ => ?_
    · simp only [List.mem_cons, List.not_mem_nil, or_false] at hu
      rcases hu with rfl | rfl <;> rfl
    obtain ⟨gS, gC⟩ := turn ho10 (hS9.later x10) hC10 (grown_ch (S := fun c => v.ownBlock = some c) hg11 fun c hc => hc)
    refine ⟨⟨N ++ [((y : Int), 0)], by simp, ?_⟩, gS, gC⟩
    show OwK 2 _ _ _ _ (N ++ [_]).length _
    rw [List.length_append, cellsN_app]
    exact ho11
  have hpos : 0 < N.length := by omega
  refine iEq (iCndP (fun _ => ?_) (fun _ => ?_))
  · obtain ⟨g, cap, cur, rfl, hg, hcap, hR, hcur⟩ := ho3.rx hpos
    refine iHX (by omega) ?_
    refine ⟨⟨N.take k, by rw [List.length_take]; omega, ?_⟩, hS3, hC3⟩
    have hlt : (N.take k).length = k := by rw [List.length_take]; omega
    show OwK 2 _ _ _ _ (N.take k).length _
    rw [hlt]
    refine hR.own hg (by omega) ?_
    rw [← cellsN_take, ← hcur, List.take_take, Nat.min_eq_left (by omega)]
  refine iEq (iCndP (fun _ => ?_) (fun _ => ?_))
  · obtain ⟨g, cap, cur, rfl, hg, hcap, hR, hcur⟩ := ho3.rx hpos
    refine iHX (by omega) ?_
    refine iAdd (by omega) ?_
    have hsl := ho3.sl
    refine iTY (i := k + 1) hsl (by omega) (by omega) fun v' hv' => ?_
    rw [cellsN_drop] at hv'
    intro w12 x12
    refine iAppRx (i := k) (m := N.length - (k + 1)) u_Simpl_Node i_Simpl_Node (hR.ext x12) (hv'.ext x12) (cellsN_cell _) (by omega) fun w13 hR13 hch13 => ?_
    intro w14 x14
    have hR14 := hR13.ext x14
    have ho12 := ho3.ext x12
    obtain ⟨gS, gC⟩ := turn ho12 (hS3.later x12) (ch_ext hC3 x12) (w'' := w13) (hch13.mono fun c hc => by rw [hc]; rfl)
    have hld : (N.drop (k + 1)).length = N.length - (k + 1) := List.length_drop
    have hlt : (N.take k ++ N.drop (k + 1)).length = k + (N.length - (k + 1)) := by rw [List.length_append, List.length_take, hld]; omega
    refine ⟨⟨N.take k ++ N.drop (k + 1), by rw [hlt]; omega, ?_⟩, gS.later x14, ch_ext gC x14⟩
    show OwK 2 _ _ _ _ (N.take k ++ N.drop (k + 1)).length _
    rw [hlt]
    refine hR14.own hg (by omega) ?_
    have hcl := hR.2.1
    have hdl : (cellsN (N.drop (k + 1))).length = (N.length - (k + 1)) * 2 := by rw [cellsN_len, hld]
    rw [putX_take (by rw [hdl]; omega) (by rw [hdl]; omega), cellsN_app, ← cellsN_take, ← hcur, List.take_take, Nat.min_eq_left (by omega)]
  · exact ⟨⟨N, by omega, ho3⟩, hS3, hC3⟩
end Go.Proofs.YtaipnnkpplinoaaGreatDoor

namespace Go.Proofs.YtaipnnkpplinoaaGreatDoor
open Go.Vc
theorem FmW.raw {lo : Nat} {w : World} {v : Value} {f : Fm} (h : FmW lo w v f) : RawW lo t_impl_Node w v (rawF f) := by
  show OwK 2 _ _ _ _ (rawF f).length (cellsN (rawF f))
  rw [rawF_len, cellsN_raw]; exact h
theorem ok_spec_l02Any {e : TypeId} (hneN : t_impl_Node ≠ e) {w0 : World} {vc : Value} {bs : List Nat} (hc : SlB w0 vc bs) {b k : Nat} (hk : 1 ≤ k ∧ k ≤ 6) (m : Bool) {n : Nat} (hn : 1 ≤ n ∧ n ≤ 100) {w : World} (hS : Vc.Src e w0 vc b w) :
    Drw Tryz.prog f_spec_l02Any #[.pointer (some ⟨b, 0, none⟩), .int .i64 (n : Int), .int .i64 (k : Int), .bool m] e w0 vc b w fun r w' => ∃ N : List RN, N.length ≤ 200 ∧ RawW w.heap.size t_impl_Node w' r N := by
  apply c_spec_l02Any; unfold S_spec_l02Any
  refine iCall ((ok_spec_l02Draw hneN hc hk m n hS hn.1 (by omega)).mono ?_)
  rintro v w1 ⟨⟨f, gf, sf, hf⟩, hS1, hch1⟩
  refine iCall ((ok_spec_l01Next hc hS1 40).mono ?_)
  rintro _ w2 ⟨⟨x, rfl, _, _⟩, hS2, hch2⟩
  have hf2 := OwK.src hf hS1 hneN hch2
  have hC2 := ch_self hch1 hch2
  refine iEq (iCndP (fun _ => ?_) (fun _ => ?_))
  · have hr := FmW.raw hf2
    have hpos : 1 ≤ f.size := by have := f.size_kids; omega
    refine iCall ((ok_spec_l02Bend hneN hc hS2 hr.sl ⟨by rw [rawF_len]; exact hpos, by rw [rawF_len]; omega⟩).mono ?_)
    rintro u w3 ⟨⟨M, hM, hu⟩, hS3, hch3⟩
    rw [rawF_len] at hM
    exact ⟨⟨M, by omega, OwK.mono hu hC2.size⟩, hS3, ch_self hC2 hch3⟩
  refine iEq (iCndP (fun _ => ?_) (fun _ => ?_))
  · refine iLp (fun s : Value × Nat => [s.1]) (fun s w' => Vc.Src e w0 vc b w' ∧ Ch (fun c => c = b) w w' ∧ s.2 ≤ 200 ∧ ∃ f : Fm, f.good ∧ f.size = s.2 ∧ FmW w.heap.size w' s.1 f) (fun s => 200 - s.2) (v, f.size) rfl ⟨hS2, hC2, by show f.size ≤ 200; omega, f, gf, rfl, hf2⟩ ?_
    rintro ⟨u, z⟩ w5 Kn ⟨hS5, hC5, hz, a, ga, sa, ha⟩ hKn
    have sa : a.size = z := sa
    have hz : z ≤ 200 := hz
    have ha : FmW w.heap.size w5 u a := ha
    intro _
    refine iJnX (fun xs w' => (∃ t, xs = [.bool t] ∧ (t = true → z ≤ 40)) ∧ Vc.Src e w0 vc b w' ∧ Ch (fun c => c = b) w w' ∧ FmW w.heap.size w' u a) (fun J hJ => ?_) ?_
    · refine iLenK ha.sl ?_
      refine iLe (iCndP (fun h => ?_) (fun h => ?_))
      · refine iCall ((ok_spec_l01Next hc hS5 60).mono ?_)
        rintro _ w8 ⟨⟨y, rfl, _, _⟩, hS8, hch8⟩
        refine iLt ?_
        exact hJ _ _ ⟨⟨_, rfl, fun _ => by omega⟩, hS8, ch_self hC5 hch8, OwK.src ha hS5 hneN hch8⟩
      · exact hJ _ _ ⟨⟨false, rfl, fun h => by cases h⟩, hS5, hC5, ha⟩
    rintro _ w7 ⟨⟨t, rfl, ht⟩, hS7, hC7, ha7⟩
    intro _
    cases t with
    | false => exact iCndF rfl ⟨⟨rawF a, by rw [rawF_len]; omega, FmW.raw ha7⟩, hS7, hC7⟩
    | true =>
      have ht := ht rfl
      refine iCndT rfl ?_
      refine iCall ((ok_spec_l01Next hc hS7 3).mono ?_)
      rintro _ w9 ⟨⟨q, rfl, hq, _⟩, hS9, hch9⟩
      have hq := hq (by omega)
      have hC9 := ch_self hC7 hch9
      have ha9 := OwK.src ha7 hS7 hneN hch9
      refine iAdd (by omega) ?_
      rw [show (2 : Int) + (q : Int) = ((2 + q : Nat) : Int) by omega]
      refine iCall ((ok_spec_l02Draw hneN hc hk m 6 hS9 (by omega) (by omega)).mono ?_)
      rintro u2 w10 ⟨⟨a2, ga2, sa2, ha2⟩, hS10, hch10⟩
      have hC10 := ch_self hC9 hch10
      have ha10 := OwK.src ha9 hS9 hneN hch10
      refine iCall ((ok_spec_l02Pair (c := binF q a a2) (binF_cells (by omega) a a2) (binF_size q a a2) ha10.sl ha2.sl (by rw [binF_size]; omega)).mono ?_)
      rintro r w11 ⟨x11, hr⟩
      have hsz := binF_size q a a2
      exact hKn (r, (binF q a a2).size) _ ⟨hS10.later x11, ch_ext hC10 x11, by show (binF q a a2).size ≤ 200; omega, binF q a a2, binF_good q ga ga2, rfl, OwK.mono hr hC10.size⟩ (by show 200 - (binF q a a2).size < 200 - z; omega)
  · exact ⟨⟨rawF f, by rw [rawF_len]; omega, FmW.raw hf2⟩, hS2, hC2⟩
end Go.Proofs.YtaipnnkpplinoaaGreatDoor

namespace Go.Proofs.YtaipnnkpplinoaaGreatDoor
open Go.Vc
theorem ok_laws_roll {vc : Value} {w : World} {bs : List Nat} (hc : SlB w vc bs) (seed : Nat) : Cal Tryz.prog f_laws_roll #[vc, .int .u64 (seed : Int)] w fun v w' => ∃ b, v = .pointer (some ⟨b, 0, none⟩) ∧ Vc.Src 72 w vc b w' := by
  apply c_laws_roll; unfold S_laws_roll
  have hbl := hc.len
  refine iMulU fun m _ => ?_
  refine iLenB hc (iConvU (by omega) ?_)
  refine iAddUW fun m0 hm0 => ?_
  have hvc : ∃ a n c, vc = .slice a n c := by obtain ⟨a, c, h, _⟩ := hc.1; exact ⟨a, _, c, h⟩
  obtain ⟨va, vn, vcc, rfl⟩ := hvc
  refine iBuild (cs := #[.slice va vn vcc, .int .i64 0, .int .u64 (m0 : Int)]) (by simp [Instr.fill, Value.cells]) ?_
  refine iNew fun b w1 hb h1 hB => ?_
  have hB : Blk 72 w1 b [.slice va vn vcc, .int .i64 0, .int .u64 (m0 : Int)] := hB
  have hlo : w.heap.size ≤ b := by omega
  refine iLp (fun k : Nat => [.int .i64 (k : Int)]) (fun k w' => k ≤ bs.length ∧ Vc.Src 72 w (.slice va vn vcc) b w') (fun k => bs.length - k) 0 rfl ⟨Nat.zero_le _, h1, hlo, 0, m0, hB, by omega, hm0⟩ ?_
  rintro k w3 Kn ⟨hk, hS⟩ hKn
  have hc3 := hc.ext hS.ext
  intro _
  simp only [gx]
  refine iLenB hc3 (iLt (iCndP (fun h => ?_) (fun h => ⟨b, rfl, hS⟩)))
  obtain ⟨hX, _, at_, hash, hB3, hat, hh⟩ := hS
  refine iNil (iFa (iLdB hB3 (v := .int .u64 (hash : Int)) rfl ?_))
  refine iMulU fun m1 _ => ?_
  refine iIaB hc3 (by omega) fun p y hy hp => iLd hp ?_
  refine iConvU (by omega) (iAddUW fun m2 _ => iAddUW fun m3 hm3 => ?_)
  refine iNil (iFa ?_)
  intro w4 h4
  have hB4 := hB3.ext h4
  refine iStB hB4 (show 2 < 3 by decide) rfl fun hB5 => ?_
  have hu := Upd.setCell w4 b 2 (.int .u64 (m3 : Int))
  intro w6 h6
  refine iAdd (by omega) ?_
  exact hKn (k + 1) _ ⟨by omega, ((hX.trans h4).upd hu hlo).trans h6, hlo, at_, m3, Blk.ext hB5 h6, hat, hm3⟩ (by omega)
end Go.Proofs.YtaipnnkpplinoaaGreatDoor
namespace Go.Proofs.YtaipnnkpplinoaaGreatDoor
open Go.Vc
def LxOk (w : World) : Prop := AxOk w ∧ LgOk w
theorem LxOk.ext {w w' : World} (h : LxOk w) (x : Ext w w') : LxOk w' := ⟨h.1.ext x, h.2.ext x⟩
theorem ok_spec_DrawMorphicImages {vc : Value} {w : World} {bs : List Nat} (hc : SlB w vc bs) : Cal Tryz.prog f_spec_DrawMorphicImages #[vc] w fun r w' => Ext w w' ∧ ∃ (n : Int) (l : List Int) (v : Value), r = .agg #[.int .i64 n, v] ∧ Ow w.heap.size t_i64 w' v (ints l) := by
  apply c_spec_DrawMorphicImages; unfold S_spec_DrawMorphicImages
  refine iNew fun b2 w1 hb2 x1 hB => ?_
  obtain ⟨e2, hne2, hB⟩ : ∃ e', t_i64 ≠ e' ∧ Blk e' w1 b2 [.int .i64 0, .slice none 0 0] := ⟨_, by decide, hB⟩
  have hc1 : SlB w1 vc bs := hc.ext x1
  refine iCall ((ok_spec_l01From hc1).mono ?_)
  rintro _ w2 ⟨e, b, hne, _, rfl, hS⟩
  have hbl := hB.lt
  have hb : b2 ≠ b := by have := hS.lo; omega
  have hB2 := hB.ext hS.ext
  refine iBs5D fun q w3 hq x3 hQ => ?_
  have hS3 := hS.later x3
  refine iCall ((ok_spec_l01Pick hc1 hS3 (l := [3, 4, 5, 6, 7]) rfl hQ (by have := hS.lt; omega) (by decide) (by decide)).mono ?_)
  rintro _ w4 ⟨⟨y, rfl, hy⟩, hS4, hch4⟩
  have hB4 := (hB2.ext x3).ch hch4 hb
  obtain ⟨k, rfl, hk⟩ : ∃ k : Nat, y = (k : Int) ∧ k ≤ 7 := by
    simp only [List.mem_cons, List.not_mem_nil, or_false] at hy
    exact ⟨y.toNat, by omega, by omega⟩
  refine iCall ((ok_spec_l05Draw hne hc1 hS4 k (by omega)).mono ?_)
  rintro _ w5 ⟨⟨n, l, v, rfl, _, hov⟩, hS5, hch5⟩
  have hB5 := hB4.ch hch5 hb
  refine iStAB hB5 rfl rfl (hov.pair _) fun w6 hu hB6 => ?_
  refine iLdA hB6 rfl ?_
  exact ⟨(x1.trans hS5.ext).upd hu (by omega), n, l, v, rfl, (hov.upd hu (hov.ne_blk hB5 hne2)).mono (by have := x1.size; have := hS4.ext.size; omega)⟩
theorem ok_spec_DrawSubformulasOf {vc : Value} {w : World} {bs : List Nat} (hc : SlB w vc bs) : Cal Tryz.prog f_spec_DrawSubformulasOf #[vc] w fun r w' => Ext w w' ∧ ∃ N : List RN, N.length ≤ 200 ∧ RawS w' r N ∧ isCell r = true := by
  apply c_spec_DrawSubformulasOf; unfold S_spec_DrawSubformulasOf
  refine iCall ((ok_spec_l01FromE hc).mono ?_)
  rintro _ w2 ⟨b, rfl, hS⟩
  refine iCall ((ok_spec_l02Any (by decide) hc (k := 3) (by omega) true (n := 16) (by omega) hS).mono ?_)
  rintro r w3 ⟨⟨N, hN, hr⟩, hS3, _⟩
  exact ⟨hS3.ext, N, hN, hr.sl, OwK.cell hr⟩
theorem ok_laws_FnImagesKeepValidity {w : World} {vc : Value} {bs : List Nat} (hT : LxOk w) (hc : SlB w vc bs) : Ret Tryz.prog f_laws_FnImagesKeepValidity #[vc] w (.bool true) := by
  apply c_laws_FnImagesKeepValidity; unfold S_laws_FnImagesKeepValidity
  refine iRet (ok_laws_big hc) fun w1 x1 => ?_
  refine iCnd (fun _ => ⟨by first | trivial | rfl, x1⟩) (fun _ => ?_)
  refine iCall ((ok_spec_DrawMorphicImages (hc.ext x1)).mono ?_)
  rintro _ w2 ⟨x2, n, l, v, rfl, ho⟩
  refine iVar rfl rfl (ho.pair _) fun b3 w4 hb3 x4 hB3 => ?_
  have X4 := (x1.trans x2).trans x4
  have hs4 : SlI w4 v l := (ho.ext x4).sl
  refine iLdA hB3 rfl ?_
  refine iCall ((ok_impl_MorphicImages hs4).mono ?_)
  rintro _ w5 ⟨x5, u1, rfl, L1, hL1, hR1, hK1⟩
  refine iEx rfl (iEx rfl ?_)
  refine iLdA (hB3.ext x5) rfl ?_
  refine iCall ((ok_spec_MorphicImages (hs4.ext x5)).mono ?_)
  rintro _ w6 ⟨x6, u2, rfl, L2, hL2, hR2, hK2⟩
  refine iEx rfl (iEx rfl ?_)
  have hL1 := hL1.ext x6
  have hR1 := hR1.ext x6
  have hl1 : L1.length = (morR n l).1.length := by rw [← hK1, List.length_map]
  have hl2 : L2.length = (morR n l).1.length := by rw [← hK2, List.length_map]
  have X6 := (X4.trans x5).trans x6
  have x46 := x5.trans x6
  refine iJnB false w6 (fun J hJ => ?_) (fun w8 x8 => ?_)
  · refine iNe (iCndF (decide_eq_false fun h => h rfl) ?_)
    refine iLenK hL1.row.sl (iLenK hL2.row.sl ?_)
    refine iNe ?_
    rw [decide_eq_false (by omega)]
    exact hJ _ (Ext.refl _)
  intro _
  refine iCndF rfl ?_
  refine iNe (iCndP (fun _ => ⟨by first | trivial | rfl, X6.trans x8⟩) (fun h0 => ?_))
  have h0 : (morR n l).2 = 0 := by omega
  have hfo := (morR_ok h0).1
  obtain ⟨hf, hn0, hl0⟩ := frameOk_fr hfo
  have hpos := morR_some h0
  have hlen200 := morR_len n l
  refine iCall ((ok_laws_roll (hc.ext (X6.trans x8)) 802).mono ?_)
  rintro _ w9 ⟨b, rfl, hS9⟩
  have x69 := x8.trans hS9.ext
  refine iLenK (hL2.ext x69).row.sl ?_
  refine iEq (iCndF (decide_eq_false (by omega)) ?_)
  refine iLenK (hL2.ext x69).row.sl ?_
  refine iCall ((ok_laws_dice_below (hc.ext (X6.trans x8)) hS9 _).mono ?_)
  rintro _ w10 ⟨⟨k, rfl, hk, _⟩, hS10, _⟩
  have hk : k < L2.length := by have := hk (by omega); omega
  have x610 := x8.trans hS10.ext
  have hL2' := hL2.ext x610
  have hR2' := hR2.ext x610
  refine iRdX (j := k) hL2'.row.sl rfl hk ?_
  have hm : gt L2 k ∈ L2 := by rw [gt_eq hk]; exact List.getElem_mem _
  have hoG := hR2' _ hm
  have hkey : keyR (gt L2 k) ∈ (morR n l).1 := by rw [← hK2]; exact List.mem_map.2 ⟨_, hm, rfl⟩
  obtain ⟨c, hcg, hck⟩ := morR_mem h0 hkey
  refine iVar rfl rfl (hoG.pair _) fun b10 w12 hb10 x12 hB10 => ?_
  have hgok := imG_ok hf hcg
  have e1 : (gt L2 k).1 = ((imG (frOf n l) c).n : Int) := congrArg Prod.fst hck
  have e2 : (gt L2 k).2.2 = nats (imG (frOf n l) c).a := congrArg Prod.snd hck
  generalize hg : gt L2 k = g at *
  obtain ⟨gn, gv, gl⟩ := g
  simp only at e1 e2
  subst e1 e2
  have X12 := ((X6.trans x610).trans x12)
  have x612 := x610.trans x12
  have hsG : SlN w12 gv (imG (frOf n l) c).a := ((hoG).ext x12).sl
  have hB10 : Blk t_impl_Frame w12 b10 [.int .i64 ((imG (frOf n l) c).n : Int), gv] := hB10
  have hB3' : Blk t_impl_Frame w12 b3 [.int .i64 n, v] := hB3.ext (x46.trans x612)
  have hs12 : SlI w12 v l := hs4.ext (x46.trans x612)
  refine iLp (fun i : Nat => [.int .i64 (i : Int)]) (fun i w' => i ≤ L2.length ∧ Ext w12 w') (fun i => L2.length - i) 0 rfl ⟨Nat.zero_le _, Ext.refl _⟩ ?_
  rintro i w14 Kn ⟨hi, x14⟩ hKn
  have y14 := x612.trans x14
  intro _
  simp only [gx]
  refine iLenK (hL2.ext y14).row.sl ?_
  refine iLt (iCndP (fun h => ?_) (fun h => ?_))
  · have hi2 : i < L2.length := by omega
    have hi1 : i < L1.length := by omega
    refine iRdX (j := i) (hL1.ext y14).row.sl rfl hi1 ?_
    refine iRdX (j := i) (hL2.ext y14).row.sl rfl hi2 ?_
    have hm1 : gt L1 i ∈ L1 := by rw [gt_eq hi1]; exact List.getElem_mem _
    have hm2 : gt L2 i ∈ L2 := by rw [gt_eq hi2]; exact List.getElem_mem _
    have hke : keyR (gt L1 i) = keyR (gt L2 i) := by
      rw [gt_eq hi1, gt_eq hi2, ← List.getElem_map (f := keyR) (h := by rw [List.length_map]; exact hi1), ← List.getElem_map (f := keyR) (h := by rw [List.length_map]; exact hi2)]
      simp only [hK1, hK2]
    refine iRetQ (fun w' x' => ok_laws_likeFrame5 (((hR1.ext y14) _ hm1).ext x').sl (((hR2.ext y14) _ hm2).ext x').sl _ _) ?_
    have d1 : decide ((gt L1 i).1 = (gt L2 i).1) = true := decide_eq_true (show (keyR (gt L1 i)).1 = (keyR (gt L2 i)).1 by rw [hke])
    have d2 : decide ((gt L1 i).2.2 = (gt L2 i).2.2) = true := decide_eq_true (show (keyR (gt L1 i)).2 = (keyR (gt L2 i)).2 by rw [hke])
    rw [d1, d2]
    refine iNot ?_
    intro w15 x15
    refine iCndF rfl ?_
    refine iAdd (by omega) ?_
    exact hKn (i + 1) _ ⟨by omega, x14.trans x15⟩ (by omega)
  clear hKn
  -- the map onto the image
  have X14 := X12.trans x14
  refine iLdA (hB3'.ext x14) rfl (iLdA (hB10.ext x14) rfl ?_)
  refine iCall ((ok_impl_FindOnto (hs12.ext x14) (hsG.ext x14) n ((imG (frOf n l) c).n : Int)).mono ?_)
  rintro _ w16 ⟨x16, v1, rfl, ho1⟩
  refine iEx rfl (iEx rfl ?_)
  have x1416 := x14.trans x16
  refine iLdA (hB3'.ext x1416) rfl (iLdA (hB10.ext x1416) rfl ?_)
  refine iCall ((ok_spec_FindOnto (hs12.ext x1416) (hsG.ext x1416) n ((imG (frOf n l) c).n : Int)).mono ?_)
  rintro _ w17 ⟨x17, v2, rfl, ho2⟩
  refine iEx rfl (iEx rfl ?_)
  rw [imG_onto hfo hcg]
  have x1217 := x1416.trans x17
  refine iJnB false w17 (fun J hJ => ?_) (fun w19 x19 => ?_)
  · refine iNe (iCndF (decide_eq_false fun h => h rfl) ?_)
    refine iNe (iCndF (decide_eq_false fun h => h rfl) ?_)
    refine iRet (ok_laws_likeInts (ho1.ext x17).sl ho2.sl) fun w20 x20 => iNot ?_
    rw [decide_eq_true rfl]
    exact hJ _ x20
  intro _
  refine iCndF rfl ?_
  have x1219 := x1217.trans x19
  have X19 := X12.trans x1219
  refine iCall ((ok_spec_DrawSubformulasOf (hc.ext X19)).mono ?_)
  rintro vn w21 ⟨x21, N, hNl, hN, hcn⟩
  have x1221 := x1219.trans x21
  refine iLdA (hB3'.ext x1221) rfl ?_
  refine iCall ((ok_spec_IsValidOn (hs12.ext x1221) hN hcn (by omega)).mono ?_)
  rintro _ w22 ⟨x22, t1, c1, rfl, hv⟩
  refine iEx rfl (iEx rfl ?_)
  have x1222 := x1221.trans x22
  refine iLdA (hB10.ext x1222) rfl ?_
  refine iCall ((ok_impl_IsValidOnMQ hgok (hsG.ext x1222) (SlK.ext hN x22) hcn (by omega)).mono ?_)
  rintro _ w23 ⟨x23, t2, c2, rfl, hw⟩
  refine iEx rfl (iEx rfl ?_)
  have x1223 := x1222.trans x23
  have hgn : (imG (frOf n l) c).n ≤ (frOf n l).n := (imK_len hf hcg).2.2
  refine iJnB false w23 (fun J hJ => ?_) (fun w25 x25 => ?_)
  · refine iEq (iCndP (fun hc1 => ?_) (fun _ => hJ _ (Ext.refl _)))
    refine iCnd (fun ht1 => ?_) (fun _ => hJ _ (Ext.refl _))
    obtain ⟨_, a, rfl, hga, hsz, h16, hvl⟩ := hv hc1 ht1
    obtain ⟨ht2, hc2⟩ := hw a rfl hga hsz (Nat.le_trans (Nat.mul_le_mul_right _ hgn) h16) (imG_vld hf hcg hvl)
    subst ht2 hc2
    refine iNe (iCndF (decide_eq_false fun h => h rfl) ?_)
    exact iNot (hJ _ (Ext.refl _))
  intro _
  refine iCndF rfl ?_
  have x1225 := x1223.trans x25
  have X25 := X12.trans x1225
  -- the logics
  have hs25 : SlN w25 v (frOf n l).a := by
    unfold SlN; rw [← hl0]; exact hs12.ext x1225
  have hfo' : frameOk ((frOf n l).n : Int) (nats (frOf n l).a) = true := by rw [← hn0, ← hl0]; exact hfo
  have hB325 := hB3'.ext x1225
  rw [hn0] at hB325
  have hgo : frameOk ((imG (frOf n l) c).n : Int) (nats (imG (frOf n l) c).a) = true := frameOk_ofM hgok
  have hlog : ∀ i, i < 16 → lgB i (frOf n l) = true → lgB i (imG (frOf n l) c) = true := fun i _ hi => imG_ax hf hcg hi
  refine iLdA hB325 rfl ?_
  refine iCall ((ok_impl_LogicsOfFrame hf hfo' hs25 (hT.ext X25).1 (hT.ext X25).2).mono ?_)
  rintro _ w26 ⟨x26, q1, rfl, hq1⟩
  refine iEx rfl (iEx rfl ?_)
  refine iLdA (hB325.ext x26) rfl ?_
  refine iCall ((ok_spec_LogicsOfFrame hf hfo' (hs25.ext x26)).mono ?_)
  rintro _ w27 ⟨x27, q2, rfl, hq2⟩
  refine iEx rfl (iEx rfl ?_)
  refine iJnB false w27 (fun J hJ => ?_) (fun w29 x29 => ?_)
  · refine iNe (iCndF (decide_eq_false fun h => h rfl) ?_)
    refine iRet (ok_laws_likeTexts5 (hq1.ext x27) hq2) fun w30 x30 => iNot (hJ _ x30)
  intro _
  refine iCndF rfl ?_
  have hq29 := hq2.ext x29
  have x1229 := ((x1225.trans x26).trans x27).trans x29
  have hX29 := X12.trans x1229
  have hB29 := hB10.ext x1229
  have hsG29 := hsG.ext x1229
  have hmem : ∀ i, i < (lgOf (frOf n l)).length → ∃ j, j < 16 ∧ gt (lgOf (frOf n l)) i = gt lgN j ∧ lgB j (frOf n l) = true := fun i hi => by
    have h1 : gt (lgOf (frOf n l)) i ∈ lgOf (frOf n l) := by rw [gt_eq hi]; exact List.getElem_mem _
    unfold lgOf at h1 ⊢
    obtain ⟨h2, h3⟩ := List.mem_filter.1 h1
    obtain ⟨j, hj, e⟩ := mem_lgN h2
    refine ⟨j, hj, e, ?_⟩
    rw [e, lgN_idx j hj] at h3
    exact h3
  have hqln := hq29.len
  rw [strs_len] at hqln
  refine iLp (fun i : Nat => [.int .i64 (i : Int)]) (fun i w' => i ≤ (lgOf (frOf n l)).length ∧ Ext w29 w') (fun i => (lgOf (frOf n l)).length - i) 0 rfl ⟨Nat.zero_le _, Ext.refl _⟩ ?_
  rintro i w32 Kn ⟨hi, x32⟩ hKn
  intro _
  simp only [gx]
  refine iLenStr (hq29.ext x32) ?_
  refine iLt (iCndP (fun h => ?_) (fun h => ⟨by first | trivial | rfl, hX29.trans x32⟩))
  have hi1 : i < (lgOf (frOf n l)).length := by omega
  obtain ⟨j, hj, e, hb⟩ := hmem i hi1
  refine iLdA (hB29.ext x32) rfl ?_
  refine iIaG (hq29.ext x32) rfl hi1 ?_
  rw [e]
  refine iRetQ (fun w' x' => ok_impl_IsFrameOf hgok hgo hj (hsG29.ext (x32.trans x')) (hT.ext (hX29.trans (x32.trans x'))).1 (hT.ext (hX29.trans (x32.trans x'))).2) ?_
  refine iEx rfl (iEx rfl ?_)
  intro w33 x33
  rw [hlog j hj hb]
  refine iJnB false w33 (fun J hJ => ?_) (fun w35 x35 => ?_)
  · refine iNe (iCndF (decide_eq_false fun h => h rfl) ?_)
    exact iNot (hJ _ (Ext.refl _))
  intro _
  refine iCndF rfl ?_
  refine iAdd (by omega) ?_
  exact hKn (i + 1) _ ⟨by omega, (x32.trans x33).trans x35⟩ (by omega)
end Go.Proofs.YtaipnnkpplinoaaGreatDoor
