/- The proof of FnCores, part 5 of 6. Conditions: none. -/
import Derived.Test.YtfhdhdgabdpmkaaGreatKR35d
/- Plain facts: a poset is an image of a part of another one; cores. No program in sight. Conditions: none. -/
namespace Go.Proofs.YtfhdhdgabdpmkaaGreat
open Go.Vc
/-- q is an image of a part of f. -/
def Bel (f q : Fr) : Prop :=
  ∃ (V : Nat → Prop) (h : Nat → Nat), (∀ v, V v → v < f.n) ∧ (∀ v u, V v → f.r v u → V u) ∧ (∀ v, V v → ∀ y, q.r (h v) y ↔ ∃ u, f.r v u ∧ h u = y) ∧ ∀ y, (∃ v, V v ∧ h v = y) ↔ y < q.n
theorem bel_iff {f q : Fr} (hf : Po f) (hq : q.ok) : (partOut f q).isSome = true ↔ Bel f q := by
  rw [partOut_iff hf hq]
  constructor
  · rintro ⟨m, hm, F, hl, hF, himg, hon⟩
    obtain ⟨hm2, hup⟩ := (upsets_iff hf).1 hm
    have hm63 := mask63 hf.ok hm2
    have hmm : ∀ v, v ∈ mem m ↔ m.testBit v = true := fun v => mem_mem hm63
    have hpb : ∀ i j, (((partFr f m).a.getD i 0).testBit j = true) ↔ i < (mem m).length ∧ j < (mem m).length ∧ f.r ((mem m).getD i 0) ((mem m).getD j 0) := fun i j => part_bit i j
    have hmn := mem_nodup m
    generalize mem m = M at *
    have hid : ∀ v, m.testBit v = true → M.idxOf v < M.length ∧ M.getD (M.idxOf v) 0 = v := fun v hv => at_idx ((hmm v).2 hv)
    refine ⟨fun v => m.testBit v = true, fun v => F.getD (M.idxOf v) 0, fun v hv => ?_, hup, fun v hv y => ?_, fun y => ?_⟩
    · rcases Nat.lt_or_ge v f.n with h' | h'
      · exact h'
      · have hv : m.testBit v = true := hv
        rw [Nat.testBit_lt_two_pow (Nat.lt_of_lt_of_le hm2 (Nat.pow_le_pow_right (by omega) h'))] at hv; cases hv
    · have hv : m.testBit v = true := hv
      have hi := hid v hv
      have e := himg _ hi.1
      show (q.a.getD (F.getD (M.idxOf v) 0) 0).testBit y = true ↔ _
      rw [← e, img_testBit]
      constructor
      · rintro ⟨k, hk, hk1, hk2⟩
        obtain ⟨_, hk3, hk4⟩ := (hpb _ _).1 hk1
        rw [hi.2] at hk4
        refine ⟨M.getD k 0, hk4, ?_⟩
        show F.getD (M.idxOf (M.getD k 0)) 0 = y
        rw [idx_at hmn hk3, hk2]
      · rintro ⟨u, hu, rfl⟩
        have hk := hid u (hup v u hv hu)
        exact ⟨M.idxOf u, by omega, (hpb _ _).2 ⟨hi.1, hk.1, by rw [hi.2, hk.2]; exact hu⟩, rfl⟩
    · constructor
      · rintro ⟨v, hv, rfl⟩
        exact getD_lt hF (by have := (hid v hv).1; omega)
      · intro hy
        obtain ⟨k, hk, hk1⟩ := hon y hy
        have hkM : k < M.length := by omega
        refine ⟨M.getD k 0, (hmm _).1 (getD_mem hkM), ?_⟩
        show F.getD (M.idxOf (M.getD k 0)) 0 = y
        rw [idx_at hmn hkM, hk1]
  · rintro ⟨V, h, hV1, hV2, hV3, hV4⟩
    classical
    have hmb : ∀ v, (setOf ((List.range f.n).filter fun v => decide (V v))).testBit v = true ↔ V v := fun v => by
      rw [setOf_testBit, List.contains_iff_mem, List.mem_filter, List.mem_range, decide_eq_true_eq]
      exact ⟨fun h => h.2, fun h => ⟨hV1 v h, h⟩⟩
    have hm2 : setOf ((List.range f.n).filter fun v => decide (V v)) < 2 ^ f.n := setOf_lt fun y hy => List.mem_range.1 (List.mem_filter.1 hy).1
    generalize setOf ((List.range f.n).filter fun v => decide (V v)) = m at *
    have hm63 := mask63 hf.ok hm2
    have hmm : ∀ v, v ∈ mem m ↔ V v := fun v => by rw [mem_mem hm63, hmb]
    have hpb : ∀ i j, (((partFr f m).a.getD i 0).testBit j = true) ↔ i < (mem m).length ∧ j < (mem m).length ∧ f.r ((mem m).getD i 0) ((mem m).getD j 0) := fun i j => part_bit i j
    have hmn := mem_nodup m
    have hup : m ∈ upsets f := (upsets_iff hf).2 ⟨hm2, fun v u hv hu => (hmb u).2 (hV2 v u ((hmb v).1 hv) hu)⟩
    have hF : ∀ k, k < (mem m).length → ((mem m).map h).getD k 0 = h ((mem m).getD k 0) := fun k hk => by simp [List.getD_eq_getElem?_getD, hk]
    have hVi : ∀ k, k < (mem m).length → V ((mem m).getD k 0) := fun k hk => (hmm _).1 (getD_mem hk)
    refine ⟨m, hup, (mem m).map h, by simp, ?_, ?_, ?_⟩
    · intro y hy
      obtain ⟨v, hv, rfl⟩ := List.mem_map.1 hy
      exact (hV4 _).1 ⟨v, (hmm v).1 hv, rfl⟩
    · intro i hi
      apply Nat.eq_of_testBit_eq
      intro j
      rw [Bool.eq_iff_iff, img_testBit, hF i hi]
      constructor
      · rintro ⟨k, hk, hk1, hk2⟩
        obtain ⟨_, hk3, hk4⟩ := (hpb _ _).1 hk1
        rw [hF k hk3] at hk2
        subst hk2
        exact (hV3 _ (hVi i hi) _).2 ⟨_, hk4, rfl⟩
      · intro hb
        obtain ⟨u, hu, e⟩ := (hV3 _ (hVi i hi) _).1 hb
        have hVu := hV2 _ _ (hVi i hi) hu
        have hk := at_idx ((hmm u).2 hVu)
        refine ⟨(mem m).idxOf u, by rw [List.length_map]; exact hk.1, (hpb _ _).2 ⟨hi, hk.1, by rw [hk.2]; exact hu⟩, ?_⟩
        rw [hF _ hk.1, hk.2, e]
    · intro z hz
      obtain ⟨v, hv, e⟩ := (hV4 z).2 hz
      have hk := at_idx ((hmm v).2 hv)
      refine ⟨(mem m).idxOf v, by rw [List.length_map]; exact hk.1, ?_⟩
      rw [hF _ hk.1, hk.2, e]
theorem Bel.refl {f : Fr} (hf : f.ok) : Bel f f :=
  ⟨fun v => v < f.n, id, fun _ h => h, fun _ _ _ h => (fr_bit_lt hf h).2, fun _ _ y => ⟨fun h => ⟨y, h, rfl⟩, fun ⟨_, h, e⟩ => e ▸ h⟩, fun y => ⟨fun ⟨_, h, e⟩ => e ▸ h, fun h => ⟨y, h, rfl⟩⟩⟩
theorem Bel.trans {f g q : Fr} (h1 : Bel f g) (h2 : Bel g q) : Bel f q := by
  obtain ⟨V, h, hV1, hV2, hV3, hV4⟩ := h1
  obtain ⟨U, k, hU1, hU2, hU3, hU4⟩ := h2
  refine ⟨fun v => V v ∧ U (h v), fun v => k (h v), fun v hv => hV1 v hv.1, fun v u hv hu => ⟨hV2 v u hv.1 hu, hU2 _ _ hv.2 ((hV3 v hv.1 _).2 ⟨u, hu, rfl⟩)⟩, fun v hv y => ?_, fun y => ?_⟩
  · rw [hU3 _ hv.2]
    constructor
    · rintro ⟨u', hu', rfl⟩
      obtain ⟨u, hu, rfl⟩ := (hV3 v hv.1 u').1 hu'
      exact ⟨u, hu, rfl⟩
    · rintro ⟨u, hu, rfl⟩
      exact ⟨h u, (hV3 v hv.1 _).2 ⟨u, hu, rfl⟩, rfl⟩
  · rw [← hU4 y]
    constructor
    · rintro ⟨v, hv, rfl⟩; exact ⟨h v, hv.2, rfl⟩
    · rintro ⟨w, hw, rfl⟩
      obtain ⟨v, hv, rfl⟩ := (hV4 w).2 (hU1 w hw)
      exact ⟨v, ⟨hv, hw⟩, rfl⟩
theorem Bel.cone {f q : Fr} (hq : Po q) (hb : Bel f q) (z : Nat) : BelM f q z := by
  obtain ⟨V, h, hV1, hV2, hV3, hV4⟩ := hb
  refine ⟨fun v => V v ∧ q.r z (h v), h, fun v hv => hV1 v hv.1, fun v u hv hu => ⟨hV2 v u hv.1 hu, hq.trans _ _ _ hv.2 ((hV3 v hv.1 _).2 ⟨u, hu, rfl⟩)⟩, fun v hv y => hV3 v hv.1 y, fun y => ?_⟩
  constructor
  · rintro ⟨v, hv, rfl⟩; exact hv.2
  · intro hy
    obtain ⟨v, hv, rfl⟩ := (hV4 y).2 (fr_bit_lt hq.ok hy).2
    exact ⟨v, ⟨hv, hy⟩, rfl⟩
/-- A least form is the part above an element, renumbered. -/
theorem cone_iso {g : Fr} (hg : Po g) {x : Nat} (hx : x < g.n) : ∃ a b : Nat → Nat, (∀ i, i < (coneF g x).n → g.r x (a i) ∧ b (a i) = i) ∧ (∀ y, g.r x y → b y < (coneF g x).n ∧ a (b y) = y) ∧ ∀ i j, i < (coneF g x).n → j < (coneF g x).n → ((coneF g x).r i j ↔ g.r (a i) (a j)) := by
  have hm : g.a.getD x 0 < 2 ^ g.n := hg.ok.lt hx
  obtain ⟨⟨o, ho, e⟩, _⟩ := least_spec (part_ok hg.ok hm)
  have hmc : ∀ y, y ∈ mem (g.a.getD x 0) ↔ g.r x y := fun y => mem_mem (mask63 hg.ok hm)
  have hnd := mem_nodup (g.a.getD x 0)
  have hml := mem_len hg.ok hm
  have hg8 := hg.ok.1
  have hqb : ∀ i j, (((partFr g (g.a.getD x 0)).a.getD i 0).testBit j = true) ↔ i < (mem (g.a.getD x 0)).length ∧ j < (mem (g.a.getD x 0)).length ∧ g.r ((mem (g.a.getD x 0)).getD i 0) ((mem (g.a.getD x 0)).getD j 0) := fun i j => part_bit i j
  have hr : ∀ i j, (coneF g x).r i j ↔ i < o.length ∧ j < o.length ∧ ((partFr g (g.a.getD x 0)).a.getD (o.getD i 0) 0).testBit (o.getD j 0) = true := fun i j => by
    show ((least (partFr g (g.a.getD x 0)).a).getD i 0).testBit j = true ↔ _
    rw [e]; exact rnb_bit o i j
  have hcn : (coneF g x).n = (mem (g.a.getD x 0)).length := rfl
  have ho : isOrd (mem (g.a.getD x 0)).length o := ho
  rw [hcn]
  generalize mem (g.a.getD x 0) = C at *
  have h62 : C.length ≤ 62 := by omega
  refine ⟨fun i => C.getD (o.getD i 0) 0, fun y => o.idxOf (C.idxOf y), ?_, ?_, ?_⟩
  · intro i hi
    have h1 := ord_get ho hi
    refine ⟨(hmc _).1 (getD_mem h1), ?_⟩
    show o.idxOf (C.idxOf (C.getD (o.getD i 0) 0)) = i
    rw [idx_at hnd h1, idx_get h62 ho hi]
  · intro y hy
    have hj := at_idx ((hmc y).2 hy)
    have h2 := ord_idx h62 ho hj.1
    refine ⟨h2.1, ?_⟩
    show C.getD (o.getD (o.idxOf (C.idxOf y)) 0) 0 = y
    rw [h2.2, hj.2]
  · intro i j hi hj
    rw [hr, hqb]
    exact ⟨fun h => h.2.2.2.2, fun h => ⟨by rw [ho.1]; exact hi, by rw [ho.1]; exact hj, ord_get ho hi, ord_get ho hj, h⟩⟩
theorem bel_cone {f g : Fr} (hg : Po g) {x : Nat} (hx : x < g.n) : Bel f (coneF g x) ↔ BelM f g x := by
  obtain ⟨a, b, h1, h2, h3⟩ := cone_iso hg hx
  have hc := (coneF_po hg hx).ok
  constructor
  · rintro ⟨V, h, hV1, hV2, hV3, hV4⟩
    have hin : ∀ v, V v → h v < (coneF g x).n := fun v hv => (hV4 _).1 ⟨v, hv, rfl⟩
    refine ⟨V, fun v => a (h v), hV1, hV2, fun v hv y => ?_, fun y => ?_⟩
    · constructor
      · intro hy
        have hy : g.r (a (h v)) y := hy
        have hxy : g.r x y := hg.trans _ _ _ (h1 _ (hin v hv)).1 hy
        have hb := h2 y hxy
        have : (coneF g x).r (h v) (b y) := (h3 _ _ (hin v hv) hb.1).2 (by rw [hb.2]; exact hy)
        obtain ⟨u, hu, e⟩ := (hV3 v hv _).1 this
        exact ⟨u, hu, by show a (h u) = y; rw [e, hb.2]⟩
      · rintro ⟨u, hu, rfl⟩
        exact (h3 _ _ (hin v hv) (hin u (hV2 v u hv hu))).1 ((hV3 v hv _).2 ⟨u, hu, rfl⟩)
    · constructor
      · rintro ⟨v, hv, rfl⟩; exact (h1 _ (hin v hv)).1
      · intro hy
        have hb := h2 y hy
        obtain ⟨v, hv, e⟩ := (hV4 _).2 hb.1
        exact ⟨v, hv, by show a (h v) = y; rw [e, hb.2]⟩
  · rintro ⟨V, h, hV1, hV2, hV3, hV4⟩
    have hin : ∀ v, V v → g.r x (h v) := fun v hv => (hV4 _).1 ⟨v, hv, rfl⟩
    refine ⟨V, fun v => b (h v), hV1, hV2, fun v hv y => ?_, fun y => ?_⟩
    · have hbv := h2 _ (hin v hv)
      constructor
      · intro hy
        have hyn := (fr_bit_lt hc hy).2
        have := (h3 _ _ hbv.1 hyn).1 hy
        rw [hbv.2] at this
        obtain ⟨u, hu, e⟩ := (hV3 v hv _).1 this
        exact ⟨u, hu, by show b (h u) = y; rw [e, (h1 y hyn).2]⟩
      · rintro ⟨u, hu, rfl⟩
        have hbu := h2 _ (hin u (hV2 v u hv hu))
        refine (h3 _ _ hbv.1 hbu.1).2 ?_
        rw [hbv.2, hbu.2]
        exact (hV3 v hv _).2 ⟨u, hu, rfl⟩
    · constructor
      · rintro ⟨v, hv, rfl⟩; exact (h2 _ (hin v hv)).1
      · intro hy
        obtain ⟨v, hv, e⟩ := (hV4 _).2 (h1 y hy).1
        exact ⟨v, hv, by show b (h v) = y; rw [e, (h1 y hy).2]⟩
/-- An image is not larger; one of the same size is the same but for the numbers. -/
theorem bel_n {f q : Fr} (hf : f.ok) (hq : q.ok) (hb : Bel f q) : q.n ≤ f.n ∧ (q.n = f.n → leaves (fitsB f q true true) q.n f.n [] ≠ []) := by
  classical
  obtain ⟨V, h, hV1, hV2, hV3, hV4⟩ := hb
  have hf8 := hf.1
  rcases Nat.eq_zero_or_pos q.n with h0 | h0
  · refine ⟨by omega, fun e => ?_⟩
    have hF : ([] : List Nat) ∈ leaves (fitsB f q true true) q.n f.n [] := by
      rw [mem_leaves hf hq]
      refine (full_iff hf hq (by omega)).2 ⟨⟨by simp; omega, by simp, List.nodup_nil⟩, fun x y hx => by omega⟩
    intro hn
    rw [hn] at hF; cases hF
  have hq8 := hq.1
  have hFe : ∀ v, v < f.n → ((List.range f.n).map fun v => if V v then h v else 0).getD v 0 = if V v then h v else 0 := fun v hv => by simp [List.getD_eq_getElem?_getD, hv]
  have hFl : ((List.range f.n).map fun v => if V v then h v else 0).length = f.n := by simp
  have hFb : ∀ y ∈ (List.range f.n).map fun v => if V v then h v else 0, y < q.n := fun y hy => by
    obtain ⟨v, _, rfl⟩ := List.mem_map.1 hy
    split
    · rename_i hv; exact (hV4 _).1 ⟨v, hv, rfl⟩
    · exact h0
  generalize hF : ((List.range f.n).map fun v => if V v then h v else 0) = F at *
  have hon : ∀ z, z < q.n → ∃ v, V v ∧ F.getD v 0 = z := fun z hz => by
    obtain ⟨v, hv, e⟩ := (hV4 z).2 hz
    exact ⟨v, hv, by rw [hFe v (hV1 v hv), if_pos hv, e]⟩
  have hp : popc (setOf F) = q.n := (popc_surj hq8 (setOf_lt hFb)).2 fun z hz => by
    rw [setOf_testBit, List.contains_iff_mem]
    obtain ⟨v, hv, e⟩ := hon z hz
    rw [← e]
    exact getD_mem (by have := hV1 v hv; omega)
  have hle := popc_setOf_le F fun y hy => by have := hFb y hy; omega
  refine ⟨by omega, fun e => ?_⟩
  have hnd : F.Nodup := (popc_setOf_nodup _ F rfl fun y hy => by have := hFb y hy; omega).1 (by omega)
  have ho : isOrd f.n F := ⟨hFl, fun y hy => by have := hFb y hy; omega, hnd⟩
  have hall : ∀ v, v < f.n → V v := fun v hv => by
    apply Classical.byContradiction
    intro hn
    obtain ⟨u, hu, eu⟩ := hon 0 h0
    have ev : F.getD v 0 = 0 := by rw [hFe v hv, if_neg hn]
    have : u = v := ord_inj ho (hV1 u hu) hv (by rw [eu, ev])
    exact hn (this ▸ hu)
  have hFh : ∀ v, v < f.n → F.getD v 0 = h v := fun v hv => by rw [hFe v hv, if_pos (hall v hv)]
  have hmem : F ∈ leaves (fitsB f q true true) q.n f.n [] := by
    rw [mem_leaves hf hq]
    refine (full_iff hf hq (by omega)).2 ⟨ho, fun x y hx hy => ?_⟩
    rw [hFh x hx, hFh y hy]
    constructor
    · intro hxy; exact (hV3 x (hall x hx) _).2 ⟨y, hxy, rfl⟩
    · intro hxy
      obtain ⟨u, hu, eu⟩ := (hV3 x (hall x hx) _).1 hxy
      have hun := (fr_bit_lt hf hu).2
      have : u = y := ord_inj ho hun hy (by rw [hFh u hun, hFh y hy, eu])
      exact this ▸ hu
  intro hn
  rw [hn] at hmem; cases hmem
end Go.Proofs.YtfhdhdgabdpmkaaGreat

/- Plain facts: a poset is alike with the sum of its core. No program in sight. Conditions: none. -/
namespace Go.Proofs.YtfhdhdgabdpmkaaGreat
open Go.Vc
theorem poB_of {f : Fr} (hp : Po f) : poB f = true := by
  unfold poB
  rw [Bool.and_eq_true, Bool.and_eq_true]
  refine ⟨?_, (flagB_trans hp.ok).2 hp.trans, flagB_iff.2 fun x _ => ⟨by unfold flag1; simp, fun y _ => ?_⟩⟩
  · rw [flagB_refl, List.all_eq_true]
    exact fun x hx => hp.refl x (List.mem_range.1 hx)
  · unfold flag2
    cases h1 : (f.a.getD x 0).testBit y
    · rfl
    · cases h2 : (f.a.getD y 0).testBit x
      · simp
      · simp [hp.anti x y h1 h2]
theorem posetOk_of {f : Fr} (hp : Po f) : posetOk (f.n : Int) (nats f.a) = true := by
  unfold posetOk frameOk
  rw [frOf_nats, poB_of hp, Bool.and_true, Bool.and_eq_true, Bool.and_eq_true, decide_eq_true_eq, decide_eq_true_eq, List.all_eq_true, Int.toNat_natCast]
  refine ⟨⟨⟨by omega, by have := hp.ok.1; omega⟩, by rw [nats_length, hp.ok.2.1]⟩, fun z hz => ?_⟩
  obtain ⟨m, hm, rfl⟩ := List.mem_map.1 hz
  have := hp.ok.2.2 m hm
  unfold maskB
  rw [decide_eq_true_eq]
  generalize 2 ^ f.n = k at *
  show 0 ≤ (m : Int) ∧ (m : Int) ≤ ((k - 1 : Nat) : Int)
  omega
theorem nats_inj {a b : List Nat} (h : nats a = nats b) : a = b := by
  have := congrArg (List.map Int.toNat) h
  simpa [nats, Function.comp_def] using this
theorem rnb_rnb {a o p : List Nat} {n : Nat} (ho : o.length = n) (hp : isOrd n p) : rnb (rnb a o) p = rnb a (cmpL o p) := by
  have hl : p.length = (cmpL o p).length := by simp [cmpL]
  refine rnb_eq hl fun i j hi hj => ?_
  rw [hp.1] at hi hj
  rw [rnb_bit, cmp_get hp hi, cmp_get hp hj]
  exact ⟨fun h => h.2.2, fun h => ⟨by rw [ho]; exact ord_get hp hi, by rw [ho]; exact ord_get hp hj, h⟩⟩
theorem least_idem {f : Fr} (hf : f.ok) : least (least f.a) = least f.a := by
  obtain ⟨⟨o, ho, e⟩, hmin⟩ := least_spec hf
  have hf' : (⟨f.n, least f.a⟩ : Fr).ok := by
    rw [e]
    exact ⟨hf.1, (rnb_len (a := f.a) o).trans ho.1, fun x hx => by have := rnb_lt x hx; rwa [ho.1] at this⟩
  obtain ⟨⟨p, hp, e2⟩, hmin2⟩ := least_spec hf'
  have hp : isOrd f.n p := hp
  have e2 : least (least f.a) = rnb (least f.a) p := e2
  have h1 := hmin (cmpL o p) (cmp_ord ho hp)
  rw [← rnb_rnb ho.1 hp, ← e, ← e2] at h1
  have h2 := hmin2 (List.range f.n) (range_ord _)
  have e3 : rnb (least f.a) (List.range f.n) = least f.a := rnb_id hf'
  have h2 : lessB (nats (rnb (least f.a) (List.range f.n))) (nats (least (least f.a))) = false := h2
  rw [e3] at h2
  exact nats_inj (lessB_anti _ _ h1 h2)
theorem least_same {f g : Fr} (hf : f.ok) (hg : g.ok) (hn : g.n = f.n) (hb : Bel f g) : least f.a = least g.a := ((least_iff hf hg).2 ⟨hn.symm, (bel_n hf hg hb).2 hn⟩).2
section
variable {f : Fr}
theorem partsL_at {f : Fr} {i : Nat} (hi : i < (partsL f).length) : ∃ x, x < f.n ∧ (partsL f)[i] = coneP f x ∧ frP (partsL f) i = coneF f x := by
  obtain ⟨x, hx, e⟩ := mem_partsL.1 (List.getElem_mem hi)
  refine ⟨x, hx, e, ?_⟩
  unfold frP
  rw [List.getD_eq_getElem?_getD, List.getElem?_eq_getElem hi]
  show frOf (partsL f)[i].1 (partsL f)[i].2 = _
  rw [e]; exact frOf_nats _
theorem partsL_inj (hp : Po f) {i j : Nat} (hi : i < (partsL f).length) (hj : j < (partsL f).length) (hn : (frP (partsL f) i).n = (frP (partsL f) j).n) (hb : Bel (frP (partsL f) j) (frP (partsL f) i)) : i = j := by
  obtain ⟨x, hx, e1, e2⟩ := partsL_at hi
  obtain ⟨y, hy, e3, e4⟩ := partsL_at hj
  rw [e2, e4] at hn hb
  have h1 := least_same (coneF_po hp hy).ok (coneF_po hp hx).ok hn hb
  have ha : ∀ z, z < f.n → least (coneF f z).a = (coneF f z).a := fun z hz => least_idem (part_ok hp.ok (hp.ok.lt hz))
  rw [ha y hy, ha x hx] at h1
  have e : (partsL f)[i] = (partsL f)[j] := by
    rw [e1, e3]
    unfold coneP
    rw [hn, h1]
  have hinc : IncA ltP (partsL f) := inc_setA ordP _
  rcases Nat.lt_trichotomy i j with h | h | h
  · have := (List.pairwise_iff_getElem.1 hinc) i j hi hj h
    rw [e, ordP.o.rfl] at this; cases this
  · exact h
  · have := (List.pairwise_iff_getElem.1 hinc) j i hj hi h
    rw [e, ordP.o.rfl] at this; cases this
theorem frP_parts_po (hp : Po f) {i : Nat} (hi : i < (partsL f).length) : Po (frP (partsL f) i) := by
  obtain ⟨x, hx, _, e⟩ := partsL_at hi
  rw [e]; exact coneF_po hp hx
/-- Each part belongs to one that stands alone. -/
theorem core_top (hp : Po f) : ∀ (d i : Nat), i < (partsL f).length → 8 ≤ (frP (partsL f) i).n + d → ∃ k, k < (partsL f).length ∧ alone (partsL f) k = true ∧ Bel (frP (partsL f) k) (frP (partsL f) i) := by
  intro d
  induction d with
  | zero =>
    intro i hi hd
    cases ha : alone (partsL f) i
    · exfalso
      unfold alone aloneK at ha
      rw [List.all_eq_false] at ha
      obtain ⟨j, hj, h⟩ := ha
      rw [List.mem_range] at hj
      simp only [Bool.not_eq_true, Bool.or_eq_false_iff, decide_eq_false_iff_not, Option.isNone_eq_false_iff] at h
      have hb := (bel_iff (frP_parts_po hp hj) (frP_parts_po hp hi).ok).1 h.2
      have hn := (bel_n (frP_parts_po hp hj).ok (frP_parts_po hp hi).ok hb).1
      have h8 := (frP_parts_po hp hj).ok.1
      exact h.1 (partsL_inj hp hi hj (by omega) hb).symm
    · exact ⟨i, hi, ha, Bel.refl (frP_parts_po hp hi).ok⟩
  | succ d ih =>
    intro i hi hd
    cases ha : alone (partsL f) i
    · unfold alone aloneK at ha
      rw [List.all_eq_false] at ha
      obtain ⟨j, hj, h⟩ := ha
      rw [List.mem_range] at hj
      simp only [Bool.not_eq_true, Bool.or_eq_false_iff, decide_eq_false_iff_not, Option.isNone_eq_false_iff] at h
      have hb := (bel_iff (frP_parts_po hp hj) (frP_parts_po hp hi).ok).1 h.2
      have hn := (bel_n (frP_parts_po hp hj).ok (frP_parts_po hp hi).ok hb).1
      have hne : (frP (partsL f) i).n ≠ (frP (partsL f) j).n := fun e => h.1 (partsL_inj hp hi hj e hb).symm
      obtain ⟨k, hk, h1, h2⟩ := ih j hj (by omega)
      exact ⟨k, hk, h1, h2.trans hb⟩
    · exact ⟨i, hi, ha, Bel.refl (frP_parts_po hp hi).ok⟩
/-- The k-th of the core, among the parts. -/
theorem core_at {Q : List (Int × List Int)} {i : Nat} (hi : i < (coreK Q Q.length).length) : ∃ a, a < Q.length ∧ alone Q a = true ∧ frP (coreK Q Q.length) i = frP Q a ∧ (coreK Q Q.length)[i] = Q.getD a (0, []) ∧ a = ((List.range Q.length).filter (alone Q)).getD i 0 := by
  unfold coreK at hi ⊢
  rw [List.length_map] at hi
  have hm := List.getElem_mem hi
  rw [List.mem_filter, List.mem_range] at hm
  refine ⟨((List.range Q.length).filter (alone Q))[i], hm.1, hm.2, ?_, by simp, by simp [List.getD_eq_getElem?_getD, hi]⟩
  unfold frP
  have e : (((List.range Q.length).filter (alone Q)).map fun i => Q.getD i (0, [])).getD i (0, []) = Q.getD ((List.range Q.length).filter (alone Q))[i] (0, []) := by
    rw [List.getD_eq_getElem?_getD, List.getElem?_map, List.getElem?_eq_getElem hi]; rfl
  rw [e]
theorem core_has {Q : List (Int × List Int)} {k : Nat} (hk : k < Q.length) (ha : alone Q k = true) : ∃ i, i < (coreK Q Q.length).length ∧ frP (coreK Q Q.length) i = frP Q k := by
  have hm : k ∈ (List.range Q.length).filter (alone Q) := List.mem_filter.2 ⟨List.mem_range.2 hk, ha⟩
  obtain ⟨i, hi, e⟩ := List.getElem_of_mem hm
  refine ⟨i, by unfold coreK; rw [List.length_map]; exact hi, ?_⟩
  unfold frP coreK
  have e' : (((List.range Q.length).filter (alone Q)).map fun i => Q.getD i (0, [])).getD i (0, []) = Q.getD k (0, []) := by
    rw [List.getD_eq_getElem?_getD, List.getElem?_map, List.getElem?_eq_getElem hi, e]; rfl
  rw [e']
theorem frP_core_po (hp : Po f) {i : Nat} (hi : i < (coreL f).length) : Po (frP (coreL f) i) := by
  obtain ⟨a, ha, _, e, _⟩ := core_at hi
  have e : frP (coreL f) i = frP (partsL f) a := e
  rw [e]; exact frP_parts_po hp ha
/-- In a core no poset belongs to another one. -/
theorem core_part (hp : Po f) {i k : Nat} (hi : i < (coreL f).length) (hk : k < (coreL f).length) : (partOut (frP (coreL f) k) (frP (coreL f) i)).isSome = decide (i = k) := by
  obtain ⟨a, ha, ha2, ea, _, ia⟩ := core_at hi
  obtain ⟨b, hb, _, eb, _, ib⟩ := core_at hk
  have ea : frP (coreL f) i = frP (partsL f) a := ea
  have eb : frP (coreL f) k = frP (partsL f) b := eb
  by_cases h : i = k
  · subst h
    rw [decide_eq_true rfl]
    exact (bel_iff (frP_core_po hp hi) (frP_core_po hp hi).ok).2 (Bel.refl (frP_core_po hp hi).ok)
  · rw [decide_eq_false h, ea, eb]
    have hab : b ≠ a := by
      have hnd : ((List.range (partsL f).length).filter (alone (partsL f))).Nodup := List.Pairwise.filter _ List.nodup_range
      have hli : i < ((List.range (partsL f).length).filter (alone (partsL f))).length := by unfold coreL coreK at hi; rwa [List.length_map] at hi
      have hlk : k < ((List.range (partsL f).length).filter (alone (partsL f))).length := by unfold coreL coreK at hk; rwa [List.length_map] at hk
      intro e
      have h1 := idx_at hnd hli
      have h2 := idx_at hnd hlk
      rw [← ia] at h1
      rw [← ib, e] at h2
      exact h (h1.symm.trans h2)
    unfold alone aloneK at ha2
    rw [List.all_eq_true] at ha2
    have := ha2 b (List.mem_range.2 hb)
    rw [decide_eq_false hab, Bool.false_or] at this
    rw [Option.isNone_iff_eq_none] at this
    rw [this]; rfl
end
/-! ### Sums -/
theorem sum_r {f g : Fr} (hf : f.ok) (hg : g.ok) (x y : Nat) : (sumFr f g).r x y ↔ f.r x y ∨ (f.n ≤ x ∧ f.n ≤ y ∧ g.r (x - f.n) (y - f.n)) := sum_bit hf hg x y
/-- What a poset and the sum of the first k of its core have to do with each other. -/
structure CoreI (p : Fr) (C : List (Int × List Int)) (T : Fr) (k : Nat) : Prop where
  po : Po T
  sub : ∀ x, x < T.n → BelM p T x
  sup : ∀ j, j < k → ∀ x, x < (frP C j).n → BelM T (frP C j) x
theorem CoreI.init {p : Fr} {C : List (Int × List Int)} : CoreI p C ⟨0, []⟩ 0 where
  po := ⟨⟨Nat.zero_le _, rfl, fun x hx => (by cases hx)⟩, fun x hx => absurd hx (Nat.not_lt_zero _), fun x y z h => (by have h : (0 : Nat).testBit y = true := h; simp at h), fun x y h => (by have h : (0 : Nat).testBit y = true := h; simp at h)⟩
  sub x hx := by cases hx
  sup j hj := by cases hj
theorem CoreI.step {p : Fr} {C : List (Int × List Int)} {T : Fr} {k : Nat} (h : CoreI p C T k) (hk : Po (frP C k)) (hb : Bel p (frP C k)) (hn : T.n + (frP C k).n ≤ 8) : CoreI p C (sumFr T (frP C k)) (k + 1) where
  po := sum_po h.po hk hn
  sub x hx := by
    have hT := h.po.ok
    have hsr := sum_r hT hk.ok
    rcases Nat.lt_or_ge x T.n with hxT | hxT
    · obtain ⟨V, g, hV1, hV2, hV3, hV4⟩ := h.sub x hxT
      have hlt : ∀ v, V v → g v < T.n := fun v hv => (fr_bit_lt hT ((hV4 _).1 ⟨v, hv, rfl⟩)).2
      refine ⟨V, g, hV1, hV2, fun v hv y => ?_, fun y => ?_⟩
      · rw [← hV3 v hv y, hsr]
        have := hlt v hv
        exact ⟨fun h => h.resolve_right fun h => by omega, .inl⟩
      · rw [hV4 y, hsr]
        exact ⟨.inl, fun h => h.resolve_right fun h => by omega⟩
    · have hxn : x - T.n < (frP C k).n := by
        have : x < T.n + (frP C k).n := hx
        omega
      obtain ⟨V, g, hV1, hV2, hV3, hV4⟩ := hb.cone hk (x - T.n)
      have hno : ∀ a y, ¬ T.r (T.n + a) y := fun a y h => by have := (fr_bit_lt hT h).1; omega
      refine ⟨V, fun v => T.n + g v, hV1, hV2, fun v hv y => ?_, fun y => ?_⟩
      · show (sumFr T (frP C k)).r (T.n + g v) y ↔ ∃ u, p.r v u ∧ T.n + g u = y
        rw [hsr]
        constructor
        · intro h
          rcases h with h | ⟨_, h2, h3⟩
          · exact absurd h (hno _ _)
          · rw [Nat.add_sub_cancel_left] at h3
            obtain ⟨u, hu, e⟩ := (hV3 v hv _).1 h3
            exact ⟨u, hu, by rw [e]; omega⟩
        · rintro ⟨u, hu, rfl⟩
          refine .inr ⟨by omega, by omega, ?_⟩
          rw [Nat.add_sub_cancel_left, Nat.add_sub_cancel_left]
          exact (hV3 v hv _).2 ⟨u, hu, rfl⟩
      · show (∃ v, V v ∧ T.n + g v = y) ↔ _
        rw [hsr]
        constructor
        · rintro ⟨v, hv, rfl⟩
          refine .inr ⟨hxT, by omega, ?_⟩
          rw [Nat.add_sub_cancel_left]
          exact (hV4 _).1 ⟨v, hv, rfl⟩
        · intro h
          rcases h with h | ⟨_, h2, h3⟩
          · have := (fr_bit_lt hT h).1; omega
          · obtain ⟨v, hv, e⟩ := (hV4 _).2 h3
            exact ⟨v, hv, by rw [e]; omega⟩
  sup j hj x hx := by
    have hT := h.po.ok
    have hsr := sum_r hT hk.ok
    rcases Nat.lt_or_ge j k with hjk | hjk
    · obtain ⟨V, g, hV1, hV2, hV3, hV4⟩ := h.sup j hjk x hx
      have hvr : ∀ v u, V v → ((sumFr T (frP C k)).r v u ↔ T.r v u) := fun v u hv => by
        rw [hsr]
        have := hV1 v hv
        exact ⟨fun h => h.resolve_right fun h => by omega, .inl⟩
      refine ⟨V, g, fun v hv => by have := hV1 v hv; show v < T.n + _; omega, fun v u hv hu => hV2 v u hv ((hvr v u hv).1 hu), fun v hv y => ?_, hV4⟩
      rw [hV3 v hv y]
      exact ⟨fun ⟨u, hu, e⟩ => ⟨u, (hvr v u hv).2 hu, e⟩, fun ⟨u, hu, e⟩ => ⟨u, (hvr v u hv).1 hu, e⟩⟩
    · have : j = k := by omega
      subst this
      have hno : ∀ a y, ¬ T.r (T.n + a) y := fun a y h => by have := (fr_bit_lt hT h).1; omega
      have hsr2 : ∀ a u, (sumFr T (frP C j)).r (T.n + a) u ↔ ∃ b, u = T.n + b ∧ (frP C j).r a b := fun a u => by
        rw [hsr]
        constructor
        · intro h
          rcases h with h | ⟨_, h2, h3⟩
          · exact absurd h (hno _ _)
          · rw [Nat.add_sub_cancel_left] at h3
            exact ⟨u - T.n, by omega, h3⟩
        · rintro ⟨b, rfl, hb⟩
          refine .inr ⟨by omega, by omega, ?_⟩
          rwa [Nat.add_sub_cancel_left, Nat.add_sub_cancel_left]
      refine ⟨fun v => ∃ a, v = T.n + a ∧ (frP C j).r x a, fun v => v - T.n, ?_, ?_, ?_, ?_⟩
      · rintro v ⟨a, rfl, ha⟩
        have := (fr_bit_lt hk.ok ha).2
        show T.n + a < T.n + _
        omega
      · rintro v u ⟨a, rfl, ha⟩ hu
        obtain ⟨b, rfl, hb⟩ := (hsr2 a u).1 hu
        exact ⟨b, rfl, hk.trans _ _ _ ha hb⟩
      · rintro v ⟨a, rfl, ha⟩ y
        show (frP C j).r (T.n + a - T.n) y ↔ ∃ u, (sumFr T (frP C j)).r (T.n + a) u ∧ u - T.n = y
        rw [Nat.add_sub_cancel_left]
        constructor
        · intro hy
          exact ⟨T.n + y, (hsr2 a _).2 ⟨y, rfl, hy⟩, by omega⟩
        · rintro ⟨u, hu, e⟩
          obtain ⟨b, rfl, hb⟩ := (hsr2 a u).1 hu
          have : b = y := by omega
          rwa [← this]
      · intro y
        constructor
        · rintro ⟨v, ⟨a, rfl, ha⟩, e⟩
          have e : T.n + a - T.n = y := e
          have : a = y := by omega
          rwa [← this]
        · intro hy
          exact ⟨T.n + y, ⟨y, rfl, hy⟩, by show T.n + y - T.n = y; omega⟩
/-- A poset is alike with the sum of its core. -/
theorem core_alike {p : Fr} (hp : Po p) {T : Fr} (h : CoreI p (coreL p) T (coreL p).length) : tell p T = 0 ∧ tell T p = 0 := by
  refine ⟨(tell_iff hp h.po).2 h.sub, (tell_iff h.po hp).2 fun x hx => ?_⟩
  obtain ⟨i, hi, e⟩ := List.getElem_of_mem (mem_partsL.2 ⟨x, hx, rfl⟩)
  have ei : frP (partsL p) i = coneF p x := by
    unfold frP
    rw [List.getD_eq_getElem?_getD, List.getElem?_eq_getElem hi, e]
    exact frOf_nats _
  obtain ⟨k, hk, h1, h2⟩ := core_top hp 8 i hi (by omega)
  obtain ⟨j, hj, ej⟩ := core_has hk h1
  have ej : frP (coreL p) j = frP (partsL p) k := ej
  rw [ei, ← ej] at h2
  have hb := (bel_cone hp hx).1 h2
  exact BelM.trans hp (h.sup j hj) hx hb
theorem core_bel {p : Fr} (hp : Po p) {i : Nat} (hi : i < (coreL p).length) : Bel p (frP (coreL p) i) := by
  obtain ⟨a, ha, _, e, _⟩ := core_at hi
  obtain ⟨x, hx, _, e2⟩ := partsL_at ha
  have e : frP (coreL p) i = frP (partsL p) a := e
  rw [e, e2]
  exact (bel_cone hp hx).2 (BelM.self hp x)
end Go.Proofs.YtfhdhdgabdpmkaaGreat

/- The laws' helpers: sizes of codes, equal lists and frames. Conditions: none. -/
namespace Go.Vc
theorem Sl.cell {w : World} {v : Value} {xs : List Value} (h : Sl w v xs) : isCell v = true := by
  obtain ⟨_, _, h, _⟩ := h
  rw [h]; rfl
theorem SlI.cell {w : World} {v : Value} {l : List Int} (h : SlI w v l) : isCell v = true := Sl.cell h
theorem SlI.pair {w : World} {v : Value} {l : List Int} (h : SlI w v l) (n : Int) : ∀ u ∈ (#[.int .i64 n, v] : Array Value).toList, isCell u = true := by
  intro u hu
  simp at hu
  rcases hu with rfl | rfl
  · rfl
  · exact h.cell
end Go.Vc
namespace Go.Proofs.YtfhdhdgabdpmkaaGreat
open Go.Vc
theorem ok_laws_big {vc : Value} {w : World} {bs : List Nat} (hc : SlB w vc bs) : Ret Tryz.prog f_laws_big #[vc] w (.bool (decide ((4096 : Int) < (bs.length : Nat)))) := by
  apply c_laws_big; unfold S_laws_big
  refine iLenB hc ?_
  refine iLt ?_
  exact ⟨rfl, Ext.refl _⟩
theorem ok_laws_likeInts {v v' : Value} {w : World} {l l' : List Int} (hs : SlI w v l) (hs' : SlI w v' l') : Ret Tryz.prog f_laws_likeInts #[v, v'] w (.bool (decide (l = l'))) := by
  apply c_laws_likeInts; unfold S_laws_likeInts
  have hl := hs.len
  have hl' := hs'.len
  ((with_reducible refine iLenI (by assumption) ?_; refine iLenI (by assumption) ?_; refine iNe ?_))
  refine iCndP (fun h => ?_) (fun h => ?_)
  · rw [decide_eq_false (fun e => h (by rw [e]))]
    exact ⟨rfl, Ext.refl _⟩
  · have h : l.length = l'.length := by omega
    refine iLp (fun k : Nat => [.int .i64 (k : Int)]) (fun k w' => k ≤ l.length ∧ Ext w w' ∧ l.take k = l'.take k) (fun k => l.length - k) 0 rfl ⟨Nat.zero_le _, Ext.refl _, by simp⟩ ?_
    rintro k w2 Kn ⟨hk, h2, he⟩ hKn
    have hs2 := hs.ext h2
    have hs2' := hs'.ext h2
    (intro _; (try simp only [gx]); (with_reducible refine iLenI (by assumption) ?_; refine iLt ?_))
    refine iCndP (fun h3 => ?_) (fun h3 => ?_)
    · have hk1 : k < l.length := by omega
      have hk2 : k < l'.length := by omega
      have e1 : l.getD k 0 = l[k] := by simp [List.getD_eq_getElem?_getD, hk1]
      have e2 : l'.getD k 0 = l'[k] := by simp [List.getD_eq_getElem?_getD, hk2]
      ((with_reducible refine iIaN (by assumption) ?_ (fun pa_ hpa_ => ?_)); omega; (with_reducible refine iLd (by assumption) ?_); (with_reducible refine iIaN (by assumption) ?_ (fun pa_ hpa_ => ?_)); omega; (with_reducible refine iLd (by assumption) ?_; refine iNe ?_))
      rw [e1, e2]
      intro w3 h4
      refine iCndP (fun h5 => ?_) (fun h5 => ?_)
      · rw [decide_eq_false (fun e => by subst e; exact h5 rfl)]
        exact ⟨rfl, h2.trans h4⟩
      · (refine iAdd (by omega) ?_)
        refine hKn (k + 1) _ ⟨by omega, h2.trans h4, ?_⟩ (by omega)
        rw [List.take_succ_eq_append_getElem hk1, List.take_succ_eq_append_getElem hk2, he]
        congr 2
        exact Classical.not_not.1 h5
    · obtain rfl : k = l.length := by omega
      rw [List.take_length, h, List.take_length] at he
      rw [decide_eq_true he]
      exact ⟨rfl, h2⟩
end Go.Proofs.YtfhdhdgabdpmkaaGreat

/- The law on cores: what its body answers. Conditions: none. -/
namespace Go.Vc
theorem iBoolE {p a b : Bool} {K : Value → Prop} (h : K (.bool (p == (a == b)))) : xBoolEq p (.bool a) (.bool b) K := ⟨a, b, rfl, rfl, h⟩
end Go.Vc
namespace Go.Proofs.YtfhdhdgabdpmkaaGreat
open Go.Vc
theorem ok_laws_samePoset9 {w : World} {a b : PR} (ha : SlI w a.2.1 a.2.2) (hb : SlI w b.2.1 b.2.2) (he : keyR a = keyR b) : Ret Tryz.prog f_laws_samePoset9 #[valR a, valR b] w (.bool true) := by
  apply c_laws_samePoset9; unfold S_laws_samePoset9
  have e1 : a.1 = b.1 := congrArg (fun x : Int × List Int => x.1) he
  have e2 : a.2.2 = b.2.2 := congrArg (fun x : Int × List Int => x.2) he
  refine iNew fun b2 w1 hb2 x1 hB2 => ?_
  refine iNew fun b3 w2 hb3 x2 hB3 => ?_
  have hB2 : Blk _ w2 b2 [.int .i64 a.1, a.2.1] := hB2.ext x2
  have hB3 : Blk _ w2 b3 [.int .i64 b.1, b.2.1] := hB3
  have hX := x1.trans x2
  refine iJnB true w2 (fun J hJ => ?_) (fun w4 h4 => ?_)
  · ((with_reducible refine iFa ?_); refine iLdB (by assumption) (by first | rfl | simp) ?_; (with_reducible refine iFa ?_); refine iLdB (by assumption) (by first | rfl | simp) ?_; (with_reducible refine iEq ?_))
    refine iCndP (fun _ => ?_) (fun h => absurd e1 h)
    ((with_reducible refine iFa ?_); refine iLdB (by assumption) (by first | rfl | simp) ?_; (with_reducible refine iFa ?_); refine iLdB (by assumption) (by first | rfl | simp) ?_)
    refine iRet (ok_laws_likeInts (ha.ext hX) (hb.ext hX)) fun w5 x5 => ?_
    rw [decide_eq_true e2]
    exact hJ w5 x5
  · intro _
    simp only [gx]
    exact ⟨by first | trivial | rfl, hX.trans h4⟩
theorem ok_impl_summed_over {f g : Fr} (hp : posetOk (f.n : Int) (nats f.a) = true) (hq : posetOk (g.n : Int) (nats g.a) = true) (hf : f.ok) (hg : g.ok) (hn : 8 < f.n + g.n) {v u : Value} {w : World} (hs : SlN w v f.a) (ht : SlN w u g.a) : Ret Tryz.prog f_impl_summed #[.agg #[.int .i64 (f.n : Int), v], .agg #[.int .i64 (g.n : Int), u], .int .i64 0] w (.tuple #[.agg #[.int .i64 0, .slice none 0 0], .int .i64 3]) := by
  apply c_impl_summed; unfold S_impl_summed
  have hf8 := hf.1
  have hg8 := hg.1
  refine iNew fun b1 w1 hb1 h1 hB1 => ?_
  refine iNew fun b2 w2 hb2 h2 hB2 => ?_
  refine iNew fun b3 w3 hb3 h3 hB3 => ?_
  have hX3 := h1.trans (h2.trans h3)
  have hB1 := (hB1.ext h2).ext h3
  have hB2 := hB2.ext h3
  refine iJnB false w3 (fun J hJ => ?_) (fun w5 h5 => ?_)
  · ((with_reducible refine iLdA (by assumption) ?_ ?_); rfl)
    refine iRet (ok_impl_isPoset (hs.ext hX3) (f.n : Int)) fun w6 h6 => ?_
    rw [hp]
    have hB2 := hB2.ext h6
    ((with_reducible refine iNot ?_))
    refine iCndF rfl ?_
    ((with_reducible refine iLdA (by assumption) ?_ ?_); rfl)
    refine iRet (ok_impl_isPoset (ht.ext (hX3.trans h6)) (g.n : Int)) fun w7 h7 => ?_
    rw [hq]
    ((with_reducible refine iNot ?_))
    exact hJ w7 (h6.trans h7)
  · have hB15 := hB1.ext h5
    have hB25 := hB2.ext h5
    have hB35 := hB3.ext h5
    have hX5 := hX3.trans h5
    (intro _; (try simp only [gx]))
    refine iCndF rfl ?_
    ((with_reducible refine iFa ?_); refine iLdB (by assumption) (by first | rfl | simp) ?_; (with_reducible refine iFa ?_); refine iLdB (by assumption) (by first | rfl | simp) ?_; refine iAdd (by omega) ?_; (with_reducible refine iLt ?_))
    refine iCndP (fun _ => ?_) (fun h => absurd (show (8 : Int) < (f.n : Int) + (g.n : Int) by omega) h)
    refine iBuild (cs := #[.int .i64 0, .slice none 0 0]) (by simp [Instr.fill]) ?_
    refine iStAB hB35 rfl rfl (by intro x hx; simp at hx; rcases hx with rfl | rfl <;> rfl) fun w10 hu hB10 => ?_
    refine iLdA hB10 rfl ?_
    exact ⟨rfl, hX5.upd hu (by have := (h1.trans h2).size; omega)⟩
theorem ok_impl_SumPosets_over {f g : Fr} (hp : posetOk (f.n : Int) (nats f.a) = true) (hq : posetOk (g.n : Int) (nats g.a) = true) (hf : f.ok) (hg : g.ok) (hn : 8 < f.n + g.n) {v u : Value} {w : World} (hs : SlN w v f.a) (ht : SlN w u g.a) : Ret Tryz.prog f_impl_SumPosets #[.agg #[.int .i64 (f.n : Int), v], .agg #[.int .i64 (g.n : Int), u]] w (.tuple #[.agg #[.int .i64 0, .slice none 0 0], .int .i64 3]) := by
  apply c_impl_SumPosets; unfold S_impl_SumPosets
  refine iNew fun b1 w1 hb1 h1 hB1 => ?_
  refine iNew fun b2 w2 hb2 h2 hB2 => ?_
  refine iNew fun b3 w3 hb3 h3 hB3 => ?_
  have hX3 := h1.trans (h2.trans h3)
  have hB1 := (hB1.ext h2).ext h3
  have hB2 := hB2.ext h3
  ((with_reducible refine iLdA (by assumption) ?_ ?_); rfl; (with_reducible refine iLdA (by assumption) ?_ ?_); rfl)
  refine iRet (ok_impl_summed_over hp hq hf hg hn (hs.ext hX3) (ht.ext hX3)) fun w4 h4 => ?_
  ((with_reducible refine iE20 ?_; refine iE21 ?_))
  have hB34 := hB3.ext h4
  refine iStAB hB34 rfl rfl (by intro x hx; simp at hx; rcases hx with rfl | rfl <;> rfl) fun w5 hu hB5 => ?_
  refine iLdA hB5 rfl ?_
  exact ⟨rfl, (hX3.trans h4).upd hu (by have := (h1.trans h2).size; omega)⟩
theorem ok_impl_RootedParts {w : World} {v : Value} {l : List Int} (hs : SlI w v l) (n : Int) (hc : codeS [(n, l)] = 0) : Cal Tryz.prog f_impl_RootedParts #[.agg #[.int .i64 n, v]] w fun r w' => Ext w w' ∧ ∃ u L, r = .tuple #[u, .int .i64 0] ∧ RowR w.heap.size t_impl_Poset w' u L ∧ L.length = (partsL (frOf n l)).length := by
  apply c_impl_RootedParts; unfold S_impl_RootedParts
  refine iNew fun b w1 hb x1 hB => ?_
  refine iLdA hB rfl ?_
  refine iBsA fun b2 w2 hb2 x2 hB2 => ?_
  have hX2 := x1.trans x2
  refine iRet (ok_impl_sixCode (slp_one hB2 (hs.ext hX2))) fun w3 x3 => ?_
  have hX3 := hX2.trans x3
  rw [hc]
  refine iNe (iCndP (fun h => absurd rfl h) (fun _ => ?_))
  obtain ⟨hok, hn⟩ := codeS_one hc
  obtain ⟨hp, e1, e2⟩ := posetOk_po hok
  have hs3 : SlN w3 v (frOf n l).a := by have := hs.ext hX3; rw [e2] at this; exact this
  refine iLdA ((hB.ext x2).ext x3) rfl ?_
  rw [e1]
  refine iCall ((ok_impl_rootedParts hp (by omega) hs3).mono ?_)
  rintro u w4 ⟨x4, L, hL, _, hk⟩
  rw [← e1]
  refine ⟨hX3.trans x4, u, L, rfl, OwK.mono hL hX3.size, ?_⟩
  rw [← hk]; simp
theorem ok_spec_DrawCoreOf {vc : Value} {w : World} {bs : List Nat} (hc : SlB w vc bs) : Cal Tryz.prog f_spec_DrawCoreOf #[vc] w fun r w' => Ext w w' ∧ ∃ (n : Int) (l : List Int) (v : Value), r = .agg #[.int .i64 n, v] ∧ SlI w' v l := by
  apply c_spec_DrawCoreOf; unfold S_spec_DrawCoreOf
  refine iNew fun b2 w1 hb2 x1 hB => ?_
  obtain ⟨e2, hne2, hB⟩ : ∃ e', t_i64 ≠ e' ∧ Blk e' w1 b2 [.int .i64 0, .slice none 0 0] := ⟨_, by decide, hB⟩
  have hc1 : SlB w1 vc bs := ⟨Sl.ext hc.1 x1, hc.2⟩
  refine iCall ((ok_spec_l01From hc1).mono ?_)
  rintro _ w2 ⟨e, b, hne, _, rfl, hS⟩
  have hbl := hB.lt
  have hb : b2 ≠ b := by have := hS.lo; omega
  have hB2 := hB.ext hS.ext
  refine iCall ((ok_spec_l01Next hc1 hS 16).mono ?_)
  rintro _ w3 ⟨⟨x, rfl, _, _⟩, hS3, hch3⟩
  have hB3 := hB2.ch hch3 hb
  have fin : ∀ (size : Nat) (hsz : size ≤ 7), callV Tryz.prog (.func (.func f_spec_l16Draw) #[] #[]) [.pointer (some ⟨b, 0, none⟩), .int .i64 ((size + 1 : Nat) : Int)] w3 fun v10 w4 => xStA Tryz.prog w4 2 (.pointer (some ⟨b2, 0, none⟩)) v10 fun w5 => xLdA w5 2 (.pointer (some ⟨b2, 0, none⟩)) fun r6 => Ext w w5 ∧ ∃ (n : Int) (l : List Int) (v : Value), r6 = .agg #[.int .i64 n, v] ∧ SlI w5 v l := fun size hsz => by
    refine iCall ((ok_spec_l16Draw hne hc1 hS3 size (by omega)).mono ?_)
    rintro _ w4 ⟨⟨n, l, v, rfl, _, hov⟩, hS4, hch4⟩
    have hB4 := hB3.ch hch4 hb
    refine iStAB hB4 rfl rfl (hov.pair _) fun w5 hu hB5 => ?_
    refine iLdA hB5 rfl ?_
    exact ⟨(x1.trans hS4.ext).upd hu (by omega), n, l, v, rfl, (hov.upd hu (hov.ne_blk hB4 hne2)).sl⟩
  ((with_reducible refine iEq ?_))
  refine iCndP (fun _ => fin 7 (by omega)) (fun _ => fin 4 (by omega))
end Go.Proofs.YtfhdhdgabdpmkaaGreat

/- The law on cores of drawn posets: what its body answers. Conditions: none. -/
namespace Go.Vc
/-- Reading an element, which stays when other memory turns. -/
theorem iRdX2 {D : Nat → Prop} {w : World} {v : Value} {L : List PR} {j : Nat} {k : IntKind} {K : Value → Prop} (hs : SlK 2 w v L.length (cellsR L)) (hj : j < L.length) (hs2 : ∀ w', Ch D w w' → SlK 2 w' v L.length (cellsR L)) (h : K (valR (gt L j))) : xIa 2 v (.int k (j : Int)) fun p => xLdA w 2 p fun x => (∀ w', Ch D w w' → xLdA w' 2 p fun u => u = x) ∧ K x := by
  obtain ⟨_, a, c, rfl, hlc, hcm, hcells⟩ := id hs
  rcases hcells with h0 | ⟨b, o, rfl, hc⟩
  · omega
  obtain ⟨h0, h1⟩ := cellsR_at L hj
  have hcl := cellsR_len L
  have rd : ∀ w', SlK 2 w' (.slice (some ⟨b, o, none⟩) L.length c) L.length (cellsR L) → ∀ {Q : Value → Prop}, Q (valR (gt L j)) → xLdA w' 2 (.pointer (some ⟨b, o + j * 2, none⟩)) Q := fun w' hs' Q hQ => by
    obtain ⟨_, a', c', e', _, _, hcells'⟩ := hs'
    cases e'
    rcases hcells' with h0' | ⟨b', o', e', hc'⟩
    · omega
    cases e'
    refine ⟨_, #[.int .i64 (gt L j).1, (gt L j).2.1], rfl, rfl, fun i hi => ?_, hQ⟩
    rw [addr_add, Nat.add_assoc, hc' (j * 2 + i) (by omega)]
    match i, hi with
    | 0, _ => exact h0
    | 1, _ => exact h1
  refine ⟨_, _, _, _, _, rfl, rfl, by omega, by omega, ?_⟩
  rw [Int.toNat_natCast, addr_add]
  exact rd w hs ⟨fun w' hw' => rd w' (hs2 w' hw') rfl, h⟩
end Go.Vc
namespace Go.Proofs.YtfhdhdgabdpmkaaGreat
open Go.Vc
theorem core_row {f : Fr} (hp : Po f) {L : List PR} (hk : L.map keyR = coreL f) {i : Nat} (hi : i < L.length) : i < (coreL f).length ∧ gt L i ∈ L ∧ Po (frP (coreL f) i) ∧ (gt L i).1 = ((frP (coreL f) i).n : Int) ∧ (gt L i).2.2 = nats (frP (coreL f) i).a ∧ frOf (gt L i).1 (gt L i).2.2 = frP (coreL f) i := by
  have hl : (coreL f).length = L.length := by rw [← hk]; simp
  have hi' : i < (coreL f).length := by omega
  have hm : gt L i ∈ L := by rw [gt_eq hi]; exact List.getElem_mem _
  have e : (coreL f)[i] = keyR (gt L i) := by
    have : (coreL f)[i]? = (L.map keyR)[i]? := by rw [hk]
    rw [List.getElem?_eq_getElem hi', List.getElem?_map, List.getElem?_eq_getElem hi] at this
    rw [gt_eq hi]
    exact Option.some.inj this
  have hA : AllPo (coreL f) := fun q hq => partsL_po hp q (mem_coreL hq)
  obtain ⟨h1, h2, h3⟩ := hA.at hi'
  rw [e] at h2 h3
  refine ⟨hi', hm, h1, h2, h3, ?_⟩
  unfold frP
  rw [List.getD_eq_getElem?_getD, List.getElem?_eq_getElem hi', e]
  rfl
theorem ok_impl_FindPartC {w : World} {v0 v1 : Value} {l0 l1 : List Int} (hs0 : SlI w v0 l0) (hs1 : SlI w v1 l1) (n0 n1 : Int) : Cal Tryz.prog f_impl_FindPart #[.agg #[.int .i64 n0, v0], .agg #[.int .i64 n1, v1]] w fun r w' => Ext w w' ∧ ∃ v, r = .tuple #[.int .i64 (partRes n0 l0 n1 l1).1, v, .int .i64 (partRes n0 l0 n1 l1).2.2] ∧ Ow w.heap.size t_i64 w' v (ints (partRes n0 l0 n1 l1).2.1) := by
  apply c_impl_FindPart; unfold S_impl_FindPart
  have hX := Ext.refl w
  refine iNew fun b2 w1 hb2 h hB2 => ?_
  have hX := hX.trans h
  refine iNew fun b3 w2 hb3 h hB3 => ?_
  have hX := hX.trans h
  have hB2 := hB2.ext h
  ((with_reducible refine iLdA (by assumption) ?_ ?_); rfl; (with_reducible refine iLdA (by assumption) ?_ ?_); rfl)
  refine iBs22 fun bb w3 hbb h hBB => ?_
  have hX := hX.trans h
  have hB2 := hB2.ext h
  have hB3 := hB3.ext h
  refine iRet (ok_impl_arePosets (hs0.ext hX) (hs1.ext hX) n0 n1 hBB) fun w4 h => ?_
  have hX := hX.trans h
  have hB2 := hB2.ext h
  have hB3 := hB3.ext h
  unfold codeP partRes
  cases hp : posetOk n0 l0 && posetOk n1 l1
  · ((with_reducible refine iNe ?_))
    exact iCndT rfl ⟨hX, _, rfl, Ow.nil _ _ _⟩
  · ((with_reducible refine iNe ?_))
    refine iCndF rfl ?_
    rw [Bool.and_eq_true] at hp
    obtain ⟨hP, hn0, hl0⟩ := posetOk_po hp.1
    obtain ⟨hQ, hn1, hl1⟩ := posetOk_po hp.2
    generalize frOf n0 l0 = f at *
    generalize frOf n1 l1 = g at *
    subst hn0; subst hl0; subst hn1; subst hl1
    have hlo := hX.size
    ((with_reducible refine iLdA (by assumption) ?_ ?_); rfl; (with_reducible refine iLdA (by assumption) ?_ ?_); rfl)
    refine iCall ((ok_impl_findPart hP hQ.ok (hs0.ext hX) (hs1.ext hX)).mono ?_)
    rintro _ w5 ⟨h, v, rfl, ho⟩
    have hX := hX.trans h
    ((with_reducible refine iE30 ?_; refine iE31 ?_; refine iE32 ?_; refine iNot ?_))
    cases hL : partOut f g with
    | none => exact iCndT (by simp) ⟨hX, _, rfl, Ow.nil _ _ _⟩
    | some o =>
      rw [hL] at ho
      exact iCndF (by simp) ⟨hX, v, rfl, ho.mono hlo⟩
theorem ok_laws_FnCores {w : World} {v : Value} {bs : List Nat} (hc : SlB w v bs) : Ret Tryz.prog f_laws_FnCores #[v] w (.bool true) := by
  apply c_laws_FnCores; unfold S_laws_FnCores
  refine iRet (ok_laws_big hc) fun w1 x1 => ?_
  refine iCndP (fun _ => ⟨rfl, x1⟩) (fun _ => ?_)
  refine iCall ((ok_spec_DrawCoreOf (⟨Sl.ext hc.1 x1, hc.2⟩ : SlB w1 v bs)).mono ?_)
  rintro _ w2 ⟨x2, n, l, u, rfl, hu⟩
  have hX2 := x1.trans x2
  refine iNew fun b3 w3 hb3 x3 hB3 => ?_
  refine iStAB hB3 rfl rfl (hu.pair n) fun w4 hu4 hB4 => ?_
  have x4 : Ext w2 w4 := x3.upd hu4 (by omega)
  have hX4 := hX2.trans x4
  have hu4 := hu.ext x4
  refine iLdA hB4 rfl ?_
  refine iCall ((ok_impl_CoreOf hu4 n).mono ?_)
  rintro _ w5 ⟨x5, r1, L1, rfl, hr1, hE1, hk1⟩
  have hB5 := hB4.ext x5
  ((with_reducible refine iE20 ?_; refine iE21 ?_); (with_reducible refine iLdA (by assumption) ?_ ?_); rfl)
  refine iCall ((ok_spec_CoreOf (hu4.ext x5) n).mono ?_)
  rintro _ w6 ⟨x6, r2, L2, rfl, hr2, hE2, hk2⟩
  have hB6 := hB5.ext x6
  have hlen : L1.length = L2.length := by have := congrArg List.length (hk1.trans hk2.symm); simpa using this
  ((with_reducible refine iE20 ?_; refine iE21 ?_))
  refine iJnB false w6 (fun J hJ => ?_) (fun w8 x8 => ?_)
  · refine iNe (iCndP (fun h => absurd rfl h) (fun _ => ?_))
    refine iLenK (OwK.ext hr1 x6).sl ?_
    refine iLenK hr2.sl ?_
    refine iNe ?_
    rw [hlen, decide_eq_false (fun h => h rfl)]
    exact hJ w6 (Ext.refl _)
  intro _
  simp only [gx]
  refine iCndF rfl ?_
  have hX8 := ((hX4.trans x5).trans x6).trans x8
  refine iNe (iCndP (fun _ => ⟨by first | trivial | rfl, hX8⟩) (fun hcode => ?_))
  have hc0 : codeS [(n, l)] = 0 := by
    have hcode : (coreRes n l).2 = 0 := by simpa using hcode
    unfold coreRes at hcode
    split at hcode
    · assumption
    · exact hcode
  obtain ⟨hok, hn6⟩ := codeS_one hc0
  obtain ⟨hp, en, el⟩ := posetOk_po hok
  have hkc : L1.map keyR = coreL (frOf n l) := by
    rw [hk1]; unfold coreRes; rw [if_pos hc0]
  have hkk : ∀ i, i < L1.length → keyR (gt L1 i) = keyR (gt L2 i) := fun i hi => by
    have h1 : (L1.map keyR)[i]? = (L2.map keyR)[i]? := by rw [hk1, hk2]
    rw [List.getElem?_map, List.getElem?_map, List.getElem?_eq_getElem hi, List.getElem?_eq_getElem (by omega)] at h1
    rw [gt_eq hi, gt_eq (by omega)]
    exact Option.some.inj h1
  have hB8 := hB6.ext x8
  have hr1 : RowR w4.heap.size t_impl_Poset w8 r1 L1 := OwK.ext hr1 (x6.trans x8)
  have hE1 := hE1.ext (x6.trans x8)
  have hr2 : RowR w5.heap.size t_impl_Poset w8 r2 L2 := OwK.ext hr2 x8
  have hE2 := hE2.ext x8
  have hu8 := ((hu4.ext x5).ext x6).ext x8
  refine iBuild (cs := #[.int .i64 0, .slice none 0 0]) (by simp [Instr.fill]) ?_
  refine iNew fun b8 w9 hb8 x9 hB9 => ?_
  refine iStAB hB9 rfl rfl (by intro x hx; simp at hx; rcases hx with rfl | rfl <;> rfl) fun w10 hu10 hB10 => ?_
  have x10 : Ext w8 w10 := x9.upd hu10 (by omega)
  have hcn := hp.ok.1
  have hl8 : L1.length ≤ 8 := by
    have := coreL_len (frOf n l)
    rw [← hkc, List.length_map] at this
    omega
  refine iLp (fun i : Nat => [.int .i64 (i : Int)]) (fun i w' => i ≤ L1.length ∧ Ext w10 w') (fun i => L1.length - i) 0 rfl ⟨Nat.zero_le _, Ext.refl _⟩ ?_
  rintro i w12 Kn ⟨hi, x12⟩ hKn
  have hX12 := x10.trans x12
  intro _
  simp only [gx]
  refine iLenK (OwK.ext hr1 hX12).sl (iLt ?_)
  refine iCndP (fun h => ?_) (fun h => ?_)
  · have hi1 : i < L1.length := by omega
    have hm2 : gt L2 i ∈ L2 := by rw [gt_eq (by omega)]; exact List.getElem_mem _
    obtain ⟨ci, mi, pi, ni, ai, fi⟩ := core_row hp hkc hi1
    refine iRdX (j := i) (OwK.ext hr1 hX12).sl rfl hi1 ?_
    refine iRdX (j := i) (OwK.ext hr2 hX12).sl rfl (by omega) ?_
    refine iRetQ (fun w' h' => ok_laws_samePoset9 (((hE1.1 _ mi).ext (hX12.trans h')).sl) (((hE2.1 _ hm2).ext (hX12.trans h')).sl) (hkk i hi1)) ?_
    refine iNot ?_
    intro w13 x13
    refine iCndF rfl ?_
    refine iLp (fun k : Nat => [.int .i64 (k : Int)]) (fun k w' => k ≤ L1.length ∧ Ext w13 w') (fun k => L1.length - k) 0 rfl ⟨Nat.zero_le _, Ext.refl _⟩ ?_
    rintro k w15 Kn' ⟨hk, x15⟩ hKn'
    have hX15 := (hX12.trans x13).trans x15
    intro _
    simp only [gx]
    refine iLenK (OwK.ext hr1 hX15).sl (iLt ?_)
    refine iCndP (fun h => ?_) (fun h => ?_)
    · have hk1 : k < L1.length := by omega
      obtain ⟨ck, mk, pk, nk, ak, fk⟩ := core_row hp hkc hk1
      refine iRdX (j := k) (OwK.ext hr1 hX15).sl rfl hk1 ?_
      refine iRdX (j := i) (OwK.ext hr1 hX15).sl rfl hi1 ?_
      intro w16 x16
      have hX16 := hX15.trans x16
      have sk := ((hE1.1 _ mk).ext hX16).sl
      have si := ((hE1.1 _ mi).ext hX16).sl
      refine iCall ((ok_impl_FindPartC sk si (gt L1 k).1 (gt L1 i).1).mono ?_)
      rintro _ w17 ⟨x17, vr, rfl, _⟩
      have hres : (partRes (gt L1 k).1 (gt L1 k).2.2 (gt L1 i).1 (gt L1 i).2.2).2.2 = if i = k then 0 else 4 := by
        unfold partRes
        have ok1 : posetOk (gt L1 k).1 (gt L1 k).2.2 = true := by rw [nk, ak]; exact posetOk_of pk
        have ok2 : posetOk (gt L1 i).1 (gt L1 i).2.2 = true := by rw [ni, ai]; exact posetOk_of pi
        rw [ok1, ok2, fk, fi]
        have hcp := core_part hp ci ck
        by_cases hik : i = k
        · rw [if_pos hik]
          rw [decide_eq_true hik] at hcp
          simp [hcp]
        · rw [if_neg hik]
          rw [decide_eq_false hik] at hcp
          simp [hcp]
      rw [hres]
      ((with_reducible refine iE30 ?_; refine iE31 ?_; refine iE32 ?_))
      intro w18 x18
      refine iEq (iEq (iBoolE (iCndF ?_ ?_)))
      · by_cases hik : i = k
        · subst hik; simp
        · have : ¬ ((i : Int) = (k : Int)) := by omega
          simp [hik, this]
      · refine iAdd (by omega) ?_
        exact hKn' (k + 1) _ ⟨by omega, x15.trans ((x16.trans x17).trans x18)⟩ (by omega)
    · refine iAdd (by omega) ?_
      exact hKn (i + 1) _ ⟨by omega, (x12.trans x13).trans x15⟩ (by omega)
  · have hB12 : Blk t_impl_Poset w12 b8 [.int .i64 0, .slice none 0 0] := hB10.ext x12
    refine iLp (fun k : Nat => [.int .i64 (k : Int)]) (fun k w' => k ≤ L1.length ∧ Ext w8 w' ∧ ∃ T tv, CoreI (frOf n l) (coreL (frOf n l)) T k ∧ Blk t_impl_Poset w' b8 [.int .i64 (T.n : Int), tv] ∧ Ow 0 t_i64 w' tv (ints (nats T.a))) (fun k => L1.length - k) 0 rfl ⟨Nat.zero_le _, hX12, ⟨0, []⟩, .slice none 0 0, CoreI.init, hB12, Ow.nil _ _ _⟩ ?_
    rintro k w20 Kn' ⟨hk, x20, T, tv, hI, hT, ho⟩ hKn'
    intro _
    simp only [gx]
    refine iLenK (OwK.ext hr1 x20).sl (iLt ?_)
    refine iCndP (fun h => ?_) (fun h => ?_)
    · have hk1 : k < L1.length := by omega
      obtain ⟨ck, mk, pk, nk, ak, fk⟩ := core_row hp hkc hk1
      have okT := posetOk_of hI.po
      have okC := posetOk_of pk
      have hbl8 := hT.lt
      have hz8 := x20.size
      refine ⟨fun c => w20.heap.size ≤ c, ?_⟩
      refine iLdA hT rfl ⟨fun w22 c22 => iLdA (hT.ch c22 (by show ¬ _ ≤ b8; omega)) rfl rfl, ?_⟩
      have hrow := OwK.ext hr1 x20
      refine iRdX2 hrow.sl hk1 (fun w22 c22 => (OwK.ch hrow c22 fun c hc hc' => by have := (OwK.blk hrow c hc).2; omega).sl) ?_
      intro w24 x24
      have sT : SlN w24 tv T.a := (ho.ext x24).sl
      have sC : SlN w24 (gt L1 k).2.1 (frP (coreL (frOf n l)) k).a := by
        have := ((hE1.1 _ mk).ext (x20.trans x24)).sl
        rw [ak] at this; exact this
      have hT24 := hT.ext x24
      have ho24 := ho.ext x24
      have ec : valR (gt L1 k) = .agg #[.int .i64 ((frP (coreL (frOf n l)) k).n : Int), (gt L1 k).2.1] := by unfold valR; rw [nk]
      rw [ec]
      by_cases hov : T.n + (frP (coreL (frOf n l)) k).n ≤ 8
      · have hnext := hI.step pk (core_bel hp ck) hov
        -- the sum is laid into the block of 'total'
        have fin : ∀ (w30 : World) (b15 : Nat) (v' : Value), Ext w20 w30 → Blk t_impl_Poset w30 b15 [.int .i64 ((sumFr T (frP (coreL (frOf n l)) k)).n : Int), v'] → Ow 0 t_i64 w30 v' (ints (nats (sumFr T (frP (coreL (frOf n l)) k)).a)) →
            xLdA w30 2 (.pointer (some ⟨b15, 0, none⟩)) fun v108 => xStA Tryz.prog w30 2 (.pointer (some ⟨b8, 0, none⟩)) v108 fun w31 => xAdd .i64 (.int .i64 (k : Int)) (.int .i64 1) fun v94 => Kn' [v94] w31 := fun w30 b15 v' x30 hB ho' => by
          refine iLdA hB rfl ?_
          have hT30 := hT.ext x30
          refine iStAB hT30 rfl rfl (ho'.pair _) fun w31 hu31 hB31 => ?_
          refine iAdd (by omega) ?_
          exact hKn' (k + 1) _ ⟨by omega, (x20.trans x30).upd hu31 (by omega), _, v', hnext, hB31, ho'.upd hu31 (ho'.ne_blk hT30 (by decide))⟩ (by omega)
        refine ⟨?_, ?_⟩
        · refine iCall ((ok_impl_SumPosets okT okC hI.po.ok pk.ok hov sT sC).mono ?_)
          rintro _ w25 ⟨x25, v', rfl, ho'⟩
          ((with_reducible refine iE20 ?_; refine iE21 ?_))
          intro w26 x26
          refine iNew fun b15 w27 hb15 x27 hB27 => ⟨x27.ch, fun w28 x28 => ?_⟩
          have ho28 := ((ho'.ext x26).ext x27).ext x28
          have hB28 := hB27.ext x28
          have hz : w20.heap.size ≤ b15 := by have := x24.size; have := x25.size; have := x26.size; omega
          refine iStAB hB28 rfl rfl (ho28.pair _) fun w29 hu29 hB29 => ⟨hu29.ch hz, fun w30 x30 => ?_⟩
          refine iNe (iCndP (fun h => absurd rfl h) (fun _ => ?_))
          have X30 : Ext w20 w30 := (((((x24.trans x25).trans x26).trans x27).trans x28).upd hu29 hz).trans x30
          exact fin w30 b15 v' X30 (hB29.ext x30) (((ho28.upd hu29 (ho28.ne_blk hB28 (by decide))).ext x30).mono (Nat.zero_le _))
        · refine iNew fun b15 w32 hb15 x32 hB32 => ⟨x32.ch, fun w33 x33 => ?_⟩
          have x2433 := x32.trans x33
          refine iCall ((ok_impl_SumPosets okT okC hI.po.ok pk.ok hov (sT.ext x2433) (sC.ext x2433)).mono ?_)
          rintro _ w34 ⟨x34, v', rfl, ho'⟩
          ((with_reducible refine iE20 ?_; refine iE21 ?_))
          intro w35 x35
          have ho35 := ho'.ext x35
          have hB35 := ((hB32.ext x33).ext x34).ext x35
          have hz : w20.heap.size ≤ b15 := by have := x24.size; omega
          refine iStAB hB35 rfl rfl (ho35.pair _) fun w36 hu36 hB36 => ⟨hu36.ch hz, fun w37 x37 => ?_⟩
          refine iNe (iCndP (fun h => absurd rfl h) (fun _ => ?_))
          have X37 : Ext w20 w37 := ((((x24.trans x2433).trans x34).trans x35).upd hu36 hz).trans x37
          exact fin w37 b15 v' X37 (hB36.ext x37) (((ho35.upd hu36 (ho35.ne_blk hB35 (by decide))).ext x37).mono (Nat.zero_le _))
      · have hov : 8 < T.n + (frP (coreL (frOf n l)) k).n := by omega
        refine ⟨?_, ?_⟩
        · refine iRet (ok_impl_SumPosets_over okT okC hI.po.ok pk.ok hov sT sC) fun w25 x25 => ?_
          ((with_reducible refine iE20 ?_; refine iE21 ?_))
          intro w26 x26
          refine iNew fun b15 w27 hb15 x27 hB27 => ⟨x27.ch, fun w28 x28 => ?_⟩
          have hB28 := hB27.ext x28
          have hz : w20.heap.size ≤ b15 := by have := x24.size; have := x25.size; have := x26.size; omega
          refine iStAB hB28 rfl rfl (by intro x hx; simp at hx; rcases hx with rfl | rfl <;> rfl) fun w29 hu29 hB29 => ⟨hu29.ch hz, fun w30 x30 => ?_⟩
          refine iNe (iCndP (fun _ => ?_) (fun h => absurd (show ¬ (3 : Int) = 0 by decide) h))
          refine iEq ?_
          have X30 : Ext w20 w30 := (((((x24.trans x25).trans x26).trans x27).trans x28).upd hu29 hz).trans x30
          exact ⟨rfl, (hX8.trans x20).trans X30⟩
        · refine iNew fun b15 w32 hb15 x32 hB32 => ⟨x32.ch, fun w33 x33 => ?_⟩
          have x2433 := x32.trans x33
          refine iRet (ok_impl_SumPosets_over okT okC hI.po.ok pk.ok hov (sT.ext x2433) (sC.ext x2433)) fun w34 x34 => ?_
          ((with_reducible refine iE20 ?_; refine iE21 ?_))
          intro w35 x35
          have hB35 := ((hB32.ext x33).ext x34).ext x35
          have hz : w20.heap.size ≤ b15 := by have := x24.size; omega
          refine iStAB hB35 rfl rfl (by intro x hx; simp at hx; rcases hx with rfl | rfl <;> rfl) fun w36 hu36 hB36 => ⟨hu36.ch hz, fun w37 x37 => ?_⟩
          refine iNe (iCndP (fun _ => ?_) (fun h => absurd (show ¬ (3 : Int) = 0 by decide) h))
          refine iEq ?_
          have X37 : Ext w20 w37 := ((((x24.trans x2433).trans x34).trans x35).upd hu36 hz).trans x37
          exact ⟨rfl, (hX8.trans x20).trans X37⟩
    · obtain rfl : k = L1.length := by omega
      have hlc : L1.length = (coreL (frOf n l)).length := by rw [← hkc]; simp
      rw [hlc] at hI
      obtain ⟨t1, t2⟩ := core_alike hp hI
      refine iLdA (hB8.ext x20) rfl ?_
      refine iLdA hT rfl ?_
      have hares : alikeRes n l (T.n : Int) (nats T.a) = if 6 < T.n then (false, 3) else (true, 0) := by
        have okT := posetOk_of hI.po
        have hcode : codeS [(n, l), ((T.n : Int), nats T.a)] = if 6 < T.n then 3 else 0 := by
          unfold codeS
          rw [if_neg (by simp [hok, okT])]
          by_cases h6 : 6 < T.n
          · rw [if_pos h6, if_pos (by simp; omega)]
          · rw [if_neg h6, if_neg (by simp; omega)]
        unfold alikeRes
        rw [hcode]
        by_cases h6 : 6 < T.n
        · rw [if_pos h6, if_pos h6, if_neg (by decide)]
        · rw [if_neg h6, if_neg h6, if_pos rfl, frOf_nats, t1, t2]; rfl
      refine iRet (ok_impl_AreAlike (hu8.ext x20) ho.sl n (T.n : Int)) fun w36 x36 => ?_
      rw [hares]
      ((with_reducible refine iE20 ?_; refine iE21 ?_))
      refine iLdA ((hB8.ext x20).ext x36) rfl ?_
      refine iCall ((ok_impl_RootedParts ((hu8.ext x20).ext x36) n hc0).mono ?_)
      rintro _ w37 ⟨x37, r3, L3, rfl, hr3, hl3⟩
      have X37 := (hX8.trans x20).trans (x36.trans x37)
      ((with_reducible refine iE20 ?_; refine iE21 ?_))
      refine iJnB true w37 (fun J hJ => ?_) (fun w42 x42 => ?_)
      · refine iEq (iCndP (fun _ => ?_) (fun h => absurd rfl h))
        refine iLenK hr3.sl ?_
        refine iLenK (OwK.ext hr1 (x20.trans (x36.trans x37))).sl ?_
        have hle : L1.length ≤ L3.length := by rw [hl3, hlc]; exact coreK_len _ _
        refine iLe (iCndP (fun _ => ?_) (fun h => absurd (show (L1.length : Int) ≤ (L3.length : Nat) by omega) h))
        by_cases h6 : 6 < T.n
        · rw [if_pos h6]
          refine iEq (iCndP (fun _ => hJ w37 (Ext.refl _)) (fun h => absurd rfl h))
        · rw [if_neg h6]
          refine iEq (iCndP (fun h => absurd (show ¬ (0 : Int) = 3 by decide) (fun k => k h)) (fun _ => ?_))
          refine iEq (iCndP (fun _ => hJ w37 (Ext.refl _)) (fun h => absurd rfl h))
      · intro _
        simp only [gx]
        exact ⟨by first | trivial | rfl, X37.trans x42⟩
end Go.Proofs.YtfhdhdgabdpmkaaGreat
