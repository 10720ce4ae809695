/- The proof of FnUnder, part 3 of 6. Conditions: none. -/
import Derived.Test.YtikfhibcdhdglaaGreatKR34b
/- Contracts of the search for morphisms: what a prefix must satisfy. Conditions: none. -/
namespace Go.Vc
theorem memK_split (a n : Nat) (hn : n ≤ 63) : ∃ r, mem a = memK a n ++ r ∧ ∀ y ∈ r, n ≤ y ∧ a.testBit y = true := by
  refine ⟨((List.range (63 - n)).map (n + ·)).filter fun i => a.testBit i, ?_, ?_⟩
  · unfold mem memK
    rw [← List.filter_append, ← List.range_add, show n + (63 - n) = 63 by omega]
  · intro y hy
    obtain ⟨h1, h2⟩ := List.mem_filter.1 hy
    obtain ⟨z, _, rfl⟩ := List.mem_map.1 h1
    exact ⟨Nat.le_add_right _ _, h2⟩
theorem memK_lt {a n y : Nat} (h : y ∈ memK a n) : y < n := by
  unfold memK at h
  exact List.mem_range.1 (List.mem_filter.1 h).1
theorem getD_app_left {A r : List Nat} {j : Nat} (h : j < A.length) : (A ++ r).getD j 0 = A[j] := by
  simp [List.getD_eq_getElem?_getD, List.getElem?_append_left h, h]
theorem getD_app_at {A r : List Nat} (h : 0 < r.length) : (A ++ r).getD A.length 0 = r[0] := by
  simp [List.getD_eq_getElem?_getD, h]
theorem fr_lt63 {f : Fr} (h : f.ok) (x : Nat) : f.a.getD x 0 < 2 ^ 8 := by
  by_cases hx : x < f.n
  · exact Nat.lt_of_lt_of_le (h.lt hx) (Nat.pow_le_pow_right (by omega) h.1)
  · have : f.a.length ≤ x := by rw [h.2.1]; omega
    simp [List.getD_eq_getElem?_getD, List.getElem?_eq_none this]
end Go.Vc
namespace Go.Proofs.YtikfhibcdhdglaaGreat
open Go.Vc
theorem ok_impl_morphismSearch_fits {f g : Fr} (hf : f.ok) (hg : g.ok) {onto one : Bool} {im : List Nat} (hl : im.length ≤ f.n) (hm : ∀ y ∈ im, y < g.n) {e : TypeId} {b : Nat} {w : World} {fa ga vim vis : Value}
    (hB : Blk e w b [.int .i64 (f.n : Int), fa, .int .i64 (g.n : Int), ga, vim, vis, .bool onto, .bool one]) (hfa : SlN w fa f.a) (hga : SlN w ga g.a) (him : SlN w vim im) :
    Ret Tryz.prog f_impl_morphismSearch_fits #[.pointer (some ⟨b, 0, none⟩)] w (.bool (fitsB f g onto one im)) := by
  have hf8 := hf.1
  have hg8 := hg.1
  have hfl := hf.2.1
  have hgl := hg.2.1
  apply c_impl_morphismSearch_fits; unfold S_impl_morphismSearch_fits
  ((with_reducible refine iNil ?_; refine iFa ?_); refine iLdB (by assumption) (by first | rfl | simp) ?_; (with_reducible refine iLenN (by assumption) ?_))
  refine iLp (fun k : Nat => [.int .i64 (k : Int)]) (fun k w' => k ≤ im.length ∧ Ext w w' ∧ ∀ x, x < k → fitX f g im x = true) (fun k => im.length - k) 0 rfl ⟨Nat.zero_le _, Ext.refl _, fun x hx => by omega⟩ ?_
  rintro k w2 Kn ⟨hk, h2, hall⟩ hKn
  have hB2 := hB.ext h2
  have hfa2 := hfa.ext h2
  have hga2 := hga.ext h2
  have him2 := him.ext h2
  (intro _; (try simp only [gx]); (with_reducible refine iLt ?_))
  refine iCndP (fun h3 => ?_) (fun h3 => ?_)
  · have hk1 : k < im.length := by omega
    have hy : im.getD k 0 < g.n := getD_lt hm hk1
    ((with_reducible refine iNil ?_; refine iFa ?_; refine iFa ?_); refine iLdB (by assumption) (by first | rfl | simp) ?_; (with_reducible refine iNil ?_; refine iFa ?_); refine iLdB (by assumption) (by first | rfl | simp) ?_; (with_reducible refine iIaNN (by assumption) ?_ (fun pa_ hpa_ => ?_)); omega; (with_reducible refine iLd (by assumption) ?_); (with_reducible refine iIaNN (by assumption) ?_ (fun pa_ hpa_ => ?_)); omega; (with_reducible refine iLd (by assumption) ?_))
    intro w3 h4
    have hB3 := hB2.ext h4
    have hfa3 := hfa2.ext h4
    have hga3 := hga2.ext h4
    have him3 := him2.ext h4
    ((with_reducible refine iNil ?_; refine iFa ?_; refine iFa ?_); refine iLdB (by assumption) (by first | rfl | simp) ?_; (with_reducible refine iIaNN (by assumption) ?_ (fun pa_ hpa_ => ?_)); omega; (with_reducible refine iLd (by assumption) ?_))
    have ha8 := fr_lt63 hf k
    have hb8 := fr_lt63 hg (im.getD k 0)
    refine iCall ((ok_impl_membersOf (f.a.getD k 0) (by omega) w3).mono fun v w4 ⟨h5, ho⟩ => ?_)
    have hv : SlN w4 v (mem (f.a.getD k 0)) := ho.sl
    ((with_reducible refine iLenN (by assumption) ?_))
    obtain ⟨r, hr, hr2⟩ := memK_split (f.a.getD k 0) im.length (by omega)
    have hAl : (mem (f.a.getD k 0)).length = (memK (f.a.getD k 0) im.length).length + r.length := by rw [hr, List.length_append]
    refine iLp (fun j : Nat => [.int .i64 ((setOf (((memK (f.a.getD k 0) im.length).take j).map fun i => im.getD i 0) : Nat) : Int), .int .i64 (j : Int)]) (fun j w' => j ≤ (memK (f.a.getD k 0) im.length).length ∧ Ext w4 w') (fun j => (memK (f.a.getD k 0) im.length).length - j) 0 rfl ⟨Nat.zero_le _, Ext.refl _⟩ ?_
    rintro j w6 Kn2 ⟨hj, h6⟩ hKn2
    have h46 := h4.trans (h5.trans h6)
    have hB6 := hB2.ext h46
    have him6 := him2.ext h46
    have hv6 := hv.ext h6
    have hjm := popc_full (m := 8) (a := f.a.getD k 0) (by omega) ha8
    unfold popc at hjm
    (intro _; (try simp only [gx]); (with_reducible refine iLt ?_))
    by_cases hjA : j < (memK (f.a.getD k 0) im.length).length
    · -- one more image
      refine iCndP (fun h7 => ?_) (fun h7 => absurd (show (j : Int) < _ by omega) h7)
      ((with_reducible refine iIaNN (by assumption) ?_ (fun pa_ hpa_ => ?_)); omega; (with_reducible refine iLd (by assumption) ?_; refine iLe ?_))
      have e1 : (mem (f.a.getD k 0)).getD j 0 = (memK (f.a.getD k 0) im.length)[j] := by
        rw [hr]; exact getD_app_left hjA
      have e2 : (memK (f.a.getD k 0) im.length)[j] < im.length := memK_lt (List.getElem_mem hjA)
      rw [e1]
      refine iCndP (fun h8 => absurd h8 (by omega)) (fun h8 => ?_)
      ((with_reducible refine iNil ?_; refine iFa ?_); refine iLdB (by assumption) (by first | rfl | simp) ?_; (with_reducible refine iIaNN (by assumption) ?_ (fun pa_ hpa_ => ?_)); omega; (with_reducible refine iLd (by assumption) ?_))
      have hz : im.getD ((memK (f.a.getD k 0) im.length)[j]) 0 < g.n := getD_lt hm e2
      refine iShlOne (by omega) ?_
      have h1 : setOf (((memK (f.a.getD k 0) im.length).take j).map fun i => im.getD i 0) < 2 ^ 8 := setOf_lt fun y hy => by
        obtain ⟨i, hi, rfl⟩ := List.mem_map.1 hy
        have := getD_lt hm (memK_lt (List.mem_of_mem_take hi))
        omega
      have h2' : 2 ^ im.getD ((memK (f.a.getD k 0) im.length)[j]) 0 < 2 ^ 8 := Nat.pow_lt_pow_right (by omega) (by omega)
      refine iBOr (by omega) (by omega) ?_
      rw [← setOf_snoc]
      (refine iAdd (by omega) ?_)
      have e3 : ((memK (f.a.getD k 0) im.length).take j).map (fun i => im.getD i 0) ++ [im.getD ((memK (f.a.getD k 0) im.length)[j]) 0] = ((memK (f.a.getD k 0) im.length).take (j + 1)).map fun i => im.getD i 0 := by
        rw [List.take_succ_eq_append_getElem hjA, List.map_append]; rfl
      rw [e3]
      exact hKn2 (j + 1) _ ⟨by omega, h6⟩ (by omega)
    · have hjl : j = (memK (f.a.getD k 0) im.length).length := by omega
      have e0 : setOf (((memK (f.a.getD k 0) im.length).take j).map fun i => im.getD i 0) = img im (f.a.getD k 0) := by
        rw [hjl, List.take_length]; rfl
      rw [e0]
      have hi8 : img im (f.a.getD k 0) < 2 ^ g.n := img_lt hm _
      have hi9 : img im (f.a.getD k 0) < 2 ^ 8 := Nat.lt_of_lt_of_le hi8 (Nat.pow_le_pow_right (by omega) hg8)
      have hres : ∀ w7 (t : Bool), Ext w6 w7 → t = fitX f g im k → (t = true → Kn [.int .i64 ((k + 1 : Nat) : Int)] w7) ∧ (t = false → (.bool false : Value) = .bool (fitsB f g onto one im) ∧ Ext w w7) := by
        rintro w7 t h8 ht
        refine ⟨fun h => hKn (k + 1) _ ⟨by omega, h2.trans (h46.trans h8), fun x hx => ?_⟩ (by omega), fun h => ⟨?_, h2.trans (h46.trans h8)⟩⟩
        · by_cases hxk : x < k
          · exact hall x hxk
          · obtain rfl : x = k := by omega
            rw [← ht, h]
        · have : ((List.range im.length).all (fitX f g im)) = false := by
            rw [List.all_eq_false]
            exact ⟨k, List.mem_range.2 hk1, by rw [← ht, h]; simp⟩
          unfold fitsB
          rw [this, Bool.false_and]
      refine iCndP (fun h7 => ?_) (fun h7 => ?_)
      · -- an open one
        have hjm' : j < (mem (f.a.getD k 0)).length := by omega
        ((with_reducible refine iIaNN (by assumption) ?_ (fun pa_ hpa_ => ?_)); omega; (with_reducible refine iLd (by assumption) ?_; refine iLe ?_))
        have hrl : 0 < r.length := by omega
        have e1 : (mem (f.a.getD k 0)).getD j 0 = r[0] := by
          rw [hr, hjl]; exact getD_app_at hrl
        obtain ⟨g1, g2⟩ := hr2 r[0] (List.getElem_mem hrl)
        rw [e1]
        refine iCndP (fun h8 => ?_) (fun h8 => absurd h8 (by omega))
        have hne : ¬ sdiff (f.a.getD k 0) (2 ^ im.length - 1) = 0 := by
          intro h0
          have := sdiff_eq_zero.1 h0 _ g2
          rw [full_testBit, decide_eq_true_eq] at this
          omega
        have hfx : decide (sdiff (img im (f.a.getD k 0)) (g.a.getD (im.getD k 0) 0) = 0) = fitX f g im k := by
          unfold fitX; rw [if_neg hne]
        refine iRet (ok_impl_within _ _ (by omega) (by omega) w6) fun w7 h9 => ?_
        obtain ⟨hr1, hr2⟩ := hres w7 _ h9 hfx
        ((with_reducible refine iNot ?_))
        refine iCnd (fun h10 => ?_) (fun h10 => ?_)
        · exact hr2 (by simpa using h10)
        · (refine iAdd (by omega) ?_)
          exact hr1 (by simpa using h10)
      · have hrn : r = [] := List.length_eq_zero_iff.1 (by omega)
        subst hrn
        have h0 : sdiff (f.a.getD k 0) (2 ^ im.length - 1) = 0 := by
          rw [sdiff_eq_zero]
          intro i hi
          rw [full_testBit, decide_eq_true_eq]
          have := (mem_mem (by omega)).2 hi
          rw [hr, List.append_nil] at this
          exact memK_lt this
        have hfx : decide (img im (f.a.getD k 0) = g.a.getD (im.getD k 0) 0) = fitX f g im k := by
          unfold fitX; rw [if_pos h0]
        obtain ⟨hr1, hr2⟩ := hres w6 _ (Ext.refl _) hfx
        ((with_reducible refine iNe ?_))
        refine iCndP (fun h10 => ?_) (fun h10 => ?_)
        · exact hr2 (by rw [decide_eq_false_iff_not]; omega)
        · (refine iAdd (by omega) ?_)
          exact hr1 (by rw [decide_eq_true_eq]; omega)
  · obtain rfl : k = im.length := by omega
    have hall' : ((List.range im.length).all (fitX f g im)) = true := by
      rw [List.all_eq_true]
      exact fun x hx => hall x (List.mem_range.1 hx)
    have hs62 : setOf im < 2 ^ 63 := Nat.lt_of_lt_of_le (setOf_lt hm) (Nat.pow_le_pow_right (by omega) (by omega))
    have hpc := popc_setOf_le im (fun y hy => by have := hm y hy; omega)
    ((with_reducible refine iNil ?_; refine iFa ?_); refine iLdB (by assumption) (by first | rfl | simp) ?_)
    refine iRet (ok_impl_imageSet him2 (fun y hy => by have := hm y hy; omega)) fun w8 h8 => ?_
    have hB8 := hB2.ext h8
    ((with_reducible refine iNil ?_; refine iFa ?_; refine iFa ?_); refine iLdB (by assumption) (by first | rfl | simp) ?_)
    refine iRetQ (fun w' _ => ok_impl_countMembers _ hs62 w') ?_
    (refine iSub (by omega) ?_)
    intro w9 h9
    have hB9 := hB8.ext h9
    have hX : Ext w w9 := h2.trans (h8.trans h9)
    ((with_reducible refine iJn ?_; refine iNil ?_; refine iFa ?_); refine iLdB (by assumption) (by first | rfl | simp) ?_; (with_reducible refine iNot ?_))
    have fin : ∀ t : Bool, t = (!one || decide (popc (setOf im) = im.length)) → (!onto || decide (g.n + im.length ≤ f.n + popc (setOf im))) = true → (.bool t : Value) = .bool (fitsB f g onto one im) := by
      intro t ht ho
      unfold fitsB
      rw [hall', ho, ht]; rfl
    cases onto
    · refine iCndT rfl ?_
      ((with_reducible refine iNil ?_; refine iFa ?_); refine iLdB (by assumption) (by first | rfl | simp) ?_; (with_reducible refine iNot ?_))
      cases one
      · refine iCndT rfl ?_
        (intro _; (try simp only [gx]))
        exact ⟨fin _ rfl rfl, hX⟩
      · refine iCndF rfl ?_
        refine iRet (ok_impl_countMembers _ hs62 w9) fun w12 h12 => ?_
        ((with_reducible refine iEq ?_); intro _; (try simp only [gx]))
        exact ⟨fin _ (by rw [Bool.not_true, Bool.false_or, decide_eq_decide]; omega) rfl, hX.trans h12⟩
    · refine iCndF rfl ?_
      ((with_reducible refine iNil ?_; refine iFa ?_; refine iFa ?_); refine iLdB (by assumption) (by first | rfl | simp) ?_; refine iSub (by omega) ?_; (with_reducible refine iLe ?_))
      refine iCndP (fun h10 => ?_) (fun h10 => ?_)
      · have ho : (!true || decide (g.n + im.length ≤ f.n + popc (setOf im))) = true := by
          rw [Bool.not_true, Bool.false_or, decide_eq_true_eq]; omega
        ((with_reducible refine iNil ?_; refine iFa ?_); refine iLdB (by assumption) (by first | rfl | simp) ?_; (with_reducible refine iNot ?_))
        cases one
        · refine iCndT rfl ?_
          (intro _; (try simp only [gx]))
          exact ⟨fin _ rfl ho, hX⟩
        · refine iCndF rfl ?_
          refine iRet (ok_impl_countMembers _ hs62 w9) fun w12 h12 => ?_
          ((with_reducible refine iEq ?_); intro _; (try simp only [gx]))
          exact ⟨fin _ (by rw [Bool.not_true, Bool.false_or, decide_eq_decide]; omega) ho, hX.trans h12⟩
      · (intro _; (try simp only [gx]))
        refine ⟨?_, hX⟩
        have : decide (g.n + im.length ≤ f.n + popc (setOf im)) = false := by rw [decide_eq_false_iff_not]; omega
        unfold fitsB
        rw [this]; simp
end Go.Proofs.YtikfhibcdhdglaaGreat

/- Contracts of the reference's search for morphisms. Conditions: none. -/
namespace Go.Vc
theorem Ow.shape {lo : Nat} {e : TypeId} {w : World} {v : Value} {xs : List Value} (h : Ow lo e w v xs) : ∃ a n c, v = .slice a n c := by
  obtain ⟨_, h | ⟨g, cap, cur, hv, _⟩⟩ := h
  · exact ⟨_, _, _, h.1⟩
  · exact ⟨_, _, _, hv⟩
theorem ints_snoc (im : List Nat) (y : Nat) : ints (nats im) ++ [.int .i64 (y : Int)] = ints (nats (im ++ [y])) := by simp [ints, nats]
theorem dfs_succ (ok : List Nat → Bool) (m d : Nat) (im : List Nat) : dfs ok m (d + 1) im = (List.range m).flatMap fun y => if ok (im ++ [y]) then dfs ok m d (im ++ [y]) else [] := rfl
end Go.Vc
namespace Go.Proofs.YtikfhibcdhdglaaGreat
open Go.Vc
end Go.Proofs.YtikfhibcdhdglaaGreat

/- Contracts of the program's search for morphisms. Conditions: none. -/
namespace Go.Vc
def leaves (ok : List Nat → Bool) (m d : Nat) (im : List Nat) : List (List Nat) := if ok im then dfs ok m d im else []
theorem dfs_length (ok : List Nat → Bool) (m : Nat) : ∀ (d : Nat) (im : List Nat), (dfs ok m d im).length ≤ m ^ d
  | 0, im => by simp [dfs]
  | d + 1, im => by
    rw [dfs_succ]
    have key : ∀ k, ((List.range k).flatMap fun y => if ok (im ++ [y]) then dfs ok m d (im ++ [y]) else []).length ≤ k * m ^ d := by
      intro k
      induction k with
      | zero => simp
      | succ k ih =>
        rw [List.range_succ, List.flatMap_append, List.length_append, Nat.succ_mul]
        refine Nat.add_le_add ih ?_
        simp only [List.flatMap_cons, List.flatMap_nil, List.append_nil]
        split
        · exact dfs_length ok m d _
        · simp
    exact Nat.le_trans (key m) (by rw [Nat.pow_succ, Nat.mul_comm]; exact Nat.le_refl _)
theorem leaves_length (ok : List Nat → Bool) (m d : Nat) (im : List Nat) : (leaves ok m d im).length ≤ m ^ d := by
  unfold leaves
  split
  · exact dfs_length ok m d im
  · simp
theorem flat_length (ok : List Nat → Bool) (m d : Nat) (im : List Nat) : ∀ k, ((List.range k).flatMap fun y => leaves ok m d (im ++ [y])).length ≤ k * m ^ d
  | 0 => by simp
  | k + 1 => by
    rw [List.range_succ, List.flatMap_append, List.length_append, Nat.succ_mul]
    refine Nat.add_le_add (flat_length ok m d im k) ?_
    simp only [List.flatMap_cons, List.flatMap_nil, List.append_nil]
    exact leaves_length ok m d _
/-- The state of the search. -/
structure RunSt {P : Program} {ti : TypeId} {vis : Value} {n m : Nat} {cont : List (List Nat) → Bool} (V : Visitor P ti vis n m cont) (f g : Fr) (onto one : Bool) (e : TypeId) (w0 : World) (fa ga : Value) (b : Nat) (w : World) (im : List Nat) (vim : Value) (S : Nat → Prop) (vl : List (List Nat)) : Prop where
  ext : Ext w0 w
  blk : Blk e w b [.int .i64 (f.n : Int), fa, .int .i64 (g.n : Int), ga, vim, vis, .bool onto, .bool one]
  ow : Ow w0.heap.size ti w vim (ints (nats im))
  j : V.J S vl w
  sb : ¬ S b
  sv : ∀ c, vim.ownBlock = some c → ¬ S c
  s0 : ∀ k, S k → w0.heap.size ≤ k
theorem RunSt.later {P : Program} {ti : TypeId} {vis : Value} {n m : Nat} {cont : List (List Nat) → Bool} {V : Visitor P ti vis n m cont} {f g : Fr} {onto one : Bool} {e : TypeId} {w0 : World} {fa ga : Value} {b : Nat} {w w' : World} {im : List Nat} {vim : Value} {S : Nat → Prop} {vl : List (List Nat)}
    (h : RunSt V f g onto one e w0 fa ga b w im vim S vl) (he : Ext w w') : RunSt V f g onto one e w0 fa ga b w' im vim S vl :=
  ⟨h.ext.trans he, h.blk.ext he, h.ow.ext he, V.keep h.j he.size fun k hk => he.block k (V.below h.j k hk), h.sb, h.sv, h.s0⟩
end Go.Vc
namespace Go.Proofs.YtikfhibcdhdglaaGreat
open Go.Vc
theorem ok_impl_morphismSearch_run {f g : Fr} (hf : f.ok) (hg : g.ok) {onto one : Bool} {e : TypeId} (he1 : t_i64 ≠ e) {vis : Value} {cont : List (List Nat) → Bool} (V : Visitor Tryz.prog t_i64 vis f.n g.n cont) {w0 : World} {fa ga : Value} (hfa : SlN w0 fa f.a) (hga : SlN w0 ga g.a) {b : Nat} (hb : w0.heap.size ≤ b) :
    ∀ (d : Nat) (im : List Nat) (w : World) (vim : Value) (S : Nat → Prop) (vl : List (List Nat)), im.length + d = f.n → (∀ y ∈ im, y < g.n) → (vl = [] ∨ cont vl = true) → vl.length + g.n ^ d ≤ 100000000 →
      RunSt V f g onto one e w0 fa ga b w im vim S vl →
      Cal Tryz.prog f_impl_morphismSearch_run #[.pointer (some ⟨b, 0, none⟩)] w fun v w' => v = .bool (visitAll cont vl (leaves (fitsB f g onto one) g.n d im)).2 ∧ ∃ vim' S',
        RunSt V f g onto one e w0 fa ga b w' im vim' S' (visitAll cont vl (leaves (fitsB f g onto one) g.n d im)).1 := by
  have hf8 := hf.1
  have hg8 := hg.1
  intro d
  induction d with
  | zero =>
    intro im w vim S vl hlen hm hvl hcap hst
    apply c_impl_morphismSearch_run; unfold S_impl_morphismSearch_run
    refine iRet (ok_impl_morphismSearch_fits hf hg (by omega) hm hst.blk (hfa.ext hst.ext) (hga.ext hst.ext) hst.ow.sl) fun w1 h1 => ?_
    have hst := hst.later h1
    ((with_reducible refine iNot ?_))
    cases hfit : fitsB f g onto one im
    · refine iCndT rfl ?_
      unfold leaves
      rw [hfit]
      exact ⟨rfl, vim, S, hst⟩
    · refine iCndF rfl ?_
      have hB := hst.blk
      have hsl : SlN w1 vim im := hst.ow.sl
      ((with_reducible refine iNil ?_; refine iFa ?_); refine iLdB (by assumption) (by first | rfl | simp) ?_; (with_reducible refine iLenN (by assumption) ?_; refine iNil ?_; refine iFa ?_; refine iFa ?_); refine iLdB (by assumption) (by first | rfl | simp) ?_; (with_reducible refine iEq ?_))
      intro w2 h2
      have hst := hst.later h2
      have hB := hst.blk
      refine iCndP (fun h3 => ?_) (fun h3 => absurd (show (im.length : Int) = f.n by omega) h3)
      ((with_reducible refine iNil ?_; refine iFa ?_); refine iLdB (by assumption) (by first | rfl | simp) ?_; (with_reducible refine iNil ?_; refine iFa ?_); refine iLdB (by assumption) (by first | rfl | simp) ?_)
      intro w3 h3
      have hst := hst.later h3
      refine callV.mono (V.visit hst.j hvl (by simp at hcap; omega) hst.ow (by omega) hm hst.sv) ?_
      rintro _ w4 ⟨rfl, S', hj, hch, hS'⟩
      intro w5 h5
      have hL : visitAll cont vl (leaves (fitsB f g onto one) g.n 0 im) = (vl ++ [im], cont (vl ++ [im])) := by
        unfold leaves
        rw [hfit, if_pos rfl]
        simp only [dfs, visitAll]
        cases cont (vl ++ [im]) <;> simp
      rw [hL]
      have hB3 := hst.blk
      refine ⟨rfl, vim, S', RunSt.later ⟨hst.ext.thenCh hch hst.s0, hB3.ch hch hst.sb, hst.ow.ch hch hst.sv, hj, fun h => ?_, fun c hc h => ?_, fun k hk => ?_⟩ h5⟩
      · rcases hS' _ h with h | h
        · exact hst.sb h
        · have := hB3.lt; omega
      · rcases hS' _ h with h | h
        · exact hst.sv c hc h
        · have := (hst.ow.blk c hc).2; omega
      · rcases hS' _ hk with h | h
        · exact hst.s0 k h
        · have := hst.ext.size; omega
  | succ d ih =>
    intro im w vim S vl hlen hm hvl hcap hst
    apply c_impl_morphismSearch_run; unfold S_impl_morphismSearch_run
    refine iRet (ok_impl_morphismSearch_fits hf hg (by omega) hm hst.blk (hfa.ext hst.ext) (hga.ext hst.ext) hst.ow.sl) fun w1 h1 => ?_
    have hst := hst.later h1
    ((with_reducible refine iNot ?_))
    cases hfit : fitsB f g onto one im
    · refine iCndT rfl ?_
      unfold leaves
      rw [hfit]
      exact ⟨rfl, vim, S, hst⟩
    · refine iCndF rfl ?_
      have hB := hst.blk
      have hsl : SlN w1 vim im := hst.ow.sl
      ((with_reducible refine iNil ?_; refine iFa ?_); refine iLdB (by assumption) (by first | rfl | simp) ?_; (with_reducible refine iLenN (by assumption) ?_; refine iNil ?_; refine iFa ?_; refine iFa ?_); refine iLdB (by assumption) (by first | rfl | simp) ?_; (with_reducible refine iEq ?_))
      intro w2 h2
      have hst := hst.later h2
      have hB := hst.blk
      refine iCndP (fun h3 => absurd h3 (by omega)) (fun h3 => ?_)
      have hL : leaves (fitsB f g onto one) g.n (d + 1) im = (List.range g.n).flatMap fun y => leaves (fitsB f g onto one) g.n d (im ++ [y]) := by
        rw [leaves, hfit, if_pos rfl, dfs_succ]; rfl
      rw [hL]
      ((with_reducible refine iNil ?_; refine iFa ?_; refine iFa ?_); refine iLdB (by assumption) (by first | rfl | simp) ?_)
      refine iLp (fun k : Nat => [.int .i64 (k : Int)]) (fun k w' => k ≤ g.n ∧ ∃ vim' S' vl', RunSt V f g onto one e w0 fa ga b w' im vim' S' vl' ∧
          visitAll cont vl ((List.range k).flatMap fun y => leaves (fitsB f g onto one) g.n d (im ++ [y])) = (vl', true)) (fun k => g.n - k) 0 rfl ⟨Nat.zero_le _, vim, S, vl, hst, by simp [visitAll]⟩ ?_
      rintro k w7 Kn ⟨hk, vim', S', vl', hst', hvis⟩ hKn
      have hB7 := hst'.blk
      have hvl' : vl' = [] ∨ cont vl' = true := by
        have := visitAll_cont cont ((List.range k).flatMap fun y => leaves (fitsB f g onto one) g.n d (im ++ [y])) vl hvl (by rw [hvis])
        rwa [hvis] at this
      have hlen' : vl'.length ≤ vl.length + k * g.n ^ d := by
        have h1 := visitAll_len cont ((List.range k).flatMap fun y => leaves (fitsB f g onto one) g.n d (im ++ [y])) vl
        rw [hvis] at h1
        have h2 := flat_length (fitsB f g onto one) g.n d im k
        simp only at h1
        omega
      (intro _; (try simp only [gx]); (with_reducible refine iLt ?_))
      refine iCndP (fun h4 => ?_) (fun h4 => ?_)
      · have hk1 : k < g.n := by omega
        have hcap' : vl'.length + g.n ^ d ≤ 100000000 := by
          have h1 : (k + 1) * g.n ^ d ≤ g.n * g.n ^ d := Nat.mul_le_mul_right _ hk1
          rw [Nat.succ_mul] at h1
          rw [Nat.pow_succ, Nat.mul_comm] at hcap
          omega
        ((with_reducible refine iNil ?_; refine iFa ?_); refine iLdB (by assumption) (by first | rfl | simp) ?_)
        have hil : (ints (nats im)).length = im.length := by rw [ints_length, nats_length]
        refine iApp1A u_Si64 i_Si64 rfl hst'.ow rfl (by omega) (by omega) hst'.ext.size fun v' w9 ho hgr hat => ?_
        rw [ints_snoc] at ho
        have hvb : vim'.ownBlock ≠ some b := hst'.ow.ne_blk hB7 (fun h => he1 h)
        have hB9 := hB7.grown hgr hvb
        ((with_reducible refine iNil ?_; refine iFa ?_))
        refine iStB hB9 (by simp) ho.cell fun hB10 => ?_
        have hu := Upd.setCell w9 b 4 v'
        have hv'b : v'.ownBlock ≠ some b := ho.ne_blk hB9 (fun h => he1 h)
        have hch : Ch (fun c => c = b ∨ vim'.ownBlock = some c) w7 (w9.setCell ⟨b, 4, none⟩ v') := (grown_ch hgr (fun c hc => .inr hc)).trans (hu.ch (S := fun c => c = b) rfl) (fun c hc => .inl (.inl hc))
        have hst10 : RunSt V f g onto one e w0 fa ga b (w9.setCell ⟨b, 4, none⟩ v') (im ++ [k]) v' S' vl' := by
          refine ⟨hst'.ext.thenCh hch (fun c hc => ?_), hB10, ho.upd hu hv'b, V.keep hst'.j hch.size (fun c hc => hch.block c (V.below hst'.j c hc) ?_), hst'.sb, fun c hc h => ?_, hst'.s0⟩
          · rcases hc with rfl | hc
            · exact hb
            · exact (hst'.ow.blk c hc).1
          · rintro (rfl | h)
            · exact hst'.sb hc
            · exact hst'.sv c h hc
          · rcases hat with h1 | ⟨c', h1, h2⟩
            · exact hst'.sv c (by rw [← h1]; exact hc) h
            · rw [h1] at hc; cases hc
              have := V.below hst'.j _ h
              omega
        have hm' : ∀ y ∈ im ++ [k], y < g.n := fun y hy => by
          simp at hy
          rcases hy with hy | rfl
          · exact hm y hy
          · omega
        refine iCall ((ih (im ++ [k]) _ v' S' vl' (by simp; omega) hm' hvl' hcap' hst10).mono ?_)
        rintro _ w11 ⟨rfl, vim2, S2, hst11⟩
        have hB11 := hst11.blk
        have hl11 : (im ++ [k]).length = im.length + 1 := by simp
        have hsl11 : SlN w11 vim2 (im ++ [k]) := hst11.ow.sl
        ((with_reducible refine iNil ?_; refine iFa ?_); refine iLdB (by assumption) (by first | rfl | simp) ?_; (with_reducible refine iNil ?_; refine iFa ?_); refine iLdB (by assumption) (by first | rfl | simp) ?_; (with_reducible refine iLenN (by assumption) ?_); refine iSub (by omega) ?_)
        have hln : ((im ++ [k]).length : Int) - 1 = ((ints (nats im)).length : Nat) := by rw [hil]; simp
        rw [hln]
        refine iSlDown (by rw [ints_snoc]; exact hst11.ow) fun vim3 hv3 ho3 => ?_
        ((with_reducible refine iNil ?_; refine iFa ?_))
        intro w12 h12
        have hst12 := hst11.later h12
        have hB12 := hst12.blk
        have ho12 := ho3.ext h12
        refine iStB hB12 (by simp) ho3.cell fun hB13 => ?_
        have hu13 := Upd.setCell w12 b 4 vim3
        intro w14 h14
        have hv3b : vim3.ownBlock ≠ some b := by rw [hv3]; exact hst12.ow.ne_blk hB12 (fun h => he1 h)
        have hst14 : RunSt V f g onto one e w0 fa ga b w14 im vim3 S2 (visitAll cont vl' (leaves (fitsB f g onto one) g.n d (im ++ [k]))).1 := by
          refine RunSt.later (w := w12.setCell ⟨b, 4, none⟩ vim3) ⟨hst12.ext.upd hu13 hb, hB13, ho12.upd hu13 hv3b, V.keep hst12.j (by rw [hu13.size]; exact Nat.le_refl _) (fun c hc => hu13.block c fun h => hst12.sb (h ▸ hc)), hst12.sb, fun c hc => hst12.sv c (by rw [← hv3]; exact hc), hst12.s0⟩ h14
        have hstep : visitAll cont vl ((List.range (k + 1)).flatMap fun y => leaves (fitsB f g onto one) g.n d (im ++ [y])) = visitAll cont vl' (leaves (fitsB f g onto one) g.n d (im ++ [k])) := by
          rw [List.range_succ, List.flatMap_append, visitAll_append, hvis, if_pos rfl]; simp
        ((with_reducible refine iNot ?_))
        cases hr : (visitAll cont vl' (leaves (fitsB f g onto one) g.n d (im ++ [k]))).2
        · refine iCndT rfl ?_
          obtain ⟨j, hj⟩ : ∃ j, g.n = (k + 1) + j := ⟨g.n - (k + 1), by omega⟩
          have hrg : List.range g.n = List.range (k + 1) ++ (List.range j).map (k + 1 + ·) := by rw [hj, List.range_add]
          have hall : visitAll cont vl ((List.range g.n).flatMap fun y => leaves (fitsB f g onto one) g.n d (im ++ [y])) = ((visitAll cont vl' (leaves (fitsB f g onto one) g.n d (im ++ [k]))).1, false) := by
            rw [hrg, List.flatMap_append, visitAll_append, hstep, hr, if_neg (by simp)]
          rw [hall]
          exact ⟨rfl, vim3, S2, hst14⟩
        · refine iCndF rfl ?_
          (refine iAdd (by omega) ?_)
          refine hKn (k + 1) _ ⟨by omega, vim3, S2, _, hst14, ?_⟩ (by omega)
          rw [hstep, ← hr]
      · obtain rfl : k = g.n := by omega
        rw [hvis]
        exact ⟨rfl, vim', S', hst'⟩
end Go.Proofs.YtikfhibcdhdglaaGreat

/- Plain facts on the search: how many maps there are, what a visitor sees of them. No program in sight. Conditions: none. -/
namespace Go.Vc
theorem visitAll_false : ∀ (a : List (List Nat)), (visitAll (fun _ => false) [] a).1 = a.take 1
  | [] => by simp [visitAll]
  | l :: a => by simp [visitAll]
/-- The frame of a good pair. -/
def frOf (n : Int) (l : List Int) : Fr := ⟨n.toNat, l.map Int.toNat⟩
end Go.Vc

/- Contracts of the functions on frames. Conditions: none. -/
namespace Go.Proofs.YtikfhibcdhdglaaGreat
open Go.Vc

/-- A frame: the number of worlds, and what each sees. -/
def frameOk (n : Int) (l : List Int) : Bool := decide (0 ≤ n ∧ n ≤ 8) && decide ((l.length : Int) = n) && l.all (maskB n.toNat)
end Go.Proofs.YtikfhibcdhdglaaGreat

/- Contracts of the functions on one frame that count or list its maps. Conditions: none. -/
namespace Go.Proofs.YtikfhibcdhdglaaGreat
open Go.Vc
theorem frameOk_fr {n : Int} {l : List Int} (h : frameOk n l = true) : (frOf n l).ok ∧ n = ((frOf n l).n : Int) ∧ l = nats (frOf n l).a := by
  unfold frameOk at h
  rw [Bool.and_eq_true, Bool.and_eq_true, decide_eq_true_eq, decide_eq_true_eq, List.all_eq_true] at h
  obtain ⟨⟨h1, h2⟩, h3⟩ := h
  have hx : ∀ x ∈ l, 0 ≤ x ∧ x ≤ ((2 ^ n.toNat - 1 : Nat) : Int) := fun x hx => by
    have := h3 x hx
    unfold maskB at this
    simpa using this
  refine ⟨⟨by show n.toNat ≤ 8; omega, by show (l.map Int.toNat).length = n.toNat; rw [List.length_map]; omega, ?_⟩, by show n = (n.toNat : Int); omega, ?_⟩
  · intro y hy
    obtain ⟨x, h4, rfl⟩ := List.mem_map.1 hy
    have := hx x h4
    have hp := Nat.two_pow_pos n.toNat
    show x.toNat < 2 ^ n.toNat
    omega
  · show l = (l.map Int.toNat).map Int.ofNat
    rw [List.map_map]
    conv => lhs; rw [← List.map_id l]
    refine List.map_congr_left fun x h4 => ?_
    have := hx x h4
    simp only [id, Function.comp, Int.ofNat_eq_natCast]
    omega
theorem pow88 {m n : Nat} (hm : m ≤ 8) (hn : n ≤ 8) : m ^ n ≤ 100000000 := by
  have h1 : m ^ n ≤ 8 ^ n := Nat.pow_le_pow_left hm n
  have h2 : 8 ^ n ≤ 8 ^ 8 := Nat.pow_le_pow_right (by omega) hn
  omega
end Go.Proofs.YtikfhibcdhdglaaGreat

/- Contracts of the laws' own functions on lists of int64 and on frames. Conditions: none. -/
namespace Go.Proofs.YtikfhibcdhdglaaGreat
open Go.Vc


end Go.Proofs.YtikfhibcdhdglaaGreat

/- The law's body over two structs (an int64 and a slice of int64) with a result and a code: once for all functions of this shape. Conditions: none. -/
namespace Go.Proofs.YtikfhibcdhdglaaGreat
open Go.Vc
end Go.Proofs.YtikfhibcdhdglaaGreat

/- Contracts: the first map that the search finds; the functions that hand it back. Conditions: none. -/
namespace Go.Vc
theorem Blk.same {e : TypeId} {w w' : World} {b : Nat} {cs : List Value} (h : Blk e w b cs) (hs : w'.heap[b]? = w.heap[b]?) : Blk e w' b cs := by
  unfold Blk at *
  rw [hs]; exact h
theorem Ow.same {lo : Nat} {e : TypeId} {w w' : World} {v : Value} {xs : List Value} (h : Ow lo e w v xs) (hs : ∀ c, v.ownBlock = some c → w'.heap[c]? = w.heap[c]?) : Ow lo e w' v xs := by
  obtain ⟨h0, h | ⟨g, cap, cur, hv, hg, hh, h1⟩⟩ := h
  · exact ⟨h0, .inl h⟩
  · exact ⟨h0, .inr ⟨g, cap, cur, hv, hg, by rw [hs g (by rw [hv]; rfl)]; exact hh, h1⟩⟩
end Go.Vc
namespace Go.Proofs.YtikfhibcdhdglaaGreat
open Go.Vc
/-- The visitor that keeps the first map. -/
theorem ok_impl_firstMorphism_1 {v : Value} {w : World} {c d : Nat} {u : Value} {e1 e2 : TypeId} {b : Bool} {l : List Int} (hne : c ≠ d) (hs : SlI w v l) (hl : l.length ≤ 1099511627776) (hc : Blk e1 w c [u]) (hd : Blk e2 w d [.bool b]) :
    Cal Tryz.prog f_impl_firstMorphism_1 #[v, .pointer (some ⟨c, 0, none⟩), .pointer (some ⟨d, 0, none⟩)] w fun r w' => r = .bool false ∧ ∃ v', Blk e1 w' c [v'] ∧ Blk e2 w' d [.bool true] ∧ Ow w.heap.size t_i64 w' v' (ints l) ∧ Ch (fun k => k = c ∨ k = d) w w' := by
  apply c_impl_firstMorphism_1; unfold S_impl_firstMorphism_1
  refine iCall ((ok_slices_Clone_Si64_i64 hs hl).mono ?_)
  rintro v' w1 ⟨h1, ho⟩
  have hc1 := hc.ext h1
  have hd1 := hd.ext h1
  have hoc : v'.ownBlock ≠ some c := fun e => by have := (ho.blk c e).1; have := hc.lt; omega
  have hod : v'.ownBlock ≠ some d := fun e => by have := (ho.blk d e).1; have := hd.lt; omega
  refine iStB hc1 (by simp) ho.cell fun hc2 => ?_
  have hu := Upd.setCell w1 c 0 v'
  have hd2 := hd1.upd hu (fun e => hne e.symm)
  have ho2 := ho.upd hu hoc
  refine iStB hd2 (by simp) rfl fun hd3 => ?_
  have hu3 := Upd.setCell (w1.setCell ⟨c, 0, none⟩ v') d 0 (.bool true)
  exact ⟨rfl, v', hc2.upd hu3 hne, hd3, ho2.upd hu3 hod, (h1.ch (S := fun k => k = c ∨ k = d)).trans ((hu.ch (S := fun k => k = c ∨ k = d) (.inl rfl)).trans (hu3.ch (S := fun k => k = c ∨ k = d) (.inr rfl)) (fun _ h => .inl h)) (fun _ h => .inl h)⟩
def visFirst (c d lo : Nat) (hne : c ≠ d) (hlo : lo ≤ c) (e1 e2 : TypeId) (n m : Nat) (hn : n ≤ 8) : Visitor Tryz.prog t_i64 (.func (.func f_impl_firstMorphism_1) #[] #[.pointer (some ⟨c, 0, none⟩), .pointer (some ⟨d, 0, none⟩)]) n m (fun _ => false) where
  J S l w := ∃ v, S = (fun k => k = c ∨ k = d ∨ v.ownBlock = some k) ∧ Blk e1 w c [v] ∧ Blk e2 w d [.bool (!l.isEmpty)] ∧ Ow lo t_i64 w v (ints (nats (l.headD [])))
  below := by
    rintro S l w ⟨v, rfl, h1, h2, h3⟩ k (rfl | rfl | hk)
    · exact h1.lt
    · exact h2.lt
    · exact (h3.blk k hk).2
  keep := by
    rintro S l w w' ⟨v, rfl, h1, h2, h3⟩ _ hk
    exact ⟨v, rfl, h1.same (hk c (.inl rfl)), h2.same (hk d (.inr (.inl rfl))), h3.same fun k hb => hk k (.inr (.inr hb))⟩
  visit := by
    rintro S l w u lo' im ⟨v, rfl, h1, h2, h3⟩ hl _ ho hlen _ _
    have hl0 : l = [] := by
      rcases hl with h | h
      · exact h
      · cases h
    subst hl0
    refine iClo rfl ((ok_impl_firstMorphism_1 (l := nats im) hne ho.sl (by rw [nats_length]; omega) h1 h2).mono ?_)
    rintro r w' ⟨rfl, v', g1, g2, g3, g4⟩
    refine ⟨rfl, _, ⟨v', rfl, g1, g2, g3.mono (by have := h1.lt; omega)⟩, g4.mono (fun k hk => ?_), fun k hk => ?_⟩
    · rcases hk with rfl | rfl
      · exact .inl rfl
      · exact .inr (.inl rfl)
    · rcases hk with rfl | rfl | hk
      · exact .inl (.inl rfl)
      · exact .inl (.inr (.inl rfl))
      · exact .inr (g3.blk k hk).1
theorem ok_impl_firstMorphism {f g : Fr} (hf : f.ok) (hg : g.ok) {onto one : Bool} {w : World} {fa ga : Value} (hfa : SlN w fa f.a) (hga : SlN w ga g.a) :
    Cal Tryz.prog f_impl_firstMorphism #[.agg #[.int .i64 (f.n : Int), fa], .agg #[.int .i64 (g.n : Int), ga], .bool onto, .bool one] w fun r w' => Ext w w' ∧ ∃ v, r = .tuple #[v, .bool (!(leaves (fitsB f g onto one) g.n f.n []).isEmpty)] ∧
      Ow w.heap.size t_i64 w' v (ints (nats ((leaves (fitsB f g onto one) g.n f.n []).headD []))) := by
  apply c_impl_firstMorphism; unfold S_impl_firstMorphism
  have hX := Ext.refl w
  refine iNew fun b4 w1 hb4 h hB4 => ?_
  have hX := hX.trans h
  refine iNew fun b5 w2 hb5 h hB5 => ?_
  have hX := hX.trans h
  have hB4 := hB4.ext h
  refine iNew fun c w3 hc h hC => ?_
  have hlc : w.heap.size ≤ c := by have := hX.size; omega
  have hX := hX.trans h
  have hB4 := hB4.ext h
  have hB5 := hB5.ext h
  refine iNew fun d w4 hd h hD => ?_
  have hld : w.heap.size ≤ d := by have := hX.size; omega
  have hcd : c ≠ d := by have := hC.lt; omega
  have hb4d : b4 ≠ d := by have := hB4.lt; omega
  have hb5d : b5 ≠ d := by have := hB5.lt; omega
  have hX := hX.trans h
  have hB4 := hB4.ext h
  have hB5 := hB5.ext h
  have hC := hC.ext h
  refine iStB hD (by simp [Value.cells]) rfl fun hD => ?_
  have hu := Upd.setCell w4 d 0 (.bool false)
  have hX := hX.upd hu hld
  have hB4 := hB4.upd hu hb4d
  have hB5 := hB5.upd hu hb5d
  have hC := hC.upd hu hcd
  ((with_reducible refine iLdA (by assumption) ?_ ?_); rfl; (with_reducible refine iLdA (by assumption) ?_ ?_); rfl)
  refine iBuild (cs := #[.int .i64 (f.n : Int), fa, .int .i64 (g.n : Int), ga, .slice none 0 0, .func (.func f_impl_firstMorphism_1) #[] #[.pointer (some ⟨c, 0, none⟩), .pointer (some ⟨d, 0, none⟩)], .bool onto, .bool one]) (by simp [Instr.fill, Value.cells]) ?_
  refine iNew fun b w6 hb h hB => ?_
  have hlb : w.heap.size ≤ b := by have := hX.size; omega
  have hbc : b ≠ c := by have := hC.lt; omega
  have hbd : b ≠ d := by have := hD.lt; omega
  have hX := hX.trans h
  have hC := hC.ext h
  have hD := hD.ext h
  have hSlo : ∀ k, (k = c ∨ k = d ∨ (Value.slice none 0 0).ownBlock = some k) → w.heap.size ≤ k := by
    intro k hk
    rcases hk with h | h | h
    · omega
    · omega
    · cases h
  have hSb : ¬ (b = c ∨ b = d ∨ (Value.slice none 0 0).ownBlock = some b) := by
    intro hk
    rcases hk with h | h | h
    · exact hbc h
    · exact hbd h
    · cases h
  have hst : RunSt (visFirst c d w.heap.size hcd hlc _ _ f.n g.n hf.1) f g onto one _ w _ _ b w6 [] (.slice none 0 0) _ [] :=
    ⟨hX, hB, Ow.nil _ _ _, ⟨.slice none 0 0, rfl, hC, hD, Ow.nil _ _ _⟩, hSb, (fun c hc => by cases hc), hSlo⟩
  refine iCall ((ok_impl_morphismSearch_run hf hg (by decide) _ hfa hga hlb f.n [] w6 _ _ [] (by simp) (fun y hy => by cases hy) (.inl rfl) (by have := pow88 hg.1 hf.1; simpa using this) hst).mono ?_)
  rintro _ w7 ⟨rfl, vim', S', hst'⟩
  rw [visitAll_false] at hst'
  obtain ⟨v, _, hC', hD', ho⟩ := hst'.j
  (refine iLdB (by assumption) (by first | rfl | simp) ?_; refine iLdB (by assumption) (by first | rfl | simp) ?_)
  intro w8 h
  have e1 : ((leaves (fitsB f g onto one) g.n f.n []).take 1).isEmpty = (leaves (fitsB f g onto one) g.n f.n []).isEmpty := by
    cases leaves (fitsB f g onto one) g.n f.n [] <;> simp
  have e2 : ((leaves (fitsB f g onto one) g.n f.n []).take 1).headD [] = (leaves (fitsB f g onto one) g.n f.n []).headD [] := by
    cases leaves (fitsB f g onto one) g.n f.n [] <;> simp
  rw [e1]
  rw [e2] at ho
  exact ⟨hst'.ext.trans h, v, rfl, ho.ext h⟩
end Go.Proofs.YtikfhibcdhdglaaGreat

/- Contracts: the properties that make a frame a poset, in the reference. Conditions: none. -/
namespace Go.Vc
/-- The union of the rows of a mask's members. -/
def rowsK (a : List Nat) (m k : Nat) : Nat := ((memK m k).map fun i => a.getD i 0).foldl (· ||| ·) 0
theorem rowsK_succ (a : List Nat) (m k : Nat) : rowsK a m (k + 1) = if m.testBit k then rowsK a m k ||| a.getD k 0 else rowsK a m k := by
  unfold rowsK
  rw [memK_succ, List.map_append, List.foldl_append]
  split <;> simp
theorem foldl_or_bit (l : List Nat) (z j : Nat) : (l.foldl (· ||| ·) z).testBit j = (z.testBit j || l.any fun y => y.testBit j) := by
  induction l generalizing z with
  | nil => simp
  | cons x l ih => rw [List.foldl_cons, ih, Nat.testBit_or, List.any_cons, Bool.or_assoc]
theorem rowsK_lt {a : List Nat} {n : Nat} (h : ∀ x ∈ a, x < 2 ^ n) (m : Nat) : ∀ k, rowsK a m k < 2 ^ n
  | 0 => by simp [rowsK, memK]; exact Nat.two_pow_pos n
  | k + 1 => by
    rw [rowsK_succ]
    split
    · refine Nat.or_lt_two_pow (rowsK_lt h m k) ?_
      by_cases hk : k < a.length
      · simp only [List.getD_eq_getElem?_getD, List.getElem?_eq_getElem hk, Option.getD_some]; exact h _ (List.getElem_mem _)
      · simp [List.getD_eq_getElem?_getD, List.getElem?_eq_none (Nat.le_of_not_lt hk)]; exact Nat.two_pow_pos n
    · exact rowsK_lt h m k
theorem rowsK_bit (a : List Nat) (m k j : Nat) : (rowsK a m k).testBit j = true ↔ ∃ i, i < k ∧ m.testBit i = true ∧ (a.getD i 0).testBit j = true := by
  unfold rowsK
  rw [foldl_or_bit, Nat.zero_testBit, Bool.false_or, List.any_map, List.any_eq_true]
  unfold memK
  constructor
  · rintro ⟨i, hi, hj⟩
    obtain ⟨h1, h2⟩ := List.mem_filter.1 hi
    exact ⟨i, List.mem_range.1 h1, h2, hj⟩
  · rintro ⟨i, h1, h2, h3⟩
    exact ⟨i, List.mem_filter.2 ⟨List.mem_range.2 h1, h2⟩, h3⟩
/-- One of the three properties (0: reflexive; 2: transitive; 8: antisymmetric) at one world, at two. -/
def flag1 (t : Int) (f : Fr) (x : Nat) : Bool := (!decide (t = 0) || (f.a.getD x 0).testBit x) && (!decide (t = 2) || decide (sdiff (rowsK f.a (f.a.getD x 0) f.n) (f.a.getD x 0) = 0))
def flag2 (t : Int) (f : Fr) (x y : Nat) : Bool := !(f.a.getD x 0).testBit y || (!decide (t = 8) || (decide (x = y) || !(f.a.getD y 0).testBit x))
def flagB (t : Int) (f : Fr) : Bool := (List.range f.n).all fun x => flag1 t f x && (List.range f.n).all fun y => flag2 t f x y
end Go.Vc
namespace Go.Proofs.YtikfhibcdhdglaaGreat
open Go.Vc
theorem ok_spec_l01Image {v : Value} {w : World} {a : List Nat} {n : Nat} (hs : SlN w v a) (hn : n ≤ 62) (hlt : ∀ x ∈ a, x < 2 ^ n) (hal : a.length ≤ 62) (m : Nat) (hm : m < 2 ^ 63) : Ret Tryz.prog f_spec_l01Image #[v, .int .i64 (m : Int)] w (.int .i64 ((rowsK a m a.length : Nat) : Int)) := by
  apply c_spec_l01Image; unfold S_spec_l01Image
  refine iLp (fun k : Nat => [.int .i64 ((rowsK a m k : Nat) : Int), .int .i64 (k : Int)]) (fun k w' => k ≤ a.length ∧ Ext w w') (fun k => a.length - k) 0 rfl ⟨Nat.zero_le _, Ext.refl _⟩ ?_
  rintro k w2 Kn ⟨hk, h2⟩ hKn
  have hs2 := hs.ext h2
  (intro _; (try simp only [gx]); (with_reducible refine iLenN (by assumption) ?_; refine iLt ?_))
  refine iCndP (fun h3 => ?_) (fun h3 => ?_)
  · have hk1 : k < a.length := by omega
    refine iRet (ok_spec_l01Bit m k hm (by omega) w2) fun w3 h4 => ?_
    have hs3 := hs2.ext h4
    have hsu := rowsK_succ a m k
    have h62 : ∀ z, z < 2 ^ n → z < 2 ^ 62 := fun z hz => Nat.lt_of_lt_of_le hz (Nat.pow_le_pow_right (by omega) hn)
    refine iCnd (fun h5 => ?_) (fun h5 => ?_)
    · rw [h5, if_pos rfl] at hsu
      ((with_reducible refine iIaNN (by assumption) ?_ (fun pa_ hpa_ => ?_)); omega; (with_reducible refine iLd (by assumption) ?_))
      have hr := h62 _ (rowsK_lt hlt m k)
      have hg : a.getD k 0 < 2 ^ 62 := by
        simp only [List.getD_eq_getElem?_getD, List.getElem?_eq_getElem hk1, Option.getD_some]
        exact h62 _ (hlt _ (List.getElem_mem _))
      refine iBOr (by omega) (by omega) ?_
      rw [← hsu]
      (refine iAdd (by omega) ?_)
      exact hKn (k + 1) _ ⟨by omega, h2.trans h4⟩ (by omega)
    · rw [h5, if_neg (by simp)] at hsu
      (refine iAdd (by omega) ?_)
      rw [← hsu]
      exact hKn (k + 1) _ ⟨by omega, h2.trans h4⟩ (by omega)
  · obtain rfl : k = a.length := by omega
    exact ⟨rfl, h2⟩
theorem ok_spec_l05Flag {f : Fr} (hf : f.ok) {v : Value} {w : World} (hs : SlN w v f.a) (t : Int) (ht : t = 0 ∨ t = 2 ∨ t = 8) : Ret Tryz.prog f_spec_l05Flag #[.agg #[.int .i64 (f.n : Int), v], .int .i64 t] w (.bool (flagB t f)) := by
  apply c_spec_l05Flag; unfold S_spec_l05Flag
  have hf8 := hf.1
  have hfl := hf.2.1
  have hX := Ext.refl w
  refine iNew fun b w1 hb h hB => ?_
  have hX := hX.trans h
  have hs := hs.ext h
  ((with_reducible refine iFa ?_); refine iLdB (by assumption) (by first | rfl | simp) ?_; (with_reducible refine iFa ?_); refine iLdB (by assumption) (by first | rfl | simp) ?_)
  intro w2 h
  have hX := hX.trans h
  have hs := hs.ext h
  have hno1 : ∀ x w', x < f.n → flag1 t f x = false → Ext w w' → (.bool false : Value) = .bool (flagB t f) ∧ Ext w w' := fun x w' hx h1 hw => by
    refine ⟨?_, hw⟩
    have : flagB t f = false := by
      unfold flagB
      rw [List.all_eq_false]
      exact ⟨x, List.mem_range.2 hx, by rw [h1]; simp⟩
    rw [this]
  have hno2 : ∀ x y w', x < f.n → y < f.n → flag2 t f x y = false → Ext w w' → (.bool false : Value) = .bool (flagB t f) ∧ Ext w w' := fun x y w' hx hy h1 hw => by
    refine ⟨?_, hw⟩
    have h2 : ((List.range f.n).all fun y => flag2 t f x y) = false := by
      rw [List.all_eq_false]
      exact ⟨y, List.mem_range.2 hy, by rw [h1]; simp⟩
    have : flagB t f = false := by
      unfold flagB
      rw [List.all_eq_false]
      exact ⟨x, List.mem_range.2 hx, by rw [h2]; simp⟩
    rw [this]
  refine iLp (fun k : Nat => [.int .i64 (k : Int)]) (fun k w' => k ≤ f.n ∧ Ext w2 w' ∧ ∀ x, x < k → (flag1 t f x && (List.range f.n).all fun y => flag2 t f x y) = true) (fun k => f.n - k) 0 rfl ⟨Nat.zero_le _, Ext.refl _, fun x hx => by omega⟩ ?_
  rintro k w4 Kn ⟨hk, h4, hdone⟩ hKn
  have hs4 := hs.ext h4
  (intro _; (try simp only [gx]); (with_reducible refine iLt ?_))
  refine iCndP (fun h3 => ?_) (fun h3 => ?_)
  · have hk1 : k < f.n := by omega
    have hgk := fr_lt63 hf k
    ((with_reducible refine iEq ?_))
    refine iJnE (flag1 t f k = true) w4 (fun J5 hJ5 => ?_) (fun w6 h6 hf1 => ?_)
    · refine iCndP (fun ht0 => ?_) (fun ht0 => ?_)
      · ((with_reducible refine iIaNN (by assumption) ?_ (fun pa_ hpa_ => ?_)); omega; (with_reducible refine iLd (by assumption) ?_))
        refine iRet (ok_spec_l01Bit _ k (by omega) (by omega) w4) fun w7 h7 => ?_
        ((with_reducible refine iNot ?_))
        have e1 : flag1 t f k = (f.a.getD k 0).testBit k := by unfold flag1; rw [ht0]; simp
        cases hbit : (f.a.getD k 0).testBit k
        · exact iCndT rfl (hno1 k _ hk1 (by rw [e1, hbit]) (hX.trans (h4.trans h7)))
        · exact iCndF rfl (hJ5 w7 h7 (by rw [e1, hbit]))
      · ((with_reducible refine iEq ?_))
        refine iJnE (flag1 t f k = true) w4 (fun J8 hJ8 => ?_) (fun w9 h9 hc _ => hJ5 w9 h9 hc)
        refine iCndP (fun h => absurd h (by omega)) (fun _ => ?_)
        ((with_reducible refine iEq ?_))
        refine iJnE (flag1 t f k = true) w4 (fun J10 hJ10 => ?_) (fun w9 h9 hc _ => hJ8 w9 h9 hc)
        refine iCndP (fun ht2 => ?_) (fun ht2 => ?_)
        · ((with_reducible refine iIaNN (by assumption) ?_ (fun pa_ hpa_ => ?_)); omega; (with_reducible refine iLd (by assumption) ?_))
          refine iRetQ (fun w' h' => ok_spec_l01Image (hs4.ext h') (show f.n ≤ 62 by omega) hf.2.2 (by omega) _ (by omega)) ?_
          ((with_reducible refine iIaNN (by assumption) ?_ (fun pa_ hpa_ => ?_)); omega; (with_reducible refine iLd (by assumption) ?_))
          have hr := rowsK_lt hf.2.2 (f.a.getD k 0) f.a.length
          have hr2 : rowsK f.a (f.a.getD k 0) f.a.length < 2 ^ 8 := Nat.lt_of_lt_of_le hr (Nat.pow_le_pow_right (by omega) hf8)
          refine iBAndNot (by omega) (by omega) ?_
          ((with_reducible refine iNe ?_))
          intro w12 h12
          have e1 : flag1 t f k = decide (sdiff (rowsK f.a (f.a.getD k 0) f.a.length) (f.a.getD k 0) = 0) := by unfold flag1; rw [ht2, hfl]; simp
          refine iCndP (fun h5 => ?_) (fun h5 => ?_)
          · exact hno1 k _ hk1 (by rw [e1]; exact decide_eq_false (by omega)) (hX.trans (h4.trans h12))
          · exact hJ10 w12 h12 (by rw [e1]; exact decide_eq_true (by omega))
        · have e1 : flag1 t f k = true := by unfold flag1; simp [ht0, ht2]
          ((with_reducible refine iEq ?_))
          refine iJnE (flag1 t f k = true) w4 (fun J13 hJ13 => ?_) (fun w9 h9 hc _ => hJ10 w9 h9 hc)
          refine iCndP (fun h => absurd h (by omega)) (fun _ => ?_)
          ((with_reducible refine iEq ?_))
          refine iJnE (flag1 t f k = true) w4 (fun J17 hJ17 => ?_) (fun w9 h9 hc _ => hJ13 w9 h9 hc)
          refine iCndP (fun h => absurd h (by omega)) (fun _ => ?_)
          exact hJ17 w4 (Ext.refl _) e1
    · intro _
      refine iLp (fun j : Nat => [.int .i64 (j : Int)]) (fun j w' => j ≤ f.n ∧ Ext w4 w' ∧ ∀ y, y < j → flag2 t f k y = true) (fun j => f.n - j) 0 rfl ⟨Nat.zero_le _, h6, fun x hx => by omega⟩ ?_
      rintro j w21 Kn2 ⟨hj, h21, hdone2⟩ hKn2
      have hs21 := hs4.ext h21
      (intro _; (try simp only [gx]); (with_reducible refine iLt ?_))
      refine iCndP (fun h7 => ?_) (fun h7 => ?_)
      · have hj1 : j < f.n := by omega
        have hgj := fr_lt63 hf j
        have hnext : ∀ w', Ext w4 w' → flag2 t f k j = true → Kn2 [.int .i64 ((j + 1 : Nat) : Int)] w' := fun w' hw hfl => hKn2 (j + 1) _ ⟨by omega, hw, fun y hy => by
          by_cases hyj : y < j
          · exact hdone2 y hyj
          · obtain rfl : y = j := by omega
            exact hfl⟩ (by omega)
        ((with_reducible refine iIaNN (by assumption) ?_ (fun pa_ hpa_ => ?_)); omega; (with_reducible refine iLd (by assumption) ?_))
        refine iRet (ok_spec_l01Bit _ j (by omega) (by omega) w21) fun w22 h22 => ?_
        have hs22 := hs21.ext h22
        ((with_reducible refine iNot ?_))
        cases hbit : (f.a.getD k 0).testBit j
        · refine iCndT rfl ?_
          (refine iAdd (by omega) ?_)
          exact hnext _ (h21.trans h22) (by unfold flag2; rw [hbit]; rfl)
        · refine iCndF rfl ?_
          ((with_reducible refine iEq ?_))
          refine iJnE (flag2 t f k j = true) w22 (fun J23 hJ23 => ?_) (fun w24 h24 hf2 => ?_)
          · refine iCndP (fun h => absurd h (by omega)) (fun _ => ?_)
            ((with_reducible refine iEq ?_))
            refine iJnE (flag2 t f k j = true) w22 (fun J26 hJ26 => ?_) (fun w9 h9 hc _ => hJ23 w9 h9 hc)
            refine iCndP (fun h => absurd h (by omega)) (fun _ => ?_)
            ((with_reducible refine iEq ?_))
            refine iJnE (flag2 t f k j = true) w22 (fun J29 hJ29 => ?_) (fun w9 h9 hc _ => hJ26 w9 h9 hc)
            refine iCndP (fun ht8 => ?_) (fun ht8 => ?_)
            · have e1 : flag2 t f k j = !(!decide (k = j) && (f.a.getD j 0).testBit k) := by unfold flag2; rw [ht8, hbit]; simp
              refine iJnB (!decide (k = j) && (f.a.getD j 0).testBit k) w22 (fun J31 hJ31 => ?_) (fun w32 h32 => ?_)
              · ((with_reducible refine iNe ?_))
                refine iCndP (fun h8 => ?_) (fun h8 => ?_)
                · ((with_reducible refine iIaNN (by assumption) ?_ (fun pa_ hpa_ => ?_)); omega; (with_reducible refine iLd (by assumption) ?_))
                  refine iRet (ok_spec_l01Bit _ k (by omega) (by omega) w22) fun w33 h33 => ?_
                  have := hJ31 w33 h33
                  rwa [decide_eq_false (show ¬ k = j by omega)] at this
                · have := hJ31 w22 (Ext.refl _)
                  rwa [decide_eq_true (show k = j by omega)] at this
              · (intro _; (try simp only [gx]))
                cases hq : (!decide (k = j) && (f.a.getD j 0).testBit k)
                · exact iCndF rfl (hJ29 w32 h32 (by rw [e1, hq]; rfl))
                · exact iCndT rfl (hno2 k j _ hk1 hj1 (by rw [e1, hq]; rfl) (hX.trans (h4.trans (h21.trans (h22.trans h32)))))
            · ((with_reducible refine iEq ?_))
              refine iJnE (flag2 t f k j = true) w22 (fun J34 hJ34 => ?_) (fun w9 h9 hc _ => hJ29 w9 h9 hc)
              refine iCndP (fun h => absurd h (by omega)) (fun _ => ?_)
              exact hJ34 w22 (Ext.refl _) (by unfold flag2; simp [ht8])
          · intro _
            refine iLp (fun z : Nat => [.int .i64 (z : Int)]) (fun z w' => z ≤ f.n ∧ Ext w4 w') (fun z => f.n - z) 0 rfl ⟨Nat.zero_le _, h21.trans (h22.trans h24)⟩ ?_
            rintro z w40 Kn3 ⟨hz, h40⟩ hKn3
            have hs40 := hs4.ext h40
            (intro _; (try simp only [gx]); (with_reducible refine iLt ?_))
            refine iCndP (fun h8 => ?_) (fun h8 => ?_)
            · have hz1 : z < f.n := by omega
              ((with_reducible refine iIaNN (by assumption) ?_ (fun pa_ hpa_ => ?_)); omega; (with_reducible refine iLd (by assumption) ?_))
              refine iRet (ok_spec_l01Bit _ z (by omega) (by omega) w40) fun w41 h41 => ?_
              ((with_reducible refine iNot ?_))
              cases hbz : (f.a.getD k 0).testBit z
              · refine iCndT rfl ?_
                (refine iAdd (by omega) ?_)
                exact hKn3 (z + 1) _ ⟨by omega, h40.trans h41⟩ (by omega)
              · refine iCndF rfl ?_
                refine iJnB false w41 (fun J42 hJ42 => ?_) (fun w43 h43 => ?_)
                · ((with_reducible refine iEq ?_))
                  refine iCndP (fun h => absurd h (by omega)) (fun _ => ?_)
                  ((with_reducible refine iEq ?_))
                  refine iCndP (fun h => absurd h (by omega)) (fun _ => ?_)
                  intro w50 h50
                  exact hJ42 w50 h50
                · (intro _; (try simp only [gx]))
                  refine iCndF rfl ?_
                  (refine iAdd (by omega) ?_)
                  exact hKn3 (z + 1) _ ⟨by omega, h40.trans (h41.trans h43)⟩ (by omega)
            · (refine iAdd (by omega) ?_)
              exact hnext _ h40 hf2
      · (refine iAdd (by omega) ?_)
        refine hKn (k + 1) _ ⟨by omega, h4.trans h21, fun x hx => ?_⟩ (by omega)
        by_cases hxk : x < k
        · exact hdone x hxk
        · obtain rfl : x = k := by omega
          obtain rfl : j = f.n := by omega
          rw [hf1, Bool.true_and, List.all_eq_true]
          exact fun y hy => hdone2 y (List.mem_range.1 hy)
  · refine ⟨?_, hX.trans h4⟩
    have : flagB t f = true := by
      unfold flagB
      rw [List.all_eq_true]
      exact fun x hx => hdone x (by have := List.mem_range.1 hx; omega)
    rw [this]
end Go.Proofs.YtikfhibcdhdglaaGreat

/- The law's body over two structs (an int64 and a slice of int64) with a truth and a code: once for all functions of this shape. Conditions: none. -/
namespace Go.Vc
end Go.Vc
namespace Go.Proofs.YtikfhibcdhdglaaGreat
open Go.Vc
end Go.Proofs.YtikfhibcdhdglaaGreat

/- Contracts of the functions on modal algebras. Conditions: none. -/
namespace Go.Vc
end Go.Vc
namespace Go.Proofs.YtikfhibcdhdglaaGreat
open Go.Vc
theorem getD_lt_all {a : List Nat} {m : Nat} (h : ∀ x ∈ a, x < m) (hm : 0 < m) (i : Nat) : a.getD i 0 < m := by
  by_cases hi : i < a.length
  · exact getD_lt h hi
  · simp [List.getD_eq_getElem?_getD, List.getElem?_eq_none (Nat.le_of_not_lt hi)]; exact hm
end Go.Proofs.YtikfhibcdhdglaaGreat

/- Contracts: the properties that make a frame a poset, in the program. Conditions: none. -/
namespace Go.Vc
/-- Who sees y, among the first k. -/
def invC (a : List Nat) (k y : Nat) : Nat := setOf ((List.range k).filter fun x => (a.getD x 0).testBit y)
theorem invC_succ (a : List Nat) (k y : Nat) : invC a (k + 1) y = if (a.getD k 0).testBit y then invC a k y ||| 2 ^ k else invC a k y := by
  unfold invC
  rw [List.range_succ, List.filter_append]
  cases h : (a.getD k 0).testBit y
  · simp only [List.filter_cons, List.filter_nil, h]
    simp
  · simp only [List.filter_cons, List.filter_nil, h, if_true]
    rw [setOf_snoc]
theorem invC_lt (a : List Nat) (k y : Nat) : invC a k y < 2 ^ k := setOf_lt fun _ hz => List.mem_range.1 (List.mem_filter.1 hz).1
theorem invC_bit (a : List Nat) (k y x : Nat) : (invC a k y).testBit x = (decide (x < k) && (a.getD x 0).testBit y) := by
  unfold invC
  rw [setOf_testBit, Bool.eq_iff_iff, List.contains_iff_mem, List.mem_filter, List.mem_range]
  simp
def invL (a : List Nat) (n k : Nat) (ms : List Nat) (j : Nat) : List Nat := (List.range n).map fun y => if (ms.take j).contains y then invC a k y ||| 2 ^ k else invC a k y
def inv (f : Fr) : List Nat := (List.range f.n).map fun y => invC f.a f.n y
theorem invL_zero (a : List Nat) (n k : Nat) (ms : List Nat) : invL a n k ms 0 = (List.range n).map fun y => invC a k y := by simp [invL]
theorem invL_full (a : List Nat) (n k : Nat) (hk : a.getD k 0 < 2 ^ 63) : invL a n k (mem (a.getD k 0)) (mem (a.getD k 0)).length = (List.range n).map fun y => invC a (k + 1) y := by
  unfold invL
  refine List.map_congr_left fun y _ => ?_
  rw [List.take_length, invC_succ]
  have : (mem (a.getD k 0)).contains y = (a.getD k 0).testBit y := by
    rw [Bool.eq_iff_iff, List.contains_iff_mem, mem_mem hk]
  rw [this]
theorem invL_length (a : List Nat) (n k : Nat) (ms : List Nat) (j : Nat) : (invL a n k ms j).length = n := by simp [invL]
theorem invL_step (a : List Nat) (n k : Nat) (ms : List Nat) (j : Nat) (hj : j < ms.length) : (invL a n k ms j).set ms[j] ((invL a n k ms j).getD ms[j] 0 ||| 2 ^ k) = invL a n k ms (j + 1) := by
  apply List.ext_getElem
  · simp [invL]
  · intro i h1 h2
    have hi : i < n := by simpa [invL] using h2
    rw [List.getElem_set]
    have ht : ms.take (j + 1) = ms.take j ++ [ms[j]] := List.take_succ_eq_append_getElem hj
    split
    · rename_i h
      rw [h]
      have e1 : (invL a n k ms j).getD i 0 = if (ms.take j).contains i then invC a k i ||| 2 ^ k else invC a k i := by simp [invL, hi]
      have e2 : (invL a n k ms (j + 1))[i] = invC a k i ||| 2 ^ k := by
        have hc : (ms.take (j + 1)).contains i = true := by rw [List.contains_iff_mem, ht, h]; simp
        simp only [invL, List.getElem_map, List.getElem_range]
        rw [if_pos hc]
      rw [e1, e2]
      split
      · rw [Nat.or_assoc, Nat.or_self]
      · rfl
    · rename_i h
      simp only [invL, List.getElem_map, List.getElem_range]
      have hc : (ms.take (j + 1)).contains i = (ms.take j).contains i := by
        rw [Bool.eq_iff_iff, List.contains_iff_mem, List.contains_iff_mem]
        have hm : i ∈ ms.take (j + 1) ↔ i ∈ ms.take j ++ [ms[j]] := by rw [← ht]
        rw [hm, List.mem_append, List.mem_singleton]
        exact ⟨fun h' => h'.resolve_right fun e => h e.symm, .inl⟩
      rw [hc]
theorem inv_get (f : Fr) (x : Nat) (hx : x < f.n) : (inv f).getD x 0 = invC f.a f.n x := by simp [inv, hx]
/-- Warshall's steps. -/
def wStep (k : Nat) (c : List Nat) (i : Nat) : List Nat := if (c.getD i 0).testBit k then c.set i (c.getD i 0 ||| c.getD k 0) else c
def wRow (c : List Nat) (k j : Nat) : List Nat := (List.range j).foldl (wStep k) c
def wAll (a : List Nat) (k : Nat) : List Nat := (List.range k).foldl (fun c k => wRow c k c.length) a
theorem wStep_length (k : Nat) (c : List Nat) (i : Nat) : (wStep k c i).length = c.length := by
  unfold wStep; split <;> simp
theorem wRow_succ (c : List Nat) (k j : Nat) : wRow c k (j + 1) = wStep k (wRow c k j) j := by
  unfold wRow; rw [List.range_succ, List.foldl_append]; rfl
theorem wRow_length (c : List Nat) (k j : Nat) : (wRow c k j).length = c.length := by
  induction j with
  | zero => rfl
  | succ j ih => rw [wRow_succ, wStep_length, ih]
theorem wAll_succ (a : List Nat) (k : Nat) : wAll a (k + 1) = wRow (wAll a k) k (wAll a k).length := by
  unfold wAll; rw [List.range_succ, List.foldl_append]; rfl
theorem wAll_length (a : List Nat) (k : Nat) : (wAll a k).length = a.length := by
  induction k with
  | zero => rfl
  | succ k ih => rw [wAll_succ, wRow_length, ih]
def subL (c d : List Nat) : Prop := ∀ i j, (c.getD i 0).testBit j = true → (d.getD i 0).testBit j = true
theorem wStep_get (k : Nat) (c : List Nat) (i l : Nat) (hi : i < c.length) : (wStep k c i).getD l 0 = if l = i ∧ (c.getD i 0).testBit k = true then c.getD i 0 ||| c.getD k 0 else c.getD l 0 := by
  unfold wStep
  by_cases hb : (c.getD i 0).testBit k = true
  · rw [if_pos hb]
    by_cases hl : l = i
    · subst hl; rw [if_pos ⟨rfl, hb⟩]; simp [List.getD_eq_getElem?_getD, hi]
    · rw [if_neg (fun h => hl h.1)]; simp [List.getD_eq_getElem?_getD, List.getElem?_set_ne (fun h => hl h.symm)]
  · rw [if_neg hb, if_neg (fun h => hb h.2)]
theorem wStep_sub (k : Nat) (c : List Nat) (i : Nat) (hi : i < c.length) : subL c (wStep k c i) := by
  intro l j h
  rw [wStep_get k c i l hi]
  split
  · rename_i h1
    obtain ⟨rfl, _⟩ := h1
    rw [Nat.testBit_or, h]; rfl
  · exact h
theorem subL.trans {a b c : List Nat} (h : subL a b) (k : subL b c) : subL a c := fun i j hb => k i j (h i j hb)
theorem wRow_sub (c : List Nat) (k : Nat) : ∀ j, j ≤ c.length → subL c (wRow c k j)
  | 0, _ => fun _ _ h => h
  | j + 1, hj => by
    rw [wRow_succ]
    exact (wRow_sub c k j (by omega)).trans (wStep_sub k _ j (by rw [wRow_length]; omega))
theorem wAll_sub (a : List Nat) : ∀ k, subL a (wAll a k)
  | 0 => fun _ _ h => h
  | k + 1 => by
    rw [wAll_succ]
    exact (wAll_sub a k).trans (wRow_sub _ k _ (Nat.le_refl _))
/-- A transitive relation stays as it is. -/
theorem wAll_same {a : List Nat} (h : ∀ x y z, (a.getD x 0).testBit y = true → (a.getD y 0).testBit z = true → (a.getD x 0).testBit z = true) : ∀ k, wAll a k = a
  | 0 => rfl
  | k + 1 => by
    rw [wAll_succ, wAll_same h k]
    have key : ∀ j, j ≤ a.length → wRow a k j = a := by
      intro j
      induction j with
      | zero => intro _; rfl
      | succ j ih =>
        intro hj
        rw [wRow_succ, ih (by omega)]
        unfold wStep
        split
        · rename_i hb
          have hor : a.getD j 0 ||| a.getD k 0 = a.getD j 0 := by
            apply Nat.eq_of_testBit_eq
            intro z
            rw [Nat.testBit_or]
            cases hz : (a.getD j 0).testBit z
            · cases hz2 : (a.getD k 0).testBit z
              · rfl
              · rw [h j k z hb hz2] at hz; cases hz
            · rfl
          rw [hor]
          apply List.ext_getElem
          · simp
          · intro i h1 h2
            rw [List.getElem_set]
            split
            · rename_i e; subst e; simp [List.getD_eq_getElem?_getD, h2]
            · rfl
        · rfl
    exact key _ (Nat.le_refl _)
/-- What the steps leave as it is is transitive. -/
theorem wAll_trans {a : List Nat} {n : Nat} (hn : a.length = n) (he : wAll a n = a) : ∀ x y z, x < n → y < n → (a.getD x 0).testBit y = true → (a.getD y 0).testBit z = true → (a.getD x 0).testBit z = true := by
  intro x y z hx hy h1 h2
  -- behind step (y, x) the row of x has that of y
  have hA := wAll_sub a y
  have hrow := wRow_sub (wAll a y) y x (by rw [wAll_length]; omega)
  have hle : ∀ k d, subL (wAll a k) (wAll a (k + d)) := by
    intro k d
    induction d with
    | zero => exact fun _ _ h => h
    | succ d ih => exact ih.trans (by rw [← Nat.add_assoc, wAll_succ]; exact wRow_sub _ _ _ (Nat.le_refl _))
  have hmono : ∀ c k j d, j + d ≤ c.length → subL (wRow c k j) (wRow c k (j + d)) := by
    intro c k j d
    induction d with
    | zero => exact fun _ _ _ h => h
    | succ d ih =>
      intro hd
      refine (ih (by omega)).trans ?_
      rw [← Nat.add_assoc, wRow_succ]
      exact wStep_sub k _ _ (by rw [wRow_length]; omega)
  have hstep : ((wRow (wAll a y) y (x + 1)).getD x 0).testBit z = true := by
    rw [wRow_succ, wStep_get _ _ _ _ (by rw [wRow_length, wAll_length]; omega), if_pos ⟨rfl, hrow _ _ (hA _ _ h1)⟩, Nat.testBit_or, hrow _ _ (hA _ _ h2), Bool.or_true]
  have h3 : ((wAll a (y + 1)).getD x 0).testBit z = true := by
    rw [wAll_succ, wAll_length]
    have := hmono (wAll a y) y (x + 1) (a.length - (x + 1)) (by rw [wAll_length]; omega) _ _ hstep
    rwa [show x + 1 + (a.length - (x + 1)) = a.length by omega] at this
  have h4 := hle (y + 1) (n - (y + 1)) _ _ h3
  rw [show y + 1 + (n - (y + 1)) = n by omega, he] at h4
  exact h4
end Go.Vc
namespace Go.Proofs.YtikfhibcdhdglaaGreat
open Go.Vc
theorem getD_of_lt {l : List Nat} {j : Nat} (h : j < l.length) : l.getD j 0 = l[j] := by simp [List.getD_eq_getElem?_getD, h]
theorem invL_getD (a : List Nat) (n k : Nat) (ms : List Nat) (j y : Nat) (hy : y < n) : (invL a n k ms j).getD y 0 = if (ms.take j).contains y then invC a k y ||| 2 ^ k else invC a k y := by simp [invL, hy]
theorem ints_nats_set (l : List Nat) (y x : Nat) : ints (nats (l.set y x)) = (ints (nats l)).set y (.int .i64 (x : Int)) := by simp [ints, nats, List.map_set]
theorem ints_nats_get (l : List Nat) (y : Nat) (h : y < l.length) : (ints (nats l))[y]? = some (.int .i64 ((l.getD y 0 : Nat) : Int)) := by
  simp [ints, nats, List.getD_eq_getElem?_getD, h]
theorem ok_impl_inverse {f : Fr} (hf : f.ok) {v : Value} {w : World} (hs : SlN w v f.a) : Cal Tryz.prog f_impl_inverse #[v] w fun r w' => Ext w w' ∧ Ow w.heap.size t_i64 w' r (ints (nats (inv f))) := by
  have hf8 := hf.1
  have hfl := hf.2.1
  have hs0 := hs
  apply c_impl_inverse; unfold S_impl_inverse
  have hX := Ext.refl w
  ((with_reducible refine iLenN (by assumption) ?_))
  refine iMk (n := f.a.length) (by omega) (by omega) rfl fun c w1 hc h hC => ?_
  have hlc : w.heap.size ≤ c := by omega
  have hcl : c < w1.heap.size := hC.lt
  have hX := hX.trans h
  have hs := hs.ext h
  ((with_reducible refine iLenN (by assumption) ?_))
  have hrow0 : List.replicate f.a.length (Value.int .i64 0) = ints (nats ((List.range f.n).map fun y => invC f.a 0 y)) := by
    apply List.ext_getElem
    · simp [ints, nats, hfl]
    · intro i h1 h2
      simp [ints, nats, invC, setOf]
  rw [hrow0] at hC
  refine iLp (fun k : Nat => [.int .i64 (k : Int)]) (fun k w' => k ≤ f.n ∧ Ext w w' ∧ Blk t_i64 w' c (ints (nats ((List.range f.n).map fun y => invC f.a k y)))) (fun k => f.n - k) 0 rfl ⟨Nat.zero_le _, hX, hC⟩ ?_
  rintro k w3 Kn ⟨hk, hX, hC⟩ hKn
  have hs := hs0.ext hX
  (intro _; (try simp only [gx]); (with_reducible refine iLt ?_))
  refine iCndP (fun h4 => ?_) (fun h4 => ?_)
  · have hk1 : k < f.n := by omega
    have hgk := fr_lt63 hf k
    have hgk2 := hf.lt hk1
    ((with_reducible refine iIaNN (by assumption) ?_ (fun pa_ hpa_ => ?_)); omega; (with_reducible refine iLd (by assumption) ?_))
    refine iCall ((ok_impl_membersOf (f.a.getD k 0) (by omega) w3).mono ?_)
    rintro u w4 ⟨h, ho⟩
    have hcl3 := hC.lt
    have hX := hX.trans h
    have hC := hC.ext h
    have hms : SlN w4 u (mem (f.a.getD k 0)) := ho.sl
    have hml := popc_full (m := 8) (a := f.a.getD k 0) (by omega) hgk
    unfold popc at hml
    have hmlt : ∀ y ∈ mem (f.a.getD k 0), y < f.n := fun y hy => by
      have := (mem_mem (by omega)).1 hy
      rcases Nat.lt_or_ge y f.n with h' | h'
      · exact h'
      · rw [Nat.testBit_lt_two_pow (Nat.lt_of_lt_of_le hgk2 (Nat.pow_le_pow_right (by omega) h'))] at this; cases this
    have hcne : u.ownBlock ≠ some c := fun e => by have := (ho.blk c e).1; omega
    ((with_reducible refine iLenN (by assumption) ?_))
    rw [← invL_zero f.a f.n k (mem (f.a.getD k 0))] at hC
    refine iLp (fun j : Nat => [.int .i64 (j : Int)]) (fun j w' => j ≤ (mem (f.a.getD k 0)).length ∧ Ext w w' ∧ Ow w3.heap.size t_i64 w' u (ints (nats (mem (f.a.getD k 0)))) ∧ Blk t_i64 w' c (ints (nats (invL f.a f.n k (mem (f.a.getD k 0)) j)))) (fun j => (mem (f.a.getD k 0)).length - j) 0 rfl ⟨Nat.zero_le _, hX, ho, hC⟩ ?_
    rintro j w6 Kn2 ⟨hj, hX, ho, hC⟩ hKn2
    have hms : SlN w6 u (mem (f.a.getD k 0)) := ho.sl
    (intro _; (try simp only [gx]); (with_reducible refine iLt ?_))
    refine iCndP (fun h5 => ?_) (fun h5 => ?_)
    · have hj1 : j < (mem (f.a.getD k 0)).length := by omega
      have hy : (mem (f.a.getD k 0))[j] < f.n := hmlt _ (List.getElem_mem hj1)
      have hyy : (mem (f.a.getD k 0)).getD j 0 = (mem (f.a.getD k 0))[j] := getD_of_lt hj1
      have hlen : (invL f.a f.n k (mem (f.a.getD k 0)) j).length = f.n := invL_length _ _ _ _ _
      ((with_reducible refine iIaNN (by assumption) ?_ (fun pa_ hpa_ => ?_)); omega; (with_reducible refine iLd (by assumption) ?_))
      rw [hyy]
      refine iIaL (by omega) ?_
      refine iLdB hC (v := .int .i64 (((invL f.a f.n k (mem (f.a.getD k 0)) j).getD (mem (f.a.getD k 0))[j] 0 : Nat) : Int)) ?_ ?_
      · rw [Nat.zero_add]; exact ints_nats_get _ _ (by omega)
      refine iShlOne (by omega) ?_
      have hcur : (invL f.a f.n k (mem (f.a.getD k 0)) j).getD (mem (f.a.getD k 0))[j] 0 < 2 ^ 9 := by
        have e1 : (invL f.a f.n k (mem (f.a.getD k 0)) j).getD (mem (f.a.getD k 0))[j] 0 = if ((mem (f.a.getD k 0)).take j).contains (mem (f.a.getD k 0))[j] then invC f.a k (mem (f.a.getD k 0))[j] ||| 2 ^ k else invC f.a k (mem (f.a.getD k 0))[j] := invL_getD _ _ _ _ _ _ hy
        rw [e1]
        have i1 : invC f.a k (mem (f.a.getD k 0))[j] < 2 ^ 9 := Nat.lt_of_lt_of_le (invC_lt _ _ _) (Nat.pow_le_pow_right (by omega) (by omega))
        split
        · exact Nat.or_lt_two_pow i1 (Nat.pow_lt_pow_right (by omega) (by omega))
        · exact i1
      have h2k : 2 ^ k < 2 ^ 9 := Nat.pow_lt_pow_right (by omega) (by omega)
      refine iBOr (by omega) (by omega) ?_
      refine iIaL (by omega) ?_
      intro w7 h
      have hX := hX.trans h
      have ho := ho.ext h
      have hC := hC.ext h
      refine iStB hC (by rw [ints_length, nats_length, hlen]; omega) rfl fun hC' => ?_
      have hu := Upd.setCell w7 c (0 + (mem (f.a.getD k 0))[j]) (.int .i64 (((invL f.a f.n k (mem (f.a.getD k 0)) j).getD (mem (f.a.getD k 0))[j] 0 ||| 2 ^ k : Nat) : Int))
      have hX := hX.upd hu hlc
      have ho := ho.upd hu hcne
      have e1 : (ints (nats (invL f.a f.n k (mem (f.a.getD k 0)) j))).set (0 + (mem (f.a.getD k 0))[j]) (.int .i64 (((invL f.a f.n k (mem (f.a.getD k 0)) j).getD (mem (f.a.getD k 0))[j] 0 ||| 2 ^ k : Nat) : Int)) = ints (nats (invL f.a f.n k (mem (f.a.getD k 0)) (j + 1))) := by
        rw [Nat.zero_add, ← invL_step f.a f.n k _ j hj1]
        exact (ints_nats_set _ _ _).symm
      rw [e1] at hC'
      intro w9 h
      have hC := hC'.ext h
      have hX := hX.trans h
      have ho := ho.ext h
      (refine iAdd (by omega) ?_)
      exact hKn2 (j + 1) _ ⟨by omega, hX, ho, hC⟩ (by omega)
    · obtain rfl : j = (mem (f.a.getD k 0)).length := by omega
      (refine iAdd (by omega) ?_)
      rw [invL_full f.a f.n k (by omega)] at hC
      exact hKn (k + 1) _ ⟨by omega, hX, hC⟩ (by omega)
  · obtain rfl : k = f.n := by omega
    exact ⟨hX, Ow.ofBlk hC hlc (by rw [ints_length, nats_length, hfl]; simp [inv]) (by omega)⟩
theorem ok_slices_Equal_Si64_i64 {v v' : Value} {w : World} {l l' : List Int} (hs : SlI w v l) (hs' : SlI w v' l') : Ret Tryz.prog f_slices_Equal_Si64_i64 #[v, v'] w (.bool (decide (l = l'))) := by
  have hl := hs.len
  have hl' := hs'.len
  apply c_slices_Equal_Si64_i64; unfold S_slices_Equal_Si64_i64
  ((with_reducible refine iLenI (by assumption) ?_; refine iLenI (by assumption) ?_; refine iNe ?_))
  refine iCndP (fun h => ?_) (fun h => ?_)
  · refine ⟨?_, Ext.refl _⟩
    rw [decide_eq_false]
    rintro rfl
    exact h rfl
  · ((with_reducible refine iLenI (by assumption) ?_))
    have hll : l.length = l'.length := by omega
    refine iLp (fun k : Nat => [.int .i64 (k : Int)]) (fun k w' => k ≤ l.length ∧ Ext w w' ∧ l.take k = l'.take k) (fun k => l.length - k) 0 rfl ⟨Nat.zero_le _, Ext.refl _, by simp⟩ ?_
    rintro k w2 Kn ⟨hk, h2, hk2⟩ hKn
    have hs2 := hs.ext h2
    have hs2' := hs'.ext h2
    (intro _; (try simp only [gx]); (with_reducible refine iLt ?_))
    refine iCndP (fun h3 => ?_) (fun h3 => ?_)
    · have hk1 : k < l.length := by omega
      ((with_reducible refine iIaN (by assumption) ?_ (fun pa_ hpa_ => ?_)); omega; (with_reducible refine iLd (by assumption) ?_); (with_reducible refine iIaN (by assumption) ?_ (fun pa_ hpa_ => ?_)); omega; (with_reducible refine iLd (by assumption) ?_; refine iNe ?_))
      intro w3 h4
      refine iCndP (fun h5 => ?_) (fun h5 => ?_)
      · refine ⟨?_, h2.trans h4⟩
        rw [decide_eq_false]
        rintro rfl
        exact h5 rfl
      · (refine iAdd (by omega) ?_)
        refine hKn (k + 1) _ ⟨by omega, h2.trans h4, ?_⟩ (by omega)
        rw [List.take_succ_eq_append_getElem hk1, List.take_succ_eq_append_getElem (show k < l'.length by omega), hk2]
        have e1 : l.getD k 0 = l[k] := by simp [List.getD_eq_getElem?_getD, hk1]
        have e2 : l'.getD k 0 = l'[k]'(by omega) := by simp [List.getD_eq_getElem?_getD, show k < l'.length by omega]
        have h5 : l.getD k 0 = l'.getD k 0 := Decidable.not_not.1 h5
        rw [e1, e2] at h5
        rw [h5]
    · refine ⟨?_, h2⟩
      obtain rfl : k = l.length := by omega
      rw [List.take_length, hll, List.take_length] at hk2
      rw [decide_eq_true hk2]
theorem ok_impl_transitive {a : List Nat} {n : Nat} (hn : n ≤ 8) (hal : a.length = n) (hlt : ∀ x ∈ a, x < 2 ^ n) {v : Value} {w : World} (hs : SlN w v a) : Cal Tryz.prog f_impl_transitive #[v] w fun r w' => Ext w w' ∧ Ow w.heap.size t_i64 w' r (ints (nats (wAll a n))) := by
  apply c_impl_transitive; unfold S_impl_transitive
  refine iCall ((ok_slices_Clone_Si64_i64 (l := nats a) hs (by rw [nats_length]; omega)).mono ?_)
  rintro u w1 ⟨h, ho⟩
  have hX := h
  have hil : ∀ c : List Nat, (ints (nats c)).length = c.length := fun c => by rw [ints_length, nats_length]
  have hsl : SlN w1 u a := ho.sl
  ((with_reducible refine iLenN (by assumption) ?_))
  have hbnd : ∀ k j, ∀ x ∈ wRow (wAll a k) k j, x < 2 ^ n := by
    have hst : ∀ k (c : List Nat) i, (∀ x ∈ c, x < 2 ^ n) → ∀ x ∈ wStep k c i, x < 2 ^ n := by
      intro k c i hc x hx
      unfold wStep at hx
      split at hx
      · rcases List.mem_or_eq_of_mem_set hx with h1 | h1
        · exact hc x h1
        · rw [h1]; exact Nat.or_lt_two_pow (getD_lt_all hc (Nat.two_pow_pos n) _) (getD_lt_all hc (Nat.two_pow_pos n) _)
      · exact hc x hx
    have hrw : ∀ k (c : List Nat) j, (∀ x ∈ c, x < 2 ^ n) → ∀ x ∈ wRow c k j, x < 2 ^ n := by
      intro k c j hc
      induction j with
      | zero => exact hc
      | succ j ih => rw [wRow_succ]; exact hst k _ _ ih
    have hal : ∀ k, ∀ x ∈ wAll a k, x < 2 ^ n := by
      intro k
      induction k with
      | zero => exact hlt
      | succ k ih => rw [wAll_succ]; exact hrw k _ _ ih
    exact fun k j => hrw k _ j (hal k)
  refine iLp (fun k : Nat => [.int .i64 (k : Int)]) (fun k w' => k ≤ n ∧ Ext w w' ∧ Ow w.heap.size t_i64 w' u (ints (nats (wAll a k)))) (fun k => n - k) 0 rfl ⟨Nat.zero_le _, hX, ho⟩ ?_
  rintro k w3 Kn ⟨hk, hX, ho⟩ hKn
  have hkl : (wAll a k).length = n := by rw [wAll_length, hal]
  have hsl : SlN w3 u (wAll a k) := ho.sl
  (intro _; (try simp only [gx]); (with_reducible refine iLt ?_))
  refine iCndP (fun h4 => ?_) (fun h4 => ?_)
  · have hk1 : k < n := by omega
    ((with_reducible refine iLenN (by assumption) ?_))
    refine iLp (fun j : Nat => [.int .i64 (j : Int)]) (fun j w' => j ≤ n ∧ Ext w w' ∧ Ow w.heap.size t_i64 w' u (ints (nats (wRow (wAll a k) k j)))) (fun j => n - j) 0 rfl ⟨Nat.zero_le _, hX, ho⟩ ?_
    rintro j w5 Kn2 ⟨hj, hX, ho⟩ hKn2
    have hjl : (wRow (wAll a k) k j).length = n := by rw [wRow_length, hkl]
    have hsl : SlN w5 u (wRow (wAll a k) k j) := ho.sl
    (intro _; (try simp only [gx]); (with_reducible refine iLt ?_))
    refine iCndP (fun h5 => ?_) (fun h5 => ?_)
    · have hj1 : j < n := by omega
      have h28 : 2 ^ n ≤ 2 ^ 8 := Nat.pow_le_pow_right (by omega) hn
      have g1 := getD_lt_all (hbnd k j) (Nat.two_pow_pos n) j
      have g2 := getD_lt_all (hbnd k j) (Nat.two_pow_pos n) k
      ((with_reducible refine iIaNN (by assumption) ?_ (fun pa_ hpa_ => ?_)); omega; (with_reducible refine iLd (by assumption) ?_))
      refine iRet (ok_impl_has _ k (by omega) (by omega) w5) fun w6 h => ?_
      have hX := hX.trans h
      have ho := ho.ext h
      have hsl : SlN w6 u (wRow (wAll a k) k j) := ho.sl
      have hstep := wRow_succ (wAll a k) k j
      refine iCnd (fun h6 => ?_) (fun h6 => ?_)
      · have e1 : wRow (wAll a k) k (j + 1) = (wRow (wAll a k) k j).set j ((wRow (wAll a k) k j).getD j 0 ||| (wRow (wAll a k) k j).getD k 0) := by
          rw [hstep]; unfold wStep; rw [if_pos h6]
        ((with_reducible refine iIaNN (by assumption) ?_ (fun pa_ hpa_ => ?_)); omega; (with_reducible refine iLd (by assumption) ?_); (with_reducible refine iIaNN (by assumption) ?_ (fun pa_ hpa_ => ?_)); omega; (with_reducible refine iLd (by assumption) ?_))
        refine iBOr (by omega) (by omega) ?_
        refine iIaOwE ho (by rw [hil]; omega) fun b hb hwr => ?_
        intro w7 h
        have hX := hX.trans h
        have ho := ho.ext h
        obtain ⟨hc1, hc2, hc3⟩ := hwr w7 _ rfl ho
        rw [List.getElem?_eq_getElem (by rw [hil]; omega)] at hc1
        refine iSt hc1 hc2 rfl ?_
        have ho := hc3 (.int .i64 (((wRow (wAll a k) k j).getD j 0 ||| (wRow (wAll a k) k j).getD k 0 : Nat) : Int))
        rw [← ints_nats_set, ← e1] at ho
        have hu := Upd.setCell w7 b j (.int .i64 (((wRow (wAll a k) k j).getD j 0 ||| (wRow (wAll a k) k j).getD k 0 : Nat) : Int))
        have hX := hX.upd hu (ho.blk b hb).1
        intro w9 h
        have hX := hX.trans h
        have ho := ho.ext h
        (refine iAdd (by omega) ?_)
        exact hKn2 (j + 1) _ ⟨by omega, hX, ho⟩ (by omega)
      · (refine iAdd (by omega) ?_)
        refine hKn2 (j + 1) _ ⟨by omega, hX, ?_⟩ (by omega)
        have e1 : wRow (wAll a k) k (j + 1) = wRow (wAll a k) k j := by
          rw [hstep]; unfold wStep; rw [if_neg (by rw [h6]; simp)]
        rw [e1]; exact ho
    · obtain rfl : j = n := by omega
      (refine iAdd (by omega) ?_)
      refine hKn (k + 1) _ ⟨by omega, hX, ?_⟩ (by omega)
      rw [wAll_succ, hkl]; exact ho
  · obtain rfl : k = n := by omega
    exact ⟨hX, ho⟩
theorem ok_impl_Frame_everyWorld {n : Nat} {fv u : Value} (p : Nat → Bool) (hn : n ≤ 1000) (w : World) (hf : ∀ w', Ext w w' → ∀ x, x < n → callV Tryz.prog fv [.int .i64 (x : Int)] w' fun r w'' => r = .bool (p x) ∧ Ext w' w'') : Ret Tryz.prog f_impl_Frame_everyWorld #[.agg #[.int .i64 (n : Int), u], fv] w (.bool ((List.range n).all p)) := by
  apply c_impl_Frame_everyWorld; unfold S_impl_Frame_everyWorld
  refine iNew fun b w1 hb h hB => ?_
  ((with_reducible refine iFa ?_); refine iLdB (by assumption) (by first | rfl | simp) ?_)
  refine iLp (fun k : Nat => [.int .i64 (k : Int)]) (fun k w' => k ≤ n ∧ Ext w w' ∧ ∀ x, x < k → p x = true) (fun k => n - k) 0 rfl ⟨Nat.zero_le _, h, fun x hx => by omega⟩ ?_
  rintro k w2 Kn ⟨hk, h2, hk2⟩ hKn
  (intro _; (try simp only [gx]); (with_reducible refine iLt ?_))
  refine iCndP (fun h3 => ?_) (fun h3 => ?_)
  · have hk1 : k < n := by omega
    refine (hf w2 h2 k hk1).mono ?_
    rintro _ w4 ⟨rfl, h4⟩
    ((with_reducible refine iNot ?_))
    cases hp : p k
    · refine iCndT rfl ?_
      refine ⟨?_, h2.trans h4⟩
      have : (List.range n).all p = false := by
        rw [List.all_eq_false]
        exact ⟨k, List.mem_range.2 hk1, by rw [hp]; simp⟩
      rw [this]
    · refine iCndF rfl ?_
      (refine iAdd (by omega) ?_)
      refine hKn (k + 1) _ ⟨by omega, h2.trans h4, fun x hx => ?_⟩ (by omega)
      by_cases hxk : x < k
      · exact hk2 x hxk
      · obtain rfl : x = k := by omega
        exact hp
  · refine ⟨?_, h2⟩
    have : (List.range n).all p = true := by
      rw [List.all_eq_true]
      exact fun x hx => hk2 x (by have := List.mem_range.1 hx; omega)
    rw [this]
end Go.Proofs.YtikfhibcdhdglaaGreat

/- Contracts: posets. Conditions: none. -/
namespace Go.Vc
theorem fr_bit_lt {f : Fr} (hf : f.ok) {x y : Nat} (h : (f.a.getD x 0).testBit y = true) : x < f.n ∧ y < f.n := by
  have hx : x < f.n := by
    rcases Nat.lt_or_ge x f.n with h' | h'
    · exact h'
    · rw [List.getD_eq_getElem?_getD, List.getElem?_eq_none (by rw [hf.2.1]; exact h')] at h
      simp at h
  refine ⟨hx, ?_⟩
  rcases Nat.lt_or_ge y f.n with h' | h'
  · exact h'
  · rw [Nat.testBit_lt_two_pow (Nat.lt_of_lt_of_le (hf.lt hx) (Nat.pow_le_pow_right (by omega) h'))] at h; cases h
theorem flagB_iff {t : Int} {f : Fr} : flagB t f = true ↔ ∀ x, x < f.n → flag1 t f x = true ∧ ∀ y, y < f.n → flag2 t f x y = true := by
  unfold flagB
  simp only [List.all_eq_true, List.mem_range, Bool.and_eq_true]
theorem flagB_refl {f : Fr} : flagB 0 f = (List.range f.n).all fun x => (f.a.getD x 0).testBit x := by
  rw [Bool.eq_iff_iff, flagB_iff]
  simp only [List.all_eq_true, List.mem_range]
  constructor
  · intro h x hx
    have := (h x hx).1
    unfold flag1 at this
    simpa using this
  · intro h x hx
    refine ⟨?_, fun y hy => ?_⟩
    · unfold flag1; rw [h x hx]; simp
    · unfold flag2; simp
theorem flagB_trans {f : Fr} (hf : f.ok) : flagB 2 f = true ↔ ∀ x y z, (f.a.getD x 0).testBit y = true → (f.a.getD y 0).testBit z = true → (f.a.getD x 0).testBit z = true := by
  rw [flagB_iff]
  constructor
  · intro h x y z h1 h2
    obtain ⟨hx, hy⟩ := fr_bit_lt hf h1
    have := (h x hx).1
    unfold flag1 at this
    simp only [decide_true, Bool.not_true, Bool.false_or, Bool.and_eq_true, decide_eq_true_eq] at this
    exact sdiff_eq_zero.1 this.2 z ((rowsK_bit _ _ _ _).2 ⟨y, hy, h1, h2⟩)
  · intro h x hx
    refine ⟨?_, fun y hy => ?_⟩
    · unfold flag1
      simp only [decide_true, Bool.not_true, Bool.false_or, Bool.and_eq_true, decide_eq_true_eq]
      refine ⟨by simp, sdiff_eq_zero.2 fun z hz => ?_⟩
      obtain ⟨y, _, h1, h2⟩ := (rowsK_bit _ _ _ _).1 hz
      exact h x y z h1 h2
    · unfold flag2; simp
theorem flagB_wAll {f : Fr} (hf : f.ok) : flagB 2 f = decide (wAll f.a f.n = f.a) := by
  rw [Bool.eq_iff_iff, flagB_trans hf, decide_eq_true_eq]
  constructor
  · exact fun h => wAll_same h f.n
  · intro h x y z h1 h2
    obtain ⟨hx, hy⟩ := fr_bit_lt hf h1
    exact wAll_trans hf.2.1 h x y z hx hy h1 h2
theorem flagB_anti {f : Fr} : flagB 8 f = (List.range f.n).all fun x => decide (sdiff (f.a.getD x 0 &&& invC f.a f.n x) (2 ^ x) = 0) := by
  rw [Bool.eq_iff_iff, flagB_iff]
  simp only [List.all_eq_true, List.mem_range, decide_eq_true_eq]
  constructor
  · intro h x hx
    rw [sdiff_eq_zero]
    intro y hy
    rw [Nat.testBit_and, invC_bit, Bool.and_eq_true, Bool.and_eq_true, decide_eq_true_eq] at hy
    have := (h x hx).2 y hy.2.1
    unfold flag2 at this
    rw [hy.1, hy.2.2] at this
    simp at this
    subst this
    rw [Nat.testBit_two_pow]; simp
  · intro h x hx
    refine ⟨by unfold flag1; simp, fun y hy => ?_⟩
    unfold flag2
    cases h1 : (f.a.getD x 0).testBit y
    · rfl
    · cases h2 : (f.a.getD y 0).testBit x
      · simp
      · have := sdiff_eq_zero.1 (h x hx) y (by rw [Nat.testBit_and, invC_bit, h1, h2]; simp [hy])
        rw [Nat.testBit_two_pow, decide_eq_true_eq] at this
        simp [this]
/-- A poset. -/
def poB (f : Fr) : Bool := flagB 0 f && (flagB 2 f && flagB 8 f)
end Go.Vc
namespace Go.Proofs.YtikfhibcdhdglaaGreat
open Go.Vc
theorem ok_impl_Frame_sees {f : Fr} (hf : f.ok) {v : Value} {w : World} (hs : SlN w v f.a) (x y : Nat) (hx : x < f.n) (hy : y ≤ 60) : Ret Tryz.prog f_impl_Frame_sees #[.agg #[.int .i64 (f.n : Int), v], .int .i64 (x : Int), .int .i64 (y : Int)] w (.bool ((f.a.getD x 0).testBit y)) := by
  have hfl := hf.2.1
  have hg := fr_lt63 hf x
  apply c_impl_Frame_sees; unfold S_impl_Frame_sees
  refine iNew fun b w1 hb h hB => ?_
  have hs := hs.ext h
  ((with_reducible refine iFa ?_); refine iLdB (by assumption) (by first | rfl | simp) ?_; (with_reducible refine iIaNN (by assumption) ?_ (fun pa_ hpa_ => ?_)); omega; (with_reducible refine iLd (by assumption) ?_))
  refine iRet (ok_impl_has _ y (by omega) (by omega) w1) fun w2 h2 => ?_
  exact ⟨rfl, h.trans h2⟩
theorem ok_impl_Frame_hasFlag {f : Fr} (hf : f.ok) {v : Value} {w : World} (hs : SlN w v f.a) (t : Int) (ht : t = 0 ∨ t = 2 ∨ t = 8) : Ret Tryz.prog f_impl_Frame_hasFlag #[.agg #[.int .i64 (f.n : Int), v], .int .i64 t] w (.bool (flagB t f)) := by
  have hf8 := hf.1
  have hfl := hf.2.1
  apply c_impl_Frame_hasFlag; unfold S_impl_Frame_hasFlag
  have hX := Ext.refl w
  have hs0 := hs
  refine iNew fun b2 w1 hb2 h hB => ?_
  have hlb2 : w.heap.size ≤ b2 := by have := hX.size; omega
  have hX := hX.trans h
  have hs := hs.ext h
  ((with_reducible refine iFa ?_); refine iLdB (by assumption) (by first | rfl | simp) ?_)
  refine iCall ((ok_impl_inverse hf hs).mono ?_)
  rintro u w2 ⟨h, ho⟩
  have hX := hX.trans h
  have hs := hs.ext h
  have hB := hB.ext h
  have hB : Blk _ w2 b2 [.int .i64 (f.n : Int), v] := hB
  refine iNew fun b5 w3 hb5 h hC => ?_
  have hlb5 : w.heap.size ≤ b5 := by have := hX.size; omega
  have hne : b2 ≠ b5 := by have := hB.lt; omega
  have hou : u.ownBlock ≠ some b5 := ho.lt (by omega)
  have hX := hX.trans h
  have hB := hB.ext h
  have ho := ho.ext h
  refine iStB hC (by simp [Value.cells]) ho.cell fun hC' => ?_
  have hu := Upd.setCell w3 b5 0 u
  have hX := hX.upd hu hlb5
  have hB := hB.upd hu hne
  have ho := ho.upd hu hou
  have hC : Blk _ (w3.setCell ⟨b5, 0, none⟩ u) b5 [u] := hC'
  ((with_reducible refine iEq ?_))
  have hcall : ∀ w', Ext (w3.setCell ⟨b5, 0, none⟩ u) w' → SlN w' v f.a ∧ Blk _ w' b2 [.int .i64 (f.n : Int), v] ∧ Blk _ w' b5 [u] ∧ SlN w' u (inv f) := fun w' h' => ⟨hs0.ext (hX.trans h'), hB.ext h', hC.ext h', (ho.ext h').sl⟩
  refine iCndP (fun h => ?_) (fun h0 => ?_)
  · subst h
    ((with_reducible refine iLdA (by assumption) ?_ ?_); rfl)
    refine iRet (ok_impl_Frame_everyWorld (n := f.n) (u := v) (fun x => (f.a.getD x 0).testBit x) (by omega) _ ?_) fun w5 h => ?_
    · intro w' h' x hx
      refine iClo rfl ?_
      obtain ⟨hs', hB', _, _⟩ := hcall w' h'
      refine c_impl_Frame_hasFlag_1 ?_
      show S_impl_Frame_hasFlag_1 (.int .i64 (x : Int)) (.pointer (some ⟨b2, 0, none⟩)) w' _
      unfold S_impl_Frame_hasFlag_1
      ((with_reducible refine iLdA (by assumption) ?_ ?_); rfl)
      refine iRet (ok_impl_Frame_sees hf hs' x x hx (by omega)) fun w4 h4 => ?_
      exact ⟨rfl, h4⟩
    · rw [flagB_refl]
      exact ⟨rfl, hX.trans h⟩
  · ((with_reducible refine iEq ?_))
    refine iCndP (fun h => absurd h (by omega)) (fun _ => ?_)
    ((with_reducible refine iEq ?_))
    refine iCndP (fun h2 => ?_) (fun h2 => ?_)
    · subst h2
      ((with_reducible refine iFa ?_); refine iLdB (by assumption) (by first | rfl | simp) ?_; (with_reducible refine iFa ?_); refine iLdB (by assumption) (by first | rfl | simp) ?_)
      intro w7 h
      have hX := hX.trans h
      refine iCall ((ok_impl_transitive hf.1 hf.2.1 hf.2.2 (hs0.ext hX)).mono ?_)
      rintro r w8 ⟨h, ho8⟩
      (try refine ⟨h, ?_⟩)
      have hX := hX.trans h
      refine iRetQ (fun w' h' => ok_slices_Equal_Si64_i64 (l := nats (wAll f.a f.n)) (l' := nats f.a) (ho8.ext h').sl (hs0.ext (hX.trans h'))) ?_
      intro w9 h
      refine ⟨?_, hX.trans h⟩
      rw [flagB_wAll hf]
      have hinj : (nats (wAll f.a f.n) = nats f.a) ↔ wAll f.a f.n = f.a := by
        constructor
        · intro h
          have h2 : ∀ c : List Nat, (nats c).map Int.toNat = c := fun c => by rw [nats, List.map_map]; exact List.map_id c
          have := congrArg (List.map Int.toNat) h
          rwa [h2, h2] at this
        · rintro h; rw [h]
      exact congrArg Value.bool (decide_eq_decide.2 hinj)
    · ((with_reducible refine iEq ?_))
      refine iCndP (fun h => absurd h (by omega)) (fun _ => ?_)
      ((with_reducible refine iEq ?_))
      refine iCndP (fun h => absurd h (by omega)) (fun _ => ?_)
      ((with_reducible refine iEq ?_))
      refine iCndP (fun h => absurd h (by omega)) (fun _ => ?_)
      ((with_reducible refine iEq ?_))
      refine iCndP (fun h => absurd h (by omega)) (fun _ => ?_)
      ((with_reducible refine iEq ?_))
      refine iCndP (fun h => absurd h (by omega)) (fun _ => ?_)
      ((with_reducible refine iEq ?_))
      refine iCndP (fun h8 => ?_) (fun h => absurd ht (by omega))
      subst h8
      ((with_reducible refine iLdA (by assumption) ?_ ?_); rfl)
      refine iRet (ok_impl_Frame_everyWorld (n := f.n) (u := v) (fun x => decide (sdiff (f.a.getD x 0 &&& invC f.a f.n x) (2 ^ x) = 0)) (by omega) _ ?_) fun w5 h => ?_
      · intro w' h' x hx
        refine iClo rfl ?_
        obtain ⟨hs', hB', hC', hi'⟩ := hcall w' h'
        have hil : (inv f).length = f.n := by simp [inv]
        refine c_impl_Frame_hasFlag_7 ?_
        show S_impl_Frame_hasFlag_7 (.int .i64 (x : Int)) (.pointer (some ⟨b2, 0, none⟩)) (.pointer (some ⟨b5, 0, none⟩)) w' _
        unfold S_impl_Frame_hasFlag_7
        have hg := fr_lt63 hf x
        have hi8 : invC f.a f.n x < 2 ^ 8 := Nat.lt_of_lt_of_le (invC_lt _ _ _) (Nat.pow_le_pow_right (by omega) hf8)
        have hand : f.a.getD x 0 &&& invC f.a f.n x < 2 ^ 8 := Nat.and_lt_two_pow _ hi8
        have h2x : 2 ^ x < 2 ^ 8 := Nat.pow_lt_pow_right (by omega) (by omega)
        ((with_reducible refine iFa ?_); refine iLdB (by assumption) (by first | rfl | simp) ?_; (with_reducible refine iIaNN (by assumption) ?_ (fun pa_ hpa_ => ?_)); omega; (with_reducible refine iLd (by assumption) ?_); refine iLdB (by assumption) (by first | rfl | simp) ?_; (with_reducible refine iIaNN (by assumption) ?_ (fun pa_ hpa_ => ?_)); omega; (with_reducible refine iLd (by assumption) ?_))
        rw [inv_get f x hx]
        refine iBAnd (by omega) (by omega) ?_
        refine iShlOne (by omega) ?_
        refine iRetQ (fun w'' _ => ok_impl_within _ _ (by omega) (by omega) w'') ?_
        intro w1' h1'
        exact ⟨rfl, h1'⟩
      · rw [flagB_anti]
        exact ⟨rfl, hX.trans h⟩
theorem ok_impl_frameOf' {v : Value} {w : World} {l : List Int} (hs : SlI w v l) : Ret Tryz.prog f_impl_frameOf #[v] w (.agg #[.int .i64 (l.length : Int), v]) := by
  apply c_impl_frameOf; unfold S_impl_frameOf
  have hX := Ext.refl w
  refine iNew fun b w1 hb h hB => ?_
  have hlb : w.heap.size ≤ b := by have := hX.size; omega
  have hX := hX.trans h
  have hs := hs.ext h
  refine iRet (ok_impl_size_i64 hs) fun w2 h => ?_
  rw [ints_length]
  have hX := hX.trans h
  have hB := hB.ext h
  obtain ⟨va, vc, rfl, _⟩ := id hs
  refine iBuild (cs := #[.int .i64 (l.length : Int), .slice va (ints l).length vc]) (by simp [Instr.fill, Value.cells]) ?_
  refine iStAB hB rfl rfl (by
    intro x hx
    simp at hx
    rcases hx with rfl | rfl <;> rfl) fun w3 hu hB => ?_
  have hX := hX.upd hu hlb
  ((with_reducible refine iLdA (by assumption) ?_ ?_); rfl)
  exact ⟨rfl, hX⟩
theorem ok_impl_Poset_frame {v : Value} {w : World} {l : List Int} (hs : SlI w v l) (n : Int) : Ret Tryz.prog f_impl_Poset_frame #[.agg #[.int .i64 n, v]] w (.agg #[.int .i64 (l.length : Int), v]) := by
  apply c_impl_Poset_frame; unfold S_impl_Poset_frame
  have hX := Ext.refl w
  refine iNew fun b1 w1 hb1 h hB1 => ?_
  have hX := hX.trans h
  have hs := hs.ext h
  refine iNew fun b2 w2 hb2 h hB2 => ?_
  have hlb2 : w.heap.size ≤ b2 := by have := hX.size; omega
  have hX := hX.trans h
  have hs := hs.ext h
  have hB1 := hB1.ext h
  ((with_reducible refine iFa ?_); refine iLdB (by assumption) (by first | rfl | simp) ?_)
  refine iRet (ok_impl_frameOf' hs) fun w3 h => ?_
  have hX := hX.trans h
  have hB2 := hB2.ext h
  obtain ⟨va, vc, rfl, _⟩ := id hs
  refine iStAB hB2 rfl rfl (by
    intro x hx
    simp at hx
    rcases hx with rfl | rfl <;> rfl) fun w4 hu hB2 => ?_
  have hX := hX.upd hu hlb2
  ((with_reducible refine iLdA (by assumption) ?_ ?_); rfl)
  exact ⟨rfl, hX⟩
/-- A poset, as it comes in. -/
def posetOk (n : Int) (l : List Int) : Bool := frameOk n l && poB (frOf n l)
theorem ok_impl_isPoset {v : Value} {w : World} {l : List Int} (hs : SlI w v l) (n : Int) : Ret Tryz.prog f_impl_isPoset #[.agg #[.int .i64 n, v]] w (.bool (posetOk n l)) := by
  apply c_impl_isPoset; unfold S_impl_isPoset
  have hX := Ext.refl w
  refine iNew fun b w1 hb h hB => ?_
  have hX := hX.trans h
  have hs := hs.ext h
  refine iJnB (!frameOk n l) w1 (fun J hJ => ?_) (fun w3 h => ?_)
  · ((with_reducible refine iFa ?_); refine iLdB (by assumption) (by first | rfl | simp) ?_)
    refine iRetQ (fun w' _ => ok_impl_inRange _ _ _ w') ?_
    ((with_reducible refine iNot ?_))
    refine iCnd (fun h3 => ?_) (fun h3 => ?_)
    · intro w4 h4
      have := hJ w4 h4
      unfold frameOk at this
      rw [Bool.not_eq_true'] at h3
      rwa [h3, Bool.false_and, Bool.false_and] at this
    · rw [Bool.not_eq_false'] at h3
      have h3' := of_decide_eq_true h3
      ((with_reducible refine iFa ?_); refine iLdB (by assumption) (by first | rfl | simp) ?_)
      refine iRetQ (fun w' h' => ok_impl_size_i64 (hs.ext h')) ?_
      rw [ints_length]
      ((with_reducible refine iFa ?_); refine iLdB (by assumption) (by first | rfl | simp) ?_; (with_reducible refine iNe ?_))
      refine iCndP (fun h4 => ?_) (fun h4 => ?_)
      · intro w4 h5
        have := hJ w4 h5
        unfold frameOk at this
        rwa [decide_eq_false h4, Bool.and_false, Bool.false_and] at this
      · have h4 : (l.length : Int) = n := Decidable.not_not.1 h4
        ((with_reducible refine iFa ?_); refine iLdB (by assumption) (by first | rfl | simp) ?_)
        refine iRetQ (fun w' h' => ok_impl_isRelation (hs.ext h')) ?_
        ((with_reducible refine iNot ?_))
        intro w4 h5
        have := hJ w4 h5
        unfold frameOk at this
        rw [h3, decide_eq_true h4, Bool.true_and, Bool.true_and] at this
        have e : n.toNat = l.length := by omega
        rw [e] at this
        simp only [show l.length ≤ 30 by omega, decide_true, Bool.true_and]
        exact this
  have hX := hX.trans h
  have hs := hs.ext h
  have hB := hB.ext h
  (intro _; (try simp only [gx]))
  unfold posetOk
  cases hfr : frameOk n l
  · refine iCndT rfl ?_
    exact ⟨rfl, hX⟩
  · refine iCndF rfl ?_
    obtain ⟨hf, hn, hl⟩ := frameOk_fr hfr
    generalize frOf n l = f at *
    subst hn; subst hl
    have hs0 := hs
    have hX0 := hX
    have hX := Ext.refl w3
    ((with_reducible refine iLdA (by assumption) ?_ ?_); rfl)
    refine iRet (ok_impl_Poset_frame hs _) fun w7 h => ?_
    have hlen : (nats f.a).length = f.n := by rw [nats_length, hf.2.1]
    rw [hlen]
    have hX := hX.trans h
    refine iNew fun b3 w8 hb3 h hC => ?_
    have hlb3 : w3.heap.size ≤ b3 := by have := hX.size; omega
    have hX := hX.trans h
    obtain ⟨va, vc, rfl, _⟩ := id hs
    refine iStAB hC rfl rfl (by
      intro x hx
      simp at hx
      rcases hx with rfl | rfl <;> rfl) fun w9 hu hC => ?_
    have hX := hX.upd hu hlb3
    refine iJnB (poB f) w9 (fun J hJ => ?_) (fun w11 h => ?_)
    · ((with_reducible refine iLdA (by assumption) ?_ ?_); rfl)
      refine iRet (ok_impl_Frame_hasFlag hf (hs0.ext hX) 0 (.inl rfl)) fun w12 h => ?_
      have hX := hX.trans h
      have hC := hC.ext h
      have hh := h
      cases h1 : flagB 0 f
      · refine iCndF rfl ?_
        have := hJ w12 hh
        unfold poB at this
        rwa [h1] at this
      · refine iCndT rfl ?_
        ((with_reducible refine iLdA (by assumption) ?_ ?_); rfl)
        refine iRet (ok_impl_Frame_hasFlag hf (hs0.ext hX) 2 (.inr (.inl rfl))) fun w13 h => ?_
        have hX := hX.trans h
        have hC := hC.ext h
        have hh := hh.trans h
        cases h2 : flagB 2 f
        · refine iCndF rfl ?_
          have := hJ w13 hh
          unfold poB at this
          rwa [h1, h2] at this
        · refine iCndT rfl ?_
          ((with_reducible refine iLdA (by assumption) ?_ ?_); rfl)
          refine iRet (ok_impl_Frame_hasFlag hf (hs0.ext hX) 8 (.inr (.inr rfl))) fun w14 h => ?_
          have := hJ w14 (hh.trans h)
          unfold poB at this
          rwa [h1, h2, Bool.true_and, Bool.true_and] at this
    · (intro _; (try simp only [gx]))
      exact ⟨rfl, hX0.trans (hX.trans h)⟩
theorem ok_spec_l16Is {v : Value} {w : World} {l : List Int} (hs : SlI w v l) (n : Int) : Ret Tryz.prog f_spec_l16Is #[.agg #[.int .i64 n, v]] w (.bool (posetOk n l)) := by
  apply c_spec_l16Is; unfold S_spec_l16Is
  have hX := Ext.refl w
  refine iNew fun b w1 hb h hB => ?_
  have hX := hX.trans h
  have hs := hs.ext h
  refine iJnB (!frameOk n l) w1 (fun J hJ => ?_) (fun w3 h => ?_)
  · ((with_reducible refine iFa ?_); refine iLdB (by assumption) (by first | rfl | simp) ?_)
    refine iRet (ok_spec_l01In _ _ _ w1) fun w4 h4 => ?_
    have hB := hB.ext h4
    have hs := hs.ext h4
    ((with_reducible refine iNot ?_))
    refine iCnd (fun h3 => ?_) (fun h3 => ?_)
    · have := hJ w4 h4
      unfold frameOk at this
      rw [Bool.not_eq_true'] at h3
      rwa [h3, Bool.false_and, Bool.false_and] at this
    · rw [Bool.not_eq_false'] at h3
      have h3' := of_decide_eq_true h3
      ((with_reducible refine iFa ?_); refine iLdB (by assumption) (by first | rfl | simp) ?_; (with_reducible refine iLenI (by assumption) ?_; refine iFa ?_); refine iLdB (by assumption) (by first | rfl | simp) ?_; (with_reducible refine iNe ?_))
      refine iCndP (fun h5 => ?_) (fun h5 => ?_)
      · have := hJ w4 h4
        unfold frameOk at this
        rwa [decide_eq_false h5, Bool.and_false, Bool.false_and] at this
      · have h5 : (l.length : Int) = n := Decidable.not_not.1 h5
        ((with_reducible refine iFa ?_); refine iLdB (by assumption) (by first | rfl | simp) ?_; (with_reducible refine iFa ?_); refine iLdB (by assumption) (by first | rfl | simp) ?_)
        obtain ⟨m, rfl⟩ := Int.eq_ofNat_of_zero_le h3'.1
        refine iRet (ok_spec_l01Masks hs m (by omega)) fun w5 h6 => ?_
        ((with_reducible refine iNot ?_))
        have := hJ w5 (h4.trans h6)
        unfold frameOk at this
        rwa [h3, decide_eq_true h5, Int.toNat_natCast, Bool.true_and, Bool.true_and] at this
  have hX := hX.trans h
  have hs := hs.ext h
  have hB := hB.ext h
  (intro _; (try simp only [gx]))
  unfold posetOk
  cases hfr : frameOk n l
  · refine iCndT rfl ?_
    exact ⟨rfl, hX⟩
  · refine iCndF rfl ?_
    obtain ⟨hf, hn, hl⟩ := frameOk_fr hfr
    generalize frOf n l = f at *
    subst hn; subst hl
    have hs0 := hs
    have hX0 := hX
    have hX := Ext.refl w3
    obtain ⟨va, vc, rfl, _⟩ := id hs
    ((with_reducible refine iFa ?_); refine iLdB (by assumption) (by first | rfl | simp) ?_; (with_reducible refine iFa ?_); refine iLdB (by assumption) (by first | rfl | simp) ?_)
    refine iBuild (cs := #[.int .i64 (f.n : Int), .slice va (ints (nats f.a)).length vc]) (by simp [Instr.fill, Value.cells]) ?_
    refine iNew fun b3 w8 hb3 h hC => ?_
    have hlb3 : w3.heap.size ≤ b3 := by have := hX.size; omega
    have hX := hX.trans h
    refine iStAB hC rfl rfl (by
      intro x hx
      simp at hx
      rcases hx with rfl | rfl <;> rfl) fun w9 hu hC => ?_
    have hX := hX.upd hu hlb3
    refine iJnB (poB f) w9 (fun J hJ => ?_) (fun w11 h => ?_)
    · ((with_reducible refine iLdA (by assumption) ?_ ?_); rfl)
      refine iRet (ok_spec_l05Flag hf (hs0.ext hX) 0 (.inl rfl)) fun w12 h => ?_
      have hX := hX.trans h
      have hC := hC.ext h
      have hh := h
      cases h1 : flagB 0 f
      · refine iCndF rfl ?_
        have := hJ w12 hh
        unfold poB at this
        rwa [h1] at this
      · refine iCndT rfl ?_
        ((with_reducible refine iLdA (by assumption) ?_ ?_); rfl)
        refine iRet (ok_spec_l05Flag hf (hs0.ext hX) 2 (.inr (.inl rfl))) fun w13 h => ?_
        have hX := hX.trans h
        have hC := hC.ext h
        have hh := hh.trans h
        cases h2 : flagB 2 f
        · refine iCndF rfl ?_
          have := hJ w13 hh
          unfold poB at this
          rwa [h1, h2] at this
        · refine iCndT rfl ?_
          ((with_reducible refine iLdA (by assumption) ?_ ?_); rfl)
          refine iRet (ok_spec_l05Flag hf (hs0.ext hX) 8 (.inr (.inr rfl))) fun w14 h => ?_
          have := hJ w14 (hh.trans h)
          unfold poB at this
          rwa [h1, h2, Bool.true_and, Bool.true_and] at this
    · (intro _; (try simp only [gx]))
      exact ⟨rfl, hX0.trans (hX.trans h)⟩
end Go.Proofs.YtikfhibcdhdglaaGreat

/- Plain facts on the reference's search for p-morphisms, which goes by depth and leaves elements open. No program in sight. Conditions: none. -/
namespace Go.Vc
/-- The images of a set, as far as they are known. -/
def imgP (im : List Int) (mask : Nat) : Nat := setOf (((mem mask).filter fun x => decide (0 ≤ im.getD x (-1))).map fun x => (im.getD x (-1)).toNat)
theorem imgP_bit {im : List Int} {mask j : Nat} (hm : mask < 2 ^ 63) : (imgP im mask).testBit j = true ↔ ∃ x, mask.testBit x = true ∧ im.getD x (-1) = (j : Int) := by
  unfold imgP
  rw [setOf_testBit, List.contains_iff_mem, List.mem_map]
  constructor
  · rintro ⟨x, hx, rfl⟩
    obtain ⟨h1, h2⟩ := List.mem_filter.1 hx
    refine ⟨x, (mem_mem hm).1 h1, ?_⟩
    have := of_decide_eq_true h2
    omega
  · rintro ⟨x, h1, h2⟩
    refine ⟨x, List.mem_filter.2 ⟨(mem_mem hm).2 h1, decide_eq_true (by omega)⟩, by rw [h2]; simp⟩
/-- Known images stay possible. -/
def openB (f g : Fr) (fix : List Int) (onto : Bool) (im : List Int) : Bool :=
  ((List.range f.n).all fun x => decide (0 ≤ im.getD x (-1)) || (List.range g.n).any fun y => decide (sdiff (imgP im (f.a.getD x 0)) (g.a.getD y 0) = 0) && (decide (fix.getD x 0 < 0) || decide (fix.getD x 0 = (y : Int)))) &&
  (!onto || decide (g.n ≤ popc (imgP im (2 ^ f.n - 1)) + ((List.range f.n).filter fun x => decide (im.getD x (-1) < 0)).length))
/-- The images once the first elements of an order have theirs. -/
def partL (n : Nat) (ord ys : List Nat) : List Int := (List.range n).map fun x => if ord.idxOf x < ys.length then ((ys.getD (ord.idxOf x) 0 : Nat) : Int) else -1
theorem part_get {n : Nat} {ord ys : List Nat} {x : Nat} (hx : x < n) : (partL n ord ys).getD x (-1) = if ord.idxOf x < ys.length then ((ys.getD (ord.idxOf x) 0 : Nat) : Int) else -1 := by
  simp [partL, hx]
def stepB (f g : Fr) (fix : List Int) (ord ys : List Nat) : Bool :=
  (decide (fix.getD (ord.getD (ys.length - 1) 0) 0 < 0) || decide (fix.getD (ord.getD (ys.length - 1) 0) 0 = ((ys.getD (ys.length - 1) 0 : Nat) : Int))) &&
  decide (imgP (partL f.n ord ys) (f.a.getD (ord.getD (ys.length - 1) 0) 0) = g.a.getD (ys.getD (ys.length - 1) 0) 0)
def okP (f g : Fr) (fix : List Int) (onto : Bool) (ord ys : List Nat) : Bool := stepB f g fix ord ys && openB f g fix onto (partL f.n ord ys)
/-- What the search finds, by the order. -/
def srch (f g : Fr) (fix : List Int) (onto : Bool) (ord : List Nat) (d : Nat) (ys : List Nat) : List (List Nat) :=
  if openB f g fix onto (partL f.n ord ys) then dfs (okP f g fix onto ord) g.n d ys else []
theorem srch_succ (f g : Fr) (fix : List Int) (onto : Bool) (ord : List Nat) (d : Nat) (ys : List Nat) (h : openB f g fix onto (partL f.n ord ys) = true) :
    srch f g fix onto ord (d + 1) ys = (List.range g.n).flatMap fun y => if stepB f g fix ord (ys ++ [y]) then srch f g fix onto ord d (ys ++ [y]) else [] := by
  unfold srch
  rw [if_pos h, dfs_succ]
  congr 1
  funext y
  unfold okP
  cases stepB f g fix ord (ys ++ [y]) <;> simp
/-- An order in which all that is above comes first. -/
structure OrdOk (f : Fr) (ord : List Nat) : Prop where
  len : ord.length = f.n
  lt : ∀ x ∈ ord, x < f.n
  all : ∀ x, x < f.n → x ∈ ord
  nodup : ord.Nodup
  top : ∀ x y, (f.a.getD x 0).testBit y = true → y ≠ x → ord.idxOf y < ord.idxOf x
theorem OrdOk.idx {f : Fr} {ord : List Nat} (h : OrdOk f ord) {x : Nat} (hx : x < f.n) : ord.idxOf x < f.n := by
  rw [← h.len]; exact List.idxOf_lt_length_of_mem (h.all x hx)
theorem OrdOk.at_idx {f : Fr} {ord : List Nat} (h : OrdOk f ord) {x : Nat} (hx : x < f.n) : ord.getD (ord.idxOf x) 0 = x := by
  have h1 : ord.idxOf x < ord.length := by rw [h.len]; exact h.idx hx
  simp [List.getD_eq_getElem?_getD, h1]
theorem OrdOk.idx_at {f : Fr} {ord : List Nat} (h : OrdOk f ord) {k : Nat} (hk : k < f.n) : ord.idxOf (ord.getD k 0) = k := by
  have h1 : k < ord.length := by rw [h.len]; exact hk
  have e : ord.getD k 0 = ord[k] := by simp [List.getD_eq_getElem?_getD, h1]
  rw [e]
  exact h.nodup.idxOf_getElem k h1
/-- What is asked of a map. -/
def fullP (f g : Fr) (fix : List Int) (onto : Bool) (F : List Nat) : Prop :=
  F.length = f.n ∧ (∀ y ∈ F, y < g.n) ∧ fullB f g onto false F ∧ ∀ x, x < f.n → fix.getD x 0 < 0 ∨ fix.getD x 0 = ((F.getD x 0 : Nat) : Int)
/-- The map by the order. -/
def byOrd (ord F : List Nat) : List Nat := ord.map fun x => F.getD x 0
/-- .. and back. -/
def unOrd (n : Nat) (ord ys : List Nat) : List Nat := (List.range n).map fun x => ys.getD (ord.idxOf x) 0
section
variable {f g : Fr} {fix : List Int} {onto : Bool} {ord : List Nat}
theorem unOrd_byOrd (ho : OrdOk f ord) {F : List Nat} (hF : F.length = f.n) : unOrd f.n ord (byOrd ord F) = F := by
  apply List.ext_getElem
  · simp [unOrd, hF]
  · intro x h1 h2
    have hx : x < f.n := by simpa [unOrd] using h1
    have h3 : ord.idxOf x < ord.length := by rw [ho.len]; exact ho.idx hx
    simp only [unOrd, byOrd, List.getElem_map, List.getElem_range]
    simp [List.getD_eq_getElem?_getD, h3, h2]
theorem byOrd_unOrd (ho : OrdOk f ord) {ys : List Nat} (hy : ys.length = f.n) : byOrd ord (unOrd f.n ord ys) = ys := by
  apply List.ext_getElem
  · simp [byOrd, ho.len, hy]
  · intro k h1 h2
    have hk : k < f.n := by omega
    have h3 : k < ord.length := by rw [ho.len]; exact hk
    have hx : ord[k] < f.n := ho.lt _ (List.getElem_mem h3)
    have e := ho.idx_at hk
    have e2 : ord.getD k 0 = ord[k] := by simp [List.getD_eq_getElem?_getD, h3]
    rw [e2] at e
    simp only [byOrd, unOrd, List.getElem_map]
    simp [List.getD_eq_getElem?_getD, hx, e, h2]
theorem byOrd_get (ho : OrdOk f ord) {F : List Nat} {x : Nat} (hx : x < f.n) : (byOrd ord F).getD (ord.idxOf x) 0 = F.getD x 0 := by
  have h3 : ord.idxOf x < ord.length := by rw [ho.len]; exact ho.idx hx
  simp [byOrd, List.getD_eq_getElem?_getD, h3]
theorem byOrd_at (ho : OrdOk f ord) {F : List Nat} {k : Nat} (hk : k < f.n) : (byOrd ord F).getD k 0 = F.getD (ord.getD k 0) 0 := by
  have h3 : k < ord.length := by rw [ho.len]; exact hk
  simp [byOrd, List.getD_eq_getElem?_getD, h3]
/-- The known part of a map. -/
theorem part_take (ho : OrdOk f ord) {F : List Nat} {k x : Nat} (hk : k ≤ f.n) (hx : x < f.n) : (partL f.n ord ((byOrd ord F).take k)).getD x (-1) = if ord.idxOf x < k then ((F.getD x 0 : Nat) : Int) else -1 := by
  have hl : ((byOrd ord F).take k).length = k := by rw [List.length_take, byOrd, List.length_map, ho.len]; omega
  rw [part_get hx, hl]
  split
  · rename_i h
    rw [getD_take h, byOrd_get ho hx]
  · rfl
theorem imgP_part (hf : f.ok) (ho : OrdOk f ord) {F : List Nat} (hF : F.length = f.n) {k : Nat} (hk : k ≤ f.n) {mask : Nat} (hm : mask < 2 ^ f.n) (j : Nat) :
    (imgP (partL f.n ord ((byOrd ord F).take k)) mask).testBit j = true ↔ ∃ x, x < f.n ∧ mask.testBit x = true ∧ ord.idxOf x < k ∧ F.getD x 0 = j := by
  have hm63 : mask < 2 ^ 63 := Nat.lt_of_lt_of_le hm (Nat.pow_le_pow_right (by omega) (by have := hf.1; omega))
  rw [imgP_bit hm63]
  have hlt : ∀ x, mask.testBit x = true → x < f.n := fun x hx => by
    rcases Nat.lt_or_ge x f.n with h | h
    · exact h
    · rw [Nat.testBit_lt_two_pow (Nat.lt_of_lt_of_le hm (Nat.pow_le_pow_right (by omega) h))] at hx; cases hx
  constructor
  · rintro ⟨x, h1, h2⟩
    have hx := hlt x h1
    rw [part_take ho hk hx] at h2
    split at h2
    · rename_i h3
      exact ⟨x, hx, h1, h3, by omega⟩
    · omega
  · rintro ⟨x, hx, h1, h3, h4⟩
    exact ⟨x, h1, by rw [part_take ho hk hx, if_pos h3, h4]⟩
/-- Whatever is above an element that has its image has its image too. -/
theorem imgP_above (hf : f.ok) (ho : OrdOk f ord) {F : List Nat} (hF : F.length = f.n) {k x : Nat} (hk : k ≤ f.n) (hx : x < f.n) (hxk : ord.idxOf x < k) : imgP (partL f.n ord ((byOrd ord F).take k)) (f.a.getD x 0) = img F (f.a.getD x 0) := by
  apply Nat.eq_of_testBit_eq
  intro j
  rw [Bool.eq_iff_iff, imgP_part hf ho hF hk (hf.lt hx), img_testBit]
  constructor
  · rintro ⟨y, h1, h2, _, h4⟩
    exact ⟨y, by omega, h2, h4⟩
  · rintro ⟨y, h1, h2, h4⟩
    refine ⟨y, by omega, h2, ?_, h4⟩
    by_cases hyx : y = x
    · rw [hyx]; exact hxk
    · exact Nat.lt_trans (ho.top x y h2 hyx) hxk
theorem left_part (ho : OrdOk f ord) {F : List Nat} {k : Nat} (hk : k ≤ f.n) : ((List.range f.n).filter fun x => decide ((partL f.n ord ((byOrd ord F).take k)).getD x (-1) < 0)) = (List.range f.n).filter fun x => decide (k ≤ ord.idxOf x) := by
  refine List.filter_congr fun x hx => ?_
  have hx := List.mem_range.1 hx
  rw [part_take ho hk hx, decide_eq_decide]
  split <;> omega
/-- A map's known part stays possible. -/
theorem full_open (hf : f.ok) (hg : g.ok) (ho : OrdOk f ord) {F : List Nat} (h : fullP f g fix onto F) {k : Nat} (hk : k ≤ f.n) : openB f g fix onto (partL f.n ord ((byOrd ord F).take k)) = true := by
  obtain ⟨hF, hlt, ⟨h1, h2, _⟩, h4⟩ := h
  unfold openB
  rw [Bool.and_eq_true, List.all_eq_true]
  refine ⟨fun x hx => ?_, ?_⟩
  · have hx := List.mem_range.1 hx
    rw [Bool.or_eq_true]
    right
    rw [List.any_eq_true]
    have hy := getD_lt hlt (show x < F.length by omega)
    refine ⟨F.getD x 0, List.mem_range.2 hy, ?_⟩
    rw [Bool.and_eq_true, Bool.or_eq_true, decide_eq_true_eq, decide_eq_true_eq, decide_eq_true_eq]
    refine ⟨?_, h4 x hx⟩
    rw [sdiff_eq_zero, ← h1 x hx]
    intro j hj
    obtain ⟨z, hz, hb, _, e⟩ := (imgP_part hf ho hF hk (hf.lt hx) j).1 hj
    exact (img_testBit _ _ _).2 ⟨z, by omega, hb, e⟩
  · cases onto
    · rfl
    · rw [Bool.not_true, Bool.false_or, decide_eq_true_eq, left_part ho hk, ← h2 rfl]
      -- all images: known ones and those of what is left
      have hsub : ∀ j, (setOf F).testBit j = true → (imgP (partL f.n ord ((byOrd ord F).take k)) (2 ^ f.n - 1) ||| setOf (((List.range f.n).filter fun x => decide (k ≤ ord.idxOf x)).map fun x => F.getD x 0)).testBit j = true := by
        intro j hj
        rw [setOf_testBit, List.contains_iff_mem] at hj
        obtain ⟨x, hx, rfl⟩ := List.getElem_of_mem hj
        have hx' : x < f.n := by omega
        have e : F.getD x 0 = F[x] := by simp [List.getD_eq_getElem?_getD, hx]
        rw [Nat.testBit_or, Bool.or_eq_true]
        by_cases hk2 : ord.idxOf x < k
        · left
          rw [imgP_part hf ho hF hk (by have := Nat.two_pow_pos f.n; omega)]
          exact ⟨x, hx', by rw [full_testBit]; simpa using hx', hk2, e⟩
        · right
          rw [setOf_testBit, List.contains_iff_mem, List.mem_map]
          exact ⟨x, List.mem_filter.2 ⟨List.mem_range.2 hx', decide_eq_true (by omega)⟩, e⟩
      refine Nat.le_trans (popc_mono hsub) ?_
      have key : ∀ (r : List Nat) (a : Nat), (∀ y ∈ r, y < 63) → popc (a ||| setOf r) ≤ popc a + r.length := by
        intro r
        have h0 : ∀ (r : List Nat) (a : Nat), (∀ y ∈ r, y < 63) → popc (r.foldl (fun a y => a ||| 2 ^ y) a) ≤ popc a + r.length := by
          intro r
          induction r with
          | nil => intro a _; simp
          | cons x r ih =>
            intro a h
            rw [List.foldl_cons]
            have h1 := ih (a ||| 2 ^ x) (fun y hy => h y (by simp [hy]))
            have h2 := popc_or_one a x (h x (by simp))
            rw [List.length_cons]
            split at h2 <;> omega
        intro a hr
        have e : a ||| setOf r = r.foldl (fun a y => a ||| 2 ^ y) a := by
          apply Nat.eq_of_testBit_eq
          intro j
          rw [Nat.testBit_or, setOf_testBit, foldl_or_testBit]
        rw [e]; exact h0 r a hr
      have := key (((List.range f.n).filter fun x => decide (k ≤ ord.idxOf x)).map fun x => F.getD x 0) (imgP (partL f.n ord ((byOrd ord F).take k)) (2 ^ f.n - 1)) (fun y hy => by
        obtain ⟨x, hx, rfl⟩ := List.mem_map.1 hy
        have hx := List.mem_range.1 (List.mem_filter.1 hx).1
        have := getD_lt hlt (show x < F.length by omega)
        have := hg.1
        omega)
      rwa [List.length_map] at this
theorem full_step (hf : f.ok) (ho : OrdOk f ord) {F : List Nat} (h : fullP f g fix onto F) {k : Nat} (hk : k < f.n) : stepB f g fix ord ((byOrd ord F).take (k + 1)) = true := by
  obtain ⟨hF, hlt, ⟨h1, _, _⟩, h4⟩ := h
  have hl : ((byOrd ord F).take (k + 1)).length = k + 1 := by rw [List.length_take, byOrd, List.length_map, ho.len]; omega
  have hx : ord.getD k 0 < f.n := by
    have h3 : k < ord.length := by rw [ho.len]; exact hk
    have e : ord.getD k 0 = ord[k] := by simp [List.getD_eq_getElem?_getD, h3]
    rw [e]; exact ho.lt _ (List.getElem_mem h3)
  unfold stepB
  rw [hl, Nat.add_sub_cancel, getD_take (by omega), byOrd_at ho hk, Bool.and_eq_true, Bool.or_eq_true, decide_eq_true_eq, decide_eq_true_eq, decide_eq_true_eq]
  refine ⟨h4 _ hx, ?_⟩
  rw [imgP_above hf ho hF (by omega) hx (by rw [ho.idx_at hk]; omega), h1 _ hx]
/-- The search finds just the maps. -/
theorem mem_srch (hf : f.ok) (hg : g.ok) (ho : OrdOk f ord) (ys : List Nat) : ys ∈ srch f g fix onto ord f.n [] ↔ ys.length = f.n ∧ fullP f g fix onto (unOrd f.n ord ys) := by
  unfold srch
  constructor
  · intro h
    split at h
    · rename_i hop
      rw [dfs_eq, List.mem_filter] at h
      obtain ⟨hex, hall⟩ := h
      obtain ⟨hl, _, hlt⟩ := exts_spec _ _ _ _ hex
      simp only [List.length_nil, Nat.zero_add, List.drop_zero] at hl hlt
      simp only [List.all_eq_true, List.mem_range, List.length_nil, Nat.zero_add] at hall
      refine ⟨hl, ?_⟩
      have hF : (unOrd f.n ord ys).length = f.n := by simp [unOrd]
      have hys : ys = byOrd ord (unOrd f.n ord ys) := (byOrd_unOrd ho hl).symm
      have hFlt : ∀ y ∈ unOrd f.n ord ys, y < g.n := by
        intro y hy
        obtain ⟨x, hx, rfl⟩ := List.mem_map.1 hy
        exact getD_lt hlt (by rw [hl]; exact ho.idx (List.mem_range.1 hx))
      have hstep : ∀ x, x < f.n → stepB f g fix ord (ys.take (ord.idxOf x + 1)) = true := fun x hx => by
        have := hall (ord.idxOf x) (ho.idx hx)
        unfold okP at this
        rw [Bool.and_eq_true] at this
        exact this.1
      have hget : ∀ x, x < f.n → (unOrd f.n ord ys).getD x 0 = ys.getD (ord.idxOf x) 0 := fun x hx => by simp [unOrd, hx]
      have hone : ∀ x, x < f.n → (fix.getD x 0 < 0 ∨ fix.getD x 0 = (((unOrd f.n ord ys).getD x 0 : Nat) : Int)) ∧ img (unOrd f.n ord ys) (f.a.getD x 0) = g.a.getD ((unOrd f.n ord ys).getD x 0) 0 := fun x hx => by
        have h1 := hstep x hx
        have hlt2 := ho.idx hx
        have hl2 : (ys.take (ord.idxOf x + 1)).length = ord.idxOf x + 1 := by rw [List.length_take]; omega
        unfold stepB at h1
        rw [hl2, Nat.add_sub_cancel, getD_take (by omega), ho.at_idx hx, Bool.and_eq_true, Bool.or_eq_true, decide_eq_true_eq, decide_eq_true_eq, decide_eq_true_eq] at h1
        rw [hget x hx]
        refine ⟨h1.1, ?_⟩
        rw [← h1.2, ← imgP_above hf ho hF (k := ord.idxOf x + 1) (by omega) hx (by omega), ← hys]
      refine ⟨hF, hFlt, ⟨fun x hx => (hone x hx).2, fun honto => ?_, fun h => by cases h⟩, fun x hx => (hone x hx).1⟩
      have hlast : openB f g fix onto (partL f.n ord (ys.take f.n)) = true := by
        by_cases hn : f.n = 0
        · rw [hn, List.take_zero]; rw [hn] at hop; exact hop
        · have := hall (f.n - 1) (by omega)
          rw [show f.n - 1 + 1 = f.n by omega] at this
          unfold okP at this
          rw [Bool.and_eq_true] at this
          exact this.2
      unfold openB at hlast
      rw [Bool.and_eq_true, honto, Bool.not_true, Bool.false_or, decide_eq_true_eq] at hlast
      have hleft := left_part (F := unOrd f.n ord ys) ho (Nat.le_refl f.n)
      rw [← hys] at hleft
      rw [hleft] at hlast
      have hnone : ((List.range f.n).filter fun x => decide (f.n ≤ ord.idxOf x)) = [] := by
        rw [List.filter_eq_nil_iff]
        intro x hx
        have := ho.idx (List.mem_range.1 hx)
        simp; omega
      rw [hnone, List.length_nil, Nat.add_zero] at hlast
      have hsame : imgP (partL f.n ord (ys.take f.n)) (2 ^ f.n - 1) = setOf (unOrd f.n ord ys) := by
        apply Nat.eq_of_testBit_eq
        intro j
        have hb := imgP_part hf ho hF (Nat.le_refl f.n) (mask := 2 ^ f.n - 1) (by have := Nat.two_pow_pos f.n; omega) j
        rw [← hys] at hb
        rw [Bool.eq_iff_iff, hb, setOf_testBit, List.contains_iff_mem]
        constructor
        · rintro ⟨x, hx, _, _, rfl⟩
          exact getD_mem (by omega)
        · intro hj
          obtain ⟨x, hx, e⟩ := List.getElem_of_mem hj
          have hx' : x < f.n := by omega
          exact ⟨x, hx', by rw [full_testBit]; simpa using hx', ho.idx hx', by rw [← e]; simp [List.getD_eq_getElem?_getD, hx]⟩
      rw [hsame] at hlast
      have := popc_full (m := g.n) (by have := hg.1; omega) (setOf_lt hFlt)
      omega
    · cases h
  · rintro ⟨hl, h⟩
    have hys : ys = byOrd ord (unOrd f.n ord ys) := (byOrd_unOrd ho hl).symm
    have hop0 := full_open hf hg ho h (Nat.zero_le f.n)
    rw [List.take_zero] at hop0
    rw [if_pos hop0, dfs_eq, List.mem_filter]
    refine ⟨?_, ?_⟩
    · have key : ∀ (d : Nat) (im l : List Nat), l.length = d → (∀ y ∈ l, y < g.n) → im ++ l ∈ exts g.n d im := by
        intro d
        induction d with
        | zero => intro im l h0 _; simp [exts, List.length_eq_zero_iff.1 h0]
        | succ d ih =>
          intro im l h0 hlt
          obtain ⟨y, r, rfl⟩ : ∃ y r, l = y :: r := by
            cases l with
            | nil => simp at h0
            | cons y r => exact ⟨y, r, rfl⟩
          simp only [exts, List.mem_flatMap, List.mem_range]
          refine ⟨y, hlt y (by simp), ?_⟩
          have := ih (im ++ [y]) r (by simpa using h0) (fun z hz => hlt z (by simp [hz]))
          simpa using this
      have := key f.n [] ys hl (fun y hy => by
        obtain ⟨k, hk, rfl⟩ := List.getElem_of_mem hy
        have hk' : k < f.n := by omega
        have h3 : k < ord.length := by rw [ho.len]; exact hk'
        have hx : ord[k] < f.n := ho.lt _ (List.getElem_mem h3)
        have e1 := byOrd_at (F := unOrd f.n ord ys) ho hk'
        rw [← hys] at e1
        have e2 : ys.getD k 0 = ys[k] := by simp [List.getD_eq_getElem?_getD, hk]
        have e3 : ord.getD k 0 = ord[k] := by simp [List.getD_eq_getElem?_getD, h3]
        rw [← e2, e1, e3]
        exact getD_lt h.2.1 (by rw [h.1]; exact hx))
      simpa using this
    · simp only [List.all_eq_true, List.mem_range, List.length_nil, Nat.zero_add]
      intro j hj
      unfold okP
      rw [Bool.and_eq_true]
      have h1 := full_step hf ho h hj
      have h2 := full_open hf hg ho h (k := j + 1) (by omega)
      rw [← hys] at h1 h2
      exact ⟨h1, h2⟩
end
end Go.Vc

/- Plain facts on posets: depths, and the order by depth. No program in sight. Conditions: none. -/
namespace Go.Vc
structure Po (f : Fr) : Prop where
  ok : f.ok
  refl : ∀ x, x < f.n → (f.a.getD x 0).testBit x = true
  trans : ∀ x y z, (f.a.getD x 0).testBit y = true → (f.a.getD y 0).testBit z = true → (f.a.getD x 0).testBit z = true
  anti : ∀ x y, (f.a.getD x 0).testBit y = true → (f.a.getD y 0).testBit x = true → x = y
theorem po_of {f : Fr} (hf : f.ok) (h : poB f = true) : Po f := by
  unfold poB at h
  rw [Bool.and_eq_true, Bool.and_eq_true] at h
  obtain ⟨h0, h2, h8⟩ := h
  refine ⟨hf, fun x hx => ?_, (flagB_trans hf).1 h2, fun x y h1 h2 => ?_⟩
  · rw [flagB_refl, List.all_eq_true] at h0
    exact h0 x (List.mem_range.2 hx)
  · obtain ⟨hx, hy⟩ := fr_bit_lt hf h1
    have := (flagB_iff.1 h8 x hx).2 y hy
    unfold flag2 at this
    rw [h1, h2] at this
    simpa using this
/-- What can be reached is what is above. -/
theorem rows_one {f : Fr} (_hf : f.ok) {x : Nat} (hx : x < f.n) : rowsK f.a (2 ^ x) f.n = f.a.getD x 0 := by
  apply Nat.eq_of_testBit_eq
  intro j
  rw [Bool.eq_iff_iff, rowsK_bit]
  constructor
  · rintro ⟨i, _, h2, h3⟩
    rw [Nat.testBit_two_pow, decide_eq_true_eq] at h2
    rw [h2]; exact h3
  · exact fun h => ⟨x, hx, by rw [Nat.testBit_two_pow]; simp, h⟩
theorem rows_sub {f : Fr} (hp : Po f) {m : Nat} (hm : m < 2 ^ f.n) (j : Nat) (h : m.testBit j = true) : (rowsK f.a m f.n).testBit j = true := by
  have hj : j < f.n := by
    rcases Nat.lt_or_ge j f.n with h' | h'
    · exact h'
    · rw [Nat.testBit_lt_two_pow (Nat.lt_of_lt_of_le hm (Nat.pow_le_pow_right (by omega) h'))] at h; cases h
  exact (rowsK_bit _ _ _ _).2 ⟨j, hj, h, hp.refl j hj⟩
theorem rows_rows {f : Fr} (hp : Po f) (m : Nat) : sdiff (rowsK f.a (rowsK f.a m f.n) f.n) (rowsK f.a m f.n) = 0 := by
  rw [sdiff_eq_zero]
  intro j hj
  obtain ⟨i, hi, h1, h2⟩ := (rowsK_bit _ _ _ _).1 hj
  obtain ⟨k, hk, h3, h4⟩ := (rowsK_bit _ _ _ _).1 h1
  exact (rowsK_bit _ _ _ _).2 ⟨k, hk, h3, hp.trans k i j h4 h2⟩
/-- The greatest of some numbers. -/
def bestF (h : Nat → Nat) (p : Nat → Bool) (k : Nat) : Nat := (List.range k).foldl (fun b v => if p v then max b (h v) else b) 0
theorem bestF_succ (h : Nat → Nat) (p : Nat → Bool) (k : Nat) : bestF h p (k + 1) = if p k then max (bestF h p k) (h k) else bestF h p k := by
  unfold bestF; rw [List.range_succ, List.foldl_append]; rfl
theorem bestF_le {h : Nat → Nat} {p : Nat → Bool} {B : Nat} : ∀ k, (∀ v, v < k → p v = true → h v ≤ B) → bestF h p k ≤ B
  | 0, _ => Nat.zero_le _
  | k + 1, hB => by
    rw [bestF_succ]
    have ih := bestF_le k fun v hv hp => hB v (by omega) hp
    split
    · rename_i hp
      exact Nat.max_le.2 ⟨ih, hB k (by omega) hp⟩
    · exact ih
theorem le_bestF {h : Nat → Nat} {p : Nat → Bool} : ∀ {k v : Nat}, v < k → p v = true → h v ≤ bestF h p k
  | k + 1, v, hv, hp => by
    rw [bestF_succ]
    by_cases hvk : v = k
    · subst hvk; rw [if_pos hp]; exact Nat.le_max_right _ _
    · have := le_bestF (h := h) (show v < k by omega) hp
      split
      · exact Nat.le_trans this (Nat.le_max_left _ _)
      · exact this
theorem bestF_congr {h h' : Nat → Nat} {p : Nat → Bool} : ∀ k, (∀ v, v < k → p v = true → h v = h' v) → bestF h p k = bestF h' p k
  | 0, _ => rfl
  | k + 1, hh => by
    rw [bestF_succ, bestF_succ, bestF_congr k fun v hv hp => hh v (by omega) hp]
    split
    · rename_i hp; rw [hh k (by omega) hp]
    · rfl
def aboveB (f : Fr) (x v : Nat) : Bool := !decide (v = x) && (f.a.getD x 0).testBit v
def depF (f : Fr) : Nat → Nat → Nat
  | 0, _ => 0
  | k + 1, x => bestF (depF f k) (aboveB f x) f.n + 1
theorem popc_above {f : Fr} (hp : Po f) {x v : Nat} (h : aboveB f x v = true) : popc (f.a.getD v 0) < popc (f.a.getD x 0) := by
  unfold aboveB at h
  rw [Bool.and_eq_true, Bool.not_eq_true', decide_eq_false_iff_not] at h
  obtain ⟨hne, hb⟩ := h
  obtain ⟨hx, hv⟩ := fr_bit_lt hp.ok hb
  have hn : (f.a.getD v 0).testBit x = false := by
    rw [Bool.eq_false_iff]
    exact fun h => hne (hp.anti v x h hb)
  have h1 := popc_or_one (f.a.getD v 0) x (by have := hp.ok.1; omega)
  rw [hn] at h1
  simp only [Bool.false_eq_true, if_false] at h1
  have h2 := popc_mono (a := f.a.getD v 0 ||| 2 ^ x) (b := f.a.getD x 0) (fun i hi => by
    rw [Nat.testBit_or, Bool.or_eq_true] at hi
    rcases hi with hi | hi
    · exact hp.trans x v i hb hi
    · rw [Nat.testBit_two_pow, decide_eq_true_eq] at hi
      rw [← hi]; exact hp.refl x hx)
  omega
theorem popc_pos {f : Fr} (hp : Po f) {x : Nat} (hx : x < f.n) : 0 < popc (f.a.getD x 0) := by
  have h1 := popc_or_one 0 x (by have := hp.ok.1; omega)
  rw [popc_zero] at h1
  simp only [Nat.zero_testBit, Bool.false_eq_true, if_false] at h1
  have h2 := popc_mono (a := 0 ||| 2 ^ x) (b := f.a.getD x 0) (fun i hi => by
    rw [Nat.zero_or, Nat.testBit_two_pow, decide_eq_true_eq] at hi
    rw [← hi]; exact hp.refl x hx)
  omega
theorem depF_same {f : Fr} (hp : Po f) : ∀ (k k' x : Nat), x < f.n → popc (f.a.getD x 0) ≤ k → popc (f.a.getD x 0) ≤ k' → depF f k x = depF f k' x
  | 0, _, x, hx, h, _ => by have := popc_pos hp hx; omega
  | k + 1, 0, x, hx, _, h => by have := popc_pos hp hx; omega
  | k + 1, k' + 1, x, hx, h, h' => by
    simp only [depF]
    congr 1
    refine bestF_congr f.n fun v hv hb => ?_
    have := popc_above hp hb
    exact depF_same hp k k' v hv (by omega) (by omega)
/-- The depth. -/
def dep (f : Fr) (x : Nat) : Nat := depF f 9 x
theorem popc_le8 {f : Fr} (hf : f.ok) (x : Nat) : popc (f.a.getD x 0) ≤ f.n := by
  by_cases hx : x < f.n
  · exact popc_full (by have := hf.1; omega) (hf.lt hx)
  · have e : f.a.getD x 0 = 0 := by simp [List.getD_eq_getElem?_getD, List.getElem?_eq_none (show f.a.length ≤ x by rw [hf.2.1]; omega)]
    rw [e, popc_zero]; omega
theorem dep_eq {f : Fr} (hp : Po f) {k x : Nat} (hx : x < f.n) (hk : popc (f.a.getD x 0) ≤ k) : depF f k x = dep f x :=
  depF_same hp k 9 x hx hk (by have := popc_le8 hp.ok x; have := hp.ok.1; omega)
theorem dep_above {f : Fr} (hp : Po f) {x v : Nat} (_hx : x < f.n) (h : aboveB f x v = true) : dep f v < dep f x := by
  have hv : v < f.n := by
    unfold aboveB at h
    rw [Bool.and_eq_true] at h
    exact (fr_bit_lt hp.ok h.2).2
  have h1 : dep f x = bestF (depF f 8) (aboveB f x) f.n + 1 := rfl
  have h2 := le_bestF (h := depF f 8) hv h
  have h3 := popc_above hp h
  have h4 := popc_le8 hp.ok x
  have h5 := hp.ok.1
  rw [dep_eq hp hv (by omega)] at h2
  omega
theorem depF_le {f : Fr} (hp : Po f) : ∀ (k x : Nat), x < f.n → depF f k x ≤ popc (f.a.getD x 0)
  | 0, _, _ => Nat.zero_le _
  | k + 1, x, hx => by
    simp only [depF]
    have h1 := popc_pos hp hx
    have := bestF_le (h := depF f k) (p := aboveB f x) (B := popc (f.a.getD x 0) - 1) f.n fun v hv hb => by
      have h2 := popc_above hp hb
      have h3 := depF_le hp k v hv
      omega
    omega
theorem dep_pos (f : Fr) (x : Nat) : 1 ≤ dep f x := by
  show 1 ≤ bestF (depF f 8) (aboveB f x) f.n + 1
  omega
/-- The order by depth. -/
def ordK (f : Fr) (d : Nat) : List Nat := (List.range d).flatMap fun d => (List.range f.n).filter fun x => decide (dep f x = d + 1)
def ordOf (f : Fr) : List Nat := ordK f f.n
theorem popc_range {n : Nat} (hn : n ≤ 62) : popc (2 ^ n - 1) = n := by
  have e : 2 ^ n - 1 = setOf (List.range n) := by
    apply Nat.eq_of_testBit_eq
    intro i
    rw [full_testBit, setOf_testBit, Bool.eq_iff_iff, decide_eq_true_eq, List.contains_iff_mem, List.mem_range]
  rw [e, (popc_setOf_nodup n (List.range n) (by simp) (fun y hy => by have := List.mem_range.1 hy; omega)).2 List.nodup_range]
  simp
theorem ordOf_ok {f : Fr} (hp : Po f) : OrdOk f (ordOf f) := by
  have hmem : ∀ x, x ∈ ordOf f ↔ x < f.n := fun x => by
    unfold ordOf ordK
    rw [List.mem_flatMap]
    constructor
    · rintro ⟨d, _, h⟩
      exact List.mem_range.1 (List.mem_filter.1 h).1
    · intro hx
      have h1 := dep_pos f x
      have h2 := depF_le hp 9 x hx
      have h3 := popc_le8 hp.ok x
      refine ⟨dep f x - 1, List.mem_range.2 ?_, List.mem_filter.2 ⟨List.mem_range.2 hx, decide_eq_true (by omega)⟩⟩
      have : dep f x ≤ f.n := Nat.le_trans h2 h3
      omega
  have hnd : (ordOf f).Nodup := by
    unfold ordOf ordK List.Nodup
    rw [List.pairwise_flatMap]
    refine ⟨fun d _ => List.Nodup.sublist List.filter_sublist List.nodup_range, ?_⟩
    refine List.Pairwise.imp ?_ (List.pairwise_lt_range (n := f.n))
    intro d d' hlt x hx y hy
    have h1 := of_decide_eq_true (List.mem_filter.1 hx).2
    have h2 := of_decide_eq_true (List.mem_filter.1 hy).2
    rintro rfl
    omega
  have hso : (ordOf f).Pairwise fun x y => dep f x ≤ dep f y := by
    unfold ordOf ordK
    rw [List.pairwise_flatMap]
    refine ⟨fun d _ => ?_, ?_⟩
    · rw [List.pairwise_iff_getElem]
      intro i j hi hj _
      have h1 := of_decide_eq_true (List.mem_filter.1 (List.getElem_mem hi)).2
      have h2 := of_decide_eq_true (List.mem_filter.1 (List.getElem_mem hj)).2
      omega
    · refine List.Pairwise.imp ?_ (List.pairwise_lt_range (n := f.n))
      intro d d' hlt x hx y hy
      have h1 := of_decide_eq_true (List.mem_filter.1 hx).2
      have h2 := of_decide_eq_true (List.mem_filter.1 hy).2
      omega
  have hlen : (ordOf f).length = f.n := by
    have hf8 := hp.ok.1
    rw [← (popc_setOf_nodup _ (ordOf f) rfl (fun y hy => by have := (hmem y).1 hy; omega)).2 hnd]
    have e : setOf (ordOf f) = 2 ^ f.n - 1 := by
      apply Nat.eq_of_testBit_eq
      intro i
      rw [full_testBit, setOf_testBit, Bool.eq_iff_iff, decide_eq_true_eq, List.contains_iff_mem, hmem]
    rw [e, popc_range (by omega)]
  refine ⟨hlen, fun x hx => (hmem x).1 hx, fun x hx => (hmem x).2 hx, hnd, fun x y hb hne => ?_⟩
  obtain ⟨hx, hy⟩ := fr_bit_lt hp.ok hb
  have hd : dep f y < dep f x := dep_above hp hx (by unfold aboveB; rw [hb, decide_eq_false hne]; rfl)
  have ix : (ordOf f).idxOf x < (ordOf f).length := List.idxOf_lt_length_of_mem ((hmem x).2 hx)
  have iy : (ordOf f).idxOf y < (ordOf f).length := List.idxOf_lt_length_of_mem ((hmem y).2 hy)
  rcases Nat.lt_or_ge ((ordOf f).idxOf y) ((ordOf f).idxOf x) with h | h
  · exact h
  · exfalso
    rcases Nat.lt_or_eq_of_le h with h | h
    · have := List.pairwise_iff_getElem.1 hso _ _ ix iy h
      rw [List.getElem_idxOf, List.getElem_idxOf] at this
      omega
    · have e1 : (ordOf f)[(ordOf f).idxOf x] = x := List.getElem_idxOf ix
      have e2 : (ordOf f)[(ordOf f).idxOf y] = y := List.getElem_idxOf iy
      have : x = y := by rw [← e1, ← e2]; simp only [h]
      exact hne this.symm
end Go.Vc

/- Plain facts: both searches for p-morphisms find the same maps; the order on lists. No program in sight. Conditions: none. -/
namespace Go.Vc
/-- The order on lists. -/
def lessB : List Int → List Int → Bool
  | [], [] => false
  | [], _ :: _ => true
  | _ :: _, [] => false
  | x :: a, y :: b => if x = y then lessB a b else decide (x < y)
theorem lessB_irr : ∀ a, lessB a a = false
  | [] => rfl
  | x :: a => by simp [lessB, lessB_irr a]
theorem lessB_append : ∀ (p a b : List Int), lessB (p ++ a) (p ++ b) = lessB a b
  | [], _, _ => rfl
  | x :: p, a, b => by simp [lessB, lessB_append p a b]
theorem nats_append (a b : List Nat) : nats (a ++ b) = nats a ++ nats b := by simp [nats]
theorem exts_sorted (m : Nat) : ∀ (d : Nat) (im : List Nat), (exts m d im).Pairwise fun a b => lessB (nats a) (nats b) = true
  | 0, im => by simp [exts]
  | d + 1, im => by
    simp only [exts]
    rw [List.pairwise_flatMap]
    refine ⟨fun y _ => exts_sorted m d _, ?_⟩
    refine List.Pairwise.imp ?_ (List.pairwise_lt_range (n := m))
    intro y y' hlt a ha b hb
    have h1 := (exts_spec m d _ a ha).2.1
    have h2 := (exts_spec m d _ b hb).2.1
    have e1 := List.take_append_drop (im ++ [y]).length a
    have e2 := List.take_append_drop (im ++ [y']).length b
    rw [h1] at e1
    rw [h2] at e2
    rw [← e1, ← e2, List.append_assoc, List.append_assoc, nats_append, nats_append im, lessB_append]
    simp only [List.singleton_append, nats, List.map_cons, lessB]
    rw [if_neg (by show ¬ ((y : Nat) : Int) = ((y' : Nat) : Int); omega), decide_eq_true_eq]
    show ((y : Nat) : Int) < ((y' : Nat) : Int)
    omega
theorem dfs_sorted (ok : List Nat → Bool) (m d : Nat) (im : List Nat) : (dfs ok m d im).Pairwise fun a b => lessB (nats a) (nats b) = true := by
  rw [dfs_eq]; exact (exts_sorted m d im).filter _
theorem leaves_sorted (ok : List Nat → Bool) (m d : Nat) (im : List Nat) : (leaves ok m d im).Pairwise fun a b => lessB (nats a) (nats b) = true := by
  unfold leaves
  split
  · exact dfs_sorted ok m d im
  · exact List.Pairwise.nil
theorem nodup_of_sorted {L : List (List Nat)} (h : L.Pairwise fun a b => lessB (nats a) (nats b) = true) : L.Nodup :=
  h.imp fun {a b} hab e => by subst e; rw [lessB_irr] at hab; cases hab
theorem exts_all (m : Nat) : ∀ (d : Nat) (im l : List Nat), l.length = d → (∀ y ∈ l, y < m) → im ++ l ∈ exts m d im
  | 0, im, l, h0, _ => by simp [exts, List.length_eq_zero_iff.1 h0]
  | d + 1, im, l, h0, hlt => by
    obtain ⟨y, r, rfl⟩ : ∃ y r, l = y :: r := by
      cases l with
      | nil => simp at h0
      | cons y r => exact ⟨y, r, rfl⟩
    simp only [exts, List.mem_flatMap, List.mem_range]
    refine ⟨y, hlt y (by simp), ?_⟩
    have := exts_all m d (im ++ [y]) r (by simpa using h0) (fun z hz => hlt z (by simp [hz]))
    simpa using this
/-- The program's search finds just the maps. -/
theorem mem_leaves {f g : Fr} (hf : f.ok) (hg : g.ok) {onto one : Bool} {F : List Nat} : F ∈ leaves (fitsB f g onto one) g.n f.n [] ↔ F.length = f.n ∧ (∀ y ∈ F, y < g.n) ∧ fullB f g onto one F := by
  unfold leaves
  constructor
  · intro h
    split at h
    · rename_i hnil
      rw [dfs_eq, List.mem_filter] at h
      obtain ⟨hex, hall⟩ := h
      obtain ⟨h1, _, h3⟩ := exts_spec _ _ _ _ hex
      simp only [List.length_nil, Nat.zero_add, List.drop_zero] at h1 h3
      simp only [List.all_eq_true, List.mem_range, List.length_nil, Nat.zero_add] at hall
      refine ⟨h1, h3, fits_full hf hg h1 h3 ?_⟩
      by_cases hn : f.n = 0
      · have : F = [] := List.length_eq_zero_iff.1 (by omega)
        rw [this]; exact hnil
      · have := hall (f.n - 1) (by omega)
        rwa [show f.n - 1 + 1 = f.n by omega, List.take_of_length_le (by omega)] at this
    · cases h
  · rintro ⟨h1, h3, h⟩
    have h0 := full_fits hf hg h1 h3 h 0 (by omega)
    rw [List.take_zero] at h0
    rw [if_pos h0, dfs_eq, List.mem_filter]
    refine ⟨by simpa using exts_all g.n f.n [] F h1 h3, ?_⟩
    simp only [List.all_eq_true, List.mem_range, List.length_nil, Nat.zero_add]
    intro j hj
    exact full_fits hf hg h1 h3 h (j + 1) (by omega)
/-- What the reference's search finds, as maps. -/
def foundU (f g : Fr) (fix : List Int) (onto : Bool) : List (List Nat) := (srch f g fix onto (ordOf f) f.n []).map (unOrd f.n (ordOf f))
section
variable {f g : Fr} {fix : List Int} {onto : Bool}
theorem mem_foundU (hp : Po f) (hg : g.ok) {F : List Nat} : F ∈ foundU f g fix onto ↔ fullP f g fix onto F := by
  have ho := ordOf_ok hp
  unfold foundU
  rw [List.mem_map]
  constructor
  · rintro ⟨ys, h, rfl⟩
    exact ((mem_srch hp.ok hg ho ys).1 h).2
  · intro h
    refine ⟨byOrd (ordOf f) F, (mem_srch hp.ok hg ho _).2 ⟨?_, ?_⟩, unOrd_byOrd ho h.1⟩
    · rw [byOrd, List.length_map, ho.len]
    · rw [unOrd_byOrd ho h.1]; exact h
theorem nodup_foundU (hp : Po f) (hg : g.ok) : (foundU f g fix onto).Nodup := by
  have ho := ordOf_ok hp
  unfold foundU List.Nodup
  rw [List.pairwise_map]
  have h : (srch f g fix onto (ordOf f) f.n []).Nodup := by
    unfold srch
    split
    · exact nodup_of_sorted (dfs_sorted _ _ _ _)
    · exact List.nodup_nil
  refine List.Pairwise.imp_of_mem (fun {a b} ha hb hne he => hne ?_) h
  have h1 := ((mem_srch hp.ok hg ho a).1 ha).1
  have h2 := ((mem_srch hp.ok hg ho b).1 hb).1
  rw [← byOrd_unOrd ho h1, ← byOrd_unOrd ho h2, he]
theorem part_full {n : Nat} {ord ys : List Nat} (hl : ys.length = n) (ho : ∀ x, x < n → ord.idxOf x < n) : partL n ord ys = nats (unOrd n ord ys) := by
  unfold partL unOrd nats
  rw [List.map_map]
  refine List.map_congr_left fun x hx => ?_
  have := ho x (List.mem_range.1 hx)
  rw [if_pos (by omega)]; rfl
theorem srch_part (hp : Po f) (hg : g.ok) : (srch f g fix onto (ordOf f) f.n []).map (partL f.n (ordOf f)) = (foundU f g fix onto).map nats := by
  have ho := ordOf_ok hp
  unfold foundU
  rw [List.map_map]
  refine List.map_congr_left fun ys hys => ?_
  exact part_full ((mem_srch hp.ok hg ho ys).1 hys).1 (fun x hx => ho.idx hx)
/-- Without fixed images both searches find the same. -/
theorem found_perm (hp : Po f) (hg : g.ok) (hfix : ∀ x, x < f.n → fix.getD x 0 < 0) : (foundU f g fix onto).Perm (leaves (fitsB f g onto false) g.n f.n []) := by
  rw [List.perm_ext_iff_of_nodup (nodup_foundU hp hg) (nodup_of_sorted (leaves_sorted _ _ _ _))]
  intro F
  rw [mem_foundU hp hg, mem_leaves hp.ok hg]
  exact ⟨fun h => ⟨h.1, h.2.1, h.2.2.1⟩, fun h => ⟨h.1, h.2.1, h.2.2, fun x hx => .inl (hfix x hx)⟩⟩
/-- The greedy choice finds the first. -/
def fixK (n : Nat) (F : List Nat) (k : Nat) : List Int := (List.range n).map fun i => if i < k then ((F.getD i 0 : Nat) : Int) else -1
theorem fixK_len (n : Nat) (F : List Nat) (k : Nat) : (fixK n F k).length = n := by simp [fixK]
theorem fixK_zero (n : Nat) (F : List Nat) : fixK n F 0 = List.replicate n (-1) := by
  apply List.ext_getElem
  · simp [fixK]
  · intro i h1 h2; simp [fixK]
theorem fixK_end {n : Nat} {F : List Nat} (hF : F.length = n) : fixK n F n = nats F := by
  apply List.ext_getElem
  · simp [fixK, nats, hF]
  · intro i h1 h2
    have hi : i < n := by simpa [fixK] using h1
    have hi' : i < F.length := by omega
    simp [fixK, nats, hi, List.getD_eq_getElem?_getD, hi']
theorem fixK_set {n : Nat} {F : List Nat} {k : Nat} (_hk : k < n) : (fixK n F k).set k ((F.getD k 0 : Nat) : Int) = fixK n F (k + 1) := by
  apply List.ext_getElem
  · simp [fixK]
  · intro i h1 h2
    have hi : i < n := by simpa [fixK] using h2
    rw [List.getElem_set]
    by_cases h : k = i
    · subst h; simp [fixK]
    · rw [if_neg h]
      simp only [fixK, List.getElem_map, List.getElem_range]
      by_cases h3 : i < k
      · rw [if_pos h3, if_pos (by omega)]
      · rw [if_neg h3, if_neg (by omega)]
theorem lessB_first : ∀ {F G : List Nat} {k : Nat}, k < F.length → k < G.length → (∀ i, i < k → F.getD i 0 = G.getD i 0) → G.getD k 0 < F.getD k 0 → lessB (nats F) (nats G) = false
  | [], _, _, h, _, _, _ => by simp at h
  | _ :: _, [], _, _, h, _, _ => by simp at h
  | x :: F, y :: G, 0, _, _, _, h => by
    simp only [List.getD_cons_zero] at h
    simp only [nats, List.map_cons, lessB]
    rw [if_neg (by show ¬ ((x : Nat) : Int) = ((y : Nat) : Int); omega), decide_eq_false_iff_not]
    show ¬ ((x : Nat) : Int) < ((y : Nat) : Int)
    omega
  | x :: F, y :: G, k + 1, h1, h2, h3, h4 => by
    have e : x = y := by have := h3 0 (by omega); simpa using this
    subst e
    simp only [nats, List.map_cons, lessB, if_true]
    refine lessB_first (k := k) (by simpa using h1) (by simpa using h2) (fun i hi => ?_) (by simpa using h4)
    have := h3 (i + 1) (by omega)
    simpa using this
theorem greedy_none (hp : Po f) (hg : g.ok) {F : List Nat} {Fs : List (List Nat)} (hL : leaves (fitsB f g onto false) g.n f.n [] = F :: Fs) {k y : Nat} (hk : k < f.n) (hy : y < F.getD k 0) : foundU f g ((fixK f.n F k).set k (y : Int)) onto = [] := by
  rw [List.eq_nil_iff_forall_not_mem]
  intro G hG
  rw [mem_foundU hp hg] at hG
  obtain ⟨h1, h2, h3, h4⟩ := hG
  have hGl : G ∈ F :: Fs := by rw [← hL, mem_leaves hp.ok hg]; exact ⟨h1, h2, h3⟩
  have hF : F.length = f.n := ((mem_leaves (onto := onto) (one := false) hp.ok hg).1 (by rw [hL]; exact List.mem_cons_self)).1
  have hGk : G.getD k 0 = y := by
    have := h4 k hk
    rw [List.getD_eq_getElem?_getD, List.getElem?_set_self (by rw [fixK_len]; exact hk), Option.getD_some] at this
    omega
  have hGi : ∀ i, i < k → F.getD i 0 = G.getD i 0 := fun i hi => by
    have := h4 i (by omega)
    rw [List.getD_eq_getElem?_getD, List.getElem?_set_ne (by omega)] at this
    have e : ((fixK f.n F k)[i]?).getD 0 = ((F.getD i 0 : Nat) : Int) := by simp [fixK, show i < f.n by omega, hi]
    rw [e] at this
    omega
  have hless := lessB_first (F := F) (G := G) (k := k) (by omega) (by omega) hGi (by omega)
  have hs := leaves_sorted (fitsB f g onto false) g.n f.n []
  rw [hL, List.pairwise_cons] at hs
  rcases List.mem_cons.1 hGl with rfl | h
  · omega
  · rw [hs.1 G h] at hless; cases hless
theorem greedy_some (hp : Po f) (hg : g.ok) {F : List Nat} {Fs : List (List Nat)} (hL : leaves (fitsB f g onto false) g.n f.n [] = F :: Fs) {k : Nat} : foundU f g (fixK f.n F k) onto ≠ [] := by
  have hm : F ∈ leaves (fitsB f g onto false) g.n f.n [] := by rw [hL]; exact List.mem_cons_self
  obtain ⟨h1, h2, h3⟩ := (mem_leaves hp.ok hg).1 hm
  have : F ∈ foundU f g (fixK f.n F k) onto := by
    rw [mem_foundU hp hg]
    refine ⟨h1, h2, h3, fun x hx => ?_⟩
    have e : (fixK f.n F k).getD x 0 = if x < k then ((F.getD x 0 : Nat) : Int) else -1 := by simp [fixK, hx]
    rw [e]
    split
    · exact .inr rfl
    · exact .inl (by omega)
  intro h
  rw [h] at this; cases this
end
end Go.Vc

/- Plain facts on lists in order without doubles: insertion, equal neighbours dropped, one list for each set; posets in order. No program in sight. Conditions: none. -/
namespace Go.Vc
section
variable {α : Type} {lt : α → α → Bool}
variable {β : Type} {key : β → α}
end
end Go.Vc

/- Plain facts: the properties of frames, and that isomorphic frames have the same. No program in sight. Conditions: none. -/
namespace Go.Vc
end Go.Vc

/- Plain facts: parts of posets, upsets, what tells one poset from another. No program in sight. Conditions: none. -/
namespace Go.Vc
/-- A set as a set of places in a list. -/
def sqz (ms : List Nat) (m : Nat) : Nat := setOf ((List.range ms.length).filter fun k => m.testBit (ms.getD k 0))
def sqzK (ms : List Nat) (m k : Nat) : Nat := setOf ((List.range k).filter fun k => m.testBit (ms.getD k 0))
theorem sqzK_succ (ms : List Nat) (m k : Nat) : sqzK ms m (k + 1) = if m.testBit (ms.getD k 0) then sqzK ms m k ||| 2 ^ k else sqzK ms m k := by
  unfold sqzK
  rw [List.range_succ, List.filter_append]
  cases h : m.testBit (ms.getD k 0)
  · simp only [List.filter_cons, List.filter_nil, h, Bool.false_eq_true, if_false, List.append_nil]
  · simp only [List.filter_cons, List.filter_nil, h, if_true]
    rw [setOf_snoc]
theorem sqzK_lt (ms : List Nat) (m k : Nat) : sqzK ms m k < 2 ^ k := setOf_lt fun _ hy => List.mem_range.1 (List.mem_filter.1 hy).1
theorem sqz_bit (ms : List Nat) (m j : Nat) : (sqz ms m).testBit j = (decide (j < ms.length) && m.testBit (ms.getD j 0)) := by
  unfold sqz
  rw [setOf_testBit, Bool.eq_iff_iff, List.contains_iff_mem, List.mem_filter, List.mem_range]
  simp
def partFr (f : Fr) (mask : Nat) : Fr := ⟨(mem mask).length, (mem mask).map fun x => sqz (mem mask) (f.a.getD x 0)⟩
section
variable {f : Fr} {mask : Nat}
theorem mask63 (hf : f.ok) (hm : mask < 2 ^ f.n) : mask < 2 ^ 63 := Nat.lt_of_lt_of_le hm (Nat.pow_le_pow_right (by omega) (by have := hf.1; omega))
theorem mem_lt (hf : f.ok) (hm : mask < 2 ^ f.n) {x : Nat} (hx : x ∈ mem mask) : x < f.n := by
  have hb := (mem_mem (mask63 hf hm)).1 hx
  rcases Nat.lt_or_ge x f.n with h | h
  · exact h
  · rw [Nat.testBit_lt_two_pow (Nat.lt_of_lt_of_le hm (Nat.pow_le_pow_right (by omega) h))] at hb; cases hb
theorem mem_len (hf : f.ok) (hm : mask < 2 ^ f.n) : (mem mask).length ≤ f.n := popc_full (by have := hf.1; omega) hm
theorem mem_nodup (m : Nat) : (mem m).Nodup := by
  unfold mem memK
  exact List.Nodup.sublist List.filter_sublist List.nodup_range
theorem part_ok (hf : f.ok) (hm : mask < 2 ^ f.n) : (partFr f mask).ok := by
  refine ⟨Nat.le_trans (mem_len hf hm) hf.1, by simp [partFr], fun x hx => ?_⟩
  obtain ⟨y, _, rfl⟩ := List.mem_map.1 hx
  exact sqzK_lt _ _ _
theorem part_bit (i j : Nat) : (((partFr f mask).a.getD i 0).testBit j = true) ↔ i < (mem mask).length ∧ j < (mem mask).length ∧ (f.a.getD ((mem mask).getD i 0) 0).testBit ((mem mask).getD j 0) = true := by
  unfold partFr
  by_cases hi : i < (mem mask).length
  · have e : ((mem mask).map fun x => sqz (mem mask) (f.a.getD x 0)).getD i 0 = sqz (mem mask) (f.a.getD ((mem mask).getD i 0) 0) := by simp [List.getD_eq_getElem?_getD, hi]
    rw [e, sqz_bit, Bool.and_eq_true, decide_eq_true_eq]
    exact ⟨fun h => ⟨hi, h⟩, fun h => h.2⟩
  · have e : ((mem mask).map fun x => sqz (mem mask) (f.a.getD x 0)).getD i 0 = 0 := by simp [List.getD_eq_getElem?_getD, hi]
    rw [e, Nat.zero_testBit]
    exact ⟨fun h => absurd h (by simp), fun h => absurd h.1 hi⟩
theorem part_po (hp : Po f) (hm : mask < 2 ^ f.n) : Po (partFr f mask) := by
  have hlt : ∀ i, i < (mem mask).length → (mem mask).getD i 0 < f.n := fun i hi => mem_lt hp.ok hm (getD_mem hi)
  refine ⟨part_ok hp.ok hm, fun x hx => ?_, fun x y z h1 h2 => ?_, fun x y h1 h2 => ?_⟩
  · have hx : x < (mem mask).length := hx
    exact part_bit x x |>.2 ⟨hx, hx, hp.refl _ (hlt x hx)⟩
  · rw [part_bit] at h1 h2 ⊢
    exact ⟨h1.1, h2.2.1, hp.trans _ _ _ h1.2.2 h2.2.2⟩
  · rw [part_bit] at h1 h2
    have := hp.anti _ _ h1.2.2 h2.2.2
    have hx := h1.1
    have hy := h1.2.1
    rw [List.getD_eq_getElem?_getD, List.getD_eq_getElem?_getD, List.getElem?_eq_getElem hx, List.getElem?_eq_getElem hy, Option.getD_some, Option.getD_some] at this
    exact (List.getElem_inj (mem_nodup mask)).1 this
end
/-- All upsets. -/
def upK (f : Fr) (k : Nat) : List Nat := (List.range k).filter fun m => decide (rowsK f.a m f.n = m)
def upsets (f : Fr) : List Nat := upK f (2 ^ f.n)
theorem upK_succ (f : Fr) (k : Nat) : upK f (k + 1) = if rowsK f.a k f.n = k then upK f k ++ [k] else upK f k := by
  unfold upK
  rw [List.range_succ, List.filter_append]
  by_cases h : rowsK f.a k f.n = k
  · rw [if_pos h]; simp [h]
  · rw [if_neg h]; simp [h]
theorem upsets_lt {f : Fr} {m : Nat} (h : m ∈ upsets f) : m < 2 ^ f.n := List.mem_range.1 (List.mem_filter.1 h).1
theorem upK_len (f : Fr) (k : Nat) : (upK f k).length ≤ k := by
  have := List.length_filter_le (fun m => decide (rowsK f.a m f.n = m)) (List.range k)
  rwa [List.length_range] at this
theorem upsets_len {f : Fr} (hf : f.ok) : (upsets f).length ≤ 256 := by
  refine Nat.le_trans (upK_len f _) ?_
  exact (Nat.pow_le_pow_right (by omega) hf.1 : 2 ^ f.n ≤ 2 ^ 8)
/-- The first upset of whose part g is an image, and the first map. -/
def oneOut (f g : Fr) (m : Nat) : Option (Nat × List Nat) :=
  match leaves (fitsB (partFr f m) g true false) g.n (partFr f m).n [] with
  | [] => none
  | F :: _ => some (m, F)
def partOut (f g : Fr) : Option (Nat × List Nat) := (upsets f).findSome? (oneOut f g)
theorem oneOut_small {f g : Fr} (hf : f.ok) (hg : g.ok) {m : Nat} (hm : m < 2 ^ f.n) (h : popc m < g.n) : oneOut f g m = none := by
  unfold oneOut
  have : leaves (fitsB (partFr f m) g true false) g.n (partFr f m).n [] = [] := dfs_none (part_ok hf hm) hg true false (.inl ⟨rfl, h⟩)
  rw [this]
theorem partOut_some {f g : Fr} {m : Nat} {F : List Nat} (h : partOut f g = some (m, F)) : m ∈ upsets f ∧ ∃ Fs, leaves (fitsB (partFr f m) g true false) g.n (partFr f m).n [] = F :: Fs := by
  unfold partOut at h
  obtain ⟨m', hm, h⟩ := List.exists_of_findSome?_eq_some h
  unfold oneOut at h
  split at h
  · cases h
  · rename_i F' Fs e
    simp only [Option.some.injEq, Prod.mk.injEq] at h
    obtain ⟨rfl, rfl⟩ := h
    exact ⟨hm, Fs, e⟩
/-- The elements of g that tell it from f. -/
def tellB (f g : Fr) (x : Nat) : Bool := (partOut f (partFr g (g.a.getD x 0))).isNone
def tellK (f g : Fr) (k : Nat) : Nat := setOf ((List.range k).filter (tellB f g))
def tell (f g : Fr) : Nat := tellK f g g.n
theorem tellK_succ (f g : Fr) (k : Nat) : tellK f g (k + 1) = if tellB f g k then tellK f g k ||| 2 ^ k else tellK f g k := by
  unfold tellK
  rw [List.range_succ, List.filter_append]
  cases h : tellB f g k
  · simp only [List.filter_cons, List.filter_nil, h, Bool.false_eq_true, if_false, List.append_nil]
  · simp only [List.filter_cons, List.filter_nil, h, if_true]
    rw [setOf_snoc]
theorem tellK_lt (f g : Fr) (k : Nat) : tellK f g k < 2 ^ k := setOf_lt fun _ hy => List.mem_range.1 (List.mem_filter.1 hy).1
end Go.Vc

/- Contracts on lists of lists of int64; all maps between two frames. Conditions: none. -/
namespace Go.Vc
section
variable {w : World}
theorem iIaV {v : Value} {xs : List Value} {j : Nat} {k : IntKind} {K : Value → Prop} (hs : Sl w v xs) (h1 : j < xs.length) (h : ∀ p, w.cell? p = some xs[j] → K (.pointer (some p))) : xIa 1 v (.int k (j : Int)) K :=
  iIa hs (by omega) (by omega) fun p hp => h p (by rw [hp, Int.toNat_natCast, List.getElem?_eq_getElem h1])
end
end Go.Vc
namespace Go.Proofs.YtikfhibcdhdglaaGreat
open Go.Vc
end Go.Proofs.YtikfhibcdhdglaaGreat

/- Contracts: all maps between two frames. Conditions: none. -/
namespace Go.Proofs.YtikfhibcdhdglaaGreat
open Go.Vc
end Go.Proofs.YtikfhibcdhdglaaGreat

/- Contracts: two posets. Conditions: none. -/
namespace Go.Vc
/-- Two structs of two cells, laid side by side. -/
theorem iBs22 {w : World} {e : TypeId} {a b c d : Value} {K : Value → World → Prop} (h : ∀ bb w', bb = w.heap.size ∧ w'.heap.size = bb + 1 → Ext w w' → Blk e w' bb [a, b, c, d] → K (.slice (some ⟨bb, 0, none⟩) 2 2) w') :
    xBs e (Value.cells (.agg #[.int .i64 0, .slice none 0 0])) 2 2 [(0, .agg #[a, b]), (1, .agg #[c, d])] w K := by
  refine ⟨#[a, b, c, d], ?_, h _ _ ⟨rfl, by simp⟩ (Ext.alloc w _) (Blk.new w #[a, b, c, d] e)⟩
  simp [Instr.fill, Value.cells, show Array.range 4 = #[0, 1, 2, 3] from rfl]
theorem iIaL2 {b n c : Nat} {j : Nat} {k : IntKind} {K : Value → Prop} (hj : j < n) (h : K (.pointer (some ⟨b, 2 * j, none⟩))) : xIa 2 (.slice (some ⟨b, 0, none⟩) n c) (.int k (j : Int)) K := by
  refine ⟨_, _, _, _, _, rfl, rfl, by omega, by omega, ?_⟩
  have : (⟨b, 0, none⟩ : Addr).add ((j : Int).toNat * 2) = ⟨b, 2 * j, none⟩ := by
    simp only [Addr.add, Int.toNat_natCast]; split
    · rename_i e; simp; omega
    · simp; omega
  rw [this]; exact h
end Go.Vc
namespace Go.Proofs.YtikfhibcdhdglaaGreat
open Go.Vc
theorem ok_impl_arePosets_1 {v : Value} {w : World} {l : List Int} (hs : SlI w v l) (n : Int) : Ret Tryz.prog f_impl_arePosets_1 #[.agg #[.int .i64 n, v]] w (.bool (!posetOk n l)) := by
  apply c_impl_arePosets_1; unfold S_impl_arePosets_1
  refine iNew fun b w1 hb h hB => ?_
  ((with_reducible refine iLdA (by assumption) ?_ ?_); rfl)
  refine iRet (ok_impl_isPoset (hs.ext h) n) fun w2 h2 => ?_
  ((with_reducible refine iNot ?_))
  exact ⟨rfl, h.trans h2⟩
def codeP (n0 : Int) (l0 : List Int) (n1 : Int) (l1 : List Int) : Int := if posetOk n0 l0 && posetOk n1 l1 then 0 else 1
theorem ok_impl_arePosets {b : Nat} {e : TypeId} {w : World} {v0 v1 : Value} {l0 l1 : List Int} (hs0 : SlI w v0 l0) (hs1 : SlI w v1 l1) (n0 n1 : Int) (hB : Blk e w b [.int .i64 n0, v0, .int .i64 n1, v1]) :
    Ret Tryz.prog f_impl_arePosets #[.slice (some ⟨b, 0, none⟩) 2 2] w (.int .i64 (codeP n0 l0 n1 l1)) := by
  have hidx : Ret Tryz.prog f_slices_IndexFunc_Simpl_Poset_impl_Poset #[.slice (some ⟨b, 0, none⟩) 2 2, .func (.func f_impl_arePosets_1) #[] #[]] w (.int .i64 (if posetOk n0 l0 then (if posetOk n1 l1 then -1 else 1) else 0)) := by
    apply c_slices_IndexFunc_Simpl_Poset_impl_Poset; unfold S_slices_IndexFunc_Simpl_Poset_impl_Poset
    ((with_reducible refine iLenL ?_))
    refine iLp (fun k : Nat => [.int .i64 (k : Int)]) (fun k w' => k ≤ 2 ∧ Ext w w' ∧ (0 < k → posetOk n0 l0 = true) ∧ (1 < k → posetOk n1 l1 = true)) (fun k => 2 - k) 0 rfl ⟨by omega, Ext.refl _, fun h => by omega, fun h => by omega⟩ ?_
    rintro k w2 Kn ⟨hk, h2, hp0, hp1⟩ hKn
    have hB := hB.ext h2
    (intro _; (try simp only [gx]); (with_reducible refine iLt ?_))
    refine iCndP (fun h3 => ?_) (fun h3 => ?_)
    · have hk2 : k = 0 ∨ k = 1 := by omega
      rcases hk2 with rfl | rfl
      · refine iIaL2 (j := 0) (by omega) ?_
        refine iLdP hB (by simp) ?_
        refine iRet (ok_impl_arePosets_1 (hs0.ext h2) n0) fun w3 h4 => ?_
        refine iCnd (fun h5 => ?_) (fun h5 => ?_)
        · refine ⟨?_, h2.trans h4⟩
          rw [Bool.not_eq_true'] at h5
          rw [h5]; rfl
        · rw [Bool.not_eq_false'] at h5
          (refine iAdd (by omega) ?_)
          exact hKn 1 _ ⟨by omega, h2.trans h4, fun _ => h5, fun h => by omega⟩ (by omega)
      · refine iIaL2 (j := 1) (by omega) ?_
        refine iLdP hB (by simp) ?_
        refine iRet (ok_impl_arePosets_1 (hs1.ext h2) n1) fun w3 h4 => ?_
        refine iCnd (fun h5 => ?_) (fun h5 => ?_)
        · refine ⟨?_, h2.trans h4⟩
          rw [Bool.not_eq_true'] at h5
          rw [h5, hp0 (by omega)]; rfl
        · rw [Bool.not_eq_false'] at h5
          (refine iAdd (by omega) ?_)
          exact hKn 2 _ ⟨by omega, h2.trans h4, fun _ => hp0 (by omega), fun _ => h5⟩ (by omega)
    · obtain rfl : k = 2 := by omega
      refine ⟨?_, h2⟩
      rw [hp0 (by omega), hp1 (by omega)]; rfl
  have hcon : Ret Tryz.prog f_slices_ContainsFunc_Simpl_Poset_impl_Poset #[.slice (some ⟨b, 0, none⟩) 2 2, .func (.func f_impl_arePosets_1) #[] #[]] w (.bool (!(posetOk n0 l0 && posetOk n1 l1))) := by
    apply c_slices_ContainsFunc_Simpl_Poset_impl_Poset; unfold S_slices_ContainsFunc_Simpl_Poset_impl_Poset
    refine iRet hidx fun w1 h1 => ?_
    ((with_reducible refine iLe ?_))
    refine ⟨?_, h1⟩
    cases posetOk n0 l0 <;> cases posetOk n1 l1 <;> rfl
  apply c_impl_arePosets; unfold S_impl_arePosets
  refine iRet hcon fun w1 h1 => ?_
  unfold codeP
  cases hp : posetOk n0 l0 && posetOk n1 l1
  · exact iCndT rfl ⟨rfl, h1⟩
  · exact iCndF rfl ⟨rfl, h1⟩
theorem posetOk_frame {n : Int} {l : List Int} (h : posetOk n l = true) : frameOk n l = true ∧ (l.length : Int) = n := by
  unfold posetOk at h
  rw [Bool.and_eq_true] at h
  refine ⟨h.1, ?_⟩
  have h1 := h.1
  unfold frameOk at h1
  rw [Bool.and_eq_true, Bool.and_eq_true, decide_eq_true_eq, decide_eq_true_eq] at h1
  exact h1.1.2
end Go.Proofs.YtikfhibcdhdglaaGreat

/- Contracts: the reference's search for p-morphisms. Conditions: none. -/
namespace Go.Proofs.YtikfhibcdhdglaaGreat
open Go.Vc
theorem ok_spec_l01List (m : Nat) (hm : m < 2 ^ 63) (w : World) : Cal Tryz.prog f_spec_l01List #[.int .i64 (m : Int)] w fun v w' => Ext w w' ∧ Ow w.heap.size t_i64 w' v (ints (nats (mem m))) := by
  apply c_spec_l01List; unfold S_spec_l01List
  refine iBs0 fun v0 w1 _ h1 ho1 => ?_
  refine ⟨fun j xs w' => ∃ (k : Nat) (v : Value), xs = [.int .i64 ((m >>> k : Nat) : Int), v, .int .i64 (k : Int)] ∧ j = 64 - k ∧ k ≤ 63 ∧ Ext w w' ∧ Ow w.heap.size t_i64 w' v (ints (nats (memK m k))), ⟨64, 0, _, rfl, rfl, by omega, h1, ho1⟩, ?_⟩
  rintro j xs w3 ⟨k, v, rfl, rfl, hk, h2, ho⟩
  (intro _; (try simp only [gx]); (with_reducible refine iLt ?_))
  refine iCndP (fun h3 => ?_) (fun h3 => ?_)
  · have hk1 := shr_pos (m := m) (k := k) (Int.natCast_pos.1 h3) hm
    have hl := memK_length_le m k
    have hil : (ints (nats (memK m k))).length = (memK m k).length := by rw [ints_length, nats_length]
    have hsh : m >>> k ≤ m := Nat.shiftRight_le _ _
    refine iRem (by omega) ?_
    have e1 : ((m >>> k : Nat) : Int) % 2 = ((m.testBit k).toNat : Nat) := by rw [← testBit_shr]; omega
    rw [e1]
    have e2 : ((m >>> k : Nat) : Int) / 2 = ((m >>> (k + 1) : Nat) : Int) := by rw [shr_succ]; omega
    have hmk := memK_succ m k
    ((with_reducible refine iEq ?_))
    cases hb : m.testBit k
    · rw [hb] at hmk
      have hmk' : memK m (k + 1) = memK m k := by simpa using hmk
      refine iJn ?_
      refine iCndP (fun h => absurd h (by simp)) (fun _ => ?_)
      (intro _; (try simp only [gx]); refine iAdd (by omega) ?_)
      refine iQuo (by omega) ?_
      rw [e2]
      refine ⟨64 - (k + 1), by omega, k + 1, v, rfl, rfl, by omega, h2, ?_⟩
      rw [hmk']; exact ho
    · rw [hb] at hmk
      have hmk' : memK m (k + 1) = memK m k ++ [k] := by simpa using hmk
      refine iJn ?_
      refine iCndP (fun _ => ?_) (fun h => absurd (show (((true : Bool).toNat : Nat) : Int) = 1 by rfl) h)
      refine iApp1 u_Si64 i_Si64 rfl ho rfl (by omega) (by omega) h2.size fun v' w4 ho' hg => ?_
      rw [ints_snoc, ← hmk'] at ho'
      (intro _; (try simp only [gx]); refine iAdd (by omega) ?_)
      refine iQuo (by omega) ?_
      rw [e2]
      exact ⟨64 - (k + 1), by omega, k + 1, v', rfl, rfl, by omega, h2.grown hg (fun b hb => (ho.blk b hb).1), ho'⟩
  · rw [memK_stop hm (Nat.eq_zero_of_not_pos fun h => h3 (Int.natCast_pos.2 h))] at ho
    exact ⟨h2, ho⟩
theorem ok_spec_l21Images {v : Value} {w : World} {im : List Int} (hs : SlI w v im) (hl : im.length ≤ 8) (hlt : ∀ y ∈ im, y < 62) (m : Nat) (hm : m < 2 ^ im.length) : Ret Tryz.prog f_spec_l21Images #[.int .i64 (m : Int), v] w (.int .i64 ((imgP im m : Nat) : Int)) := by
  have hm8 : m < 2 ^ 8 := Nat.lt_of_lt_of_le hm (Nat.pow_le_pow_right (by omega) hl)
  apply c_spec_l21Images; unfold S_spec_l21Images
  refine iCall ((ok_spec_l01List m (by omega) w).mono ?_)
  rintro u w1 ⟨h1, ho⟩
  have hml := popc_full (m := 8) (a := m) (by omega) hm8
  unfold popc at hml
  refine iLp (fun k : Nat => [.int .i64 ((setOf ((((mem m).take k).filter fun x => decide (0 ≤ im.getD x (-1))).map fun x => (im.getD x (-1)).toNat) : Nat) : Int), .int .i64 (k : Int)]) (fun k w' => k ≤ (mem m).length ∧ Ext w w' ∧ Ow w.heap.size t_i64 w' u (ints (nats (mem m)))) (fun k => (mem m).length - k) 0 rfl ⟨Nat.zero_le _, h1, ho⟩ ?_
  rintro k w3 Kn ⟨hk, h3, ho⟩ hKn
  have hs3 := hs.ext h3
  have hsm : SlN w3 u (mem m) := ho.sl
  (intro _; (try simp only [gx]); (with_reducible refine iLenN (by assumption) ?_; refine iLt ?_))
  refine iCndP (fun h4 => ?_) (fun h4 => ?_)
  · have hk1 : k < (mem m).length := by omega
    have hx : (mem m)[k] < im.length := by
      have hb := (mem_mem (by omega)).1 (List.getElem_mem hk1)
      rcases Nat.lt_or_ge (mem m)[k] im.length with h | h
      · exact h
      · rw [Nat.testBit_lt_two_pow (Nat.lt_of_lt_of_le hm (Nat.pow_le_pow_right (by omega) h))] at hb; cases hb
    have hg : (mem m).getD k 0 = (mem m)[k] := getD_of_lt hk1
    have ht : (mem m).take (k + 1) = (mem m).take k ++ [(mem m)[k]] := List.take_succ_eq_append_getElem hk1
    have hy : im.getD (mem m)[k] 0 = im[(mem m)[k]] := by simp [List.getD_eq_getElem?_getD, hx]
    have hy1 : im.getD (mem m)[k] (-1) = im[(mem m)[k]] := by simp [List.getD_eq_getElem?_getD, hx]
    have hy2 := hlt _ (List.getElem_mem hx)
    ((with_reducible refine iIaNN (by assumption) ?_ (fun pa_ hpa_ => ?_)); omega; (with_reducible refine iLd (by assumption) ?_); (with_reducible refine iIaN (by assumption) ?_ (fun pa_ hpa_ => ?_)); omega; (with_reducible refine iLd (by assumption) ?_; refine iLe ?_))
    rw [hg]
    rw [hy]
    refine iCndP (fun h5 => ?_) (fun h5 => ?_)
    · ((with_reducible refine iIaNN (by assumption) ?_ (fun pa_ hpa_ => ?_)); omega; (with_reducible refine iLd (by assumption) ?_); (with_reducible refine iIaN (by assumption) ?_ (fun pa_ hpa_ => ?_)); omega; (with_reducible refine iLd (by assumption) ?_))
      rw [hg]
      rw [hy]
      obtain ⟨z, hz⟩ := Int.eq_ofNat_of_zero_le h5
      rw [hz]
      have hz62 : z < 62 := by omega
      refine iRet (ok_spec_l01One z (by omega) w3) fun w4 h6 => ?_
      have hset : setOf ((((mem m).take k).filter fun x => decide (0 ≤ im.getD x (-1))).map fun x => (im.getD x (-1)).toNat) < 2 ^ 62 := setOf_lt fun y hy => by
        obtain ⟨x, hx, rfl⟩ := List.mem_map.1 hy
        have hx := of_decide_eq_true (List.mem_filter.1 hx).2
        by_cases hxl : x < im.length
        · have e : im.getD x (-1) = im[x] := by simp [List.getD_eq_getElem?_getD, hxl]
          rw [e] at hx ⊢
          have := hlt _ (List.getElem_mem hxl)
          omega
        · have e : im.getD x (-1) = -1 := by simp [List.getD_eq_getElem?_getD, List.getElem?_eq_none (Nat.le_of_not_lt hxl)]
          rw [e] at hx; omega
      have h2z : 2 ^ z < 2 ^ 62 := Nat.pow_lt_pow_right (by omega) hz62
      refine iBOr (by omega) (by omega) ?_
      (refine iAdd (by omega) ?_)
      have e3 : setOf ((((mem m).take k).filter fun x => decide (0 ≤ im.getD x (-1))).map fun x => (im.getD x (-1)).toNat) ||| 2 ^ z = setOf ((((mem m).take (k + 1)).filter fun x => decide (0 ≤ im.getD x (-1))).map fun x => (im.getD x (-1)).toNat) := by
        rw [← setOf_snoc, ht, List.filter_append, List.map_append]
        have hdec : decide (0 ≤ im.getD (mem m)[k] (-1)) = true := by rw [hy1, hz]; exact decide_eq_true (by omega)
        have hto : (im.getD (mem m)[k] (-1)).toNat = z := by rw [hy1, hz]; exact Int.toNat_natCast z
        simp only [List.filter_cons, List.filter_nil, hdec, if_true, List.map_cons, List.map_nil, hto]
      rw [e3]
      exact hKn (k + 1) _ ⟨by omega, h3.trans h6, ho.ext h6⟩ (by omega)
    · (refine iAdd (by omega) ?_)
      have e3 : (((mem m).take (k + 1)).filter fun x => decide (0 ≤ im.getD x (-1))) = ((mem m).take k).filter fun x => decide (0 ≤ im.getD x (-1)) := by
        rw [ht, List.filter_append]
        simp only [List.filter_cons, List.filter_nil, hy1]
        simp [h5]
      rw [← e3]
      exact hKn (k + 1) _ ⟨by omega, h3, ho⟩ (by omega)
  · obtain rfl : k = (mem m).length := by omega
    rw [List.take_length]
    exact ⟨rfl, h3⟩
theorem ok_spec_l21Open {f g : Fr} (hf : f.ok) (hg : g.ok) {onto : Bool} {im fix : List Int} (hil : im.length = f.n) (hlt : ∀ y ∈ im, -1 ≤ y ∧ y < g.n) (hfl : fix.length = f.n) {e : TypeId} {b : Nat} {w : World} {fa ga vord vfix vim most found : Value}
    (hB : Blk e w b [.int .i64 (f.n : Int), fa, .int .i64 (g.n : Int), ga, vord, vfix, .bool onto, most, found]) (hfa : SlN w fa f.a) (hga : SlN w ga g.a) (hfix : SlI w vfix fix) (him : SlI w vim im) :
    Ret Tryz.prog f_spec_l21Open #[.pointer (some ⟨b, 0, none⟩), vim] w (.bool (openB f g fix onto im)) := by
  have hf8 := hf.1
  have hg8 := hg.1
  have hfal := hf.2.1
  have hgal := hg.2.1
  have hlt62 : ∀ y ∈ im, y < 62 := fun y hy => by have := (hlt y hy).2; omega
  apply c_spec_l21Open; unfold S_spec_l21Open
  let test : Nat → Nat → Bool := fun x y => decide (sdiff (imgP im (f.a.getD x 0)) (g.a.getD y 0) = 0) && (decide (fix.getD x 0 < 0) || decide (fix.getD x 0 = (y : Int)))
  have himg : ∀ x, x < f.n → imgP im (f.a.getD x 0) < 2 ^ 8 := fun x hx => by
    unfold imgP
    refine Nat.lt_of_lt_of_le (setOf_lt (n := g.n) fun y hy => ?_) (Nat.pow_le_pow_right (by omega) hg8)
    obtain ⟨z, hz, rfl⟩ := List.mem_map.1 hy
    have hz := of_decide_eq_true (List.mem_filter.1 hz).2
    by_cases hzl : z < im.length
    · have e1 : im.getD z (-1) = im[z] := by simp [List.getD_eq_getElem?_getD, hzl]
      rw [e1] at hz ⊢
      have := (hlt _ (List.getElem_mem hzl)).2
      omega
    · have e1 : im.getD z (-1) = -1 := by simp [List.getD_eq_getElem?_getD, List.getElem?_eq_none (Nat.le_of_not_lt hzl)]
      rw [e1] at hz; omega
  refine iLp (fun k : Nat => [.int .i64 ((((List.range k).filter fun x => decide (im.getD x (-1) < 0)).length : Nat) : Int), .int .i64 (k : Int)]) (fun k w' => k ≤ f.n ∧ Ext w w' ∧ ∀ x, x < k → (decide (0 ≤ im.getD x (-1)) || (List.range g.n).any (test x)) = true) (fun k => f.n - k) 0 rfl ⟨Nat.zero_le _, Ext.refl _, fun x hx => by omega⟩ ?_
  rintro k w2 Kn ⟨hk, h2, hdone⟩ hKn
  have hB2 := hB.ext h2
  have hfa2 := hfa.ext h2
  have hga2 := hga.ext h2
  have hfix2 := hfix.ext h2
  have him2 := him.ext h2
  have hleft : ((List.range k).filter fun x => decide (im.getD x (-1) < 0)).length ≤ k := by
    have := List.length_filter_le (fun x => decide (im.getD x (-1) < 0)) (List.range k)
    simpa using this
  (intro _; (try simp only [gx]); (with_reducible refine iLenI (by assumption) ?_; refine iLt ?_))
  refine iCndP (fun h3 => ?_) (fun h3 => ?_)
  · have hk1 : k < f.n := by omega
    have hki : k < im.length := by omega
    have hy0 : im.getD k 0 = im[k] := by simp [List.getD_eq_getElem?_getD, hki]
    have hy1 : im.getD k (-1) = im[k] := by simp [List.getD_eq_getElem?_getD, hki]
    have hsucc : (List.range (k + 1)).filter (fun x => decide (im.getD x (-1) < 0)) = (List.range k).filter (fun x => decide (im.getD x (-1) < 0)) ++ if im.getD k (-1) < 0 then [k] else [] := by
      rw [List.range_succ, List.filter_append]
      simp only [List.filter_cons, List.filter_nil, decide_eq_true_eq]
    ((with_reducible refine iIaN (by assumption) ?_ (fun pa_ hpa_ => ?_)); omega; (with_reducible refine iLd (by assumption) ?_; refine iLe ?_))
    rw [hy0]
    refine iCndP (fun h4 => ?_) (fun h4 => ?_)
    · (refine iAdd (by omega) ?_)
      have e1 : (List.range (k + 1)).filter (fun x => decide (im.getD x (-1) < 0)) = (List.range k).filter (fun x => decide (im.getD x (-1) < 0)) := by
        rw [hsucc, if_neg (by rw [hy1]; omega), List.append_nil]
      rw [← e1]
      refine hKn (k + 1) _ ⟨by omega, h2, fun x hx => ?_⟩ (by omega)
      by_cases hxk : x < k
      · exact hdone x hxk
      · obtain rfl : x = k := by omega
        rw [hy1, decide_eq_true h4]; rfl
    · have e1 : (List.range (k + 1)).filter (fun x => decide (im.getD x (-1) < 0)) = (List.range k).filter (fun x => decide (im.getD x (-1) < 0)) ++ [k] := by
        rw [hsucc, if_pos (by rw [hy1]; omega)]
      have e2 : (((List.range k).filter fun x => decide (im.getD x (-1) < 0)).length : Int) + 1 = ((((List.range (k + 1)).filter fun x => decide (im.getD x (-1) < 0)).length : Nat) : Int) := by rw [e1]; simp
      have hgk := fr_lt63 hf k
      have hgk2 : f.a.getD k 0 < 2 ^ im.length := by rw [hil]; exact hf.lt hk1
      (refine iAdd (by omega) ?_; (with_reducible refine iNil ?_; refine iFa ?_; refine iFa ?_); refine iLdB (by assumption) (by first | rfl | simp) ?_; (with_reducible refine iIaNN (by assumption) ?_ (fun pa_ hpa_ => ?_)); omega; (with_reducible refine iLd (by assumption) ?_))
      refine iRet (ok_spec_l21Images him2 (by omega) hlt62 _ hgk2) fun w3 h5 => ?_
      have hi8 := himg k hk1
      refine iLp (fun j : Nat => [.bool ((List.range j).any (test k)), .int .i64 (j : Int)]) (fun j w' => j ≤ g.n ∧ Ext w w' ∧ ∀ y, y + 1 < j → test k y = false) (fun j => g.n - j) 0 rfl ⟨Nat.zero_le _, h2.trans h5, fun y hy => by omega⟩ ?_
      rintro j w5 Kn2 ⟨hj, h6, hnone⟩ hKn2
      have hB5 := hB.ext h6
      have hga5 := hga.ext h6
      have hfix5 := hfix.ext h6
      (intro _; (try simp only [gx]))
      refine iJnB (!(List.range j).any (test k) && decide (j < g.n)) w5 (fun J6 hJ6 => ?_) (fun w7 h7 => ?_)
      · ((with_reducible refine iNot ?_))
        refine iCnd (fun h8 => ?_) (fun h8 => ?_)
        · ((with_reducible refine iNil ?_; refine iFa ?_; refine iFa ?_); refine iLdB (by assumption) (by first | rfl | simp) ?_; (with_reducible refine iLenN (by assumption) ?_; refine iLt ?_))
          have := hJ6 w5 (Ext.refl _)
          rw [h8, Bool.true_and] at this
          have e3 : decide ((j : Int) < (g.a.length : Int)) = decide (j < g.n) := decide_eq_decide.2 (by omega)
          rw [e3]; exact this
        · have := hJ6 w5 (Ext.refl _)
          rwa [h8, Bool.false_and] at this
      · have hB7 := hB5.ext h7
        have hga7 := hga5.ext h7
        have hfix7 := hfix5.ext h7
        (intro _; (try simp only [gx]))
        cases hc : (!(List.range j).any (test k) && decide (j < g.n))
        · refine iCndF rfl ?_
          ((with_reducible refine iNot ?_))
          cases hany : (List.range j).any (test k)
          · refine iCndT rfl ?_
            have hjg : j = g.n := by
              rw [hany] at hc
              simp at hc
              omega
            refine ⟨?_, h6.trans h7⟩
            have hall : ((List.range f.n).all fun x => decide (0 ≤ im.getD x (-1)) || (List.range g.n).any (test x)) = false := by
              rw [List.all_eq_false]
              refine ⟨k, List.mem_range.2 hk1, ?_⟩
              rw [hy1, decide_eq_false h4, ← hjg, hany]; simp
            have : openB f g fix onto im = false := by
              unfold openB
              rw [show ((List.range f.n).all fun x => decide (0 ≤ im.getD x (-1)) || (List.range g.n).any fun y => decide (sdiff (imgP im (f.a.getD x 0)) (g.a.getD y 0) = 0) && (decide (fix.getD x 0 < 0) || decide (fix.getD x 0 = (y : Int)))) = false from hall, Bool.false_and]
            rw [this]
          · refine iCndF rfl ?_
            (refine iAdd (by omega) ?_)
            rw [e2]
            refine hKn (k + 1) _ ⟨by omega, h6.trans h7, fun x hx => ?_⟩ (by omega)
            by_cases hxk : x < k
            · exact hdone x hxk
            · obtain rfl : x = k := by omega
              rw [Bool.or_eq_true]
              right
              rw [List.any_eq_true] at hany ⊢
              obtain ⟨y, hy, ht⟩ := hany
              exact ⟨y, List.mem_range.2 (by have := List.mem_range.1 hy; omega), ht⟩
        · refine iCndT rfl ?_
          rw [Bool.and_eq_true, Bool.not_eq_true', decide_eq_true_eq] at hc
          obtain ⟨hno, hj1⟩ := hc
          have hgj := fr_lt63 hg j
          have hnext : (List.range (j + 1)).any (test k) = test k j := by
            rw [List.range_succ, List.any_append, hno]; simp
          refine iJnB (test k j) w7 (fun J8 hJ8 => ?_) (fun w9 h9 => ?_)
          · ((with_reducible refine iNil ?_; refine iFa ?_; refine iFa ?_); refine iLdB (by assumption) (by first | rfl | simp) ?_; (with_reducible refine iIaNN (by assumption) ?_ (fun pa_ hpa_ => ?_)); omega; (with_reducible refine iLd (by assumption) ?_))
            refine iBAndNot (by omega) (by omega) ?_
            ((with_reducible refine iEq ?_))
            refine iCndP (fun h8 => ?_) (fun h8 => ?_)
            · have e3 : decide (sdiff (imgP im (f.a.getD k 0)) (g.a.getD j 0) = 0) = true := decide_eq_true (by omega)
              ((with_reducible refine iNil ?_; refine iFa ?_); refine iLdB (by assumption) (by first | rfl | simp) ?_; (with_reducible refine iIaN (by assumption) ?_ (fun pa_ hpa_ => ?_)); omega; (with_reducible refine iLd (by assumption) ?_; refine iLt ?_))
              refine iCndP (fun h10 => ?_) (fun h10 => ?_)
              · have := hJ8 w7 (Ext.refl _)
                have e4 : test k j = true := by show (_ && (_ || _)) = true; rw [e3, decide_eq_true h10]; rfl
                rwa [e4] at this
              · ((with_reducible refine iNil ?_; refine iFa ?_); refine iLdB (by assumption) (by first | rfl | simp) ?_; (with_reducible refine iIaN (by assumption) ?_ (fun pa_ hpa_ => ?_)); omega; (with_reducible refine iLd (by assumption) ?_; refine iEq ?_))
                have := hJ8 w7 (Ext.refl _)
                have e4 : test k j = decide (fix.getD k 0 = (j : Int)) := by show (_ && (_ || _)) = _; rw [e3, decide_eq_false h10]; simp
                rwa [e4] at this
            · have := hJ8 w7 (Ext.refl _)
              have e4 : test k j = false := by show (_ && (_ || _)) = false; rw [decide_eq_false (show ¬ sdiff (imgP im (f.a.getD k 0)) (g.a.getD j 0) = 0 by omega)]; rfl
              rwa [e4] at this
          · (intro _; (try simp only [gx]); refine iAdd (by omega) ?_)
            rw [← hnext]
            refine hKn2 (j + 1) _ ⟨by omega, h6.trans (h7.trans h9), fun y hy => ?_⟩ (by omega)
            by_cases hyj : y < j
            · rw [List.any_eq_false] at hno
              have := hno y (List.mem_range.2 hyj)
              simpa using this
            · omega
  · obtain rfl : k = f.n := by omega
    have hall : ((List.range f.n).all fun x => decide (0 ≤ im.getD x (-1)) || (List.range g.n).any (test x)) = true := by
      rw [List.all_eq_true]
      exact fun x hx => hdone x (List.mem_range.1 hx)
    have hopen : openB f g fix onto im = (!onto || decide (g.n ≤ popc (imgP im (2 ^ f.n - 1)) + ((List.range f.n).filter fun x => decide (im.getD x (-1) < 0)).length)) := by
      unfold openB
      rw [show ((List.range f.n).all fun x => decide (0 ≤ im.getD x (-1)) || (List.range g.n).any fun y => decide (sdiff (imgP im (f.a.getD x 0)) (g.a.getD y 0) = 0) && (decide (fix.getD x 0 < 0) || decide (fix.getD x 0 = (y : Int)))) = true from hall, Bool.true_and]
    refine iJnB (openB f g fix onto im) w2 (fun J10 hJ10 => ?_) (fun w11 h11 => ?_)
    · ((with_reducible refine iNil ?_; refine iFa ?_); refine iLdB (by assumption) (by first | rfl | simp) ?_; (with_reducible refine iNot ?_))
      cases onto
      · refine iCndT rfl ?_
        intro w12 h12
        have := hJ10 w12 h12
        rwa [hopen] at this
      · refine iCndF rfl ?_
        ((with_reducible refine iNil ?_; refine iFa ?_; refine iFa ?_); refine iLdB (by assumption) (by first | rfl | simp) ?_; (with_reducible refine iNil ?_; refine iFa ?_; refine iFa ?_); refine iLdB (by assumption) (by first | rfl | simp) ?_)
        have hfull : 2 ^ f.n - 1 < 2 ^ im.length := by rw [hil]; have := Nat.two_pow_pos f.n; omega
        have hff : imgP im (2 ^ f.n - 1) < 2 ^ 62 := by
          unfold imgP
          refine setOf_lt fun y hy => ?_
          obtain ⟨z, hz, rfl⟩ := List.mem_map.1 hy
          have hz := of_decide_eq_true (List.mem_filter.1 hz).2
          by_cases hzl : z < im.length
          · have e1 : im.getD z (-1) = im[z] := by simp [List.getD_eq_getElem?_getD, hzl]
            rw [e1] at hz ⊢
            have := hlt62 _ (List.getElem_mem hzl)
            omega
          · have e1 : im.getD z (-1) = -1 := by simp [List.getD_eq_getElem?_getD, List.getElem?_eq_none (Nat.le_of_not_lt hzl)]
            rw [e1] at hz; omega
        have hpc := popc_full (m := 62) (by omega) hff
        refine iRetQ (fun w' _ => ok_spec_l01Full f.n (by omega) w') ?_
        refine iRetQ (fun w' h' => ok_spec_l21Images (him2.ext h') (by omega) hlt62 _ hfull) ?_
        refine iRetQ (fun w' _ => ok_spec_l01Bits _ (by omega) w') ?_
        (refine iSub (by omega) ?_; (with_reducible refine iLe ?_))
        intro w13 h13
        have := hJ10 w13 h13
        rw [hopen, Bool.not_true, Bool.false_or] at this
        have e3 : decide ((g.n : Int) - ((popc (imgP im (2 ^ f.n - 1)) : Nat) : Int) ≤ ((((List.range f.n).filter fun x => decide (im.getD x (-1) < 0)).length : Nat) : Int)) = decide (g.n ≤ popc (imgP im (2 ^ f.n - 1)) + ((List.range f.n).filter fun x => decide (im.getD x (-1) < 0)).length) := decide_eq_decide.2 (by omega)
        rw [e3]; exact this
    · (intro _; (try simp only [gx]))
      exact ⟨by trivial, h2.trans h11⟩
end Go.Proofs.YtikfhibcdhdglaaGreat

/- Contracts: the reference's search for p-morphisms, the recursion. Conditions: none. -/
namespace Go.Vc
/-- The state of the search. -/
structure SrSt (f g : Fr) (onto : Bool) (e ti ts : TypeId) (w0 : World) (fa ga vord vfix : Value) (ord : List Nat) (b most : Nat) (w : World) (found : Value) (vs : List Value) (ls : List (List Int)) : Prop where
  ext : Ext w0 w
  blk : Blk e w b [.int .i64 (f.n : Int), fa, .int .i64 (g.n : Int), ga, vord, vfix, .bool onto, .int .i64 (most : Int), found]
  ord : Ow w0.heap.size ti w vord (ints (nats ord))
  ow : Ow w0.heap.size ts w found vs
  owl : OwL w0.heap.size ti w vs (ls.map ints)
theorem SrSt.later {f g : Fr} {onto : Bool} {e ti ts : TypeId} {w0 : World} {fa ga vord vfix : Value} {od : List Nat} {b most : Nat} {w w' : World} {found : Value} {vs : List Value} {ls : List (List Int)}
    (h : SrSt f g onto e ti ts w0 fa ga vord vfix od b most w found vs ls) (he : Ext w w') : SrSt f g onto e ti ts w0 fa ga vord vfix od b most w' found vs ls :=
  ⟨h.ext.trans he, h.blk.ext he, h.ord.ext he, h.ow.ext he, h.owl.ext he⟩
theorem SrSt.len {f g : Fr} {onto : Bool} {e ti ts : TypeId} {w0 : World} {fa ga vord vfix : Value} {od : List Nat} {b most : Nat} {w : World} {found : Value} {vs : List Value} {ls : List (List Int)}
    (h : SrSt f g onto e ti ts w0 fa ga vord vfix od b most w found vs ls) : vs.length = ls.length := by simpa using h.owl.1
theorem take_take_append {α : Type} (A B : List α) (n : Nat) : (A.take n ++ B).take n = (A ++ B).take n := by
  rw [List.take_append, List.take_append, List.take_take, Nat.min_self, List.length_take]
  by_cases h : A.length ≤ n
  · rw [Nat.min_eq_right h]
  · rw [Nat.min_eq_left (by omega), Nat.sub_self, show n - A.length = 0 by omega]
theorem part_length (n : Nat) (ord ys : List Nat) : (partL n ord ys).length = n := by simp [partL]
theorem part_lt {n m : Nat} {ord ys : List Nat} (h : ∀ y ∈ ys, y < m) : ∀ y ∈ partL n ord ys, -1 ≤ y ∧ y < m := by
  intro y hy
  obtain ⟨x, _, rfl⟩ := List.mem_map.1 hy
  split
  · rename_i h1
    have := getD_lt h h1
    omega
  · omega
theorem part_snoc {f : Fr} {ord ys : List Nat} (ho : OrdOk f ord) (hk : ys.length < f.n) (y : Nat) : partL f.n ord (ys ++ [y]) = (partL f.n ord ys).set (ord.getD ys.length 0) (y : Int) := by
  apply List.ext_getElem
  · simp [partL]
  · intro x h1 h2
    have hx : x < f.n := by simpa [partL] using h1
    have e1 := part_get (ord := ord) (ys := ys ++ [y]) hx
    have e2 := part_get (ord := ord) (ys := ys) hx
    have g1 : (partL f.n ord (ys ++ [y])).getD x (-1) = (partL f.n ord (ys ++ [y]))[x] := by simp [List.getD_eq_getElem?_getD, h1]
    have g2 : (partL f.n ord ys).getD x (-1) = (partL f.n ord ys)[x]'(by simpa [partL] using hx) := by simp [List.getD_eq_getElem?_getD, show x < (partL f.n ord ys).length by simpa [partL] using hx]
    rw [List.getElem_set, ← g1, e1]
    by_cases hxe : ord.getD ys.length 0 = x
    · have hi : ord.idxOf x = ys.length := by rw [← hxe, ho.idx_at hk]
      rw [if_pos hxe, hi, if_pos (by simp)]
      simp [List.getD_eq_getElem?_getD]
    · have hne : ord.idxOf x ≠ ys.length := fun h => hxe (by rw [← h, ho.at_idx hx])
      rw [if_neg hxe, ← g2, e2, List.length_append, List.length_singleton]
      by_cases h4 : ord.idxOf x < ys.length
      · rw [if_pos h4, if_pos (by omega)]
        simp [List.getD_eq_getElem?_getD, List.getElem?_append_left h4]
      · rw [if_neg h4, if_neg (by omega)]
end Go.Vc
namespace Go.Proofs.YtikfhibcdhdglaaGreat
open Go.Vc
theorem ok_spec_l21Search {f g : Fr} (hf : f.ok) (hg : g.ok) {onto : Bool} {e : TypeId} (he1 : t_i64 ≠ e) (he2 : t_Si64 ≠ e) {ord : List Nat} (hord : OrdOk f ord) {fix : List Int} (hfl : fix.length = f.n) {w0 : World} {fa ga vord vfix : Value} (hfa : SlN w0 fa f.a) (hga : SlN w0 ga g.a) (hfix : SlI w0 vfix fix) {b : Nat} (hb : w0.heap.size ≤ b) {most : Nat} (hmost : most ≤ 1000000) :
    ∀ (d : Nat) (ys : List Nat) (w : World) (vim found : Value) (vs : List Value) (ls : List (List Int)), ys.length + d = f.n → (∀ y ∈ ys, y < g.n) → ls.length ≤ most →
      SrSt f g onto e t_i64 t_Si64 w0 fa ga vord vfix ord b most w found vs ls → Ow w0.heap.size t_i64 w vim (ints (partL f.n ord ys)) →
      Cal Tryz.prog f_spec_l21Search #[.pointer (some ⟨b, 0, none⟩), vim, .int .i64 (ys.length : Int)] w fun v w' => v = .tuple #[] ∧ ∃ found' vs' ls', SrSt f g onto e t_i64 t_Si64 w0 fa ga vord vfix ord b most w' found' vs' ls' ∧
        ls' = (ls ++ (srch f g fix onto ord d ys).map (partL f.n ord)).take most ∧ Ch (fun k => k = b ∨ found.ownBlock = some k) w w' ∧ ∀ c, found'.ownBlock = some c → found.ownBlock = some c ∨ w.heap.size ≤ c := by
  have hf8 := hf.1
  have hg8 := hg.1
  intro d
  induction d with
  | zero =>
    intro ys w vim found vs ls hlen hm hls hst hvim
    have hpl := part_length f.n ord ys
    have hplt := part_lt (n := f.n) (ord := ord) hm
    have hvl := hst.len
    apply c_spec_l21Search; unfold S_spec_l21Search
    refine iJnB (!openB f g fix onto (partL f.n ord ys) || decide (most ≤ ls.length)) w (fun J hJ => ?_) (fun w2 h2 => ?_)
    · refine iRetQ (fun w' h' => ok_spec_l21Open hf hg hpl hplt hfl (hst.later h').blk (hfa.ext (hst.later h').ext) (hga.ext (hst.later h').ext) (hfix.ext (hst.later h').ext) (hvim.ext h').sl) ?_
      ((with_reducible refine iNot ?_))
      cases hop : openB f g fix onto (partL f.n ord ys)
      · refine iCndT rfl ?_
        intro w3 h3
        have := hJ w3 h3
        rwa [hop] at this
      · refine iCndF rfl ?_
        have hB := hst.blk
        have hfs := hst.ow.sl
        ((with_reducible refine iNil ?_; refine iFa ?_); refine iLdB (by assumption) (by first | rfl | simp) ?_; (with_reducible refine iLenS (by assumption) ?_; refine iNil ?_; refine iFa ?_); refine iLdB (by assumption) (by first | rfl | simp) ?_; (with_reducible refine iLe ?_))
        intro w4 h4
        have := hJ w4 h4
        rw [hop, Bool.not_true, Bool.false_or] at this
        have e3 : decide ((most : Int) ≤ (vs.length : Int)) = decide (most ≤ ls.length) := decide_eq_decide.2 (by omega)
        rw [e3]; exact this
    have hst2 := hst.later h2
    have hvim2 := hvim.ext h2
    have hch2 : Ch (fun k => k = b ∨ found.ownBlock = some k) w w2 := h2.ch
    (intro _; (try simp only [gx]))
    cases hT : (!openB f g fix onto (partL f.n ord ys) || decide (most ≤ ls.length))
    case true =>
      refine iCndT rfl ⟨by trivial, found, vs, ls, hst2, ?_, hch2, fun c hc => .inl hc⟩
      rw [Bool.or_eq_true, Bool.not_eq_true', decide_eq_true_eq] at hT
      rcases hT with hT | hT
      · unfold srch
        rw [hT, if_neg (by simp), List.map_nil, List.append_nil, List.take_of_length_le hls]
      · rw [List.take_append_of_le_length hT, List.take_of_length_le hls]
    rw [Bool.or_eq_false_iff, Bool.not_eq_false', decide_eq_false_iff_not] at hT
    obtain ⟨hop, hmo⟩ := hT
    refine iCndF rfl ?_
    have hB2 := hst2.blk
    have hos : SlN w2 vord ord := hst2.ord.sl
    have hol := hord.len
    ((with_reducible refine iNil ?_; refine iFa ?_); refine iLdB (by assumption) (by first | rfl | simp) ?_; (with_reducible refine iLenN (by assumption) ?_; refine iEq ?_))
    refine iCndP (fun h3 => ?_) (fun h3 => absurd (show (ys.length : Int) = ord.length by omega) h3)
    ((with_reducible refine iNil ?_; refine iFa ?_); refine iLdB (by assumption) (by first | rfl | simp) ?_)
    intro w5 h
    have hst5 := hst2.later h
    have hch5 := hch2.trans (h.ch (S := fun _ => False)) (fun _ h => h.elim)
    refine iCall ((ok_spec_l01Own (hvim2.ext h).sl (by rw [hpl]; omega)).mono ?_)
    rintro u w6 ⟨h, ho⟩
    (try refine ⟨h, ?_⟩)
    have hnew : ∀ x ∈ vs, ∀ c, x.ownBlock = some c → u.ownBlock ≠ some c := fun x hx c hc e => by have := (hst5.owl.lt hx hc).2; have := (ho.blk c e).1; omega
    have hsz5 := hst5.ext.size
    have hst6 := hst5.later h
    have hch6 := hch5.trans (h.ch (S := fun _ => False)) (fun _ h => h.elim)
    intro w7 h
    have hst7 := hst6.later h
    have hch7 := hch6.trans (h.ch (S := fun _ => False)) (fun _ h => h.elim)
    have ho := ho.ext h
    refine iBs1 rfl ho.cell fun bb w8 hbb h hBb => ?_
    (try refine ⟨h, ?_⟩)
    have hst8 := hst7.later h
    have hch8 := hch7.trans (h.ch (S := fun _ => False)) (fun _ h => h.elim)
    have ho := ho.ext h
    intro w9 h
    have hst9 := hst8.later h
    have hch9 := hch8.trans (h.ch (S := fun _ => False)) (fun _ h => h.elim)
    have ho := ho.ext h
    have hBb := hBb.ext h
    refine iAppA u_SSi64 i_SSi64 rfl hst9.ow (Sl.ofBlk hBb rfl (by omega)) (fun x hx => by simp at hx; subst hx; exact ho.cell) (by simp; omega) (by simp; omega) hst9.ext.size fun found' w10 hf' hg' hat => ?_
    have hfb : found.ownBlock ≠ some b := hst9.ow.ne_blk hst9.blk (fun h => he2 h)
    have hB10 := hst9.blk.grown hg' hfb
    have hgc := grown_ch (S := fun k => found.ownBlock = some k) hg' (fun k hk => hk)
    have hord10 := hst9.ord.ch hgc (fun c hc he => hst9.ord.ne_ow hst9.ow (by decide) hc he)
    have hol10 := hst9.owl.ch hgc (fun x hx c hc he => by
      obtain ⟨l, hl⟩ := hst9.owl.ow hx
      exact hl.ne_ow hst9.ow (by decide) hc he)
    have ho10 := ho.ch hgc (fun c hc he => ho.ne_ow hst9.ow (by decide) hc he)
    have hch10 := hch9.trans hgc (fun k hk => .inl (.inr hk))
    ((with_reducible refine iNil ?_; refine iFa ?_))
    intro w11 h
    have hB11 := hB10.ext h
    have hord11 := hord10.ext h
    have hol11 := hol10.ext h
    have ho11 := ho10.ext h
    have hf11 := hf'.ext h
    have hch11 := hch10.trans (h.ch (S := fun _ => False)) (fun _ h => h.elim)
    refine iStB hB11 (by simp) hf'.cell fun hB12 => ?_
    have hu := Upd.setCell w11 b 8 found'
    have hch12 := hch11.trans (hu.ch (S := fun k => k = b) rfl) (fun k hk => .inl (.inl hk))
    have hord12 := hord11.upd hu (hord11.ne_blk hB11 (fun h => he1 h))
    have hf12 := hf11.upd hu (hf11.ne_blk hB11 (fun h => he2 h))
    have ho12 := ho11.upd hu (ho11.ne_blk hB11 (fun h => he1 h))
    have hol12 := hol11.ch (hu.ch (S := fun k => k = b) rfl) (fun x hx c hc he => by
      obtain ⟨l, hl⟩ := hol11.ow hx
      exact hl.ne_blk hB11 (fun h => he1 h) (by rw [hc, he]))
    intro w13 h
    have hS : ∀ c, (c = b ∨ found.ownBlock = some c) → w0.heap.size ≤ c := fun c hc => by
      rcases hc with rfl | hc
      · exact hb
      · exact (hst.ow.blk c hc).1
    have hL : srch f g fix onto ord 0 ys = [ys] := by
      unfold srch
      rw [if_pos hop]; rfl
    refine ⟨by trivial, found', vs ++ [u], ls ++ [partL f.n ord ys], ⟨(hst.ext.thenCh hch12 hS).trans h, hB12.ext h, hord12.ext h, hf12.ext h, ?_⟩, ?_, hch12.trans (h.ch (S := fun _ => False)) (fun _ h => h.elim), fun c hc => ?_⟩
    · rw [List.map_append]
      exact (hol12.ext h).snoc ((ho12.ext h).mono hsz5) hnew
    · rw [hL, List.take_of_length_le]
      · rfl
      · simp; omega
    · rcases hat with h1 | ⟨c', h1, h2⟩
      · exact .inl (by rw [← h1]; exact hc)
      · rw [h1] at hc; cases hc
        have := hch9.size
        exact .inr (by omega)
  | succ d ih =>
    intro ys w vim found vs ls hlen hm hls hst hvim
    have hpl := part_length f.n ord ys
    have hplt := part_lt (n := f.n) (ord := ord) hm
    have hvl := hst.len
    apply c_spec_l21Search; unfold S_spec_l21Search
    refine iJnB (!openB f g fix onto (partL f.n ord ys) || decide (most ≤ ls.length)) w (fun J hJ => ?_) (fun w2 h2 => ?_)
    · refine iRetQ (fun w' h' => ok_spec_l21Open hf hg hpl hplt hfl (hst.later h').blk (hfa.ext (hst.later h').ext) (hga.ext (hst.later h').ext) (hfix.ext (hst.later h').ext) (hvim.ext h').sl) ?_
      ((with_reducible refine iNot ?_))
      cases hop : openB f g fix onto (partL f.n ord ys)
      · refine iCndT rfl ?_
        intro w3 h3
        have := hJ w3 h3
        rwa [hop] at this
      · refine iCndF rfl ?_
        have hB := hst.blk
        have hfs := hst.ow.sl
        ((with_reducible refine iNil ?_; refine iFa ?_); refine iLdB (by assumption) (by first | rfl | simp) ?_; (with_reducible refine iLenS (by assumption) ?_; refine iNil ?_; refine iFa ?_); refine iLdB (by assumption) (by first | rfl | simp) ?_; (with_reducible refine iLe ?_))
        intro w4 h4
        have := hJ w4 h4
        rw [hop, Bool.not_true, Bool.false_or] at this
        have e3 : decide ((most : Int) ≤ (vs.length : Int)) = decide (most ≤ ls.length) := decide_eq_decide.2 (by omega)
        rw [e3]; exact this
    have hst2 := hst.later h2
    have hvim2 := hvim.ext h2
    have hch2 : Ch (fun k => k = b ∨ found.ownBlock = some k) w w2 := h2.ch
    (intro _; (try simp only [gx]))
    cases hT : (!openB f g fix onto (partL f.n ord ys) || decide (most ≤ ls.length))
    case true =>
      refine iCndT rfl ⟨by trivial, found, vs, ls, hst2, ?_, hch2, fun c hc => .inl hc⟩
      rw [Bool.or_eq_true, Bool.not_eq_true', decide_eq_true_eq] at hT
      rcases hT with hT | hT
      · unfold srch
        rw [hT, if_neg (by simp), List.map_nil, List.append_nil, List.take_of_length_le hls]
      · rw [List.take_append_of_le_length hT, List.take_of_length_le hls]
    rw [Bool.or_eq_false_iff, Bool.not_eq_false', decide_eq_false_iff_not] at hT
    obtain ⟨hop, hmo⟩ := hT
    refine iCndF rfl ?_
    have hB2 := hst2.blk
    have hos : SlN w2 vord ord := hst2.ord.sl
    have hol := hord.len
    ((with_reducible refine iNil ?_; refine iFa ?_); refine iLdB (by assumption) (by first | rfl | simp) ?_; (with_reducible refine iLenN (by assumption) ?_; refine iEq ?_))
    refine iCndP (fun h3 => absurd h3 (by omega)) (fun h3 => ?_)
    have hk : ys.length < f.n := by omega
    have hx : ord.getD ys.length 0 < f.n := by
      have h4 : ys.length < ord.length := by omega
      have e4 : ord.getD ys.length 0 = ord[ys.length] := by simp [List.getD_eq_getElem?_getD, h4]
      rw [e4]; exact hord.lt _ (List.getElem_mem h4)
    have hgx := fr_lt63 hf (ord.getD ys.length 0)
    have hnS : ∀ c, vim.ownBlock = some c → ¬ (c = b ∨ found.ownBlock = some c) := fun c hc => by
      rintro (rfl | h1)
      · exact hvim.ne_blk hst.blk (fun h => he1 h) hc
      · exact hvim.ne_ow hst.ow (by decide) hc h1
    ((with_reducible refine iNil ?_; refine iFa ?_); refine iLdB (by assumption) (by first | rfl | simp) ?_; (with_reducible refine iIaNN (by assumption) ?_ (fun pa_ hpa_ => ?_)); omega; (with_reducible refine iLd (by assumption) ?_))
    refine iLp (fun k : Nat => [.int .i64 (k : Int)]) (fun k w' => k ≤ g.n ∧ ∃ found' vs' ls', SrSt f g onto e t_i64 t_Si64 w0 fa ga vord vfix ord b most w' found' vs' ls' ∧
        ls' = (ls ++ ((List.range k).flatMap fun y => if stepB f g fix ord (ys ++ [y]) then srch f g fix onto ord d (ys ++ [y]) else []).map (partL f.n ord)).take most ∧ Ch (fun k => k = b ∨ found.ownBlock = some k) w w' ∧ ∀ c, found'.ownBlock = some c → found.ownBlock = some c ∨ w.heap.size ≤ c)
      (fun k => g.n - k) 0 rfl ⟨Nat.zero_le _, found, vs, ls, hst2, by rw [List.range_zero, List.flatMap_nil, List.map_nil, List.append_nil, List.take_of_length_le hls], hch2, fun c hc => .inl hc⟩ ?_
    rintro k w15 Kn ⟨hkg, found', vs', ls', hst', hls', hch, hfb⟩ hKn
    have hB15 := hst'.blk
    have hfix15 := hfix.ext hst'.ext
    (intro _; (try simp only [gx]); (with_reducible refine iNil ?_; refine iFa ?_; refine iFa ?_); refine iLdB (by assumption) (by first | rfl | simp) ?_; (with_reducible refine iLt ?_))
    refine iCndP (fun h4 => ?_) (fun h4 => ?_)
    · have hk1 : k < g.n := by omega
      have hgk := fr_lt63 hg k
      have hnext : ∀ w', (∃ found' vs' ls', SrSt f g onto e t_i64 t_Si64 w0 fa ga vord vfix ord b most w' found' vs' ls' ∧
          ls' = (ls ++ ((List.range (k + 1)).flatMap fun y => if stepB f g fix ord (ys ++ [y]) then srch f g fix onto ord d (ys ++ [y]) else []).map (partL f.n ord)).take most ∧ Ch (fun k => k = b ∨ found.ownBlock = some k) w w' ∧ ∀ c, found'.ownBlock = some c → found.ownBlock = some c ∨ w.heap.size ≤ c) → Kn [.int .i64 ((k + 1 : Nat) : Int)] w' := fun w' h => hKn (k + 1) _ ⟨by omega, h⟩ (by omega)
      have hflat : ((List.range (k + 1)).flatMap fun y => if stepB f g fix ord (ys ++ [y]) then srch f g fix onto ord d (ys ++ [y]) else []) = ((List.range k).flatMap fun y => if stepB f g fix ord (ys ++ [y]) then srch f g fix onto ord d (ys ++ [y]) else []) ++ if stepB f g fix ord (ys ++ [k]) then srch f g fix onto ord d (ys ++ [k]) else [] := by
        rw [List.range_succ, List.flatMap_append]; simp
      have hlast : (ys ++ [k]).length - 1 = ys.length := by simp
      have hgl : (ys ++ [k]).getD ys.length 0 = k := by simp [List.getD_eq_getElem?_getD]
      have hstepB : stepB f g fix ord (ys ++ [k]) = ((decide (fix.getD (ord.getD ys.length 0) 0 < 0) || decide (fix.getD (ord.getD ys.length 0) 0 = (k : Int))) && decide (imgP (partL f.n ord (ys ++ [k])) (f.a.getD (ord.getD ys.length 0) 0) = g.a.getD k 0)) := by
        unfold stepB
        rw [hlast, hgl]
      refine iJnB (decide (0 ≤ fix.getD (ord.getD ys.length 0) 0) && !decide (fix.getD (ord.getD ys.length 0) 0 = (k : Int))) w15 (fun J hJ => ?_) (fun w17 h17 => ?_)
      · ((with_reducible refine iNil ?_; refine iFa ?_); refine iLdB (by assumption) (by first | rfl | simp) ?_; (with_reducible refine iIaN (by assumption) ?_ (fun pa_ hpa_ => ?_)); omega; (with_reducible refine iLd (by assumption) ?_; refine iLe ?_))
        refine iCndP (fun h5 => ?_) (fun h5 => ?_)
        · ((with_reducible refine iNil ?_; refine iFa ?_); refine iLdB (by assumption) (by first | rfl | simp) ?_; (with_reducible refine iIaN (by assumption) ?_ (fun pa_ hpa_ => ?_)); omega; (with_reducible refine iLd (by assumption) ?_; refine iNe ?_))
          have := hJ w15 (Ext.refl _)
          rw [decide_eq_true h5, Bool.true_and] at this
          have e5 : decide (¬ fix.getD (ord.getD ys.length 0) 0 = (k : Int)) = !decide (fix.getD (ord.getD ys.length 0) 0 = (k : Int)) := by simp
          rw [e5]; exact this
        · have := hJ w15 (Ext.refl _)
          rwa [decide_eq_false h5, Bool.false_and] at this
      · have hst17 := hst'.later h17
        have hch17 := hch.trans (h17.ch (S := fun _ => False)) (fun _ h => h.elim)
        have hvim17 := hvim.ch hch17 hnS
        (intro _; (try simp only [gx]))
        cases hT2 : (decide (0 ≤ fix.getD (ord.getD ys.length 0) 0) && !decide (fix.getD (ord.getD ys.length 0) 0 = (k : Int)))
        · refine iCndF rfl ?_
          have hfixok : (decide (fix.getD (ord.getD ys.length 0) 0 < 0) || decide (fix.getD (ord.getD ys.length 0) 0 = (k : Int))) = true := by
            rw [Bool.and_eq_false_iff] at hT2
            rw [Bool.or_eq_true, decide_eq_true_eq, decide_eq_true_eq]
            rcases hT2 with h | h
            · have := of_decide_eq_false h; exact .inl (by omega)
            · rw [Bool.not_eq_false', decide_eq_true_eq] at h; exact .inr h
          rw [hfixok, Bool.true_and] at hstepB
          refine iCall ((ok_spec_l01Own hvim17.sl (by rw [hpl]; omega)).mono ?_)
          rintro u w18 ⟨h18, hou⟩
          have hil : (ints (partL f.n ord ys)).length = f.n := by rw [ints_length, hpl]
          refine iIaOwE hou (by omega) fun bu hbu hwr => ?_
          obtain ⟨hc1, hc2, hc3⟩ := hwr w18 _ rfl hou
          rw [List.getElem?_eq_getElem (by omega)] at hc1
          refine iSt hc1 hc2 rfl ?_
          have hou2 := hc3 (.int .i64 (k : Int))
          have hset : (ints (partL f.n ord ys)).set (ord.getD ys.length 0) (.int .i64 (k : Int)) = ints (partL f.n ord (ys ++ [k])) := by
            rw [part_snoc hord hk]; simp [ints, List.map_set]
          rw [hset] at hou2
          have hX19 : Ext w17 (w18.setCell ⟨bu, ord.getD ys.length 0, none⟩ (.int .i64 (k : Int))) := h18.upd (Upd.setCell _ _ _ _) (hou.blk bu hbu).1
          have hst19 := hst17.later hX19
          have hch19 := hch17.trans (hX19.ch (S := fun _ => False)) (fun _ h => h.elim)
          have hm' : ∀ y ∈ ys ++ [k], y < g.n := fun y hy => by
            simp at hy
            rcases hy with hy | rfl
            · exact hm y hy
            · exact hk1
          have hpl' := part_length f.n ord (ys ++ [k])
          have hplt' := part_lt (n := f.n) (ord := ord) hm'
          have hB19 := hst19.blk
          have hfa19 := hfa.ext hst19.ext
          have hga19 := hga.ext hst19.ext
          have hlen' : (ys ++ [k]).length = ys.length + 1 := by simp
          have hfal := hf.2.1
          have hgal := hg.2.1
          ((with_reducible refine iNil ?_; refine iFa ?_; refine iFa ?_); refine iLdB (by assumption) (by first | rfl | simp) ?_; (with_reducible refine iIaNN (by assumption) ?_ (fun pa_ hpa_ => ?_)); omega; (with_reducible refine iLd (by assumption) ?_))
          refine iRetQ (fun w' h' => ok_spec_l21Images (hou2.ext h').sl (by rw [hpl']; omega) (fun y hy => by have := (hplt' y hy).2; omega) _ (by rw [hpl']; exact hf.lt hx)) ?_
          ((with_reducible refine iNil ?_; refine iFa ?_; refine iFa ?_); refine iLdB (by assumption) (by first | rfl | simp) ?_; (with_reducible refine iIaNN (by assumption) ?_ (fun pa_ hpa_ => ?_)); omega; (with_reducible refine iLd (by assumption) ?_; refine iEq ?_))
          intro w20 h20
          have hst20 := hst19.later h20
          have hch20 := hch19.trans (h20.ch (S := fun _ => False)) (fun _ h => h.elim)
          have hou20 := hou2.ext h20
          refine iCndP (fun h9 => ?_) (fun h9 => ?_)
          · have hst : stepB f g fix ord (ys ++ [k]) = true := by rw [hstepB]; exact decide_eq_true (by omega)
            rw [hst, if_pos rfl] at hflat
            (refine iAdd (by omega) ?_)
            have hc2 : (ys.length : Int) + 1 = ((ys ++ [k]).length : Int) := by rw [hlen']; omega
            rw [hc2]
            refine iCall ((ih (ys ++ [k]) w20 u found' vs' ls' (by omega) hm' (by rw [hls', List.length_take]; omega) hst20 (hou20.mono hst17.ext.size)).mono ?_)
            rintro _ w21 ⟨rfl, found2, vs2, ls2, hst21, hls21, hch21, hfb21⟩
            (refine iAdd (by omega) ?_)
            refine hnext w21 ⟨found2, vs2, ls2, hst21, ?_, hch20.trans hch21 (fun c hc => ?_), fun c hc => ?_⟩
            · rw [hls21, hls', hflat, List.map_append, ← List.append_assoc]
              exact take_take_append _ _ _
            · rcases hc with rfl | hc
              · exact .inl (.inl rfl)
              · exact (hfb c hc).imp .inr id
            · rcases hfb21 c hc with h1 | h1
              · exact hfb c h1
              · have := hch20.size
                exact .inr (by omega)
          · have hsf : stepB f g fix ord (ys ++ [k]) = false := by rw [hstepB]; exact decide_eq_false (by omega)
            (refine iAdd (by omega) ?_)
            refine hnext w20 ⟨found', vs', ls', hst20, ?_, hch20, hfb⟩
            rw [hflat, hsf, if_neg (by simp), List.append_nil]; exact hls'
        · refine iCndT rfl ?_
          (refine iAdd (by omega) ?_)
          have hsf : stepB f g fix ord (ys ++ [k]) = false := by
            rw [Bool.and_eq_true, decide_eq_true_eq, Bool.not_eq_true', decide_eq_false_iff_not] at hT2
            rw [hstepB, decide_eq_false (show ¬ fix.getD (ord.getD ys.length 0) 0 < 0 by omega), decide_eq_false hT2.2]; rfl
          refine hnext w17 ⟨found', vs', ls', hst17, ?_, hch17, hfb⟩
          rw [hflat, hsf, if_neg (by simp), List.append_nil]; exact hls'
    · obtain rfl : k = g.n := by omega
      refine ⟨by trivial, found', vs', ls', hst', ?_, hch, hfb⟩
      rw [hls', srch_succ _ _ _ _ _ _ _ hop]
end Go.Proofs.YtikfhibcdhdglaaGreat

/- Contracts: depths in posets, and the reference's search for p-morphisms from its start. Conditions: none. -/
namespace Go.Vc
theorem iMaxN {a b : Nat} {k : IntKind} {K : Value → Prop} (h : K (.int k ((max a b : Nat) : Int))) : xMax (.int k (a : Int)) (.int k (b : Int)) K := by
  refine ⟨_, _, _, _, rfl, rfl, ?_⟩
  have e : (if (b : Int) > (a : Int) then (b : Int) else (a : Int)) = ((max a b : Nat) : Int) := by split <;> omega
  rw [e]; exact h
/-- What a search finds, as the reference lays it. -/
def findP (f g : Fr) (fix : List Int) (onto : Bool) (most : Nat) : List (List Int) := ((srch f g fix onto (ordOf f) f.n []).map (partL f.n (ordOf f))).take most
theorem part_nil (n : Nat) (ord : List Nat) : partL n ord [] = List.replicate n (-1) := by
  apply List.ext_getElem
  · simp [partL]
  · intro i h1 h2
    simp [partL]
theorem depF_succ (f : Fr) (k x : Nat) : depF f (k + 1) x = bestF (depF f k) (aboveB f x) f.n + 1 := rfl
theorem dep_unf {f : Fr} (hp : Po f) (x : Nat) : dep f x = bestF (dep f) (aboveB f x) f.n + 1 := by
  have h : bestF (depF f 8) (aboveB f x) f.n = bestF (dep f) (aboveB f x) f.n := by
    refine bestF_congr f.n fun u hu hb => ?_
    have h7 := popc_above hp hb
    have h8 := popc_le8 hp.ok x
    have h9 := hp.ok.1
    exact dep_eq hp hu (by omega)
  rw [← h]
  exact depF_succ f 8 x
theorem dep_le {f : Fr} (hp : Po f) {x : Nat} (hx : x < f.n) : dep f x ≤ f.n := Nat.le_trans (depF_le hp 9 x hx) (popc_le8 hp.ok x)
theorem getD_range {n k : Nat} (h : k < n) : (List.range n).getD k 0 = k := by simp [List.getD_eq_getElem?_getD, h]
end Go.Vc
namespace Go.Proofs.YtikfhibcdhdglaaGreat
open Go.Vc
theorem ok_spec_l05Reach_po {f : Fr} (hp : Po f) {v : Value} {w : World} (hs : SlN w v f.a) (m : Nat) (hm : m < 2 ^ f.n) : Ret Tryz.prog f_spec_l05Reach #[.agg #[.int .i64 (f.n : Int), v], .int .i64 (m : Int)] w (.int .i64 ((rowsK f.a m f.n : Nat) : Int)) := by
  apply c_spec_l05Reach; unfold S_spec_l05Reach
  have hf8 := hp.ok.1
  have hfl := hp.ok.2.1
  have h63 : ∀ z, z < 2 ^ f.n → z < 2 ^ 63 := fun z hz => Nat.lt_of_lt_of_le hz (Nat.pow_le_pow_right (by omega) (by omega))
  refine iNew fun b w1 hb1 h1 hB => ?_
  refine iLp (fun s : Nat => [.int .i64 (s : Int)]) (fun s w' => (s = m ∨ s = rowsK f.a m f.n) ∧ Ext w1 w') (fun s => if s = rowsK f.a m f.n then 0 else 1) m rfl ⟨.inl rfl, Ext.refl _⟩ ?_
  rintro s w3 Kn ⟨hsm, h3⟩ hKn
  have hB3 := hB.ext h3
  have hs3 : SlN w3 v f.a := (hs.ext h1).ext h3
  have hslt : s < 2 ^ f.n := by
    rcases hsm with rfl | rfl
    · exact hm
    · exact rowsK_lt hp.ok.2.2 m f.n
  have hrlt := rowsK_lt hp.ok.2.2 s f.n
  have hri := ok_spec_l01Image hs3 (show f.n ≤ 62 by omega) hp.ok.2.2 (by omega) s (h63 _ hslt)
  rw [hfl] at hri
  (intro _; (try simp only [gx]); (with_reducible refine iFa ?_); refine iLdB (by assumption) (by first | rfl | simp) ?_)
  refine iRet hri fun w4 h4 => ?_
  refine iBAndNot (h63 _ hrlt) (h63 _ hslt) ?_
  ((with_reducible refine iNe ?_))
  refine iCndP (fun h5 => ?_) (fun h5 => ?_)
  · have hB4 := hB3.ext h4
    have hs4 := hs3.ext h4
    have hri4 := ok_spec_l01Image hs4 (show f.n ≤ 62 by omega) hp.ok.2.2 (by omega) s (h63 _ hslt)
    rw [hfl] at hri4
    ((with_reducible refine iFa ?_); refine iLdB (by assumption) (by first | rfl | simp) ?_)
    refine iRet hri4 fun w5 h6 => ?_
    refine iBOr (h63 _ hslt) (h63 _ hrlt) ?_
    have hsm' : s = m := by
      rcases hsm with h | h
      · exact h
      · exfalso
        apply h5
        rw [h, rows_rows hp]; rfl
    have hor : s ||| rowsK f.a s f.n = rowsK f.a m f.n := by
      rw [hsm']
      apply Nat.eq_of_testBit_eq
      intro j
      rw [Nat.testBit_or, Bool.eq_iff_iff, Bool.or_eq_true]
      exact ⟨fun h => h.elim (rows_sub hp hm j) id, .inr⟩
    rw [hor]
    refine hKn _ _ ⟨.inr rfl, h3.trans (h4.trans h6)⟩ ?_
    rw [if_pos rfl, if_neg]
    · omega
    · rintro h
      apply h5
      rw [h, rows_rows hp]; rfl
  · refine ⟨?_, h1.trans (h3.trans h4)⟩
    have hz : sdiff (rowsK f.a s f.n) s = 0 := by omega
    have : s = rowsK f.a m f.n := by
      rcases hsm with rfl | h
      · apply Nat.eq_of_testBit_eq
        intro j
        rw [Bool.eq_iff_iff]
        exact ⟨rows_sub hp hm j, fun h => (sdiff_eq_zero.1 hz) j h⟩
      · exact h
    rw [← this]
theorem ok_reach_one {f : Fr} (hp : Po f) {v : Value} {w : World} (hs : SlN w v f.a) {x : Nat} (hx : x < f.n) : Ret Tryz.prog f_spec_l05Reach #[.agg #[.int .i64 (f.n : Int), v], .int .i64 ((2 ^ x : Nat) : Int)] w (.int .i64 ((f.a.getD x 0 : Nat) : Int)) := by
  have := ok_spec_l05Reach_po hp hs (2 ^ x) (Nat.pow_lt_pow_right (by omega) hx)
  rwa [rows_one hp.ok hx] at this
theorem ok_spec_l05Clusters_po {f : Fr} (hp : Po f) {v : Value} {w : World} (hs : SlN w v f.a) : Cal Tryz.prog f_spec_l05Clusters #[.agg #[.int .i64 (f.n : Int), v]] w fun u w' => Ext w w' ∧ Ow w.heap.size t_i64 w' u (ints (nats (List.range f.n))) := by
  apply c_spec_l05Clusters; unfold S_spec_l05Clusters
  have hf8 := hp.ok.1
  have hfl := hp.ok.2.1
  refine iNew fun b w1 hb1 h1 hB => ?_
  refine iBs0 fun v8 w2 _ h2 ho => ?_
  obtain ⟨e, hne, hB⟩ : ∃ e, t_i64 ≠ e ∧ Blk e w2 b [.int .i64 (f.n : Int), v] := ⟨_, by decide, hB.ext h2⟩
  have hX2 := h1.trans h2
  have hsz1 := h1.size
  have ho := ho.mono hsz1
  refine iLp (fun s : Value × Nat => [s.1, .int .i64 (s.2 : Int), .int .i64 (s.2 : Int)]) (fun s w' => s.2 ≤ f.n ∧ Ext w w' ∧ Blk e w' b [.int .i64 (f.n : Int), v] ∧ Ow w.heap.size t_i64 w' s.1 (ints (nats (List.range s.2)))) (fun s => f.n - s.2) (v8, 0) rfl ⟨Nat.zero_le _, hX2, hB, ho⟩ ?_
  rintro ⟨u, k⟩ w4 Kn ⟨hk, hX4, hB4, ho4⟩ hKn
  have hk : k ≤ f.n := hk
  have ho4 : Ow w.heap.size t_i64 w4 u (ints (nats (List.range k))) := ho4
  have hs4 := hs.ext hX4
  (intro _; (try simp only [gx]); (with_reducible refine iFa ?_); refine iLdB (by assumption) (by first | rfl | simp) ?_; (with_reducible refine iLt ?_))
  refine iCndP (fun h5 => ?_) (fun h5 => ?_)
  · have hk1 : k < f.n := by omega
    have hgk := fr_lt63 hp.ok k
    refine iLp (fun j : Nat => [.int .i64 (-1), .int .i64 (j : Int)]) (fun j w' => j ≤ k ∧ Ext w4 w') (fun j => k - j) 0 rfl ⟨Nat.zero_le _, Ext.refl _⟩ ?_
    rintro j w6 Kn6 ⟨hj, h6⟩ hKn6
    have hB6 := hB4.ext h6
    have hs6 := hs4.ext h6
    have ho6 := ho4.ext h6
    (intro _; (try simp only [gx]); (with_reducible refine iLt ?_))
    refine iCndP (fun h7 => ?_) (fun h7 => ?_)
    · have hgj := fr_lt63 hp.ok j
      have hj1 : j < f.n := by omega
      refine iJnB false w6 (fun J hJ => ?_) (fun w8 h8 => ?_)
      · ((with_reducible refine iLt ?_))
        refine iCndP (fun _ => ?_) (fun h => absurd (show (-1 : Int) < 0 by omega) h)
        ((with_reducible refine iLdA (by assumption) ?_ ?_); rfl)
        refine iRetQ (fun w' h' => ok_spec_l01One k (by omega) w') ?_
        refine iRetQ (fun w' h' => ok_reach_one hp (hs6.ext h') hk1) ?_
        refine iRetQ (fun w' h' => ok_spec_l01Bit _ j (by omega) (by omega) w') ?_
        refine iCnd (fun hb1 => ?_) (fun hb1 => ?_)
        · ((with_reducible refine iLdA (by assumption) ?_ ?_); rfl)
          refine iRetQ (fun w' h' => ok_spec_l01One j (by omega) w') ?_
          refine iRetQ (fun w' h' => ok_reach_one hp (hs6.ext h') hj1) ?_
          refine iRetQ (fun w' h' => ok_spec_l01Bit _ k (by omega) (by omega) w') ?_
          intro w9 h9
          have hb2 : (f.a.getD j 0).testBit k = false := by
            rw [Bool.eq_false_iff]
            intro hb2
            have := hp.anti k j hb1 hb2
            omega
          rw [hb2]
          exact hJ w9 h9
        · exact fun w9 h9 => hJ w9 h9
      · (intro _; (try simp only [gx]))
        refine iCndF rfl ?_
        (refine iAdd (by omega) ?_)
        exact hKn6 (j + 1) _ ⟨by omega, h6.trans h8⟩ (by omega)
    · ((with_reducible refine iLt ?_))
      refine iJn ?_
      refine iCndP (fun _ => ?_) (fun h => absurd (show (-1 : Int) < 0 by omega) h)
      (refine iAdd (by omega) ?_; intro _; (try simp only [gx]))
      have hil : (ints (nats (List.range k))).length = k := by rw [ints_length, nats_length, List.length_range]
      refine iApp1 u_Si64 i_Si64 rfl ho6 rfl (by omega) (by omega) (hX4.trans h6).size fun v' w7 ho' hg => ?_
      rw [ints_snoc, ← List.range_succ] at ho'
      (refine iAdd (by omega) ?_)
      refine hKn (v', k + 1) _ ⟨by show k + 1 ≤ f.n; omega, (hX4.trans h6).grown hg (fun c hc => (ho6.blk c hc).1), hB6.grown hg (ho6.ne_blk hB6 hne), ho'⟩ (by show f.n - (k + 1) < f.n - k; omega)
  · have : k = f.n := by omega
    subst this
    exact ⟨hX4, ho4⟩
theorem ok_spec_l05Depth_po {f : Fr} (hp : Po f) : ∀ (d x : Nat), x < f.n → popc (f.a.getD x 0) ≤ d → ∀ (v vc : Value) (w : World), SlN w v f.a → SlN w vc (List.range f.n) →
    Ret Tryz.prog f_spec_l05Depth #[.agg #[.int .i64 (f.n : Int), v], vc, .int .i64 (x : Int)] w (.int .i64 ((dep f x : Nat) : Int)) := by
  have hf8 := hp.ok.1
  have hfl := hp.ok.2.1
  intro d
  induction d with
  | zero => intro x hx h; have := popc_pos hp hx; omega
  | succ d ih =>
    intro x hx hd v vc w hs hc
    apply c_spec_l05Depth; unfold S_spec_l05Depth
    have hgx := fr_lt63 hp.ok x
    have hrl : (List.range f.n).length = f.n := List.length_range
    refine iNew fun b w1 hb1 h1 hB => ?_
    have hs1 := hs.ext h1
    have hc1 := hc.ext h1
    ((with_reducible refine iLdA (by assumption) ?_ ?_); rfl)
    refine iRetQ (fun w' h' => ok_spec_l01One x (by omega) w') ?_
    refine iRetQ (fun w' h' => ok_reach_one hp (hs1.ext h') hx) ?_
    intro w2 h2
    have hB2 := hB.ext h2
    have hs2 := hs1.ext h2
    have hc2 := hc1.ext h2
    refine iLp (fun k : Nat => [.int .i64 ((bestF (dep f) (aboveB f x) k : Nat) : Int), .int .i64 (k : Int)]) (fun k w' => k ≤ f.n ∧ Ext w2 w') (fun k => f.n - k) 0 rfl ⟨Nat.zero_le _, Ext.refl _⟩ ?_
    rintro k w4 Kn ⟨hk, h4⟩ hKn
    have hB4 := hB2.ext h4
    have hs4 := hs2.ext h4
    have hc4 := hc2.ext h4
    (intro _; (try simp only [gx]); (with_reducible refine iFa ?_); refine iLdB (by assumption) (by first | rfl | simp) ?_; (with_reducible refine iLt ?_))
    refine iCndP (fun h5 => ?_) (fun h5 => ?_)
    · have hk1 : k < f.n := by omega
      have hbs := bestF_succ (dep f) (aboveB f x) k
      refine iJnB (aboveB f x k) w4 (fun J hJ => ?_) (fun w6 h6 => ?_)
      · ((with_reducible refine iIaNN (by assumption) ?_ (fun pa_ hpa_ => ?_)); omega; (with_reducible refine iLd (by assumption) ?_); (with_reducible refine iIaNN (by assumption) ?_ (fun pa_ hpa_ => ?_)); omega; (with_reducible refine iLd (by assumption) ?_; refine iNe ?_))
        rw [getD_range hk1, getD_range hx]
        refine iCndP (fun h7 => ?_) (fun h7 => ?_)
        · have e : aboveB f x k = (f.a.getD x 0).testBit k := by
            unfold aboveB
            rw [decide_eq_false (show ¬ k = x by omega)]; rfl
          refine iRetQ (fun w' h' => ok_spec_l01Bit _ k (by omega) (by omega) w') ?_
          intro w7 h7
          rw [← e]
          exact hJ w7 h7
        · have e : aboveB f x k = false := by
            unfold aboveB
            rw [decide_eq_true (show k = x by omega)]; rfl
          intro w7 h7
          rw [← e]
          exact hJ w7 h7
      · have hB6 := hB4.ext h6
        have hs6 := hs4.ext h6
        have hc6 := hc4.ext h6
        (intro _; (try simp only [gx]))
        refine iCnd (fun h7 => ?_) (fun h7 => ?_)
        · rw [h7, if_pos rfl] at hbs
          have hpk := popc_above hp h7
          ((with_reducible refine iLdA (by assumption) ?_ ?_); rfl)
          refine iRet (ih k hk1 (by omega) v vc w6 hs6 hc6) fun w9 h9 => ?_
          refine iMaxN ?_
          rw [← hbs]
          (refine iAdd (by omega) ?_)
          exact hKn (k + 1) _ ⟨by omega, h4.trans (h6.trans h9)⟩ (by omega)
        · rw [h7, if_neg (by simp)] at hbs
          (refine iAdd (by omega) ?_)
          rw [← hbs]
          exact hKn (k + 1) _ ⟨by omega, h4.trans h6⟩ (by omega)
    · obtain rfl : k = f.n := by omega
      have e := dep_unf hp x
      have hle3 := dep_le hp hx
      (refine iAdd (by omega) ?_)
      refine ⟨?_, h1.trans (h2.trans h4)⟩
      rw [e, Int.natCast_add]; rfl
theorem ok_spec_l05Depths_po {f : Fr} (hp : Po f) {v : Value} {w : World} (hs : SlN w v f.a) : Cal Tryz.prog f_spec_l05Depths #[.agg #[.int .i64 (f.n : Int), v]] w fun u w' => Ext w w' ∧ Ow w.heap.size t_i64 w' u (ints (nats ((List.range f.n).map (dep f)))) := by
  apply c_spec_l05Depths; unfold S_spec_l05Depths
  have hf8 := hp.ok.1
  have hfl := hp.ok.2.1
  refine iNew fun b w1 hb1 h1 hB => ?_
  have hs1 := hs.ext h1
  ((with_reducible refine iLdA (by assumption) ?_ ?_); rfl)
  refine iCall ((ok_spec_l05Clusters_po hp hs1).mono ?_)
  rintro vc w2 ⟨h2, hoc⟩
  refine iBs0 fun v8 w3 _ h3 ho => ?_
  have hX3 := h1.trans (h2.trans h3)
  have hsz := (h1.trans h2).size
  obtain ⟨e, hne, hB⟩ : ∃ e, t_i64 ≠ e ∧ Blk e w3 b [.int .i64 (f.n : Int), v] := ⟨_, by decide, (hB.ext h2).ext h3⟩
  have hoc3 := hoc.ext h3
  refine iLp (fun s : Value × Nat => [s.1, .int .i64 (s.2 : Int)]) (fun s w' => s.2 ≤ f.n ∧ Ext w2 w' ∧ Blk e w' b [.int .i64 (f.n : Int), v] ∧ Ow w2.heap.size t_i64 w' s.1 (ints (nats ((List.range s.2).map (dep f))))) (fun s => f.n - s.2) (v8, 0) rfl ⟨Nat.zero_le _, h3, hB, ho⟩ ?_
  rintro ⟨u, k⟩ w5 Kn ⟨hk, h5, hB5, ho5⟩ hKn
  have hk : k ≤ f.n := hk
  have ho5 : Ow w2.heap.size t_i64 w5 u (ints (nats ((List.range k).map (dep f)))) := ho5
  have hs5 := (hs1.ext h2).ext h5
  have hc5 : SlN w5 vc (List.range f.n) := (hoc.ext h5).sl
  (intro _; (try simp only [gx]); (with_reducible refine iFa ?_); refine iLdB (by assumption) (by first | rfl | simp) ?_; (with_reducible refine iLt ?_))
  refine iCndP (fun h6 => ?_) (fun h6 => ?_)
  · have hk1 : k < f.n := by omega
    ((with_reducible refine iLdA (by assumption) ?_ ?_); rfl)
    refine iRet (ok_spec_l05Depth_po hp 9 k hk1 (by have := popc_le8 hp.ok k; omega) v vc w5 hs5 hc5) fun w6 h7 => ?_
    have ho6 := ho5.ext h7
    have hB6 := hB5.ext h7
    have hil : (ints (nats ((List.range k).map (dep f)))).length = k := by rw [ints_length, nats_length, List.length_map, List.length_range]
    refine iApp1 u_Si64 i_Si64 rfl ho6 rfl (by omega) (by omega) (h5.trans h7).size fun v' w7 ho' hg => ?_
    rw [ints_snoc] at ho'
    (refine iAdd (by omega) ?_)
    refine hKn (v', k + 1) _ ⟨by show k + 1 ≤ f.n; omega, (h5.trans h7).grown hg (fun c hc => (ho6.blk c hc).1), hB6.grown hg (ho6.ne_blk hB6 hne), ?_⟩ (by show f.n - (k + 1) < f.n - k; omega)
    show Ow w2.heap.size t_i64 w7 v' (ints (nats ((List.range (k + 1)).map (dep f))))
    rw [List.range_succ, List.map_append]
    exact ho'
  · have : k = f.n := by omega
    subst this
    exact ⟨(h1.trans h2).trans h5, ho5.mono hsz⟩
theorem ok_spec_l16Depths {f : Fr} (hp : Po f) {v : Value} {w : World} (hs : SlN w v f.a) : Cal Tryz.prog f_spec_l16Depths #[.agg #[.int .i64 (f.n : Int), v]] w fun u w' => Ext w w' ∧ Ow w.heap.size t_i64 w' u (ints (nats ((List.range f.n).map (dep f)))) := by
  apply c_spec_l16Depths; unfold S_spec_l16Depths
  refine iNew fun b w1 hb1 h1 hB => ?_
  have hs1 := hs.ext h1
  ((with_reducible refine iFa ?_); refine iLdB (by assumption) (by first | rfl | simp) ?_; (with_reducible refine iFa ?_); refine iLdB (by assumption) (by first | rfl | simp) ?_)
  obtain ⟨va, vc, rfl, hsh⟩ := id hs
  refine iBuild (cs := #[.int .i64 (f.n : Int), .slice va (ints (nats f.a)).length vc]) (by simp [Instr.fill, Value.cells]) ?_
  refine iCall ((ok_spec_l05Depths_po hp hs1).mono ?_)
  rintro u w2 ⟨h2, ho⟩
  exact ⟨h1.trans h2, ho.mono h1.size⟩
theorem ok_spec_l21Free (n : Nat) (hn : n ≤ 8) (w : World) : Cal Tryz.prog f_spec_l21Free #[.int .i64 (n : Int)] w fun u w' => Ext w w' ∧ Ow w.heap.size t_i64 w' u (ints (List.replicate n (-1))) := by
  apply c_spec_l21Free; unfold S_spec_l21Free
  refine iBs0 fun v8 w1 _ h1 ho => ?_
  refine iLp (fun s : Value × Nat => [s.1, .int .i64 (s.2 : Int)]) (fun s w' => s.2 ≤ n ∧ Ext w w' ∧ Ow w.heap.size t_i64 w' s.1 (ints (List.replicate s.2 (-1)))) (fun s => n - s.2) (v8, 0) rfl ⟨Nat.zero_le _, h1, ho⟩ ?_
  rintro ⟨u, k⟩ w3 Kn ⟨hk, h3, ho3⟩ hKn
  have hk : k ≤ n := hk
  have ho3 : Ow w.heap.size t_i64 w3 u (ints (List.replicate k (-1))) := ho3
  (intro _; (try simp only [gx]); (with_reducible refine iLt ?_))
  refine iCndP (fun h4 => ?_) (fun h4 => ?_)
  · have hil : (ints (List.replicate k (-1))).length = k := by rw [ints_length, List.length_replicate]
    refine iApp1 u_Si64 i_Si64 rfl ho3 rfl (by omega) (by omega) h3.size fun v' w5 ho' hg => ?_
    (refine iAdd (by omega) ?_)
    refine hKn (v', k + 1) _ ⟨by show k + 1 ≤ n; omega, h3.grown hg (fun c hc => (ho3.blk c hc).1), ?_⟩ (by show n - (k + 1) < n - k; omega)
    show Ow w.heap.size t_i64 w5 v' (ints (List.replicate (k + 1) (-1)))
    rw [List.replicate_succ']
    unfold ints at ho' ⊢
    rw [List.map_append]
    exact ho'
  · have : k = n := by omega
    subst this
    exact ⟨h3, ho3⟩
end Go.Proofs.YtikfhibcdhdglaaGreat

/- Contracts: the reference's search for p-morphisms from its start (l21Find). Conditions: none. -/
namespace Go.Vc
/-- The order, as far as it is made. -/
def ordPart (f : Fr) (d k : Nat) : List Nat := ordK f d ++ (List.range k).filter fun x => decide (dep f x = d + 1)
theorem ordPart_succ (f : Fr) (d k : Nat) : ordPart f d (k + 1) = if dep f k = d + 1 then ordPart f d k ++ [k] else ordPart f d k := by
  unfold ordPart
  rw [List.range_succ, List.filter_append]
  by_cases h : dep f k = d + 1
  · rw [if_pos h, List.append_assoc]; simp [h]
  · rw [if_neg h]; simp [h]
theorem ordPart_end (f : Fr) (d : Nat) : ordPart f d f.n = ordK f (d + 1) := by
  unfold ordPart ordK
  rw [List.range_succ, List.flatMap_append]; simp
theorem ordPart_len (f : Fr) (d k : Nat) : (ordPart f d k).length ≤ d * f.n + k := by
  unfold ordPart
  rw [List.length_append]
  have h1 : (ordK f d).length ≤ d * f.n := by
    unfold ordK
    induction d with
    | zero => simp
    | succ d ih =>
      rw [List.range_succ, List.flatMap_append, List.length_append, Nat.succ_mul]
      have : ((List.range f.n).filter fun x => decide (dep f x = d + 1)).length ≤ f.n := by
        have := List.length_filter_le (fun x => decide (dep f x = d + 1)) (List.range f.n)
        rwa [List.length_range] at this
      simp only [List.flatMap_cons, List.flatMap_nil, List.append_nil]
      omega
  have h2 := List.length_filter_le (fun x => decide (dep f x = d + 1)) (List.range k)
  rw [List.length_range] at h2
  omega
end Go.Vc
namespace Go.Proofs.YtikfhibcdhdglaaGreat
open Go.Vc
theorem ok_spec_l21Find {f g : Fr} (hp : Po f) (hg : g.ok) {onto : Bool} {fix : List Int} (hfl : fix.length = f.n) {w : World} {fa ga vfix : Value} (hfa : SlN w fa f.a) (hga : SlN w ga g.a) (hfix : SlI w vfix fix) {most : Nat} (hmost : most ≤ 1000000) :
    Cal Tryz.prog f_spec_l21Find #[.agg #[.int .i64 (f.n : Int), fa], .agg #[.int .i64 (g.n : Int), ga], vfix, .bool onto, .int .i64 (most : Int)] w fun v w' => Ext w w' ∧ ∃ vs,
      Ow w.heap.size t_Si64 w' v vs ∧ OwL w.heap.size t_i64 w' vs ((findP f g fix onto most).map ints) := by
  apply c_spec_l21Find; unfold S_spec_l21Find
  have hf8 := hp.ok.1
  have hfal := hp.ok.2.1
  refine iNew fun b1 w1 hb1 h1 hB1 => ?_
  refine iNew fun b2 w2 hb2 h2 hB2 => ?_
  have hB1 := hB1.ext h2
  ((with_reducible refine iLdA (by assumption) ?_ ?_); rfl; (with_reducible refine iLdA (by assumption) ?_ ?_); rfl)
  refine iBs0 fun v22 w3 _ h3 ho22 => ?_
  obtain ⟨va, vn, vc, rfl⟩ := ho22.shape
  obtain ⟨xa, xc, rfl, hsx⟩ := id hfix
  refine iBuild (cs := #[.int .i64 (f.n : Int), fa, .int .i64 (g.n : Int), ga, .slice none 0 0, .slice xa (ints fix).length xc, .bool onto, .int .i64 (most : Int), .slice va vn vc]) (by simp [Instr.fill, Value.cells]) ?_
  refine iNew fun b w4 hb4 h4 hB => ?_
  have hX2 : Ext w w2 := h1.trans h2
  have hX4 : Ext w w4 := hX2.trans (h3.trans h4)
  have hB1 := (hB1.ext h3).ext h4
  have hs4 := hfa.ext hX4
  ((with_reducible refine iLdA (by assumption) ?_ ?_); rfl)
  refine iCall ((ok_spec_l16Depths hp hs4).mono ?_)
  rintro vd w5 ⟨h5, hod⟩
  refine iBs0 fun v27 w6 _ h6 ho27 => ?_
  have hX6 : Ext w w6 := hX4.trans (h5.trans h6)
  have hod6 := hod.ext h6
  have hB1 := (hB1.ext h5).ext h6
  obtain ⟨e1, he1, hB1⟩ : ∃ e, t_i64 ≠ e ∧ Blk e w6 b1 [.int .i64 (f.n : Int), fa] := ⟨_, by decide, hB1⟩
  obtain ⟨e, he, he', hB⟩ : ∃ e, t_i64 ≠ e ∧ t_Si64 ≠ e ∧ Blk e w6 b [.int .i64 (f.n : Int), fa, .int .i64 (g.n : Int), ga, .slice none 0 0, .slice xa (ints fix).length xc, .bool onto, .int .i64 (most : Int), .slice va vn vc] := ⟨_, by decide, by decide, (hB.ext h5).ext h6⟩
  have hb1b : b1 ≠ b := by
    have := (h3.trans h4).size
    have := h3.size; have := h2.size
    omega
  have hbw : w.heap.size ≤ b := by have := (hX2.trans h3).size; omega
  have hb6 := hB.lt
  have hbb6 := hB1.lt
  have hsz6 := hX6.size
  refine iLp (fun d : Nat => [.int .i64 ((d + 1 : Nat) : Int)]) (fun d w' => d ≤ f.n ∧ Ch (fun k => k = b) w6 w' ∧ ∃ vo, Blk e w' b [.int .i64 (f.n : Int), fa, .int .i64 (g.n : Int), ga, vo, .slice xa (ints fix).length xc, .bool onto, .int .i64 (most : Int), .slice va vn vc] ∧ Ow w6.heap.size t_i64 w' vo (ints (nats (ordK f d)))) (fun d => f.n - d) 0 rfl ⟨Nat.zero_le _, (Ext.refl w6).ch, _, hB, Ow.nil _ _ _⟩ ?_
  rintro d w8 Kn ⟨hd, hch, vo, hB8, hoo⟩ hKn
  have hB18 := hB1.ch hch (fun h => hb1b h)
  (intro _; (try simp only [gx]); (with_reducible refine iFa ?_); refine iLdB (by assumption) (by first | rfl | simp) ?_; (with_reducible refine iLe ?_))
  refine iCndP (fun h7 => ?_) (fun h7 => ?_)
  · have hd1 : d < f.n := by omega
    refine iLp (fun k : Nat => [.int .i64 (k : Int)]) (fun k w' => k ≤ f.n ∧ Ch (fun k => k = b) w6 w' ∧ ∃ vo, Blk e w' b [.int .i64 (f.n : Int), fa, .int .i64 (g.n : Int), ga, vo, .slice xa (ints fix).length xc, .bool onto, .int .i64 (most : Int), .slice va vn vc] ∧ Ow w6.heap.size t_i64 w' vo (ints (nats (ordPart f d k)))) (fun k => f.n - k) 0 rfl ⟨Nat.zero_le _, hch, vo, hB8, by rw [show ordPart f d 0 = ordK f d by simp [ordPart]]; exact hoo⟩ ?_
    rintro k w10 Kn10 ⟨hk, hch10, vo', hB10, hoo10⟩ hKn10
    have hB110 := hB1.ch hch10 (fun h => hb1b h)
    have hod10 : SlN w10 vd ((List.range f.n).map (dep f)) := (hod6.ch hch10 (fun c hc h => hod6.ne_blk hB he (by rw [hc, h]))).sl
    have hdl : ((List.range f.n).map (dep f)).length = f.n := by rw [List.length_map, List.length_range]
    (intro _; (try simp only [gx]); (with_reducible refine iFa ?_); refine iLdB (by assumption) (by first | rfl | simp) ?_; (with_reducible refine iLt ?_))
    refine iCndP (fun h8 => ?_) (fun h8 => ?_)
    · have hk1 : k < f.n := by omega
      have hsucc := ordPart_succ f d k
      have hgd : ((List.range f.n).map (dep f)).getD k 0 = dep f k := by simp [List.getD_eq_getElem?_getD, hk1]
      ((with_reducible refine iIaNN (by assumption) ?_ (fun pa_ hpa_ => ?_)); omega; (with_reducible refine iLd (by assumption) ?_; refine iEq ?_))
      rw [hgd]
      refine iCndP (fun h9 => ?_) (fun h9 => ?_)
      · rw [if_pos (show dep f k = d + 1 by omega)] at hsucc
        ((with_reducible refine iNil ?_; refine iFa ?_); refine iLdB (by assumption) (by first | rfl | simp) ?_)
        have hil : (ints (nats (ordPart f d k))).length ≤ d * f.n + k := by rw [ints_length, nats_length]; exact ordPart_len f d k
        have hdn : d * f.n ≤ 8 * 8 := Nat.mul_le_mul (by omega) (by omega)
        refine iApp1A u_Si64 i_Si64 rfl hoo10 rfl (by omega) (by omega) hch10.size fun v' w12 ho' hg' hat => ?_
        rw [ints_snoc, ← hsucc] at ho'
        have hch12 := hch10.trans (grown_ch (S := fun c => vo'.ownBlock = some c) hg' (fun k hk => hk)) (fun c hc => .inr (hoo10.blk c hc).1)
        have hB12 := hB10.grown hg' (hoo10.ne_blk hB10 he)
        ((with_reducible refine iNil ?_; refine iFa ?_))
        refine iStB hB12 (by simp) ho'.cell fun hB13 => ?_
        have hu := Upd.setCell w12 b 4 v'
        have hch13 := hch12.trans (hu.ch (S := fun k => k = b) rfl) (fun k hk => .inl hk)
        have ho13 := ho'.upd hu (ho'.ne_blk hB12 he)
        (refine iAdd (by omega) ?_)
        exact hKn10 (k + 1) _ ⟨by omega, hch13, v', hB13, ho13⟩ (by omega)
      · rw [if_neg (show ¬ dep f k = d + 1 by omega)] at hsucc
        (refine iAdd (by omega) ?_)
        exact hKn10 (k + 1) _ ⟨by omega, hch10, vo', hB10, by rw [hsucc]; exact hoo10⟩ (by omega)
    · obtain rfl : k = f.n := by omega
      (refine iAdd (by omega) ?_)
      refine hKn (d + 1) _ ⟨by omega, hch10, vo', hB10, by rw [← ordPart_end]; exact hoo10⟩ (by omega)
  · obtain rfl : d = f.n := by omega
    have ho27b := fun c hc => (ho27.blk c hc)
    have ho278 := ho27.ch hch (fun c hc h => ho27.ne_blk hB he (by rw [hc, h]))
    have h5s := h5.size
    refine iLp (fun s : Value × Nat => [s.1, .int .i64 (s.2 : Int)]) (fun s w' => s.2 ≤ f.n ∧ Ch (fun k => v27.ownBlock = some k) w8 w' ∧ Ow w5.heap.size t_i64 w' s.1 (ints (List.replicate s.2 (-1))) ∧ ∀ c, s.1.ownBlock = some c → v27.ownBlock = some c ∨ w8.heap.size ≤ c) (fun s => f.n - s.2) (v27, 0) rfl ⟨Nat.zero_le _, (Ext.refl w8).ch, ho278, fun c hc => .inl hc⟩ ?_
    rintro ⟨u, k⟩ w15 Kn15 ⟨hk, hch15, ho15, hat15⟩ hKn15
    have hk : k ≤ f.n := hk
    have ho15 : Ow w5.heap.size t_i64 w15 u (ints (List.replicate k (-1))) := ho15
    have hch8s := hch.size
    have hch15s := hch15.size
    have h6s := h6.size
    have hB115 := hB18.ch hch15 (fun h => ho278.ne_blk hB18 he1 h)
    (intro _; (try simp only [gx]); (with_reducible refine iFa ?_); refine iLdB (by assumption) (by first | rfl | simp) ?_; (with_reducible refine iLt ?_))
    refine iCndP (fun h8 => ?_) (fun h8 => ?_)
    · have hil : (ints (List.replicate k (-1))).length = k := by rw [ints_length, List.length_replicate]
      refine iApp1A u_Si64 i_Si64 rfl ho15 rfl (by omega) (by omega) (by omega) fun v' w17 ho' hg' hat => ?_
      (refine iAdd (by omega) ?_)
      refine hKn15 (v', k + 1) _ ⟨by show k + 1 ≤ f.n; omega, hch15.trans (grown_ch (S := fun c => u.ownBlock = some c) hg' (fun k hk => hk)) (fun c hc => hat15 c hc), ?_, fun c hc => ?_⟩ (by show f.n - (k + 1) < f.n - k; omega)
      · show Ow w5.heap.size t_i64 w17 v' (ints (List.replicate (k + 1) (-1)))
        rw [List.replicate_succ']
        unfold ints at ho' ⊢
        rw [List.map_append]
        exact ho'
      · have hc : v'.ownBlock = some c := hc
        rcases hat with h | ⟨c', h, h'⟩
        · exact hat15 c (by rw [← h]; exact hc)
        · rw [h] at hc; cases hc
          exact .inr (by omega)
    · obtain rfl : k = f.n := by omega
      have hB15 := hB8.ch hch15 (fun h => ho278.ne_blk hB8 he h)
      have hoo15 := hoo.ch hch15 (fun c hc h => by have := (hoo.blk c hc).1; have := (ho27b c h).2; omega)
      have hX8 : Ext w w8 := hX6.thenCh hch (fun c hc => by rw [hc]; exact hbw)
      have hX5 : Ext w w5 := hX4.trans h5
      have hX5s := hX5.size
      have hX15 : Ext w w15 := hX8.thenCh hch15 (fun c hc => by have := (ho27b c hc).1; omega)
      have hov15 := (((ho22.mono hX2.size).ext h4).ext h5).ext h6
      have hov8 := hov15.ch hch (fun c hc h => hov15.ne_blk hB he' (by rw [hc, h]))
      have hov := hov8.ch hch15 (fun c hc h => hov8.ne_ow ho278 (by decide) hc h)
      have hst : SrSt f g onto e t_i64 t_Si64 w fa ga vo (.slice xa (ints fix).length xc) (ordOf f) b most w15 (.slice va vn vc) [] [] := ⟨hX15, hB15, hoo15.mono hX6.size, hov, OwL.nil _ _ _⟩
      have hpn := part_nil f.n (ordOf f)
      refine iCall ((ok_spec_l21Search hp.ok hg he he' (ordOf_ok hp) hfl hfa hga hfix hbw hmost f.n [] w15 u (.slice va vn vc) [] [] (by simp) (fun y hy => by cases hy) (by simp) hst (by rw [hpn]; exact ho15.mono hX5s)).mono ?_)
      rintro _ w16 ⟨rfl, found', vs', ls', hst', hls', _, _⟩
      have hB16 := hst'.blk
      ((with_reducible refine iNil ?_; refine iFa ?_); refine iLdB (by assumption) (by first | rfl | simp) ?_)
      refine ⟨hst'.ext, vs', hst'.ow, ?_⟩
      have := hst'.owl
      rw [hls', List.nil_append] at this
      exact this
end Go.Proofs.YtikfhibcdhdglaaGreat

/- Contracts: upsets and parts of posets, in the program and the reference. Conditions: none. -/
namespace Go.Vc
def orK (a : List Nat) (ms : List Nat) (k : Nat) : Nat := ((ms.take k).map fun i => a.getD i 0).foldl (· ||| ·) 0
theorem orK_succ (a ms : List Nat) (k : Nat) (h : k < ms.length) : orK a ms (k + 1) = orK a ms k ||| a.getD ms[k] 0 := by
  unfold orK
  rw [List.take_succ_eq_append_getElem h, List.map_append, List.foldl_append]; rfl
theorem orK_lt {a : List Nat} {n : Nat} (h : ∀ x ∈ a, x < 2 ^ n) (ms : List Nat) : ∀ k, k ≤ ms.length → orK a ms k < 2 ^ n
  | 0, _ => by simp [orK]; exact Nat.two_pow_pos n
  | k + 1, hk => by
    rw [orK_succ a ms k (by omega)]
    refine Nat.or_lt_two_pow (orK_lt h ms k (by omega)) ?_
    by_cases hi : ms[k] < a.length
    · simp only [List.getD_eq_getElem?_getD, List.getElem?_eq_getElem hi, Option.getD_some]; exact h _ (List.getElem_mem _)
    · simp [List.getD_eq_getElem?_getD, List.getElem?_eq_none (Nat.le_of_not_lt hi)]; exact Nat.two_pow_pos n
theorem memK_mem {m n : Nat} (hn : n ≤ 62) (hm : m < 2 ^ n) : memK m n = mem m :=
  memK_stop (Nat.lt_of_lt_of_le hm (Nat.pow_le_pow_right (by omega) (by omega))) (by rw [Nat.shiftRight_eq_div_pow]; exact Nat.div_eq_of_lt hm)
theorem orK_rows {a : List Nat} {m n : Nat} (hn : n ≤ 62) (hm : m < 2 ^ n) : orK a (mem m) (mem m).length = rowsK a m n := by
  unfold orK rowsK
  rw [List.take_length, memK_mem hn hm]
theorem mask_lt_list {m n : Nat} (hn : n ≤ 62) (hm : m < 2 ^ n) : ∀ x ∈ mem m, x < n := by
  rw [← memK_mem hn hm]
  exact fun _ hx => memK_lt hx
end Go.Vc
namespace Go.Proofs.YtikfhibcdhdglaaGreat
open Go.Vc
theorem ok_impl_image {v : Value} {w : World} {a : List Nat} (hs : SlN w v a) (hal : a.length ≤ 8) (hlt : ∀ x ∈ a, x < 2 ^ a.length) (m : Nat) (hm : m < 2 ^ a.length) : Ret Tryz.prog f_impl_image #[v, .int .i64 (m : Int)] w (.int .i64 ((rowsK a m a.length : Nat) : Int)) := by
  apply c_impl_image; unfold S_impl_image
  have h8 : ∀ z, z < 2 ^ a.length → z < 2 ^ 8 := fun z hz => Nat.lt_of_lt_of_le hz (Nat.pow_le_pow_right (by omega) hal)
  have hm8 := h8 m hm
  refine iCall ((ok_impl_membersOf m (by omega) w).mono ?_)
  rintro u w1 ⟨h1, hou⟩
  have hml63 : (mem m).length ≤ 63 := memK_length_le _ _
  have hmlt := mask_lt_list (by omega) hm
  have hus : SlN w1 u (mem m) := hou.sl
  ((with_reducible refine iLenN (by assumption) ?_))
  refine iLp (fun k : Nat => [.int .i64 ((orK a (mem m) k : Nat) : Int), .int .i64 (k : Int)]) (fun k w' => k ≤ (mem m).length ∧ Ext w1 w') (fun k => (mem m).length - k) 0 rfl ⟨Nat.zero_le _, Ext.refl _⟩ ?_
  rintro k w3 Kn ⟨hk, h3⟩ hKn
  have hus3 := hus.ext h3
  have hs3 := (hs.ext h1).ext h3
  (intro _; (try simp only [gx]); (with_reducible refine iLt ?_))
  refine iCndP (fun h4 => ?_) (fun h4 => ?_)
  · have hk1 : k < (mem m).length := by omega
    have hg : (mem m).getD k 0 = (mem m)[k] := getD_of_lt hk1
    have hx := hmlt _ (List.getElem_mem hk1)
    ((with_reducible refine iIaNN (by assumption) ?_ (fun pa_ hpa_ => ?_)); omega; (with_reducible refine iLd (by assumption) ?_); (with_reducible refine iIaNN (by assumption) ?_ (fun pa_ hpa_ => ?_)); omega; (with_reducible refine iLd (by assumption) ?_))
    rw [hg]
    have ho := h8 _ (orK_lt hlt (mem m) k (by omega))
    have ho' := h8 _ (orK_lt hlt (mem m) (k + 1) (by omega))
    have hsu := orK_succ a (mem m) k hk1
    have hgl : a.getD (mem m)[k] 0 < 2 ^ 8 := by
      rw [getD_of_lt hx]; exact h8 _ (hlt _ (List.getElem_mem hx))
    refine iBOr (by omega) (by omega) ?_
    rw [← hsu]
    (refine iAdd (by omega) ?_)
    exact hKn (k + 1) _ ⟨by omega, h3⟩ (by omega)
  · obtain rfl : k = (mem m).length := by omega
    rw [orK_rows (by omega) hm]
    exact ⟨rfl, h1.trans h3⟩
theorem ok_spec_l16Upsets {f : Fr} (hf : f.ok) {v : Value} {w : World} (hs : SlN w v f.a) : Cal Tryz.prog f_spec_l16Upsets #[.agg #[.int .i64 (f.n : Int), v]] w fun u w' => Ext w w' ∧ Ow w.heap.size t_i64 w' u (ints (nats (upsets f))) := by
  apply c_spec_l16Upsets; unfold S_spec_l16Upsets
  have hf8 := hf.1
  have hfl := hf.2.1
  have h2n : 2 ^ f.n ≤ 2 ^ 8 := Nat.pow_le_pow_right (by omega) hf8
  have hpos := Nat.two_pow_pos f.n
  refine iNew fun b w1 hb h1 hB => ?_
  refine iBs0 fun v5 w2 _ h2 ho => ?_
  have hX := h1.trans h2
  have ho := ho.mono h1.size
  obtain ⟨e, hne, hB⟩ : ∃ e, t_i64 ≠ e ∧ Blk e w2 b [.int .i64 (f.n : Int), v] := ⟨_, by decide, hB.ext h2⟩
  refine iLp (fun s : Value × Nat => [s.1, .int .i64 (s.2 : Int)]) (fun s w' => s.2 ≤ 2 ^ f.n ∧ Ext w w' ∧ Blk e w' b [.int .i64 (f.n : Int), v] ∧ Ow w.heap.size t_i64 w' s.1 (ints (nats (upK f s.2)))) (fun s => 2 ^ f.n - s.2) (v5, 0) rfl ⟨Nat.zero_le _, hX, hB, ho⟩ ?_
  rintro ⟨u, k⟩ w4 Kn ⟨hk, hX4, hB4, ho4⟩ hKn
  have hk : k ≤ 2 ^ f.n := hk
  have ho4 : Ow w.heap.size t_i64 w4 u (ints (nats (upK f k))) := ho4
  (intro _; (try simp only [gx]); (with_reducible refine iFa ?_); refine iLdB (by assumption) (by first | rfl | simp) ?_)
  refine iRet (ok_spec_l01Full f.n (by omega) w4) fun w5 h5 => ?_
  have hX5 := hX4.trans h5
  have hB5 := hB4.ext h5
  have ho5 := ho4.ext h5
  have hs5 := hs.ext hX5
  ((with_reducible refine iLe ?_))
  refine iCndP (fun h6 => ?_) (fun h6 => ?_)
  · have hk1 : k < 2 ^ f.n := by omega
    have hsu := upK_succ f k
    have hri := ok_spec_l01Image hs5 (show f.n ≤ 62 by omega) hf.2.2 (by omega) k (by omega)
    rw [hfl] at hri
    ((with_reducible refine iFa ?_); refine iLdB (by assumption) (by first | rfl | simp) ?_)
    refine iRet hri fun w6 h7 => ?_
    have hX6 := hX5.trans h7
    have hB6 := hB5.ext h7
    have ho6 := ho5.ext h7
    ((with_reducible refine iEq ?_))
    refine iCndP (fun h8 => ?_) (fun h8 => ?_)
    · rw [if_pos (show rowsK f.a k f.n = k by omega)] at hsu
      have hil : (ints (nats (upK f k))).length ≤ k := by rw [ints_length, nats_length]; exact upK_len f k
      refine iApp1 u_Si64 i_Si64 rfl ho6 rfl (by omega) (by omega) hX6.size fun v' w8 ho' hg => ?_
      rw [ints_snoc, ← hsu] at ho'
      (refine iAdd (by omega) ?_)
      exact hKn (v', k + 1) _ ⟨by show k + 1 ≤ 2 ^ f.n; omega, hX6.grown hg (fun c hc => (ho6.blk c hc).1), hB6.grown hg (ho6.ne_blk hB6 hne), ho'⟩ (by show 2 ^ f.n - (k + 1) < 2 ^ f.n - k; omega)
    · rw [if_neg (show ¬ rowsK f.a k f.n = k by omega)] at hsu
      (refine iAdd (by omega) ?_)
      exact hKn (u, k + 1) _ ⟨by show k + 1 ≤ 2 ^ f.n; omega, hX6, hB6, by show Ow w.heap.size t_i64 w6 u (ints (nats (upK f (k + 1)))); rw [hsu]; exact ho6⟩ (by show 2 ^ f.n - (k + 1) < 2 ^ f.n - k; omega)
  · have hk2 : k = 2 ^ f.n := by omega
    subst hk2
    exact ⟨hX5, ho5⟩
theorem ok_impl_Poset_all (n : Nat) (hn : n ≤ 8) (v : Value) (w : World) : Ret Tryz.prog f_impl_Poset_all #[.agg #[.int .i64 (n : Int), v]] w (.int .i64 ((2 ^ n - 1 : Nat) : Int)) := by
  apply c_impl_Poset_all; unfold S_impl_Poset_all
  have h2n : 2 ^ n ≤ 2 ^ 8 := Nat.pow_le_pow_right (by omega) hn
  have hpos := Nat.two_pow_pos n
  refine iNew fun b w1 hb1 h hB => ?_
  ((with_reducible refine iFa ?_); refine iLdB (by assumption) (by first | rfl | simp) ?_)
  refine iShlOne (by omega) ?_
  (refine iSub (by omega) ?_)
  exact ⟨by congr 1; omega, h⟩
theorem ok_impl_Poset_isUpset {f : Fr} (hf : f.ok) {v : Value} {w : World} (hs : SlN w v f.a) (m : Nat) (hm : m < 2 ^ f.n) : Ret Tryz.prog f_impl_Poset_isUpset #[.agg #[.int .i64 (f.n : Int), v], .int .i64 (m : Int)] w (.bool (decide (rowsK f.a m f.n = m))) := by
  apply c_impl_Poset_isUpset; unfold S_impl_Poset_isUpset
  have hf8 := hf.1
  have hfl := hf.2.1
  have h2n : 2 ^ f.n ≤ 2 ^ 8 := Nat.pow_le_pow_right (by omega) hf8
  refine iNew fun b w1 hb1 h hB => ?_
  refine iJnB (decide (rowsK f.a m f.n = m)) w1 (fun J hJ => ?_) (fun w3 h3 => ?_)
  · ((with_reducible refine iFa ?_); refine iLdB (by assumption) (by first | rfl | simp) ?_)
    refine iRet (ok_impl_isMask f.n m (by omega) w1) fun w4 h4 => ?_
    have hB4 := hB.ext h4
    have hs4 := (hs.ext h).ext h4
    have hmb : (decide (f.n ≤ 30) && maskB f.n (m : Int)) = true := by
      unfold maskB
      rw [Bool.and_eq_true, decide_eq_true_eq, decide_eq_true_eq]; omega
    rw [hmb]
    refine iCndT rfl ?_
    have hri := ok_impl_image hs4 (by omega) (by rw [hfl]; exact hf.2.2) m (by rw [hfl]; exact hm)
    rw [hfl] at hri
    ((with_reducible refine iFa ?_); refine iLdB (by assumption) (by first | rfl | simp) ?_)
    refine iRet hri fun w5 h5 => ?_
    ((with_reducible refine iEq ?_))
    have := hJ w5 (h4.trans h5)
    have e : decide (((rowsK f.a m f.n : Nat) : Int) = (m : Int)) = decide (rowsK f.a m f.n = m) := decide_eq_decide.2 (by omega)
    rw [e]; exact this
  · (intro _; (try simp only [gx]))
    exact ⟨by trivial, h.trans h3⟩
theorem ok_impl_Poset_upsets {f : Fr} (hf : f.ok) {v : Value} {w : World} (hs : SlN w v f.a) : Cal Tryz.prog f_impl_Poset_upsets #[.agg #[.int .i64 (f.n : Int), v]] w fun u w' => Ext w w' ∧ Ow w.heap.size t_i64 w' u (ints (nats (upsets f))) := by
  apply c_impl_Poset_upsets; unfold S_impl_Poset_upsets
  have hf8 := hf.1
  have hfl := hf.2.1
  have h2n : 2 ^ f.n ≤ 2 ^ 8 := Nat.pow_le_pow_right (by omega) hf8
  have hpos := Nat.two_pow_pos f.n
  refine iNew fun b w1 hb h1 hB => ?_
  ((with_reducible refine iLdA (by assumption) ?_ ?_); rfl)
  refine iRet (ok_impl_Poset_all f.n hf8 v w1) fun w2 h2 => ?_
  have hX := h1.trans h2
  obtain ⟨e, hne, hB⟩ : ∃ e, t_i64 ≠ e ∧ Blk e w2 b [.int .i64 (f.n : Int), v] := ⟨_, by decide, hB.ext h2⟩
  (refine iAdd (by omega) ?_)
  have e2 : ((2 ^ f.n - 1 : Nat) : Int) + 1 = ((2 ^ f.n : Nat) : Int) := by omega
  rw [e2]
  refine iLp (fun s : Value × Nat => [s.1, .int .i64 (s.2 : Int)]) (fun s w' => s.2 ≤ 2 ^ f.n ∧ Ext w w' ∧ Blk e w' b [.int .i64 (f.n : Int), v] ∧ Ow w.heap.size t_i64 w' s.1 (ints (nats (upK f s.2)))) (fun s => 2 ^ f.n - s.2) (.slice none 0 0, 0) rfl ⟨Nat.zero_le _, hX, hB, Ow.nil _ _ _⟩ ?_
  rintro ⟨u, k⟩ w4 Kn ⟨hk, hX4, hB4, ho4⟩ hKn
  have hk : k ≤ 2 ^ f.n := hk
  have ho4 : Ow w.heap.size t_i64 w4 u (ints (nats (upK f k))) := ho4
  have hs4 := hs.ext hX4
  (intro _; (try simp only [gx]); (with_reducible refine iLt ?_))
  refine iCndP (fun h6 => ?_) (fun h6 => ?_)
  · have hk1 : k < 2 ^ f.n := by omega
    have hsu := upK_succ f k
    ((with_reducible refine iLdA (by assumption) ?_ ?_); rfl)
    refine iRet (ok_impl_Poset_isUpset hf hs4 k hk1) fun w6 h7 => ?_
    have hX6 := hX4.trans h7
    have hB6 := hB4.ext h7
    have ho6 := ho4.ext h7
    refine iCndP (fun h8 => ?_) (fun h8 => ?_)
    · rw [if_pos h8] at hsu
      have hil : (ints (nats (upK f k))).length ≤ k := by rw [ints_length, nats_length]; exact upK_len f k
      refine iApp1 u_Si64 i_Si64 rfl ho6 rfl (by omega) (by omega) hX6.size fun v' w8 ho' hg => ?_
      rw [ints_snoc, ← hsu] at ho'
      (refine iAdd (by omega) ?_)
      exact hKn (v', k + 1) _ ⟨by show k + 1 ≤ 2 ^ f.n; omega, hX6.grown hg (fun c hc => (ho6.blk c hc).1), hB6.grown hg (ho6.ne_blk hB6 hne), ho'⟩ (by show 2 ^ f.n - (k + 1) < 2 ^ f.n - k; omega)
    · rw [if_neg h8] at hsu
      (refine iAdd (by omega) ?_)
      exact hKn (u, k + 1) _ ⟨by show k + 1 ≤ 2 ^ f.n; omega, hX6, hB6, by show Ow w.heap.size t_i64 w6 u (ints (nats (upK f (k + 1)))); rw [hsu]; exact ho6⟩ (by show 2 ^ f.n - (k + 1) < 2 ^ f.n - k; omega)
  · have hk2 : k = 2 ^ f.n := by omega
    subst hk2
    exact ⟨hX4, ho4⟩
theorem ok_spec_l05Squeeze {v : Value} {w : World} {ms : List Nat} (hs : SlN w v ms) (hml : ms.length ≤ 62) (hmx : ∀ x ∈ ms, x ≤ 62) (m : Nat) (hm : m < 2 ^ 63) : Ret Tryz.prog f_spec_l05Squeeze #[v, .int .i64 (m : Int)] w (.int .i64 ((sqz ms m : Nat) : Int)) := by
  apply c_spec_l05Squeeze; unfold S_spec_l05Squeeze
  refine iLp (fun k : Nat => [.int .i64 ((sqzK ms m k : Nat) : Int), .int .i64 (k : Int)]) (fun k w' => k ≤ ms.length ∧ Ext w w') (fun k => ms.length - k) 0 rfl ⟨Nat.zero_le _, Ext.refl _⟩ ?_
  rintro k w2 Kn ⟨hk, h2⟩ hKn
  have hs2 := hs.ext h2
  (intro _; (try simp only [gx]); (with_reducible refine iLenN (by assumption) ?_; refine iLt ?_))
  refine iCndP (fun h3 => ?_) (fun h3 => ?_)
  · have hk1 : k < ms.length := by omega
    have hsu := sqzK_succ ms m k
    have hx : ms.getD k 0 ≤ 62 := by rw [getD_of_lt hk1]; exact hmx _ (List.getElem_mem hk1)
    have hlt := Nat.lt_of_lt_of_le (sqzK_lt ms m k) (Nat.pow_le_pow_right (by omega) (show k ≤ 62 by omega) : 2 ^ k ≤ 2 ^ 62)
    have h2k : 2 ^ k < 2 ^ 62 := Nat.pow_lt_pow_right (by omega) (by omega)
    ((with_reducible refine iIaNN (by assumption) ?_ (fun pa_ hpa_ => ?_)); omega; (with_reducible refine iLd (by assumption) ?_))
    refine iRet (ok_spec_l01Bit m _ hm (by omega) w2) fun w3 h4 => ?_
    refine iCnd (fun h5 => ?_) (fun h5 => ?_)
    · rw [h5, if_pos rfl] at hsu
      refine iRet (ok_spec_l01One k (by omega) w3) fun w4 h6 => ?_
      refine iBOr (by omega) (by omega) ?_
      rw [← hsu]
      (refine iAdd (by omega) ?_)
      exact hKn (k + 1) _ ⟨by omega, h2.trans (h4.trans h6)⟩ (by omega)
    · rw [h5, if_neg (by simp)] at hsu
      (refine iAdd (by omega) ?_)
      rw [← hsu]
      exact hKn (k + 1) _ ⟨by omega, h2.trans h4⟩ (by omega)
  · obtain rfl : k = ms.length := by omega
    exact ⟨rfl, h2⟩
theorem ok_impl_squeeze (m on : Nat) (hm : m < 2 ^ 63) (hon : on < 2 ^ 62) (w : World) : Ret Tryz.prog f_impl_squeeze #[.int .i64 (m : Int), .int .i64 (on : Int)] w (.int .i64 ((sqz (mem on) m : Nat) : Int)) := by
  apply c_impl_squeeze; unfold S_impl_squeeze
  refine iCall ((ok_impl_membersOf on (by omega) w).mono ?_)
  rintro u w1 ⟨h1, hou⟩
  have hml : (mem on).length ≤ 62 := popc_full (by omega) hon
  have hmx := mask_lt_list (by omega) hon
  have hus : SlN w1 u (mem on) := hou.sl
  generalize mem on = ms at *
  ((with_reducible refine iLenN (by assumption) ?_))
  refine iLp (fun k : Nat => [.int .i64 ((sqzK ms m k : Nat) : Int), .int .i64 (k : Int)]) (fun k w' => k ≤ ms.length ∧ Ext w1 w') (fun k => ms.length - k) 0 rfl ⟨Nat.zero_le _, Ext.refl _⟩ ?_
  rintro k w2 Kn ⟨hk, h2⟩ hKn
  have hs2 := hus.ext h2
  (intro _; (try simp only [gx]); (with_reducible refine iLt ?_))
  refine iCndP (fun h3 => ?_) (fun h3 => ?_)
  · have hk1 : k < ms.length := by omega
    have hsu := sqzK_succ ms m k
    have hx : ms.getD k 0 < 62 := by rw [getD_of_lt hk1]; exact hmx _ (List.getElem_mem hk1)
    have hlt := Nat.lt_of_lt_of_le (sqzK_lt ms m k) (Nat.pow_le_pow_right (by omega) (show k ≤ 62 by omega) : 2 ^ k ≤ 2 ^ 62)
    have h2k : 2 ^ k < 2 ^ 62 := Nat.pow_lt_pow_right (by omega) (by omega)
    ((with_reducible refine iIaNN (by assumption) ?_ (fun pa_ hpa_ => ?_)); omega; (with_reducible refine iLd (by assumption) ?_))
    refine iRet (ok_impl_has m _ hm (by omega) w2) fun w3 h4 => ?_
    refine iCnd (fun h5 => ?_) (fun h5 => ?_)
    · rw [h5, if_pos rfl] at hsu
      refine iShlOne (by omega) ?_
      refine iBOr (by omega) (by omega) ?_
      rw [← hsu]
      (refine iAdd (by omega) ?_)
      exact hKn (k + 1) _ ⟨by omega, h2.trans h4⟩ (by omega)
    · rw [h5, if_neg (by simp)] at hsu
      (refine iAdd (by omega) ?_)
      rw [← hsu]
      exact hKn (k + 1) _ ⟨by omega, h2.trans h4⟩ (by omega)
  · obtain rfl : k = ms.length := by omega
    exact ⟨rfl, h1.trans h2⟩
end Go.Proofs.YtikfhibcdhdglaaGreat

/- Contracts: drawn frames. Conditions: none. -/
namespace Go.Vc
/-- A relation on n elements. -/
def RelOk (n : Nat) (a : List Nat) : Prop := a.length = n ∧ ∀ x ∈ a, x < 2 ^ n
theorem RelOk.get {n : Nat} {a : List Nat} (h : RelOk n a) (_hn : n ≤ 62) (i : Nat) : a.getD i 0 < 2 ^ n := by
  by_cases hi : i < a.length
  · simp only [List.getD_eq_getElem?_getD, List.getElem?_eq_getElem hi, Option.getD_some]; exact h.2 _ (List.getElem_mem _)
  · simp [List.getD_eq_getElem?_getD, List.getElem?_eq_none (Nat.le_of_not_lt hi)]; exact Nat.two_pow_pos n
theorem RelOk.set {n : Nat} {a : List Nat} (h : RelOk n a) (i x : Nat) (hx : x < 2 ^ n) : RelOk n (a.set i x) :=
  ⟨by rw [List.length_set]; exact h.1, fun y hy => (List.mem_or_eq_of_mem_set hy).elim (h.2 y) fun e => by rw [e]; exact hx⟩
end Go.Vc
namespace Go.Proofs.YtikfhibcdhdglaaGreat
open Go.Vc
theorem ok_spec_l01Reflexive {v : Value} {w : World} {n : Nat} {a : List Nat} (hn : n ≤ 30) (ha : RelOk n a) (hs : SlN w v a) : Cal Tryz.prog f_spec_l01Reflexive #[v] w fun u w' => Ext w w' ∧ ∃ a', RelOk n a' ∧ Ow w.heap.size t_i64 w' u (ints (nats a')) := by
  apply c_spec_l01Reflexive; unfold S_spec_l01Reflexive
  have h62 : 2 ^ n ≤ 2 ^ 62 := Nat.pow_le_pow_right (by omega) (by omega)
  have hal := ha.1
  refine iBs0 fun v0 w1 _ h1 ho => ?_
  refine iLp (fun s : Value × Nat => [s.1, .int .i64 (s.2 : Int)]) (fun s w' => s.2 ≤ n ∧ Ext w w' ∧ ∃ l, l.length = s.2 ∧ (∀ x ∈ l, x < 2 ^ n) ∧ Ow w.heap.size t_i64 w' s.1 (ints (nats l))) (fun s => n - s.2) (v0, 0) rfl ⟨Nat.zero_le _, h1, [], rfl, fun x hx => by (cases hx), ho⟩ ?_
  rintro ⟨u, k⟩ w3 Kn ⟨hk, h3, l, hl, hlt, ho3⟩ hKn
  have hk : k ≤ n := hk
  have hl : l.length = k := hl
  have ho3 : Ow w.heap.size t_i64 w3 u (ints (nats l)) := ho3
  have hs3 := hs.ext h3
  (intro _; (try simp only [gx]); (with_reducible refine iLenN (by assumption) ?_; refine iLt ?_))
  refine iCndP (fun h4 => ?_) (fun h4 => ?_)
  · have hk1 : k < n := by omega
    have hg := ha.get (by omega) k
    have h2k : 2 ^ k < 2 ^ n := Nat.pow_lt_pow_right (by omega) hk1
    ((with_reducible refine iIaNN (by assumption) ?_ (fun pa_ hpa_ => ?_)); omega; (with_reducible refine iLd (by assumption) ?_))
    refine iRetQ (fun w' _ => ok_spec_l01One k (by omega) w') ?_
    refine iBOr (by omega) (by omega) ?_
    intro w4 h5
    refine iBs1 rfl rfl fun bb w5 hbb h6 hBb => ?_
    (try refine ⟨h6, ?_⟩)
    intro w6 h7
    have hX6 := h3.trans (h5.trans (h6.trans h7))
    have ho6 := ho3.ext (h5.trans (h6.trans h7))
    have hil : (ints (nats l)).length = k := by rw [ints_length, nats_length, hl]
    refine iApp u_Si64 i_Si64 rfl ho6 (Sl.ofBlk (hBb.ext h7) rfl (by omega)) (fun x hx => by simp at hx; subst hx; rfl) (by simp only [List.length_singleton]; omega) (by simp only [List.length_singleton]; omega) hX6.size fun v' w7 ho' hg' => ?_
    rw [ints_snoc] at ho'
    intro w8 h9
    (refine iAdd (by omega) ?_)
    refine hKn (v', k + 1) _ ⟨by show k + 1 ≤ n; omega, (hX6.grown hg' (fun c hc => (ho6.blk c hc).1)).trans h9, _, by rw [List.length_append, hl]; rfl, fun x hx => ?_, ho'.ext h9⟩ (by show n - (k + 1) < n - k; omega)
    rcases List.mem_append.1 hx with hx | hx
    · exact hlt x hx
    · simp at hx; subst hx; exact Nat.or_lt_two_pow hg h2k
  · have e : k = n := by omega
    exact ⟨h3, l, ⟨by omega, hlt⟩, ho3⟩
theorem ok_spec_l01Closure {v : Value} {w : World} {n : Nat} {a : List Nat} (hn : n ≤ 30) (ha : RelOk n a) (hs : SlN w v a) : Cal Tryz.prog f_spec_l01Closure #[v] w fun u w' => Ext w w' ∧ ∃ a', RelOk n a' ∧ Ow w.heap.size t_i64 w' u (ints (nats a')) := by
  apply c_spec_l01Closure; unfold S_spec_l01Closure
  have h62 : 2 ^ n ≤ 2 ^ 62 := Nat.pow_le_pow_right (by omega) (by omega)
  refine iCall ((ok_spec_l01Own hs (by rw [nats_length, ha.1]; omega)).mono ?_)
  rintro u w1 ⟨h1, ho⟩
  refine iLp (fun k : Nat => [.int .i64 (k : Int)]) (fun k w' => k ≤ n ∧ Ext w w' ∧ ∃ l, RelOk n l ∧ Ow w.heap.size t_i64 w' u (ints (nats l))) (fun k => n - k) 0 rfl ⟨Nat.zero_le _, h1, a, ha, ho⟩ ?_
  rintro k w3 Kn ⟨hk, h3, l, hl, ho3⟩ hKn
  have hs3 : SlN w3 u l := ho3.sl
  have hll := hl.1
  (intro _; (try simp only [gx]); (with_reducible refine iLenN (by assumption) ?_; refine iLt ?_))
  refine iCndP (fun h4 => ?_) (fun h4 => ⟨h3, l, hl, ho3⟩)
  have hk1 : k < n := by omega
  refine iLp (fun i : Nat => [.int .i64 (i : Int)]) (fun i w' => i ≤ n ∧ Ext w w' ∧ ∃ l, RelOk n l ∧ Ow w.heap.size t_i64 w' u (ints (nats l))) (fun i => n - i) 0 rfl ⟨Nat.zero_le _, h3, l, hl, ho3⟩ ?_
  rintro i w5 Kn5 ⟨hi, h5, l5, hl5, ho5⟩ hKn5
  have hs5 : SlN w5 u l5 := ho5.sl
  have hll5 := hl5.1
  (intro _; (try simp only [gx]); (with_reducible refine iLenN (by assumption) ?_; refine iLt ?_))
  refine iCndP (fun h6 => ?_) (fun h6 => ?_)
  · have hi1 : i < n := by omega
    have hgi := hl5.get (by omega) i
    have hgk := hl5.get (by omega) k
    ((with_reducible refine iIaNN (by assumption) ?_ (fun pa_ hpa_ => ?_)); omega; (with_reducible refine iLd (by assumption) ?_))
    refine iRet (ok_spec_l01Bit _ k (by omega) (by omega) w5) fun w6 h7 => ?_
    have ho6 := ho5.ext h7
    have hs6 : SlN w6 u l5 := ho6.sl
    refine iCnd (fun hb => ?_) (fun hb => ?_)
    · ((with_reducible refine iIaNN (by assumption) ?_ (fun pa_ hpa_ => ?_)); omega; (with_reducible refine iLd (by assumption) ?_); (with_reducible refine iIaNN (by assumption) ?_ (fun pa_ hpa_ => ?_)); omega; (with_reducible refine iLd (by assumption) ?_))
      refine iBOr (by omega) (by omega) ?_
      have hil : (ints (nats l5)).length = n := by rw [ints_length, nats_length, hll5]
      refine iIaOwE ho6 (by omega) fun bu hbu hwr => ?_
      intro w7 h8
      have ho7 := ho6.ext h8
      obtain ⟨hc1, hc2, hc3⟩ := hwr w7 _ rfl ho7
      rw [List.getElem?_eq_getElem (by omega)] at hc1
      refine iSt hc1 hc2 rfl ?_
      have ho8 := hc3 (.int .i64 ((l5.getD i 0 ||| l5.getD k 0 : Nat) : Int))
      rw [← ints_nats_set] at ho8
      have hu := Upd.setCell w7 bu i (.int .i64 ((l5.getD i 0 ||| l5.getD k 0 : Nat) : Int))
      intro w9 h9
      (refine iAdd (by omega) ?_)
      exact hKn5 (i + 1) _ ⟨by omega, ((h5.trans (h7.trans h8)).upd hu (ho6.blk bu hbu).1).trans h9, _, hl5.set i _ (Nat.or_lt_two_pow hgi hgk), ho8.ext h9⟩ (by omega)
    · (refine iAdd (by omega) ?_)
      exact hKn5 (i + 1) _ ⟨by omega, h5.trans h7, l5, hl5, ho6⟩ (by omega)
  · (refine iAdd (by omega) ?_)
    exact hKn (k + 1) _ ⟨by omega, h5, l5, hl5, ho5⟩ (by omega)
end Go.Proofs.YtikfhibcdhdglaaGreat

/- Contracts: drawn frames, two of them (l05Draw, l05Renumber, DrawFindFrameIsomorphism). Conditions: none. -/
namespace Go.Vc
/-- A relation with its elements numbered anew. -/
def rnb (a o : List Nat) : List Nat := o.map fun x => sqz o (a.getD x 0)
end Go.Vc
namespace Go.Proofs.YtikfhibcdhdglaaGreat
open Go.Vc
theorem ok_spec_l05Renumber {v u : Value} {w : World} {a o : List Nat} (ha : SlN w v a) (hu : SlN w u o) (hol : o.length ≤ 60) (hlt : ∀ x ∈ o, x < a.length ∧ x ≤ 62) (ha63 : ∀ x ∈ a, x < 2 ^ 62) : Cal Tryz.prog f_spec_l05Renumber #[v, u] w fun r w' => Ext w w' ∧ Ow w.heap.size t_i64 w' r (ints (nats (rnb a o))) := by
  apply c_spec_l05Renumber; unfold S_spec_l05Renumber
  refine iBs0 fun v0 w1 _ h1 ho => ?_
  refine iLp (fun s : Value × Nat => [s.1, .int .i64 (s.2 : Int)]) (fun s w' => s.2 ≤ o.length ∧ Ext w w' ∧ Ow w.heap.size t_i64 w' s.1 (ints (nats ((o.take s.2).map fun x => sqz o (a.getD x 0))))) (fun s => o.length - s.2) (v0, 0) rfl ⟨Nat.zero_le _, h1, ho⟩ ?_
  rintro ⟨z, k⟩ w3 Kn ⟨hk, h3, ho3⟩ hKn
  have hk : k ≤ o.length := hk
  have ho3 : Ow w.heap.size t_i64 w3 z (ints (nats ((o.take k).map fun x => sqz o (a.getD x 0)))) := ho3
  have ha3 := ha.ext h3
  have hu3 := hu.ext h3
  (intro _; (try simp only [gx]); (with_reducible refine iLenN (by assumption) ?_; refine iLt ?_))
  refine iCndP (fun h4 => ?_) (fun h4 => ?_)
  · have hk1 : k < o.length := by omega
    have hg : o.getD k 0 = o[k] := getD_of_lt hk1
    have hx := hlt _ (List.getElem_mem hk1)
    ((with_reducible refine iIaNN (by assumption) ?_ (fun pa_ hpa_ => ?_)); omega; (with_reducible refine iLd (by assumption) ?_); (with_reducible refine iIaNN (by assumption) ?_ (fun pa_ hpa_ => ?_)); omega; (with_reducible refine iLd (by assumption) ?_))
    rw [hg]
    have hga : a.getD o[k] 0 < 2 ^ 62 := by rw [getD_of_lt hx.1]; exact ha63 _ (List.getElem_mem hx.1)
    refine iRet (ok_spec_l05Squeeze hu3 (by omega) (fun x hx => (hlt x hx).2) _ (by omega)) fun w4 h5 => ?_
    have ho4 := ho3.ext h5
    have hil : (ints (nats ((o.take k).map fun x => sqz o (a.getD x 0)))).length = k := by rw [ints_length, nats_length, List.length_map, List.length_take]; omega
    refine iApp1 u_Si64 i_Si64 rfl ho4 rfl (by omega) (by omega) (h3.trans h5).size fun v' w5 ho' hg' => ?_
    have e1 : (o.take (k + 1)).map (fun x => sqz o (a.getD x 0)) = (o.take k).map (fun x => sqz o (a.getD x 0)) ++ [sqz o (a.getD o[k] 0)] := by
      rw [List.take_succ_eq_append_getElem hk1, List.map_append]; rfl
    rw [ints_snoc, ← e1] at ho'
    (refine iAdd (by omega) ?_)
    exact hKn (v', k + 1) _ ⟨by show k + 1 ≤ o.length; omega, (h3.trans h5).grown hg' (fun c hc => (ho4.blk c hc).1), ho'⟩ (by show o.length - (k + 1) < o.length - k; omega)
  · have e : k = o.length := by omega
    subst e
    rw [List.take_length] at ho3
    exact ⟨h3, ho3⟩
end Go.Proofs.YtikfhibcdhdglaaGreat

/- Plain facts: least forms of relations. No program in sight. Conditions: none. -/
namespace Go.Vc
section
variable {a : List Nat}
end
section
variable {f g : Fr}
end
end Go.Vc

/- Contracts: lists of posets, and their codes. Conditions: none. -/
namespace Go.Vc
/-- A slice of structs of an int64 and a slice of int64. -/
def SlP (w : World) (v : Value) (ps : List (Int × List Int)) : Prop :=
  ∃ a c, v = .slice a ps.length c ∧ ps.length ≤ c ∧ c ≤ 9223372036854775807 ∧ (ps = [] ∨ ∃ b o, a = some ⟨b, o, none⟩ ∧ ∀ (i : Nat) (n : Int) (l : List Int), ps[i]? = some (n, l) → ∃ u, w.cell? ⟨b, o + 2 * i, none⟩ = some (.int .i64 n) ∧ w.cell? ⟨b, o + 2 * i + 1, none⟩ = some u ∧ SlI w u l)
theorem SlP.ext {w w' : World} {v : Value} {ps : List (Int × List Int)} (h : SlP w v ps) (he : Ext w w') : SlP w' v ps := by
  obtain ⟨a, c, h1, h2, h3, h4⟩ := h
  refine ⟨a, c, h1, h2, h3, h4.imp id fun ⟨b, o, ha, hc⟩ => ⟨b, o, ha, fun i n l hi => ?_⟩⟩
  obtain ⟨u, g1, g2, g3⟩ := hc i n l hi
  exact ⟨u, he.cell g1, he.cell g2, g3.ext he⟩
theorem SlP.len {w : World} {v : Value} {ps : List (Int × List Int)} (h : SlP w v ps) : ps.length ≤ 9223372036854775807 := let ⟨_, _, _, h2, h3, _⟩ := h; Nat.le_trans h2 h3
section
variable {w : World}
theorem iLenP {v : Value} {ps : List (Int × List Int)} {K : Value → Prop} (hs : SlP w v ps) (h : K (.int .i64 (ps.length : Nat))) : xLenS v K := by
  obtain ⟨a, c, rfl, _⟩ := hs; exact ⟨_, _, _, rfl, h⟩
theorem iIaP {v : Value} {ps : List (Int × List Int)} {j : Nat} {k : IntKind} {K : Value → Prop} (hs : SlP w v ps) (hj : j < ps.length)
    (h : ∀ b o u, w.cell? ⟨b, o, none⟩ = some (.int .i64 ps[j].1) → w.cell? ⟨b, o + 1, none⟩ = some u → SlI w u ps[j].2 → K (.pointer (some ⟨b, o, none⟩))) : xIa 2 v (.int k (j : Int)) K := by
  obtain ⟨a, c, rfl, h2, h3, rfl | ⟨b, o, rfl, hc⟩⟩ := hs
  · simp at hj
  · obtain ⟨u, g1, g2, g3⟩ := hc j ps[j].1 ps[j].2 (List.getElem?_eq_getElem hj)
    refine ⟨_, _, _, _, _, rfl, rfl, by omega, by omega, ?_⟩
    have : (⟨b, o, none⟩ : Addr).add ((j : Int).toNat * 2) = ⟨b, o + 2 * j, none⟩ := by
      simp only [Addr.add, Int.toNat_natCast]; split
      · rename_i e; simp; omega
      · simp; omega
    rw [this]
    exact h b (o + 2 * j) u g1 g2 g3
/-- Two cells side by side. -/
theorem iLd2 {b o : Nat} {x y : Value} {K : Value → Prop} (h0 : w.cell? ⟨b, o, none⟩ = some x) (h1 : w.cell? ⟨b, o + 1, none⟩ = some y) (h : K (.agg #[x, y])) : xLdA w 2 (.pointer (some ⟨b, o, none⟩)) K := by
  refine ⟨_, #[x, y], rfl, rfl, fun i hi => ?_, h⟩
  have : (⟨b, o, none⟩ : Addr).add i = ⟨b, o + i, none⟩ := by
    simp only [Addr.add]; split
    · rename_i e; simp [e]
    · rfl
  rw [this]
  match i, hi with
  | 0, _ => simpa using h0
  | 1, _ => simpa using h1
theorem SlP.two {e : TypeId} {b : Nat} {n0 n1 : Int} {v0 v1 : Value} {l0 l1 : List Int} (hB : Blk e w b [.int .i64 n0, v0, .int .i64 n1, v1]) (h0 : SlI w v0 l0) (h1 : SlI w v1 l1) : SlP w (.slice (some ⟨b, 0, none⟩) 2 2) [(n0, l0), (n1, l1)] := by
  refine ⟨_, 2, rfl, by simp, by omega, .inr ⟨b, 0, rfl, fun i n l hi => ?_⟩⟩
  match i with
  | 0 =>
    simp at hi
    obtain ⟨rfl, rfl⟩ := hi
    exact ⟨v0, by rw [hB.cell]; rfl, by rw [hB.cell]; rfl, h0⟩
  | 1 =>
    simp at hi
    obtain ⟨rfl, rfl⟩ := hi
    exact ⟨v1, by rw [hB.cell]; rfl, by rw [hB.cell]; rfl, h1⟩
  | i + 2 => simp at hi
end
end Go.Vc
namespace Go.Proofs.YtikfhibcdhdglaaGreat
open Go.Vc
theorem ok_CF_poset {v fv : Value} {w : World} {ps : List (Int × List Int)} (hs : SlP w v ps) (p : Int → List Int → Bool)
    (hf : ∀ w', Ext w w' → ∀ (n : Int) (l : List Int) (u : Value), SlI w' u l → callV Tryz.prog fv [.agg #[.int .i64 n, u]] w' fun r w'' => r = .bool (p n l) ∧ Ext w' w'') :
    Ret Tryz.prog f_slices_ContainsFunc_Simpl_Poset_impl_Poset #[v, fv] w (.bool (ps.any fun q => p q.1 q.2)) := by
  have hlen := hs.len
  have hidx : Cal Tryz.prog f_slices_IndexFunc_Simpl_Poset_impl_Poset #[v, fv] w fun r w' => Ext w w' ∧ ∃ j : Int, r = .int .i64 j ∧ decide (0 ≤ j) = ps.any fun q => p q.1 q.2 := by
    apply c_slices_IndexFunc_Simpl_Poset_impl_Poset; unfold S_slices_IndexFunc_Simpl_Poset_impl_Poset
    refine iLenP hs ?_
    refine iLp (fun k : Nat => [.int .i64 (k : Int)]) (fun k w' => k ≤ ps.length ∧ Ext w w' ∧ (ps.take k).any (fun q => p q.1 q.2) = false) (fun k => ps.length - k) 0 rfl ⟨Nat.zero_le _, Ext.refl _, rfl⟩ ?_
    rintro k w2 Kn ⟨hk, h2, hno⟩ hKn
    have hs2 := hs.ext h2
    (intro _; (try simp only [gx]); (with_reducible refine iLt ?_))
    refine iCndP (fun h3 => ?_) (fun h3 => ?_)
    · have hk1 : k < ps.length := by omega
      have ht : ps.take (k + 1) = ps.take k ++ [ps[k]] := List.take_succ_eq_append_getElem hk1
      refine iIaP hs2 hk1 fun b o u g1 g2 g3 => ?_
      refine iLd2 g1 g2 ?_
      refine (hf w2 h2 _ _ u g3).mono ?_
      rintro _ w3 ⟨rfl, h4⟩
      refine iCnd (fun h5 => ?_) (fun h5 => ?_)
      · refine ⟨h2.trans h4, (k : Int), rfl, ?_⟩
        rw [decide_eq_true (by omega)]
        symm
        rw [List.any_eq_true]
        exact ⟨ps[k], List.getElem_mem hk1, h5⟩
      · (refine iAdd (by omega) ?_)
        refine hKn (k + 1) _ ⟨by omega, h2.trans h4, ?_⟩ (by omega)
        rw [ht, List.any_append, hno, Bool.false_or]
        simpa using h5
    · refine ⟨h2, -1, rfl, ?_⟩
      rw [List.take_of_length_le (by omega)] at hno
      rw [hno]; rfl
  apply c_slices_ContainsFunc_Simpl_Poset_impl_Poset; unfold S_slices_ContainsFunc_Simpl_Poset_impl_Poset
  refine iCall (hidx.mono ?_)
  rintro _ w1 ⟨h1, j, rfl, hj⟩
  ((with_reducible refine iLe ?_))
  exact ⟨by rw [hj], h1⟩
theorem ok_impl_arePosetsL {v : Value} {w : World} {ps : List (Int × List Int)} (hs : SlP w v ps) : Ret Tryz.prog f_impl_arePosets #[v] w (.int .i64 (if ps.any (fun q => !posetOk q.1 q.2) then 1 else 0)) := by
  apply c_impl_arePosets; unfold S_impl_arePosets
  refine iRet (ok_CF_poset hs (fun n l => !posetOk n l) fun w' _ n l u hu => iClo rfl ?_) fun w1 h1 => ?_
  · exact (ok_impl_arePosets_1 hu n).mono fun _ _ h => h
  · cases hp : ps.any fun q => !posetOk q.1 q.2
    · exact iCndF rfl ⟨rfl, h1⟩
    · exact iCndT rfl ⟨rfl, h1⟩
/-- The code of posets that may not be large. -/
def codeS (ps : List (Int × List Int)) : Int := if ps.any (fun q => !posetOk q.1 q.2) then 1 else if ps.any (fun q => decide (6 < q.1)) then 3 else 0
theorem ok_impl_sixCode {v : Value} {w : World} {ps : List (Int × List Int)} (hs : SlP w v ps) : Ret Tryz.prog f_impl_sixCode #[v] w (.int .i64 (codeS ps)) := by
  apply c_impl_sixCode; unfold S_impl_sixCode
  unfold codeS
  refine iRet (ok_impl_arePosetsL hs) fun w1 h1 => ?_
  cases hp : ps.any fun q => !posetOk q.1 q.2
  · refine iJnB (ps.any fun q => decide (6 < q.1)) w1 (fun J hJ => ?_) (fun w3 h3 => ?_)
    · ((with_reducible refine iEq ?_))
      refine iCndT rfl ?_
      refine iRet (ok_CF_poset (hs.ext h1) (fun n _ => decide (6 < n)) fun w' _ n l u hu => iClo rfl ?_) fun w4 h4 => hJ w4 h4
      show Cal Tryz.prog f_impl_sixCode_1 #[.agg #[.int .i64 n, u]] w' _
      apply c_impl_sixCode_1; unfold S_impl_sixCode_1
      refine iNew fun b w5 hb h5 hB => ?_
      ((with_reducible refine iFa ?_); refine iLdB (by assumption) (by first | rfl | simp) ?_; (with_reducible refine iLt ?_))
      exact ⟨rfl, h5⟩
    · (intro _; (try simp only [gx]))
      cases hq : ps.any fun q => decide (6 < q.1)
      · exact iCndF rfl ⟨rfl, h1.trans h3⟩
      · exact iCndT rfl ⟨rfl, h1.trans h3⟩
  · refine iJnB false w1 (fun J hJ => ?_) (fun w3 h3 => ?_)
    · ((with_reducible refine iEq ?_))
      exact iCndF rfl (hJ w1 (Ext.refl _))
    · (intro _; (try simp only [gx]))
      exact iCndF rfl ⟨rfl, h1.trans h3⟩
theorem ok_spec_l34Code {v : Value} {w : World} {ps : List (Int × List Int)} (hs : SlP w v ps) : Ret Tryz.prog f_spec_l34Code #[v] w (.int .i64 (codeS ps)) := by
  apply c_spec_l34Code; unfold S_spec_l34Code
  have hlen := hs.len
  refine iLp (fun s : Bool × Nat => [.bool s.1, .int .i64 (s.2 : Int)]) (fun s w' => s.2 ≤ ps.length ∧ Ext w w' ∧ (ps.take s.2).any (fun q => !posetOk q.1 q.2) = false ∧ s.1 = !(ps.take s.2).any (fun q => decide (6 < q.1))) (fun s => ps.length - s.2) (true, 0) rfl ⟨Nat.zero_le _, Ext.refl _, rfl, rfl⟩ ?_
  rintro ⟨sm, k⟩ w2 Kn ⟨hk, h2, hno, hsm⟩ hKn
  have hk : k ≤ ps.length := hk
  have hno : (ps.take k).any (fun q => !posetOk q.1 q.2) = false := hno
  have hsm : sm = !(ps.take k).any (fun q => decide (6 < q.1)) := hsm
  have hs2 := hs.ext h2
  (intro _; (try simp only [gx]))
  refine iLenP hs2 ?_
  ((with_reducible refine iLt ?_))
  refine iCndP (fun h3 => ?_) (fun h3 => ?_)
  · have hk1 : k < ps.length := by omega
    have ht : ps.take (k + 1) = ps.take k ++ [ps[k]] := List.take_succ_eq_append_getElem hk1
    refine iIaP hs2 hk1 fun b o u g1 g2 g3 => ?_
    refine iLd2 g1 g2 ?_
    refine iRet (ok_spec_l16Is g3 ps[k].1) fun w3 h4 => ?_
    ((with_reducible refine iNot ?_))
    cases hp : posetOk ps[k].1 ps[k].2
    · refine iCndT rfl ⟨?_, h2.trans h4⟩
      have : ps.any (fun q => !posetOk q.1 q.2) = true := by
        rw [List.any_eq_true]
        exact ⟨ps[k], List.getElem_mem hk1, by rw [hp]; rfl⟩
      unfold codeS
      rw [this]; rfl
    · refine iCndF rfl ?_
      have hno' : (ps.take (k + 1)).any (fun q => !posetOk q.1 q.2) = false := by
        rw [ht, List.any_append, hno, Bool.false_or]; simp [hp]
      refine iJnB (sm && decide (ps[k].1 ≤ 6)) w3 (fun J hJ => ?_) (fun w5 h5 => ?_)
      · cases sm
        · exact iCndF rfl (hJ w3 (Ext.refl _))
        · refine iCndT rfl ?_
          have hs3 := hs2.ext h4
          refine iIaP hs3 hk1 fun b' o' u' g1' g2' g3' => ?_
          refine iFa ?_
          refine iLd (p := ⟨b', o', none⟩) g1' ?_
          ((with_reducible refine iLe ?_))
          exact hJ w3 (Ext.refl _)
      · (intro _; (try simp only [gx]); refine iAdd (by omega) ?_)
        refine hKn (sm && decide (ps[k].1 ≤ 6), k + 1) _ ⟨by show k + 1 ≤ ps.length; omega, h2.trans (h4.trans h5), hno', ?_⟩ (by show ps.length - (k + 1) < ps.length - k; omega)
        show (sm && decide (ps[k].1 ≤ 6)) = !(ps.take (k + 1)).any (fun q => decide (6 < q.1))
        rw [ht, List.any_append, hsm, Bool.not_or]
        congr 1
        simp only [List.any_cons, List.any_nil, Bool.or_false]
        rw [← decide_not]
        exact decide_eq_decide.2 (by omega)
  · have e1 : ps.take k = ps := List.take_of_length_le (by omega)
    rw [e1] at hno hsm
    unfold codeS
    rw [hno]
    ((with_reducible refine iNot ?_))
    rw [hsm, Bool.not_not]
    cases hq : ps.any fun q => decide (6 < q.1)
    · exact iCndF rfl ⟨rfl, h2⟩
    · exact iCndT rfl ⟨rfl, h2⟩
end Go.Proofs.YtikfhibcdhdglaaGreat

/- Contracts: the first p-morphism onto a poset in the reference (l21Onto, FindImage). Conditions: none. -/
namespace Go.Vc
theorem findP_eq {f g : Fr} (hp : Po f) (hg : g.ok) (fix : List Int) (onto : Bool) (most : Nat) : findP f g fix onto most = ((foundU f g fix onto).map nats).take most := by
  unfold findP
  rw [srch_part hp hg]
theorem replicate_neg (n : Nat) : ∀ x, x < n → (List.replicate n (-1 : Int)).getD x 0 < 0 := fun x hx => by simp [List.getD_eq_getElem?_getD, hx]
end Go.Vc
namespace Go.Proofs.YtikfhibcdhdglaaGreat
open Go.Vc
theorem ok_spec_l21Onto {f g : Fr} (hp : Po f) (hg : g.ok) {w : World} {fa ga : Value} (hfa : SlN w fa f.a) (hga : SlN w ga g.a) :
    Cal Tryz.prog f_spec_l21Onto #[.agg #[.int .i64 (f.n : Int), fa], .agg #[.int .i64 (g.n : Int), ga]] w fun r w' => Ext w w' ∧ ∃ v, r = .tuple #[v, .bool (!(leaves (fitsB f g true false) g.n f.n []).isEmpty)] ∧
      Ow w.heap.size t_i64 w' v (ints (nats ((leaves (fitsB f g true false) g.n f.n []).headD []))) := by
  apply c_spec_l21Onto; unfold S_spec_l21Onto
  have hf8 := hp.ok.1
  have hg8 := hg.1
  refine iNew fun b1 w1 hb1 h1 hB1 => ?_
  refine iNew fun b2 w2 hb2 h2 hB2 => ?_
  have hB1 := hB1.ext h2
  have hX2 := h1.trans h2
  ((with_reducible refine iFa ?_); refine iLdB (by assumption) (by first | rfl | simp) ?_)
  refine iCall ((ok_spec_l21Free f.n hf8 w2).mono ?_)
  rintro vf w3 ⟨h3, ho⟩
  have hX3 := hX2.trans h3
  obtain ⟨e1, he1, hB1⟩ : ∃ e, t_i64 ≠ e ∧ Blk e w3 b1 [.int .i64 (f.n : Int), fa] := ⟨_, by decide, hB1.ext h3⟩
  obtain ⟨e2, he2, hB2⟩ : ∃ e, t_i64 ≠ e ∧ Blk e w3 b2 [.int .i64 (g.n : Int), ga] := ⟨_, by decide, hB2.ext h3⟩
  have hrl : (List.replicate f.n (-1 : Int)).length = f.n := List.length_replicate
  ((with_reducible refine iLdA (by assumption) ?_ ?_); rfl; (with_reducible refine iLdA (by assumption) ?_ ?_); rfl)
  refine iCall ((ok_spec_l21Find (onto := true) (most := 1) hp hg hrl (hfa.ext hX3) (hga.ext hX3) ho.sl (by omega)).mono ?_)
  rintro v15 w4 ⟨h4, vs, hov, hol⟩
  have hov := hov.sl
  have hX4 := hX3.trans h4
  have hB1 := hB1.ext h4
  have hB2 := hB2.ext h4
  have ho4 := (ho.ext h4).mono hX2.size
  have hvl : vs.length = min 1 (leaves (fitsB f g true false) g.n f.n []).length := by
    have h := hol.1
    rw [List.length_map, findP_eq hp hg, List.length_take, List.length_map, (found_perm hp hg (replicate_neg f.n)).length_eq] at h
    exact h
  ((with_reducible refine iLenS (by assumption) ?_; refine iEq ?_))
  cases hL : leaves (fitsB f g true false) g.n f.n [] with
  | nil =>
    rw [hL] at hvl
    refine iCndP (fun _ => ⟨hX4, _, rfl, Ow.nil _ _ _⟩) (fun h => absurd (show (vs.length : Int) = 0 by rw [hvl]; rfl) h)
  | cons F Fs =>
    rw [hL] at hvl
    have hv1 : vs.length = 1 := by rw [hvl]; simp
    obtain ⟨hFl, hFlt, _⟩ := (mem_leaves (onto := true) (one := false) (F := F) hp.ok hg).1 (by rw [hL]; exact List.mem_cons_self)
    refine iCndP (fun h => absurd h (by omega)) (fun _ => ?_)
    refine iLp (fun k : Nat => [.int .i64 (k : Int)]) (fun k w' => k ≤ f.n ∧ Ext w w' ∧ Blk e1 w' b1 [.int .i64 (f.n : Int), fa] ∧ Blk e2 w' b2 [.int .i64 (g.n : Int), ga] ∧ Ow w.heap.size t_i64 w' vf (ints (fixK f.n F k))) (fun k => f.n - k) 0 rfl ⟨Nat.zero_le _, hX4, hB1, hB2, by rw [fixK_zero]; exact ho4⟩ ?_
    rintro k w6 Kn ⟨hk, hX6, hB16, hB26, ho6⟩ hKn
    (intro _; (try simp only [gx]); (with_reducible refine iFa ?_); refine iLdB (by assumption) (by first | rfl | simp) ?_; (with_reducible refine iLt ?_))
    refine iCndP (fun h7 => ?_) (fun h7 => ?_)
    · have hk1 : k < f.n := by omega
      have hFk : F.getD k 0 < g.n := getD_lt hFlt (by omega)
      refine iLp (fun y : Nat => [.int .i64 (y : Int)]) (fun y w' => y ≤ F.getD k 0 ∧ Ext w w' ∧ Blk e1 w' b1 [.int .i64 (f.n : Int), fa] ∧ Blk e2 w' b2 [.int .i64 (g.n : Int), ga] ∧ ∃ l : List Int, l.length = f.n ∧ (∀ z : Int, l.set k z = (fixK f.n F k).set k z) ∧ Ow w.heap.size t_i64 w' vf (ints l)) (fun y => F.getD k 0 - y) 0 rfl ⟨Nat.zero_le _, hX6, hB16, hB26, _, fixK_len _ _ _, fun _ => rfl, ho6⟩ ?_
      rintro y w8 Kn8 ⟨hy, hX8, hB18, hB28, l, hll, hls, ho8⟩ hKn8
      (intro _; (try simp only [gx]); (with_reducible refine iFa ?_); refine iLdB (by assumption) (by first | rfl | simp) ?_; (with_reducible refine iLt ?_))
      refine iCndP (fun h9 => ?_) (fun h9 => absurd (show (y : Int) < g.n by omega) h9)
      have hil : (ints l).length = f.n := by rw [ints_length, hll]
      refine iIaOwE ho8 (by omega) fun bu hbu hwr => ?_
      obtain ⟨hc1, hc2, hc3⟩ := hwr w8 _ rfl ho8
      rw [List.getElem?_eq_getElem (by omega)] at hc1
      refine iSt hc1 hc2 rfl ?_
      have ho9 := hc3 (.int .i64 (y : Int))
      have hset : (ints l).set k (.int .i64 (y : Int)) = ints ((fixK f.n F k).set k (y : Int)) := by rw [← hls]; simp [ints, List.map_set]
      rw [hset] at ho9
      have hu := Upd.setCell w8 bu k (.int .i64 (y : Int))
      have hX9 : Ext w (w8.setCell ⟨bu, k, none⟩ (.int .i64 (y : Int))) := hX8.upd hu (ho8.blk bu hbu).1
      have hB19 := hB18.upd hu (fun e => ho8.ne_blk hB18 he1 (by rw [hbu, e]))
      have hB29 := hB28.upd hu (fun e => ho8.ne_blk hB28 he2 (by rw [hbu, e]))
      have hfl9 : ((fixK f.n F k).set k (y : Int)).length = f.n := by rw [List.length_set, fixK_len]
      ((with_reducible refine iLdA (by assumption) ?_ ?_); rfl; (with_reducible refine iLdA (by assumption) ?_ ?_); rfl)
      refine iCall ((ok_spec_l21Find (onto := true) (most := 1) hp hg hfl9 (hfa.ext hX9) (hga.ext hX9) ho9.sl (by omega)).mono ?_)
      rintro v37 w10 ⟨h10, vs', hov', hol'⟩
      have hov' := hov'.sl
      have hX10 := hX9.trans h10
      have hB1A := hB19.ext h10
      have hB2A := hB29.ext h10
      have hoA := ho9.ext h10
      have hvl' : vs'.length = min 1 (foundU f g ((fixK f.n F k).set k (y : Int)) true).length := by
        have h := hol'.1
        rw [List.length_map, findP_eq hp hg, List.length_take, List.length_map] at h
        exact h
      ((with_reducible refine iLenS (by assumption) ?_; refine iLt ?_))
      rcases Nat.lt_or_ge y (F.getD k 0) with hlt | hge
      · rw [greedy_none hp hg hL hk1 hlt] at hvl'
        refine iCndP (fun h => absurd h (by rw [hvl']; simp)) (fun _ => ?_)
        (refine iAdd (by omega) ?_)
        exact hKn8 (y + 1) _ ⟨by omega, hX10, hB1A, hB2A, _, hfl9, fun z => by rw [List.set_set], hoA⟩ (by omega)
      · obtain rfl : y = F.getD k 0 := by omega
        rw [fixK_set hk1] at hvl' hoA
        have hpos := List.length_pos_iff.2 (greedy_some (k := k + 1) hp hg hL)
        refine iCndP (fun _ => ?_) (fun h => absurd (show (0 : Int) < (vs'.length : Nat) by omega) h)
        (refine iAdd (by omega) ?_)
        exact hKn (k + 1) _ ⟨by omega, hX10, hB1A, hB2A, hoA⟩ (by omega)
    · obtain rfl : k = f.n := by omega
      rw [fixK_end hFl] at ho6
      exact ⟨hX6, vf, rfl, ho6⟩
end Go.Proofs.YtikfhibcdhdglaaGreat
