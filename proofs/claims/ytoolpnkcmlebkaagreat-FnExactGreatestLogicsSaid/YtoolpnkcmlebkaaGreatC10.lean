/- Contracts of the program's search for morphisms. Conditions: none. -/
import Derived.Test.YtoolpnkcmlebkaaGreatC09
namespace Go.Vc
def leaves (ok : List Nat → Bool) (m d : Nat) (im : List Nat) : List (List Nat) := if ok im then dfs ok m d im else []
theorem dfs_length (ok : List Nat → Bool) (m : Nat) : ∀ (d : Nat) (im : List Nat), (dfs ok m d im).length ≤ m ^ d
  | 0, im => by simp [dfs]
  | d + 1, im => by
    rw [dfs_succ]
    have key : ∀ k, ((List.range k).flatMap fun y => if ok (im ++ [y]) then dfs ok m d (im ++ [y]) else []).length ≤ k * m ^ d := by
      intro k
      induction k with
      | zero => simp
      | succ k ih =>
        rw [List.range_succ, List.flatMap_append, List.length_append, Nat.succ_mul]
        refine Nat.add_le_add ih ?_
        simp only [List.flatMap_cons, List.flatMap_nil, List.append_nil]
        split
        · exact dfs_length ok m d _
        · simp
    exact Nat.le_trans (key m) (by rw [Nat.pow_succ, Nat.mul_comm]; exact Nat.le_refl _)
theorem leaves_length (ok : List Nat → Bool) (m d : Nat) (im : List Nat) : (leaves ok m d im).length ≤ m ^ d := by
  unfold leaves
  split
  · exact dfs_length ok m d im
  · simp
theorem flat_length (ok : List Nat → Bool) (m d : Nat) (im : List Nat) : ∀ k, ((List.range k).flatMap fun y => leaves ok m d (im ++ [y])).length ≤ k * m ^ d
  | 0 => by simp
  | k + 1 => by
    rw [List.range_succ, List.flatMap_append, List.length_append, Nat.succ_mul]
    refine Nat.add_le_add (flat_length ok m d im k) ?_
    simp only [List.flatMap_cons, List.flatMap_nil, List.append_nil]
    exact leaves_length ok m d _
/-- The state of the search. -/
structure RunSt {P : Program} {ti : TypeId} {vis : Value} {n m : Nat} {cont : List (List Nat) → Bool} (V : Visitor P ti vis n m cont) (f g : Fr) (onto one : Bool) (e : TypeId) (w0 : World) (fa ga : Value) (b : Nat) (w : World) (im : List Nat) (vim : Value) (S : Nat → Prop) (vl : List (List Nat)) : Prop where
  ext : Ext w0 w
  blk : Blk e w b [.int .i64 (f.n : Int), fa, .int .i64 (g.n : Int), ga, vim, vis, .bool onto, .bool one]
  ow : Ow w0.heap.size ti w vim (ints (nats im))
  j : V.J S vl w
  sb : ¬ S b
  sv : ∀ c, vim.ownBlock = some c → ¬ S c
  s0 : ∀ k, S k → w0.heap.size ≤ k
theorem RunSt.later {P : Program} {ti : TypeId} {vis : Value} {n m : Nat} {cont : List (List Nat) → Bool} {V : Visitor P ti vis n m cont} {f g : Fr} {onto one : Bool} {e : TypeId} {w0 : World} {fa ga : Value} {b : Nat} {w w' : World} {im : List Nat} {vim : Value} {S : Nat → Prop} {vl : List (List Nat)}
    (h : RunSt V f g onto one e w0 fa ga b w im vim S vl) (he : Ext w w') : RunSt V f g onto one e w0 fa ga b w' im vim S vl :=
  ⟨h.ext.trans he, h.blk.ext he, h.ow.ext he, V.keep h.j he.size fun k hk => he.block k (V.below h.j k hk), h.sb, h.sv, h.s0⟩
end Go.Vc
namespace Go.Proofs.YtoolpnkcmlebkaaGreat
open Go.Vc
theorem ok_impl_morphismSearch_run {f g : Fr} (hf : f.ok) (hg : g.ok) {onto one : Bool} {e : TypeId} (he1 : t_i64 ≠ e) {vis : Value} {cont : List (List Nat) → Bool} (V : Visitor Tryz.prog t_i64 vis f.n g.n cont) {w0 : World} {fa ga : Value} (hfa : SlN w0 fa f.a) (hga : SlN w0 ga g.a) {b : Nat} (hb : w0.heap.size ≤ b) :
    ∀ (d : Nat) (im : List Nat) (w : World) (vim : Value) (S : Nat → Prop) (vl : List (List Nat)), im.length + d = f.n → (∀ y ∈ im, y < g.n) → (vl = [] ∨ cont vl = true) → vl.length + g.n ^ d ≤ 100000000 →
      RunSt V f g onto one e w0 fa ga b w im vim S vl →
      Cal Tryz.prog f_impl_morphismSearch_run #[.pointer (some ⟨b, 0, none⟩)] w fun v w' => v = .bool (visitAll cont vl (leaves (fitsB f g onto one) g.n d im)).2 ∧ ∃ vim' S',
        RunSt V f g onto one e w0 fa ga b w' im vim' S' (visitAll cont vl (leaves (fitsB f g onto one) g.n d im)).1 := by
  have hf8 := hf.1
  have hg8 := hg.1
  intro d
  induction d with
  | zero =>
    intro im w vim S vl hlen hm hvl hcap hst
    apply c_impl_morphismSearch_run; unfold S_impl_morphismSearch_run
    refine iRet (ok_impl_morphismSearch_fits hf hg (by omega) hm hst.blk (hfa.ext hst.ext) (hga.ext hst.ext) hst.ow.sl) fun w1 h1 => ?_
    have hst := hst.later h1
    (repeat first
    | (with_reducible first | refine iFa ?_ | refine iNil ?_ | refine iNilF ?_ | refine iLd (by assumption) ?_ | refine iLenN (by assumption) ?_ | refine iLenI (by assumption) ?_ | refine iLenS (by assumption) ?_ | refine iLenL ?_ | refine iEq ?_ | refine iNe ?_ | refine iLt ?_ | refine iLe ?_ | refine iNot ?_ | refine iPick ?_ | refine iE20 ?_ | refine iE21 ?_ | refine iE30 ?_ | refine iE31 ?_ | refine iE32 ?_ | refine iJn ?_)
    | ((with_reducible show xLd _ _ _); refine iLdB (by assumption) (by first | rfl | simp) ?_) | ((with_reducible refine iLdA (by assumption) ?_ ?_); rfl)
    | ((with_reducible refine iIaNN (by assumption) ?_ (fun pa_ hpa_ => ?_)); omega) | ((with_reducible refine iIaN (by assumption) ?_ (fun pa_ hpa_ => ?_)); omega)
    | ((with_reducible refine iIaI (by assumption) ?_ ?_ (fun pa_ hpa_ => ?_)); omega; omega) | ((with_reducible refine iAdd ?_ ?_); omega) | ((with_reducible refine iSub ?_ ?_); omega)
    | ((with_reducible show xEx _ _ _); refine iEx (by rfl) ?_) | ((with_reducible refine fun (_ : Nat → Value) => ?_); (try simp only [gx])))
    cases hfit : fitsB f g onto one im
    · refine iCndT rfl ?_
      unfold leaves
      rw [hfit]
      exact ⟨rfl, vim, S, hst⟩
    · refine iCndF rfl ?_
      have hB := hst.blk
      have hsl : SlN w1 vim im := hst.ow.sl
      (repeat first
    | (with_reducible first | refine iFa ?_ | refine iNil ?_ | refine iNilF ?_ | refine iLd (by assumption) ?_ | refine iLenN (by assumption) ?_ | refine iLenI (by assumption) ?_ | refine iLenS (by assumption) ?_ | refine iLenL ?_ | refine iEq ?_ | refine iNe ?_ | refine iLt ?_ | refine iLe ?_ | refine iNot ?_ | refine iPick ?_ | refine iE20 ?_ | refine iE21 ?_ | refine iE30 ?_ | refine iE31 ?_ | refine iE32 ?_ | refine iJn ?_)
    | ((with_reducible show xLd _ _ _); refine iLdB (by assumption) (by first | rfl | simp) ?_) | ((with_reducible refine iLdA (by assumption) ?_ ?_); rfl)
    | ((with_reducible refine iIaNN (by assumption) ?_ (fun pa_ hpa_ => ?_)); omega) | ((with_reducible refine iIaN (by assumption) ?_ (fun pa_ hpa_ => ?_)); omega)
    | ((with_reducible refine iIaI (by assumption) ?_ ?_ (fun pa_ hpa_ => ?_)); omega; omega) | ((with_reducible refine iAdd ?_ ?_); omega) | ((with_reducible refine iSub ?_ ?_); omega)
    | ((with_reducible show xEx _ _ _); refine iEx (by rfl) ?_) | ((with_reducible refine fun (_ : Nat → Value) => ?_); (try simp only [gx])))
      intro w2 h2
      have hst := hst.later h2
      have hB := hst.blk
      refine iCndP (fun h3 => ?_) (fun h3 => absurd (show (im.length : Int) = f.n by omega) h3)
      (repeat first
    | (with_reducible first | refine iFa ?_ | refine iNil ?_ | refine iNilF ?_ | refine iLd (by assumption) ?_ | refine iLenN (by assumption) ?_ | refine iLenI (by assumption) ?_ | refine iLenS (by assumption) ?_ | refine iLenL ?_ | refine iEq ?_ | refine iNe ?_ | refine iLt ?_ | refine iLe ?_ | refine iNot ?_ | refine iPick ?_ | refine iE20 ?_ | refine iE21 ?_ | refine iE30 ?_ | refine iE31 ?_ | refine iE32 ?_ | refine iJn ?_)
    | ((with_reducible show xLd _ _ _); refine iLdB (by assumption) (by first | rfl | simp) ?_) | ((with_reducible refine iLdA (by assumption) ?_ ?_); rfl)
    | ((with_reducible refine iIaNN (by assumption) ?_ (fun pa_ hpa_ => ?_)); omega) | ((with_reducible refine iIaN (by assumption) ?_ (fun pa_ hpa_ => ?_)); omega)
    | ((with_reducible refine iIaI (by assumption) ?_ ?_ (fun pa_ hpa_ => ?_)); omega; omega) | ((with_reducible refine iAdd ?_ ?_); omega) | ((with_reducible refine iSub ?_ ?_); omega)
    | ((with_reducible show xEx _ _ _); refine iEx (by rfl) ?_) | ((with_reducible refine fun (_ : Nat → Value) => ?_); (try simp only [gx])))
      intro w3 h3
      have hst := hst.later h3
      refine callV.mono (V.visit hst.j hvl (by simp at hcap; omega) hst.ow (by omega) hm hst.sv) ?_
      rintro _ w4 ⟨rfl, S', hj, hch, hS'⟩
      intro w5 h5
      have hL : visitAll cont vl (leaves (fitsB f g onto one) g.n 0 im) = (vl ++ [im], cont (vl ++ [im])) := by
        unfold leaves
        rw [hfit, if_pos rfl]
        simp only [dfs, visitAll]
        cases cont (vl ++ [im]) <;> simp
      rw [hL]
      have hB3 := hst.blk
      refine ⟨rfl, vim, S', RunSt.later ⟨hst.ext.thenCh hch hst.s0, hB3.ch hch hst.sb, hst.ow.ch hch hst.sv, hj, fun h => ?_, fun c hc h => ?_, fun k hk => ?_⟩ h5⟩
      · rcases hS' _ h with h | h
        · exact hst.sb h
        · have := hB3.lt; omega
      · rcases hS' _ h with h | h
        · exact hst.sv c hc h
        · have := (hst.ow.blk c hc).2; omega
      · rcases hS' _ hk with h | h
        · exact hst.s0 k h
        · have := hst.ext.size; omega
  | succ d ih =>
    intro im w vim S vl hlen hm hvl hcap hst
    apply c_impl_morphismSearch_run; unfold S_impl_morphismSearch_run
    refine iRet (ok_impl_morphismSearch_fits hf hg (by omega) hm hst.blk (hfa.ext hst.ext) (hga.ext hst.ext) hst.ow.sl) fun w1 h1 => ?_
    have hst := hst.later h1
    (repeat first
    | (with_reducible first | refine iFa ?_ | refine iNil ?_ | refine iNilF ?_ | refine iLd (by assumption) ?_ | refine iLenN (by assumption) ?_ | refine iLenI (by assumption) ?_ | refine iLenS (by assumption) ?_ | refine iLenL ?_ | refine iEq ?_ | refine iNe ?_ | refine iLt ?_ | refine iLe ?_ | refine iNot ?_ | refine iPick ?_ | refine iE20 ?_ | refine iE21 ?_ | refine iE30 ?_ | refine iE31 ?_ | refine iE32 ?_ | refine iJn ?_)
    | ((with_reducible show xLd _ _ _); refine iLdB (by assumption) (by first | rfl | simp) ?_) | ((with_reducible refine iLdA (by assumption) ?_ ?_); rfl)
    | ((with_reducible refine iIaNN (by assumption) ?_ (fun pa_ hpa_ => ?_)); omega) | ((with_reducible refine iIaN (by assumption) ?_ (fun pa_ hpa_ => ?_)); omega)
    | ((with_reducible refine iIaI (by assumption) ?_ ?_ (fun pa_ hpa_ => ?_)); omega; omega) | ((with_reducible refine iAdd ?_ ?_); omega) | ((with_reducible refine iSub ?_ ?_); omega)
    | ((with_reducible show xEx _ _ _); refine iEx (by rfl) ?_) | ((with_reducible refine fun (_ : Nat → Value) => ?_); (try simp only [gx])))
    cases hfit : fitsB f g onto one im
    · refine iCndT rfl ?_
      unfold leaves
      rw [hfit]
      exact ⟨rfl, vim, S, hst⟩
    · refine iCndF rfl ?_
      have hB := hst.blk
      have hsl : SlN w1 vim im := hst.ow.sl
      (repeat first
    | (with_reducible first | refine iFa ?_ | refine iNil ?_ | refine iNilF ?_ | refine iLd (by assumption) ?_ | refine iLenN (by assumption) ?_ | refine iLenI (by assumption) ?_ | refine iLenS (by assumption) ?_ | refine iLenL ?_ | refine iEq ?_ | refine iNe ?_ | refine iLt ?_ | refine iLe ?_ | refine iNot ?_ | refine iPick ?_ | refine iE20 ?_ | refine iE21 ?_ | refine iE30 ?_ | refine iE31 ?_ | refine iE32 ?_ | refine iJn ?_)
    | ((with_reducible show xLd _ _ _); refine iLdB (by assumption) (by first | rfl | simp) ?_) | ((with_reducible refine iLdA (by assumption) ?_ ?_); rfl)
    | ((with_reducible refine iIaNN (by assumption) ?_ (fun pa_ hpa_ => ?_)); omega) | ((with_reducible refine iIaN (by assumption) ?_ (fun pa_ hpa_ => ?_)); omega)
    | ((with_reducible refine iIaI (by assumption) ?_ ?_ (fun pa_ hpa_ => ?_)); omega; omega) | ((with_reducible refine iAdd ?_ ?_); omega) | ((with_reducible refine iSub ?_ ?_); omega)
    | ((with_reducible show xEx _ _ _); refine iEx (by rfl) ?_) | ((with_reducible refine fun (_ : Nat → Value) => ?_); (try simp only [gx])))
      intro w2 h2
      have hst := hst.later h2
      have hB := hst.blk
      refine iCndP (fun h3 => absurd h3 (by omega)) (fun h3 => ?_)
      have hL : leaves (fitsB f g onto one) g.n (d + 1) im = (List.range g.n).flatMap fun y => leaves (fitsB f g onto one) g.n d (im ++ [y]) := by
        rw [leaves, hfit, if_pos rfl, dfs_succ]; rfl
      rw [hL]
      (repeat first
    | (with_reducible first | refine iFa ?_ | refine iNil ?_ | refine iNilF ?_ | refine iLd (by assumption) ?_ | refine iLenN (by assumption) ?_ | refine iLenI (by assumption) ?_ | refine iLenS (by assumption) ?_ | refine iLenL ?_ | refine iEq ?_ | refine iNe ?_ | refine iLt ?_ | refine iLe ?_ | refine iNot ?_ | refine iPick ?_ | refine iE20 ?_ | refine iE21 ?_ | refine iE30 ?_ | refine iE31 ?_ | refine iE32 ?_ | refine iJn ?_)
    | ((with_reducible show xLd _ _ _); refine iLdB (by assumption) (by first | rfl | simp) ?_) | ((with_reducible refine iLdA (by assumption) ?_ ?_); rfl)
    | ((with_reducible refine iIaNN (by assumption) ?_ (fun pa_ hpa_ => ?_)); omega) | ((with_reducible refine iIaN (by assumption) ?_ (fun pa_ hpa_ => ?_)); omega)
    | ((with_reducible refine iIaI (by assumption) ?_ ?_ (fun pa_ hpa_ => ?_)); omega; omega) | ((with_reducible refine iAdd ?_ ?_); omega) | ((with_reducible refine iSub ?_ ?_); omega)
    | ((with_reducible show xEx _ _ _); refine iEx (by rfl) ?_) | ((with_reducible refine fun (_ : Nat → Value) => ?_); (try simp only [gx])))
      refine iLp (fun k : Nat => [.int .i64 (k : Int)]) (fun k w' => k ≤ g.n ∧ ∃ vim' S' vl', RunSt V f g onto one e w0 fa ga b w' im vim' S' vl' ∧
          visitAll cont vl ((List.range k).flatMap fun y => leaves (fitsB f g onto one) g.n d (im ++ [y])) = (vl', true)) (fun k => g.n - k) 0 rfl ⟨Nat.zero_le _, vim, S, vl, hst, by simp [visitAll]⟩ ?_
      rintro k w7 Kn ⟨hk, vim', S', vl', hst', hvis⟩ hKn
      have hB7 := hst'.blk
      have hvl' : vl' = [] ∨ cont vl' = true := by
        have := visitAll_cont cont ((List.range k).flatMap fun y => leaves (fitsB f g onto one) g.n d (im ++ [y])) vl hvl (by rw [hvis])
        rwa [hvis] at this
      have hlen' : vl'.length ≤ vl.length + k * g.n ^ d := by
        have h1 := visitAll_len cont ((List.range k).flatMap fun y => leaves (fitsB f g onto one) g.n d (im ++ [y])) vl
        rw [hvis] at h1
        have h2 := flat_length (fitsB f g onto one) g.n d im k
        simp only at h1
        omega
      (repeat first
    | (with_reducible first | refine iFa ?_ | refine iNil ?_ | refine iNilF ?_ | refine iLd (by assumption) ?_ | refine iLenN (by assumption) ?_ | refine iLenI (by assumption) ?_ | refine iLenS (by assumption) ?_ | refine iLenL ?_ | refine iEq ?_ | refine iNe ?_ | refine iLt ?_ | refine iLe ?_ | refine iNot ?_ | refine iPick ?_ | refine iE20 ?_ | refine iE21 ?_ | refine iE30 ?_ | refine iE31 ?_ | refine iE32 ?_ | refine iJn ?_)
    | ((with_reducible show xLd _ _ _); refine iLdB (by assumption) (by first | rfl | simp) ?_) | ((with_reducible refine iLdA (by assumption) ?_ ?_); rfl)
    | ((with_reducible refine iIaNN (by assumption) ?_ (fun pa_ hpa_ => ?_)); omega) | ((with_reducible refine iIaN (by assumption) ?_ (fun pa_ hpa_ => ?_)); omega)
    | ((with_reducible refine iIaI (by assumption) ?_ ?_ (fun pa_ hpa_ => ?_)); omega; omega) | ((with_reducible refine iAdd ?_ ?_); omega) | ((with_reducible refine iSub ?_ ?_); omega)
    | ((with_reducible show xEx _ _ _); refine iEx (by rfl) ?_) | ((with_reducible refine fun (_ : Nat → Value) => ?_); (try simp only [gx])))
      refine iCndP (fun h4 => ?_) (fun h4 => ?_)
      · have hk1 : k < g.n := by omega
        have hcap' : vl'.length + g.n ^ d ≤ 100000000 := by
          have h1 : (k + 1) * g.n ^ d ≤ g.n * g.n ^ d := Nat.mul_le_mul_right _ hk1
          rw [Nat.succ_mul] at h1
          rw [Nat.pow_succ, Nat.mul_comm] at hcap
          omega
        (repeat first
    | (with_reducible first | refine iFa ?_ | refine iNil ?_ | refine iNilF ?_ | refine iLd (by assumption) ?_ | refine iLenN (by assumption) ?_ | refine iLenI (by assumption) ?_ | refine iLenS (by assumption) ?_ | refine iLenL ?_ | refine iEq ?_ | refine iNe ?_ | refine iLt ?_ | refine iLe ?_ | refine iNot ?_ | refine iPick ?_ | refine iE20 ?_ | refine iE21 ?_ | refine iE30 ?_ | refine iE31 ?_ | refine iE32 ?_ | refine iJn ?_)
    | ((with_reducible show xLd _ _ _); refine iLdB (by assumption) (by first | rfl | simp) ?_) | ((with_reducible refine iLdA (by assumption) ?_ ?_); rfl)
    | ((with_reducible refine iIaNN (by assumption) ?_ (fun pa_ hpa_ => ?_)); omega) | ((with_reducible refine iIaN (by assumption) ?_ (fun pa_ hpa_ => ?_)); omega)
    | ((with_reducible refine iIaI (by assumption) ?_ ?_ (fun pa_ hpa_ => ?_)); omega; omega) | ((with_reducible refine iAdd ?_ ?_); omega) | ((with_reducible refine iSub ?_ ?_); omega)
    | ((with_reducible show xEx _ _ _); refine iEx (by rfl) ?_) | ((with_reducible refine fun (_ : Nat → Value) => ?_); (try simp only [gx])))
        have hil : (ints (nats im)).length = im.length := by rw [ints_length, nats_length]
        refine iApp1A u_Si64 i_Si64 rfl hst'.ow rfl (by omega) (by omega) hst'.ext.size fun v' w9 ho hgr hat => ?_
        rw [ints_snoc] at ho
        have hvb : vim'.ownBlock ≠ some b := hst'.ow.ne_blk hB7 (fun h => he1 h)
        have hB9 := hB7.grown hgr hvb
        (repeat first
    | (with_reducible first | refine iFa ?_ | refine iNil ?_ | refine iNilF ?_ | refine iLd (by assumption) ?_ | refine iLenN (by assumption) ?_ | refine iLenI (by assumption) ?_ | refine iLenS (by assumption) ?_ | refine iLenL ?_ | refine iEq ?_ | refine iNe ?_ | refine iLt ?_ | refine iLe ?_ | refine iNot ?_ | refine iPick ?_ | refine iE20 ?_ | refine iE21 ?_ | refine iE30 ?_ | refine iE31 ?_ | refine iE32 ?_ | refine iJn ?_)
    | ((with_reducible show xLd _ _ _); refine iLdB (by assumption) (by first | rfl | simp) ?_) | ((with_reducible refine iLdA (by assumption) ?_ ?_); rfl)
    | ((with_reducible refine iIaNN (by assumption) ?_ (fun pa_ hpa_ => ?_)); omega) | ((with_reducible refine iIaN (by assumption) ?_ (fun pa_ hpa_ => ?_)); omega)
    | ((with_reducible refine iIaI (by assumption) ?_ ?_ (fun pa_ hpa_ => ?_)); omega; omega) | ((with_reducible refine iAdd ?_ ?_); omega) | ((with_reducible refine iSub ?_ ?_); omega)
    | ((with_reducible show xEx _ _ _); refine iEx (by rfl) ?_) | ((with_reducible refine fun (_ : Nat → Value) => ?_); (try simp only [gx])))
        refine iStB hB9 (by simp) ho.cell fun hB10 => ?_
        have hu := Upd.setCell w9 b 4 v'
        have hv'b : v'.ownBlock ≠ some b := ho.ne_blk hB9 (fun h => he1 h)
        have hch : Ch (fun c => c = b ∨ vim'.ownBlock = some c) w7 (w9.setCell ⟨b, 4, none⟩ v') := (grown_ch hgr (fun c hc => .inr hc)).trans (hu.ch (S := fun c => c = b) rfl) (fun c hc => .inl (.inl hc))
        have hst10 : RunSt V f g onto one e w0 fa ga b (w9.setCell ⟨b, 4, none⟩ v') (im ++ [k]) v' S' vl' := by
          refine ⟨hst'.ext.thenCh hch (fun c hc => ?_), hB10, ho.upd hu hv'b, V.keep hst'.j hch.size (fun c hc => hch.block c (V.below hst'.j c hc) ?_), hst'.sb, fun c hc h => ?_, hst'.s0⟩
          · rcases hc with rfl | hc
            · exact hb
            · exact (hst'.ow.blk c hc).1
          · rintro (rfl | h)
            · exact hst'.sb hc
            · exact hst'.sv c h hc
          · rcases hat with h1 | ⟨c', h1, h2⟩
            · exact hst'.sv c (by rw [← h1]; exact hc) h
            · rw [h1] at hc; cases hc
              have := V.below hst'.j _ h
              omega
        have hm' : ∀ y ∈ im ++ [k], y < g.n := fun y hy => by
          simp at hy
          rcases hy with hy | rfl
          · exact hm y hy
          · omega
        refine iCall ((ih (im ++ [k]) _ v' S' vl' (by simp; omega) hm' hvl' hcap' hst10).mono ?_)
        rintro _ w11 ⟨rfl, vim2, S2, hst11⟩
        have hB11 := hst11.blk
        have hl11 : (im ++ [k]).length = im.length + 1 := by simp
        have hsl11 : SlN w11 vim2 (im ++ [k]) := hst11.ow.sl
        (repeat first
    | (with_reducible first | refine iFa ?_ | refine iNil ?_ | refine iNilF ?_ | refine iLd (by assumption) ?_ | refine iLenN (by assumption) ?_ | refine iLenI (by assumption) ?_ | refine iLenS (by assumption) ?_ | refine iLenL ?_ | refine iEq ?_ | refine iNe ?_ | refine iLt ?_ | refine iLe ?_ | refine iNot ?_ | refine iPick ?_ | refine iE20 ?_ | refine iE21 ?_ | refine iE30 ?_ | refine iE31 ?_ | refine iE32 ?_ | refine iJn ?_)
    | ((with_reducible show xLd _ _ _); refine iLdB (by assumption) (by first | rfl | simp) ?_) | ((with_reducible refine iLdA (by assumption) ?_ ?_); rfl)
    | ((with_reducible refine iIaNN (by assumption) ?_ (fun pa_ hpa_ => ?_)); omega) | ((with_reducible refine iIaN (by assumption) ?_ (fun pa_ hpa_ => ?_)); omega)
    | ((with_reducible refine iIaI (by assumption) ?_ ?_ (fun pa_ hpa_ => ?_)); omega; omega) | ((with_reducible refine iAdd ?_ ?_); omega) | ((with_reducible refine iSub ?_ ?_); omega)
    | ((with_reducible show xEx _ _ _); refine iEx (by rfl) ?_) | ((with_reducible refine fun (_ : Nat → Value) => ?_); (try simp only [gx])))
        have hln : ((im ++ [k]).length : Int) - 1 = ((ints (nats im)).length : Nat) := by rw [hil]; simp
        rw [hln]
        refine iSlDown (by rw [ints_snoc]; exact hst11.ow) fun vim3 hv3 ho3 => ?_
        (repeat first
    | (with_reducible first | refine iFa ?_ | refine iNil ?_ | refine iNilF ?_ | refine iLd (by assumption) ?_ | refine iLenN (by assumption) ?_ | refine iLenI (by assumption) ?_ | refine iLenS (by assumption) ?_ | refine iLenL ?_ | refine iEq ?_ | refine iNe ?_ | refine iLt ?_ | refine iLe ?_ | refine iNot ?_ | refine iPick ?_ | refine iE20 ?_ | refine iE21 ?_ | refine iE30 ?_ | refine iE31 ?_ | refine iE32 ?_ | refine iJn ?_)
    | ((with_reducible show xLd _ _ _); refine iLdB (by assumption) (by first | rfl | simp) ?_) | ((with_reducible refine iLdA (by assumption) ?_ ?_); rfl)
    | ((with_reducible refine iIaNN (by assumption) ?_ (fun pa_ hpa_ => ?_)); omega) | ((with_reducible refine iIaN (by assumption) ?_ (fun pa_ hpa_ => ?_)); omega)
    | ((with_reducible refine iIaI (by assumption) ?_ ?_ (fun pa_ hpa_ => ?_)); omega; omega) | ((with_reducible refine iAdd ?_ ?_); omega) | ((with_reducible refine iSub ?_ ?_); omega)
    | ((with_reducible show xEx _ _ _); refine iEx (by rfl) ?_) | ((with_reducible refine fun (_ : Nat → Value) => ?_); (try simp only [gx])))
        intro w12 h12
        have hst12 := hst11.later h12
        have hB12 := hst12.blk
        have ho12 := ho3.ext h12
        refine iStB hB12 (by simp) ho3.cell fun hB13 => ?_
        have hu13 := Upd.setCell w12 b 4 vim3
        intro w14 h14
        have hv3b : vim3.ownBlock ≠ some b := by rw [hv3]; exact hst12.ow.ne_blk hB12 (fun h => he1 h)
        have hst14 : RunSt V f g onto one e w0 fa ga b w14 im vim3 S2 (visitAll cont vl' (leaves (fitsB f g onto one) g.n d (im ++ [k]))).1 := by
          refine RunSt.later (w := w12.setCell ⟨b, 4, none⟩ vim3) ⟨hst12.ext.upd hu13 hb, hB13, ho12.upd hu13 hv3b, V.keep hst12.j (by rw [hu13.size]; exact Nat.le_refl _) (fun c hc => hu13.block c fun h => hst12.sb (h ▸ hc)), hst12.sb, fun c hc => hst12.sv c (by rw [← hv3]; exact hc), hst12.s0⟩ h14
        have hstep : visitAll cont vl ((List.range (k + 1)).flatMap fun y => leaves (fitsB f g onto one) g.n d (im ++ [y])) = visitAll cont vl' (leaves (fitsB f g onto one) g.n d (im ++ [k])) := by
          rw [List.range_succ, List.flatMap_append, visitAll_append, hvis, if_pos rfl]; simp
        (repeat first
    | (with_reducible first | refine iFa ?_ | refine iNil ?_ | refine iNilF ?_ | refine iLd (by assumption) ?_ | refine iLenN (by assumption) ?_ | refine iLenI (by assumption) ?_ | refine iLenS (by assumption) ?_ | refine iLenL ?_ | refine iEq ?_ | refine iNe ?_ | refine iLt ?_ | refine iLe ?_ | refine iNot ?_ | refine iPick ?_ | refine iE20 ?_ | refine iE21 ?_ | refine iE30 ?_ | refine iE31 ?_ | refine iE32 ?_ | refine iJn ?_)
    | ((with_reducible show xLd _ _ _); refine iLdB (by assumption) (by first | rfl | simp) ?_) | ((with_reducible refine iLdA (by assumption) ?_ ?_); rfl)
    | ((with_reducible refine iIaNN (by assumption) ?_ (fun pa_ hpa_ => ?_)); omega) | ((with_reducible refine iIaN (by assumption) ?_ (fun pa_ hpa_ => ?_)); omega)
    | ((with_reducible refine iIaI (by assumption) ?_ ?_ (fun pa_ hpa_ => ?_)); omega; omega) | ((with_reducible refine iAdd ?_ ?_); omega) | ((with_reducible refine iSub ?_ ?_); omega)
    | ((with_reducible show xEx _ _ _); refine iEx (by rfl) ?_) | ((with_reducible refine fun (_ : Nat → Value) => ?_); (try simp only [gx])))
        cases hr : (visitAll cont vl' (leaves (fitsB f g onto one) g.n d (im ++ [k]))).2
        · refine iCndT rfl ?_
          obtain ⟨j, hj⟩ : ∃ j, g.n = (k + 1) + j := ⟨g.n - (k + 1), by omega⟩
          have hrg : List.range g.n = List.range (k + 1) ++ (List.range j).map (k + 1 + ·) := by rw [hj, List.range_add]
          have hall : visitAll cont vl ((List.range g.n).flatMap fun y => leaves (fitsB f g onto one) g.n d (im ++ [y])) = ((visitAll cont vl' (leaves (fitsB f g onto one) g.n d (im ++ [k]))).1, false) := by
            rw [hrg, List.flatMap_append, visitAll_append, hstep, hr, if_neg (by simp)]
          rw [hall]
          exact ⟨rfl, vim3, S2, hst14⟩
        · refine iCndF rfl ?_
          (repeat first
    | (with_reducible first | refine iFa ?_ | refine iNil ?_ | refine iNilF ?_ | refine iLd (by assumption) ?_ | refine iLenN (by assumption) ?_ | refine iLenI (by assumption) ?_ | refine iLenS (by assumption) ?_ | refine iLenL ?_ | refine iEq ?_ | refine iNe ?_ | refine iLt ?_ | refine iLe ?_ | refine iNot ?_ | refine iPick ?_ | refine iE20 ?_ | refine iE21 ?_ | refine iE30 ?_ | refine iE31 ?_ | refine iE32 ?_ | refine iJn ?_)
    | ((with_reducible show xLd _ _ _); refine iLdB (by assumption) (by first | rfl | simp) ?_) | ((with_reducible refine iLdA (by assumption) ?_ ?_); rfl)
    | ((with_reducible refine iIaNN (by assumption) ?_ (fun pa_ hpa_ => ?_)); omega) | ((with_reducible refine iIaN (by assumption) ?_ (fun pa_ hpa_ => ?_)); omega)
    | ((with_reducible refine iIaI (by assumption) ?_ ?_ (fun pa_ hpa_ => ?_)); omega; omega) | ((with_reducible refine iAdd ?_ ?_); omega) | ((with_reducible refine iSub ?_ ?_); omega)
    | ((with_reducible show xEx _ _ _); refine iEx (by rfl) ?_) | ((with_reducible refine fun (_ : Nat → Value) => ?_); (try simp only [gx])))
          refine hKn (k + 1) _ ⟨by omega, vim3, S2, _, hst14, ?_⟩ (by omega)
          rw [hstep, ← hr]
      · obtain rfl : k = g.n := by omega
        rw [hvis]
        exact ⟨rfl, vim', S', hst'⟩
end Go.Proofs.YtoolpnkcmlebkaaGreat
