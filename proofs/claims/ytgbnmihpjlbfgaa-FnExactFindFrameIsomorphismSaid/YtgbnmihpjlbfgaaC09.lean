/- Contracts of the reference's search for morphisms. Conditions: none. -/
import Derived.Test.YtgbnmihpjlbfgaaC08
import Derived.Test.YtgbnmihpjlbfgaaMf
namespace Go.Vc
theorem Ow.shape {lo : Nat} {e : TypeId} {w : World} {v : Value} {xs : List Value} (h : Ow lo e w v xs) : ∃ a n c, v = .slice a n c := by
  obtain ⟨_, h | ⟨g, cap, cur, hv, _⟩⟩ := h
  · exact ⟨_, _, _, h.1⟩
  · exact ⟨_, _, _, hv⟩
theorem ints_snoc (im : List Nat) (y : Nat) : ints (nats im) ++ [.int .i64 (y : Int)] = ints (nats (im ++ [y])) := by simp [ints, nats]
theorem dfs_succ (ok : List Nat → Bool) (m d : Nat) (im : List Nat) : dfs ok m (d + 1) im = (List.range m).flatMap fun y => if ok (im ++ [y]) then dfs ok m d (im ++ [y]) else [] := rfl
theorem dfs_lt (ok : List Nat → Bool) (m : Nat) : ∀ (d : Nat) (im : List Nat), ∀ l ∈ dfs ok m d im, l.length = im.length + d ∧ ∀ y ∈ l, y ∈ im ∨ y < m
  | 0, im, l, h => by simp [dfs] at h; subst h; exact ⟨by simp, fun y hy => .inl hy⟩
  | d + 1, im, l, h => by
    simp only [dfs, List.mem_flatMap, List.mem_range] at h
    obtain ⟨y, hy, h⟩ := h
    split at h
    · obtain ⟨h1, h2⟩ := dfs_lt ok m d _ l h
      refine ⟨by simp at h1; omega, fun z hz => ?_⟩
      rcases h2 z hz with h3 | h3
      · simp at h3
        rcases h3 with h3 | rfl
        · exact .inl h3
        · exact .inr hy
      · exact .inr h3
    · simp at h
/-- The state of the search: its block, what it found. -/
structure GoSt (f g : Fr) (onto one : Bool) (e ti ts : TypeId) (w0 : World) (fa ga : Value) (b most : Nat) (w : World) (found : Value) (vs : List Value) (ls : List (List Nat)) : Prop where
  ext : Ext w0 w
  blk : Blk e w b [.int .i64 (f.n : Int), fa, .int .i64 (g.n : Int), ga, .bool onto, .bool one, .int .i64 (most : Int), found]
  ow : Ow w0.heap.size ts w found vs
  owl : OwL w0.heap.size ti w vs (ls.map fun l => ints (nats l))
theorem GoSt.later {f g : Fr} {onto one : Bool} {e ti ts : TypeId} {w0 : World} {fa ga : Value} {b most : Nat} {w w' : World} {found : Value} {vs : List Value} {ls : List (List Nat)}
    (h : GoSt f g onto one e ti ts w0 fa ga b most w found vs ls) (he : Ext w w') : GoSt f g onto one e ti ts w0 fa ga b most w' found vs ls :=
  ⟨h.ext.trans he, h.blk.ext he, h.ow.ext he, h.owl.ext he⟩
theorem GoSt.len {f g : Fr} {onto one : Bool} {e ti ts : TypeId} {w0 : World} {fa ga : Value} {b most : Nat} {w : World} {found : Value} {vs : List Value} {ls : List (List Nat)}
    (h : GoSt f g onto one e ti ts w0 fa ga b most w found vs ls) : vs.length = ls.length := by simpa using h.owl.1
theorem take_all {α : Type} {A : List α} {k : Nat} (h : (A.take k).length < k) : A.take k = A := by
  rw [List.length_take] at h
  exact List.take_of_length_le (by omega)
/-- What the reference finds. -/
def refFound (f g : Fr) (onto one : Bool) (most : Nat) : List (List Nat) :=
  if (one && !decide (f.n = g.n)) || (onto && decide (f.n < g.n)) then [] else (dfs (mayB f g onto one) g.n f.n []).take most
end Go.Vc
namespace Go.Proofs.Ytgbnmihpjlbfgaa
open Go.Vc
theorem ok_spec_l08Go {f g : Fr} (hf : f.ok) (hg : g.ok) {onto one : Bool} {e : TypeId} (he1 : t_i64 ≠ e) (he2 : t_Si64 ≠ e) {w0 : World} {fa ga : Value} (hfa : SlN w0 fa f.a) (hga : SlN w0 ga g.a) {b : Nat} (hb : w0.heap.size ≤ b) {most : Nat} (hmost : most ≤ 1000000) :
    ∀ (d : Nat) (im : List Nat) (w : World) (vim found : Value) (vs : List Value) (ls : List (List Nat)), im.length + d = f.n → (∀ y ∈ im, y < g.n) → ls.length < most →
      GoSt f g onto one e t_i64 t_Si64 w0 fa ga b most w found vs ls → Ow w0.heap.size t_i64 w vim (ints (nats im)) → (∀ u ∈ vs, ∀ c, u.ownBlock = some c → vim.ownBlock ≠ some c) →
      Cal Try.prog f_spec_l08Go #[.pointer (some ⟨b, 0, none⟩), vim] w fun v w' => v = .tuple #[] ∧ ∃ found' vs' ls', GoSt f g onto one e t_i64 t_Si64 w0 fa ga b most w' found' vs' ls' ∧
        ls' = (ls ++ dfs (mayB f g onto one) g.n d im).take most ∧ Ch (fun k => k = b ∨ found.ownBlock = some k) w w' ∧ ∀ c, found'.ownBlock = some c → found.ownBlock = some c ∨ w.heap.size ≤ c := by
  have hf8 := hf.1
  have hg8 := hg.1
  intro d
  induction d with
  | zero =>
    intro im w vim found vs ls hlen hm hls hst hvim hne
    have hsl : SlN w vim im := hvim.sl
    have hB := hst.blk
    have hvl := hst.len
    apply c_spec_l08Go; unfold S_spec_l08Go
    (repeat first
    | (with_reducible first | refine iFa ?_ | refine iNil ?_ | refine iNilF ?_ | refine iLd (by assumption) ?_ | refine iLenN (by assumption) ?_ | refine iLenI (by assumption) ?_ | refine iLenS (by assumption) ?_ | refine iLenL ?_ | refine iEq ?_ | refine iNe ?_ | refine iLt ?_ | refine iLe ?_ | refine iNot ?_ | refine iPick ?_ | refine iE20 ?_ | refine iE21 ?_ | refine iJn ?_)
    | ((with_reducible show xLd _ _ _); refine iLdB (by assumption) (by first | rfl | simp) ?_) | ((with_reducible refine iLdA (by assumption) ?_ ?_); rfl)
    | ((with_reducible refine iIaNN (by assumption) ?_ (fun pa_ hpa_ => ?_)); omega) | ((with_reducible refine iIaN (by assumption) ?_ (fun pa_ hpa_ => ?_)); omega)
    | ((with_reducible refine iIaI (by assumption) ?_ ?_ (fun pa_ hpa_ => ?_)); omega; omega) | ((with_reducible refine iAdd ?_ ?_); omega) | ((with_reducible refine iSub ?_ ?_); omega)
    | ((with_reducible show xEx _ _ _); refine iEx (by rfl) ?_) | ((with_reducible refine fun (_ : Nat → Value) => ?_); (try simp only [gx])))
    refine iCndP (fun h3 => ?_) (fun h3 => absurd (show (im.length : Int) = f.n by omega) h3)
    (repeat first
    | (with_reducible first | refine iFa ?_ | refine iNil ?_ | refine iNilF ?_ | refine iLd (by assumption) ?_ | refine iLenN (by assumption) ?_ | refine iLenI (by assumption) ?_ | refine iLenS (by assumption) ?_ | refine iLenL ?_ | refine iEq ?_ | refine iNe ?_ | refine iLt ?_ | refine iLe ?_ | refine iNot ?_ | refine iPick ?_ | refine iE20 ?_ | refine iE21 ?_ | refine iJn ?_)
    | ((with_reducible show xLd _ _ _); refine iLdB (by assumption) (by first | rfl | simp) ?_) | ((with_reducible refine iLdA (by assumption) ?_ ?_); rfl)
    | ((with_reducible refine iIaNN (by assumption) ?_ (fun pa_ hpa_ => ?_)); omega) | ((with_reducible refine iIaN (by assumption) ?_ (fun pa_ hpa_ => ?_)); omega)
    | ((with_reducible refine iIaI (by assumption) ?_ ?_ (fun pa_ hpa_ => ?_)); omega; omega) | ((with_reducible refine iAdd ?_ ?_); omega) | ((with_reducible refine iSub ?_ ?_); omega)
    | ((with_reducible show xEx _ _ _); refine iEx (by rfl) ?_) | ((with_reducible refine fun (_ : Nat → Value) => ?_); (try simp only [gx])))
    have hw0 := hst.ext.size
    refine iApp1A u_SSi64 i_SSi64 rfl hst.ow hvim.cell (by omega) (by omega) (by omega) fun v' w2 ho hgr hat => ?_
    have hfb : found.ownBlock ≠ some b := hst.ow.ne_blk hB (fun h => he2 h)
    have hB2 := hB.grown hgr hfb
    (repeat first
    | (with_reducible first | refine iFa ?_ | refine iNil ?_ | refine iNilF ?_ | refine iLd (by assumption) ?_ | refine iLenN (by assumption) ?_ | refine iLenI (by assumption) ?_ | refine iLenS (by assumption) ?_ | refine iLenL ?_ | refine iEq ?_ | refine iNe ?_ | refine iLt ?_ | refine iLe ?_ | refine iNot ?_ | refine iPick ?_ | refine iE20 ?_ | refine iE21 ?_ | refine iJn ?_)
    | ((with_reducible show xLd _ _ _); refine iLdB (by assumption) (by first | rfl | simp) ?_) | ((with_reducible refine iLdA (by assumption) ?_ ?_); rfl)
    | ((with_reducible refine iIaNN (by assumption) ?_ (fun pa_ hpa_ => ?_)); omega) | ((with_reducible refine iIaN (by assumption) ?_ (fun pa_ hpa_ => ?_)); omega)
    | ((with_reducible refine iIaI (by assumption) ?_ ?_ (fun pa_ hpa_ => ?_)); omega; omega) | ((with_reducible refine iAdd ?_ ?_); omega) | ((with_reducible refine iSub ?_ ?_); omega)
    | ((with_reducible show xEx _ _ _); refine iEx (by rfl) ?_) | ((with_reducible refine fun (_ : Nat → Value) => ?_); (try simp only [gx])))
    refine iStB hB2 (by simp) ho.cell fun hB3 => ?_
    have hu := Upd.setCell w2 b 7 v'
    have hv'b : v'.ownBlock ≠ some b := ho.ne_blk hB2 (fun h => he2 h)
    have hch : Ch (fun k => k = b ∨ found.ownBlock = some k) w (w2.setCell ⟨b, 7, none⟩ v') := (grown_ch hgr (fun c hc => .inr hc)).trans (hu.ch (S := fun k => k = b) rfl) (fun c hc => .inl (.inl hc))
    have hS : ∀ c, (c = b ∨ found.ownBlock = some c) → w0.heap.size ≤ c := fun c hc => by
      rcases hc with rfl | hc
      · exact hb
      · exact (hst.ow.blk c hc).1
    have hnS : ∀ u ∈ vs, ∀ c, u.ownBlock = some c → ¬ (c = b ∨ found.ownBlock = some c) := fun u hu c hc => by
      obtain ⟨l, hl⟩ := hst.owl.ow hu
      rintro (rfl | h1)
      · exact hl.ne_blk hB (fun h => he1 h) hc
      · exact hl.ne_ow hst.ow (by decide) hc h1
    have hvS : ∀ c, vim.ownBlock = some c → ¬ (c = b ∨ found.ownBlock = some c) := fun c hc => by
      rintro (rfl | h1)
      · exact hvim.ne_blk hB (fun h => he1 h) hc
      · exact hvim.ne_ow hst.ow (by decide) hc h1
    refine ⟨rfl, v', vs ++ [vim], ls ++ [im], ⟨hst.ext.thenCh hch hS, hB3, ho.upd hu hv'b, ?_⟩, ?_, hch, fun c hc => ?_⟩
    · rw [List.map_append]
      exact (hst.owl.ch hch hnS).snoc (hvim.ch hch hvS) hne
    · rw [List.take_of_length_le]
      · rfl
      · simp [dfs]; omega
    · rcases hat with h1 | ⟨c', h1, h2⟩
      · exact .inl (by rw [← h1]; exact hc)
      · rw [h1] at hc; cases hc; exact .inr h2
  | succ d ih =>
    intro im w vim found vs ls hlen hm hls hst hvim hne
    have hsl : SlN w vim im := hvim.sl
    have hB := hst.blk
    have hnS : ∀ c, vim.ownBlock = some c → ¬ (c = b ∨ found.ownBlock = some c) := fun c hc => by
      rintro (rfl | h1)
      · exact hvim.ne_blk hB (fun h => he1 h) hc
      · exact hvim.ne_ow hst.ow (by decide) hc h1
    apply c_spec_l08Go; unfold S_spec_l08Go
    (repeat first
    | (with_reducible first | refine iFa ?_ | refine iNil ?_ | refine iNilF ?_ | refine iLd (by assumption) ?_ | refine iLenN (by assumption) ?_ | refine iLenI (by assumption) ?_ | refine iLenS (by assumption) ?_ | refine iLenL ?_ | refine iEq ?_ | refine iNe ?_ | refine iLt ?_ | refine iLe ?_ | refine iNot ?_ | refine iPick ?_ | refine iE20 ?_ | refine iE21 ?_ | refine iJn ?_)
    | ((with_reducible show xLd _ _ _); refine iLdB (by assumption) (by first | rfl | simp) ?_) | ((with_reducible refine iLdA (by assumption) ?_ ?_); rfl)
    | ((with_reducible refine iIaNN (by assumption) ?_ (fun pa_ hpa_ => ?_)); omega) | ((with_reducible refine iIaN (by assumption) ?_ (fun pa_ hpa_ => ?_)); omega)
    | ((with_reducible refine iIaI (by assumption) ?_ ?_ (fun pa_ hpa_ => ?_)); omega; omega) | ((with_reducible refine iAdd ?_ ?_); omega) | ((with_reducible refine iSub ?_ ?_); omega)
    | ((with_reducible show xEx _ _ _); refine iEx (by rfl) ?_) | ((with_reducible refine fun (_ : Nat → Value) => ?_); (try simp only [gx])))
    refine iCndP (fun h3 => absurd h3 (by omega)) (fun h3 => ?_)
    refine iLp (fun k : Nat => [.int .i64 (k : Int)]) (fun k w' => k ≤ g.n ∧ ∃ found' vs' ls', GoSt f g onto one e t_i64 t_Si64 w0 fa ga b most w' found' vs' ls' ∧
        ls' = (ls ++ (List.range k).flatMap fun y => if mayB f g onto one (im ++ [y]) then dfs (mayB f g onto one) g.n d (im ++ [y]) else []).take most ∧ Ch (fun k => k = b ∨ found.ownBlock = some k) w w' ∧ ∀ c, found'.ownBlock = some c → found.ownBlock = some c ∨ w.heap.size ≤ c)
      (fun k => g.n - k) 0 rfl ⟨Nat.zero_le _, found, vs, ls, hst, by rw [List.range_zero, List.flatMap_nil, List.append_nil, List.take_of_length_le (by omega)], (Ext.refl w).ch, fun c hc => .inl hc⟩ ?_
    rintro k w5 Kn ⟨hk, found', vs', ls', hst', hls', hch, hfb⟩ hKn
    have hB5 := hst'.blk
    have hvl := hst'.len
    have hfs := hst'.ow.sl
    have hfin : ∀ w9, Ext w5 w9 → (k = g.n ∨ ¬ ls'.length < most) → ∃ found' vs' ls', GoSt f g onto one e t_i64 t_Si64 w0 fa ga b most w9 found' vs' ls' ∧
        ls' = (ls ++ dfs (mayB f g onto one) g.n (d + 1) im).take most ∧ Ch (fun k => k = b ∨ found.ownBlock = some k) w w9 ∧ ∀ c, found'.ownBlock = some c → found.ownBlock = some c ∨ w.heap.size ≤ c := by
      intro w9 h9 hend
      refine ⟨found', vs', ls', hst'.later h9, ?_, hch.trans (h9.ch (S := fun _ => False)) (fun _ h => h.elim), hfb⟩
      rw [hls', dfs_succ]
      rcases hend with rfl | hend
      · rfl
      · rw [hls', List.length_take] at hend
        obtain ⟨j, hj⟩ : ∃ j, g.n = k + j := ⟨g.n - k, by omega⟩
        have hr : List.range g.n = List.range k ++ (List.range j).map (k + ·) := by rw [hj, List.range_add]
        rw [hr, List.flatMap_append, ← List.append_assoc]
        exact (List.take_append_of_le_length (by omega)).symm
    (repeat first
    | (with_reducible first | refine iFa ?_ | refine iNil ?_ | refine iNilF ?_ | refine iLd (by assumption) ?_ | refine iLenN (by assumption) ?_ | refine iLenI (by assumption) ?_ | refine iLenS (by assumption) ?_ | refine iLenL ?_ | refine iEq ?_ | refine iNe ?_ | refine iLt ?_ | refine iLe ?_ | refine iNot ?_ | refine iPick ?_ | refine iE20 ?_ | refine iE21 ?_ | refine iJn ?_)
    | ((with_reducible show xLd _ _ _); refine iLdB (by assumption) (by first | rfl | simp) ?_) | ((with_reducible refine iLdA (by assumption) ?_ ?_); rfl)
    | ((with_reducible refine iIaNN (by assumption) ?_ (fun pa_ hpa_ => ?_)); omega) | ((with_reducible refine iIaN (by assumption) ?_ (fun pa_ hpa_ => ?_)); omega)
    | ((with_reducible refine iIaI (by assumption) ?_ ?_ (fun pa_ hpa_ => ?_)); omega; omega) | ((with_reducible refine iAdd ?_ ?_); omega) | ((with_reducible refine iSub ?_ ?_); omega)
    | ((with_reducible show xEx _ _ _); refine iEx (by rfl) ?_) | ((with_reducible refine fun (_ : Nat → Value) => ?_); (try simp only [gx])))
    refine iCndP (fun h4 => ?_) (fun h4 => ?_)
    · (repeat first
    | (with_reducible first | refine iFa ?_ | refine iNil ?_ | refine iNilF ?_ | refine iLd (by assumption) ?_ | refine iLenN (by assumption) ?_ | refine iLenI (by assumption) ?_ | refine iLenS (by assumption) ?_ | refine iLenL ?_ | refine iEq ?_ | refine iNe ?_ | refine iLt ?_ | refine iLe ?_ | refine iNot ?_ | refine iPick ?_ | refine iE20 ?_ | refine iE21 ?_ | refine iJn ?_)
    | ((with_reducible show xLd _ _ _); refine iLdB (by assumption) (by first | rfl | simp) ?_) | ((with_reducible refine iLdA (by assumption) ?_ ?_); rfl)
    | ((with_reducible refine iIaNN (by assumption) ?_ (fun pa_ hpa_ => ?_)); omega) | ((with_reducible refine iIaN (by assumption) ?_ (fun pa_ hpa_ => ?_)); omega)
    | ((with_reducible refine iIaI (by assumption) ?_ ?_ (fun pa_ hpa_ => ?_)); omega; omega) | ((with_reducible refine iAdd ?_ ?_); omega) | ((with_reducible refine iSub ?_ ?_); omega)
    | ((with_reducible show xEx _ _ _); refine iEx (by rfl) ?_) | ((with_reducible refine fun (_ : Nat → Value) => ?_); (try simp only [gx])))
      intro w8 h8
      (repeat first
    | (with_reducible first | refine iFa ?_ | refine iNil ?_ | refine iNilF ?_ | refine iLd (by assumption) ?_ | refine iLenN (by assumption) ?_ | refine iLenI (by assumption) ?_ | refine iLenS (by assumption) ?_ | refine iLenL ?_ | refine iEq ?_ | refine iNe ?_ | refine iLt ?_ | refine iLe ?_ | refine iNot ?_ | refine iPick ?_ | refine iE20 ?_ | refine iE21 ?_ | refine iJn ?_)
    | ((with_reducible show xLd _ _ _); refine iLdB (by assumption) (by first | rfl | simp) ?_) | ((with_reducible refine iLdA (by assumption) ?_ ?_); rfl)
    | ((with_reducible refine iIaNN (by assumption) ?_ (fun pa_ hpa_ => ?_)); omega) | ((with_reducible refine iIaN (by assumption) ?_ (fun pa_ hpa_ => ?_)); omega)
    | ((with_reducible refine iIaI (by assumption) ?_ ?_ (fun pa_ hpa_ => ?_)); omega; omega) | ((with_reducible refine iAdd ?_ ?_); omega) | ((with_reducible refine iSub ?_ ?_); omega)
    | ((with_reducible show xEx _ _ _); refine iEx (by rfl) ?_) | ((with_reducible refine fun (_ : Nat → Value) => ?_); (try simp only [gx])))
      refine iCndP (fun h5 => ?_) (fun h5 => ⟨by trivial, hfin w8 h8 (.inr (by omega))⟩)
      have hst8 := hst'.later h8
      have hch8 : Ch (fun k => k = b ∨ found.ownBlock = some k) w w8 := hch.trans (h8.ch (S := fun _ => False)) (fun _ h => h.elim)
      have hvim8 := hvim.ch hch8 hnS
      refine iCall ((ok_spec_l01Own (l := nats im) hvim8.sl (by rw [nats_length]; omega)).mono fun v w10 ⟨h10, ho⟩ => ?_)
      have hil : (ints (nats im)).length = im.length := by rw [ints_length, nats_length]
      refine iApp1A u_Si64 i_Si64 rfl ho rfl (by omega) (by omega) h10.size fun v' w12 ho' hgr hat => ?_
      rw [ints_snoc] at ho'
      have h12 : Ext w8 w12 := h10.grown hgr (fun c hc => (ho.blk c hc).1)
      have hst12 := hst8.later h12
      have hm' : ∀ y ∈ im ++ [k], y < g.n := fun y hy => by
        simp at hy
        rcases hy with hy | rfl
        · exact hm y hy
        · omega
      have hl' : (im ++ [k]).length + d = f.n := by simp; omega
      have hls'' : ls' = ls ++ (List.range k).flatMap fun y => if mayB f g onto one (im ++ [y]) then dfs (mayB f g onto one) g.n d (im ++ [y]) else [] := by
        rw [hls', take_all]
        rw [← hls']; omega
      refine iRet (ok_spec_l08May hf hg (by simp) (by omega) hm' hst12.blk (hfa.ext hst12.ext) (hga.ext hst12.ext) ho'.sl) fun w13 h13 => ?_
      have hst13 := hst12.later h13
      have hch13 : Ch (fun k => k = b ∨ found.ownBlock = some k) w w13 := hch8.trans ((h12.trans h13).ch (S := fun _ => False)) (fun _ h => h.elim)
      have ho13 := ho'.ext h13
      have hsz8 := hch8.size
      have hfr : (ls ++ (List.range (k + 1)).flatMap fun y => if mayB f g onto one (im ++ [y]) then dfs (mayB f g onto one) g.n d (im ++ [y]) else []) = ls' ++ if mayB f g onto one (im ++ [k]) then dfs (mayB f g onto one) g.n d (im ++ [k]) else [] := by
        rw [List.range_succ, List.flatMap_append, ← List.append_assoc, ← hls'']; simp
      refine iCnd (fun h6 => ?_) (fun h6 => ?_)
      · rw [h6, if_pos rfl] at hfr
        refine iCall ((ih (im ++ [k]) w13 v' found' vs' ls' hl' hm' (by omega) hst13 (ho13.mono hst8.ext.size) (fun u hu c hc hc' => ?_)).mono ?_)
        · have h1 := (hst8.owl.lt hu hc).2
          have h2 := (ho13.blk c hc').1
          omega
        · rintro _ w14 ⟨rfl, found2, vs2, ls2, hst2, hls2, hch2, hfb2⟩
          (repeat first
    | (with_reducible first | refine iFa ?_ | refine iNil ?_ | refine iNilF ?_ | refine iLd (by assumption) ?_ | refine iLenN (by assumption) ?_ | refine iLenI (by assumption) ?_ | refine iLenS (by assumption) ?_ | refine iLenL ?_ | refine iEq ?_ | refine iNe ?_ | refine iLt ?_ | refine iLe ?_ | refine iNot ?_ | refine iPick ?_ | refine iE20 ?_ | refine iE21 ?_ | refine iJn ?_)
    | ((with_reducible show xLd _ _ _); refine iLdB (by assumption) (by first | rfl | simp) ?_) | ((with_reducible refine iLdA (by assumption) ?_ ?_); rfl)
    | ((with_reducible refine iIaNN (by assumption) ?_ (fun pa_ hpa_ => ?_)); omega) | ((with_reducible refine iIaN (by assumption) ?_ (fun pa_ hpa_ => ?_)); omega)
    | ((with_reducible refine iIaI (by assumption) ?_ ?_ (fun pa_ hpa_ => ?_)); omega; omega) | ((with_reducible refine iAdd ?_ ?_); omega) | ((with_reducible refine iSub ?_ ?_); omega)
    | ((with_reducible show xEx _ _ _); refine iEx (by rfl) ?_) | ((with_reducible refine fun (_ : Nat → Value) => ?_); (try simp only [gx])))
          refine hKn (k + 1) _ ⟨by omega, found2, vs2, ls2, hst2, ?_, hch13.trans hch2 (fun c hc => ?_), fun c hc => ?_⟩ (by omega)
          · rw [hls2, hfr]
          · rcases hc with rfl | hc
            · exact .inl (.inl rfl)
            · exact (hfb c hc).imp .inr id
          · rcases hfb2 c hc with h1 | h1
            · exact hfb c h1
            · have := hch13.size
              exact .inr (by omega)
      · rw [h6, if_neg (by simp), List.append_nil] at hfr
        (repeat first
    | (with_reducible first | refine iFa ?_ | refine iNil ?_ | refine iNilF ?_ | refine iLd (by assumption) ?_ | refine iLenN (by assumption) ?_ | refine iLenI (by assumption) ?_ | refine iLenS (by assumption) ?_ | refine iLenL ?_ | refine iEq ?_ | refine iNe ?_ | refine iLt ?_ | refine iLe ?_ | refine iNot ?_ | refine iPick ?_ | refine iE20 ?_ | refine iE21 ?_ | refine iJn ?_)
    | ((with_reducible show xLd _ _ _); refine iLdB (by assumption) (by first | rfl | simp) ?_) | ((with_reducible refine iLdA (by assumption) ?_ ?_); rfl)
    | ((with_reducible refine iIaNN (by assumption) ?_ (fun pa_ hpa_ => ?_)); omega) | ((with_reducible refine iIaN (by assumption) ?_ (fun pa_ hpa_ => ?_)); omega)
    | ((with_reducible refine iIaI (by assumption) ?_ ?_ (fun pa_ hpa_ => ?_)); omega; omega) | ((with_reducible refine iAdd ?_ ?_); omega) | ((with_reducible refine iSub ?_ ?_); omega)
    | ((with_reducible show xEx _ _ _); refine iEx (by rfl) ?_) | ((with_reducible refine fun (_ : Nat → Value) => ?_); (try simp only [gx])))
        refine hKn (k + 1) _ ⟨by omega, found', vs', ls', hst13, ?_, hch13, hfb⟩ (by omega)
        rw [hfr, List.take_of_length_le (by omega)]
    · intro w9 h9
      (repeat first
    | (with_reducible first | refine iFa ?_ | refine iNil ?_ | refine iNilF ?_ | refine iLd (by assumption) ?_ | refine iLenN (by assumption) ?_ | refine iLenI (by assumption) ?_ | refine iLenS (by assumption) ?_ | refine iLenL ?_ | refine iEq ?_ | refine iNe ?_ | refine iLt ?_ | refine iLe ?_ | refine iNot ?_ | refine iPick ?_ | refine iE20 ?_ | refine iE21 ?_ | refine iJn ?_)
    | ((with_reducible show xLd _ _ _); refine iLdB (by assumption) (by first | rfl | simp) ?_) | ((with_reducible refine iLdA (by assumption) ?_ ?_); rfl)
    | ((with_reducible refine iIaNN (by assumption) ?_ (fun pa_ hpa_ => ?_)); omega) | ((with_reducible refine iIaN (by assumption) ?_ (fun pa_ hpa_ => ?_)); omega)
    | ((with_reducible refine iIaI (by assumption) ?_ ?_ (fun pa_ hpa_ => ?_)); omega; omega) | ((with_reducible refine iAdd ?_ ?_); omega) | ((with_reducible refine iSub ?_ ?_); omega)
    | ((with_reducible show xEx _ _ _); refine iEx (by rfl) ?_) | ((with_reducible refine fun (_ : Nat → Value) => ?_); (try simp only [gx])))
      exact iCndF rfl ⟨by trivial, hfin w9 h9 (.inl (by omega))⟩
theorem ok_spec_l08Find {f g : Fr} (hf : f.ok) (hg : g.ok) {onto one : Bool} {w : World} {fa ga : Value} (hfa : SlN w fa f.a) (hga : SlN w ga g.a) {most : Nat} (hm0 : 0 < most) (hmost : most ≤ 1000000) :
    Cal Try.prog f_spec_l08Find #[.agg #[.int .i64 (f.n : Int), fa], .agg #[.int .i64 (g.n : Int), ga], .bool onto, .bool one, .int .i64 (most : Int)] w fun v w' => Ext w w' ∧ ∃ vs,
      Ow w.heap.size t_Si64 w' v vs ∧ OwL w.heap.size t_i64 w' vs ((refFound f g onto one most).map fun l => ints (nats l)) := by
  apply c_spec_l08Find; unfold S_spec_l08Find
  refine iNew fun b1 w1 hb1 h1 hB1 => ?_
  refine iNew fun b2 w2 hb2 h2 hB2 => ?_
  have hB1 := hB1.ext h2
  have hX2 : Ext w w2 := h1.trans h2
  refine iJnB ((one && !decide (f.n = g.n)) || (onto && decide (f.n < g.n))) w2 (fun J hJ => ?_) (fun w4 h4 => ?_)
  · have hnum : ∀ w4, Ext w2 w4 → decide ((f.n : Int) < g.n) = decide (f.n < g.n) := fun _ _ => by rw [decide_eq_decide]; omega
    cases one
    · refine iCndF rfl ?_
      cases onto
      · exact iCndF rfl (hJ w2 (Ext.refl _))
      · refine iCndT rfl ?_
        (repeat first
    | (with_reducible first | refine iFa ?_ | refine iNil ?_ | refine iNilF ?_ | refine iLd (by assumption) ?_ | refine iLenN (by assumption) ?_ | refine iLenI (by assumption) ?_ | refine iLenS (by assumption) ?_ | refine iLenL ?_ | refine iEq ?_ | refine iNe ?_ | refine iLt ?_ | refine iLe ?_ | refine iNot ?_ | refine iPick ?_ | refine iE20 ?_ | refine iE21 ?_ | refine iJn ?_)
    | ((with_reducible show xLd _ _ _); refine iLdB (by assumption) (by first | rfl | simp) ?_) | ((with_reducible refine iLdA (by assumption) ?_ ?_); rfl)
    | ((with_reducible refine iIaNN (by assumption) ?_ (fun pa_ hpa_ => ?_)); omega) | ((with_reducible refine iIaN (by assumption) ?_ (fun pa_ hpa_ => ?_)); omega)
    | ((with_reducible refine iIaI (by assumption) ?_ ?_ (fun pa_ hpa_ => ?_)); omega; omega) | ((with_reducible refine iAdd ?_ ?_); omega) | ((with_reducible refine iSub ?_ ?_); omega)
    | ((with_reducible show xEx _ _ _); refine iEx (by rfl) ?_) | ((with_reducible refine fun (_ : Nat → Value) => ?_); (try simp only [gx])))
        have := hJ w2 (Ext.refl _)
        rwa [← hnum w2 (Ext.refl _)] at this
    · refine iCndT rfl ?_
      (repeat first
    | (with_reducible first | refine iFa ?_ | refine iNil ?_ | refine iNilF ?_ | refine iLd (by assumption) ?_ | refine iLenN (by assumption) ?_ | refine iLenI (by assumption) ?_ | refine iLenS (by assumption) ?_ | refine iLenL ?_ | refine iEq ?_ | refine iNe ?_ | refine iLt ?_ | refine iLe ?_ | refine iNot ?_ | refine iPick ?_ | refine iE20 ?_ | refine iE21 ?_ | refine iJn ?_)
    | ((with_reducible show xLd _ _ _); refine iLdB (by assumption) (by first | rfl | simp) ?_) | ((with_reducible refine iLdA (by assumption) ?_ ?_); rfl)
    | ((with_reducible refine iIaNN (by assumption) ?_ (fun pa_ hpa_ => ?_)); omega) | ((with_reducible refine iIaN (by assumption) ?_ (fun pa_ hpa_ => ?_)); omega)
    | ((with_reducible refine iIaI (by assumption) ?_ ?_ (fun pa_ hpa_ => ?_)); omega; omega) | ((with_reducible refine iAdd ?_ ?_); omega) | ((with_reducible refine iSub ?_ ?_); omega)
    | ((with_reducible show xEx _ _ _); refine iEx (by rfl) ?_) | ((with_reducible refine fun (_ : Nat → Value) => ?_); (try simp only [gx])))
      refine iCndP (fun h3 => ?_) (fun h3 => ?_)
      · have := hJ w2 (Ext.refl _)
        rwa [decide_eq_false (show ¬ f.n = g.n by omega)] at this
      · have he : f.n = g.n := by omega
        cases onto
        · refine iCndF rfl ?_
          have := hJ w2 (Ext.refl _)
          rwa [decide_eq_true he] at this
        · refine iCndT rfl ?_
          (repeat first
    | (with_reducible first | refine iFa ?_ | refine iNil ?_ | refine iNilF ?_ | refine iLd (by assumption) ?_ | refine iLenN (by assumption) ?_ | refine iLenI (by assumption) ?_ | refine iLenS (by assumption) ?_ | refine iLenL ?_ | refine iEq ?_ | refine iNe ?_ | refine iLt ?_ | refine iLe ?_ | refine iNot ?_ | refine iPick ?_ | refine iE20 ?_ | refine iE21 ?_ | refine iJn ?_)
    | ((with_reducible show xLd _ _ _); refine iLdB (by assumption) (by first | rfl | simp) ?_) | ((with_reducible refine iLdA (by assumption) ?_ ?_); rfl)
    | ((with_reducible refine iIaNN (by assumption) ?_ (fun pa_ hpa_ => ?_)); omega) | ((with_reducible refine iIaN (by assumption) ?_ (fun pa_ hpa_ => ?_)); omega)
    | ((with_reducible refine iIaI (by assumption) ?_ ?_ (fun pa_ hpa_ => ?_)); omega; omega) | ((with_reducible refine iAdd ?_ ?_); omega) | ((with_reducible refine iSub ?_ ?_); omega)
    | ((with_reducible show xEx _ _ _); refine iEx (by rfl) ?_) | ((with_reducible refine fun (_ : Nat → Value) => ?_); (try simp only [gx])))
          have := hJ w2 (Ext.refl _)
          rwa [decide_eq_true he, ← hnum w2 (Ext.refl _)] at this
  · have hX4 := hX2.trans h4
    have hB1 := hB1.ext h4
    have hB2 := hB2.ext h4
    (repeat first
    | (with_reducible first | refine iFa ?_ | refine iNil ?_ | refine iNilF ?_ | refine iLd (by assumption) ?_ | refine iLenN (by assumption) ?_ | refine iLenI (by assumption) ?_ | refine iLenS (by assumption) ?_ | refine iLenL ?_ | refine iEq ?_ | refine iNe ?_ | refine iLt ?_ | refine iLe ?_ | refine iNot ?_ | refine iPick ?_ | refine iE20 ?_ | refine iE21 ?_ | refine iJn ?_)
    | ((with_reducible show xLd _ _ _); refine iLdB (by assumption) (by first | rfl | simp) ?_) | ((with_reducible refine iLdA (by assumption) ?_ ?_); rfl)
    | ((with_reducible refine iIaNN (by assumption) ?_ (fun pa_ hpa_ => ?_)); omega) | ((with_reducible refine iIaN (by assumption) ?_ (fun pa_ hpa_ => ?_)); omega)
    | ((with_reducible refine iIaI (by assumption) ?_ ?_ (fun pa_ hpa_ => ?_)); omega; omega) | ((with_reducible refine iAdd ?_ ?_); omega) | ((with_reducible refine iSub ?_ ?_); omega)
    | ((with_reducible show xEx _ _ _); refine iEx (by rfl) ?_) | ((with_reducible refine fun (_ : Nat → Value) => ?_); (try simp only [gx])))
    refine iCnd (fun h3 => ?_) (fun h3 => ?_)
    · refine iBs0 fun v w5 _ h5 ho => ?_
      refine ⟨hX4.trans h5, [], ho.mono hX4.size, ?_⟩
      unfold refFound
      rw [h3, if_pos rfl]
      exact OwL.nil _ _ _
    · (repeat first
    | (with_reducible first | refine iFa ?_ | refine iNil ?_ | refine iNilF ?_ | refine iLd (by assumption) ?_ | refine iLenN (by assumption) ?_ | refine iLenI (by assumption) ?_ | refine iLenS (by assumption) ?_ | refine iLenL ?_ | refine iEq ?_ | refine iNe ?_ | refine iLt ?_ | refine iLe ?_ | refine iNot ?_ | refine iPick ?_ | refine iE20 ?_ | refine iE21 ?_ | refine iJn ?_)
    | ((with_reducible show xLd _ _ _); refine iLdB (by assumption) (by first | rfl | simp) ?_) | ((with_reducible refine iLdA (by assumption) ?_ ?_); rfl)
    | ((with_reducible refine iIaNN (by assumption) ?_ (fun pa_ hpa_ => ?_)); omega) | ((with_reducible refine iIaN (by assumption) ?_ (fun pa_ hpa_ => ?_)); omega)
    | ((with_reducible refine iIaI (by assumption) ?_ ?_ (fun pa_ hpa_ => ?_)); omega; omega) | ((with_reducible refine iAdd ?_ ?_); omega) | ((with_reducible refine iSub ?_ ?_); omega)
    | ((with_reducible show xEx _ _ _); refine iEx (by rfl) ?_) | ((with_reducible refine fun (_ : Nat → Value) => ?_); (try simp only [gx])))
      refine iBs0 fun v w6 _ h6 ho => ?_
      obtain ⟨va, vn, vc, rfl⟩ := ho.shape
      refine iBuild (cs := #[.int .i64 (f.n : Int), fa, .int .i64 (g.n : Int), ga, .bool onto, .bool one, .int .i64 (most : Int), .slice va vn vc]) (by simp [Instr.fill, Value.cells]) ?_
      refine iNew fun b w7 hb7 h7 hB7 => ?_
      refine iBs0 fun v40 w8 _ h8 ho8 => ?_
      have hX7 : Ext w w7 := hX4.trans (h6.trans h7)
      have hX8 : Ext w w8 := hX7.trans h8
      have hst : GoSt f g onto one _ t_i64 t_Si64 w fa ga b most w8 (.slice va vn vc) [] [] := ⟨hX8, hB7.ext h8, ((ho.mono hX4.size).ext h7).ext h8, OwL.nil _ _ _⟩
      have hb : w.heap.size ≤ b := by have := (hX4.trans h6).size; omega
      refine iCall ((ok_spec_l08Go hf hg (by decide) (by decide) hfa hga hb hmost f.n [] w8 v40 (.slice va vn vc) [] [] (by simp) (fun y hy => by cases hy) (by simpa using hm0) hst (ho8.mono hX7.size) (fun u hu => by cases hu)).mono ?_)
      rintro _ w9 ⟨rfl, found', vs', ls', hst', hls', _, _⟩
      have hB9 := hst'.blk
      (repeat first
    | (with_reducible first | refine iFa ?_ | refine iNil ?_ | refine iNilF ?_ | refine iLd (by assumption) ?_ | refine iLenN (by assumption) ?_ | refine iLenI (by assumption) ?_ | refine iLenS (by assumption) ?_ | refine iLenL ?_ | refine iEq ?_ | refine iNe ?_ | refine iLt ?_ | refine iLe ?_ | refine iNot ?_ | refine iPick ?_ | refine iE20 ?_ | refine iE21 ?_ | refine iJn ?_)
    | ((with_reducible show xLd _ _ _); refine iLdB (by assumption) (by first | rfl | simp) ?_) | ((with_reducible refine iLdA (by assumption) ?_ ?_); rfl)
    | ((with_reducible refine iIaNN (by assumption) ?_ (fun pa_ hpa_ => ?_)); omega) | ((with_reducible refine iIaN (by assumption) ?_ (fun pa_ hpa_ => ?_)); omega)
    | ((with_reducible refine iIaI (by assumption) ?_ ?_ (fun pa_ hpa_ => ?_)); omega; omega) | ((with_reducible refine iAdd ?_ ?_); omega) | ((with_reducible refine iSub ?_ ?_); omega)
    | ((with_reducible show xEx _ _ _); refine iEx (by rfl) ?_) | ((with_reducible refine fun (_ : Nat → Value) => ?_); (try simp only [gx])))
      refine ⟨hst'.ext, vs', hst'.ow, ?_⟩
      have := hst'.owl
      rw [hls', List.nil_append] at this
      unfold refFound
      rw [h3, if_neg (by simp)]
      exact this
end Go.Proofs.Ytgbnmihpjlbfgaa
