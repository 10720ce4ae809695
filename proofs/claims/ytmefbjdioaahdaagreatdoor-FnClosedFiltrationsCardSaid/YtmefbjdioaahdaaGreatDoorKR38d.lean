/- The proof of FnClosedFiltrationsCard, part 4 of 7. Conditions: none. -/
import Derived.Test.YtmefbjdioaahdaaGreatDoorKR38c
import Derived.Lib.AppendZerosOnto
import Derived.Lib.Overlaps
import Derived.ChangeKeysEq
import Derived.Laws.StructEq
import Derived.Laws.Entries
/- Rows of nodes of any kind and sign: which of them are formulas. No program in sight. Conditions: none. -/
namespace Go.Vc
abbrev RN := Int × Int
def rcell (q : RN) : List Value := [.int .i64 q.1, .int .i64 q.2]
def cellsN (N : List RN) : List Value := N.flatMap rcell
def rawF : Fm → List RN
  | .var v => [(0, (v : Int))]
  | .fls => [(1, 0)]
  | .and a b => (2, 0) :: (rawF a ++ rawF b)
  | .or a b => (3, 0) :: (rawF a ++ rawF b)
  | .imp a b => (4, 0) :: (rawF a ++ rawF b)
  | .box a => (5, 0) :: rawF a
  | .dia a => (6, 0) :: rawF a
theorem cellsN_cons (q : RN) (N : List RN) : cellsN (q :: N) = rcell q ++ cellsN N := by simp [cellsN]
theorem cellsN_app (M N : List RN) : cellsN (M ++ N) = cellsN M ++ cellsN N := by simp [cellsN]
theorem cellsN_raw : ∀ f : Fm, cellsN (rawF f) = f.cells
  | .var v => rfl
  | .fls => rfl
  | .and a b => by rw [rawF, cellsN_cons, cellsN_app, cellsN_raw a, cellsN_raw b]; simp [Fm.cells, rcell]
  | .or a b => by rw [rawF, cellsN_cons, cellsN_app, cellsN_raw a, cellsN_raw b]; simp [Fm.cells, rcell]
  | .imp a b => by rw [rawF, cellsN_cons, cellsN_app, cellsN_raw a, cellsN_raw b]; simp [Fm.cells, rcell]
  | .box a => by rw [rawF, cellsN_cons, cellsN_raw a]; simp [Fm.cells, rcell]
  | .dia a => by rw [rawF, cellsN_cons, cellsN_raw a]; simp [Fm.cells, rcell]
theorem rawF_len : ∀ f : Fm, (rawF f).length = f.size
  | .var _ => rfl
  | .fls => rfl
  | .and a b => by simp only [rawF, Fm.size, List.length_cons, List.length_append, rawF_len a, rawF_len b]; omega
  | .or a b => by simp only [rawF, Fm.size, List.length_cons, List.length_append, rawF_len a, rawF_len b]; omega
  | .imp a b => by simp only [rawF, Fm.size, List.length_cons, List.length_append, rawF_len a, rawF_len b]; omega
  | .box a => by simp only [rawF, Fm.size, List.length_cons, rawF_len a]; omega
  | .dia a => by simp only [rawF, Fm.size, List.length_cons, rawF_len a]; omega
theorem cellsN_len (N : List RN) : (cellsN N).length = N.length * 2 := by
  induction N with
  | nil => rfl
  | cons q N ih => rw [cellsN_cons, List.length_append, ih, List.length_cons]; show 2 + _ = _; omega
theorem cellsN_at : ∀ {N : List RN} {i : Nat} (h : i < N.length), (cellsN N)[i * 2 + 0]? = some (.int .i64 N[i].1) ∧ (cellsN N)[i * 2 + 1]? = some (.int .i64 N[i].2)
  | [], _, h => by simp at h
  | q :: N, 0, _ => ⟨rfl, rfl⟩
  | q :: N, i + 1, h => by
    have := cellsN_at (N := N) (i := i) (by simpa using h)
    have e : ∀ f, (cellsN (q :: N))[(i + 1) * 2 + f]? = (cellsN N)[i * 2 + f]? := fun f => by
      rw [cellsN_cons, List.getElem?_append_right (by simp [rcell]; omega)]
      congr 1
      simp [rcell]; omega
    rw [e, e]
    simpa using this
/-- A node that may stand in a formula. -/
def okN (q : RN) : Bool := decide (0 ≤ q.1 ∧ q.1 ≤ 6) && (decide (0 ≤ q.2 ∧ q.2 ≤ 5) && (decide (q.1 = 0) || decide (q.2 = 0)))
theorem okN_iff {q : RN} : okN q = true ↔ (0 ≤ q.1 ∧ q.1 ≤ 6) ∧ (0 ≤ q.2 ∧ q.2 ≤ 5) ∧ (q.1 = 0 ∨ q.2 = 0) := by
  unfold okN
  rw [Bool.and_eq_true, Bool.and_eq_true, Bool.or_eq_true, decide_eq_true_eq, decide_eq_true_eq, decide_eq_true_eq, decide_eq_true_eq]
def arZ (k : Int) : Nat := if k = 2 ∨ k = 3 ∨ k = 4 then 2 else if k = 5 ∨ k = 6 then 1 else 0
theorem arZ_nat (k : Nat) : arZ (k : Int) = arity k := by
  unfold arZ arity
  have h1 : ((k : Int) = 2 ∨ (k : Int) = 3 ∨ (k : Int) = 4) ↔ (k = 2 ∨ k = 3 ∨ k = 4) := by omega
  have h2 : ((k : Int) = 5 ∨ (k : Int) = 6) ↔ (k = 5 ∨ k = 6) := by omega
  by_cases c1 : k = 2 ∨ k = 3 ∨ k = 4
  · rw [if_pos (h1.2 c1), if_pos c1]
  · rw [if_neg (fun h => c1 (h1.1 h)), if_neg c1]
    by_cases c2 : k = 5 ∨ k = 6
    · rw [if_pos (h2.2 c2), if_pos c2]
    · rw [if_neg (fun h => c2 (h2.1 h)), if_neg c2]
/-- What is left behind so many formulas. -/
def goN : List RN → Nat → Option (List RN)
  | N, 0 => some N
  | [], _ + 1 => none
  | q :: N, o + 1 => goN N (o + arZ q.1)
theorem goN_zero (N : List RN) : goN N 0 = some N := by cases N <;> rfl
theorem goN_cons (q : RN) (N : List RN) (o : Nat) : goN (q :: N) (o + 1) = goN N (o + arZ q.1) := rfl
theorem goN_raw : ∀ (f : Fm) (R : List RN) (o : Nat), goN (rawF f ++ R) (o + 1) = goN R o
  | .var v, R, o => rfl
  | .fls, R, o => rfl
  | .and a b, R, o => by
    show goN (rawF a ++ rawF b ++ R) (o + 1 + 1) = _
    rw [List.append_assoc, goN_raw a, goN_raw b]
  | .or a b, R, o => by
    show goN (rawF a ++ rawF b ++ R) (o + 1 + 1) = _
    rw [List.append_assoc, goN_raw a, goN_raw b]
  | .imp a b, R, o => by
    show goN (rawF a ++ rawF b ++ R) (o + 1 + 1) = _
    rw [List.append_assoc, goN_raw a, goN_raw b]
  | .box a, R, o => by
    show goN (rawF a ++ R) (o + 1) = _
    rw [goN_raw a]
  | .dia a, R, o => by
    show goN (rawF a ++ R) (o + 1) = _
    rw [goN_raw a]
theorem goN_parse : ∀ (N : List RN) (o : Nat) (R : List RN), (∀ q ∈ N, okN q = true) → goN N o = some R → ∃ fs : List Fm, fs.length = o ∧ (∀ f ∈ fs, f.good) ∧ N = fs.flatMap rawF ++ R
  | N, 0, R, _, h => by
    rw [goN_zero] at h
    refine ⟨[], rfl, fun f hf => ?_, ?_⟩
    · cases hf
    · exact Option.some.inj h
  | [], o + 1, R, _, h => by cases h
  | q :: N, o + 1, R, hok, h => by
    rw [goN_cons] at h
    obtain ⟨fs, hl, hg, hN⟩ := goN_parse N (o + arZ q.1) R (fun x hx => hok x (List.mem_cons_of_mem _ hx)) h
    obtain ⟨k, s⟩ := q
    have hq := okN_iff.1 (hok _ List.mem_cons_self)
    obtain ⟨⟨k0, k6⟩, ⟨s0, s5⟩, hks⟩ := hq
    have k0 : 0 ≤ k := k0
    have k6 : k ≤ 6 := k6
    have s0 : 0 ≤ s := s0
    have s5 : s ≤ 5 := s5
    have hks : k = 0 ∨ s = 0 := hks
    have hl : fs.length = o + arZ k := hl
    have two : ∀ {c : Fm → Fm → Fm} {kk : Int}, k = kk → arZ k = 2 → s = 0 → (∀ a b, rawF (c a b) = (kk, 0) :: (rawF a ++ rawF b)) → (∀ a b, a.good → b.good → (c a b).good) → ∃ fs : List Fm, fs.length = o + 1 ∧ (∀ f ∈ fs, f.good) ∧ (k, s) :: N = fs.flatMap rawF ++ R := by
      intro c kk hk h2 hs hc hcg
      rw [h2] at hl
      match fs, hl, hg, hN with
      | a :: b :: fs, hl, hg, hN =>
        refine ⟨c a b :: fs, by simpa using hl, fun f hf => ?_, ?_⟩
        · rcases List.mem_cons.1 hf with rfl | hf
          · exact hcg _ _ (hg a (by simp)) (hg b (by simp))
          · exact hg f (by simp [hf])
        · rw [hN, hk, hs]; simp [hc]
    have one : ∀ {c : Fm → Fm} {kk : Int}, k = kk → arZ k = 1 → s = 0 → (∀ a, rawF (c a) = (kk, 0) :: rawF a) → (∀ a, a.good → (c a).good) → ∃ fs : List Fm, fs.length = o + 1 ∧ (∀ f ∈ fs, f.good) ∧ (k, s) :: N = fs.flatMap rawF ++ R := by
      intro c kk hk h2 hs hc hcg
      rw [h2] at hl
      match fs, hl, hg, hN with
      | a :: fs, hl, hg, hN =>
        refine ⟨c a :: fs, by simpa using hl, fun f hf => ?_, ?_⟩
        · rcases List.mem_cons.1 hf with rfl | hf
          · exact hcg _ (hg a (by simp))
          · exact hg f (by simp [hf])
        · rw [hN, hk, hs]; simp [hc]
    have nul : ∀ {c : Fm}, arZ k = 0 → rawF c = [(k, s)] → c.good → ∃ fs : List Fm, fs.length = o + 1 ∧ (∀ f ∈ fs, f.good) ∧ (k, s) :: N = fs.flatMap rawF ++ R := by
      intro c h2 hc hcg
      rw [h2] at hl
      refine ⟨c :: fs, by rw [List.length_cons]; omega, fun f hf => ?_, ?_⟩
      · rcases List.mem_cons.1 hf with rfl | hf
        · exact hcg
        · exact hg f hf
      · rw [hN, List.flatMap_cons, hc]; simp
    have hcase : k = 0 ∨ k = 1 ∨ k = 2 ∨ k = 3 ∨ k = 4 ∨ k = 5 ∨ k = 6 := by omega
    rcases hcase with h | h | h | h | h | h | h
    · refine nul (c := .var s.toNat) (by rw [h]; rfl) ?_ (show s.toNat < 6 by omega)
      rw [h]
      show [(0, ((s.toNat : Nat) : Int))] = _
      rw [Int.toNat_of_nonneg s0]
    · have hs : s = 0 := by omega
      exact nul (c := .fls) (by rw [h]; rfl) (by rw [h, hs]; rfl) trivial
    · exact two (c := .and) h (by rw [h]; rfl) (by omega) (fun _ _ => rfl) fun _ _ h1 h2 => ⟨h1, h2⟩
    · exact two (c := .or) h (by rw [h]; rfl) (by omega) (fun _ _ => rfl) fun _ _ h1 h2 => ⟨h1, h2⟩
    · exact two (c := .imp) h (by rw [h]; rfl) (by omega) (fun _ _ => rfl) fun _ _ h1 h2 => ⟨h1, h2⟩
    · exact one (c := .box) h (by rw [h]; rfl) (by omega) (fun _ => rfl) fun _ h1 => h1
    · exact one (c := .dia) h (by rw [h]; rfl) (by omega) (fun _ => rfl) fun _ h1 => h1
theorem rawF_ok : ∀ {f : Fm}, f.good → ∀ q ∈ rawF f, okN q = true
  | .var v, h, q, hq => by
    simp only [rawF, List.mem_singleton] at hq
    subst hq
    have h : v < 6 := h
    exact okN_iff.2 ⟨by simp, by simp; omega, .inl rfl⟩
  | .fls, _, q, hq => by simp only [rawF, List.mem_singleton] at hq; subst hq; rfl
  | .and a b, h, q, hq => by
    simp only [rawF, List.mem_cons, List.mem_append] at hq
    rcases hq with rfl | hq | hq
    · rfl
    · exact rawF_ok h.1 q hq
    · exact rawF_ok h.2 q hq
  | .or a b, h, q, hq => by
    simp only [rawF, List.mem_cons, List.mem_append] at hq
    rcases hq with rfl | hq | hq
    · rfl
    · exact rawF_ok h.1 q hq
    · exact rawF_ok h.2 q hq
  | .imp a b, h, q, hq => by
    simp only [rawF, List.mem_cons, List.mem_append] at hq
    rcases hq with rfl | hq | hq
    · rfl
    · exact rawF_ok h.1 q hq
    · exact rawF_ok h.2 q hq
  | .box a, h, q, hq => by
    simp only [rawF, List.mem_cons] at hq
    rcases hq with rfl | hq
    · rfl
    · exact rawF_ok (f := a) h q hq
  | .dia a, h, q, hq => by
    simp only [rawF, List.mem_cons] at hq
    rcases hq with rfl | hq
    · rfl
    · exact rawF_ok (f := a) h q hq
/-- A formula of any length; a formula. -/
def treeN (N : List RN) : Bool := N.all okN && decide (goN N 1 = some [])
def isN (N : List RN) : Bool := decide (N.length ≤ 40) && treeN N
theorem treeN_iff {N : List RN} : treeN N = true ↔ ∃ f : Fm, f.good ∧ N = rawF f := by
  unfold treeN
  rw [Bool.and_eq_true, decide_eq_true_eq, List.all_eq_true]
  constructor
  · rintro ⟨h1, h2⟩
    obtain ⟨fs, hl, hg, hN⟩ := goN_parse N 1 [] h1 h2
    match fs, hl, hg, hN with
    | [f], _, hg, hN => exact ⟨f, hg f (by simp), by simpa using hN⟩
  · rintro ⟨f, hg, rfl⟩
    refine ⟨rawF_ok hg, ?_⟩
    have := goN_raw f [] 0
    rw [List.append_nil] at this
    rw [this]; rfl
theorem isN_iff {N : List RN} : isN N = true ↔ ∃ f : Fm, f.good ∧ f.size ≤ 40 ∧ N = rawF f := by
  unfold isN
  rw [Bool.and_eq_true, decide_eq_true_eq, treeN_iff]
  constructor
  · rintro ⟨h, f, hg, rfl⟩
    exact ⟨f, hg, by rwa [rawF_len] at h, rfl⟩
  · rintro ⟨f, hg, h, rfl⟩
    exact ⟨by rwa [rawF_len], f, hg, rfl⟩
end Go.Vc

/- Contracts: which rows of nodes are formulas, in the reference. Conditions: none. -/
namespace Go.Vc
/-- A row of nodes that can be read; a row of the call's own. -/
abbrev RawS (w : World) (v : Value) (N : List RN) : Prop := SlK 2 w v N.length (cellsN N)
theorem goN_drop {N : List RN} {j : Nat} (hj : j < N.length) (o : Nat) : goN (N.drop j) (o + 1) = goN (N.drop (j + 1)) (o + arZ N[j].1) := by
  rw [List.drop_eq_getElem_cons hj]; rfl
/-- The end of the formula that begins at i, or -1. -/
def endN (N : List RN) (i : Nat) : Int := match goN (N.drop i) 1 with
  | some R => ((N.length - R.length : Nat) : Int)
  | none => -1
theorem goN_len : ∀ (N : List RN) (o : Nat) (R : List RN), goN N o = some R → R.length ≤ N.length
  | N, 0, R, h => by rw [goN_zero] at h; cases h; exact Nat.le_refl _
  | [], _ + 1, _, h => by cases h
  | q :: N, o + 1, R, h => by
    rw [goN_cons] at h
    have := goN_len N _ R h
    rw [List.length_cons]; omega
theorem endN_tree {N : List RN} (h : N.all okN = true) (hp : 0 < N.length) : decide (endN N 0 = (N.length : Int)) = treeN N := by
  unfold treeN endN
  rw [h, Bool.true_and, List.drop_zero]
  cases hg : goN N 1 with
  | none => 
    refine decide_eq_decide.2 ⟨fun e => ?_, fun e => by cases e⟩
    have e : (-1 : Int) = (N.length : Int) := e
    omega
  | some R =>
    have hl := goN_len N 1 R hg
    refine decide_eq_decide.2 ⟨fun e => ?_, fun e => ?_⟩
    · have e : ((N.length - R.length : Nat) : Int) = (N.length : Int) := e
      have : R = [] := List.length_eq_zero_iff.1 (by omega)
      rw [this]
    · cases e
      show ((N.length - 0 : Nat) : Int) = _
      rw [Nat.sub_zero]
theorem okN_nat {q : RN} (h : okN q = true) : ∃ k s : Nat, q = ((k : Int), (s : Int)) ∧ k ≤ 6 ∧ s ≤ 5 := by
  obtain ⟨⟨h1, h2⟩, ⟨h3, h4⟩, _⟩ := okN_iff.1 h
  obtain ⟨a, b⟩ := q
  have h1 : 0 ≤ a := h1
  have h2 : a ≤ 6 := h2
  have h3 : 0 ≤ b := h3
  have h4 : b ≤ 5 := h4
  refine ⟨a.toNat, b.toNat, ?_, by omega, by omega⟩
  rw [Int.toNat_of_nonneg h1, Int.toNat_of_nonneg h3]
end Go.Vc
namespace Go.Proofs.YtmefbjdioaahdaaGreatDoor
open Go.Vc
theorem FmS.raw {w : World} {v : Value} {f : Fm} (h : FmS w v f) : RawS w v (rawF f) := by
  show SlK 2 w v (rawF f).length (cellsN (rawF f))
  rw [rawF_len, cellsN_raw]; exact h
theorem RawS.fm {w : World} {v : Value} {f : Fm} (h : RawS w v (rawF f)) : FmS w v f := by
  have h : SlK 2 w v (rawF f).length (cellsN (rawF f)) := h
  rwa [rawF_len, cellsN_raw] at h
theorem ok_spec_l02PartN {v : Value} {N : List RN} {i : Nat} {w : World} (hs : RawS w v N) (hok : N.all okN = true) (hi : i ≤ N.length) (hn : N.length ≤ 1099511627776) : Ret Tryz.prog f_spec_l02Part #[v, .int .i64 (i : Int)] w (.int .i64 (endN N i)) := by
  apply c_spec_l02Part; unfold S_spec_l02Part
  refine iLp (fun s : Nat × Nat => [.int .i64 (s.1 : Int), .int .i64 (s.2 : Int)]) (fun s w' => Ext w w' ∧ s.1 ≤ N.length ∧ s.2 ≤ 1 + 2 * s.1 ∧ goN (N.drop s.1) s.2 = goN (N.drop i) 1) (fun s => N.length - s.1) (i, 1) rfl ⟨Ext.refl _, hi, by show 1 ≤ 1 + 2 * i; omega, rfl⟩ ?_
  rintro ⟨j, o⟩ w2 Kn ⟨x2, hj, ho, hg⟩ hKn
  have hj : j ≤ N.length := hj
  have ho : o ≤ 1 + 2 * j := ho
  have hg : goN (N.drop j) o = goN (N.drop i) 1 := hg
  intro _
  simp only [gx]
  refine iLt (iCndP (fun h3 => ?_) (fun h3 => ?_))
  · obtain ⟨o', rfl⟩ : ∃ o', o = o' + 1 := ⟨o - 1, by omega⟩
    refine iLenK (SlK.ext hs x2) ?_
    refine iLe (iCndP (fun h4 => ?_) (fun h4 => ?_))
    · obtain rfl : j = N.length := by omega
      rw [List.drop_length] at hg
      refine ⟨?_, x2⟩
      unfold endN
      rw [← hg]; rfl
    · have hj1 : j < N.length := by omega
      have hat := cellsN_at hj1
      obtain ⟨k, s, hq, hk6, _⟩ := okN_nat (List.all_eq_true.1 hok _ (List.getElem_mem hj1))
      refine iSub (by omega) ?_
      refine iFld (f := 0) (SlK.ext hs x2) rfl hj1 (by decide) hat.1 ?_
      have e1 : N[j].1 = (k : Int) := by rw [hq]
      rw [e1]
      refine iRet (ok_spec_l02Parts k w2) fun w3 x3 => ?_
      have hak : arity k ≤ 2 := by unfold arity; split; omega; split <;> omega
      refine iAdd (by omega) (iAdd (by omega) ?_)
      rw [show ((o' + 1 : Nat) : Int) - 1 + (arity k : Int) = ((o' + arity k : Nat) : Int) by omega]
      refine hKn (j + 1, o' + arity k) _ ⟨x2.trans x3, by show j + 1 ≤ N.length; omega, by show o' + arity k ≤ 1 + 2 * (j + 1); omega, ?_⟩ (by show N.length - (j + 1) < N.length - j; omega)
      show goN (N.drop (j + 1)) (o' + arity k) = _
      rw [← hg, goN_drop hj1, e1, arZ_nat]
  · obtain rfl : o = 0 := by omega
    rw [goN_zero] at hg
    refine ⟨?_, x2⟩
    unfold endN
    rw [← hg]
    show Value.int .i64 (j : Int) = .int .i64 ((N.length - (N.drop j).length : Nat) : Int)
    rw [List.length_drop, show N.length - (N.length - j) = j by omega]
theorem ok_spec_l02Tree {v : Value} {N : List RN} {w : World} (hs : RawS w v N) (hn : N.length ≤ 1099511627776) : Ret Tryz.prog f_spec_l02Tree #[v] w (.bool (treeN N)) := by
  apply c_spec_l02Tree; unfold S_spec_l02Tree
  refine iLp (fun i : Nat => [.int .i64 (i : Int)]) (fun i w' => i ≤ N.length ∧ Ext w w' ∧ (N.take i).all okN = true) (fun i => N.length - i) 0 rfl ⟨Nat.zero_le _, Ext.refl _, by simp⟩ ?_
  rintro i w2 Kn ⟨hi, x2, hall⟩ hKn
  have hs2 := SlK.ext hs x2
  intro _
  simp only [gx]
  refine iLenK hs2 ?_
  refine iLt (iCndP (fun h3 => ?_) (fun h3 => ?_))
  · have hi1 : i < N.length := by omega
    have hat := cellsN_at hi1
    refine iJnB (!okN N[i]) w2 (fun J hJ => ?_) (fun w4 x4 => ?_)
    · refine iFld (f := 0) hs2 rfl hi1 (by decide) hat.1 ?_
      refine iRet (ok_spec_l01In _ _ _ w2) fun w5 x5 => ?_
      refine iNot ?_
      have hs5 := SlK.ext hs2 x5
      by_cases c1 : 0 ≤ N[i].1 ∧ N[i].1 ≤ 6
      · rw [decide_eq_true c1]
        refine iCndF rfl ?_
        refine iFld (f := 1) hs5 rfl hi1 (by decide) hat.2 ?_
        refine iRet (ok_spec_l01In _ _ _ w5) fun w6 x6 => ?_
        have hs6 := SlK.ext hs5 x6
        refine iNot ?_
        by_cases c2 : 0 ≤ N[i].2 ∧ N[i].2 ≤ 5
        · rw [decide_eq_true c2]
          refine iCndF rfl ?_
          refine iFld (f := 0) hs6 rfl hi1 (by decide) hat.1 ?_
          refine iNe (iCndP (fun c3 => ?_) (fun c3 => ?_))
          · refine iFld (f := 1) hs6 rfl hi1 (by decide) hat.2 ?_
            refine iNe ?_
            have : (!okN N[i]) = decide (¬ N[i].2 = 0) := by
              unfold okN
              rw [decide_eq_true c1, decide_eq_true c2, decide_eq_false c3, Bool.true_and, Bool.true_and, Bool.false_or, ← decide_not]
            rw [this] at hJ
            exact hJ _ (x5.trans x6)
          · have c3 : N[i].1 = 0 := Classical.not_not.1 c3
            have : (!okN N[i]) = false := by
              unfold okN
              rw [decide_eq_true c1, decide_eq_true c2, decide_eq_true c3]; rfl
            rw [this] at hJ
            exact hJ _ (x5.trans x6)
        · rw [decide_eq_false c2]
          refine iCndT rfl ?_
          have : (!okN N[i]) = true := by
            unfold okN
            rw [decide_eq_false c2, Bool.false_and, Bool.and_false]; rfl
          rw [this] at hJ
          exact hJ _ (x5.trans x6)
      · rw [decide_eq_false c1]
        refine iCndT rfl ?_
        have : (!okN N[i]) = true := by
          unfold okN
          rw [decide_eq_false c1, Bool.false_and]; rfl
        rw [this] at hJ
        exact hJ _ x5
    · intro _
      cases hb : okN N[i] with
      | false =>
        refine iCndT (by first | rfl | exact congrArg not hb) ?_
        refine ⟨?_, x2.trans x4⟩
        have : treeN N = false := by
          unfold treeN
          have : N.all okN = false := by
            rw [List.all_eq_false]
            exact ⟨N[i], List.getElem_mem hi1, by rw [hb]; decide⟩
          rw [this, Bool.false_and]
        rw [this]
      | true =>
        refine iCndF (by first | rfl | exact congrArg not hb) ?_
        refine iAdd (by omega) ?_
        refine hKn (i + 1) _ ⟨by omega, x2.trans x4, ?_⟩ (by omega)
        rw [List.take_succ_eq_append_getElem hi1, List.all_append, hall]
        simp [hb]
  · obtain rfl : i = N.length := by omega
    rw [List.take_length] at hall
    refine iJnB (treeN N) w2 (fun J hJ => ?_) (fun w8 x8 => fun _ => ⟨rfl, x2.trans x8⟩)
    refine iLenK hs2 ?_
    refine iLt (iCndP (fun h4 => ?_) (fun h4 => ?_))
    · have hp : 0 < N.length := by omega
      refine iRet (ok_spec_l02PartN (i := 0) hs2 hall (Nat.zero_le _) hn) fun w9 x9 => ?_
      refine iLenK (SlK.ext hs2 x9) ?_
      refine iEq ?_
      rw [endN_tree hall hp]
      exact hJ _ x9
    · have h0 : N = [] := List.length_eq_zero_iff.1 (by omega)
      subst h0
      exact hJ _ (Ext.refl _)
theorem ok_spec_l02Is {v : Value} {N : List RN} {w : World} (hs : RawS w v N) (hn : N.length ≤ 1099511627776) : Ret Tryz.prog f_spec_l02Is #[v] w (.bool (isN N)) := by
  apply c_spec_l02Is; unfold S_spec_l02Is
  refine iJnB (isN N) w (fun J hJ => ?_) (fun w2 x2 => fun _ => ⟨rfl, x2⟩)
  refine iLenK hs ?_
  unfold isN at hJ
  refine iLe (iCndP (fun h => ?_) (fun h => ?_))
  · rw [decide_eq_true (by omega), Bool.true_and] at hJ
    refine iRet (ok_spec_l02Tree hs hn) fun w3 x3 => hJ _ x3
  · rw [decide_eq_false (by omega), Bool.false_and] at hJ
    exact hJ _ (Ext.refl _)
end Go.Proofs.YtmefbjdioaahdaaGreatDoor

/- Memory: rows of elements of two cells that a call turns in place. No function in sight. Conditions: none. -/
namespace Go.Vc
/-- A row of cap elements of two cells, whole. -/
def Rx (e : TypeId) (w : World) (g cap : Nat) (cur : List Value) : Prop := Blk e w g cur ∧ cur.length = cap * 2 ∧ cap ≤ 9223372036854775807
theorem OwK.rx {lo n : Nat} {e : TypeId} {w : World} {v : Value} {xs : List Value} (h : OwK 2 lo e w v n xs) (hn : 0 < n) :
    ∃ g cap cur, v = .slice (some ⟨g, 0, none⟩) n cap ∧ lo ≤ g ∧ n ≤ cap ∧ Rx e w g cap cur ∧ cur.take (n * 2) = xs := by
  obtain ⟨_, ⟨_, h0⟩ | ⟨g, cap, cur, hv, hg, hh, h1, h2, h3, h4⟩⟩ := h
  · omega
  · exact ⟨g, cap, cur.toList, hv, hg, h1, ⟨by unfold Blk; rw [Array.toArray_toList]; exact hh, by simpa using h3, h2⟩, h4⟩
section
variable {P : Program} {w : World} {e : TypeId} {g cap : Nat} {cur : List Value}
theorem Rx.own {lo n : Nat} {xs : List Value} (h : Rx e w g cap cur) (hl : lo ≤ g) (hn : n ≤ cap) (hx : cur.take (n * 2) = xs) : OwK 2 lo e w (.slice (some ⟨g, 0, none⟩) n cap) n xs :=
  ⟨by rw [← hx, List.length_take, h.2.1]; omega, .inr ⟨g, cap, cur.toArray, rfl, hl, h.1, hn, h.2.2, by simpa using h.2.1, by simpa using hx⟩⟩
theorem Rx.ext {w' : World} (h : Rx e w g cap cur) (x : Ext w w') : Rx e w' g cap cur := ⟨h.1.ext x, h.2⟩
/-- A part of a list put anew. -/
def putX (cur : List Value) (o : Nat) (ys : List Value) : List Value := cur.take o ++ ys ++ cur.drop (o + ys.length)
theorem putX_len {cur : List Value} {o : Nat} {ys : List Value} (h : o + ys.length ≤ cur.length) : (putX cur o ys).length = cur.length := by
  unfold putX; rw [List.length_append, List.length_append, List.length_take, List.length_drop]; omega
theorem putX_take {cur : List Value} {o n : Nat} {ys : List Value} (h : o + ys.length ≤ cur.length) (hn : n = o + ys.length) : (putX cur o ys).take n = cur.take o ++ ys := by
  unfold putX
  have hl : (cur.take o ++ ys).length = n := by rw [List.length_append, List.length_take]; omega
  rw [List.take_append_of_le_length (by omega), List.take_of_length_le (by omega)]
theorem Rx.set (h : Rx e w g cap cur) {cur' : List Value} (hl : cur'.length = cur.length) : Rx e (w.setRow g cur'.toArray) g cap cur' ∧ Ch (fun c => c = g) w (w.setRow g cur'.toArray) :=
  ⟨⟨setRow_heap w g cur.toArray _ e (0, 0) h.1, by rw [hl]; exact h.2.1, h.2.2⟩, ⟨rfl, rfl, rfl, by rw [setRow_size]; exact Nat.le_refl _, fun c _ hc => setRow_other w g c _ hc⟩⟩
theorem SlK.srcX {k m : Nat} {x : Value} {ys : List Value} (hs : SlK k w x m ys) : ∃ a c, x = .slice a m c ∧ ys.length = m * k ∧ ((a = none ∧ m = 0) ∨ ∃ ad, a = some ad ∧ ∀ j u, ys[j]? = some u → w.cell? (ad.add j) = some u) := by
  obtain ⟨hyl, a, c, rfl, hlc, hcm, hcells⟩ := hs
  refine ⟨a, c, rfl, hyl, ?_⟩
  rcases hcells with rfl | ⟨b, o, rfl, hc⟩
  · cases a with
    | none => exact .inl ⟨rfl, rfl⟩
    | some ad =>
      refine .inr ⟨ad, rfl, fun j u hu => ?_⟩
      have : ys = [] := List.length_eq_zero_iff.1 (by omega)
      rw [this] at hu; simp at hu
  · refine .inr ⟨_, rfl, fun j u hu => ?_⟩
    have hj : j < ys.length := (List.getElem?_eq_some_iff.1 hu).1
    rw [addr_add, hc j (by omega), hu]
/-- 'append(s, x...)' where s has room. -/
theorem iAppRx {t ty : TypeId} {i m bytes : Nat} {x z : Value} {ys : List Value} {K : Value → World → Prop} (ht : P.underlying t = some (.slice e)) (hi : (P.info? e).map (fun i => (i.zero, i.size, i.bytes)) = some (some z, 2, bytes))
    (hR : Rx e w g cap cur) (hs : SlK 2 w x m ys) (hy : ∀ u ∈ ys, isCell u = true) (hroom : i + m ≤ cap)
    (h : ∀ w', Rx e w' g cap (putX cur (i * 2) ys) → Ch (fun c => c = g) w w' → K (.slice (some ⟨g, 0, none⟩) (i + m) cap) w') :
    xOp P (Builtin.append_ #[t, t] ty #[.slice (some ⟨g, 0, none⟩) i cap, x]) w K := by
  obtain ⟨inf, hi, h3⟩ := Option.map_eq_some_iff.1 hi
  simp only [Prod.mk.injEq] at h3
  obtain ⟨-, hsz, -⟩ := h3
  obtain ⟨a, c, rfl, hyl, ⟨rfl, rfl⟩ | ⟨ad, rfl, hsrc⟩⟩ := hs.srcX
  · have : ys = [] := List.length_eq_zero_iff.1 (by omega)
    subst this
    refine ⟨_, w, ?_, h w (by simpa [putX] using hR) ⟨rfl, rfl, rfl, Nat.le_refl _, fun _ _ _ => rfl⟩⟩
    have : i ≤ cap := by omega
    simp [Builtin.append_, run_underlying ht, sizeOf, typeInfo, hi, Builtin.lenOf, Builtin.firstCells, this, storeCells]
  · have hl3 := hR.2.1
    have hr := run_append_room (P := P) w t ty e inf ht hi g i cap cur.toArray hR.1 ad m c ys (by rw [hsz]; exact hyl) hsrc (fun u hu => isCell_one (hy u hu)) hroom (by simp [hsz]; omega)
    rw [hsz] at hr
    obtain ⟨h1, h2⟩ := hR.set (cur' := putX cur (i * 2) ys) (putX_len (by omega))
    exact ⟨_, _, hr, h _ h1 h2⟩
end
/-! ### Parts of slices of elements of two cells -/
theorem iHX {g o n c k : Nat} {ki : IntKind} {K : Value → Prop} (hk : k ≤ c) (h : K (.slice (some ⟨g, o, none⟩) k c)) : xSl 2 (.slice (some ⟨g, o, none⟩) n c) none (some (.int ki (k : Int))) K := by
  refine ⟨_, _, _, 0, k, rfl, ⟨ki, rfl⟩, rfl, Nat.zero_le _, hk, ?_⟩
  have e : (if c = 0 then some (⟨g, o, none⟩ : Addr) else (some (⟨g, o, none⟩ : Addr)).map (·.add (0 * 2))) = some ⟨g, o, none⟩ := by
    split
    · rfl
    · rw [Option.map_some, addr_add, Nat.zero_mul, Nat.add_zero]
  rw [e, Nat.sub_zero, Nat.sub_zero]
  exact h
/-! ### Rows of a count and a slice -/
section
variable {P : Program} {w : World}
theorem iStFX {lo : Nat} {e : TypeId} {w : World} {v x : Value} {n : Nat} {xs : List Value} {z : Int} {j f : Nat} {k : IntKind} {K : World → Prop} (hs : OwK 2 lo e w v n xs) (hz : z = (j : Int)) (hj : j < n) (hf : f < 2) (hx : isCell x = true)
    (h : ∀ w', OwK 2 lo e w' v n (xs.set (j * 2 + f) x) → Ch (fun c => v.ownBlock = some c) w w' → K w') : xIa 2 v (.int k z) fun p => xFa f p fun q => xSt w q x K := by
  subst hz
  obtain ⟨hl, ⟨-, h0⟩ | ⟨g, cap, cur, hv, hg, hh, h1, h2, h3, h4⟩⟩ := hs
  · omega
  · subst hv
    have hs : w.ownsRow lo e 2 (.slice (some ⟨g, 0, none⟩) n cap) n xs := ⟨hl, .inr ⟨g, cap, cur, rfl, hg, hh, h1, h2, h3, h4⟩⟩
    refine ⟨_, _, _, _, _, rfl, rfl, by omega, by omega, ?_⟩
    rw [Int.toNat_natCast, addr_add]
    refine ⟨_, rfl, ?_⟩
    rw [addr_add, Nat.zero_add]
    have hjf : j * 2 + f < xs.length := by omega
    refine iSt ((hs.cellAt (j * 2 + f) (by omega)).trans (List.getElem?_eq_getElem hjf)) (hs.frozenAt _) hx ?_
    exact h _ (hs.stored (j * 2 + f) x).1 ((Upd.setCell w g _ x).ch rfl)
theorem iTY {k n i : Nat} {ki : IntKind} {w : World} {v : Value} {xs : List Value} {z : Int} {K : Value → Prop} (hs : SlK k w v n xs) (hz : z = (i : Int)) (hi : i ≤ n) (h : ∀ v', SlK k w v' (n - i) (xs.drop (i * k)) → K v') : xSl k v (some (.int ki z)) none K := by
  subst hz
  obtain ⟨h0, a, c, rfl, h2, h3, h4⟩ := hs
  have hle : i * k ≤ n * k := Nat.mul_le_mul_right _ hi
  have hsub : (n - i) * k = n * k - i * k := Nat.sub_mul ..
  refine ⟨_, _, _, i, n, rfl, rfl, ⟨ki, rfl⟩, hi, h2, ?_⟩
  refine h _ ⟨by rw [List.length_drop]; omega, _, _, rfl, by omega, by omega, ?_⟩
  rcases Nat.eq_zero_or_pos (n - i) with hz | hz
  · exact .inl hz
  · rcases h4 with h4 | ⟨b, o, rfl, hc⟩
    · omega
    · refine .inr ⟨b, o + i * k, ?_, fun j hj => ?_⟩
      · rw [if_neg (by omega), Option.map_some, addr_add]
      · rw [Nat.add_assoc, hc _ (by omega), List.getElem?_drop]
end
end Go.Vc

/- Contracts: drawn formulas, and formulas bent out of shape. Conditions: none. -/
namespace Go.Vc
/-- A row of nodes of the call's own; a formula drawn. -/
abbrev RawW (lo : Nat) (e : TypeId) (w : World) (v : Value) (N : List RN) : Prop := OwK 2 lo e w v N.length (cellsN N)
theorem OwK.ne_src {k lo n : Nat} {e e' : TypeId} {w0 w : World} {vc v : Value} {b : Nat} {xs : List Value} (h : OwK k lo e' w v n xs) (hS : Vc.Src e w0 vc b w) (hne : e' ≠ e) : v.ownBlock ≠ some b := by
  intro hc
  obtain ⟨cur, h1⟩ := h.ty hc
  obtain ⟨_, _, _, _, h3, _⟩ := hS
  unfold Blk at h3
  rw [h1] at h3
  injection h3 with h3
  injection h3 with _ he _
  exact hne he
theorem OwK.src {k lo n : Nat} {e e' : TypeId} {w0 w w' : World} {vc v : Value} {b : Nat} {xs : List Value} (h : OwK k lo e' w v n xs) (hS : Vc.Src e w0 vc b w) (hne : e' ≠ e) (hch : Ch (fun c => c = b) w w') : OwK k lo e' w' v n xs :=
  h.ch hch fun c hc hb => h.ne_src hS hne (by rw [hc, hb])
def preF (y : Nat) (a : Fm) : Fm := if y = 0 then .box a else .dia a
theorem preF_cells {y : Nat} (hy : y < 2) (a : Fm) : (preF y a).cells = nd (5 + y) 0 ++ a.cells := by
  have : y = 0 ∨ y = 1 := by omega
  rcases this with rfl | rfl <;> rfl
theorem preF_size (y : Nat) (a : Fm) : (preF y a).size = 1 + a.size := by unfold preF; split <;> rfl
theorem preF_good (y : Nat) {a : Fm} (h : a.good) : (preF y a).good := by unfold preF; split <;> exact h
def binF (z : Nat) (a b : Fm) : Fm := if z = 0 then .and a b else if z = 1 then .or a b else .imp a b
theorem binF_cells {z : Nat} (hz : z < 3) (a b : Fm) : (binF z a b).cells = nd (2 + z) 0 ++ a.cells ++ b.cells := by
  have : z = 0 ∨ z = 1 ∨ z = 2 := by omega
  rcases this with rfl | rfl | rfl <;> rfl
theorem binF_size (z : Nat) (a b : Fm) : (binF z a b).size = 1 + a.size + b.size := by unfold binF; split; rfl; split <;> rfl
theorem binF_good (z : Nat) {a b : Fm} (h : a.good) (k : b.good) : (binF z a b).good := by unfold binF; split; exact ⟨h, k⟩; split <;> exact ⟨h, k⟩
theorem cellsN_set0 (N : List RN) (k : Nat) (hk : k < N.length) (x : Int) : (cellsN N).set (k * 2 + 0) (.int .i64 x) = cellsN (N.set k (x, N[k].2)) := by
  induction N generalizing k with
  | nil => simp at hk
  | cons q N ih =>
    cases k with
    | zero => rfl
    | succ k =>
      have ih := ih k (by simpa using hk)
      show (Value.int .i64 q.1 :: Value.int .i64 q.2 :: cellsN N).set ((k + 1) * 2 + 0) _ = Value.int .i64 q.1 :: Value.int .i64 q.2 :: cellsN (N.set k _)
      rw [Nat.add_zero] at ih
      rw [show (k + 1) * 2 + 0 = k * 2 + 1 + 1 by omega, List.set_cons_succ, List.set_cons_succ, ih]
      rfl
theorem cellsN_set1 (N : List RN) (k : Nat) (hk : k < N.length) (x : Int) : (cellsN N).set (k * 2 + 1) (.int .i64 x) = cellsN (N.set k (N[k].1, x)) := by
  induction N generalizing k with
  | nil => simp at hk
  | cons q N ih =>
    cases k with
    | zero => rfl
    | succ k =>
      have ih := ih k (by simpa using hk)
      show (Value.int .i64 q.1 :: Value.int .i64 q.2 :: cellsN N).set ((k + 1) * 2 + 1) _ = Value.int .i64 q.1 :: Value.int .i64 q.2 :: cellsN (N.set k _)
      rw [show (k + 1) * 2 + 1 = (k * 2 + 1) + 1 + 1 by omega, List.set_cons_succ, List.set_cons_succ, ih]
      rfl
theorem cellsN_take (N : List RN) (k : Nat) : (cellsN N).take (k * 2) = cellsN (N.take k) := by
  induction N generalizing k with
  | nil => simp [cellsN]
  | cons q N ih =>
    cases k with
    | zero => simp [cellsN]
    | succ k =>
      rw [cellsN_cons, List.take_succ_cons, cellsN_cons, ← ih k, show (k + 1) * 2 = (rcell q).length + k * 2 by show _ = 2 + k * 2; omega, List.take_length_add_append]
theorem cellsN_drop (N : List RN) (k : Nat) : (cellsN N).drop (k * 2) = cellsN (N.drop k) := by
  induction N generalizing k with
  | nil => simp [cellsN]
  | cons q N ih =>
    cases k with
    | zero => simp
    | succ k =>
      rw [cellsN_cons, List.drop_succ_cons, ← ih k, show (k + 1) * 2 = (rcell q).length + k * 2 by show _ = 2 + k * 2; omega, List.drop_length_add_append]
theorem cellsN_cell (N : List RN) : ∀ u ∈ cellsN N, isCell u = true := fun u hu => by
  obtain ⟨q, _, hq⟩ := List.mem_flatMap.1 hu
  simp only [rcell, List.mem_cons, List.not_mem_nil, or_false] at hq
  rcases hq with rfl | rfl <;> rfl
theorem iBs5D {w : World} {e : TypeId} {a b c d f : Int} {K : Value → World → Prop} (h : ∀ bb w', bb = w.heap.size ∧ w'.heap.size = bb + 1 → Ext w w' → Blk e w' bb (ints [a, b, c, d, f]) → K (.slice (some ⟨bb, 0, none⟩) 5 5) w') :
    xBs e (Value.cells (.int .i64 0)) 1 5 [(0, .int .i64 a), (1, .int .i64 b), (2, .int .i64 c), (3, .int .i64 d), (4, .int .i64 f)] w K := by
  refine ⟨#[.int .i64 a, .int .i64 b, .int .i64 c, .int .i64 d, .int .i64 f], ?_, h _ _ ⟨rfl, by simp⟩ (Ext.alloc w _) (Blk.new w #[.int .i64 a, .int .i64 b, .int .i64 c, .int .i64 d, .int .i64 f] e)⟩
  simp [Instr.fill, Value.cells, show Array.range 5 = #[0, 1, 2, 3, 4] from rfl]
end Go.Vc
namespace Go.Proofs.YtmefbjdioaahdaaGreatDoor
open Go.Vc
theorem ok_spec_l02Draw {e : TypeId} (hneN : t_impl_Node ≠ e) {w0 : World} {vc : Value} {bs : List Nat} (hc : SlB w0 vc bs) {b k : Nat} (hk : 1 ≤ k ∧ k ≤ 6) (m : Bool) : ∀ (n : Nat) {w : World}, Vc.Src e w0 vc b w → 1 ≤ n → n ≤ 1000 →
    Drw Tryz.prog f_spec_l02Draw #[.pointer (some ⟨b, 0, none⟩), .int .i64 (n : Int), .int .i64 (k : Int), .bool m] e w0 vc b w fun r w' => ∃ f : Fm, f.good ∧ f.size ≤ n ∧ FmW w.heap.size w' r f := by
  intro n
  induction n using Nat.strongRecOn with
  | _ n ih =>
  intro w hS hn1 hn2
  apply c_spec_l02Draw; unfold S_spec_l02Draw
  refine iJnX (fun xs w' => (∃ t, xs = [.bool t] ∧ (t = false → 3 ≤ n)) ∧ Vc.Src e w0 vc b w' ∧ Ch (fun c => c = b) w w') (fun J hJ => ?_) ?_
  · refine iLe (iCndP (fun h => ?_) (fun h => ?_))
    · exact hJ _ _ ⟨⟨true, rfl, fun h => by cases h⟩, hS, (Ext.refl w).ch⟩
    · refine iCall ((ok_spec_l01Next hc hS 9).mono ?_)
      rintro _ w3 ⟨⟨x, rfl, _, _⟩, hS3, hch3⟩
      refine iEq ?_
      exact hJ _ _ ⟨⟨_, rfl, fun _ => by omega⟩, hS3, hch3⟩
  rintro _ w2 ⟨⟨t, rfl, ht⟩, hS2, hC2⟩
  intro _
  cases t with
  | true =>
    refine iCndT rfl ?_
    refine iCall ((ok_spec_l01Next hc hS2 8).mono ?_)
    rintro _ w4 ⟨⟨x, rfl, _, _⟩, hS4, hch4⟩
    have hC4 := ch_self hC2 hch4
    refine iEq (iCndP (fun _ => ?_) (fun _ => ?_))
    · refine iCall ((ok_spec_l02False w4).mono ?_)
      rintro u w5 ⟨x5, h5⟩
      exact ⟨⟨.fls, trivial, hn1, OwK.mono h5 hC4.size⟩, hS4.later x5, ch_ext hC4 x5⟩
    · refine iCall ((ok_spec_l01Next hc hS4 k).mono ?_)
      rintro _ w6 ⟨⟨y, rfl, hy, _⟩, hS6, hch6⟩
      have hy := hy (by omega)
      refine iCall ((ok_spec_l02Var y w6).mono ?_)
      rintro u w7 ⟨x7, h7⟩
      have hC6 := ch_self hC4 hch6
      exact ⟨⟨.var y, show y < 6 by omega, hn1, OwK.mono h7 hC6.size⟩, hS6.later x7, ch_ext hC6 x7⟩
  | false =>
    refine iCndF rfl ?_
    have h3 := ht rfl
    refine iJnX (fun xs w' => (∃ t, xs = [.bool t]) ∧ Vc.Src e w0 vc b w' ∧ Ch (fun c => c = b) w w') (fun J hJ => ?_) ?_
    · cases m with
      | true =>
        refine iCndT rfl ?_
        refine iCall ((ok_spec_l01Next hc hS2 3).mono ?_)
        rintro _ w10 ⟨⟨x, rfl, _, _⟩, hS10, hch10⟩
        refine iEq ?_
        exact hJ _ _ ⟨⟨_, rfl⟩, hS10, ch_self hC2 hch10⟩
      | false => exact iCndF rfl (hJ _ _ ⟨⟨_, rfl⟩, hS2, hC2⟩)
    rintro _ w9 ⟨⟨t, rfl⟩, hS9, hC9⟩
    intro _
    cases t with
    | true =>
      refine iCndT rfl ?_
      refine iCall ((ok_spec_l01Next hc hS9 2).mono ?_)
      rintro _ w11 ⟨⟨y, rfl, hy, _⟩, hS11, hch11⟩
      have hy := hy (by omega)
      have hC11 := ch_self hC9 hch11
      refine iAdd (by omega) (iSub (by omega) ?_)
      rw [show (5 : Int) + (y : Int) = ((5 + y : Nat) : Int) by omega, show (n : Int) - 1 = ((n - 1 : Nat) : Int) by omega]
      refine iCall ((ih (n - 1) (by omega) hS11 (by omega) (by omega)).mono ?_)
      rintro u w12 ⟨⟨a, ga, sa, ha⟩, hS12, hch12⟩
      have hC12 := ch_self hC11 hch12
      refine iCall ((ok_spec_l02Pre (c := preF y a) (preF_cells (by omega) a) (preF_size y a) ha.sl (by rw [preF_size]; omega)).mono ?_)
      rintro r w13 ⟨x13, hr⟩
      exact ⟨⟨preF y a, preF_good y ga, by rw [preF_size]; omega, OwK.mono hr hC12.size⟩, hS12.later x13, ch_ext hC12 x13⟩
    | false =>
      refine iCndF rfl ?_
      refine iCall ((ok_spec_l01Next hc hS9 6).mono ?_)
      rintro _ w14 ⟨⟨y, rfl, _, _⟩, hS14, hch14⟩
      have hC14 := ch_self hC9 hch14
      refine iEq (iCndP (fun _ => ?_) (fun _ => ?_))
      · refine iSub (by omega) ?_
        rw [show (n : Int) - 2 = ((n - 2 : Nat) : Int) by omega]
        refine iCall ((ih (n - 2) (by omega) hS14 (by omega) (by omega)).mono ?_)
        rintro u w15 ⟨⟨a, ga, sa, ha⟩, hS15, hch15⟩
        have hC15 := ch_self hC14 hch15
        refine iCall ((ok_spec_l02Not ha.sl (by omega)).mono ?_)
        rintro r w16 ⟨x16, hr⟩
        exact ⟨⟨.imp a .fls, ⟨ga, trivial⟩, by show 1 + a.size + 1 ≤ n; omega, OwK.mono hr hC15.size⟩, hS15.later x16, ch_ext hC15 x16⟩
      · refine iSub (by omega) ?_
        refine iCall ((ok_spec_l01Next hc hS14 _).mono ?_)
        rintro _ w17 ⟨⟨z, rfl, hz, _⟩, hS17, hch17⟩
        have hz := hz (by omega)
        have hC17 := ch_self hC14 hch17
        refine iAdd (by omega) ?_
        rw [show (1 : Int) + (z : Int) = ((1 + z : Nat) : Int) by omega]
        refine iCall ((ih (1 + z) (by omega) hS17 (by omega) (by omega)).mono ?_)
        rintro u w18 ⟨⟨a, ga, sa, ha⟩, hS18, hch18⟩
        have hC18 := ch_self hC17 hch18
        refine iCall ((ok_spec_l01Next hc hS18 3).mono ?_)
        rintro _ w19 ⟨⟨q, rfl, hq, _⟩, hS19, hch19⟩
        have hq := hq (by omega)
        have hC19 := ch_self hC18 hch19
        have ha19 := OwK.src ha hS18 hneN hch19
        refine iAdd (by omega) (iSub (by omega) (iSub (by omega) ?_))
        rw [show (2 : Int) + (q : Int) = ((2 + q : Nat) : Int) by omega, show (n : Int) - 1 - ((1 + z : Nat) : Int) = ((n - 1 - (1 + z) : Nat) : Int) by omega]
        refine iCall ((ih (n - 1 - (1 + z)) (by omega) hS19 (by omega) (by omega)).mono ?_)
        rintro u2 w20 ⟨⟨a2, ga2, sa2, ha2⟩, hS20, hch20⟩
        have hC20 := ch_self hC19 hch20
        have ha20 := OwK.src ha19 hS19 hneN hch20
        refine iCall ((ok_spec_l02Pair (c := binF q a a2) (binF_cells (by omega) a a2) (binF_size q a a2) ha20.sl ha2.sl (by rw [binF_size]; omega)).mono ?_)
        rintro r w21 ⟨x21, hr⟩
        exact ⟨⟨binF q a a2, binF_good q ga ga2, by rw [binF_size]; omega, OwK.mono hr hC20.size⟩, hS20.later x21, ch_ext hC20 x21⟩
theorem ok_spec_l02OwnD {va : Value} {w : World} {N : List RN} (ha : RawS w va N) (hsz : N.length ≤ 1000000) : Cal Tryz.prog f_spec_l02Own #[va] w fun r w' => Ext w w' ∧ RawW w.heap.size t_impl_Node w' r N := by
  apply c_spec_l02Own; unfold S_spec_l02Own
  refine iBsA0 fun u w1 _ x1 ho => ?_
  refine iAppK u_Simpl_Node i_Simpl_Node rfl (by omega) ho (SlK.ext ha x1) (cellsN_cell N) (by omega) (by omega) x1.size fun v2 w2 ho2 hg2 _ => ?_
  refine ⟨x1.grown hg2 fun c hc => (ho.blk c hc).1, ?_⟩
  show OwK 2 _ _ w2 v2 _ _
  rw [Nat.zero_add, List.nil_append] at ho2
  exact ho2
theorem ok_spec_l02Bend {e : TypeId} (hneN : t_impl_Node ≠ e) {w0 : World} {vc : Value} {bs : List Nat} (hc : SlB w0 vc bs) {b : Nat} {w : World} (hS : Vc.Src e w0 vc b w) {va : Value} {N : List RN} (ha : RawS w va N) (hN : 1 ≤ N.length ∧ N.length ≤ 1000) :
    Drw Tryz.prog f_spec_l02Bend #[.pointer (some ⟨b, 0, none⟩), va] e w0 vc b w fun r w' => ∃ M : List RN, M.length ≤ N.length + 1 ∧ RawW w.heap.size t_impl_Node w' r M := by
  apply c_spec_l02Bend; unfold S_spec_l02Bend
  have hlow := hS.ext.size
  refine iCall ((ok_spec_l02OwnD ha (by omega)).mono ?_)
  rintro v w1 ⟨x1, ho1⟩
  have hS1 := hS.later x1
  have hC1 : Ch (fun c => c = b) w w1 := x1.ch (S := fun c => c = b)
  refine iLenK ho1.sl ?_
  refine iCall ((ok_spec_l01Next hc hS1 _).mono ?_)
  rintro _ w2 ⟨⟨k, rfl, hk, _⟩, hS2, hch2⟩
  have hk := hk (by omega)
  have hkN : k < N.length := by omega
  have ho2 := OwK.src ho1 hS1 hneN hch2
  have hC2 := ch_self hC1 hch2
  refine iCall ((ok_spec_l01Next hc hS2 5).mono ?_)
  rintro _ w3 ⟨⟨x, rfl, _, _⟩, hS3, hch3⟩
  have ho3 := OwK.src ho2 hS2 hneN hch3
  have hC3 := ch_self hC2 hch3
  have turn : ∀ {w' w'' : World} {xs : List Value}, OwK 2 w.heap.size t_impl_Node w' v N.length xs → Vc.Src e w0 vc b w' → Ch (fun c => c = b) w w' → Ch (fun c => v.ownBlock = some c) w' w'' → Vc.Src e w0 vc b w'' ∧ Ch (fun c => c = b) w w'' := fun ho gS gC k =>
    ⟨gS.ch k (fun h => ho.ne_src gS hneN h) fun c hc => by have := (ho.blk c hc).1; omega, gC.trans k fun c hc => .inr (ho.blk c hc).1⟩
  refine iEq (iCndP (fun _ => ?_) (fun _ => ?_))
  · refine iCall ((ok_spec_l01Next hc hS3 9).mono ?_)
    rintro _ w4 ⟨⟨y, rfl, hy, _⟩, hS4, hch4⟩
    have hy := hy (by omega)
    have ho4 := OwK.src ho3 hS3 hneN hch4
    have hC4 := ch_self hC3 hch4
    refine iSub (by omega) ?_
    refine iStFX (f := 0) ho4 rfl hkN (by decide) rfl fun w5 ho5 hch5 => ?_
    rw [cellsN_set0 N k hkN] at ho5
    obtain ⟨gS, gC⟩ := turn ho4 hS4 hC4 hch5
    exact ⟨⟨N.set k (_, N[k].2), by rw [List.length_set]; omega, by show OwK 2 _ _ _ _ (N.set k _).length _; rw [List.length_set]; exact ho5⟩, gS, gC⟩
  refine iEq (iCndP (fun _ => ?_) (fun _ => ?_))
  · refine iBs5D fun q w6 hq x6 hB => ?_
    have hS6 := hS3.later x6
    refine iCall ((ok_spec_l01Pick hc hS6 (l := [-1, 0, 1, 5, 6]) rfl hB (by have := hS3.lt; omega) (by decide) (by decide)).mono ?_)
    rintro _ w7 ⟨⟨y, rfl, _⟩, hS7, hch7⟩
    have ho7 := OwK.src (ho3.ext x6) hS6 hneN hch7
    have hC7 := ch_self (ch_ext hC3 x6) hch7
    refine iStFX (f := 1) ho7 rfl hkN (by decide) rfl fun w8 ho8 hch8 => ?_
    rw [cellsN_set1 N k hkN] at ho8
    obtain ⟨gS, gC⟩ := turn ho7 hS7 hC7 hch8
    exact ⟨⟨N.set k (N[k].1, _), by rw [List.length_set]; omega, by show OwK 2 _ _ _ _ (N.set k _).length _; rw [List.length_set]; exact ho8⟩, gS, gC⟩
  refine iEq (iCndP (fun _ => ?_) (fun _ => ?_))
  · refine iCall ((ok_spec_l01Next hc hS3 7).mono ?_)
    rintro _ w9 ⟨⟨y, rfl, _, _⟩, hS9, hch9⟩
    have ho9 := OwK.src ho3 hS3 hneN hch9
    have hC9 := ch_self hC3 hch9
    refine iBuild1 rfl ?_
    refine iBsA fun q w10 hq x10 hB => ?_
    have ho10 := ho9.ext x10
    have hC10 := ch_ext hC9 x10
    refine iAppK u_Simpl_Node i_Simpl_Node rfl (by omega) ho10 (node_one hq hB).sl (fun u hu => ?_) (by omega) (by omega) hC10.size fun v11 w11 ho11 hg11 _ => ?_
    · simp only [List.mem_cons, List.not_mem_nil, or_false] at hu
      rcases hu with rfl | rfl <;> rfl
    obtain ⟨gS, gC⟩ := turn ho10 (hS9.later x10) hC10 (grown_ch (S := fun c => v.ownBlock = some c) hg11 fun c hc => hc)
    refine ⟨⟨N ++ [((y : Int), 0)], by simp, ?_⟩, gS, gC⟩
    show OwK 2 _ _ _ _ (N ++ [_]).length _
    rw [List.length_append, cellsN_app]
    exact ho11
  have hpos : 0 < N.length := by omega
  refine iEq (iCndP (fun _ => ?_) (fun _ => ?_))
  · obtain ⟨g, cap, cur, rfl, hg, hcap, hR, hcur⟩ := ho3.rx hpos
    refine iHX (by omega) ?_
    refine ⟨⟨N.take k, by rw [List.length_take]; omega, ?_⟩, hS3, hC3⟩
    have hlt : (N.take k).length = k := by rw [List.length_take]; omega
    show OwK 2 _ _ _ _ (N.take k).length _
    rw [hlt]
    refine hR.own hg (by omega) ?_
    rw [← cellsN_take, ← hcur, List.take_take, Nat.min_eq_left (by omega)]
  refine iEq (iCndP (fun _ => ?_) (fun _ => ?_))
  · obtain ⟨g, cap, cur, rfl, hg, hcap, hR, hcur⟩ := ho3.rx hpos
    refine iHX (by omega) ?_
    refine iAdd (by omega) ?_
    have hsl := ho3.sl
    refine iTY (i := k + 1) hsl (by omega) (by omega) fun v' hv' => ?_
    rw [cellsN_drop] at hv'
    intro w12 x12
    refine iAppRx (i := k) (m := N.length - (k + 1)) u_Simpl_Node i_Simpl_Node (hR.ext x12) (hv'.ext x12) (cellsN_cell _) (by omega) fun w13 hR13 hch13 => ?_
    intro w14 x14
    have hR14 := hR13.ext x14
    have ho12 := ho3.ext x12
    obtain ⟨gS, gC⟩ := turn ho12 (hS3.later x12) (ch_ext hC3 x12) (w'' := w13) (hch13.mono fun c hc => by rw [hc]; rfl)
    have hld : (N.drop (k + 1)).length = N.length - (k + 1) := List.length_drop
    have hlt : (N.take k ++ N.drop (k + 1)).length = k + (N.length - (k + 1)) := by rw [List.length_append, List.length_take, hld]; omega
    refine ⟨⟨N.take k ++ N.drop (k + 1), by rw [hlt]; omega, ?_⟩, gS.later x14, ch_ext gC x14⟩
    show OwK 2 _ _ _ _ (N.take k ++ N.drop (k + 1)).length _
    rw [hlt]
    refine hR14.own hg (by omega) ?_
    have hcl := hR.2.1
    have hdl : (cellsN (N.drop (k + 1))).length = (N.length - (k + 1)) * 2 := by rw [cellsN_len, hld]
    rw [putX_take (by rw [hdl]; omega) (by rw [hdl]; omega), cellsN_app, ← cellsN_take, ← hcur, List.take_take, Nat.min_eq_left (by omega)]
  · exact ⟨⟨N, by omega, ho3⟩, hS3, hC3⟩
end Go.Proofs.YtmefbjdioaahdaaGreatDoor

/- Contracts: any drawn formulas; small ones; damaged texts. Conditions: none. -/
namespace Go.Proofs.YtmefbjdioaahdaaGreatDoor
open Go.Vc
theorem FmW.raw {lo : Nat} {w : World} {v : Value} {f : Fm} (h : FmW lo w v f) : RawW lo t_impl_Node w v (rawF f) := by
  show OwK 2 _ _ _ _ (rawF f).length (cellsN (rawF f))
  rw [rawF_len, cellsN_raw]; exact h
theorem ok_spec_l02Any {e : TypeId} (hneN : t_impl_Node ≠ e) {w0 : World} {vc : Value} {bs : List Nat} (hc : SlB w0 vc bs) {b k : Nat} (hk : 1 ≤ k ∧ k ≤ 6) (m : Bool) {n : Nat} (hn : 1 ≤ n ∧ n ≤ 100) {w : World} (hS : Vc.Src e w0 vc b w) :
    Drw Tryz.prog f_spec_l02Any #[.pointer (some ⟨b, 0, none⟩), .int .i64 (n : Int), .int .i64 (k : Int), .bool m] e w0 vc b w fun r w' => ∃ N : List RN, N.length ≤ 200 ∧ RawW w.heap.size t_impl_Node w' r N := by
  apply c_spec_l02Any; unfold S_spec_l02Any
  refine iCall ((ok_spec_l02Draw hneN hc hk m n hS hn.1 (by omega)).mono ?_)
  rintro v w1 ⟨⟨f, gf, sf, hf⟩, hS1, hch1⟩
  refine iCall ((ok_spec_l01Next hc hS1 40).mono ?_)
  rintro _ w2 ⟨⟨x, rfl, _, _⟩, hS2, hch2⟩
  have hf2 := OwK.src hf hS1 hneN hch2
  have hC2 := ch_self hch1 hch2
  refine iEq (iCndP (fun _ => ?_) (fun _ => ?_))
  · have hr := FmW.raw hf2
    have hpos : 1 ≤ f.size := by have := f.size_kids; omega
    refine iCall ((ok_spec_l02Bend hneN hc hS2 hr.sl ⟨by rw [rawF_len]; exact hpos, by rw [rawF_len]; omega⟩).mono ?_)
    rintro u w3 ⟨⟨M, hM, hu⟩, hS3, hch3⟩
    rw [rawF_len] at hM
    exact ⟨⟨M, by omega, OwK.mono hu hC2.size⟩, hS3, ch_self hC2 hch3⟩
  refine iEq (iCndP (fun _ => ?_) (fun _ => ?_))
  · refine iLp (fun s : Value × Nat => [s.1]) (fun s w' => Vc.Src e w0 vc b w' ∧ Ch (fun c => c = b) w w' ∧ s.2 ≤ 200 ∧ ∃ f : Fm, f.good ∧ f.size = s.2 ∧ FmW w.heap.size w' s.1 f) (fun s => 200 - s.2) (v, f.size) rfl ⟨hS2, hC2, by show f.size ≤ 200; omega, f, gf, rfl, hf2⟩ ?_
    rintro ⟨u, z⟩ w5 Kn ⟨hS5, hC5, hz, a, ga, sa, ha⟩ hKn
    have sa : a.size = z := sa
    have hz : z ≤ 200 := hz
    have ha : FmW w.heap.size w5 u a := ha
    intro _
    refine iJnX (fun xs w' => (∃ t, xs = [.bool t] ∧ (t = true → z ≤ 40)) ∧ Vc.Src e w0 vc b w' ∧ Ch (fun c => c = b) w w' ∧ FmW w.heap.size w' u a) (fun J hJ => ?_) ?_
    · refine iLenK ha.sl ?_
      refine iLe (iCndP (fun h => ?_) (fun h => ?_))
      · refine iCall ((ok_spec_l01Next hc hS5 60).mono ?_)
        rintro _ w8 ⟨⟨y, rfl, _, _⟩, hS8, hch8⟩
        refine iLt ?_
        exact hJ _ _ ⟨⟨_, rfl, fun _ => by omega⟩, hS8, ch_self hC5 hch8, OwK.src ha hS5 hneN hch8⟩
      · exact hJ _ _ ⟨⟨false, rfl, fun h => by cases h⟩, hS5, hC5, ha⟩
    rintro _ w7 ⟨⟨t, rfl, ht⟩, hS7, hC7, ha7⟩
    intro _
    cases t with
    | false => exact iCndF rfl ⟨⟨rawF a, by rw [rawF_len]; omega, FmW.raw ha7⟩, hS7, hC7⟩
    | true =>
      have ht := ht rfl
      refine iCndT rfl ?_
      refine iCall ((ok_spec_l01Next hc hS7 3).mono ?_)
      rintro _ w9 ⟨⟨q, rfl, hq, _⟩, hS9, hch9⟩
      have hq := hq (by omega)
      have hC9 := ch_self hC7 hch9
      have ha9 := OwK.src ha7 hS7 hneN hch9
      refine iAdd (by omega) ?_
      rw [show (2 : Int) + (q : Int) = ((2 + q : Nat) : Int) by omega]
      refine iCall ((ok_spec_l02Draw hneN hc hk m 6 hS9 (by omega) (by omega)).mono ?_)
      rintro u2 w10 ⟨⟨a2, ga2, sa2, ha2⟩, hS10, hch10⟩
      have hC10 := ch_self hC9 hch10
      have ha10 := OwK.src ha9 hS9 hneN hch10
      refine iCall ((ok_spec_l02Pair (c := binF q a a2) (binF_cells (by omega) a a2) (binF_size q a a2) ha10.sl ha2.sl (by rw [binF_size]; omega)).mono ?_)
      rintro r w11 ⟨x11, hr⟩
      have hsz := binF_size q a a2
      exact hKn (r, (binF q a a2).size) _ ⟨hS10.later x11, ch_ext hC10 x11, by show (binF q a a2).size ≤ 200; omega, binF q a a2, binF_good q ga ga2, rfl, OwK.mono hr hC10.size⟩ (by show 200 - (binF q a a2).size < 200 - z; omega)
  · exact ⟨⟨rawF f, by rw [rawF_len]; omega, FmW.raw hf2⟩, hS2, hC2⟩
end Go.Proofs.YtmefbjdioaahdaaGreatDoor

/- Plain facts: the properties of frames, and that isomorphic frames have the same. No program in sight. Conditions: none. -/
namespace Go.Vc
theorem wRow_get (c : List Nat) (k x : Nat) : ∀ j, j ≤ c.length → (wRow c k j).getD x 0 = if x < j ∧ (c.getD x 0).testBit k = true then c.getD x 0 ||| c.getD k 0 else c.getD x 0
  | 0, _ => by rw [if_neg (by omega)]; rfl
  | j + 1, hj => by
    have ih := fun x => wRow_get c k x j (by omega)
    rw [wRow_succ, wStep_get k _ j x (by rw [wRow_length]; omega)]
    have hj1 : (wRow c k j).getD j 0 = c.getD j 0 := by
      have := wRow_get c k j j (by omega)
      rwa [if_neg (by omega)] at this
    have hk1 : (wRow c k j).getD k 0 = c.getD k 0 := by
      have := wRow_get c k k j (by omega)
      rw [this]; split
      · exact Nat.or_self _
      · rfl
    rw [hj1, hk1, wRow_get c k x j (by omega)]
    by_cases hx : x = j
    · subst hx
      by_cases hb : (c.getD x 0).testBit k = true
      · rw [if_pos ⟨rfl, hb⟩, if_pos ⟨by omega, hb⟩]
      · rw [if_neg (fun h => hb h.2), if_neg (by omega), if_neg (fun h => hb h.2)]
    · rw [if_neg (fun h => hx h.1)]
      by_cases hb : x < j ∧ (c.getD x 0).testBit k = true
      · rw [if_pos hb, if_pos ⟨by omega, hb.2⟩]
      · rw [if_neg hb, if_neg (fun h => hb ⟨by omega, h.2⟩)]
inductive Pth (R : Nat → Nat → Prop) : Nat → Nat → Prop
  | one {x y : Nat} (h : R x y) : Pth R x y
  | more {x y z : Nat} (h : R x y) (t : Pth R y z) : Pth R x z
theorem Pth.trans {R : Nat → Nat → Prop} {x y z : Nat} (h : Pth R x y) (k : Pth R y z) : Pth R x z := by
  induction h with
  | one h => exact .more h k
  | more h _ ih => exact .more h (ih k)
theorem wAll_bit {a : List Nat} (ha : ∀ x y, (a.getD x 0).testBit y = true → x < a.length ∧ y < a.length) (x y : Nat) : ((wAll a a.length).getD x 0).testBit y = true ↔ Pth (fun x y => (a.getD x 0).testBit y = true) x y := by
  have hget : ∀ k x y, ((wAll a (k + 1)).getD x 0).testBit y = true ↔ ((wAll a k).getD x 0).testBit y = true ∨ (x < a.length ∧ ((wAll a k).getD x 0).testBit k = true ∧ ((wAll a k).getD k 0).testBit y = true) := by
    intro k x y
    rw [wAll_succ, wRow_get _ _ _ _ (Nat.le_refl _), wAll_length]
    split
    · rename_i h
      rw [Nat.testBit_or, Bool.or_eq_true]
      constructor
      · exact fun h' => h'.imp id fun h' => ⟨h.1, h.2, h'⟩
      · exact fun h' => h'.imp id fun h' => h'.2.2
    · rename_i h
      exact ⟨.inl, fun h' => h'.elim id fun h' => absurd ⟨h'.1, h'.2.1⟩ h⟩
  constructor
  · have : ∀ k x y, ((wAll a k).getD x 0).testBit y = true → Pth (fun x y => (a.getD x 0).testBit y = true) x y := by
      intro k
      induction k with
      | zero => exact fun x y h => .one h
      | succ k ih =>
        intro x y h
        rcases (hget k x y).1 h with h | ⟨_, h1, h2⟩
        · exact ih x y h
        · exact (ih x k h1).trans (ih k y h2)
    exact this _ x y
  · have hlt : ∀ k x y, ((wAll a k).getD x 0).testBit y = true → x < a.length := by
      intro k x y h
      rcases Nat.lt_or_ge x a.length with h' | h'
      · exact h'
      · rw [List.getD_eq_getElem?_getD, List.getElem?_eq_none (by rw [wAll_length]; exact h')] at h
        simp at h
    have key : ∀ k x i y, i < k → ((wAll a k).getD x 0).testBit i = true → ((wAll a k).getD i 0).testBit y = true → ((wAll a k).getD x 0).testBit y = true := by
      intro k
      induction k with
      | zero => intro x i y h; omega
      | succ k ih =>
        intro x i y hi h1 h2
        have hx := hlt _ _ _ h1
        have hxi := hlt _ _ _ h2
        rw [hget] at h1 h2 ⊢
        rcases Nat.lt_or_ge i k with hik | hik
        · rcases h1 with h1 | ⟨_, h1, h1'⟩ <;> rcases h2 with h2 | ⟨_, h2, h2'⟩
          · exact .inl (ih x i y hik h1 h2)
          · exact .inr ⟨hx, ih x i k hik h1 h2, h2'⟩
          · exact .inr ⟨hx, h1, ih k i y hik h1' h2⟩
          · exact .inr ⟨hx, h1, h2'⟩
        · obtain rfl : i = k := by omega
          have h1' : ((wAll a i).getD x 0).testBit i = true := h1.elim id fun h => h.2.1
          have h2' : ((wAll a i).getD i 0).testBit y = true := h2.elim id fun h => h.2.2
          exact .inr ⟨hx, h1', h2'⟩
    intro h
    induction h with
    | one h => exact wAll_sub a _ _ _ h
    | @more x y z h t ih => exact key _ x y z (ha x y h).2 (wAll_sub a _ _ _ h) ih
theorem wAll_lt63 {f : Fr} (hf : f.ok) (x : Nat) : (wAll f.a f.n).getD x 0 < 2 ^ 63 := by
  have h8 : (wAll f.a f.n).getD x 0 < 2 ^ 8 := by
    refine Nat.lt_pow_two_of_testBit _ fun i hi => ?_
    rw [Bool.eq_false_iff]
    intro h
    have := wAll_bit (a := f.a) (fun x y h => by have := fr_bit_lt hf h; have := hf.2.1; omega) x i
    rw [hf.2.1] at this
    have hp := this.1 h
    have hlt : ∀ x y, Pth (fun x y => (f.a.getD x 0).testBit y = true) x y → y < f.n := fun x y hp => by
      induction hp with
      | one h => exact (fr_bit_lt hf h).2
      | more _ _ ih => exact ih
    have := hlt _ _ hp
    have := hf.1
    omega
  omega
/-- What 'everyPair' answers. -/
def prB (f : Fr) (p : Nat → Nat → Nat → Bool) : Bool := (List.range f.n).all fun x => (mem (f.a.getD x 0)).all fun y => (mem (f.a.getD x 0)).all fun z => p x y z
/-- The properties, by their numbers. -/
def flagI (t : Nat) (f : Fr) : Bool :=
  match t with
  | 0 => (List.range f.n).all fun x => (f.a.getD x 0).testBit x
  | 1 => (List.range f.n).all fun x => decide (f.a.getD x 0 ≠ 0)
  | 2 => decide (wAll f.a f.n = f.a)
  | 3 => decide (inv f = f.a)
  | 4 => prB f fun _ y z => (f.a.getD y 0).testBit z
  | 5 => prB f fun _ y z => decide (f.a.getD y 0 &&& f.a.getD z 0 ≠ 0)
  | 6 => prB f fun _ y z => (f.a.getD y 0).testBit z || (f.a.getD z 0).testBit y
  | 7 => (List.range f.n).all fun x => !((wAll f.a f.n).getD x 0).testBit x
  | 8 => (List.range f.n).all fun x => decide (sdiff (f.a.getD x 0 &&& invC f.a f.n x) (2 ^ x) = 0)
  | 9 => prB f fun x y _ => decide (f.a.getD x 0 &&& invC f.a f.n y ≠ 0)
  | _ => (List.range f.n).all fun x => decide (popc (f.a.getD x 0) ≤ 1)
def Fr.R (f : Fr) (x y : Nat) : Prop := (f.a.getD x 0).testBit y = true
def flagP (n : Nat) (R : Nat → Nat → Prop) (t : Nat) : Prop :=
  match t with
  | 0 => ∀ x, x < n → R x x
  | 1 => ∀ x, x < n → ∃ y, y < n ∧ R x y
  | 2 => ∀ x y z, x < n → y < n → z < n → R x y → R y z → R x z
  | 3 => ∀ x y, x < n → y < n → R x y → R y x
  | 4 => ∀ x y z, x < n → y < n → z < n → R x y → R x z → R y z
  | 5 => ∀ x y z, x < n → y < n → z < n → R x y → R x z → ∃ u, u < n ∧ R y u ∧ R z u
  | 6 => ∀ x y z, x < n → y < n → z < n → R x y → R x z → R y z ∨ R z y
  | 7 => ∀ x, x < n → ¬ Pth R x x
  | 8 => ∀ x y, x < n → y < n → R x y → R y x → x = y
  | 9 => ∀ x y, x < n → y < n → R x y → ∃ u, u < n ∧ R x u ∧ R u y
  | _ => ∀ x y z, x < n → y < n → z < n → R x y → R x z → y = z
theorem ne_zero_iff {a : Nat} : a ≠ 0 ↔ ∃ i, a.testBit i = true := by
  constructor
  · intro h
    exact Classical.byContradiction fun hn => h (Nat.eq_of_testBit_eq fun i => by
      rw [Nat.zero_testBit, Bool.eq_false_iff]
      exact fun hi => hn ⟨i, hi⟩)
  · rintro ⟨i, h⟩ rfl
    rw [Nat.zero_testBit] at h; cases h
theorem popc_le_one {a : Nat} (ha : a < 2 ^ 63) : popc a ≤ 1 ↔ ∀ y z, a.testBit y = true → a.testBit z = true → y = z := by
  unfold popc
  constructor
  · intro h y z hy hz
    have hy' := (mem_mem ha).2 hy
    have hz' := (mem_mem ha).2 hz
    obtain ⟨i, hi, rfl⟩ := List.getElem_of_mem hy'
    obtain ⟨j, hj, rfl⟩ := List.getElem_of_mem hz'
    have : i = j := by omega
    subst this; rfl
  · intro h
    apply Nat.le_of_not_lt
    intro hl
    have hn : (mem a).Nodup := by
      unfold mem memK
      exact List.Nodup.sublist List.filter_sublist List.nodup_range
    have h0 : (mem a)[0] = (mem a)[1] := h _ _ ((mem_mem ha).1 (List.getElem_mem _)) ((mem_mem ha).1 (List.getElem_mem _))
    have := (List.nodup_iff_pairwise_ne.1 hn)
    rw [List.pairwise_iff_getElem] at this
    exact this 0 1 (by omega) hl (by omega) h0
theorem prB_iff {f : Fr} (hf : f.ok) {p : Nat → Nat → Nat → Bool} : prB f p = true ↔ ∀ x y z, x < f.n → y < f.n → z < f.n → f.R x y → f.R x z → p x y z = true := by
  unfold prB Fr.R
  simp only [List.all_eq_true, List.mem_range]
  constructor
  · intro h x y z hx _ _ hy hz
    have := fr_lt63 hf x
    exact h x hx y ((mem_mem (by omega)).2 hy) z ((mem_mem (by omega)).2 hz)
  · intro h x hx y hy z hz
    have := fr_lt63 hf x
    have hy := (mem_mem (by omega)).1 hy
    have hz := (mem_mem (by omega)).1 hz
    exact h x y z hx (fr_bit_lt hf hy).2 (fr_bit_lt hf hz).2 hy hz
theorem list_eq_iff {a b : List Nat} {n : Nat} (ha : a.length = n) (hb : b.length = n) : a = b ↔ ∀ x, x < n → ∀ y, (a.getD x 0).testBit y = (b.getD x 0).testBit y := by
  constructor
  · rintro rfl; intros; rfl
  · intro h
    apply List.ext_getElem
    · omega
    · intro i h1 h2
      apply Nat.eq_of_testBit_eq
      intro y
      have := h i (by omega) y
      simpa [List.getD_eq_getElem?_getD, h1, h2] using this
theorem flagI_iff {f : Fr} (hf : f.ok) (t : Nat) : flagI t f = true ↔ flagP f.n f.R t := by
  have hlt : ∀ {x y}, f.R x y → x < f.n ∧ y < f.n := fun h => fr_bit_lt hf h
  have hfl := hf.2.1
  have hw : ∀ x y, ((wAll f.a f.n).getD x 0).testBit y = true ↔ Pth f.R x y := fun x y => by
    have := wAll_bit (a := f.a) (fun x y h => by have := hlt h; omega) x y
    rw [hfl] at this; exact this
  have hinv : ∀ x y, (invC f.a f.n y).testBit x = true ↔ f.R x y := fun x y => by
    rw [invC_bit, Bool.and_eq_true, decide_eq_true_eq]
    exact ⟨fun h => h.2, fun h => ⟨(hlt h).1, h⟩⟩
  match t with
  | 0 => simp [flagI, flagP, Fr.R]
  | 1 =>
    simp only [flagI, flagP, List.all_eq_true, List.mem_range, decide_eq_true_eq]
    exact forall_congr' fun x => imp_congr_right fun hx => by
      rw [ne_zero_iff]
      exact ⟨fun ⟨y, h⟩ => ⟨y, (hlt h).2, h⟩, fun ⟨y, _, h⟩ => ⟨y, h⟩⟩
  | 2 =>
    simp only [flagI, flagP, decide_eq_true_eq]
    constructor
    · intro h x y z _ _ _ h1 h2
      have := (hw x z).2 (.more h1 (.one h2))
      rw [h] at this; exact this
    · intro h
      exact wAll_same (fun x y z h1 h2 => h x y z (hlt h1).1 (hlt h1).2 (hlt h2).2 h1 h2) _
  | 3 =>
    simp only [flagI, flagP, decide_eq_true_eq]
    have hil : (inv f).length = f.n := by simp [inv]
    rw [list_eq_iff hil hfl]
    constructor
    · intro h x y hx hy h1
      have := h y hy x
      rw [inv_get f y hy, Bool.eq_iff_iff, hinv] at this
      exact this.1 h1
    · intro h x hx y
      rw [inv_get f x hx, Bool.eq_iff_iff, hinv]
      exact ⟨fun h1 => h y x (hlt h1).1 (hlt h1).2 h1, fun h1 => h x y (hlt h1).1 (hlt h1).2 h1⟩
  | 4 => simp only [flagI, flagP]; exact prB_iff hf
  | 5 =>
    simp only [flagI, flagP]
    rw [prB_iff hf]
    refine forall_congr' fun x => forall_congr' fun y => forall_congr' fun z => imp_congr_right fun _ => imp_congr_right fun _ => imp_congr_right fun _ => imp_congr_right fun _ => imp_congr_right fun _ => ?_
    rw [decide_eq_true_eq, ne_zero_iff]
    constructor
    · rintro ⟨u, h⟩
      rw [Nat.testBit_and, Bool.and_eq_true] at h
      exact ⟨u, (hlt h.1).2, h⟩
    · rintro ⟨u, _, h1, h2⟩
      refine ⟨u, ?_⟩
      rw [Nat.testBit_and, Bool.and_eq_true]; exact ⟨h1, h2⟩
  | 6 =>
    simp only [flagI, flagP]
    rw [prB_iff hf]
    refine forall_congr' fun x => forall_congr' fun y => forall_congr' fun z => imp_congr_right fun _ => imp_congr_right fun _ => imp_congr_right fun _ => imp_congr_right fun _ => imp_congr_right fun _ => ?_
    rw [Bool.or_eq_true]; rfl
  | 7 =>
    simp only [flagI, flagP, List.all_eq_true, List.mem_range, Bool.not_eq_true']
    exact forall_congr' fun x => imp_congr_right fun hx => by rw [← hw, Bool.not_eq_true]
  | 8 =>
    simp only [flagI, flagP, List.all_eq_true, List.mem_range, decide_eq_true_eq]
    constructor
    · intro h x y hx _ h1 h2
      have := sdiff_eq_zero.1 (h x hx) y (by rw [Nat.testBit_and, Bool.and_eq_true]; exact ⟨h1, (hinv y x).2 h2⟩)
      rw [Nat.testBit_two_pow, decide_eq_true_eq] at this
      exact this
    · intro h x hx
      rw [sdiff_eq_zero]
      intro y hy
      rw [Nat.testBit_and, Bool.and_eq_true, hinv] at hy
      rw [Nat.testBit_two_pow, decide_eq_true_eq]
      exact h x y hx (hlt hy.1).2 hy.1 hy.2
  | 9 =>
    simp only [flagI, flagP]
    rw [prB_iff hf]
    constructor
    · intro h x y hx hy h1
      have := h x y y hx hy hy h1 h1
      rw [decide_eq_true_eq, ne_zero_iff] at this
      obtain ⟨u, h2⟩ := this
      rw [Nat.testBit_and, Bool.and_eq_true, hinv] at h2
      exact ⟨u, (hlt h2.1).2, h2⟩
    · intro h x y z hx hy _ h1 _
      obtain ⟨u, _, h2, h3⟩ := h x y hx hy h1
      rw [decide_eq_true_eq, ne_zero_iff]
      refine ⟨u, ?_⟩
      rw [Nat.testBit_and, Bool.and_eq_true, hinv]; exact ⟨h2, h3⟩
  | t + 10 =>
    simp only [flagI, flagP, List.all_eq_true, List.mem_range, decide_eq_true_eq]
    constructor
    · intro h x y z hx _ _ h1 h2
      have := fr_lt63 hf x
      exact (popc_le_one (by omega)).1 (h x hx) y z h1 h2
    · intro h x hx
      have := fr_lt63 hf x
      rw [popc_le_one (by omega)]
      exact fun y z h1 h2 => h x y z hx (hlt h1).2 (hlt h2).2 h1 h2
end Go.Vc

/- Contracts: the properties of frames, all of them, in the reference. Conditions: none. -/
namespace Go.Vc
def fl1M (t : Nat) (f : Fr) (x : Nat) : Bool :=
  match t with
  | 0 => (f.a.getD x 0).testBit x
  | 1 => decide (f.a.getD x 0 ≠ 0)
  | 2 => decide (sdiff (rowsK f.a (f.a.getD x 0) f.n) (f.a.getD x 0) = 0)
  | 7 => !((wAll f.a f.n).getD x 0).testBit x
  | 10 => decide (popc (f.a.getD x 0) ≤ 1)
  | _ => true
def fl2M (t : Nat) (f : Fr) (x y : Nat) : Bool :=
  match t with
  | 3 => (f.a.getD y 0).testBit x
  | 4 => decide (sdiff (f.a.getD x 0) (f.a.getD y 0) = 0)
  | 8 => !(!decide (x = y) && (f.a.getD y 0).testBit x)
  | 9 => decide (f.a.getD x 0 &&& invC f.a f.n y ≠ 0)
  | _ => true
def fl3M (t : Nat) (f : Fr) (y z : Nat) : Bool :=
  match t with
  | 5 => decide (f.a.getD y 0 &&& f.a.getD z 0 ≠ 0)
  | 6 => (f.a.getD y 0).testBit z || (f.a.getD z 0).testBit y
  | _ => true
theorem fl1M_oth {t : Nat} (f : Fr) (x : Nat) (h0 : t ≠ 0) (h1 : t ≠ 1) (h2 : t ≠ 2) (h7 : t ≠ 7) (h10 : t ≠ 10) : fl1M t f x = true := by unfold fl1M; split <;> first | rfl | contradiction
theorem fl2M_oth {t : Nat} (f : Fr) (x y : Nat) (h0 : t ≠ 3) (h1 : t ≠ 4) (h2 : t ≠ 8) (h7 : t ≠ 9) : fl2M t f x y = true := by unfold fl2M; split <;> first | rfl | contradiction
theorem fl3M_oth {t : Nat} (f : Fr) (y z : Nat) (h0 : t ≠ 5) (h1 : t ≠ 6) : fl3M t f y z = true := by unfold fl3M; split <;> first | rfl | contradiction
/-- What the reference looks at. -/
def FlS (t : Nat) (f : Fr) : Prop := ∀ x, x < f.n → fl1M t f x = true ∧ ∀ y, y < f.n → f.R x y → fl2M t f x y = true ∧ ∀ z, z < f.n → f.R x z → fl3M t f y z = true
theorem flS_iff {f : Fr} (hf : f.ok) {t : Nat} (ht : t ≤ 10) : FlS t f ↔ flagI t f = true := by
  rw [flagI_iff hf]
  have hlt : ∀ {x y}, f.R x y → x < f.n ∧ y < f.n := fun h => fr_bit_lt hf h
  have hfl := hf.2.1
  have hinv : ∀ x y, (invC f.a f.n y).testBit x = true ↔ f.R x y := fun x y => by
    rw [invC_bit, Bool.and_eq_true, decide_eq_true_eq]
    exact ⟨fun h => h.2, fun h => ⟨(hlt h).1, h⟩⟩
  have hw : ∀ x y, ((wAll f.a f.n).getD x 0).testBit y = true ↔ Pth f.R x y := fun x y => by
    have := wAll_bit (a := f.a) (fun x y h => by have := hlt h; omega) x y
    rw [hfl] at this; exact this
  unfold FlS
  match t, ht with
  | 0, _ => exact ⟨fun h x hx => (h x hx).1, fun h x hx => ⟨h x hx, fun y hy hxy => ⟨rfl, fun z hz hxz => rfl⟩⟩⟩
  | 1, _ =>
    refine ⟨fun h x hx => ?_, fun h x hx => ⟨?_, fun y hy hxy => ⟨rfl, fun z hz hxz => rfl⟩⟩⟩
    · obtain ⟨y, hy⟩ := ne_zero_iff.1 (of_decide_eq_true (h x hx).1)
      exact ⟨y, (hlt hy).2, hy⟩
    · obtain ⟨y, _, hy⟩ := h x hx
      exact decide_eq_true (ne_zero_iff.2 ⟨y, hy⟩)
  | 2, _ =>
    refine ⟨fun h x y z hx hy hz hxy hyz => ?_, fun h x hx => ⟨decide_eq_true (sdiff_eq_zero.2 fun z hz => ?_), fun y hy hxy => ⟨rfl, fun z hz hxz => rfl⟩⟩⟩
    · exact sdiff_eq_zero.1 (of_decide_eq_true (h x hx).1) z ((rowsK_bit _ _ _ _).2 ⟨y, hy, hxy, hyz⟩)
    · obtain ⟨y, hy, hxy, hyz⟩ := (rowsK_bit _ _ _ _).1 hz
      exact h x y z hx hy (hlt hyz).2 hxy hyz
  | 3, _ => exact ⟨fun h x y hx hy hxy => ((h x hx).2 y hy hxy).1, fun h x hx => ⟨rfl, fun y hy hxy => ⟨h x y hx hy hxy, fun z hz hxz => rfl⟩⟩⟩
  | 4, _ =>
    refine ⟨fun h x y z hx hy hz hxy hxz => ?_, fun h x hx => ⟨rfl, fun y hy hxy => ⟨decide_eq_true (sdiff_eq_zero.2 fun z hz => ?_), fun z hz hxz => rfl⟩⟩⟩
    · exact sdiff_eq_zero.1 (of_decide_eq_true ((h x hx).2 y hy hxy).1) z hxz
    · exact h x y z hx hy (hlt hz).2 hxy hz
  | 5, _ =>
    refine ⟨fun h x y z hx hy hz hxy hxz => ?_, fun h x hx => ⟨rfl, fun y hy hxy => ⟨rfl, fun z hz hxz => ?_⟩⟩⟩
    · obtain ⟨u, hu⟩ := ne_zero_iff.1 (of_decide_eq_true (((h x hx).2 y hy hxy).2 z hz hxz))
      rw [Nat.testBit_and, Bool.and_eq_true] at hu
      exact ⟨u, (hlt hu.1).2, hu⟩
    · obtain ⟨u, _, h1, h2⟩ := h x y z hx hy hz hxy hxz
      exact decide_eq_true (ne_zero_iff.2 ⟨u, by rw [Nat.testBit_and, Bool.and_eq_true]; exact ⟨h1, h2⟩⟩)
  | 6, _ =>
    refine ⟨fun h x y z hx hy hz hxy hxz => ?_, fun h x hx => ⟨rfl, fun y hy hxy => ⟨rfl, fun z hz hxz => ?_⟩⟩⟩
    · have := ((h x hx).2 y hy hxy).2 z hz hxz
      rwa [fl3M, Bool.or_eq_true] at this
    · rw [fl3M, Bool.or_eq_true]; exact h x y z hx hy hz hxy hxz
  | 7, _ =>
    refine ⟨fun h x hx hp => ?_, fun h x hx => ⟨?_, fun y hy hxy => ⟨rfl, fun z hz hxz => rfl⟩⟩⟩
    · have := (h x hx).1
      rw [fl1M, (hw x x).2 hp] at this
      cases this
    · rw [fl1M, Bool.not_eq_true', Bool.eq_false_iff]
      exact fun e => h x hx ((hw x x).1 e)
  | 8, _ =>
    refine ⟨fun h x y hx hy hxy hyx => ?_, fun h x hx => ⟨rfl, fun y hy hxy => ⟨?_, fun z hz hxz => rfl⟩⟩⟩
    · have := ((h x hx).2 y hy hxy).1
      rw [fl2M, show (f.a.getD y 0).testBit x = true from hyx, Bool.and_true, Bool.not_not, decide_eq_true_eq] at this
      exact this
    · cases hb : (f.a.getD y 0).testBit x
      · rw [fl2M, hb, Bool.and_false]; rfl
      · rw [fl2M, hb, Bool.and_true, Bool.not_not, decide_eq_true_eq]; exact h x y hx hy hxy hb
  | 9, _ =>
    refine ⟨fun h x y hx hy hxy => ?_, fun h x hx => ⟨rfl, fun y hy hxy => ⟨?_, fun z hz hxz => rfl⟩⟩⟩
    · obtain ⟨u, hu⟩ := ne_zero_iff.1 (of_decide_eq_true ((h x hx).2 y hy hxy).1)
      rw [Nat.testBit_and, Bool.and_eq_true, hinv] at hu
      exact ⟨u, (hlt hu.1).2, hu⟩
    · obtain ⟨u, _, h1, h2⟩ := h x y hx hy hxy
      exact decide_eq_true (ne_zero_iff.2 ⟨u, by rw [Nat.testBit_and, Bool.and_eq_true, hinv]; exact ⟨h1, h2⟩⟩)
  | 10, _ =>
    refine ⟨fun h x y z hx hy hz hxy hxz => ?_, fun h x hx => ⟨decide_eq_true ((popc_le_one (Nat.lt_of_lt_of_le (fr_lt63 hf x) (by decide))).2 fun y z hy hz => ?_), fun y hy hxy => ⟨rfl, fun z hz hxz => rfl⟩⟩⟩
    · exact (popc_le_one (Nat.lt_of_lt_of_le (fr_lt63 hf x) (by decide))).1 (of_decide_eq_true (h x hx).1) y z hxy hxz
    · exact h x y z hx (hlt hy).2 (hlt hz).2 hy hz
/-- The reference's rows of the inverse while it fills them. -/
def invS (a : List Nat) (n i j : Nat) : List Nat := (List.range n).map fun y => if y < i then invC a n y else if y = i then invC a j y else 0
theorem invS_len (a : List Nat) (n i j : Nat) : (invS a n i j).length = n := by simp [invS]
theorem invS_zero (a : List Nat) (n : Nat) : invS a n 0 0 = List.replicate n 0 := by
  apply List.ext_getElem
  · simp [invS]
  · intro i h1 h2
    simp only [invS, List.getElem_map, List.getElem_range, List.getElem_replicate]
    rw [if_neg (by omega)]
    split <;> rfl
theorem invS_next (a : List Nat) (n i : Nat) : invS a n i n = invS a n (i + 1) 0 := by
  refine List.map_congr_left fun y _ => ?_
  by_cases h1 : y < i
  · rw [if_pos h1, if_pos (by omega)]
  · rw [if_neg h1]
    by_cases h2 : y = i
    · rw [if_pos h2, if_pos (by omega)]
    · rw [if_neg h2, if_neg (by omega)]
      split <;> rfl
theorem invS_get (a : List Nat) (n i j : Nat) (hi : i < n) : (invS a n i j).getD i 0 = invC a j i := by simp [invS, hi]
theorem invS_step (a : List Nat) (n i j : Nat) (hi : i < n) : invS a n i (j + 1) = if (a.getD j 0).testBit i then (invS a n i j).set i (invC a j i ||| 2 ^ j) else invS a n i j := by
  by_cases hb : (a.getD j 0).testBit i = true
  · rw [if_pos hb]
    apply List.ext_getElem
    · simp [invS]
    · intro y h1 h2
      rw [List.getElem_set]
      simp only [invS, List.getElem_map, List.getElem_range]
      by_cases hy : y < i
      · rw [if_pos hy, if_neg (show ¬ i = y by omega), if_pos hy]
      · rw [if_neg hy]
        by_cases hy2 : y = i
        · subst hy2
          rw [if_pos rfl, if_pos rfl, invC_succ, if_pos hb]
        · rw [if_neg hy2, if_neg (show ¬ i = y by omega), if_neg hy, if_neg hy2]
  · rw [if_neg hb]
    refine List.map_congr_left fun y _ => ?_
    by_cases hy : y < i
    · rw [if_pos hy, if_pos hy]
    · rw [if_neg hy, if_neg hy]
      by_cases hy2 : y = i
      · subst hy2
        rw [if_pos rfl, if_pos rfl, invC_succ, if_neg hb]
      · rw [if_neg hy2, if_neg hy2]
theorem invS_full (f : Fr) : invS f.a f.n f.n 0 = inv f := by
  refine List.map_congr_left fun y hy => ?_
  rw [if_pos (List.mem_range.1 hy)]
end Go.Vc
namespace Go.Proofs.YtmefbjdioaahdaaGreatDoor
open Go.Vc
theorem ok_spec_l01Inverse {f : Fr} (hf : f.ok) {v : Value} {w : World} (hs : SlN w v f.a) : Cal Tryz.prog f_spec_l01Inverse #[v] w fun u w' => Ext w w' ∧ Ow w.heap.size t_i64 w' u (ints (nats (inv f))) := by
  apply c_spec_l01Inverse; unfold S_spec_l01Inverse
  have hf8 := hf.1
  have hfl := hf.2.1
  refine iLenN hs ?_
  rw [hfl]
  refine iMk (by omega) (by omega) rfl fun b4 w1 hb4 x4 hB4 => ?_
  have ez : ints (nats (invS f.a f.n 0 0)) = List.replicate f.n (.int .i64 0) := by rw [invS_zero]; simp [ints, nats]
  rw [← ez] at hB4
  have hB4 : Ow w.heap.size t_i64 w1 (.slice (some ⟨b4, 0, none⟩) f.n f.n) (ints (nats (invS f.a f.n 0 0))) := Ow.ofBlk hB4 (by omega) (by rw [ints_length, nats_length, invS_len]) (by omega)
  generalize hvv : (Value.slice (some ⟨b4, 0, none⟩) f.n f.n) = u at *
  refine iLp (fun i : Nat => [.int .i64 (i : Int)]) (fun i w' => i ≤ f.n ∧ Ext w w' ∧ Ow w.heap.size t_i64 w' u (ints (nats (invS f.a f.n i 0)))) (fun i => f.n - i) 0 rfl ⟨Nat.zero_le _, x4, hB4⟩ ?_
  rintro i w3 Kn ⟨hi, h3, ho3⟩ hKn
  intro _
  simp only [gx]
  refine iLenN (hs.ext h3) ?_
  rw [hfl]
  refine iLt (iCndP (fun h4 => ?_) (fun h4 => ?_))
  · have hi1 : i < f.n := by omega
    refine iLp (fun j : Nat => [.int .i64 (j : Int)]) (fun j w' => j ≤ f.n ∧ Ext w w' ∧ Ow w.heap.size t_i64 w' u (ints (nats (invS f.a f.n i j)))) (fun j => f.n - j) 0 rfl ⟨Nat.zero_le _, h3, ho3⟩ ?_
    rintro j w5 Kn5 ⟨hj, h5, ho5⟩ hKn5
    intro _
    simp only [gx]
    have hs5 := hs.ext h5
    refine iLenN hs5 ?_
    rw [hfl]
    refine iLt (iCndP (fun h6 => ?_) (fun h6 => ?_))
    · have hj1 : j < f.n := by omega
      have hgj := fr_lt63 hf j
      refine iIaNN hs5 (by omega) fun p hp => ?_
      refine iLd hp ?_
      refine iRet (ok_spec_l01Bit _ i (by omega) (by omega) w5) fun w6 h7 => ?_
      have ho6 := ho5.ext h7
      have hs6 : SlN w6 u (invS f.a f.n i j) := ho6.sl
      have hstep := invS_step f.a f.n i j hi1
      refine iCnd (fun hb => ?_) (fun hb => ?_)
      · rw [if_pos hb] at hstep
        refine iIaNN hs6 (by rw [invS_len]; exact hi1) fun p hp => ?_
        refine iLd hp ?_
        rw [invS_get _ _ _ _ hi1]
        refine iRetQ (fun w' h' => ok_spec_l01One j (by omega) w') ?_
        have hi8 : invC f.a j i < 2 ^ 8 := Nat.lt_of_lt_of_le (invC_lt f.a j i) (Nat.pow_le_pow_right (by omega) (by omega))
        have hj8 : 2 ^ j < 2 ^ 8 := Nat.pow_lt_pow_right (by omega) (by omega)
        refine iBOr (by omega) (by omega) ?_
        have hil : (ints (nats (invS f.a f.n i j))).length = f.n := by rw [ints_length, nats_length, invS_len]
        refine iIaOwE ho6 (by omega) fun bu hbu hwr => ?_
        intro w7 h8
        have ho7 := ho6.ext h8
        obtain ⟨hc1, hc2, hc3⟩ := hwr w7 _ rfl ho7
        rw [List.getElem?_eq_getElem (by omega)] at hc1
        refine iSt hc1 hc2 rfl ?_
        have ho8 := hc3 (.int .i64 ((invC f.a j i ||| 2 ^ j : Nat) : Int))
        rw [← ints_nats_set, ← hstep] at ho8
        have hu := Upd.setCell w7 bu i (.int .i64 ((invC f.a j i ||| 2 ^ j : Nat) : Int))
        intro w9 h9
        refine iAdd (by omega) ?_
        exact hKn5 (j + 1) _ ⟨by omega, ((h5.trans (h7.trans h8)).upd hu (ho6.blk bu hbu).1).trans h9, ho8.ext h9⟩ (by omega)
      · rw [hb, if_neg (by simp)] at hstep
        refine iAdd (by omega) ?_
        exact hKn5 (j + 1) _ ⟨by omega, h5.trans h7, by rw [hstep]; exact ho6⟩ (by omega)
    · obtain rfl : j = f.n := by omega
      refine iAdd (by omega) ?_
      exact hKn (i + 1) _ ⟨by omega, h5, by rw [← invS_next]; exact ho5⟩ (by omega)
  · obtain rfl : i = f.n := by omega
    rw [invS_full] at ho3
    exact ⟨h3, ho3⟩
theorem wRow_rel {n : Nat} {a : List Nat} (h : RelOk n a) (hn : n ≤ 62) (k : Nat) : ∀ j, RelOk n (wRow a k j)
  | 0 => h
  | j + 1 => by
    have ih := wRow_rel h hn k j
    rw [wRow_succ]
    unfold wStep
    split
    · exact ih.set _ _ (Nat.or_lt_two_pow (ih.get hn _) (ih.get hn _))
    · exact ih
theorem wAll_rel {n : Nat} {a : List Nat} (h : RelOk n a) (hn : n ≤ 62) : ∀ k, RelOk n (wAll a k)
  | 0 => h
  | k + 1 => by rw [wAll_succ]; exact wRow_rel (wAll_rel h hn k) hn _ _
theorem ok_spec_l01ClosureW {v : Value} {w : World} {n : Nat} {a : List Nat} (hn : n ≤ 30) (ha : RelOk n a) (hs : SlN w v a) : Cal Tryz.prog f_spec_l01Closure #[v] w fun u w' => Ext w w' ∧ Ow w.heap.size t_i64 w' u (ints (nats (wAll a n))) := by
  apply c_spec_l01Closure; unfold S_spec_l01Closure
  have h62 : 2 ^ n ≤ 2 ^ 62 := Nat.pow_le_pow_right (by omega) (by omega)
  refine iCall ((ok_spec_l01Own hs (by rw [nats_length, ha.1]; omega)).mono ?_)
  rintro u w1 ⟨h1, ho⟩
  refine iLp (fun k : Nat => [.int .i64 (k : Int)]) (fun k w' => k ≤ n ∧ Ext w w' ∧ Ow w.heap.size t_i64 w' u (ints (nats (wAll a k)))) (fun k => n - k) 0 rfl ⟨Nat.zero_le _, h1, ho⟩ ?_
  rintro k w3 Kn ⟨hk, h3, ho3⟩ hKn
  have hl := wAll_rel ha (by omega) k
  have hs3 : SlN w3 u (wAll a k) := ho3.sl
  have hll := hl.1
  intro _
  simp only [gx]
  refine iLenN hs3 ?_
  rw [hll]
  refine iLt (iCndP (fun h4 => ?_) (fun h4 => ?_))
  · have hk1 : k < n := by omega
    refine iLp (fun i : Nat => [.int .i64 (i : Int)]) (fun i w' => i ≤ n ∧ Ext w w' ∧ Ow w.heap.size t_i64 w' u (ints (nats (wRow (wAll a k) k i)))) (fun i => n - i) 0 rfl ⟨Nat.zero_le _, h3, ho3⟩ ?_
    rintro i w5 Kn5 ⟨hi, h5, ho5⟩ hKn5
    have hl5 := wRow_rel hl (by omega) k i
    have hsu := wRow_succ (wAll a k) k i
    generalize hwr : wRow (wAll a k) k i = l5 at *
    have hs5 : SlN w5 u l5 := ho5.sl
    have hll5 := hl5.1
    intro _
    simp only [gx]
    refine iLenN hs5 ?_
    rw [hll5]
    refine iLt (iCndP (fun h6 => ?_) (fun h6 => ?_))
    · have hi1 : i < n := by omega
      have hgi := hl5.get (by omega) i
      have hgk := hl5.get (by omega) k
      refine iIaNN hs5 (by omega) fun p hp => ?_
      refine iLd hp ?_
      refine iRet (ok_spec_l01Bit _ k (by omega) (by omega) w5) fun w6 h7 => ?_
      have ho6 := ho5.ext h7
      have hs6 : SlN w6 u l5 := ho6.sl
      unfold wStep at hsu
      refine iCnd (fun hb => ?_) (fun hb => ?_)
      · rw [if_pos hb] at hsu
        refine iIaNN hs6 (by omega) fun p hp => ?_
        refine iLd hp ?_
        refine iIaNN hs6 (by omega) fun p hp => ?_
        refine iLd hp ?_
        refine iBOr (by omega) (by omega) ?_
        have hil : (ints (nats l5)).length = n := by rw [ints_length, nats_length, hll5]
        refine iIaOwE ho6 (by omega) fun bu hbu hwr => ?_
        intro w7 h8
        have ho7 := ho6.ext h8
        obtain ⟨hc1, hc2, hc3⟩ := hwr w7 _ rfl ho7
        rw [List.getElem?_eq_getElem (by omega)] at hc1
        refine iSt hc1 hc2 rfl ?_
        have ho8 := hc3 (.int .i64 ((l5.getD i 0 ||| l5.getD k 0 : Nat) : Int))
        rw [← ints_nats_set, ← hsu] at ho8
        have hu := Upd.setCell w7 bu i (.int .i64 ((l5.getD i 0 ||| l5.getD k 0 : Nat) : Int))
        intro w9 h9
        refine iAdd (by omega) ?_
        exact hKn5 (i + 1) _ ⟨by omega, ((h5.trans (h7.trans h8)).upd hu (ho6.blk bu hbu).1).trans h9, ho8.ext h9⟩ (by omega)
      · rw [hb, if_neg (by simp)] at hsu
        refine iAdd (by omega) ?_
        exact hKn5 (i + 1) _ ⟨by omega, h5.trans h7, by rw [hsu]; exact ho6⟩ (by omega)
    · obtain rfl : i = n := by omega
      refine iAdd (by omega) ?_
      refine hKn (k + 1) _ ⟨by omega, h5, ?_⟩ (by omega)
      rw [wAll_succ, hll, hwr]; exact ho5
  · obtain rfl : k = n := by omega
    exact ⟨h3, ho3⟩
theorem ok_spec_l05FlagA {f : Fr} (hf : f.ok) {v : Value} {w : World} (hs : SlN w v f.a) (t : Nat) (ht : t ≤ 10) : Ret Tryz.prog f_spec_l05Flag #[.agg #[.int .i64 (f.n : Int), v], .int .i64 (t : Int)] w (.bool (flagI t f)) := by
  apply c_spec_l05Flag; unfold S_spec_l05Flag
  have hf8 := hf.1
  have hfl := hf.2.1
  have hX := Ext.refl w
  refine iNew fun b w1 hb h hB => ?_
  have hX := hX.trans h
  have hs := hs.ext h
  ((with_reducible refine iFa ?_); refine iLdB (by assumption) (by first | rfl | simp) ?_; (with_reducible refine iFa ?_); refine iLdB (by assumption) (by first | rfl | simp) ?_)
  intro w2 h
  have hX := hX.trans h
  have hs := hs.ext h
  have hlow : ∀ {x}, f.a.getD x 0 < 2 ^ 8 := fun {x} => (by
    have := RelOk.get (n := f.n) ⟨hfl, hf.2.2⟩ (by omega) x
    exact Nat.lt_of_lt_of_le this (Nat.pow_le_pow_right (by omega) hf8))
  have no : ∀ w', ¬ FlS t f → Ext w w' → (.bool false : Value) = .bool (flagI t f) ∧ Ext w w' := fun w' hn hw => ⟨by rw [(Bool.eq_false_iff).2 fun e => hn ((flS_iff hf ht).2 e)], hw⟩
  have hno1 : ∀ x w', x < f.n → fl1M t f x = false → Ext w w' → (.bool false : Value) = .bool (flagI t f) ∧ Ext w w' := fun x w' hx h1 => no w' fun hF => by rw [(hF x hx).1] at h1; cases h1
  have hno2 : ∀ x y w', x < f.n → y < f.n → (f.a.getD x 0).testBit y = true → fl2M t f x y = false → Ext w w' → (.bool false : Value) = .bool (flagI t f) ∧ Ext w w' := fun x y w' hx hy hxy h1 => no w' fun hF => by rw [((hF x hx).2 y hy hxy).1] at h1; cases h1
  have hno3 : ∀ x y z w', x < f.n → y < f.n → z < f.n → (f.a.getD x 0).testBit y = true → (f.a.getD x 0).testBit z = true → fl3M t f y z = false → Ext w w' → (.bool false : Value) = .bool (flagI t f) ∧ Ext w w' := fun x y z w' hx hy hz hxy hxz h1 => no w' fun hF => by rw [((hF x hx).2 y hy hxy).2 z hz hxz] at h1; cases h1
  refine iLp (fun k : Nat => [.int .i64 (k : Int)]) (fun k w' => k ≤ f.n ∧ Ext w2 w' ∧ ∀ x, x < k → fl1M t f x = true ∧ ∀ y, y < f.n → f.R x y → fl2M t f x y = true ∧ ∀ z, z < f.n → f.R x z → fl3M t f y z = true) (fun k => f.n - k) 0 rfl ⟨Nat.zero_le _, Ext.refl _, fun x hx => by omega⟩ ?_
  rintro k w4 Kn ⟨hk, h4, hdone⟩ hKn
  have hs4 := hs.ext h4
  (intro _; (try simp only [gx]); (with_reducible refine iLt ?_))
  refine iCndP (fun h3 => ?_) (fun h3 => ?_)
  · have hk1 : k < f.n := by omega
    have hgk := fr_lt63 hf k
    ((with_reducible refine iEq ?_))
    refine iJnE (fl1M t f k = true) w4 (fun J5 hJ5 => ?_) (fun w6 h6 hf1 => ?_)
    · refine iCndP (fun ht0 => ?_) (fun ht0 => ?_)
      · ((with_reducible refine iIaNN (by assumption) ?_ (fun pa_ hpa_ => ?_)); omega; (with_reducible refine iLd (by assumption) ?_))
        refine iRet (ok_spec_l01Bit _ k (by omega) (by omega) w4) fun w7 h7 => ?_
        ((with_reducible refine iNot ?_))
        have e1 : fl1M t f k = (f.a.getD k 0).testBit k := by rw [show t = 0 by omega]; rfl
        cases hbit : (f.a.getD k 0).testBit k
        · exact iCndT rfl (hno1 k _ hk1 (by rw [e1, hbit]) (hX.trans (h4.trans h7)))
        · exact iCndF rfl (hJ5 w7 h7 (by rw [e1, hbit]))
      · ((with_reducible refine iEq ?_))
        refine iJnE (fl1M t f k = true) w4 (fun J8 hJ8 => ?_) (fun w9 h9 hc _ => hJ5 w9 h9 hc)
        refine iCndP (fun ht1 => ?_) (fun ht1 => ?_)
        · ((with_reducible refine iIaNN (by assumption) ?_ (fun pa_ hpa_ => ?_)); omega; (with_reducible refine iLd (by assumption) ?_; refine iEq ?_))
          have e1 : fl1M t f k = decide (f.a.getD k 0 ≠ 0) := by rw [show t = 1 by omega]; rfl
          refine iCndP (fun h5 => ?_) (fun h5 => ?_)
          · exact hno1 k _ hk1 (by rw [e1]; exact decide_eq_false (by omega)) (hX.trans h4)
          · exact hJ8 w4 (Ext.refl _) (by rw [e1]; exact decide_eq_true (by omega))
        ((with_reducible refine iEq ?_))
        refine iJnE (fl1M t f k = true) w4 (fun J10 hJ10 => ?_) (fun w9 h9 hc _ => hJ8 w9 h9 hc)
        refine iCndP (fun ht2 => ?_) (fun ht2 => ?_)
        · ((with_reducible refine iIaNN (by assumption) ?_ (fun pa_ hpa_ => ?_)); omega; (with_reducible refine iLd (by assumption) ?_))
          refine iRetQ (fun w' h' => ok_spec_l01Image (hs4.ext h') (show f.n ≤ 62 by omega) hf.2.2 (by omega) _ (by omega)) ?_
          ((with_reducible refine iIaNN (by assumption) ?_ (fun pa_ hpa_ => ?_)); omega; (with_reducible refine iLd (by assumption) ?_))
          have hr := rowsK_lt hf.2.2 (f.a.getD k 0) f.a.length
          have hr2 : rowsK f.a (f.a.getD k 0) f.a.length < 2 ^ 8 := Nat.lt_of_lt_of_le hr (Nat.pow_le_pow_right (by omega) hf8)
          refine iBAndNot (by omega) (by omega) ?_
          ((with_reducible refine iNe ?_))
          intro w12 h12
          have e1 : fl1M t f k = decide (sdiff (rowsK f.a (f.a.getD k 0) f.a.length) (f.a.getD k 0) = 0) := by rw [show t = 2 by omega, hfl]; rfl
          refine iCndP (fun h5 => ?_) (fun h5 => ?_)
          · exact hno1 k _ hk1 (by rw [e1]; exact decide_eq_false (by omega)) (hX.trans (h4.trans h12))
          · exact hJ10 w12 h12 (by rw [e1]; exact decide_eq_true (by omega))
        · ((with_reducible refine iEq ?_))
          refine iJnE (fl1M t f k = true) w4 (fun J13 hJ13 => ?_) (fun w9 h9 hc _ => hJ10 w9 h9 hc)
          refine iCndP (fun ht7 => ?_) (fun ht7 => ?_)
          · refine iCall ((ok_spec_l01ClosureW (by omega) ⟨hfl, hf.2.2⟩ hs4).mono ?_)
            rintro vc w15 ⟨x15, hoc⟩
            have hwl : k < (wAll f.a f.n).length := by rw [wAll_length]; omega
            have hwk := wAll_lt63 hf k
            refine iIaNN (show SlN w15 vc (wAll f.a f.n) from hoc.sl) hwl fun p hp => ?_
            refine iLd hp ?_
            refine iRet (ok_spec_l01Bit _ k (by omega) (by omega) w15) fun w16 x16 => ?_
            have e1 : fl1M t f k = !((wAll f.a f.n).getD k 0).testBit k := by rw [show t = 7 by omega]; rfl
            refine iCnd (fun hb => ?_) (fun hb => ?_)
            · exact hno1 k _ hk1 (by rw [e1, hb]; rfl) (hX.trans (h4.trans (x15.trans x16)))
            · exact hJ13 w16 (x15.trans x16) (by rw [e1, hb]; rfl)
          ((with_reducible refine iEq ?_))
          refine iJnE (fl1M t f k = true) w4 (fun J17 hJ17 => ?_) (fun w9 h9 hc _ => hJ13 w9 h9 hc)
          refine iCndP (fun ht10 => ?_) (fun ht10 => ?_)
          · ((with_reducible refine iIaNN (by assumption) ?_ (fun pa_ hpa_ => ?_)); omega; (with_reducible refine iLd (by assumption) ?_))
            refine iRet (ok_spec_l01Bits _ (by omega) w4) fun w19 x19 => ?_
            ((with_reducible refine iLt ?_))
            have e1 : fl1M t f k = decide (popc (f.a.getD k 0) ≤ 1) := by rw [show t = 10 by omega]; rfl
            refine iCndP (fun h5 => ?_) (fun h5 => ?_)
            · exact hno1 k _ hk1 (by rw [e1]; exact decide_eq_false (by omega)) (hX.trans (h4.trans x19))
            · exact hJ17 w19 x19 (by rw [e1]; exact decide_eq_true (by omega))
          · exact hJ17 w4 (Ext.refl _) (fl1M_oth f k (by omega) (by omega) (by omega) (by omega) (by omega))
    · intro _
      refine iLp (fun j : Nat => [.int .i64 (j : Int)]) (fun j w' => j ≤ f.n ∧ Ext w4 w' ∧ ∀ y, y < j → f.R k y → fl2M t f k y = true ∧ ∀ z, z < f.n → f.R k z → fl3M t f y z = true) (fun j => f.n - j) 0 rfl ⟨Nat.zero_le _, h6, fun x hx => by omega⟩ ?_
      rintro j w21 Kn2 ⟨hj, h21, hdone2⟩ hKn2
      have hs21 := hs4.ext h21
      (intro _; (try simp only [gx]); (with_reducible refine iLt ?_))
      refine iCndP (fun h7 => ?_) (fun h7 => ?_)
      · have hj1 : j < f.n := by omega
        have hgj := fr_lt63 hf j
        have hnext : ∀ w', Ext w4 w' → (f.R k j → fl2M t f k j = true ∧ ∀ z, z < f.n → f.R k z → fl3M t f j z = true) → Kn2 [.int .i64 ((j + 1 : Nat) : Int)] w' := fun w' hw hfl => hKn2 (j + 1) _ ⟨by omega, hw, fun y hy => by
          by_cases hyj : y < j
          · exact hdone2 y hyj
          · obtain rfl : y = j := by omega
            exact hfl⟩ (by omega)
        ((with_reducible refine iIaNN (by assumption) ?_ (fun pa_ hpa_ => ?_)); omega; (with_reducible refine iLd (by assumption) ?_))
        refine iRet (ok_spec_l01Bit _ j (by omega) (by omega) w21) fun w22 h22 => ?_
        have hs22 := hs21.ext h22
        ((with_reducible refine iNot ?_))
        cases hbit : (f.a.getD k 0).testBit j
        · refine iCndT rfl ?_
          (refine iAdd (by omega) ?_)
          exact hnext _ (h21.trans h22) fun h => by unfold Fr.R at h; rw [hbit] at h; cases h
        · refine iCndF rfl ?_
          ((with_reducible refine iEq ?_))
          refine iJnE (fl2M t f k j = true) w22 (fun J23 hJ23 => ?_) (fun w24 h24 hf2 => ?_)
          · refine iCndP (fun ht3 => ?_) (fun ht3 => ?_)
            · ((with_reducible refine iIaNN (by assumption) ?_ (fun pa_ hpa_ => ?_)); omega; (with_reducible refine iLd (by assumption) ?_))
              refine iRet (ok_spec_l01Bit _ k (by omega) (by omega) w22) fun w25 h25 => ?_
              ((with_reducible refine iNot ?_))
              have e1 : fl2M t f k j = (f.a.getD j 0).testBit k := by rw [show t = 3 by omega]; rfl
              cases hbj : (f.a.getD j 0).testBit k
              · exact iCndT rfl (hno2 k j _ hk1 hj1 hbit (by rw [e1, hbj]) (hX.trans (h4.trans (h21.trans (h22.trans h25)))))
              · exact iCndF rfl (hJ23 w25 h25 (by rw [e1, hbj]))
            ((with_reducible refine iEq ?_))
            refine iJnE (fl2M t f k j = true) w22 (fun J26 hJ26 => ?_) (fun w9 h9 hc _ => hJ23 w9 h9 hc)
            refine iCndP (fun ht4 => ?_) (fun ht4 => ?_)
            · ((with_reducible refine iIaNN (by assumption) ?_ (fun pa_ hpa_ => ?_)); omega; (with_reducible refine iLd (by assumption) ?_); (with_reducible refine iIaNN (by assumption) ?_ (fun pa_ hpa_ => ?_)); omega; (with_reducible refine iLd (by assumption) ?_))
              refine iBAndNot (by omega) (by omega) ?_
              ((with_reducible refine iNe ?_))
              intro w28 h28
              have e1 : fl2M t f k j = decide (sdiff (f.a.getD k 0) (f.a.getD j 0) = 0) := by rw [show t = 4 by omega]; rfl
              refine iCndP (fun h5 => ?_) (fun h5 => ?_)
              · exact hno2 k j _ hk1 hj1 hbit (by rw [e1]; exact decide_eq_false (by omega)) (hX.trans (h4.trans (h21.trans (h22.trans h28))))
              · exact hJ26 w28 h28 (by rw [e1]; exact decide_eq_true (by omega))
            ((with_reducible refine iEq ?_))
            refine iJnE (fl2M t f k j = true) w22 (fun J29 hJ29 => ?_) (fun w9 h9 hc _ => hJ26 w9 h9 hc)
            refine iCndP (fun ht8 => ?_) (fun ht8 => ?_)
            · have e1 : fl2M t f k j = !(!decide (k = j) && (f.a.getD j 0).testBit k) := by rw [show t = 8 by omega]; rfl
              refine iJnB (!decide (k = j) && (f.a.getD j 0).testBit k) w22 (fun J31 hJ31 => ?_) (fun w32 h32 => ?_)
              · ((with_reducible refine iNe ?_))
                refine iCndP (fun h8 => ?_) (fun h8 => ?_)
                · ((with_reducible refine iIaNN (by assumption) ?_ (fun pa_ hpa_ => ?_)); omega; (with_reducible refine iLd (by assumption) ?_))
                  refine iRet (ok_spec_l01Bit _ k (by omega) (by omega) w22) fun w33 h33 => ?_
                  have := hJ31 w33 h33
                  rwa [decide_eq_false (show ¬ k = j by omega)] at this
                · have := hJ31 w22 (Ext.refl _)
                  rwa [decide_eq_true (show k = j by omega)] at this
              · (intro _; (try simp only [gx]))
                cases hq : (!decide (k = j) && (f.a.getD j 0).testBit k)
                · exact iCndF rfl (hJ29 w32 h32 (by rw [e1, hq]; rfl))
                · exact iCndT rfl (hno2 k j _ hk1 hj1 hbit (by rw [e1, hq]; rfl) (hX.trans (h4.trans (h21.trans (h22.trans h32)))))
            · ((with_reducible refine iEq ?_))
              refine iJnE (fl2M t f k j = true) w22 (fun J34 hJ34 => ?_) (fun w9 h9 hc _ => hJ29 w9 h9 hc)
              refine iCndP (fun ht9 => ?_) (fun ht9 => ?_)
              · ((with_reducible refine iIaNN (by assumption) ?_ (fun pa_ hpa_ => ?_)); omega; (with_reducible refine iLd (by assumption) ?_))
                intro w36 h36
                refine iCall ((ok_spec_l01Inverse hf (hs22.ext h36)).mono ?_)
                rintro vi w37 ⟨x37, hoi⟩
                refine ⟨x37, ?_⟩
                have hil : (inv f).length = f.n := by simp [inv]
                refine iIaNN (show SlN w37 vi (inv f) from hoi.sl) (by omega) fun p hp => ?_
                refine iLd hp ?_
                rw [inv_get f j hj1]
                have hi8 : invC f.a f.n j < 2 ^ 8 := Nat.lt_of_lt_of_le (invC_lt f.a f.n j) (Nat.pow_le_pow_right (by omega) hf8)
                refine iBAnd (by omega) (by omega) ?_
                refine iEq ?_
                intro w38 h38
                have e1 : fl2M t f k j = decide (f.a.getD k 0 &&& invC f.a f.n j ≠ 0) := by rw [show t = 9 by omega]; rfl
                have hx38 := (h36.trans x37).trans h38
                refine iCndP (fun h5 => ?_) (fun h5 => ?_)
                · exact hno2 k j _ hk1 hj1 hbit (by rw [e1]; exact decide_eq_false (by omega)) (hX.trans (h4.trans (h21.trans (h22.trans hx38))))
                · exact hJ34 w38 hx38 (by rw [e1]; exact decide_eq_true (by omega))
              exact hJ34 w22 (Ext.refl _) (fl2M_oth f k j (by omega) (by omega) (by omega) (by omega))
          · intro _
            refine iLp (fun z : Nat => [.int .i64 (z : Int)]) (fun z w' => z ≤ f.n ∧ Ext w4 w' ∧ ∀ y, y < z → f.R k y → fl3M t f j y = true) (fun z => f.n - z) 0 rfl ⟨Nat.zero_le _, h21.trans (h22.trans h24), fun x hx => by omega⟩ ?_
            rintro z w40 Kn3 ⟨hz, h40, hdone3⟩ hKn3
            have hs40 := hs4.ext h40
            (intro _; (try simp only [gx]); (with_reducible refine iLt ?_))
            refine iCndP (fun h8 => ?_) (fun h8 => ?_)
            · have hz1 : z < f.n := by omega
              have hgz := fr_lt63 hf z
              have hnext3 : ∀ w', Ext w4 w' → (f.R k z → fl3M t f j z = true) → Kn3 [.int .i64 ((z + 1 : Nat) : Int)] w' := fun w' hw hfl => hKn3 (z + 1) _ ⟨by omega, hw, fun y hy => by
                by_cases hyj : y < z
                · exact hdone3 y hyj
                · obtain rfl : y = z := by omega
                  exact hfl⟩ (by omega)
              ((with_reducible refine iIaNN (by assumption) ?_ (fun pa_ hpa_ => ?_)); omega; (with_reducible refine iLd (by assumption) ?_))
              refine iRet (ok_spec_l01Bit _ z (by omega) (by omega) w40) fun w41 h41 => ?_
              have hs41 := hs40.ext h41
              ((with_reducible refine iNot ?_))
              cases hbz : (f.a.getD k 0).testBit z
              · refine iCndT rfl ?_
                (refine iAdd (by omega) ?_)
                exact hnext3 _ (h40.trans h41) fun h => by unfold Fr.R at h; rw [hbz] at h; cases h
              · refine iCndF rfl ?_
                refine iJnB (!fl3M t f j z) w41 (fun J42 hJ42 => ?_) (fun w43 h43 => ?_)
                · ((with_reducible refine iEq ?_))
                  refine iCndP (fun ht5 => ?_) (fun ht5 => ?_)
                  · ((with_reducible refine iIaNN (by assumption) ?_ (fun pa_ hpa_ => ?_)); omega; (with_reducible refine iLd (by assumption) ?_); (with_reducible refine iIaNN (by assumption) ?_ (fun pa_ hpa_ => ?_)); omega; (with_reducible refine iLd (by assumption) ?_))
                    refine iBAnd (by omega) (by omega) ?_
                    ((with_reducible refine iEq ?_))
                    have e1 : fl3M t f j z = decide (f.a.getD j 0 &&& f.a.getD z 0 ≠ 0) := by rw [show t = 5 by omega]; rfl
                    refine iCndP (fun h5 => ?_) (fun h5 => ?_)
                    · intro w44 h44
                      have := hJ42 w44 h44
                      rwa [e1, decide_eq_false (by omega)] at this
                    · have := hJ42
                      rw [e1, decide_eq_true (show f.a.getD j 0 &&& f.a.getD z 0 ≠ 0 by omega)] at this
                      refine iEq (iCndP (fun h => absurd h (by omega)) (fun _ => ?_))
                      exact fun w50 h50 => this w50 h50
                  ((with_reducible refine iEq ?_))
                  refine iCndP (fun ht6 => ?_) (fun ht6 => ?_)
                  · have e1 : fl3M t f j z = ((f.a.getD j 0).testBit z || (f.a.getD z 0).testBit j) := by rw [show t = 6 by omega]; rfl
                    ((with_reducible refine iIaNN (by assumption) ?_ (fun pa_ hpa_ => ?_)); omega; (with_reducible refine iLd (by assumption) ?_))
                    refine iRetQ (fun w' h' => ok_spec_l01Bit _ z (by omega) (by omega) w') ?_
                    ((with_reducible refine iNot ?_))
                    cases hjz : (f.a.getD j 0).testBit z
                    · refine iCndT rfl ?_
                      ((with_reducible refine iIaNN (by assumption) ?_ (fun pa_ hpa_ => ?_)); omega; (with_reducible refine iLd (by assumption) ?_))
                      refine iRetQ (fun w' h' => ok_spec_l01Bit _ j (by omega) (by omega) w') ?_
                      ((with_reducible refine iNot ?_))
                      intro w45 h45
                      have := hJ42 w45 h45
                      rwa [e1, hjz, Bool.false_or] at this
                    · refine iCndF rfl ?_
                      intro w46 h46
                      have := hJ42 w46 h46
                      rwa [e1, hjz, Bool.true_or] at this
                  · intro w50 h50
                    have := hJ42 w50 h50
                    rwa [fl3M_oth f j z (by omega) (by omega)] at this
                · (intro _; (try simp only [gx]))
                  refine iCnd (fun hq => ?_) (fun hq => ?_)
                  · exact hno3 k j z _ hk1 hj1 hz1 hbit hbz (by simpa using hq) (hX.trans (h4.trans (h40.trans (h41.trans h43))))
                  · (refine iAdd (by omega) ?_)
                    exact hnext3 _ (h40.trans (h41.trans h43)) fun _ => by simpa using hq
            · (refine iAdd (by omega) ?_)
              exact hnext _ h40 fun _ => ⟨hf2, fun y hy => hdone3 y (by omega)⟩
      · (refine iAdd (by omega) ?_)
        refine hKn (k + 1) _ ⟨by omega, h4.trans h21, fun x hx => ?_⟩ (by omega)
        by_cases hxk : x < k
        · exact hdone x hxk
        · obtain rfl : x = k := by omega
          exact ⟨hf1, fun y hy => hdone2 y (by omega)⟩
  · refine ⟨?_, hX.trans h4⟩
    rw [(flS_iff hf ht).1 fun x hx => hdone x (by omega)]
end Go.Proofs.YtmefbjdioaahdaaGreatDoor

/- Plain facts on lists in order without doubles: insertion, equal neighbours dropped, one list for each set; posets in order. No program in sight. Conditions: none. -/
namespace Go.Vc
section
variable {α : Type} {lt : α → α → Bool}
/-- A total order that tells all apart. -/
structure OrdA (lt : α → α → Bool) : Prop where
  o : Ordr lt
  anti : ∀ {a b}, lt a b = false → lt b a = false → a = b
theorem OrdA.tot (O : OrdA lt) (a b : α) : lt a b = true ∨ a = b ∨ lt b a = true := by
  cases h1 : lt a b
  · cases h2 : lt b a
    · exact .inr (.inl (O.anti h1 h2))
    · exact .inr (.inr rfl)
  · exact .inl rfl
theorem OrdA.trans (O : OrdA lt) {a b c : α} (h : lt a b = true) (k : lt b c = true) : lt a c = true := O.o.lt_le h (O.o.asym k)
abbrev IncA (lt : α → α → Bool) (L : List α) : Prop := L.Pairwise fun x y => lt x y = true
/-- Two lists in order with the same members are the same. -/
theorem incA_ext (O : OrdA lt) : ∀ {A B : List α}, IncA lt A → IncA lt B → (∀ x, x ∈ A ↔ x ∈ B) → A = B
  | [], [], _, _, _ => rfl
  | [], y :: B, _, _, h => by have := (h y).2 List.mem_cons_self; cases this
  | x :: A, [], _, _, h => by have := (h x).1 List.mem_cons_self; cases this
  | x :: A, y :: B, hA, hB, h => by
    rw [IncA, List.pairwise_cons] at hA hB
    have irr : ∀ z, lt z z = false := O.o.rfl
    have e : x = y := by
      rcases List.mem_cons.1 ((h x).1 List.mem_cons_self) with e | e
      · exact e
      · rcases List.mem_cons.1 ((h y).2 List.mem_cons_self) with e' | e'
        · exact e'.symm
        · have h1 := hB.1 x e
          have h2 := hA.1 y e'
          rw [O.o.asym h1] at h2; cases h2
    subst e
    rw [incA_ext O hA.2 hB.2 fun z => ?_]
    have hz := h z
    simp only [List.mem_cons] at hz
    constructor
    · intro hm
      rcases hz.1 (.inr hm) with e | e
      · subst e; have := hA.1 z hm; rw [irr] at this; cases this
      · exact e
    · intro hm
      rcases hz.2 (.inr hm) with e | e
      · subst e; have := hB.1 z hm; rw [irr] at this; cases this
      · exact e
/-- Laid into a list in order, if it is not there. -/
def insA (lt : α → α → Bool) (t : α) : List α → List α
  | [] => [t]
  | x :: l => if lt x t then x :: insA lt t l else if lt t x then t :: x :: l else x :: l
theorem mem_insA (O : OrdA lt) {t x : α} : ∀ {l : List α}, x ∈ insA lt t l ↔ x = t ∨ x ∈ l
  | [] => by simp [insA]
  | y :: l => by
    unfold insA
    split
    · rw [List.mem_cons, mem_insA O, List.mem_cons]
      constructor
      · rintro (h | h | h)
        · exact .inr (.inl h)
        · exact .inl h
        · exact .inr (.inr h)
      · rintro (h | h | h)
        · exact .inr (.inl h)
        · exact .inl h
        · exact .inr (.inr h)
    · rename_i h1
      split
      · simp
      · rename_i h2
        have := O.anti (by simpa using h1) (by simpa using h2)
        subst this; simp
theorem inc_insA (O : OrdA lt) {t : α} : ∀ {l : List α}, IncA lt l → IncA lt (insA lt t l)
  | [], _ => by simp [insA, IncA]
  | y :: l, h => by
    have h' := List.pairwise_cons.1 h
    unfold insA
    split
    · rename_i hy
      refine List.pairwise_cons.2 ⟨fun z hz => ?_, inc_insA O h'.2⟩
      rcases (mem_insA O).1 hz with e | e
      · subst e; exact hy
      · exact h'.1 z e
    · split
      · rename_i hty
        refine List.pairwise_cons.2 ⟨fun z hz => ?_, h⟩
        rcases List.mem_cons.1 hz with e | e
        · subst e; exact hty
        · exact O.trans hty (h'.1 z e)
      · exact h
/-- The set of a list's members, in order. -/
def setA (lt : α → α → Bool) (l : List α) : List α := l.foldl (fun a x => insA lt x a) []
theorem inc_setA (O : OrdA lt) (l : List α) : IncA lt (setA lt l) := by
  unfold setA
  suffices h : ∀ (l a : List α), IncA lt a → IncA lt (l.foldl (fun a x => insA lt x a) a) from h l [] List.Pairwise.nil
  intro l
  induction l with
  | nil => intro a h; exact h
  | cons x l ih => intro a h; exact ih _ (inc_insA O h)
theorem mem_setA (O : OrdA lt) {x : α} {l : List α} : x ∈ setA lt l ↔ x ∈ l := by
  unfold setA
  suffices h : ∀ (l a : List α), x ∈ l.foldl (fun a x => insA lt x a) a ↔ x ∈ l ∨ x ∈ a by simpa using h l []
  intro l
  induction l with
  | nil => intro a; simp
  | cons y l ih =>
    intro a
    rw [List.foldl_cons, ih, mem_insA O, List.mem_cons]
    constructor
    · rintro (h | h | h)
      · exact .inl (.inr h)
      · exact .inl (.inl h)
      · exact .inr h
    · rintro ((h | h) | h)
      · exact .inr (.inl h)
      · exact .inl h
      · exact .inr (.inr h)
variable {β : Type} {key : β → α}
/-- Those whose key is not the key of the one before. -/
def ddA (lt : α → α → Bool) (key : β → α) : List β → List β
  | [] => []
  | x :: l => go x l [x]
 where go (x : β) : List β → List β → List β
  | [], acc => acc
  | y :: l, acc => if lt (key x) (key y) || lt (key y) (key x) then go y l (acc ++ [y]) else go y l acc
theorem ddA_go_snoc (x : β) : ∀ (l acc : List β) (y : β), ddA.go lt key x (l ++ [y]) acc = if lt (key ((x :: l).getLastD x)) (key y) || lt (key y) (key ((x :: l).getLastD x)) then ddA.go lt key x l acc ++ [y] else ddA.go lt key x l acc
  | [], acc, y => by simp [ddA.go]
  | z :: l, acc, y => by
    simp only [List.cons_append, ddA.go]
    have e : (x :: z :: l).getLastD x = (z :: l).getLastD z := by simp [List.getLastD]
    rw [e]
    split <;> exact ddA_go_snoc z l _ y
theorem ddA_take [Inhabited β] {l : List β} {i : Nat} (h0 : 1 ≤ i) (hi : i < l.length) : ddA lt key (l.take (i + 1)) = if lt (key (gt l (i - 1))) (key (gt l i)) || lt (key (gt l i)) (key (gt l (i - 1))) then ddA lt key (l.take i) ++ [gt l i] else ddA lt key (l.take i) := by
  match l, hi with
  | x :: l, hi =>
    obtain ⟨k, rfl⟩ : ∃ k, i = k + 1 := ⟨i - 1, by omega⟩
    have hk : k < l.length := by simpa using hi
    have e2 : (x :: l).take (k + 1 + 1) = x :: (l.take k ++ [gt l k]) := by rw [List.take_succ_cons, List.take_succ_eq_append_getElem hk, gt_eq hk]
    have e3 : gt (x :: l) (k + 1) = gt l k := rfl
    have e4 : (x :: l.take k).getLastD x = gt (x :: l) (k + 1 - 1) := by
      cases k with
      | zero => simp [gt]
      | succ k =>
        rw [List.take_succ_eq_append_getElem (by omega), ← List.cons_append, List.getLastD_concat]
        show l[k] = gt l k
        rw [gt_eq (by omega)]
    rw [e2, List.take_succ_cons]
    show ddA.go lt key x (l.take k ++ [gt l k]) [x] = _
    rw [ddA_go_snoc, e4, e3]
    rfl
theorem ddA_one [Inhabited β] {l : List β} (h : 0 < l.length) : ddA lt key (l.take 1) = [gt l 0] := by
  cases l with
  | nil => simp at h
  | cons x l => rfl
theorem ddA_spec [Inhabited β] (O : OrdA lt) {l : List β} (hs : l.Pairwise fun x y => lt (key y) (key x) = false) : ∀ k, k ≤ l.length → List.Sublist (ddA lt key (l.take k)) (l.take k) ∧ IncA lt ((ddA lt key (l.take k)).map key) ∧ (∀ a, a ∈ (l.take k).map key → a ∈ (ddA lt key (l.take k)).map key) := by
  intro k
  induction k with
  | zero => intro _; simp [ddA]
  | succ k ih =>
    intro hk
    obtain ⟨h1, h2, h3⟩ := ih (by omega)
    rcases Nat.eq_zero_or_pos k with h0 | h0
    · subst h0
      rw [ddA_one (by omega)]
      cases l with
      | nil => simp at hk
      | cons x l => simp [gt, IncA]
    have et : l.take (k + 1) = l.take k ++ [gt l k] := by rw [List.take_succ_eq_append_getElem hk, gt_eq hk]
    have hpre : gt l (k - 1) ∈ l.take k := by
      rw [gt_eq (by omega), List.mem_take_iff_getElem]
      exact ⟨k - 1, by omega, rfl⟩
    rw [ddA_take h0 hk]
    have hall : ∀ b ∈ l.take k, lt (key (gt l k)) (key b) = false := by
      have := List.Pairwise.sublist (List.take_sublist (k + 1) l) hs
      rw [et, List.pairwise_append] at this
      exact fun b hb => this.2.2 b hb _ (by simp)
    split
    · rename_i hlt
      rw [hall _ hpre, Bool.or_false] at hlt
      refine ⟨?_, ?_, ?_⟩
      · rw [et]; exact h1.append (List.Sublist.refl _)
      · rw [List.map_append]
        refine List.pairwise_append.2 ⟨h2, by simp, fun a ha b hb => ?_⟩
        simp only [List.map_cons, List.map_nil, List.mem_singleton] at hb
        subst hb
        obtain ⟨c, hc, rfl⟩ := List.mem_map.1 ha
        have hc' := h1.subset hc
        -- c stands at or before k - 1
        have hle : lt (key (gt l (k - 1))) (key c) = false := by
          rw [List.mem_take_iff_getElem] at hc'
          obtain ⟨i, hi, rfl⟩ := hc'
          rcases Nat.lt_or_ge i (k - 1) with h | h
          · rw [gt_eq (by omega)]
            exact (List.pairwise_iff_getElem.1 hs) i (k - 1) (by omega) (by omega) h
          · have : i = k - 1 := by omega
            subst this
            rw [gt_eq (by omega)]
            exact O.o.rfl _
        exact O.o.le_lt hle hlt
      · intro a ha
        rw [et, List.map_append, List.mem_append] at ha
        rw [List.map_append, List.mem_append]
        rcases ha with ha | ha
        · exact .inl (h3 a ha)
        · exact .inr ha
    · rename_i hlt
      rw [Bool.or_eq_true, not_or] at hlt
      have e : key (gt l (k - 1)) = key (gt l k) := O.anti (by simpa using hlt.1) (by simpa using hlt.2)
      refine ⟨?_, h2, ?_⟩
      · rw [et]; exact h1.trans (List.sublist_append_left _ _)
      · intro a ha
        rw [et, List.map_append, List.mem_append] at ha
        rcases ha with ha | ha
        · exact h3 a ha
        · simp only [List.map_cons, List.map_nil, List.mem_singleton] at ha
          subst ha
          rw [← e]
          exact h3 _ (List.mem_map_of_mem hpre)
theorem ddA_set [Inhabited β] (O : OrdA lt) {l : List β} {m : List α} (hs : l.Pairwise fun x y => lt (key y) (key x) = false) (hp : ∀ a, a ∈ l.map key ↔ a ∈ m) : (ddA lt key l).map key = setA lt m := by
  obtain ⟨h1, h2, h3⟩ := ddA_spec O hs l.length (Nat.le_refl _)
  rw [List.take_length] at h1 h2 h3
  refine incA_ext O h2 (inc_setA O m) fun x => ?_
  rw [mem_setA O, ← hp]
  exact ⟨fun h => (h1.map key).subset h, h3 x⟩
end
end Go.Vc

/- Plain facts: least forms of relations. No program in sight. Conditions: none. -/
namespace Go.Vc
section
variable {a : List Nat}
end
section
variable {f g : Fr}
end
end Go.Vc

/- Contracts: lists of posets, and their codes. Conditions: none. -/
namespace Go.Vc
section
variable {w : World}
end
end Go.Vc
namespace Go.Proofs.YtmefbjdioaahdaaGreatDoor
open Go.Vc
end Go.Proofs.YtmefbjdioaahdaaGreatDoor

/- Contracts: the first p-morphism onto a poset in the reference (l21Onto, FindImage). Conditions: none. -/
namespace Go.Vc
end Go.Vc
namespace Go.Proofs.YtmefbjdioaahdaaGreatDoor
open Go.Vc
end Go.Proofs.YtmefbjdioaahdaaGreatDoor

/- Contracts: the part of a poset, cones, FindPart's search, and what tells one poset from another. Conditions: none. -/
namespace Go.Vc
end Go.Vc
namespace Go.Proofs.YtmefbjdioaahdaaGreatDoor
open Go.Vc
end Go.Proofs.YtmefbjdioaahdaaGreatDoor

/- Contracts: FindPart, TellingElements, IsUnder, AreAlike in the program and the reference. Conditions: none. -/
namespace Go.Proofs.YtmefbjdioaahdaaGreatDoor
open Go.Vc
end Go.Proofs.YtmefbjdioaahdaaGreatDoor

/- Contracts: the laws' helpers on lists of posets. Conditions: none. -/
namespace Go.Vc
section
variable {P : Program} {w : World}
end
end Go.Vc
namespace Go.Proofs.YtmefbjdioaahdaaGreatDoor
open Go.Vc
end Go.Proofs.YtmefbjdioaahdaaGreatDoor

/- Contracts: UnderRelation and GreatestLogics in the program and the reference. Conditions: none. -/
namespace Go.Vc
end Go.Vc
namespace Go.Proofs.YtmefbjdioaahdaaGreatDoor
open Go.Vc
end Go.Proofs.YtmefbjdioaahdaaGreatDoor

/- Contracts: sums of posets, SumAlike. Conditions: none. -/
namespace Go.Vc
section
variable {f g : Fr}
end
end Go.Vc
namespace Go.Proofs.YtmefbjdioaahdaaGreatDoor
open Go.Vc
end Go.Proofs.YtmefbjdioaahdaaGreatDoor

/- Plain facts on the parts and the core of a poset. No program in sight. Conditions: none. -/
namespace Go.Proofs.YtmefbjdioaahdaaGreatDoor
open Go.Vc
end Go.Proofs.YtmefbjdioaahdaaGreatDoor

/- Plain facts: to be under another poset, said of maps between elements; it is a preorder; a list has greatest logics. No program in sight. Conditions: none. -/
namespace Go.Vc
end Go.Vc

/- Plain facts: a poset is an image of a part of another one; cores. No program in sight. Conditions: none. -/
namespace Go.Proofs.YtmefbjdioaahdaaGreatDoor
open Go.Vc
end Go.Proofs.YtmefbjdioaahdaaGreatDoor

/- Plain facts on Jankov's formulas: the least elements of a set, disjunctions of variables, premises and conclusion. No program in sight. Conditions: none. -/
namespace Go.Vc
end Go.Vc

/- Contracts: slices.IndexFunc, DeleteFunc and Index on []int64; masks for Jankov's formulas. Conditions: none. -/
namespace Go.Vc
section
universe u
variable {α : Type u} {enc : α → Value}
end
end Go.Vc
namespace Go.Proofs.YtmefbjdioaahdaaGreatDoor
open Go.Vc
end Go.Proofs.YtmefbjdioaahdaaGreatDoor

/- Contracts: where all that is seen lies in a set; roots; the least elements of a set. Conditions: none. -/
namespace Go.Vc
/-- Where all that is seen lies in m. -/
def boxK (a : List Nat) (m k : Nat) : Nat := setOf ((List.range k).filter fun i => decide (sdiff (a.getD i 0) m = 0))
theorem boxK_succ (a : List Nat) (m k : Nat) : boxK a m (k + 1) = if sdiff (a.getD k 0) m = 0 then boxK a m k ||| 2 ^ k else boxK a m k := by
  unfold boxK
  rw [List.range_succ, List.filter_append]
  by_cases h : sdiff (a.getD k 0) m = 0
  · rw [if_pos h, ← setOf_snoc, List.filter_cons, if_pos (decide_eq_true h), List.filter_nil]
  · rw [if_neg h, List.filter_cons, if_neg (by rw [decide_eq_true_eq]; exact h), List.filter_nil, List.append_nil]
theorem boxK_lt (a : List Nat) (m k : Nat) : boxK a m k < 2 ^ k := setOf_lt fun _ hy => List.mem_range.1 (List.mem_filter.1 hy).1
theorem and_sub {a m : Nat} : a &&& m = a ↔ sdiff a m = 0 := by
  rw [sdiff_eq_zero]
  constructor
  · intro h i hi
    rw [← h, Nat.testBit_and, Bool.and_eq_true] at hi
    exact hi.2
  · intro h
    apply Nat.eq_of_testBit_eq
    intro i
    rw [Nat.testBit_and]
    cases ha : a.testBit i
    · rfl
    · rw [h i ha]; rfl
end Go.Vc
namespace Go.Proofs.YtmefbjdioaahdaaGreatDoor
open Go.Vc
theorem ok_impl_box {v : Value} {w : World} {a : List Nat} (hs : SlN w v a) (hl : a.length ≤ 8) (ha : ∀ x ∈ a, x < 2 ^ 8) (m : Nat) (hm : m < 2 ^ 63) : Ret Tryz.prog f_impl_box #[v, .int .i64 (m : Int)] w (.int .i64 ((boxK a m a.length : Nat) : Int)) := by
  apply c_impl_box; unfold S_impl_box
  ((with_reducible refine iLenN (by assumption) ?_))
  refine iLp (fun k : Nat => [.int .i64 ((boxK a m k : Nat) : Int), .int .i64 (k : Int)]) (fun k w' => k ≤ a.length ∧ Ext w w') (fun k => a.length - k) 0 rfl ⟨Nat.zero_le _, Ext.refl w⟩ ?_
  rintro k w2 Kn ⟨hk, h2⟩ hKn
  have hs2 := hs.ext h2
  (intro _; (try simp only [gx]); (with_reducible refine iLt ?_))
  refine iCndP (fun h3 => ?_) (fun h3 => ?_)
  · have hk1 : k < a.length := by omega
    have hak : a.getD k 0 < 2 ^ 8 := getD_lt ha hk1
    have hb8 : boxK a m k < 2 ^ 8 := Nat.lt_of_lt_of_le (boxK_lt a m k) (Nat.pow_le_pow_right (by omega) (by omega))
    have hbs := boxK_succ a m k
    ((with_reducible refine iIaNN (by assumption) ?_ (fun pa_ hpa_ => ?_)); omega; (with_reducible refine iLd (by assumption) ?_))
    refine iRet (ok_impl_within _ m (by omega) hm w2) fun w3 h4 => ?_
    refine iCndP (fun h5 => ?_) (fun h5 => ?_)
    · rw [if_pos h5] at hbs
      have h2k : 2 ^ k < 2 ^ 63 := Nat.pow_lt_pow_right (by omega) (by omega)
      refine iShlOne (by omega) ?_
      refine iBOr (by omega) h2k ?_
      rw [← hbs]
      (refine iAdd (by omega) ?_)
      exact hKn (k + 1) _ ⟨by omega, h2.trans h4⟩ (by omega)
    · rw [if_neg h5] at hbs
      rw [← hbs]
      (refine iAdd (by omega) ?_)
      exact hKn (k + 1) _ ⟨by omega, h2.trans h4⟩ (by omega)
  · obtain rfl : k = a.length := by omega
    exact ⟨rfl, h2⟩
theorem ok_spec_l01Box {v : Value} {w : World} {a : List Nat} (hs : SlN w v a) (hl : a.length ≤ 8) (ha : ∀ x ∈ a, x < 2 ^ 8) (m : Nat) (hm : m < 2 ^ 63) : Ret Tryz.prog f_spec_l01Box #[v, .int .i64 (m : Int)] w (.int .i64 ((boxK a m a.length : Nat) : Int)) := by
  apply c_spec_l01Box; unfold S_spec_l01Box
  refine iLp (fun k : Nat => [.int .i64 ((boxK a m k : Nat) : Int), .int .i64 (k : Int)]) (fun k w' => k ≤ a.length ∧ Ext w w') (fun k => a.length - k) 0 rfl ⟨Nat.zero_le _, Ext.refl w⟩ ?_
  rintro k w2 Kn ⟨hk, h2⟩ hKn
  have hs2 := hs.ext h2
  (intro _; (try simp only [gx]); (with_reducible refine iLenN (by assumption) ?_; refine iLt ?_))
  refine iCndP (fun h3 => ?_) (fun h3 => ?_)
  · have hk1 : k < a.length := by omega
    have hak : a.getD k 0 < 2 ^ 8 := getD_lt ha hk1
    have hb8 : boxK a m k < 2 ^ 8 := Nat.lt_of_lt_of_le (boxK_lt a m k) (Nat.pow_le_pow_right (by omega) (by omega))
    have hbs := boxK_succ a m k
    ((with_reducible refine iIaNN (by assumption) ?_ (fun pa_ hpa_ => ?_)); omega; (with_reducible refine iLd (by assumption) ?_))
    refine iBAnd (by omega) hm ?_
    ((with_reducible refine iIaNN (by assumption) ?_ (fun pa_ hpa_ => ?_)); omega; (with_reducible refine iLd (by assumption) ?_; refine iEq ?_))
    intro w3 h4
    refine iCndP (fun h5 => ?_) (fun h5 => ?_)
    · have h5 : a.getD k 0 &&& m = a.getD k 0 := by exact_mod_cast h5
      rw [if_pos (and_sub.1 h5)] at hbs
      have h2k : 2 ^ k < 2 ^ 63 := Nat.pow_lt_pow_right (by omega) (by omega)
      refine iRet (ok_spec_l01One k (by omega) w3) fun w4 h6 => ?_
      refine iBOr (by omega) h2k ?_
      rw [← hbs]
      (refine iAdd (by omega) ?_)
      exact hKn (k + 1) _ ⟨by omega, (h2.trans h4).trans h6⟩ (by omega)
    · have h5 : ¬ a.getD k 0 &&& m = a.getD k 0 := fun e => h5 (by exact_mod_cast e)
      rw [if_neg (fun e => h5 (and_sub.2 e))] at hbs
      rw [← hbs]
      (refine iAdd (by omega) ?_)
      exact hKn (k + 1) _ ⟨by omega, h2.trans h4⟩ (by omega)
  · obtain rfl : k = a.length := by omega
    exact ⟨rfl, h2⟩
end Go.Proofs.YtmefbjdioaahdaaGreatDoor

/- Plain facts: forcing on posets; p-morphisms keep it; Jankov's theorem. No program in sight. Conditions: none. -/
namespace Go.Proofs.YtmefbjdioaahdaaGreatDoor
open Go.Vc
theorem bit_lt_n {m n x : Nat} (hm : m < 2 ^ n) (h : m.testBit x = true) : x < n := by
  rcases Nat.lt_or_ge x n with h' | h'
  · exact h'
  · rw [Nat.testBit_lt_two_pow (Nat.lt_of_lt_of_le hm (Nat.pow_le_pow_right (by omega) h'))] at h; cases h

/-! ### The least elements of a set -/

/-! ### Premises -/

/-! ### The poset's own sets -/
end Go.Proofs.YtmefbjdioaahdaaGreatDoor

/- Contracts: drawn posets (l16Shuffle, l16Some, l16Rooted, l16Draw) and lists of them (l34Some). Conditions: none. -/
namespace Go.Vc
end Go.Vc
namespace Go.Proofs.YtmefbjdioaahdaaGreatDoor
open Go.Vc
end Go.Proofs.YtmefbjdioaahdaaGreatDoor

/- Contracts: drawn posets (l16Rooted, l16Draw) and lists of them (l34Some, DrawGreatestLogics). Conditions: none. -/
namespace Go.Vc
theorem flat2_get {α : Type} (f g : α → Value) : ∀ (l : List α) (i : Nat) (x : α), l[i]? = some x → (l.flatMap fun r => [f r, g r])[2 * i]? = some (f x) ∧ (l.flatMap fun r => [f r, g r])[2 * i + 1]? = some (g x)
  | [], i, x, h => by simp at h
  | a :: l, 0, x, h => by simp at h; subst h; simp
  | a :: l, i + 1, x, h => by
    have := flat2_get f g l i x (by simpa using h)
    rw [show 2 * (i + 1) = 2 * i + 2 by omega, show 2 * i + 2 + 1 = 2 * i + 1 + 2 by omega]
    simpa using this
theorem OwK.ne_ow {k lo lo' : Nat} {e e' : TypeId} {w : World} {v v' : Value} {n : Nat} {xs xs' : List Value} {c : Nat} (h : OwK k lo e w v n xs) (h' : Ow lo' e' w v' xs') (hne : e ≠ e') (hc : v.ownBlock = some c) : v'.ownBlock ≠ some c := by
  intro hc'
  obtain ⟨cur, h1⟩ := h.ty hc
  obtain ⟨cur', h2⟩ := h'.ty hc'
  rw [h1] at h2
  injection h2 with hb
  injection hb with _ hb _
  exact hne hb
end Go.Vc
namespace Go.Proofs.YtmefbjdioaahdaaGreatDoor
open Go.Vc
end Go.Proofs.YtmefbjdioaahdaaGreatDoor

/- Contracts: disjunctions of variables in the program and the reference. Conditions: none. -/
namespace Go.Vc
end Go.Vc
namespace Go.Proofs.YtmefbjdioaahdaaGreatDoor
open Go.Vc
end Go.Proofs.YtmefbjdioaahdaaGreatDoor

/- Contracts: the disjunction of the least elements of a set, in the program and the reference. Conditions: none. -/
namespace Go.Proofs.YtmefbjdioaahdaaGreatDoor
open Go.Vc
end Go.Proofs.YtmefbjdioaahdaaGreatDoor

/- Contracts: premises and conclusion of Jankov's formulas, in the program and the reference. Conditions: none. -/
namespace Go.Vc
end Go.Vc
namespace Go.Proofs.YtmefbjdioaahdaaGreatDoor
open Go.Vc
end Go.Proofs.YtmefbjdioaahdaaGreatDoor

/- Contracts: where a formula is forced on a poset, by the program's stack. Conditions: none. -/
namespace Go.Proofs.YtmefbjdioaahdaaGreatDoor
open Go.Vc
/-- The formulas of which what begins at node n is made. -/
def sfx : List Fm → Nat → List Fm
  | fs, 0 => fs
  | [], _ + 1 => []
  | f :: fs, n + 1 => sfx (f.kids ++ fs) n
theorem sfx_succ : ∀ (n : Nat) (fs : List Fm), sfx fs (n + 1) = match sfx fs n with | f :: r => f.kids ++ r | [] => []
  | 0, [] => rfl
  | 0, f :: fs => by simp [sfx]
  | n + 1, [] => rfl
  | n + 1, f :: fs => sfx_succ n (f.kids ++ fs)
theorem sfx_size : ∀ (n : Nat) (fs : List Fm), sizeL (sfx fs n) = sizeL fs - n
  | 0, fs => by simp [sfx]
  | n + 1, [] => by simp [sfx, sizeL]
  | n + 1, f :: fs => by
    show sizeL (sfx (f.kids ++ fs) n) = _
    have h1 := f.size_kids
    rw [sfx_size n, sizeL_app, show sizeL (f :: fs) = f.size + sizeL fs by simp [sizeL]]
    omega
theorem sfx_cells : ∀ (n : Nat) (fs : List Fm), (cellsL fs).drop (n * 2) = cellsL (sfx fs n)
  | 0, fs => by simp [sfx]
  | n + 1, [] => by simp [sfx, cellsL]
  | n + 1, f :: fs => by
    show _ = cellsL (sfx (f.kids ++ fs) n)
    rw [← sfx_cells n, cellsL_app, show cellsL (f :: fs) = f.cells ++ cellsL fs by simp [cellsL], f.cells_kids, List.append_assoc, show (n + 1) * 2 = n * 2 + 2 by omega, ← List.drop_drop]
    rw [show (nd f.kind f.sym ++ (cellsL f.kids ++ cellsL fs)).drop (n * 2) = (nd f.kind f.sym ++ (cellsL f.kids ++ cellsL fs)).drop (n * 2) from rfl, List.drop_drop, show n * 2 + 2 = 2 + n * 2 by omega, ← List.drop_drop]
    rfl
theorem sfx_all {Q : Fm → Prop} (hQ : ∀ f, Q f → ∀ g ∈ f.kids, Q g) : ∀ (n : Nat) (fs : List Fm), (∀ f ∈ fs, Q f) → ∀ f ∈ sfx fs n, Q f
  | 0, fs, h => by simpa [sfx] using h
  | n + 1, [], h => by simp [sfx]
  | n + 1, f :: fs, h => by
    show ∀ g ∈ sfx (f.kids ++ fs) n, Q g
    refine sfx_all hQ n _ fun g hg => ?_
    rcases List.mem_append.1 hg with hg | hg
    · exact hQ f (h f List.mem_cons_self) g hg
    · exact h g (List.mem_cons_of_mem _ hg)
end Go.Proofs.YtmefbjdioaahdaaGreatDoor

/- Plain facts on duals of maps: they tell the maps apart; as many as the maps. No program in sight. Conditions: none. -/
namespace Go.Vc
section
variable {α : Type} {lt : α → α → Bool}
end
end Go.Vc

/- Contracts: the frame of an algebra in the program; isomorphic algebras. Conditions: none. -/
namespace Go.Proofs.YtmefbjdioaahdaaGreatDoor
open Go.Vc
end Go.Proofs.YtmefbjdioaahdaaGreatDoor

/- Contracts: duals of maps in the program and in the reference. Conditions: none. -/
namespace Go.Proofs.YtmefbjdioaahdaaGreatDoor
open Go.Vc
end Go.Proofs.YtmefbjdioaahdaaGreatDoor

/- Contracts: premises in the reference, conclusions, TellingFormulas. Conditions: none. -/
namespace Go.Proofs.YtmefbjdioaahdaaGreatDoor
open Go.Vc
end Go.Proofs.YtmefbjdioaahdaaGreatDoor

/- Contracts: maps between posets, masks drawn back and spread, roots, the code of Jankov's formulas. Conditions: none. -/
namespace Go.Proofs.YtmefbjdioaahdaaGreatDoor
open Go.Vc
/-! ### Spread -/
/-! ### Roots, where there may be none -/
end Go.Proofs.YtmefbjdioaahdaaGreatDoor

/- Contracts: which rows of nodes are formulas, in the program; lists of them. Conditions: none. -/
namespace Go.Vc
/-- A whole element of k cells. -/
theorem iRdAgg6 {P : Program} {sz n j : Nat} {w : World} {v : Value} {xs ys : List Value} {k : IntKind} {K : Value → Prop} (hs : SlK sz w v n xs) (hj : j < n) (hl : ys.length = sz) (hy : ∀ i, i < sz → xs[j * sz + i]? = ys[i]?) (h : K (.agg ys.toArray)) : xIa sz v (.int k (j : Int)) fun p => xLdA w sz p K := by
  have _ := P
  refine iIaK hs hj fun b o hc => ?_
  refine ⟨_, ys.toArray, rfl, by simpa using hl, fun i hi => ?_, h⟩
  have e : (⟨b, o, none⟩ : Addr).add i = ⟨b, o + i, none⟩ := by
    simp only [Addr.add]; split
    · rename_i e; simp [e]
    · rfl
  rw [e, hc i hi, hy i hi]
  simp
end Go.Vc
namespace Go.Proofs.YtmefbjdioaahdaaGreatDoor
open Go.Vc
theorem ok_impl_isVariableN (x : Int) (w : World) : Ret Tryz.prog f_impl_isVariable #[.int .i64 x] w (.bool (decide (0 ≤ x ∧ x ≤ 5))) := by
  apply c_impl_isVariable; unfold S_impl_isVariable
  exact iRet (ok_impl_inRange x 0 5 w) fun w1 h1 => ⟨rfl, h1⟩
theorem ok_impl_isNodeN (q : RN) (w : World) : Ret Tryz.prog f_impl_isNode #[.agg #[.int .i64 q.1, .int .i64 q.2]] w (.bool (okN q)) := by
  obtain ⟨k, s⟩ := q
  show Ret Tryz.prog f_impl_isNode #[.agg #[.int .i64 k, .int .i64 s]] w (.bool (okN (k, s)))
  have e : okN (k, s) = (decide (0 ≤ k ∧ k ≤ 6) && (decide (0 ≤ s ∧ s ≤ 5) && (decide (k = 0) || decide (s = 0)))) := rfl
  apply c_impl_isNode; unfold S_impl_isNode
  refine iNew fun p w1 _ x1 hB => ?_
  have hB : Blk _ w1 p [.int .i64 k, .int .i64 s] := hB
  refine iFa (iLdB hB (v := .int .i64 k) rfl ?_)
  refine iEq (iCndP (fun h0 => ?_) (fun h0 => ?_))
  · refine iFa (iLdB hB (v := .int .i64 s) rfl ?_)
    refine iRet (ok_impl_isVariableN _ w1) fun w2 x2 => ⟨?_, x1.trans x2⟩
    rw [e, decide_eq_true h0, decide_eq_true (by omega : 0 ≤ k ∧ k ≤ 6)]
    simp
  · refine iJnB (okN (k, s)) w1 (fun J hJ => ?_) (fun w2 x2 => fun _ => ⟨rfl, x1.trans x2⟩)
    refine iFa (iLdB hB (v := .int .i64 k) rfl ?_)
    refine iRet (ok_impl_inRange _ _ _ w1) fun w2 x2 => ?_
    rw [e, decide_eq_false h0] at hJ
    by_cases c1 : 1 ≤ k ∧ k ≤ 6
    · rw [decide_eq_true c1]
      refine iCndT rfl ?_
      refine iFa (iLdB (hB.ext x2) (v := .int .i64 s) rfl ?_)
      refine iEq ?_
      rw [decide_eq_true (by omega : 0 ≤ k ∧ k ≤ 6), Bool.true_and, Bool.false_or] at hJ
      by_cases c2 : s = 0
      · rw [decide_eq_true c2] at hJ ⊢
        rw [decide_eq_true (by omega : 0 ≤ s ∧ s ≤ 5)] at hJ
        exact hJ _ x2
      · rw [decide_eq_false c2] at hJ ⊢
        rw [Bool.and_false] at hJ
        exact hJ _ x2
    · rw [decide_eq_false c1]
      rw [decide_eq_false (by omega : ¬ (0 ≤ k ∧ k ≤ 6)), Bool.false_and] at hJ
      exact iCndF rfl (hJ _ x2)
theorem ok_ContainsFunc_N {v fv : Value} {N : List RN} {w : World} (hs : RawS w v N) (p : RN → Bool) (hf : ∀ q ∈ N, ∀ w', Ext w w' → callV Tryz.prog fv [.agg #[.int .i64 q.1, .int .i64 q.2]] w' fun u w'' => u = .bool (p q) ∧ Ext w' w'') :
    Ret Tryz.prog f_slices_ContainsFunc_Simpl_Node_impl_Node #[v, fv] w (.bool (N.any p)) := by
  have hln := hs.len
  apply c_slices_ContainsFunc_Simpl_Node_impl_Node; unfold S_slices_ContainsFunc_Simpl_Node_impl_Node
  refine iRet (v := .int .i64 (match N.findIdx? p with | some i => (i : Int) | none => -1)) ?_ fun w1 x1 => iLe ⟨?_, x1⟩
  · apply c_slices_IndexFunc_Simpl_Node_impl_Node; unfold S_slices_IndexFunc_Simpl_Node_impl_Node
    refine iLenK hs ?_
    refine iLp (fun i : Nat => [.int .i64 (i : Int)]) (fun i w' => i ≤ N.length ∧ Ext w w' ∧ ∀ x ∈ N.take i, p x = false) (fun i => N.length - i) 0 rfl ⟨Nat.zero_le _, Ext.refl _, by simp⟩ ?_
    rintro i w2 Kn ⟨hi, h2, hno⟩ hKn
    intro _
    simp only [gx]
    refine iLt (iCndP (fun h => ?_) (fun h => ?_))
    · have hil : i < N.length := by omega
      have hat := cellsN_at hil
      refine iRdAgg6 (P := Tryz.prog) (ys := [.int .i64 N[i].1, .int .i64 N[i].2]) (hs.ext h2) (by omega) rfl (fun j hj => ?_) ?_
      · rcases j with _ | _ | j
        · exact hat.1
        · exact hat.2
        · omega
      refine (hf _ (List.getElem_mem hil) w2 h2).mono ?_
      rintro u w3 ⟨rfl, x3⟩
      cases hp : p N[i]
      · refine iCndF (by first | rfl | exact hp) ?_
        refine iAdd (by omega) ?_
        refine hKn (i + 1) _ ⟨by omega, h2.trans x3, ?_⟩ (by omega)
        rw [List.take_succ_eq_append_getElem hil]
        intro x hx
        rcases List.mem_append.1 hx with hx | hx
        · exact hno x hx
        · simp at hx; rw [hx]; exact hp
      · refine iCndT (by first | rfl | exact hp) ⟨?_, h2.trans x3⟩
        have : N.findIdx? p = some i := List.findIdx?_eq_some_iff_getElem.2 ⟨hil, hp, fun j hj => by
          have := hno (N[j]'(by omega)) (List.mem_take_iff_getElem.2 ⟨j, by omega, rfl⟩)
          simp [this]⟩
        rw [this]
    · refine ⟨?_, h2⟩
      rw [List.take_of_length_le (by omega)] at hno
      have : N.findIdx? p = none := List.findIdx?_eq_none_iff.2 hno
      rw [this]
  · cases h : N.findIdx? p with
    | none =>
      have := List.findIdx?_eq_none_iff.1 h
      have h2 : N.any p = false := List.any_eq_false.2 fun x hx => by simp [this x hx]
      simp [h2]
    | some i =>
      obtain ⟨hi, hp, _⟩ := List.findIdx?_eq_some_iff_getElem.1 h
      have h2 : N.any p = true := List.any_eq_true.2 ⟨N[i], List.getElem_mem _, hp⟩
      simp [h2]
theorem ok_impl_partEndN {v : Value} {N : List RN} {i : Nat} {w : World} (hs : RawS w v N) (hok : N.all okN = true) (hi : i ≤ N.length) (hn : N.length ≤ 1099511627776) : Ret Tryz.prog f_impl_partEnd #[v, .int .i64 (i : Int)] w (.int .i64 (endN N i)) := by
  apply c_impl_partEnd; unfold S_impl_partEnd
  refine iLp (fun s : Nat × Nat => [.int .i64 (s.1 : Int), .int .i64 (s.2 : Int)]) (fun s w' => Ext w w' ∧ s.1 ≤ N.length ∧ s.2 ≤ 1 + 2 * s.1 ∧ goN (N.drop s.1) s.2 = goN (N.drop i) 1) (fun s => N.length - s.1) (i, 1) rfl ⟨Ext.refl _, hi, by show 1 ≤ 1 + 2 * i; omega, rfl⟩ ?_
  rintro ⟨j, o⟩ w2 Kn ⟨x2, hj, ho, hg⟩ hKn
  have hj : j ≤ N.length := hj
  have ho : o ≤ 1 + 2 * j := ho
  have hg : goN (N.drop j) o = goN (N.drop i) 1 := hg
  intro _
  simp only [gx]
  refine iLt (iCndP (fun h3 => ?_) (fun h3 => ?_))
  · obtain ⟨o', rfl⟩ : ∃ o', o = o' + 1 := ⟨o - 1, by omega⟩
    refine iLenK (SlK.ext hs x2) ?_
    refine iLe (iCndP (fun h4 => ?_) (fun h4 => ?_))
    · obtain rfl : j = N.length := by omega
      rw [List.drop_length] at hg
      refine ⟨?_, x2⟩
      unfold endN
      rw [← hg]; rfl
    · have hj1 : j < N.length := by omega
      have hat := cellsN_at hj1
      obtain ⟨k, s, hq, hk6, _⟩ := okN_nat (List.all_eq_true.1 hok _ (List.getElem_mem hj1))
      refine iFld (f := 0) (SlK.ext hs x2) rfl hj1 (by decide) hat.1 ?_
      have e1 : N[j].1 = (k : Int) := by rw [hq]
      rw [e1]
      refine iRet (ok_impl_partsOf k w2) fun w3 x3 => ?_
      have hak : arity k ≤ 2 := by unfold arity; split; omega; split <;> omega
      refine iSub (by omega) (iAdd (by omega) (iAdd (by omega) ?_))
      rw [show ((o' + 1 : Nat) : Int) + ((arity k : Int) - 1) = ((o' + arity k : Nat) : Int) by omega]
      refine hKn (j + 1, o' + arity k) _ ⟨x2.trans x3, by show j + 1 ≤ N.length; omega, by show o' + arity k ≤ 1 + 2 * (j + 1); omega, ?_⟩ (by show N.length - (j + 1) < N.length - j; omega)
      show goN (N.drop (j + 1)) (o' + arity k) = _
      rw [← hg, goN_drop hj1, e1, arZ_nat]
  · obtain rfl : o = 0 := by omega
    rw [goN_zero] at hg
    refine ⟨?_, x2⟩
    unfold endN
    rw [← hg]
    show Value.int .i64 (j : Int) = .int .i64 ((N.length - (N.drop j).length : Nat) : Int)
    rw [List.length_drop, show N.length - (N.length - j) = j by omega]
theorem ok_impl_isFormulaN {v : Value} {N : List RN} {w : World} (hs : RawS w v N) (hn : N.length ≤ 1099511627776) : Ret Tryz.prog f_impl_isFormula #[v] w (.bool (isN N)) := by
  apply c_impl_isFormula; unfold S_impl_isFormula
  refine iJnB (isN N) w (fun J hJ => ?_) (fun w2 x2 => fun _ => ⟨rfl, x2⟩)
  refine iLenK hs ?_
  refine iLe (iCndP (fun h1 => ?_) (fun h1 => ?_))
  · refine iLenK hs ?_
    refine iLe (iCndP (fun h2 => ?_) (fun h2 => ?_))
    · refine iRet (ok_ContainsFunc_N hs (fun q => !okN q) fun q hq w' x' => ?_) fun w3 x3 => ?_
      · refine iRet (v := .bool (!okN q)) ?_ fun w5 x5 => ⟨rfl, x5⟩
        apply c_impl_isFormula_1; unfold S_impl_isFormula_1
        refine iNew fun p w1 _ x1 hB => ?_
        refine iLdA hB rfl ?_
        refine iRet (ok_impl_isNodeN q w1) fun w4 x4 => ?_
        exact iNot ⟨rfl, x1.trans x4⟩
      rw [show (N.any fun q => !okN q) = !N.all okN by rw [List.not_all_eq_any_not]]
      refine iNot ?_
      rw [Bool.not_not]
      unfold isN at hJ
      rw [decide_eq_true (by omega : N.length ≤ 40), Bool.true_and] at hJ
      cases hall : N.all okN
      · refine iCndF rfl ?_
        unfold treeN at hJ
        rw [hall, Bool.false_and] at hJ
        exact hJ _ x3
      · refine iCndT rfl ?_
        refine iRet (ok_impl_partEndN (i := 0) (SlK.ext hs x3) hall (Nat.zero_le _) hn) fun w4 x4 => ?_
        refine iLenK ((SlK.ext hs x3).ext x4) ?_
        refine iEq ?_
        rw [endN_tree hall (by omega)]
        exact hJ _ (x3.trans x4)
    · unfold isN at hJ
      rw [decide_eq_false (by omega : ¬ N.length ≤ 40), Bool.false_and] at hJ
      exact hJ _ (Ext.refl _)
  · have h0 : N = [] := List.length_eq_zero_iff.1 (by omega)
    subst h0
    exact hJ _ (Ext.refl _)
/-! ### Variables -/
end Go.Proofs.YtmefbjdioaahdaaGreatDoor

/- Contracts: valuations; forcing in the reference; IsForcedAt; Shows in the program and the reference. Conditions: none. -/
namespace Go.Proofs.YtmefbjdioaahdaaGreatDoor
open Go.Vc
/-! ### Formulas -/
/-! ### Jankov's formulas are plain -/

/-! ### Valuations -/
/-! ### Forcing in the reference -/
theorem ok_spec_l02LeftP {v : Value} {f g : Fm} {gs : List Fm} {w : World} (hs : FmS w v f) (hk : f.kids = g :: gs) (hn : f.size ≤ 1099511627776) : Cal Tryz.prog f_spec_l02Left #[v] w fun u w' => Ext w w' ∧ FmS w' u g := by
  apply c_spec_l02Left; unfold S_spec_l02Left
  have hsz := f.size_kids
  rw [hk] at hsz
  simp only [sizeL, List.map_cons, List.sum_cons] at hsz
  refine iRet (ok_spec_l02Part (i := 1) hs (drop_one hk) hn) fun w1 h1 => ?_
  refine iSlK (i := 1) (j := 1 + g.size) (hs.ext h1) (by omega) (by omega) fun u hu => ⟨h1, ?_⟩
  rw [drop_one hk, Nat.add_sub_cancel_left, ← g.cells_len, List.take_left] at hu
  exact hu
theorem ok_spec_l02RightP {v : Value} {f g h : Fm} {w : World} (hs : FmS w v f) (hk : f.kids = [g, h]) (hn : f.size ≤ 1099511627776) : Cal Tryz.prog f_spec_l02Right #[v] w fun u w' => Ext w w' ∧ FmS w' u h := by
  apply c_spec_l02Right; unfold S_spec_l02Right
  obtain ⟨hd, hsz⟩ := drop_two hk
  refine iRet (ok_spec_l02Part (i := 1) hs (drop_one hk) hn) fun w1 h1 => ?_
  refine iSlKFrom (i := 1 + g.size) (hs.ext h1) (by omega) fun u hu => ⟨h1, ?_⟩
  rw [hd, List.append_nil, hsz, Nat.add_sub_cancel_left] at hu
  exact hu
/-! ### IsForcedAt, where all is well -/
end Go.Proofs.YtmefbjdioaahdaaGreatDoor

/- Plain facts: maps onto a poset; their images are upsets; what a part's map says of sizes. No program in sight. Conditions: none. -/
namespace Go.Proofs.YtmefbjdioaahdaaGreatDoor
open Go.Vc
end Go.Proofs.YtmefbjdioaahdaaGreatDoor

/- Plain facts: a poset is alike with the sum of its core. No program in sight. Conditions: none. -/
namespace Go.Proofs.YtmefbjdioaahdaaGreatDoor
open Go.Vc
section
variable {f : Fr}
end
/-! ### Sums -/
end Go.Proofs.YtmefbjdioaahdaaGreatDoor

/- Contracts: the reference's partitions of a poset, which are correct, and the quotient. Conditions: none. -/
namespace Go.Vc
end Go.Vc
namespace Go.Proofs.YtmefbjdioaahdaaGreatDoor
open Go.Vc
end Go.Proofs.YtmefbjdioaahdaaGreatDoor

/- Plain facts: lists of classes, the quotient of a poset by correct ones, and its rooted images. No program in sight. Conditions: none. -/
namespace Go.Proofs.YtmefbjdioaahdaaGreatDoor
open Go.Vc
/-- Each class is one that has been, or the next one. -/
def grB : Nat → List Nat → Bool
  | _, [] => true
  | t, y :: s => decide (y ≤ t) && grB (if y = t then t + 1 else t) s
def topG : Nat → List Nat → Nat
  | t, [] => t
  | t, y :: s => topG (if y = t then t + 1 else t) s
theorem topG_app : ∀ (a b : List Nat) (t : Nat), topG t (a ++ b) = topG (topG t a) b := by
  intro a
  induction a with
  | nil => exact fun _ _ => rfl
  | cons y s ih => exact fun b t => ih b _
theorem grB_app : ∀ (a b : List Nat) (t : Nat), grB t (a ++ b) = (grB t a && grB (topG t a) b) := by
  intro a
  induction a with
  | nil => exact fun _ _ => (Bool.true_and _).symm
  | cons y s ih =>
    intro b t
    show (decide (y ≤ t) && grB _ (s ++ b)) = ((decide (y ≤ t) && grB _ s) && grB _ b)
    rw [ih, Bool.and_assoc]; rfl
theorem topG_le : ∀ (c : List Nat) (t : Nat), t ≤ topG t c ∧ topG t c ≤ t + c.length := by
  intro c
  induction c with
  | nil => exact fun t => ⟨Nat.le_refl _, Nat.le_refl _⟩
  | cons y s ih =>
    intro t
    have := ih (if y = t then t + 1 else t)
    rw [List.length_cons]
    show t ≤ topG _ s ∧ topG _ s ≤ _
    by_cases hy : y = t
    · rw [if_pos hy] at this ⊢; omega
    · rw [if_neg hy] at this ⊢; omega
theorem grB_lt : ∀ (c : List Nat) (t : Nat), grB t c = true → ∀ y ∈ c, y < topG t c := by
  intro c
  induction c with
  | nil => exact fun _ _ y hy => absurd hy (by simp)
  | cons x s ih =>
    intro t h y hy
    simp only [grB, Bool.and_eq_true, decide_eq_true_eq] at h
    show y < topG _ s
    rcases List.mem_cons.1 hy with rfl | hy
    · have := (topG_le s (if y = t then t + 1 else t)).1
      by_cases hx : y = t
      · rw [if_pos hx] at this ⊢; omega
      · rw [if_neg hx] at this ⊢; omega
    · exact ih _ h.2 y hy
theorem topG_snoc (c : List Nat) (y : Nat) : topG 0 (c ++ [y]) = if y = topG 0 c then topG 0 c + 1 else topG 0 c := topG_app c [y] 0
theorem grB_take {c : List Nat} (h : grB 0 c = true) (k : Nat) : grB 0 (c.take k) = true := by
  rw [← List.take_append_drop k c, grB_app, Bool.and_eq_true] at h
  exact h.1
theorem grB_at {c : List Nat} (h : grB 0 c = true) {k : Nat} (hk : k < c.length) : c.getD k 0 ≤ topG 0 (c.take k) := by
  have h1 := grB_take h (k + 1)
  rw [List.take_succ_eq_append_getElem hk, grB_app, Bool.and_eq_true] at h1
  have h2 := h1.2
  simp only [grB, Bool.and_eq_true, decide_eq_true_eq] at h2
  have e : c.getD k 0 = c[k] := by simp [hk]
  rw [e]; exact h2.1
theorem topG_take {c : List Nat} {k : Nat} (hk : k < c.length) : topG 0 (c.take (k + 1)) = if c.getD k 0 = topG 0 (c.take k) then topG 0 (c.take k) + 1 else topG 0 (c.take k) := by
  have e : c.getD k 0 = c[k] := by simp [hk]
  rw [List.take_succ_eq_append_getElem hk, topG_snoc, e]
section
variable {f : Fr} {c : List Nat}
theorem getD_setQ {l : List Nat} {i z v : Nat} (hi : i < l.length) : (l.set i v).getD z 0 = if z = i then v else l.getD z 0 := by
  rw [List.getD_eq_getElem?_getD, List.getElem?_set]
  by_cases e : i = z
  · rw [if_pos e, if_pos e.symm, if_pos hi]; rfl
  · rw [if_neg e, if_neg (fun h => e h.symm), ← List.getD_eq_getElem?_getD]
end
end Go.Proofs.YtmefbjdioaahdaaGreatDoor

/- Plain facts: p-morphisms onto frames keep the properties of frames and the truth of modal formulas. No program in sight. Conditions: none. -/
namespace Go.Proofs.YtmefbjdioaahdaaGreatDoor
open Go.Vc
section
variable {f g : Fr} {F : List Nat}
end
/-! ### Truth of modal formulas -/
def trM (f : Fr) (V : Nat → Nat) : Fm → Nat
  | .var v => V v
  | .fls => 0
  | .and a b => trM f V a &&& trM f V b
  | .or a b => trM f V a ||| trM f V b
  | .imp a b => sdiff (2 ^ f.n - 1) (trM f V a) ||| trM f V b
  | .box a => boxK f.a (trM f V a) f.n
  | .dia a => sdiff (2 ^ f.n - 1) (boxK f.a (sdiff (2 ^ f.n - 1) (trM f V a)) f.n)
theorem full_lt (n : Nat) : 2 ^ n - 1 < 2 ^ n := by have := Nat.two_pow_pos n; omega
theorem trM_lt {f : Fr} {V : Nat → Nat} (hV : ∀ v, V v < 2 ^ f.n) : ∀ a, trM f V a < 2 ^ f.n
  | .var v => hV v
  | .fls => Nat.two_pow_pos _
  | .and _ b => Nat.and_lt_two_pow _ (trM_lt hV b)
  | .or a b => Nat.or_lt_two_pow (trM_lt hV a) (trM_lt hV b)
  | .imp _ b => Nat.or_lt_two_pow (sdiff_lt (full_lt _)) (trM_lt hV b)
  | .box _ => boxK_lt _ _ _
  | .dia _ => sdiff_lt (full_lt _)
theorem boxK_bit (a : List Nat) (m k x : Nat) : (boxK a m k).testBit x = true ↔ x < k ∧ ∀ y, (a.getD x 0).testBit y = true → m.testBit y = true := by
  unfold boxK
  rw [setOf_testBit, List.contains_iff_mem, List.mem_filter, List.mem_range, decide_eq_true_eq, sdiff_eq_zero]
end Go.Proofs.YtmefbjdioaahdaaGreatDoor

/- Contracts: where a modal formula is true, by the program's stack and by the reference. Conditions: none. -/
namespace Go.Proofs.YtmefbjdioaahdaaGreatDoor
open Go.Vc
theorem good_kids {f : Fm} (h : Fm.good f) : ∀ g ∈ f.kids, Fm.good g := by
  intro g hg
  cases f with
  | var v => cases hg
  | fls => cases hg
  | and a b => simp only [Fm.kids, List.mem_cons, List.not_mem_nil, or_false] at hg; rcases hg with rfl | rfl <;> first | exact h.1 | exact h.2
  | or a b => simp only [Fm.kids, List.mem_cons, List.not_mem_nil, or_false] at hg; rcases hg with rfl | rfl <;> first | exact h.1 | exact h.2
  | imp a b => simp only [Fm.kids, List.mem_cons, List.not_mem_nil, or_false] at hg; rcases hg with rfl | rfl <;> first | exact h.1 | exact h.2
  | box a => simp only [Fm.kids, List.mem_cons, List.not_mem_nil, or_false] at hg; subst hg; exact h
  | dia a => simp only [Fm.kids, List.mem_cons, List.not_mem_nil, or_false] at hg; subst hg; exact h
theorem ok_impl_Frame_all (n : Nat) (hn : n ≤ 8) (v : Value) (w : World) : Ret Tryz.prog f_impl_Frame_all #[.agg #[.int .i64 (n : Int), v]] w (.int .i64 ((2 ^ n - 1 : Nat) : Int)) := by
  apply c_impl_Frame_all; unfold S_impl_Frame_all
  refine iNew fun b w1 hb h1 hB => ?_
  have hB : Blk _ w1 b [.int .i64 (n : Int), v] := hB
  have hp : 2 ^ n ≤ 2 ^ 8 := Nat.pow_le_pow_right (by omega) hn
  have h0 := Nat.two_pow_pos n
  refine iFa (iLdB hB (i := 0) (v := .int .i64 (n : Int)) rfl ?_)
  refine iShlOne (by omega) ?_
  refine iSub (by omega) ?_
  rw [show ((2 ^ n : Nat) : Int) - 1 = ((2 ^ n - 1 : Nat) : Int) by omega]
  exact ⟨rfl, h1⟩
/-- The stack when nodes from n on are done. -/
def stkM (f : Fr) (V : Nat → Nat) (a : Fm) (n : Nat) : List Nat := ((sfx [a] n).map (trM f V)).reverse
theorem ok_truthSet_1 {lo b : Nat} {e : TypeId} {w : World} {v x : Value} {xs : List Value} (hB : Blk e w b [v]) (ho : Ow lo t_i64 w v (xs ++ [x])) (hne : t_i64 ≠ e) :
    Cal Tryz.prog f_impl_truthSet_1 #[.pointer (some ⟨b, 0, none⟩)] w fun r w' => r = x ∧ ∃ v', Blk e w' b [v'] ∧ Ow lo t_i64 w' v' xs ∧ Ch (fun c => c = b) w w' := by
  have hl := ho.sl.len
  rw [List.length_append, List.length_singleton] at hl
  apply c_impl_truthSet_1; unfold S_impl_truthSet_1
  refine iLdB hB (v := v) rfl (iLdB hB (v := v) rfl ?_)
  refine iLenS ho.sl ?_
  rw [List.length_append, List.length_singleton]
  refine iSub (by omega) ?_
  rw [show ((xs.length + 1 : Nat) : Int) - 1 = (xs.length : Int) by omega]
  refine iIa (j := (xs.length : Int)) ho.sl (by omega) (by simp; omega) fun p hp => ?_
  refine iLd (v := x) (by rw [hp]; simp) ?_
  refine iLdB hB (v := v) rfl (iLdB hB (v := v) rfl ?_)
  refine iLenS ho.sl ?_
  rw [List.length_append, List.length_singleton]
  refine iSub (by omega) ?_
  rw [show ((xs.length + 1 : Nat) : Int) - 1 = (xs.length : Int) by omega]
  refine iSlDown ho fun v' hb' ho' => ?_
  have hnb : v'.ownBlock ≠ some b := by rw [hb']; exact ho.ne_blk hB hne
  refine iStB hB (i := 0) (by simp) ho'.cell fun hB' => ?_
  exact ⟨rfl, v', hB', ho'.other hnb _, (Upd.setCell w b 0 v').ch rfl⟩
theorem ok_impl_truthSet {f : Fr} (hf : f.ok) {va vv vn : Value} {w : World} (hs : SlN w va f.a) {vals : List Nat} (hv : SlN w vv vals) (h6 : vals.length = 6) (hlt : ∀ x ∈ vals, x < 2 ^ f.n) {a : Fm} (ha : FmS w vn a) (hpl : Fm.good a) (hsz : a.size ≤ 1000000) :
    Ret Tryz.prog f_impl_truthSet #[.agg #[.int .i64 (f.n : Int), va], vv, vn] w (.int .i64 ((trM f (fun v => vals.getD v 0) a : Nat) : Int)) := by
  obtain ⟨V, hVe⟩ : ∃ V : Nat → Nat, V = fun v => vals.getD v 0 := ⟨_, rfl⟩
  rw [← hVe]
  have hV : ∀ v, V v < 2 ^ f.n := fun v => by
    rw [hVe]
    show vals.getD v 0 < _
    rcases Nat.lt_or_ge v vals.length with h | h
    · exact getD_lt hlt h
    · rw [List.getD_eq_getElem?_getD, List.getElem?_eq_none h]; exact Nat.two_pow_pos _
  have h63 : ∀ g, trM f V g < 2 ^ 63 := fun g => Nat.lt_of_lt_of_le (trM_lt hV g) (Nat.pow_le_pow_right (by omega) (by have := hf.1; omega))
  have hp63 : 2 ^ f.n ≤ 2 ^ 63 := Nat.pow_le_pow_right (by omega) (by have := hf.1; omega)
  have hfull : 2 ^ f.n - 1 < 2 ^ 63 := Nat.lt_of_lt_of_le (full_lt _) hp63
  have hf8 := hf.1
  have hal := hf.2.1
  have ha8 : ∀ x ∈ f.a, x < 2 ^ 8 := fun x hx => Nat.lt_of_lt_of_le (hf.2.2 x hx) (Nat.pow_le_pow_right (by omega) hf8)
  apply c_impl_truthSet; unfold S_impl_truthSet
  refine iNew fun b3 w1 hb3 x1 hB3 => ?_
  have hB3 : Blk _ w1 b3 [.int .i64 (f.n : Int), va] := hB3
  refine iLdA hB3 rfl ?_
  refine iRet (ok_impl_Frame_all f.n hf.1 va w1) fun w0 x0 => ?_
  refine iNew fun b7 w2 hb7 x2' hB7 => ?_
  have x2 := x0.trans x2'
  have hB7 : Blk _ w2 b7 [.slice none 0 0] := hB7
  have hx := x1.trans x2
  have hs0 := x0.size
  refine iLenK (ha.ext hx) ?_
  refine iSub (by omega) ?_
  have hlo : w.heap.size ≤ w2.heap.size := hx.size
  have hsa : sizeL [a] = a.size := by simp [sizeL]
  refine iLp (fun n : Nat => [.int .i64 ((n : Int) - 1)]) (fun n w' => n ≤ a.size ∧ Ext w w' ∧ Blk 26 w' b3 [.int .i64 (f.n : Int), va] ∧ ∃ v, Blk 24 w' b7 [v] ∧ Ow w.heap.size t_i64 w' v (ints (nats (stkM f V a n)))) (fun n => n) a.size rfl ⟨Nat.le_refl _, hx, hB3.ext x2, _, hB7, ?_⟩ ?_
  · have : stkM f V a a.size = [] := by
      have h1 := sfx_size a.size [a]
      rw [hsa, Nat.sub_self] at h1
      have h2 := sizeL_len (sfx [a] a.size)
      have : sfx [a] a.size = [] := List.length_eq_zero_iff.1 (by omega)
      unfold stkM; rw [this]; rfl
    rw [this]
    exact Ow.nil _ _ _
  rintro n w4 Kn ⟨hn, x4, hB3, v, hB7, ho⟩ hKn
  intro _
  simp only [gx]
  have hs4 := hs.ext x4
  have hv4 := hv.ext x4
  have ha4 := ha.ext x4
  have hsub : ∀ {w'}, Ch (fun c => c = b7) w4 w' → Ext w w' := fun hc => x4.thenCh hc fun c h => by subst h; have := x1.size; omega
  refine iLe (iCndP (fun h => ?_) (fun h => ?_))
  · obtain ⟨m, rfl⟩ : ∃ m, n = m + 1 := ⟨n - 1, by omega⟩
    have hm : m < a.size := by omega
    rw [show ((m + 1 : Nat) : Int) - 1 = (m : Int) by omega]
    obtain ⟨g, r, hg⟩ : ∃ g r, sfx [a] m = g :: r := by
      have h1 := sfx_size m [a]
      rw [hsa] at h1
      cases hc : sfx [a] m with
      | nil => rw [hc] at h1; simp [sizeL] at h1; omega
      | cons g r => exact ⟨g, r, rfl⟩
    have hpg : Fm.good g := sfx_all (Q := Fm.good) (fun _ h => good_kids h) m [a] (by simpa using hpl) g (by rw [hg]; simp)
    have hcell : a.cells.drop (m * 2) = cellsL (g :: r) ++ [] := by
      rw [List.append_nil, ← hg, ← sfx_cells]; simp [cellsL]
    obtain ⟨hk, hsy, -⟩ := kind_at hcell
    have hnext : sfx [a] (m + 1) = g.kids ++ r := by rw [sfx_succ, hg]
    have hst : stkM f V a (m + 1) = (r.map (trM f V)).reverse ++ (g.kids.map (trM f V)).reverse := by
      unfold stkM; rw [hnext, List.map_append, List.reverse_append]
    have hst0 : stkM f V a m = (r.map (trM f V)).reverse ++ [trM f V g] := by
      unfold stkM; rw [hg, List.map_cons, List.reverse_cons]
    rw [hst] at ho
    -- the way on: the stack without the parts, and the value
    have go : ∀ w6 v6, Ext w w6 → Blk 26 w6 b3 [.int .i64 (f.n : Int), va] → Blk 24 w6 b7 [v6] → Ow w.heap.size t_i64 w6 v6 (ints (nats ((r.map (trM f V)).reverse))) →
        xLd w6 (.pointer (some ⟨b7, 0, none⟩)) fun v58 => xBs t_i64 (Value.cells (.int .i64 0)) 1 1 [(0, (.int .i64 ((trM f V g : Nat) : Int)))] w6 fun v60 w21 => xOp Tryz.prog (Builtin.append_ #[24, 24] 24 #[v58, v60]) w21 fun v61 w22 =>
        xSt w22 (.pointer (some ⟨b7, 0, none⟩)) v61 fun w23 => xSub .i64 (.int .i64 (m : Int)) (.int .i64 1) fun v19 => Kn [v19] w23 := by
      intro w6 v6 x6 hB36 hB76 ho6
      refine iLdB hB76 (v := v6) rfl ?_
      have hrl : r.length ≤ a.size := by
        have h1 := sfx_size m [a]
        rw [hsa, hg] at h1
        have h2 := sizeL_len (g :: r)
        rw [List.length_cons] at h2
        omega
      refine iApp1 u_Si64 i_Si64 rfl ho6 rfl (by simp [ints, nats]; omega) (by simp [ints, nats]; omega) (by have := x6.size; omega) fun v7 w7 ho7 hg7 => ?_
      have hnb6 := ho6.ne_blk hB76 (show t_i64 ≠ 24 by decide)
      have hB77 : Blk 24 w7 b7 [v6] := by
        unfold Blk at hB76 ⊢
        rw [hg7.block b7 (heap_lt hB76) fun e => hnb6 e.symm]; exact hB76
      have hnb3 := ho6.ne_blk hB36 (show t_i64 ≠ 26 by decide)
      have hB37 : Blk 26 w7 b3 [.int .i64 (f.n : Int), va] := by
        unfold Blk at hB36 ⊢
        rw [hg7.block b3 (heap_lt hB36) fun e => hnb3 e.symm]; exact hB36
      have x7 : Ext w w7 := x6.grown hg7 fun b hb => (ho6.blk b hb).1
      refine iStB hB77 (i := 0) (by simp) ho7.cell fun hB78 => ?_
      have hnb7 := ho7.ne_blk hB77 (show t_i64 ≠ 24 by decide)
      refine iSub (by omega) ?_
      refine hKn m _ ⟨by omega, ?_, hB37.other (hB37.ne_blk hB77 (by decide)) _, v7, hB78, ?_⟩ (by omega)
      · exact ext_set x7 (by have := x1.size; show w.heap.size ≤ b7; omega) _
      · have := ho7.other (i := 0) hnb7 v7
        rw [hst0]
        simpa [ints, nats] using this
    refine iFld (f := 0) ha4 rfl hm (by decide) hk ?_
    cases g with
    | var z =>
      refine iEq (iCndT (by first | rfl | decide) ?_)
      refine iFld (f := 1) ha4 rfl hm (by decide) hsy ?_
      have hz : z < 6 := hpg
      refine iIaNN (j := z) hv4 (by omega) fun p hp => iLd hp ?_
      intro _
      simp only [gx]
      have e : trM f V (.var z) = vals.getD z 0 := by rw [hVe]; rfl
      have := go w4 v x4 hB3 hB7 (by simpa [Fm.kids] using ho)
      rw [e] at this
      exact this
    | fls =>
      refine iEq (iCndF (by first | rfl | decide) ?_)
      refine iEq (iCndF (by first | rfl | decide) ?_)
      refine iEq (iCndF (by first | rfl | decide) ?_)
      refine iEq (iCndF (by first | rfl | decide) ?_)
      refine iEq (iCndF (by first | rfl | decide) ?_)
      refine iEq (iCndF (by first | rfl | decide) ?_)
      intro _; intro _; intro _; intro _; intro _; intro _
      simp only [gx]
      exact go w4 v x4 hB3 hB7 (by simpa [Fm.kids] using ho)
    | and p q =>
      refine iEq (iCndF (by first | rfl | decide) ?_)
      refine iEq (iCndT (by first | rfl | decide) ?_)
      have ho : Ow w.heap.size t_i64 w4 v (ints (nats ((r.map (trM f V)).reverse)) ++ [.int .i64 ((trM f V q : Nat) : Int)] ++ [.int .i64 ((trM f V p : Nat) : Int)]) := by simpa [Fm.kids, ints, nats] using ho
      refine iClo rfl ((ok_truthSet_1 hB7 ho (by decide)).mono ?_)
      rintro u1 w5 ⟨rfl, v5, hB75, ho5, c5⟩
      refine iClo rfl ((ok_truthSet_1 hB75 ho5 (by decide)).mono ?_)
      rintro u2 w6 ⟨rfl, v6, hB76, ho6, c6⟩
      refine iBAnd (h63 _) (h63 _) ?_
      intro _; intro _
      simp only [gx]
      have c46 : Ch (fun c => c = b7) w4 w6 := c5.trans c6 fun b hb => .inl hb
      exact go w6 v6 (hsub c46) (hB3.ch c46 (hB3.ne_blk hB7 (by decide))) hB76 ho6
    | or p q =>
      refine iEq (iCndF (by first | rfl | decide) ?_)
      refine iEq (iCndF (by first | rfl | decide) ?_)
      refine iEq (iCndT (by first | rfl | decide) ?_)
      have ho : Ow w.heap.size t_i64 w4 v (ints (nats ((r.map (trM f V)).reverse)) ++ [.int .i64 ((trM f V q : Nat) : Int)] ++ [.int .i64 ((trM f V p : Nat) : Int)]) := by simpa [Fm.kids, ints, nats] using ho
      refine iClo rfl ((ok_truthSet_1 hB7 ho (by decide)).mono ?_)
      rintro u1 w5 ⟨rfl, v5, hB75, ho5, c5⟩
      refine iClo rfl ((ok_truthSet_1 hB75 ho5 (by decide)).mono ?_)
      rintro u2 w6 ⟨rfl, v6, hB76, ho6, c6⟩
      refine iBOr (h63 _) (h63 _) ?_
      intro _; intro _; intro _
      simp only [gx]
      have c46 : Ch (fun c => c = b7) w4 w6 := c5.trans c6 fun b hb => .inl hb
      exact go w6 v6 (hsub c46) (hB3.ch c46 (hB3.ne_blk hB7 (by decide))) hB76 ho6
    | imp p q =>
      refine iEq (iCndF (by first | rfl | decide) ?_)
      refine iEq (iCndF (by first | rfl | decide) ?_)
      refine iEq (iCndF (by first | rfl | decide) ?_)
      refine iEq (iCndT (by first | rfl | decide) ?_)
      have ho : Ow w.heap.size t_i64 w4 v (ints (nats ((r.map (trM f V)).reverse)) ++ [.int .i64 ((trM f V q : Nat) : Int)] ++ [.int .i64 ((trM f V p : Nat) : Int)]) := by simpa [Fm.kids, ints, nats] using ho
      refine iClo rfl ((ok_truthSet_1 hB7 ho (by decide)).mono ?_)
      rintro u1 w5 ⟨rfl, v5, hB75, ho5, c5⟩
      refine iBAndNot hfull (h63 _) ?_
      refine iClo rfl ((ok_truthSet_1 hB75 ho5 (by decide)).mono ?_)
      rintro u2 w6 ⟨rfl, v6, hB76, ho6, c6⟩
      refine iBOr (Nat.lt_of_lt_of_le (sdiff_lt (full_lt _)) hp63) (h63 _) ?_
      intro _; intro _; intro _; intro _
      simp only [gx]
      have c46 : Ch (fun c => c = b7) w4 w6 := c5.trans c6 fun b hb => .inl hb
      exact go w6 v6 (hsub c46) (hB3.ch c46 (hB3.ne_blk hB7 (by decide))) hB76 ho6
    | box p =>
      refine iEq (iCndF (by first | rfl | decide) ?_)
      refine iEq (iCndF (by first | rfl | decide) ?_)
      refine iEq (iCndF (by first | rfl | decide) ?_)
      refine iEq (iCndF (by first | rfl | decide) ?_)
      refine iEq (iCndT (by first | rfl | decide) ?_)
      have ho : Ow w.heap.size t_i64 w4 v (ints (nats ((r.map (trM f V)).reverse)) ++ [.int .i64 ((trM f V p : Nat) : Int)]) := by simpa [Fm.kids, ints, nats] using ho
      refine ⟨fun c => c = b7, iFa (iLdB hB3 (i := 1) (v := va) rfl ⟨fun w7 c7 => iLdB (hB3.ch c7 (hB3.ne_blk hB7 (by decide))) (i := 1) (v := va) rfl rfl, fun w6 x6 => ?_⟩)⟩
      refine iClo rfl ((ok_truthSet_1 (hB7.ext x6) (ho.ext x6) (by decide)).mono ?_)
      rintro u1 w5 ⟨rfl, v5, hB75, ho5, c5⟩
      have c45 : Ch (fun c => c = b7) w4 w5 := (x6.ch (S := fun c => c = b7)).trans c5 fun b hb => .inl hb
      refine ⟨c5, _, fun w8 c8 => iCall ((ok_impl_box (hs.ext (hsub (c45.trans c8 fun b hb => .inl hb))) (by omega) ha8 _ (h63 p)).mono fun _ _ h => h), ?_⟩
      intro w8 x8
      have c48 : Ch (fun c => c = b7) w4 w8 := c45.trans x8.ch (S' := fun c => c = b7) fun b hb => .inl hb
      intro _; intro _; intro _; intro _; intro _
      simp only [gx]
      have := go w8 v5 (hsub c48) (hB3.ch c48 (hB3.ne_blk hB7 (by decide))) (hB75.ext x8) (ho5.ext x8)
      rw [show trM f V (.box p) = boxK f.a (trM f V p) f.a.length by rw [hf.2.1]; rfl] at this
      exact this
    | dia p =>
      refine iEq (iCndF (by first | rfl | decide) ?_)
      refine iEq (iCndF (by first | rfl | decide) ?_)
      refine iEq (iCndF (by first | rfl | decide) ?_)
      refine iEq (iCndF (by first | rfl | decide) ?_)
      refine iEq (iCndF (by first | rfl | decide) ?_)
      refine iEq (iCndT (by first | rfl | decide) ?_)
      have ho : Ow w.heap.size t_i64 w4 v (ints (nats ((r.map (trM f V)).reverse)) ++ [.int .i64 ((trM f V p : Nat) : Int)]) := by simpa [Fm.kids, ints, nats] using ho
      refine ⟨fun c => c = b7, iFa (iLdB hB3 (i := 1) (v := va) rfl ⟨fun w7 c7 => iLdB (hB3.ch c7 (hB3.ne_blk hB7 (by decide))) (i := 1) (v := va) rfl rfl, fun w6 x6 => ?_⟩)⟩
      refine iClo rfl ((ok_truthSet_1 (hB7.ext x6) (ho.ext x6) (by decide)).mono ?_)
      rintro u1 w5 ⟨rfl, v5, hB75, ho5, c5⟩
      have c45 : Ch (fun c => c = b7) w4 w5 := (x6.ch (S := fun c => c = b7)).trans c5 fun b hb => .inl hb
      refine ⟨c5, iBAndNot hfull (h63 _) ⟨_, fun w8 c8 => iCall ((ok_impl_box (hs.ext (hsub (c45.trans c8 fun b hb => .inl hb))) (by omega) ha8 _ (Nat.lt_of_lt_of_le (sdiff_lt (full_lt _)) hp63)).mono fun _ _ h => h), ?_⟩⟩
      refine iBAndNot hfull (Nat.lt_of_lt_of_le (boxK_lt _ _ _) (by rw [hf.2.1]; exact hp63)) ?_
      intro w8 x8
      have c48 : Ch (fun c => c = b7) w4 w8 := c45.trans x8.ch (S' := fun c => c = b7) fun b hb => .inl hb
      intro _; intro _; intro _; intro _; intro _; intro _
      simp only [gx]
      have := go w8 v5 (hsub c48) (hB3.ch c48 (hB3.ne_blk hB7 (by decide))) (hB75.ext x8) (ho5.ext x8)
      rw [show trM f V (.dia p) = sdiff (2 ^ f.n - 1) (boxK f.a (sdiff (2 ^ f.n - 1) (trM f V p)) f.a.length) by rw [hf.2.1]; rfl] at this
      exact this
  · have h0 : n = 0 := by omega
    subst h0
    have e : stkM f V a 0 = [trM f V a] := by simp [stkM, sfx]
    rw [e] at ho
    refine iLdB hB7 (v := v) rfl ?_
    refine iIa (j := 0) ho.sl (by omega) (by simp [ints, nats]) fun p hp => ?_
    refine iLd (v := .int .i64 ((trM f V a : Nat) : Int)) (by rw [hp]; simp [ints, nats]) ⟨rfl, x4⟩
theorem ok_spec_l06Truth {f : Fr} (hf : f.ok) {vals : List Nat} (h6 : vals.length = 6) (hlt : ∀ x ∈ vals, x < 2 ^ f.n) : ∀ (a : Fm) {va vv vn : Value} {w : World}, SlN w va f.a → SlN w vv vals → FmS w vn a → Fm.good a → a.size ≤ 1000000 →
    Ret Tryz.prog f_spec_l06Truth #[.agg #[.int .i64 (f.n : Int), va, vv], vn] w (.int .i64 ((trM f (fun v => vals.getD v 0) a : Nat) : Int)) := by
  obtain ⟨V, hVe⟩ : ∃ V : Nat → Nat, V = fun v => vals.getD v 0 := ⟨_, rfl⟩
  rw [← hVe]
  have hV : ∀ v, V v < 2 ^ f.n := fun v => by
    rw [hVe]
    show vals.getD v 0 < _
    rcases Nat.lt_or_ge v vals.length with h | h
    · exact getD_lt hlt h
    · rw [List.getD_eq_getElem?_getD, List.getElem?_eq_none h]; exact Nat.two_pow_pos _
  have hp63 : 2 ^ f.n ≤ 2 ^ 63 := Nat.pow_le_pow_right (by omega) (by have := hf.1; omega)
  have h63 : ∀ g, trM f V g < 2 ^ 63 := fun g => Nat.lt_of_lt_of_le (trM_lt hV g) hp63
  have hfull : 2 ^ f.n - 1 < 2 ^ 63 := Nat.lt_of_lt_of_le (full_lt _) hp63
  have hf8 := hf.1
  have hal := hf.2.1
  have ha8 : ∀ x ∈ f.a, x < 2 ^ 8 := fun x hx => Nat.lt_of_lt_of_le (hf.2.2 x hx) (Nat.pow_le_pow_right (by omega) hf8)
  have hfu : ∀ w, Ret Tryz.prog f_spec_l01Full #[.int .i64 (f.n : Int)] w (.int .i64 ((2 ^ f.n - 1 : Nat) : Int)) := fun w => ok_spec_l01Full f.n (by omega) w
  intro a
  induction a with
  | var z =>
    intro va vv vn w hs hv ha hpl _
    have hz : z < 6 := hpl
    apply c_spec_l06Truth; unfold S_spec_l06Truth
    refine iNew fun b w1 hb1 x1 hB => ?_
    have hB : Blk _ w1 b [.int .i64 (f.n : Int), va, vv] := hB
    refine iFa (iFa (iLdB hB (i := 0) (v := .int .i64 (f.n : Int)) rfl ?_))
    refine iRet (hfu w1) fun w2 x2 => ?_
    have X2 := x1.trans x2
    refine iFld (f := 0) (ha.ext X2) rfl (by simp [Fm.size]) (by decide) (kind_fst ha).1 ?_
    refine iEq (iCndT (by first | rfl | decide) ?_)
    refine iFa (iLdB (hB.ext x2) (i := 2) (v := vv) rfl ?_)
    refine iFld (f := 1) (ha.ext X2) rfl (by simp [Fm.size]) (by decide) (kind_fst ha).2 ?_
    refine iIaNN (j := z) (hv.ext X2) (by omega) fun p hp => iLd hp ?_
    exact fun w3 x3 => ⟨by rw [hVe]; rfl, X2.trans x3⟩
  | fls =>
    intro va vv vn w hs hv ha hpl _
    apply c_spec_l06Truth; unfold S_spec_l06Truth
    refine iNew fun b w1 hb1 x1 hB => ?_
    have hB : Blk _ w1 b [.int .i64 (f.n : Int), va, vv] := hB
    refine iFa (iFa (iLdB hB (i := 0) (v := .int .i64 (f.n : Int)) rfl ?_))
    refine iRet (hfu w1) fun w2 x2 => ?_
    have X2 := x1.trans x2
    refine iFld (f := 0) (ha.ext X2) rfl (by simp [Fm.size]) (by decide) (kind_fst ha).1 ?_
    refine iEq (iCndF (by first | rfl | decide) ?_)
    exact iEq (iCndT (by first | rfl | decide) ⟨rfl, X2⟩)
  | and p q ihp ihq =>
    intro va vv vn w hs hv ha hpl hsz
    simp only [Fm.size] at hsz
    apply c_spec_l06Truth; unfold S_spec_l06Truth
    refine iNew fun b w1 hb1 x1 hB => ?_
    have hB : Blk _ w1 b [.int .i64 (f.n : Int), va, vv] := hB
    refine iFa (iFa (iLdB hB (i := 0) (v := .int .i64 (f.n : Int)) rfl ?_))
    refine iRet (hfu w1) fun w2 x2 => ?_
    have X2 := x1.trans x2
    have hB := hB.ext x2
    refine iFld (f := 0) (ha.ext X2) rfl (by simp [Fm.size]; try omega) (by decide) (kind_fst ha).1 ?_
    refine iEq (iCndF (by first | rfl | decide) ?_)
    refine iEq (iCndF (by first | rfl | decide) ?_)
    refine iEq (iCndF (by first | rfl | decide) ?_)
    refine iEq (iCndF (by first | rfl | decide) ?_)
    refine iEq (iCndT (by first | rfl | decide) ?_)
    refine iLdA hB rfl (iLdA hB rfl ?_)
    intro w6 x6
    have X6 := X2.trans x6
    refine iCall ((ok_spec_l02LeftP (gs := [q]) (ha.ext X6) rfl (by simp only [Fm.size]; omega)).mono ?_)
    rintro u w7 ⟨x7, hu⟩
    have X7 := X6.trans x7
    refine ⟨x7, ?_⟩
    refine iRetQ (fun w' x => ihp ((hs.ext X7).ext x) ((hv.ext X7).ext x) (hu.ext x) hpl.1 (by omega)) ?_
    intro w8 x8
    have X8 := X7.trans x8
    refine iCall ((ok_spec_l02RightP (ha.ext X8) rfl (by simp only [Fm.size]; omega)).mono ?_)
    rintro u5 w9 ⟨x9, hu5⟩
    refine ⟨x9, ?_⟩
    have X9 := X8.trans x9
    refine iRetQ (fun w' x => ihq ((hs.ext X9).ext x) ((hv.ext X9).ext x) (hu5.ext x) hpl.2 (by omega)) ?_
    refine iBAnd (h63 _) (h63 _) ?_
    exact fun w10 x10 => ⟨rfl, X9.trans x10⟩
  | or p q ihp ihq =>
    intro va vv vn w hs hv ha hpl hsz
    simp only [Fm.size] at hsz
    apply c_spec_l06Truth; unfold S_spec_l06Truth
    refine iNew fun b w1 hb1 x1 hB => ?_
    have hB : Blk _ w1 b [.int .i64 (f.n : Int), va, vv] := hB
    refine iFa (iFa (iLdB hB (i := 0) (v := .int .i64 (f.n : Int)) rfl ?_))
    refine iRet (hfu w1) fun w2 x2 => ?_
    have X2 := x1.trans x2
    have hB := hB.ext x2
    refine iFld (f := 0) (ha.ext X2) rfl (by simp [Fm.size]; try omega) (by decide) (kind_fst ha).1 ?_
    refine iEq (iCndF (by first | rfl | decide) ?_)
    refine iEq (iCndF (by first | rfl | decide) ?_)
    refine iEq (iCndF (by first | rfl | decide) ?_)
    refine iEq (iCndF (by first | rfl | decide) ?_)
    refine iEq (iCndF (by first | rfl | decide) ?_)
    refine iEq (iCndT (by first | rfl | decide) ?_)
    refine iLdA hB rfl (iLdA hB rfl ?_)
    intro w6 x6
    have X6 := X2.trans x6
    refine iCall ((ok_spec_l02LeftP (gs := [q]) (ha.ext X6) rfl (by simp only [Fm.size]; omega)).mono ?_)
    rintro u w7 ⟨x7, hu⟩
    have X7 := X6.trans x7
    refine ⟨x7, ?_⟩
    refine iRetQ (fun w' x => ihp ((hs.ext X7).ext x) ((hv.ext X7).ext x) (hu.ext x) hpl.1 (by omega)) ?_
    intro w8 x8
    have X8 := X7.trans x8
    refine iCall ((ok_spec_l02RightP (ha.ext X8) rfl (by simp only [Fm.size]; omega)).mono ?_)
    rintro u5 w9 ⟨x9, hu5⟩
    refine ⟨x9, ?_⟩
    have X9 := X8.trans x9
    refine iRetQ (fun w' x => ihq ((hs.ext X9).ext x) ((hv.ext X9).ext x) (hu5.ext x) hpl.2 (by omega)) ?_
    refine iBOr (h63 _) (h63 _) ?_
    exact fun w10 x10 => ⟨rfl, X9.trans x10⟩
  | imp p q ihp ihq =>
    intro va vv vn w hs hv ha hpl hsz
    simp only [Fm.size] at hsz
    apply c_spec_l06Truth; unfold S_spec_l06Truth
    refine iNew fun b w1 hb1 x1 hB => ?_
    have hB : Blk _ w1 b [.int .i64 (f.n : Int), va, vv] := hB
    refine iFa (iFa (iLdB hB (i := 0) (v := .int .i64 (f.n : Int)) rfl ?_))
    refine iRet (hfu w1) fun w2 x2 => ?_
    have X2 := x1.trans x2
    have hB := hB.ext x2
    refine iFld (f := 0) (ha.ext X2) rfl (by simp [Fm.size]; try omega) (by decide) (kind_fst ha).1 ?_
    refine iEq (iCndF (by first | rfl | decide) ?_)
    refine iEq (iCndF (by first | rfl | decide) ?_)
    refine iEq (iCndF (by first | rfl | decide) ?_)
    refine iEq (iCndF (by first | rfl | decide) ?_)
    refine iEq (iCndF (by first | rfl | decide) ?_)
    refine iEq (iCndF (by first | rfl | decide) ?_)
    refine iLdA hB rfl (iLdA hB rfl ?_)
    intro w6 x6
    have X6 := X2.trans x6
    refine iCall ((ok_spec_l02LeftP (gs := [q]) (ha.ext X6) rfl (by simp only [Fm.size]; omega)).mono ?_)
    rintro u w7 ⟨x7, hu⟩
    have X7 := X6.trans x7
    refine ⟨x7, ?_⟩
    refine iRetQ (fun w' x => ihp ((hs.ext X7).ext x) ((hv.ext X7).ext x) (hu.ext x) hpl.1 (by omega)) ?_
    refine iBAndNot hfull (h63 _) ?_
    intro w8 x8
    have X8 := X7.trans x8
    refine iCall ((ok_spec_l02RightP (ha.ext X8) rfl (by simp only [Fm.size]; omega)).mono ?_)
    rintro u5 w9 ⟨x9, hu5⟩
    refine ⟨x9, ?_⟩
    have X9 := X8.trans x9
    refine iRetQ (fun w' x => ihq ((hs.ext X9).ext x) ((hv.ext X9).ext x) (hu5.ext x) hpl.2 (by omega)) ?_
    refine iBOr (Nat.lt_of_lt_of_le (sdiff_lt (full_lt _)) hp63) (h63 _) ?_
    exact fun w10 x10 => ⟨rfl, X9.trans x10⟩
  | box p ihp =>
    intro va vv vn w hs hv ha hpl hsz
    simp only [Fm.size] at hsz
    apply c_spec_l06Truth; unfold S_spec_l06Truth
    refine iNew fun b w1 hb1 x1 hB => ?_
    have hB : Blk _ w1 b [.int .i64 (f.n : Int), va, vv] := hB
    refine iFa (iFa (iLdB hB (i := 0) (v := .int .i64 (f.n : Int)) rfl ?_))
    refine iRet (hfu w1) fun w2 x2 => ?_
    have X2 := x1.trans x2
    have hB := hB.ext x2
    refine iFld (f := 0) (ha.ext X2) rfl (by simp [Fm.size]; try omega) (by decide) (kind_fst ha).1 ?_
    refine iEq (iCndF (by first | rfl | decide) ?_)
    refine iEq (iCndF (by first | rfl | decide) ?_)
    refine iEq (iCndT (by first | rfl | decide) ?_)
    refine iFa (iFa (iLdB hB (i := 1) (v := va) rfl ?_))
    refine iLdA hB rfl ?_
    refine iTY (i := 1) (ha.ext X2) rfl (by simp only [Fm.size]; omega) fun v' hv' => ?_
    have hp : FmS w2 v' p := by
      have e : (Fm.box p).cells.drop (1 * 2) = p.cells := by simp [Fm.cells, nd]
      rw [e, show (Fm.box p).size - 1 = p.size by simp only [Fm.size]; omega] at hv'
      exact hv'
    refine iRetQ (fun w' x => ihp ((hs.ext X2).ext x) ((hv.ext X2).ext x) (hp.ext x) hpl (by omega)) ?_
    refine iRetQ (fun w' x => ok_spec_l01Box ((hs.ext X2).ext x) (by omega) ha8 _ (h63 p)) ?_
    rw [hal]
    exact fun w10 x10 => ⟨rfl, X2.trans x10⟩
  | dia p ihp =>
    intro va vv vn w hs hv ha hpl hsz
    simp only [Fm.size] at hsz
    apply c_spec_l06Truth; unfold S_spec_l06Truth
    refine iNew fun b w1 hb1 x1 hB => ?_
    have hB : Blk _ w1 b [.int .i64 (f.n : Int), va, vv] := hB
    refine iFa (iFa (iLdB hB (i := 0) (v := .int .i64 (f.n : Int)) rfl ?_))
    refine iRet (hfu w1) fun w2 x2 => ?_
    have X2 := x1.trans x2
    have hB := hB.ext x2
    refine iFld (f := 0) (ha.ext X2) rfl (by simp [Fm.size]; try omega) (by decide) (kind_fst ha).1 ?_
    refine iEq (iCndF (by first | rfl | decide) ?_)
    refine iEq (iCndF (by first | rfl | decide) ?_)
    refine iEq (iCndF (by first | rfl | decide) ?_)
    refine iEq (iCndT (by first | rfl | decide) ?_)
    refine iFa (iFa (iLdB hB (i := 1) (v := va) rfl ?_))
    refine iLdA hB rfl ?_
    refine iTY (i := 1) (ha.ext X2) rfl (by simp only [Fm.size]; omega) fun v' hv' => ?_
    have hp : FmS w2 v' p := by
      have e : (Fm.dia p).cells.drop (1 * 2) = p.cells := by simp [Fm.cells, nd]
      rw [e, show (Fm.dia p).size - 1 = p.size by simp only [Fm.size]; omega] at hv'
      exact hv'
    refine iRetQ (fun w' x => ihp ((hs.ext X2).ext x) ((hv.ext X2).ext x) (hp.ext x) hpl (by omega)) ?_
    refine iBAndNot hfull (h63 _) ?_
    refine iRetQ (fun w' x => ok_spec_l01Box ((hs.ext X2).ext x) (by omega) ha8 _ (Nat.lt_of_lt_of_le (sdiff_lt (full_lt _)) hp63)) ?_
    rw [hal]
    refine iBAndNot hfull (Nat.lt_of_lt_of_le (boxK_lt _ _ _) hp63) ?_
    exact fun w10 x10 => ⟨rfl, X2.trans x10⟩
end Go.Proofs.YtmefbjdioaahdaaGreatDoor

/- Plain facts: filtrations of a model by a formula: parts, alike worlds, what condition 2 allows. No program in sight. Conditions: none. -/
namespace Go.Proofs.YtmefbjdioaahdaaGreatDoor
open Go.Vc
/-- The part that begins at node i. -/
def partF (a : Fm) (i : Nat) : Fm := (sfx [a] i).headD .fls
/-- A modal part: a box or not, where it is true, where its part is. -/
abbrev Md := Bool × Nat × Nat
def mdOf (f : Fr) (V : Nat → Nat) : Fm → List Md
  | .box g => [(true, trM f V (.box g), trM f V g)]
  | .dia g => [(false, trM f V (.dia g), trM f V g)]
  | _ => []
def mdL (f : Fr) (V : Nat → Nat) (a : Fm) (k : Nat) : List Md := (List.range k).flatMap fun i => mdOf f V (partF a i)
def mkL (f : Fr) (V : Nat → Nat) (a : Fm) (k : Nat) : List Nat := (List.range k).map fun i => trM f V (partF a i)
theorem sfx_cons {a : Fm} {i : Nat} (hi : i < a.size) : ∃ r, sfx [a] i = partF a i :: r := by
  have h := sfx_size i [a]
  rw [show sizeL [a] = a.size by simp [sizeL]] at h
  unfold partF
  cases hs : sfx [a] i with
  | nil => rw [hs] at h; simp [sizeL] at h; omega
  | cons g r => exact ⟨r, rfl⟩
theorem part_next {a g : Fm} {i : Nat} (hi : i < a.size) (hk : (partF a i).kids = [g]) : partF a (i + 1) = g ∧ i + 1 < a.size := by
  obtain ⟨r, hr⟩ := sfx_cons hi
  have h1 := sfx_succ i [a]
  rw [hr] at h1
  have h1 : sfx [a] (i + 1) = (partF a i).kids ++ r := h1
  rw [hk] at h1
  refine ⟨?_, ?_⟩
  · unfold partF; rw [h1]; rfl
  · have h2 := sfx_size (i + 1) [a]
    rw [h1, show sizeL [a] = a.size by simp [sizeL]] at h2
    have := g.size_pos
    simp only [List.cons_append, List.nil_append] at h2
    have h3 : sizeL (g :: r) = g.size + sizeL r := by simp [sizeL]
    omega
/-- What a modal part and its part are is told by the parts' masks. -/
theorem mdL_mk {f : Fr} {V : Nat → Nat} {a : Fm} {d : Md} (h : d ∈ mdL f V a a.size) : d.2.1 ∈ mkL f V a a.size ∧ d.2.2 ∈ mkL f V a a.size := by
  obtain ⟨i, hi, hd⟩ := List.mem_flatMap.1 h
  have hi := List.mem_range.1 hi
  have key : ∀ j, j < a.size → trM f V (partF a j) ∈ mkL f V a a.size := fun j hj => List.mem_map.2 ⟨j, List.mem_range.2 hj, rfl⟩
  have h0 := key i hi
  cases hp : partF a i with
  | box g =>
    rw [hp] at hd h0
    obtain ⟨e, h1⟩ := part_next (g := g) hi (by rw [hp]; rfl)
    have h2 := key _ h1
    rw [e] at h2
    rw [mdOf, List.mem_singleton] at hd
    subst hd
    exact ⟨h0, h2⟩
  | dia g =>
    rw [hp] at hd h0
    obtain ⟨e, h1⟩ := part_next (g := g) hi (by rw [hp]; rfl)
    have h2 := key _ h1
    rw [e] at h2
    rw [mdOf, List.mem_singleton] at hd
    subst hd
    exact ⟨h0, h2⟩
  | _ => rw [hp] at hd; cases hd
/-- Each modal part is what its modality says. -/
theorem mdL_of {f : Fr} {V : Nat → Nat} {a : Fm} {d : Md} (h : d ∈ mdL f V a a.size) : (∃ g, d = (true, trM f V (.box g), trM f V g)) ∨ ∃ g, d = (false, trM f V (.dia g), trM f V g) := by
  obtain ⟨i, hi, hd⟩ := List.mem_flatMap.1 h
  cases hp : partF a i with
  | box g => rw [hp, mdOf, List.mem_singleton] at hd; exact .inl ⟨g, hd⟩
  | dia g => rw [hp, mdOf, List.mem_singleton] at hd; exact .inr ⟨g, hd⟩
  | _ => rw [hp] at hd; cases hd
/-- Worlds at which the same parts are true. -/
def alk (M : List Nat) (w v : Nat) : Bool := M.all fun m => decide (m.testBit w = m.testBit v)
theorem alk_iff {M : List Nat} {w v : Nat} : alk M w v = true ↔ ∀ m ∈ M, m.testBit w = m.testBit v := by
  unfold alk; rw [List.all_eq_true]; simp
theorem alk_refl (M : List Nat) (w : Nat) : alk M w w = true := alk_iff.2 fun _ _ => rfl
theorem alk_symm {M : List Nat} {w v : Nat} (h : alk M w v = true) : alk M v w = true := alk_iff.2 fun m hm => (alk_iff.1 h m hm).symm
theorem alk_trans {M : List Nat} {w v u : Nat} (h : alk M w v = true) (k : alk M v u = true) : alk M w u = true := alk_iff.2 fun m hm => (alk_iff.1 h m hm).trans (alk_iff.1 k m hm)
/-- The classes of the first worlds, and the first world of each. -/
def clsS (M : List Nat) : Nat → List Nat × List Nat
  | 0 => ([], [])
  | w + 1 => match (clsS M w).2.findIdx? fun u => alk M w u with
    | some k => ((clsS M w).1 ++ [k], (clsS M w).2)
    | none => ((clsS M w).1 ++ [(clsS M w).2.length], (clsS M w).2 ++ [w])
/-- What the classes are. -/
structure ClsOk (M : List Nat) (n : Nat) (c F : List Nat) : Prop where
  len : c.length = n
  flt : ∀ u ∈ F, u < n
  at_ : ∀ w, w < n → c.getD w 0 < F.length ∧ alk M w (F.getD (c.getD w 0) 0) = true
  apart : ∀ i j, i < F.length → j < F.length → alk M (F.getD i 0) (F.getD j 0) = true → i = j
theorem getD_snoc {l : List Nat} {x i : Nat} : (l ++ [x]).getD i 0 = if i < l.length then l.getD i 0 else if i = l.length then x else 0 := by
  simp only [List.getD_eq_getElem?_getD]
  by_cases h : i < l.length
  · rw [if_pos h, List.getElem?_append_left h]
  · rw [if_neg h, List.getElem?_append_right (by omega)]
    by_cases h2 : i = l.length
    · rw [if_pos h2, h2, Nat.sub_self]; rfl
    · rw [if_neg h2]
      obtain ⟨k, hk⟩ : ∃ k, i - l.length = k + 1 := ⟨i - l.length - 1, by omega⟩
      rw [hk]; rfl
theorem clsS_ok (M : List Nat) : ∀ n, ClsOk M n (clsS M n).1 (clsS M n).2
  | 0 => ⟨rfl, fun u hu => (by cases hu), fun w hw => absurd hw (Nat.not_lt_zero _), fun i j hi => absurd hi (Nat.not_lt_zero _)⟩
  | n + 1 => by
    have ih := clsS_ok M n
    rw [clsS]
    cases hf : (clsS M n).2.findIdx? fun u => alk M n u with
    | some k =>
      obtain ⟨hk, hak, _⟩ := List.findIdx?_eq_some_iff_getElem.1 hf
      refine ⟨by rw [List.length_append, ih.len]; rfl, fun u hu => Nat.lt_succ_of_lt (ih.flt u hu), fun w hw => ?_, ih.apart⟩
      rw [getD_snoc, ih.len]
      by_cases h : w < n
      · rw [if_pos h]; exact ih.at_ w h
      · have : w = n := by omega
        subst this
        rw [if_neg h, if_pos rfl]
        refine ⟨hk, ?_⟩
        rw [show (clsS M w).2.getD k 0 = (clsS M w).2[k] by simp [hk]]
        exact hak
    | none =>
      have hno := List.findIdx?_eq_none_iff.1 hf
      refine ⟨by rw [List.length_append, ih.len]; rfl, fun u hu => ?_, fun w hw => ?_, fun i j hi hj h => ?_⟩
      · rcases List.mem_append.1 hu with h | h
        · exact Nat.lt_succ_of_lt (ih.flt u h)
        · rw [List.mem_singleton] at h; omega
      · rw [getD_snoc, ih.len, List.length_append, List.length_singleton]
        by_cases h : w < n
        · rw [if_pos h]
          obtain ⟨h1, h2⟩ := ih.at_ w h
          refine ⟨by omega, ?_⟩
          rw [getD_snoc, if_pos h1]; exact h2
        · have : w = n := by omega
          subst this
          rw [if_neg h, if_pos rfl]
          refine ⟨by omega, ?_⟩
          rw [getD_snoc, if_neg (Nat.lt_irrefl _), if_pos rfl]; exact alk_refl _ _
      · rw [List.length_append, List.length_singleton] at hi hj
        have hn : ∀ i, i < (clsS M n).2.length → ¬ alk M n ((clsS M n).2.getD i 0) = true := fun i hi h => by
          rw [show (clsS M n).2.getD i 0 = (clsS M n).2[i] by simp [hi]] at h
          have := hno _ (List.getElem_mem hi)
          rw [h] at this; cases this
        rw [getD_snoc, getD_snoc] at h
        by_cases h1 : i < (clsS M n).2.length <;> by_cases h2 : j < (clsS M n).2.length
        · rw [if_pos h1, if_pos h2] at h; exact ih.apart i j h1 h2 h
        · rw [if_pos h1, if_neg h2, if_pos (show j = _ by omega)] at h
          exact absurd (alk_symm h) (hn i h1)
        · rw [if_neg h1, if_pos (show i = _ by omega), if_pos h2] at h
          exact absurd h (hn j h2)
        · omega
theorem ClsOk.iff {M : List Nat} {n : Nat} {c F : List Nat} (h : ClsOk M n c F) {w v : Nat} (hw : w < n) (hv : v < n) : c.getD w 0 = c.getD v 0 ↔ alk M w v = true := by
  obtain ⟨h1, h2⟩ := h.at_ w hw
  obtain ⟨h3, h4⟩ := h.at_ v hv
  constructor
  · intro e
    rw [e] at h2
    exact alk_trans h2 (alk_symm h4)
  · intro k
    exact h.apart _ _ h1 h3 (alk_trans (alk_symm h2) (alk_trans k h4))
theorem ClsOk.first {M : List Nat} {n : Nat} {c F : List Nat} (h : ClsOk M n c F) {x : Nat} (hx : x < F.length) : F.getD x 0 < n ∧ c.getD (F.getD x 0) 0 = x := by
  have hm : F.getD x 0 < n := h.flt _ (by rw [show F.getD x 0 = F[x] by simp [hx]]; exact List.getElem_mem _)
  obtain ⟨h1, h2⟩ := h.at_ _ hm
  exact ⟨hm, (h.apart _ _ hx h1 h2).symm⟩
/-- What condition 2 allows; 'more' is for transitive frames. -/
def mayD (more : Bool) (w v : Nat) (d : Md) : Bool := if d.1 then !d.2.1.testBit w || (d.2.2.testBit v && (!more || d.2.1.testBit v)) else d.2.1.testBit w || (!d.2.2.testBit v && (!more || !d.2.1.testBit v))
def mayB (B : List Md) (more : Bool) (w v : Nat) : Bool := B.all (mayD more w v)
theorem mayB_congr {f : Fr} {V : Nat → Nat} {a : Fm} {more : Bool} {w w' v v' : Nat} (h : alk (mkL f V a a.size) w w' = true) (k : alk (mkL f V a a.size) v v' = true) : mayB (mdL f V a a.size) more w v = mayB (mdL f V a a.size) more w' v' := by
  have hh := alk_iff.1 h
  have kk := alk_iff.1 k
  unfold mayB
  rw [Bool.eq_iff_iff, List.all_eq_true, List.all_eq_true]
  refine forall_congr' fun d => imp_congr_right fun hd => ?_
  obtain ⟨h1, h2⟩ := mdL_mk hd
  unfold mayD
  rw [hh _ h1, kk _ h1, kk _ h2]
theorem mayB_less {B : List Md} {w v : Nat} (h : mayB B true w v = true) : mayB B false w v = true := by
  unfold mayB at *
  rw [List.all_eq_true] at *
  intro d hd
  have := h d hd
  unfold mayD at *
  split at this
  · rename_i e; rw [if_pos e]; revert this; cases d.2.1.testBit w <;> cases d.2.2.testBit v <;> simp
  · rename_i e; rw [if_neg e]; revert this; cases d.2.1.testBit w <;> cases d.2.2.testBit v <;> simp
theorem box_bit {f : Fr} {V : Nat → Nat} {g : Fm} {w : Nat} (hw : w < f.n) : (trM f V (.box g)).testBit w = true ↔ ∀ v, f.R w v → (trM f V g).testBit v = true := by
  rw [trM, boxK_bit]
  exact ⟨fun h => h.2, fun h => ⟨hw, h⟩⟩
theorem dia_bit {f : Fr} (hf : f.ok) {V : Nat → Nat} {g : Fm} {w : Nat} (hw : w < f.n) : (trM f V (.dia g)).testBit w = true ↔ ∃ v, f.R w v ∧ (trM f V g).testBit v = true := by
  rw [trM, testBit_sdiff, Nat.testBit_two_pow_sub_one, Bool.and_eq_true, decide_eq_true_eq, Bool.not_eq_true', Bool.eq_false_iff, Ne, boxK_bit]
  constructor
  · rintro ⟨_, h⟩
    refine Classical.byContradiction fun hn => h ⟨hw, fun v hv => ?_⟩
    rw [testBit_sdiff, Nat.testBit_two_pow_sub_one, Bool.and_eq_true, decide_eq_true_eq, Bool.not_eq_true', Bool.eq_false_iff]
    exact ⟨(fr_bit_lt hf hv).2, fun e => hn ⟨v, hv, e⟩⟩
  · rintro ⟨v, hv, e⟩
    refine ⟨hw, fun h => ?_⟩
    have := h.2 v hv
    rw [testBit_sdiff, e] at this
    simp at this
/-- Arrows are allowed. -/
theorem may_arrow {f : Fr} (hf : f.ok) {V : Nat → Nat} {a : Fm} {w v : Nat} (h : f.R w v) : mayB (mdL f V a a.size) false w v = true := by
  obtain ⟨hw, hv⟩ := fr_bit_lt hf h
  unfold mayB
  rw [List.all_eq_true]
  intro d hd
  rcases mdL_of hd with ⟨g, rfl⟩ | ⟨g, rfl⟩
  · unfold mayD
    rw [if_pos rfl]
    cases hb : (trM f V (.box g)).testBit w
    · rfl
    · rw [(box_bit hw).1 hb v h]; rfl
  · unfold mayD
    rw [if_neg (by simp)]
    cases hb : (trM f V g).testBit v
    · simp
    · rw [(dia_bit hf hw).2 ⟨v, h, hb⟩]; rfl
theorem may_arrowT {f : Fr} (hf : f.ok) (ht : flagP f.n f.R 2) {V : Nat → Nat} {a : Fm} {w v : Nat} (h : f.R w v) : mayB (mdL f V a a.size) true w v = true := by
  obtain ⟨hw, hv⟩ := fr_bit_lt hf h
  unfold mayB
  rw [List.all_eq_true]
  intro d hd
  rcases mdL_of hd with ⟨g, rfl⟩ | ⟨g, rfl⟩
  · unfold mayD
    rw [if_pos rfl]
    cases hb : (trM f V (.box g)).testBit w
    · rfl
    · have h1 := (box_bit hw).1 hb
      have h2 : (trM f V (.box g)).testBit v = true := (box_bit hv).2 fun u hu => h1 u (ht w v u hw hv (fr_bit_lt hf hu).2 h hu)
      rw [h1 v h, h2]; rfl
  · unfold mayD
    rw [if_neg (by simp)]
    cases hb : (trM f V (.dia g)).testBit w
    · have hn : ∀ u, f.R w u → (trM f V g).testBit u = false := fun u hu => by
        rw [Bool.eq_false_iff]; intro e
        rw [(dia_bit hf hw).2 ⟨u, hu, e⟩] at hb; cases hb
      have h2 : (trM f V (.dia g)).testBit v = false := by
        rw [Bool.eq_false_iff]; intro e
        obtain ⟨u, hu, e⟩ := (dia_bit hf hv).1 e
        rw [hn u (ht w v u hw hv (fr_bit_lt hf hu).2 h hu)] at e; cases e
      rw [hn v h, h2]; rfl
    · rfl
theorem may_trans {B : List Md} {w v u : Nat} (h : mayB B true w v = true) (k : mayB B true v u = true) : mayB B true w u = true := by
  unfold mayB at *
  rw [List.all_eq_true] at *
  intro d hd
  have h := h d hd
  have k := k d hd
  unfold mayD at *
  obtain ⟨b, o, i⟩ := d
  revert h k
  cases b <;> simp only [if_true, if_false, Bool.false_eq_true] <;> cases o.testBit w <;> cases o.testBit v <;> cases i.testBit v <;> cases i.testBit u <;> cases o.testBit u <;> simp
end Go.Proofs.YtmefbjdioaahdaaGreatDoor

/- Plain facts: frames of classes; the transitive and the symmetric filtration. No program in sight. Conditions: none. -/
namespace Go.Proofs.YtmefbjdioaahdaaGreatDoor
open Go.Vc
/-- The arrows of a relation on the first m numbers. -/
def relA (m : Nat) (P : Nat → Nat → Bool) : List Nat := (List.range m).map fun x => setOf ((List.range m).filter (P x))
theorem relA_len (m : Nat) (P : Nat → Nat → Bool) : (relA m P).length = m := by simp [relA]
theorem relA_bit {m : Nat} {P : Nat → Nat → Bool} {x y : Nat} : ((relA m P).getD x 0).testBit y = true ↔ x < m ∧ y < m ∧ P x y = true := by
  by_cases hx : x < m
  · rw [show (relA m P).getD x 0 = setOf ((List.range m).filter (P x)) by simp [relA, hx], setOf_testBit, List.contains_iff_mem, List.mem_filter, List.mem_range]
    exact ⟨fun h => ⟨hx, h.1, h.2⟩, fun h => ⟨h.2.1, h.2.2⟩⟩
  · rw [show (relA m P).getD x 0 = 0 by simp [relA, hx], Nat.zero_testBit]
    exact ⟨fun h => (by cases h), fun h => absurd h.1 hx⟩
theorem relA_ok {m : Nat} (h : m ≤ 8) (P : Nat → Nat → Bool) : (⟨m, relA m P⟩ : Fr).ok := by
  refine ⟨h, relA_len m P, fun x hx => ?_⟩
  obtain ⟨i, _, rfl⟩ := List.mem_map.1 hx
  exact setOf_lt fun y hy => List.mem_range.1 (List.mem_filter.1 hy).1
theorem relA_congr {m : Nat} {P Q : Nat → Nat → Bool} (h : ∀ x y, x < m → y < m → P x y = Q x y) : relA m P = relA m Q := by
  refine List.map_congr_left fun x hx => ?_
  congr 1
  exact List.filter_congr fun y hy => h x y (List.mem_range.1 hx) (List.mem_range.1 hy)
/-- Classes see each other if some of their worlds do. -/
def anyP (n : Nat) (c : List Nat) (H : Nat → Nat → Bool) (x y : Nat) : Bool := (List.range n).any fun w => (List.range n).any fun v => H w v && (decide (c.getD w 0 = x) && decide (c.getD v 0 = y))
theorem anyP_iff {n : Nat} {c : List Nat} {H : Nat → Nat → Bool} {x y : Nat} : anyP n c H x y = true ↔ ∃ w v, w < n ∧ v < n ∧ H w v = true ∧ c.getD w 0 = x ∧ c.getD v 0 = y := by
  unfold anyP
  simp only [List.any_eq_true, List.mem_range, Bool.and_eq_true, decide_eq_true_eq]
  exact ⟨fun ⟨w, hw, v, hv, h1, h2, h3⟩ => ⟨w, v, hw, hv, h1, h2, h3⟩, fun ⟨w, v, hw, hv, h1, h2, h3⟩ => ⟨w, hw, v, hv, h1, h2, h3⟩⟩
/-- A condition that the classes' members share. -/
theorem anyP_first {M : List Nat} {n : Nat} {c F : List Nat} (h : ClsOk M n c F) {H : Nat → Nat → Bool} (hH : ∀ w w' v v', alk M w w' = true → alk M v v' = true → H w v = H w' v') {x y : Nat} (hx : x < F.length) (hy : y < F.length) : anyP n c H x y = H (F.getD x 0) (F.getD y 0) := by
  obtain ⟨x1, x2⟩ := h.first hx
  obtain ⟨y1, y2⟩ := h.first hy
  rw [Bool.eq_iff_iff, anyP_iff]
  constructor
  · rintro ⟨w, v, hw, hv, hh, e1, e2⟩
    rw [← hH w (F.getD x 0) v (F.getD y 0) ((h.iff hw x1).1 (by rw [e1, x2])) ((h.iff hv y1).1 (by rw [e2, y2]))]
    exact hh
  · intro hh
    exact ⟨_, _, x1, y1, hh, x2, y2⟩
section
variable {f : Fr} {V : Nat → Nat} {a : Fm} {c F : List Nat}
/-- The least filtration, and what condition 2 allows. -/
def leaA (f : Fr) (c : List Nat) (m : Nat) : List Nat := relA m (anyP f.n c fun w v => (f.a.getD w 0).testBit v)
def greA (f : Fr) (V : Nat → Nat) (a : Fm) (F : List Nat) (more both : Bool) : List Nat := relA F.length fun x y => mayB (mdL f V a a.size) more (F.getD x 0) (F.getD y 0) && (!both || mayB (mdL f V a a.size) more (F.getD y 0) (F.getD x 0))
theorem may_cls (h : ClsOk (mkL f V a a.size) f.n c F) {more : Bool} {w v : Nat} (hw : w < f.n) (hv : v < f.n) : mayB (mdL f V a a.size) more w v = mayB (mdL f V a a.size) more (F.getD (c.getD w 0) 0) (F.getD (c.getD v 0) 0) :=
  mayB_congr (h.at_ w hw).2 (h.at_ v hv).2
/-- Between the least filtration and the greatest one. -/
def betw (low high g : List Nat) (m : Nat) : Prop := g.length = m ∧ ∀ x, x < m → sdiff (low.getD x 0) (g.getD x 0) = 0 ∧ sdiff (g.getD x 0) (high.getD x 0) = 0
theorem tra_betw (hf : f.ok) (h : ClsOk (mkL f V a a.size) f.n c F) (ht : flagP f.n f.R 2) : betw (leaA f c F.length) (greA f V a F false false) (greA f V a F true false) F.length := by
  refine ⟨relA_len _ _, fun x hx => ⟨sdiff_eq_zero.2 fun y hy => ?_, sdiff_eq_zero.2 fun y hy => ?_⟩⟩
  · obtain ⟨_, hym, hp⟩ := relA_bit.1 hy
    obtain ⟨w, v, hw, hv, hr, rfl, rfl⟩ := anyP_iff.1 hp
    refine relA_bit.2 ⟨hx, hym, ?_⟩
    rw [← may_cls h hw hv, may_arrowT hf ht hr]; rfl
  · obtain ⟨_, hym, hp⟩ := relA_bit.1 hy
    refine relA_bit.2 ⟨hx, hym, ?_⟩
    rw [Bool.and_eq_true] at hp
    rw [mayB_less hp.1]; rfl
theorem tra_flag (hm : F.length ≤ 8) : flagI 2 ⟨F.length, greA f V a F true false⟩ = true := by
  refine (flagI_iff (relA_ok hm _) 2).2 fun x y z hx hy hz hxy hyz => ?_
  obtain ⟨_, _, h1⟩ := relA_bit.1 hxy
  obtain ⟨_, _, h2⟩ := relA_bit.1 hyz
  refine relA_bit.2 ⟨hx, hz, ?_⟩
  rw [Bool.and_eq_true] at h1 h2
  rw [may_trans h1.1 h2.1]; rfl
theorem sym_betw (hf : f.ok) (h : ClsOk (mkL f V a a.size) f.n c F) (ht : flagP f.n f.R 3) : betw (leaA f c F.length) (greA f V a F false false) (greA f V a F false true) F.length := by
  refine ⟨relA_len _ _, fun x hx => ⟨sdiff_eq_zero.2 fun y hy => ?_, sdiff_eq_zero.2 fun y hy => ?_⟩⟩
  · obtain ⟨_, hym, hp⟩ := relA_bit.1 hy
    obtain ⟨w, v, hw, hv, hr, rfl, rfl⟩ := anyP_iff.1 hp
    refine relA_bit.2 ⟨hx, hym, ?_⟩
    have hr : f.R w v := hr
    rw [← may_cls h hw hv, ← may_cls h hv hw, may_arrow hf hr, may_arrow hf (ht w v hw hv hr)]; rfl
  · obtain ⟨_, hym, hp⟩ := relA_bit.1 hy
    refine relA_bit.2 ⟨hx, hym, ?_⟩
    rw [Bool.and_eq_true] at hp
    rw [hp.1]; rfl
theorem sym_flag (hm : F.length ≤ 8) : flagI 3 ⟨F.length, greA f V a F false true⟩ = true := by
  refine (flagI_iff (relA_ok hm _) 3).2 fun x y hx hy hxy => ?_
  obtain ⟨_, _, h1⟩ := relA_bit.1 hxy
  refine relA_bit.2 ⟨hy, hx, ?_⟩
  rw [Bool.and_eq_true] at h1 ⊢
  have h2 : mayB (mdL f V a a.size) false (F.getD y 0) (F.getD x 0) = true := by simpa using h1.2
  exact ⟨h2, by simpa using h1.1⟩
end
/-- All rows that lie between two, by the last number last. -/
def allB (S : Nat → List Nat) (low : List Nat) : Nat → List (List Nat)
  | 0 => [[]]
  | k + 1 => (allB S low k).flatMap fun g => (S k).map fun s => g ++ [low.getD k 0 ||| s]
theorem mem_allB {S : Nat → List Nat} {low : List Nat} : ∀ {k : Nat} {g : List Nat}, g ∈ allB S low k ↔ g.length = k ∧ ∀ x, x < k → ∃ s ∈ S x, g.getD x 0 = low.getD x 0 ||| s
  | 0, g => by
    rw [allB, List.mem_singleton]
    exact ⟨fun h => ⟨by rw [h]; rfl, fun x hx => absurd hx (Nat.not_lt_zero _)⟩, fun h => List.length_eq_zero_iff.1 h.1⟩
  | k + 1, g => by
    rw [allB, List.mem_flatMap]
    constructor
    · rintro ⟨g', hg', hm⟩
      obtain ⟨s, hs, rfl⟩ := List.mem_map.1 hm
      obtain ⟨h1, h2⟩ := mem_allB.1 hg'
      refine ⟨by rw [List.length_append, h1]; rfl, fun x hx => ?_⟩
      rw [getD_snoc, h1]
      by_cases h : x < k
      · rw [if_pos h]; exact h2 x h
      · have : x = k := by omega
        subst this
        rw [if_neg h, if_pos rfl]
        exact ⟨s, hs, rfl⟩
    · rintro ⟨h1, h2⟩
      have hk : k < g.length := by omega
      have hg : g = g.take k ++ [g[k]] := by
        rw [← List.take_succ_eq_append_getElem hk, List.take_of_length_le (by omega)]
      obtain ⟨s, hs, e⟩ := h2 k (by omega)
      refine ⟨g.take k, mem_allB.2 ⟨by rw [List.length_take]; omega, fun x hx => ?_⟩, List.mem_map.2 ⟨s, hs, ?_⟩⟩
      · obtain ⟨s, hs, e⟩ := h2 x (by omega)
        refine ⟨s, hs, ?_⟩
        rw [← e]
        simp only [List.getD_eq_getElem?_getD, List.getElem?_take, hx, if_true]
      · rw [← e, show g.getD k 0 = g[k] by simp [hk]]
        exact hg.symm
end Go.Proofs.YtmefbjdioaahdaaGreatDoor

/- Contracts: models and formulas checked; truth in a model. Conditions: none. -/
namespace Go.Proofs.YtmefbjdioaahdaaGreatDoor
open Go.Vc
/-- A model: worlds, arrows, values. -/
def modelOk (n : Int) (l vs : List Int) : Bool := frameOk n l && (decide (vs.length = 6) && vs.all (maskB n.toNat))
theorem modelOk_of {n : Int} {l vs : List Int} (h : modelOk n l vs = true) : (frOf n l).ok ∧ n = ((frOf n l).n : Int) ∧ l = nats (frOf n l).a ∧ ∃ V : List Nat, vs = nats V ∧ V.length = 6 ∧ ∀ x ∈ V, x < 2 ^ (frOf n l).n := by
  unfold modelOk at h
  rw [Bool.and_eq_true, Bool.and_eq_true, decide_eq_true_eq] at h
  obtain ⟨hf, h6, hm⟩ := h
  obtain ⟨h1, h2, h3⟩ := frameOk_fr hf
  refine ⟨h1, h2, h3, vs.map Int.toNat, ?_, by rw [List.length_map]; exact h6, fun x hx => ?_⟩
  · unfold nats
    rw [List.map_map]
    refine (List.map_id vs).symm.trans (List.map_congr_left fun x hx => ?_)
    have := List.all_eq_true.1 hm x hx
    unfold maskB at this
    rw [decide_eq_true_eq] at this
    show x = ((x.toNat : Nat) : Int)
    omega
  · obtain ⟨y, hy, rfl⟩ := List.mem_map.1 hx
    have := List.all_eq_true.1 hm y hy
    unfold maskB at this
    rw [decide_eq_true_eq] at this
    have e : n.toNat = (frOf n l).n := by omega
    rw [e] at this
    have := Nat.two_pow_pos (frOf n l).n
    omega
theorem ok_impl_isModel {n : Int} {l vs : List Int} {va vv : Value} {w : World} (hs : SlI w va l) (hv : SlI w vv vs) : Ret Tryz.prog f_impl_isModel #[.agg #[.int .i64 n, va, vv]] w (.bool (modelOk n l vs)) := by
  apply c_impl_isModel; unfold S_impl_isModel
  refine iNew fun b w1 hb x1 hB => ?_
  have hB : Blk 28 w1 b [.int .i64 n, va, vv] := hB
  refine iJnB (modelOk n l vs) w1 (fun J hJ => ?_) (fun w3 x3 => fun _ => ⟨by first | trivial | rfl, x1.trans x3⟩)
  unfold modelOk at hJ
  refine iFa (iLdP (n := 2) hB (by simp) ?_)
  refine iRet (ok_impl_isFrame (hs.ext x1) n) fun w4 x4 => ?_
  refine iCnd (fun hf => ?_) (fun hf => ?_)
  · rw [hf, Bool.true_and] at hJ
    obtain ⟨hfo, hn0, _⟩ := frameOk_fr hf
    have hf8 := hfo.1
    refine iFa (iLdB (hB.ext x4) (i := 2) (v := vv) rfl ?_)
    have hv4 := hv.ext (x1.trans x4)
    refine iLenI hv4 ?_
    refine iEq (iCndP (fun h6 => ?_) (fun h6 => ?_))
    · rw [decide_eq_true (show vs.length = 6 by omega), Bool.true_and] at hJ
      refine iFa (iLdB (hB.ext x4) (i := 2) (v := vv) rfl ?_)
      refine iRet (ok_slices_ContainsFunc_Si64_i64 hv4 (fun x => !maskB n.toNat x) fun w5 x5 x hx => ?_) fun w6 x6 => ?_
      · refine iClo (f := f_impl_isModel_1) (first := #[]) (cap := #[.pointer (some ⟨b, 0, none⟩)]) rfl ?_
        refine c_impl_isModel_1 ?_
        unfold S_impl_isModel_1
        refine iFa (iFa (iLdB (hB.ext (x4.trans x5)) (i := 0) (v := .int .i64 n) rfl ?_))
        rw [show (Value.int .i64 n) = .int .i64 (n.toNat : Int) by rw [Int.toNat_of_nonneg (by omega)]]
        refine iRet (ok_impl_isMask n.toNat x (by omega) w5) fun w7 x7 => iNot ⟨?_, x7⟩
        rw [decide_eq_true (show n.toNat ≤ 30 by omega), Bool.true_and]
      · refine iNot ?_
        have e : (!vs.any fun x => !maskB n.toNat x) = vs.all (maskB n.toNat) := by
          rw [Bool.eq_iff_iff, Bool.not_eq_true', List.any_eq_false, List.all_eq_true]
          exact forall_congr' fun x => imp_congr_right fun _ => by simp
        rw [e]
        exact hJ _ (x4.trans x6)
    · rw [decide_eq_false (show ¬ vs.length = 6 by omega), Bool.false_and] at hJ
      exact hJ _ x4
  · rw [hf, Bool.false_and] at hJ
    exact hJ _ x4
theorem ok_spec_l06Is {n : Int} {l vs : List Int} {va vv : Value} {w : World} (hs : SlI w va l) (hv : SlI w vv vs) : Ret Tryz.prog f_spec_l06Is #[.agg #[.int .i64 n, va, vv]] w (.bool (modelOk n l vs)) := by
  apply c_spec_l06Is; unfold S_spec_l06Is
  refine iNew fun b w1 hb x1 hB => ?_
  have hB : Blk 28 w1 b [.int .i64 n, va, vv] := hB
  refine iJnB (modelOk n l vs) w1 (fun J hJ => ?_) (fun w3 x3 => fun _ => ⟨by first | trivial | rfl, x1.trans x3⟩)
  unfold modelOk at hJ
  refine iFa (iLdP (n := 2) hB (by simp) ?_)
  refine iRet (ok_spec_l05Is (hs.ext x1) n) fun w4 x4 => ?_
  refine iCnd (fun hf => ?_) (fun hf => ?_)
  · rw [hf, Bool.true_and] at hJ
    obtain ⟨hfo, hn0, _⟩ := frameOk_fr hf
    have hf8 := hfo.1
    refine iFa (iLdB (hB.ext x4) (i := 2) (v := vv) rfl ?_)
    have hv4 := hv.ext (x1.trans x4)
    refine iLenI hv4 ?_
    refine iEq (iCndP (fun h6 => ?_) (fun h6 => ?_))
    · rw [decide_eq_true (show vs.length = 6 by omega), Bool.true_and] at hJ
      refine iFa (iFa (iLdB (hB.ext x4) (i := 0) (v := .int .i64 n) rfl ?_))
      refine iFa (iLdB (hB.ext x4) (i := 2) (v := vv) rfl ?_)
      rw [show (Value.int .i64 n) = .int .i64 (n.toNat : Int) by rw [Int.toNat_of_nonneg (by omega)]]
      refine iRet (ok_spec_l01Masks hv4 n.toNat (by omega)) fun w6 x6 => ?_
      exact hJ _ (x4.trans x6)
    · rw [decide_eq_false (show ¬ vs.length = 6 by omega), Bool.false_and] at hJ
      exact hJ _ x4
  · rw [hf, Bool.false_and] at hJ
    exact hJ _ x4
theorem ok_impl_modelCode {n : Int} {l vs : List Int} {va vv vn : Value} {N : List RN} {w : World} (hs : SlI w va l) (hv : SlI w vv vs) (hN : RawS w vn N) (hn : N.length ≤ 1099511627776) : Ret Tryz.prog f_impl_modelCode #[.agg #[.int .i64 n, va, vv], vn] w (.int .i64 (if modelOk n l vs = true ∧ isN N = true then 0 else 1)) := by
  apply c_impl_modelCode; unfold S_impl_modelCode
  refine iNew fun b w1 hb x1 hB => ?_
  have hB : Blk 28 w1 b [.int .i64 n, va, vv] := hB
  refine iJnB (!(modelOk n l vs && isN N)) w1 (fun J hJ => ?_) (fun w3 x3 => ?_)
  · refine iLdA hB rfl ?_
    refine iRet (ok_impl_isModel (hs.ext x1) (hv.ext x1)) fun w4 x4 => iNot ?_
    refine iCnd (fun h => ?_) (fun h => ?_)
    · rw [show modelOk n l vs = false by simpa using h] at hJ
      exact hJ _ x4
    · rw [show modelOk n l vs = true by simpa using h, Bool.true_and] at hJ
      refine iRet (ok_impl_isFormulaN (SlK.ext hN (x1.trans x4)) hn) fun w5 x5 => iNot ?_
      exact hJ _ (x4.trans x5)
  · intro _
    simp only [gx]
    refine iCnd (fun h => ?_) (fun h => ?_)
    · refine ⟨?_, x1.trans x3⟩
      rw [if_neg]
      intro h2
      rw [h2.1, h2.2] at h; cases h
    · refine ⟨?_, x1.trans x3⟩
      have h : (modelOk n l vs && isN N) = true := by simpa using h
      rw [Bool.and_eq_true] at h
      rw [if_pos h]
theorem ok_impl_truthIn {f : Fr} (hf : f.ok) {va vv vn : Value} {w : World} (hs : SlN w va f.a) {vals : List Nat} (hv : SlN w vv vals) (h6 : vals.length = 6) (hlt : ∀ x ∈ vals, x < 2 ^ f.n) {a : Fm} (ha : FmS w vn a) (hpl : Fm.good a) (hsz : a.size ≤ 1000000) :
    Ret Tryz.prog f_impl_truthIn #[.agg #[.int .i64 (f.n : Int), va, vv], vn] w (.int .i64 ((trM f (fun v => vals.getD v 0) a : Nat) : Int)) := by
  apply c_impl_truthIn; unfold S_impl_truthIn
  refine iNew fun b w1 hb x1 hB => ?_
  have hB : Blk 28 w1 b [.int .i64 (f.n : Int), va, vv] := hB
  refine iFa (iLdP (n := 2) hB (by simp) ?_)
  refine iFa (iLdB hB (i := 2) (v := vv) rfl ?_)
  exact iRet (ok_impl_truthSet hf (hs.ext x1) (hv.ext x1) h6 hlt (SlK.ext ha x1) hpl hsz) fun w2 x2 => ⟨rfl, x1.trans x2⟩
end Go.Proofs.YtmefbjdioaahdaaGreatDoor

/- Draws: models and formulas, mostly with a transitive or a symmetric frame. Conditions: none. -/
namespace Go.Vc
/-- A row that is a row of one's own, or an end of it. -/
def Kw (lo : Nat) (e : TypeId) (w : World) (v : Value) (xs : List Value) : Prop := isCell v = true ∧ ∃ u ys, Ow lo e w u ys ∧ ∀ w', Sl w' u ys → Sl w' v xs
theorem Kw.ofOw {lo : Nat} {e : TypeId} {w : World} {v : Value} {xs : List Value} (h : Ow lo e w v xs) : Kw lo e w v xs := ⟨h.cell, v, xs, h, fun _ h => h⟩
theorem Kw.sl {lo : Nat} {e : TypeId} {w : World} {v : Value} {xs : List Value} (h : Kw lo e w v xs) : Sl w v xs := by
  obtain ⟨_, u, ys, h1, h2⟩ := h
  exact h2 w h1.sl
theorem Kw.ext {lo : Nat} {e : TypeId} {w w' : World} {v : Value} {xs : List Value} (h : Kw lo e w v xs) (x : Ext w w') : Kw lo e w' v xs := by
  obtain ⟨hc, u, ys, h1, h2⟩ := h
  exact ⟨hc, u, ys, h1.ext x, h2⟩
theorem Kw.mono {lo lo' : Nat} {e : TypeId} {w : World} {v : Value} {xs : List Value} (h : Kw lo e w v xs) (x : lo' ≤ lo) : Kw lo' e w v xs := by
  obtain ⟨hc, u, ys, h1, h2⟩ := h
  exact ⟨hc, u, ys, h1.mono x, h2⟩
theorem Kw.upd {lo b : Nat} {e e' : TypeId} {w w' : World} {v : Value} {xs cs : List Value} (h : Kw lo e w v xs) (hu : Upd b w w') (hB : Blk e' w b cs) (hne : e ≠ e') : Kw lo e w' v xs := by
  obtain ⟨hc, u, ys, h1, h2⟩ := h
  exact ⟨hc, u, ys, h1.upd hu (h1.ne_blk hB hne), h2⟩
theorem Kw.src {lo b : Nat} {e e' : TypeId} {w0 w w' : World} {vc v : Value} {xs : List Value} (h : Kw lo e' w v xs) (hS : Vc.Src e w0 vc b w) (hne : e' ≠ e) (k : Ch (fun c => c = b) w w') : Kw lo e' w' v xs := by
  obtain ⟨hc, u, ys, h1, h2⟩ := h
  exact ⟨hc, u, ys, h1.ch k fun c hc h => hS.neOw h1 hne (by rw [hc, h]), h2⟩
theorem iSlFromK {lo : Nat} {e : TypeId} {w : World} {v : Value} {xs : List Value} {j : Nat} {k : IntKind} {K : Value → Prop} (hs : Kw lo e w v xs) (hj : j ≤ xs.length) (h : ∀ v', Kw lo e w v' (xs.drop j) → K v') : xSl 1 v (some (.int k (j : Int))) none K := by
  obtain ⟨_, u, ys, h1, h2⟩ := hs
  obtain ⟨a, c, e1, h3, h4, h5⟩ := h2 w h1.sl
  subst e1
  have key : ∀ w', Sl w' (.slice a xs.length c) xs → Sl w' (.slice (if c = j then a else a.map (·.add (j * 1))) (xs.length - j) (c - j)) (xs.drop j) := by
    rintro w' ⟨a', c', e', _, _, h5'⟩
    cases e'
    have hl : (xs.drop j).length = xs.length - j := by rw [List.length_drop]
    refine ⟨_, c - j, by rw [hl], by rw [hl]; omega, by omega, ?_⟩
    rcases h5' with h0 | ⟨b, o, rfl, hc⟩
    · exact .inl (by rw [h0]; simp)
    · by_cases hn : xs.drop j = []
      · exact .inl hn
      · have hjl : j < xs.length := by
          rcases Nat.lt_or_ge j xs.length with h' | h'
          · exact h'
          · exact absurd (List.drop_eq_nil_of_le h') hn
        refine .inr ⟨b, o + j, ?_, fun i hi => ?_⟩
        · rw [if_neg (by omega)]
          simp only [Option.map_some, Nat.mul_one, addr_add]
        · rw [hl] at hi
          rw [show o + j + i = o + (j + i) by omega, hc (j + i) (by omega), List.getElem?_drop]
  exact ⟨a, xs.length, c, j, xs.length, rfl, rfl, ⟨k, rfl⟩, hj, h3, h _ ⟨rfl, u, ys, h1, fun w' h' => key w' (h2 w' h')⟩⟩
theorem OwK.updK {k lo n b : Nat} {e e' : TypeId} {w w' : World} {v : Value} {xs cs : List Value} (h : OwK k lo e w v n xs) (hu : Upd b w w') (hB : Blk e' w b cs) (hne : e ≠ e') : OwK k lo e w' v n xs := by
  refine OwK.ch h (hu.ch (S := fun c => c = b) rfl) fun c hc hcb => ?_
  have hcb : c = b := hcb
  subst hcb
  obtain ⟨_, h0 | ⟨g, cap, cur, hv, hg, hh, _⟩⟩ := h
  · rw [h0.1] at hc; cases hc
  · rw [hv] at hc
    cases hc
    unfold Blk at hB
    rw [hh] at hB
    exact hne (by cases hB; rfl)
/-- Two cells stored into a block. -/
theorem iStA2D {P : Program} {w : World} {e : TypeId} {b : Nat} {cs : List Value} {x y u v : Value} {K : World → Prop} (hb : Blk e w b (u :: v :: cs)) (hx : isCell x = true) (hy : isCell y = true)
    (h : ∀ w', Upd b w w' → Blk e w' b (x :: y :: cs) → K w') : xStA P w 2 (.pointer (some ⟨b, 0, none⟩)) (.agg #[x, y]) K := by
  obtain ⟨w', h1, h2, h3⟩ := storeCells_run (P := P) [x, y] 0 w _ hb (by simp) (fun z hz => by
    simp only [List.mem_cons, List.not_mem_nil, or_false] at hz
    rcases hz with rfl | rfl
    · exact hx
    · exact hy)
  exact ⟨_, w', rfl, rfl, h1, h w' h2 (by simpa using h3)⟩
end Go.Vc
namespace Go.Proofs.YtmefbjdioaahdaaGreatDoor
open Go.Vc
abbrev eS : TypeId := 104
section
variable {w0 : World} {vc : Value} {bs : List Nat} {b : Nat} {w : World}
theorem ok_spec_l06Some (hc : SlB w0 vc bs) (hS : Vc.Src eS w0 vc b w) (worlds : Nat) (hw : worlds ≤ 30) :
    Drw Tryz.prog f_spec_l06Some #[.pointer (some ⟨b, 0, none⟩), .int .i64 (worlds : Int)] eS w0 vc b w fun r w' => ∃ (n : Nat) (a V : List Nat) (va vv : Value), r = .agg #[.int .i64 (n : Int), va, vv] ∧ n ≤ worlds ∧ RelOk n a ∧ V.length = 6 ∧ Ow w.heap.size t_i64 w' va (ints (nats a)) ∧ Ow w.heap.size t_i64 w' vv (ints (nats V)) ∧ ∀ c, va.ownBlock = some c → ¬ vv.ownBlock = some c := by
  have hne : t_i64 ≠ eS := by decide
  apply c_spec_l06Some; unfold S_spec_l06Some
  have hlow := hS.ext.size
  have hbw := hS.lt
  refine iNew fun b4 w1 hb4 x1 hB4 => ?_
  have hB4 : Blk 28 w1 b4 [.int .i64 0, .slice none 0 0, .slice none 0 0] := hB4
  have hS1 := hS.later x1
  refine iCall ((ok_spec_l05Some hne hc hS1 worlds hw).mono ?_)
  rintro _ w2 ⟨⟨n, a, va, rfl, hn, ha, hoa⟩, hS2, c2⟩
  have hB42 := hB4.ch c2 (by omega)
  have C2 := ch_self (x1.ch (S := fun c => c = b)) c2
  have z1 := x1.size
  have z2 := c2.size
  refine iNew fun b5 w3 hb5 x3 hB5 => ?_
  have hB5 : Blk 26 w3 b5 [.int .i64 0, .slice none 0 0] := hB5
  have hoa3 := (hoa.ext x3).mono z1
  refine iStAB hB5 rfl rfl (hoa3.pair _) fun w4 hu4 hB54 => ?_
  have x24 : Ext w2 w4 := x3.upd hu4 (by omega)
  refine iLdA hB54 rfl ?_
  refine iBuild (cs := #[.int .i64 (n : Int), va, .slice none 0 0]) (by simp [Instr.fill, Value.cells]) ?_
  refine iNew fun b6 w5 hb6 x5 hB6 => ?_
  have hB6 : Blk 28 w5 b6 [.int .i64 0, .slice none 0 0, .slice none 0 0] := hB6
  refine iStAB hB6 rfl rfl (fun u hu => by
    simp only [List.mem_cons, List.not_mem_nil, or_false] at hu
    rcases hu with rfl | rfl | rfl
    · rfl
    · exact hoa.cell
    · rfl) fun w6 hu6 hB66 => ?_
  have z24 := x24.size
  have x46 : Ext w4 w6 := x5.upd hu6 (by omega)
  have x26 := x24.trans x46
  refine iLp (fun s : Value × Nat => [.int .i64 (s.2 : Int)]) (fun s w' => s.2 ≤ 6 ∧ Vc.Src eS w0 vc b w' ∧ Ch (fun c => c = b) w w' ∧ Blk 28 w' b4 [.int .i64 0, .slice none 0 0, .slice none 0 0] ∧ Blk 26 w' b5 [.int .i64 (n : Int), va] ∧ Blk 28 w' b6 [.int .i64 (n : Int), va, s.1] ∧
      Ow w.heap.size t_i64 w' va (ints (nats a)) ∧ ∃ V : List Nat, V.length = s.2 ∧ Ow w.heap.size t_i64 w' s.1 (ints (nats V)) ∧ ∀ c, va.ownBlock = some c → ¬ s.1.ownBlock = some c) (fun s => 6 - s.2) (.slice none 0 0, 0) rfl
    ⟨Nat.zero_le _, hS2.later x26, ch_ext C2 x26, hB42.ext x26, hB54.ext x46, hB66, (hoa.ext x26).mono z1, [], rfl, Ow.nil _ _ _, fun c _ hc => by cases hc⟩ ?_
  rintro ⟨vv, k⟩ w8 Kn ⟨hk, hS8, C8, hB48, hB58, hB68, hoa8, V, hV, hov, hap⟩ hKn
  have hk : k ≤ 6 := hk
  have hB68 : Blk 28 w8 b6 [.int .i64 (n : Int), va, vv] := hB68
  have hV : V.length = k := hV
  have hov : Ow w.heap.size t_i64 w8 vv (ints (nats V)) := hov
  have z8 := C8.size
  intro _
  simp only [gx]
  refine iLt (iCndP (fun h => ?_) (fun h => ?_))
  · have hk1 : k < 6 := by omega
    refine iFa (iLdB hB68 (i := 2) (v := vv) rfl ?_)
    refine iFa (iLdB hB58 (i := 0) (v := .int .i64 (n : Int)) rfl ?_)
    intro w9 x9
    refine iCall ((ok_spec_l01Own (l := nats V) (hov.ext x9).sl (by rw [nats_length]; omega)).mono ?_)
    rintro v19 w10 ⟨x10, ho19⟩
    refine ⟨x10, ?_⟩
    refine iRetQ (fun w' _ => ok_spec_l01Full n (by omega) w') ?_
    have h62 : 2 ^ n ≤ 2 ^ 62 := Nat.pow_le_pow_right (by omega) (by omega)
    have hpos := Nat.two_pow_pos n
    refine iAdd (by omega) ?_
    intro w11 x11
    have x811 := (x9.trans x10).trans x11
    have hS11 := hS8.later x811
    refine iCall ((ok_spec_l01Next hc hS11 (((2 ^ n - 1 : Nat) : Int) + 1)).mono ?_)
    rintro _ w12 ⟨⟨x, rfl, hx, _⟩, hS12, c12⟩
    intro w13 x13
    refine iBs1 rfl rfl fun q w14 hq x14 hBq => ?_
    intro w15 x15
    have x1215 := (x13.trans x14).trans x15
    have ho11 := ho19.ext x11
    have ho12 := ho11.ch c12 (fun c hc h => hS11.neOw ho11 hne (by rw [hc, h]))
    have ho15 := ho12.ext x1215
    have hlen : (ints (nats V)).length = k := by rw [ints_length, nats_length, hV]
    have zz9 := x9.size
    have zz10 := x10.size
    have zz11 := x11.size
    have zz12 := c12.size
    have zz15 := x1215.size
    refine iAppA u_Si64 i_Si64 rfl ho15 (Sl.ofBlk (n := 1) (hBq.ext x15) rfl (by omega)) (fun u hu => by simp at hu; subst hu; rfl) (by rw [hlen]; simp; omega) (by rw [hlen]; simp; omega) (by omega) fun v27 w16 ho27 hg27 _ => ?_
    have e : ints (nats V) ++ [.int .i64 (x : Int)] = ints (nats (V ++ [x])) := by simp [ints, nats]
    rw [e] at ho27
    have hB411 := hB48.ext x811
    have hB511 := hB58.ext x811
    have hB611 := hB68.ext x811
    have hoa11 := hoa8.ext x811
    have hnb : ∀ {e' : TypeId} {c : Nat} {cs : List Value}, Blk e' w11 c cs → e' ≠ eS → c ≠ b := fun h h2 => hS11.ne h h2
    have hB412 := hB411.ch c12 (hnb hB411 (by decide))
    have hB512 := hB511.ch c12 (hnb hB511 (by decide))
    have hB612 := hB611.ch c12 (hnb hB611 (by decide))
    have hoa12 := hoa11.ch c12 (fun c hc h => hS11.neOw hoa11 hne (by rw [hc, h]))
    -- from w12 on nothing older than w9 turns
    have x12_16 : Ch (fun c => v19.ownBlock = some c) w12 w16 := (x1215.ch (S := fun c => v19.ownBlock = some c)).trans (grown_ch hg27 fun b hb => hb) fun _ h => .inl h
    have own19 : ∀ c, v19.ownBlock = some c → w9.heap.size ≤ c := fun c hc => (ho15.blk c hc).1
    have hlt4 := hB48.lt
    have hlt5 := hB58.lt
    have hlt6 := hB68.lt
    have hB416 := hB412.ch x12_16 (fun h => by have := own19 _ h; omega)
    have hB516 := hB512.ch x12_16 (fun h => by have := own19 _ h; omega)
    have hB616 := hB612.ch x12_16 (fun h => by have := own19 _ h; omega)
    have hoa16 := hoa12.ch x12_16 (fun c hc h => by have h1 := own19 _ h; have := (hoa8.blk c hc).2; omega)
    have hS16 := hS12.ch x12_16 (fun h => by have := own19 _ h; have := hS8.lt; omega) (fun c hc => by have := own19 _ hc; omega)
    have C12 := ch_self (ch_ext C8 x811) c12
    have C16 : Ch (fun c => c = b) w w16 := C12.trans x12_16 fun c hc => .inr (by have := own19 _ hc; omega)
    refine iFa ?_
    intro w17 x17
    have hB617 := hB616.ext x17
    refine iStB hB617 (i := 2) (by simp) ho27.cell fun hB618 => ?_
    have hu := Upd.setCell w17 b6 2 v27
    intro w19 x19
    refine iAdd (by omega) ?_
    have hne6 : b ≠ b6 := by omega
    have n46 : b4 ≠ b6 := by omega
    have n56 : b5 ≠ b6 := by have := hB54.lt; omega
    refine hKn (v27, k + 1) _ ⟨hk1, ((hS16.later x17).upd hu hne6 (by omega)).later x19, ch_ext ((ch_ext C16 x17).trans (hu.ch (S := fun c => c = b6) rfl) fun c hc => .inr (by have hc : c = b6 := hc; omega)) x19, ((hB416.ext x17).upd hu n46).ext x19, ((hB516.ext x17).upd hu n56).ext x19, Blk.ext hB618 x19,
      ((hoa16.ext x17).upd hu ((hoa16.ext x17).ne_blk hB617 (by decide))).ext x19, V ++ [x], by rw [List.length_append, hV]; rfl, (((ho27.ext x17).upd hu ((ho27.ext x17).ne_blk hB617 (by decide))).ext x19).mono (by omega), fun c hc hc' => ?_⟩ (by show 6 - (k + 1) < 6 - k; omega)
    have h1 := (ho27.blk c hc').1
    have h2 := (hoa8.blk c hc).2
    omega
  · have : k = 6 := by omega
    subst this
    refine iLdA hB68 rfl ?_
    refine iStAB hB48 rfl rfl (fun u hu => by
      simp only [List.mem_cons, List.not_mem_nil, or_false] at hu
      rcases hu with rfl | rfl | rfl
      · rfl
      · exact hoa8.cell
      · exact hov.cell) fun w20 hu20 hB => ?_
    refine iLdA hB rfl ?_
    have hne4 : b ≠ b4 := by omega
    exact ⟨⟨n, a, V, va, vv, rfl, hn, ha, hV, hoa8.upd hu20 (hoa8.ne_blk hB48 (by decide)), hov.upd hu20 (hov.ne_blk hB48 (by decide)), hap⟩, hS8.upd hu20 hne4 (by omega), C8.trans (hu20.ch (S := fun c => c = b4) rfl) fun c hc => .inr (by have hc : c = b4 := hc; omega)⟩
end
end Go.Proofs.YtmefbjdioaahdaaGreatDoor

/- Draws: models, mostly well formed. Conditions: none. -/
namespace Go.Proofs.YtmefbjdioaahdaaGreatDoor
open Go.Vc
section
variable {w0 : World} {vc : Value} {bs : List Nat} {b : Nat} {w : World}
theorem ok_spec_l06Draw (hc : SlB w0 vc bs) (hS : Vc.Src eS w0 vc b w) (worlds : Nat) (hw : worlds ≤ 30) :
    Drw Tryz.prog f_spec_l06Draw #[.pointer (some ⟨b, 0, none⟩), .int .i64 (worlds : Int)] eS w0 vc b w fun r w' => ∃ (n : Int) (l vs : List Int) (va vv : Value), r = .agg #[.int .i64 n, va, vv] ∧ Kw w.heap.size t_i64 w' va (ints l) ∧ Kw w.heap.size t_i64 w' vv (ints vs) := by
  have hne : t_i64 ≠ eS := by decide
  apply c_spec_l06Draw; unfold S_spec_l06Draw
  have hlow := hS.ext.size
  have hbw := hS.lt
  refine iNew fun b4 w1 hb4 x1 hB4 => ?_
  have hB4 : Blk 28 w1 b4 [.int .i64 0, .slice none 0 0, .slice none 0 0] := hB4
  have hS1 := hS.later x1
  refine iCall ((ok_spec_l06Some hc hS1 worlds hw).mono ?_)
  rintro _ w2 ⟨⟨n, a, V, va, vv, rfl, hn, ha, hV, hoa, hov, hap⟩, hS2, c2⟩
  have hB42 := hB4.ch c2 (by omega)
  have C2 := ch_self (x1.ch (S := fun c => c = b)) c2
  have z1 := x1.size
  have z2 := c2.size
  have hoa := hoa.mono z1
  have hov := hov.mono z1
  refine iNew fun b5 w3 hb5 x3 hB5 => ?_
  have hB5 : Blk 28 w3 b5 [.int .i64 0, .slice none 0 0, .slice none 0 0] := hB5
  refine iStAB hB5 rfl rfl (fun u hu => by
    simp only [List.mem_cons, List.not_mem_nil, or_false] at hu
    rcases hu with rfl | rfl | rfl
    · rfl
    · exact hoa.cell
    · exact hov.cell) fun w4 hu4 hB54 => ?_
  have x24 : Ext w2 w4 := x3.upd hu4 (by omega)
  have hS4 := hS2.later x24
  have hB44 := hB42.ext x24
  have hoa4 := hoa.ext x24
  have hov4 := hov.ext x24
  have C4 := ch_ext C2 x24
  have z4 := x24.size
  have n45 : b4 ≠ b5 := by have := hB42.lt; omega
  have hb5w : w.heap.size ≤ b5 := by omega
  have hbb5 : b ≠ b5 := by omega
  have hbb4 : b ≠ b4 := by omega
  refine iCall ((ok_spec_l01Next hc hS4 50).mono ?_)
  rintro _ w5 ⟨⟨x, rfl, hx, _⟩, hS5, c5⟩
  have hB45 := hB44.ch c5 hbb4.symm
  have hB55 : Blk 28 w5 b5 [.int .i64 (n : Int), va, vv] := Blk.ch hB54 c5 hbb5.symm
  have hoa5 := hoa4.ch c5 (fun c hc h => hS4.neOw hoa4 hne (by rw [hc, h]))
  have hov5 := hov4.ch c5 (fun c hc h => hS4.neOw hov4 hne (by rw [hc, h]))
  have C5 := ch_self C4 c5
  -- the end
  have fin : ∀ (m : Int) (l vs : List Int) (ua uv : Value) (w' : World) (Q : Value → World → Prop), Kw w.heap.size t_i64 w' ua (ints l) → Kw w.heap.size t_i64 w' uv (ints vs) → Vc.Src eS w0 vc b w' → Ch (fun c => c = b) w w' → Blk 28 w' b4 [.int .i64 0, .slice none 0 0, .slice none 0 0] → Blk 28 w' b5 [.int .i64 m, ua, uv] →
      (∀ r w'', (∃ (n : Int) (l vs : List Int) (va vv : Value), r = .agg #[.int .i64 n, va, vv] ∧ Kw w.heap.size t_i64 w'' va (ints l) ∧ Kw w.heap.size t_i64 w'' vv (ints vs)) ∧ Vc.Src eS w0 vc b w'' ∧ Ch (fun c => c = b) w w'' → Q r w'') →
      xLdA w' 3 (.pointer (some ⟨b5, 0, none⟩)) fun v38 => xStA Tryz.prog w' 3 (.pointer (some ⟨b4, 0, none⟩)) v38 fun w8 => xLdA w8 3 (.pointer (some ⟨b4, 0, none⟩)) fun r => Q r w8 := by
    intro m l vs ua uv w' Q hua huv hSw hCw hB4w hB5w hQ
    refine iLdA hB5w rfl ?_
    refine iStAB hB4w rfl rfl (fun u hu => by
      simp only [List.mem_cons, List.not_mem_nil, or_false] at hu
      rcases hu with rfl | rfl | rfl
      · rfl
      · exact hua.1
      · exact huv.1) fun w8 hu8 hB8 => ?_
    refine iLdA hB8 rfl ?_
    exact hQ _ _ ⟨⟨m, l, vs, ua, uv, rfl, hua.upd hu8 hB4w (by decide), huv.upd hu8 hB4w (by decide)⟩, hSw.upd hu8 hbb4 (by omega), hCw.trans (hu8.ch (S := fun c => c = b4) rfl) fun c hc => .inr (by have hc : c = b4 := hc; omega)⟩
  have hd5 : ∀ {w' w''}, Upd b5 w' w'' → Ch (fun c => c = b) w w' → Ch (fun c => c = b) w w'' := fun hu hC => hC.trans (hu.ch (S := fun c => c = b5) rfl) fun c hc => .inr (by have hc : c = b5 := hc; omega)
  refine iEq (iCndP (fun _ => ?_) (fun _ => ?_))
  · refine iCall ((ok_spec_l05Draw hne hc hS5 worlds hw).mono ?_)
    rintro _ w6 ⟨⟨m, l, u, rfl, hl, hou⟩, hS6, c6⟩
    have hB46 := hB45.ch c6 hbb4.symm
    have hB56 := hB55.ch c6 hbb5.symm
    have hov6 := hov5.ch c6 (fun c hc h => hS5.neOw hov5 hne (by rw [hc, h]))
    have C6 := ch_self C5 c6
    have hou6 := hou.mono C5.size
    refine iFa (iStA2D hB56 rfl hou.cell fun w7 hu7 hB7 => ?_)
    exact fin m l (nats V) u vv w7 _ (Kw.ofOw (hou6.upd hu7 (hou6.ne_blk hB56 (by decide)))) (Kw.ofOw (hov6.upd hu7 (hov6.ne_blk hB56 (by decide)))) (hS6.upd hu7 hbb5 (by omega)) (hd5 hu7 C6) (hB46.upd hu7 n45) hB7 fun r w'' h => h
  refine iEq (iCndP (fun _ => ?_) (fun _ => ?_))
  · refine iFa (iLdB hB55 (i := 2) (v := vv) rfl ?_)
    refine iSlFromK (j := 1) (Kw.ofOw hov5) (by rw [ints_length, nats_length, hV]; omega) fun v21 hk21 => ?_
    refine iFa (iStB hB55 (i := 2) (by simp) hk21.1 fun hB7 => ?_)
    have hu7 := Upd.setCell w5 b5 2 v21
    have e : (ints (nats V)).drop 1 = ints ((nats V).drop 1) := by simp [ints]
    rw [e] at hk21
    exact fin (n : Int) (nats a) ((nats V).drop 1) va v21 _ _ (Kw.ofOw (hoa5.upd hu7 (hoa5.ne_blk hB55 (by decide)))) (hk21.upd hu7 hB55 (by decide)) (hS5.upd hu7 hbb5 (by omega)) (hd5 hu7 C5) (hB45.upd hu7 n45) hB7 fun r w'' h => h
  refine iEq (iCndP (fun _ => ?_) (fun _ => ?_))
  · have hst : ∀ (w' : World) (i : Nat) (x : Value), [Value.int .i64 (n : Int), va, vv][i]? = some x → Ch (fun c => c = b) w5 w' → xLd w' (.pointer (some ⟨b5, i, none⟩)) fun u => u = x := fun w' i x hx hc' => iLdB (hB55.ch hc' hbb5.symm) hx rfl
    refine ⟨fun c => c = b, ?_⟩
    refine iFa (iLdB hB55 (i := 2) (v := vv) rfl ?_)
    refine ⟨fun w' h => hst w' 2 _ rfl h, ?_⟩
    refine iFa (iFa (iLdB hB55 (i := 0) (v := .int .i64 (n : Int)) rfl ?_))
    refine ⟨fun w' h => hst w' 0 _ rfl h, ?_⟩
    intro w16 x16
    have hS16 := hS5.later x16
    refine iCall ((ok_spec_l01Next hc hS16 6).mono ?_)
    rintro _ w17 ⟨⟨y, rfl, hy, _⟩, hS17, c17⟩
    have hy := hy (by omega)
    refine ⟨c17, ?_⟩
    refine ⟨_, fun w' _ => iRet (ok_spec_l01Full n (by omega) w') fun w'' h => ⟨rfl, h⟩, ?_⟩
    have h62 : 2 ^ n ≤ 2 ^ 62 := Nat.pow_le_pow_right (by omega) (by omega)
    have hpos := Nat.two_pow_pos n
    refine iAdd (by omega) ?_
    intro w18 x18
    have hS18 := hS17.later x18
    refine iBs2 rfl rfl rfl fun q w19 hq x19 hBq => ?_
    refine ⟨x19.ch, ?_⟩
    intro w20 x20
    have hS20 := (hS18.later x19).later x20
    have hqb : q ≠ b := by have := hS18.lt; omega
    refine iCall ((ok_spec_l01Pick hc hS20 (l := [-1, ((2 ^ n - 1 : Nat) : Int) + 1]) rfl (hBq.ext x20) hqb (by simp) (by simp)).mono ?_)
    rintro _ w21 ⟨⟨z, rfl, _⟩, hS21, c21⟩
    refine ⟨c21, ?_⟩
    have c521 : Ch (fun c => c = b) w5 w21 := ch_self (ch_ext (ch_self (x16.ch) c17) (x18.trans (x19.trans x20))) c21
    have hov21 := hov5.ch c521 (fun c hc h => hS5.neOw hov5 hne (by rw [hc, h]))
    have hoa21 := hoa5.ch c521 (fun c hc h => hS5.neOw hoa5 hne (by rw [hc, h]))
    have hlen : (ints (nats V)).length = 6 := by rw [ints_length, nats_length, hV]
    refine iIaOwE hov21 (by rw [hlen]; omega) fun bu hbu hwr => ?_
    intro w22 x22
    have hov22 := hov21.ext x22
    obtain ⟨hc1, hc2, hc3⟩ := hwr w22 _ rfl hov22
    rw [List.getElem?_eq_getElem (by rw [hlen]; omega)] at hc1
    refine iSt hc1 hc2 rfl ?_
    have ho23 := hc3 (.int .i64 z)
    have e1 : (ints (nats V)).set y (.int .i64 z) = ints ((nats V).set y z) := by simp [ints, List.map_set]
    rw [e1] at ho23
    have hu23 := Upd.setCell w22 bu y (.int .i64 z)
    have hbu1 := (hov21.blk bu hbu).1
    have hB522 := (hB55.ch c521 hbb5.symm).ext x22
    have hB422 := (hB45.ch c521 hbb4.symm).ext x22
    have hbu5 : b5 ≠ bu := fun e => hov22.ne_blk hB522 (by decide) (by rw [hbu, e])
    have hbu4 : b4 ≠ bu := fun e => hov22.ne_blk hB422 (by decide) (by rw [hbu, e])
    have hS22 := hS21.later x22
    have hbbu : b ≠ bu := fun e => hS22.neOw hov22 hne (by rw [hbu, e])
    have C23 : Ch (fun c => c = b) w (w22.setCell ⟨bu, y, none⟩ (.int .i64 z)) := (ch_ext (ch_self C5 c521) x22).trans (hu23.ch (S := fun c => c = bu) rfl) fun c hc => .inr (by have hc : c = bu := hc; omega)
    intro w24 x24'
    exact fin (n : Int) (nats a) ((nats V).set y z) va vv w24 _ (Kw.ofOw (((hoa21.ext x22).upd hu23 (fun e => hap bu e hbu)).ext x24')) (Kw.ofOw (ho23.ext x24')) ((hS22.upd hu23 hbbu (by omega)).later x24') (ch_ext C23 x24') ((hB422.upd hu23 hbu4).ext x24') ((hB522.upd hu23 hbu5).ext x24') fun r w'' h => h
  · exact fin (n : Int) (nats a) (nats V) va vv w5 _ (Kw.ofOw hoa5) (Kw.ofOw hov5) hS5 C5 hB45 hB55 fun r w'' h => h
end
end Go.Proofs.YtmefbjdioaahdaaGreatDoor

/- Draws: a model and a formula, mostly with a transitive or a symmetric frame. Conditions: none. -/
namespace Go.Proofs.YtmefbjdioaahdaaGreatDoor
open Go.Vc
/-- A model of the draws, made of what the call owns, or handed back as it is. -/
structure DmS (w0 : World) (vc : Value) (b : Nat) (w w' : World) (b5 : Nat) (n : Int) (l vs : List Int) (va vv : Value) : Prop where
  src : Vc.Src eS w0 vc b w'
  ch : Ch (fun c => c = b) w w'
  blk : Blk 28 w' b5 [.int .i64 n, va, vv]
  ka : Kw w.heap.size t_i64 w' va (ints l)
  kv : Kw w.heap.size t_i64 w' vv (ints vs)
  lo : w.heap.size ≤ b5
  bw : b < w.heap.size
section
variable {w0 : World} {vc : Value} {bs : List Nat} {b b5 : Nat} {w w' w'' : World} {n : Int} {l vs : List Int} {va vv : Value}
theorem DmS.ext (h : DmS w0 vc b w w' b5 n l vs va vv) (x : Ext w' w'') : DmS w0 vc b w w'' b5 n l vs va vv := ⟨h.src.later x, ch_ext h.ch x, h.blk.ext x, h.ka.ext x, h.kv.ext x, h.lo, h.bw⟩
theorem DmS.ne (h : DmS w0 vc b w w' b5 n l vs va vv) : b5 ≠ b := by have := h.lo; have := h.bw; omega
/-- The source alone turns. -/
theorem DmS.draw (h : DmS w0 vc b w w' b5 n l vs va vv) (hS : Vc.Src eS w0 vc b w'') (k : Ch (fun c => c = b) w' w'') : DmS w0 vc b w w'' b5 n l vs va vv := ⟨hS, ch_self h.ch k, h.blk.ch k h.ne, h.ka.src h.src (by decide) k, h.kv.src h.src (by decide) k, h.lo, h.bw⟩
/-- Another frame. -/
theorem DmS.put {P : Program} (h : DmS w0 vc b w w' b5 n l vs va vv) (hlow : w0.heap.size ≤ w.heap.size) {m : Int} {l' : List Int} {u : Value} (hu : Ow w.heap.size t_i64 w' u (ints l')) {K : World → Prop} (hK : ∀ w'', DmS w0 vc b w w'' b5 m l' vs u vv → Upd b5 w' w'' → K w'') : xStA P w' 2 (.pointer (some ⟨b5, 0, none⟩)) (.agg #[.int .i64 m, u]) K := by
  refine iStA2D h.blk rfl hu.cell fun w'' hu' hB => hK w'' ⟨h.src.upd hu' h.ne.symm (Nat.le_trans hlow h.lo), h.ch.trans (hu'.ch (S := fun c => c = b5) rfl) fun c hc => .inr (by have hc : c = b5 := hc; have := h.lo; omega), hB, Kw.ofOw (hu.upd hu' (hu.ne_blk h.blk (by decide))), h.kv.upd hu' h.blk (by decide), h.lo, h.bw⟩ hu'
theorem rel_of {f : Fr} (hf : f.ok) : RelOk f.n f.a := ⟨hf.2.1, hf.2.2⟩
theorem ok_spec_l14Drawn (hc : SlB w0 vc bs) (hS : Vc.Src eS w0 vc b w) :
    Drw Tryz.prog f_spec_l14Drawn #[.pointer (some ⟨b, 0, none⟩)] eS w0 vc b w fun r w' => ∃ (n : Int) (l vs : List Int) (va vv vn : Value) (N : List RN), r = .tuple #[.agg #[.int .i64 n, va, vv], vn] ∧ Kw w.heap.size t_i64 w' va (ints l) ∧ Kw w.heap.size t_i64 w' vv (ints vs) ∧ N.length ≤ 200 ∧ RawW w.heap.size t_impl_Node w' vn N := by
  apply c_spec_l14Drawn; unfold S_spec_l14Drawn
  have hlow := hS.ext.size
  have hbw := hS.lt
  refine iNew fun b2 w1 hb2 x1 hB2 => ?_
  have hB2 : Blk 28 w1 b2 [.int .i64 0, .slice none 0 0, .slice none 0 0] := hB2
  have hS1 := hS.later x1
  have z1 := x1.size
  refine iCall ((ok_spec_l01Next hc hS1 6).mono ?_)
  rintro _ w2 ⟨⟨x, rfl, hx, _⟩, hS2, c2⟩
  have hx := hx (by omega)
  refine iAdd (by omega) ?_
  rw [show (2 : Int) + (x : Int) = ((2 + x : Nat) : Int) by omega]
  refine iCall ((ok_spec_l06Draw hc hS2 (2 + x) (by omega)).mono ?_)
  rintro _ w3 ⟨⟨n, l, vs, va, vv, rfl, ka, kv⟩, hS3, c3⟩
  have C3 := ch_self (ch_self (x1.ch (S := fun c => c = b)) c2) c3
  have hb2b : b2 ≠ b := by omega
  have hB23 := (hB2.ch c2 hb2b).ch c3 hb2b
  have z3 := C3.size
  have zz2 := c2.size
  have zz3 := c3.size
  refine iNew fun b4 w4 hb4 x4 hB4 => ?_
  have hB4 : Blk 28 w4 b4 [.int .i64 0, .slice none 0 0, .slice none 0 0] := hB4
  have ka4 := (ka.ext x4).mono (show w.heap.size ≤ w2.heap.size by omega)
  have kv4 := (kv.ext x4).mono (show w.heap.size ≤ w2.heap.size by omega)
  refine iStAB hB4 rfl rfl (fun u hu => by
    simp only [List.mem_cons, List.not_mem_nil, or_false] at hu
    rcases hu with rfl | rfl | rfl
    · rfl
    · exact ka.1
    · exact kv.1) fun w5 hu5 hB45 => ?_
  have x35 : Ext w3 w5 := x4.upd hu5 (by omega)
  have hD : DmS w0 vc b w w5 b4 n l vs va vv := ⟨hS3.later x35, ch_ext C3 x35, hB45, (ka.ext x35).mono (by omega), (kv.ext x35).mono (by omega), by omega, hbw⟩
  have hB25 := hB23.ext x35
  have n24 : b2 ≠ b4 := by have := hB23.lt; omega
  refine iJnX (fun xs w' => ∃ t, xs = [.bool t] ∧ (t = true → modelOk n l vs = true) ∧ DmS w0 vc b w w' b4 n l vs va vv ∧ Blk 28 w' b2 [.int .i64 0, .slice none 0 0, .slice none 0 0]) (fun J hJ => ?_) ?_
  · refine iLdA hD.blk rfl ?_
    refine iRet (ok_spec_l06Is hD.ka.sl hD.kv.sl) fun w8 x8 => ?_
    have hD8 := hD.ext x8
    refine iCnd (fun h => ?_) (fun h => ?_)
    · refine iCall ((ok_spec_l01Next hc hD8.src 3).mono ?_)
      rintro _ w9 ⟨⟨y, rfl, _, _⟩, hS9, c9⟩
      refine iEq ?_
      exact hJ _ _ ⟨_, rfl, fun _ => h, hD8.draw hS9 c9, (hB25.ext x8).ch c9 hb2b⟩
    · exact hJ _ _ ⟨false, rfl, fun h => (by cases h), hD8, hB25.ext x8⟩
  rintro _ w7 ⟨t, rfl, ht, hD7, hB27⟩
  intro _
  simp only [gx]
  refine iJnX (fun _ w' => ∃ n l va, DmS w0 vc b w w' b4 n l vs va vv ∧ Blk 28 w' b2 [.int .i64 0, .slice none 0 0, .slice none 0 0]) (fun J hJ => ?_) ?_
  · refine iCnd (fun h => ?_) (fun h => ?_)
    · have hm := ht h
      obtain ⟨hf, e1, e2, V, e3, e4, e5⟩ := modelOk_of hm
      refine iFa (iFa (iLdB hD7.blk (i := 0) rfl ?_))
      refine iFa (iFa (iLdB hD7.blk (i := 1) rfl ?_))
      intro w12 x12
      have hD12 := hD7.ext x12
      have hsl : SlN w12 va (frOf n l).a := by
        have := hD12.ka.sl
        rw [e2] at this; exact this
      refine iCall ((ok_spec_l01Closure (by have := hf.1; omega) (rel_of hf) hsl).mono ?_)
      rintro u w13 ⟨x13, a', ha', hou⟩
      refine ⟨x13, ?_⟩
      have hcu := isCell_cells hou.cell
      refine iBuild (cs := #[.int .i64 n, u]) (by
        have e0 : ∀ z, (Value.int .i64 z).cells = #[.int .i64 z] := fun _ => rfl
        simp [Instr.fill, e0, hcu]) ?_
      refine iFa ?_
      intro w14 x14
      have hD14 := hD12.ext (x13.trans x14)
      refine hD14.put hlow ((hou.ext x14).mono hD12.ch.size) fun w15 hD15 hu15 => ?_
      intro w16 x16
      exact hJ _ _ ⟨n, nats a', u, hD15.ext x16, ((hB27.ext (x12.trans (x13.trans x14))).upd hu15 n24).ext x16⟩
    · exact hJ _ _ ⟨n, l, va, hD7, hB27⟩
  rintro _ w11 ⟨n, l, va, hD11, hB211⟩
  intro _
  refine ⟨fun c => c = b, ?_⟩
  refine iLdA hD11.blk rfl ?_
  refine ⟨fun w' h => iLdA (hD11.blk.ch h hD11.ne) rfl rfl, ?_⟩
  intro w19 x19
  have hD19 := hD11.ext x19
  refine iCall ((ok_spec_l01Next hc hD19.src 10).mono ?_)
  rintro _ w20 ⟨⟨y, rfl, hy, _⟩, hS20, c20⟩
  have hy := hy (by omega)
  refine ⟨c20, ?_⟩
  refine iAdd (by omega) ?_
  rw [show (2 : Int) + (y : Int) = ((2 + y : Nat) : Int) by omega]
  have hD20 := hD19.draw hS20 c20
  have hB220 := (hB211.ext x19).ch c20 hb2b
  intro w21 x21
  have hD21 := hD20.ext x21
  refine iCall ((ok_spec_l02Any (by decide) hc (k := 2) ⟨by omega, by omega⟩ true (n := 2 + y) ⟨by omega, by omega⟩ hD21.src).mono ?_)
  rintro vn w22 ⟨⟨N, hN, hRn⟩, hS22, c22⟩
  refine ⟨c22, ?_⟩
  have hD22 := hD21.draw hS22 c22
  have hB222 := (hB220.ext x21).ch c22 hb2b
  intro w23 x23
  have hD23 := hD22.ext x23
  have hB223 := hB222.ext x23
  refine iStAB hB223 rfl rfl (fun u hu => by
    simp only [List.mem_cons, List.not_mem_nil, or_false] at hu
    rcases hu with rfl | rfl | rfl
    · rfl
    · exact hD23.ka.1
    · exact hD23.kv.1) fun w24 hu24 hB24 => ?_
  have hRn24 : RawW w.heap.size t_impl_Node w24 vn N := OwK.mono (OwK.ch (OwK.ext hRn x23) (hu24.ch (S := fun c => c = b2) rfl) fun c hc h => by
    have h : c = b2 := h
    have := (OwK.blk hRn c hc).1
    have := hB211.lt
    have := x19.size
    have := c20.size
    have := x21.size
    omega) (Nat.le_trans hD21.ch.size (Nat.le_refl _))
  intro w25 x25
  refine iLdA (hB24.ext x25) rfl ?_
  exact ⟨⟨n, l, vs, va, vv, vn, N, rfl, (hD23.ka.upd hu24 hB223 (by decide)).ext x25, (hD23.kv.upd hu24 hB223 (by decide)).ext x25, hN, OwK.ext hRn24 x25⟩, (hD23.src.upd hu24 hb2b.symm (by omega)).later x25, ch_ext (hD23.ch.trans (hu24.ch (S := fun c => c = b2) rfl) fun c hc => .inr (by have hc : c = b2 := hc; omega)) x25⟩
end
end Go.Proofs.YtmefbjdioaahdaaGreatDoor

/- Draws of the law on closed filtrations. Conditions: none. -/
namespace Go.Proofs.YtmefbjdioaahdaaGreatDoor
open Go.Vc
section
variable {vc : Value} {bs : List Nat} {w : World}
theorem ok_spec_l14Closed (hc : SlB w vc bs) (t : Bool) :
    Cal Tryz.prog f_spec_l14Closed #[vc, .bool t] w fun r w' => Ext w w' ∧ ∃ (n : Int) (l vs : List Int) (va vv vn : Value) (N : List RN), r = .tuple #[.agg #[.int .i64 n, va, vv], vn] ∧ Kw w.heap.size t_i64 w' va (ints l) ∧ Kw w.heap.size t_i64 w' vv (ints vs) ∧ N.length ≤ 200 ∧ RawW w.heap.size t_impl_Node w' vn N := by
  apply c_spec_l14Closed; unfold S_spec_l14Closed
  refine iNew fun b4 w1 hb4 x1 hB4 => ?_
  have hB4 : Blk 28 w1 b4 [.int .i64 0, .slice none 0 0, .slice none 0 0] := hB4
  have hc1 := hc.ext x1
  refine iCall ((ok_spec_l01FromE hc1).mono ?_)
  rintro _ w2 ⟨b, rfl, hS2⟩
  have hbw := hS2.lt
  have hlo := hS2.lo
  have z12 := hS2.ext.size
  have hB42 := hB4.ext hS2.ext
  refine iCall ((ok_spec_l14Drawn hc1 hS2).mono ?_)
  rintro _ w3 ⟨⟨n, l, vs, va, vv, vn, N, rfl, ka, kv, hN, hRn⟩, hS3, c3⟩
  have n4b : b4 ≠ b := by omega
  have hB43 := hB42.ch c3 n4b
  have z3 := c3.size
  refine iEx (by rfl) (iEx (by rfl) ?_)
  refine iNew fun b7 w4 hb7 x4 hB7 => ?_
  have hB7 : Blk 28 w4 b7 [.int .i64 0, .slice none 0 0, .slice none 0 0] := hB7
  refine iStAB hB7 rfl rfl (fun u hu => by
    simp only [List.mem_cons, List.not_mem_nil, or_false] at hu
    rcases hu with rfl | rfl | rfl
    · rfl
    · exact ka.1
    · exact kv.1) fun w5 hu5 hB75 => ?_
  have x35 : Ext w3 w5 := x4.upd hu5 (by omega)
  have hD : DmS w1 vc b w2 w5 b7 n l vs va vv := ⟨hS3.later x35, ch_ext c3 x35, hB75, ka.ext x35, kv.ext x35, by omega, hbw⟩
  have hB45 := hB43.ext x35
  have n47 : b4 ≠ b7 := by omega
  have hRn5 : RawW w2.heap.size t_impl_Node w5 vn N := OwK.ext hRn x35
  refine iJnX (fun xs w' => ∃ q, xs = [.bool q] ∧ (q = false → modelOk n l vs = true) ∧ DmS w1 vc b w2 w' b7 n l vs va vv ∧ Blk 28 w' b4 [.int .i64 0, .slice none 0 0, .slice none 0 0] ∧ RawW w2.heap.size t_impl_Node w' vn N) (fun J hJ => ?_) ?_
  · refine iLdA hD.blk rfl ?_
    refine iRet (ok_spec_l06Is hD.ka.sl hD.kv.sl) fun w8 x8 => iNot ?_
    have hD8 := hD.ext x8
    have hR8 : RawW w2.heap.size t_impl_Node w8 vn N := OwK.ext hRn5 x8
    refine iCnd (fun h => ?_) (fun h => ?_)
    · exact hJ _ _ ⟨true, rfl, fun h => (by cases h), hD8, hB45.ext x8, hR8⟩
    · have h : modelOk n l vs = true := by simpa using h
      refine iCall ((ok_spec_l01Next hc1 hD8.src 8).mono ?_)
      rintro _ w9 ⟨⟨y, rfl, _, _⟩, hS9, c9⟩
      refine iEq ?_
      exact hJ _ _ ⟨_, rfl, fun _ => h, hD8.draw hS9 c9, (hB45.ext x8).ch c9 n4b, OwK.src hR8 hD8.src (by decide) c9⟩
  rintro _ w7 ⟨q, rfl, hq, hD7, hB47, hR7⟩
  intro _
  simp only [gx]
  -- the end
  have fin : ∀ (m : Int) (l' : List Int) (u : Value) (w' : World) (Q : Value → World → Prop), DmS w1 vc b w2 w' b7 m l' vs u vv → Blk 28 w' b4 [.int .i64 0, .slice none 0 0, .slice none 0 0] → RawW w2.heap.size t_impl_Node w' vn N →
      (∀ r w'', Ext w w'' ∧ (∃ (n : Int) (l vs : List Int) (va vv vn : Value) (N : List RN), r = .tuple #[.agg #[.int .i64 n, va, vv], vn] ∧ Kw w.heap.size t_i64 w'' va (ints l) ∧ Kw w.heap.size t_i64 w'' vv (ints vs) ∧ N.length ≤ 200 ∧ RawW w.heap.size t_impl_Node w'' vn N) → Q r w'') →
      xLdA w' 3 (.pointer (some ⟨b7, 0, none⟩)) fun v38 => xStA Tryz.prog w' 3 (.pointer (some ⟨b4, 0, none⟩)) v38 fun w8 => xLdA w8 3 (.pointer (some ⟨b4, 0, none⟩)) fun r => Q (.tuple #[r, vn]) w8 := by
    intro m l' u w' Q hD hB hR hQ
    refine iLdA hD.blk rfl ?_
    refine iStAB hB rfl rfl (fun u hu => by
      simp only [List.mem_cons, List.not_mem_nil, or_false] at hu
      rcases hu with rfl | rfl | rfl
      · rfl
      · exact hD.ka.1
      · exact hD.kv.1) fun w8 hu8 hB8 => ?_
    refine iLdA hB8 rfl ?_
    have hR8 : RawW w2.heap.size t_impl_Node w8 vn N := OwK.updK hR hu8 hB (by decide)
    exact hQ _ _ ⟨(x1.trans hD.src.ext).upd hu8 (by omega), m, l', vs, u, vv, vn, N, rfl, (hD.ka.upd hu8 hB (by decide)).mono (by omega), (hD.kv.upd hu8 hB (by decide)).mono (by omega), hN, OwK.mono hR8 (by omega)⟩
  refine iCnd (fun h => ?_) (fun h => ?_)
  · exact fin n l va w7 _ hD7 hB47 hR7 fun r w'' h => h
  · obtain ⟨hf, e1, e2, V, e3, e4, e5⟩ := modelOk_of (hq h)
    have h8 := hf.1
    have hsl : SlN w7 va (frOf n l).a := by
      have := hD7.ka.sl
      rw [e2] at this; exact this
    have hfl := hf.2.1
    have hf63 := fr_lt63 hf
    generalize frOf n l = f at *
    refine iFa (iFa (iLdB hD7.blk (i := 1) rfl ?_))
    refine iCall ((ok_spec_l01Closure (by omega) (rel_of hf) hsl).mono ?_)
    rintro u31 w12 ⟨x12, a', ha', ho31⟩
    have hD12 := hD7.ext x12
    have hR12 : RawW w2.heap.size t_impl_Node w12 vn N := OwK.ext hR7 x12
    have zz7 := hD7.ch.size
    refine iNot ?_
    refine iJnX (fun xs w' => ∃ u l', xs = [u] ∧ Ext w12 w' ∧ Ow w2.heap.size t_i64 w' u (ints l') ∧ l'.length ≤ 1000) (fun J hJ => ?_) ?_
    · refine iCnd (fun h2 => ?_) (fun h2 => ?_)
      · refine iFa (iFa (iLdB hD12.blk (i := 1) rfl ?_))
        refine iCall ((ok_spec_l01Inverse hf (hsl.ext x12)).mono ?_)
        rintro u37 w15 ⟨x15, ho37⟩
        refine iLp (fun k : Nat => [.int .i64 (k : Int)]) (fun k w' => k ≤ f.n ∧ Ext w12 w' ∧ ∃ L : List Nat, L.length = f.n ∧ (∀ x, L.getD x 0 < 2 ^ 8) ∧ Ow w12.heap.size t_i64 w' u37 (ints (nats L))) (fun k => f.n - k) 0 rfl ⟨Nat.zero_le _, x15, inv f, by simp [inv], fun x => by
          rcases Nat.lt_or_ge x f.n with h3 | h3
          · rw [inv_get f x h3]
            exact Nat.lt_of_lt_of_le (invC_lt _ _ _) (Nat.pow_le_pow_right (by omega) h8)
          · rw [List.getD_eq_getElem?_getD, List.getElem?_eq_none (by simp [inv]; omega)]; decide, ho37⟩ ?_
        rintro k w17 Kn ⟨hk, x17, L, hL, hLlt, hoL⟩ hKn
        intro _
        simp only [gx]
        refine iLenN (show SlN w17 u37 L from hoL.sl) ?_
        rw [hL]
        refine iLt (iCndP (fun h3 => ?_) (fun h3 => ?_))
        · have hk1 : k < f.n := by omega
          have g1 := hLlt k
          have g2 := hf63 k
          refine iIaNN (show SlN w17 u37 L from hoL.sl) (by omega) fun p hp => iLd hp ?_
          refine iFa (iFa (iLdB (hD12.blk.ext x17) (i := 1) rfl ?_))
          refine iIaNN (hsl.ext (x12.trans x17)) (by omega) fun p hp => iLd hp ?_
          refine iBOr (by omega) (by omega) ?_
          have hlen : (ints (nats L)).length = f.n := by rw [ints_length, nats_length, hL]
          refine iIaOwE hoL (by omega) fun bu hbu hwr => ?_
          intro w18 x18
          have ho18 := hoL.ext x18
          obtain ⟨hc1, hc2, hc3⟩ := hwr w18 _ rfl ho18
          rw [List.getElem?_eq_getElem (by omega)] at hc1
          refine iSt hc1 hc2 rfl ?_
          have ho19 := hc3 (.int .i64 ((L.getD k 0 ||| f.a.getD k 0 : Nat) : Int))
          rw [← ints_nats_set] at ho19
          have hu := Upd.setCell w18 bu k (.int .i64 ((L.getD k 0 ||| f.a.getD k 0 : Nat) : Int))
          intro w20 x20
          refine iAdd (by omega) ?_
          refine hKn (k + 1) _ ⟨hk1, ((x17.trans x18).upd hu (hoL.blk bu hbu).1).trans x20, _, by rw [List.length_set, hL], fun x => ?_, ho19.ext x20⟩ (by omega)
          rw [getD_setQ (by omega)]
          by_cases e : x = k
          · rw [if_pos e]; exact Nat.or_lt_two_pow g1 g2
          · rw [if_neg e]; exact hLlt x
        · exact hJ _ _ ⟨u37, nats L, rfl, x17, hoL.mono (by have := x12.size; omega), by rw [nats_length]; omega⟩
      · exact hJ _ _ ⟨u31, nats a', rfl, Ext.refl _, ho31.mono zz7, by rw [nats_length, ha'.1]; omega⟩
    rintro _ w14 ⟨u, l', rfl, x14, hou, hl'⟩
    intro _
    simp only [gx]
    refine iCall ((ok_spec_l05Make hou.sl (by omega)).mono ?_)
    rintro _ w21 ⟨x21, v', rfl, ho21⟩
    have x1221 := x14.trans x21
    refine iFa ?_
    refine (hD12.ext x1221).put z12 (ho21.mono ((hD12.ext x14).ch.size)) fun w22 hD22 hu22 => ?_
    have x7_21 := x12.trans x1221
    exact fin _ _ _ w22 _ hD22 ((hB47.ext x7_21).upd hu22 n47) (OwK.updK (OwK.ext hR12 x1221) hu22 (hD12.ext x1221).blk (by decide)) fun r w'' h => h
theorem ok_spec_DrawTransitiveFiltration (hc : SlB w vc bs) :
    Cal Tryz.prog f_spec_DrawTransitiveFiltration #[vc] w fun r w' => Ext w w' ∧ ∃ (n : Int) (l vs : List Int) (va vv vn : Value) (N : List RN), r = .tuple #[.agg #[.int .i64 n, va, vv], vn] ∧ Kw w.heap.size t_i64 w' va (ints l) ∧ Kw w.heap.size t_i64 w' vv (ints vs) ∧ N.length ≤ 200 ∧ RawW w.heap.size t_impl_Node w' vn N := by
  apply c_spec_DrawTransitiveFiltration; unfold S_spec_DrawTransitiveFiltration
  refine iNew fun b2 w1 hb2 x1 hB2 => ?_
  have hB2 : Blk 28 w1 b2 [.int .i64 0, .slice none 0 0, .slice none 0 0] := hB2
  refine iCall ((ok_spec_l14Closed (hc.ext x1) true).mono ?_)
  rintro _ w2 ⟨x2, n, l, vs, va, vv, vn, N, rfl, ka, kv, hN, hR⟩
  refine iEx (by rfl) (iEx (by rfl) ?_)
  have hB22 := hB2.ext x2
  have z1 := x1.size
  refine iStAB hB22 rfl rfl (fun u hu => by
    simp only [List.mem_cons, List.not_mem_nil, or_false] at hu
    rcases hu with rfl | rfl | rfl
    · rfl
    · exact ka.1
    · exact kv.1) fun w3 hu3 hB => ?_
  refine iLdA hB rfl ?_
  exact ⟨(x1.trans x2).upd hu3 (by omega), n, l, vs, va, vv, vn, N, rfl, (ka.upd hu3 hB22 (by decide)).mono z1, (kv.upd hu3 hB22 (by decide)).mono z1, hN, OwK.mono (OwK.updK hR hu3 hB22 (by decide)) z1⟩
theorem ok_spec_DrawSymmetricFiltration (hc : SlB w vc bs) :
    Cal Tryz.prog f_spec_DrawSymmetricFiltration #[vc] w fun r w' => Ext w w' ∧ ∃ (n : Int) (l vs : List Int) (va vv vn : Value) (N : List RN), r = .tuple #[.agg #[.int .i64 n, va, vv], vn] ∧ Kw w.heap.size t_i64 w' va (ints l) ∧ Kw w.heap.size t_i64 w' vv (ints vs) ∧ N.length ≤ 200 ∧ RawW w.heap.size t_impl_Node w' vn N := by
  apply c_spec_DrawSymmetricFiltration; unfold S_spec_DrawSymmetricFiltration
  refine iNew fun b2 w1 hb2 x1 hB2 => ?_
  have hB2 : Blk 28 w1 b2 [.int .i64 0, .slice none 0 0, .slice none 0 0] := hB2
  refine iCall ((ok_spec_l14Closed (hc.ext x1) false).mono ?_)
  rintro _ w2 ⟨x2, n, l, vs, va, vv, vn, N, rfl, ka, kv, hN, hR⟩
  refine iEx (by rfl) (iEx (by rfl) ?_)
  have hB22 := hB2.ext x2
  have z1 := x1.size
  refine iStAB hB22 rfl rfl (fun u hu => by
    simp only [List.mem_cons, List.not_mem_nil, or_false] at hu
    rcases hu with rfl | rfl | rfl
    · rfl
    · exact ka.1
    · exact kv.1) fun w3 hu3 hB => ?_
  refine iLdA hB rfl ?_
  exact ⟨(x1.trans x2).upd hu3 (by omega), n, l, vs, va, vv, vn, N, rfl, (ka.upd hu3 hB22 (by decide)).mono z1, (kv.upd hu3 hB22 (by decide)).mono z1, hN, OwK.mono (OwK.updK hR hu3 hB22 (by decide)) z1⟩
end
end Go.Proofs.YtmefbjdioaahdaaGreatDoor

/- Contracts: all properties of a frame in the program (everyPair, hasFlag). Conditions: none. -/
namespace Go.Proofs.YtmefbjdioaahdaaGreatDoor
open Go.Vc
theorem ok_impl_Frame_everyPair {f : Fr} (hf : f.ok) {fv v : Value} (p : Nat → Nat → Nat → Bool) {w : World} (hs : SlN w v f.a) (hp : ∀ w', Ext w w' → ∀ x y z, x < f.n → y < f.n → z < f.n → callV Tryz.prog fv [.int .i64 (x : Int), .int .i64 (y : Int), .int .i64 (z : Int)] w' fun r w'' => r = .bool (p x y z) ∧ Ext w' w'') :
    Ret Tryz.prog f_impl_Frame_everyPair #[.agg #[.int .i64 (f.n : Int), v], fv] w (.bool (prB f p)) := by
  apply c_impl_Frame_everyPair; unfold S_impl_Frame_everyPair
  have hf8 := hf.1
  have hfl := hf.2.1
  refine iNew fun b w1 hb h1 hB => ?_
  have hs1 := hs.ext h1
  have hno : ∀ x y z w', x < f.n → y ∈ mem (f.a.getD x 0) → z ∈ mem (f.a.getD x 0) → p x y z = false → Ext w w' → (.bool false : Value) = .bool (prB f p) ∧ Ext w w' := fun x y z w' hx hy hz hpf hX => by
    refine ⟨?_, hX⟩
    have : prB f p = false := by
      rw [Bool.eq_false_iff]
      intro h
      unfold prB at h
      simp only [List.all_eq_true, List.mem_range] at h
      rw [h x hx y hy z hz] at hpf; cases hpf
    rw [this]
  ((with_reducible refine iFa ?_); refine iLdB (by assumption) (by first | rfl | simp) ?_; (with_reducible refine iLenN (by assumption) ?_))
  refine iLp (fun k : Nat => [.int .i64 (k : Int)]) (fun k w' => k ≤ f.n ∧ Ext w w' ∧ ∀ x, x < k → ∀ y ∈ mem (f.a.getD x 0), ∀ z ∈ mem (f.a.getD x 0), p x y z = true) (fun k => f.n - k) 0 rfl ⟨Nat.zero_le _, h1, fun x hx => by omega⟩ ?_
  rintro k w3 Kn ⟨hk, hX3, hdone⟩ hKn
  have hs3 := hs.ext hX3
  (intro _; (try simp only [gx]); (with_reducible refine iLt ?_))
  refine iCndP (fun h4 => ?_) (fun h4 => ?_)
  · have hk1 : k < f.n := by omega
    have hgk := fr_lt63 hf k
    have hmlt : ∀ j (hj : j < (mem (f.a.getD k 0)).length), (mem (f.a.getD k 0))[j] < f.n := fun j hj => (fr_bit_lt hf ((mem_mem (by omega)).1 (List.getElem_mem hj))).2
    have hml63 : (mem (f.a.getD k 0)).length ≤ 63 := memK_length_le _ _
    have hmg : ∀ j (hj : j < (mem (f.a.getD k 0)).length), (mem (f.a.getD k 0)).getD j 0 = (mem (f.a.getD k 0))[j] := fun j hj => getD_of_lt hj
    ((with_reducible refine iIaNN (by assumption) ?_ (fun pa_ hpa_ => ?_)); omega; (with_reducible refine iLd (by assumption) ?_))
    refine iCall ((ok_impl_membersOf _ (by omega) w3).mono ?_)
    rintro u w4 ⟨h5, hou⟩
    have hX4 := hX3.trans h5
    have hml := hou.sl
    have hul : SlN w4 u (mem (f.a.getD k 0)) := hml
    ((with_reducible refine iLenN (by assumption) ?_))
    refine iLp (fun j : Nat => [.int .i64 (j : Int)]) (fun j w' => j ≤ (mem (f.a.getD k 0)).length ∧ Ext w4 w' ∧ ∀ i (hi : i < (mem (f.a.getD k 0)).length), i < j → ∀ z ∈ mem (f.a.getD k 0), p k (mem (f.a.getD k 0))[i] z = true) (fun j => (mem (f.a.getD k 0)).length - j) 0 rfl ⟨Nat.zero_le _, Ext.refl _, fun i _ hi => by omega⟩ ?_
    rintro j w6 Kn6 ⟨hj, h6, hdone6⟩ hKn6
    have hul6 := hul.ext h6
    (intro _; (try simp only [gx]); (with_reducible refine iLt ?_))
    refine iCndP (fun h7 => ?_) (fun h7 => ?_)
    · have hj1 : j < (mem (f.a.getD k 0)).length := by omega
      ((with_reducible refine iIaNN (by assumption) ?_ (fun pa_ hpa_ => ?_)); omega; (with_reducible refine iLd (by assumption) ?_))
      rw [hmg j hj1]
      refine iCall ((ok_impl_membersOf _ (by omega) w6).mono ?_)
      rintro u' w7 ⟨h8, hou'⟩
      have hul7 : SlN w7 u' (mem (f.a.getD k 0)) := hou'.sl
      ((with_reducible refine iLenN (by assumption) ?_))
      refine iLp (fun i : Nat => [.int .i64 (i : Int)]) (fun i w' => i ≤ (mem (f.a.getD k 0)).length ∧ Ext w7 w' ∧ ∀ i' (hi : i' < (mem (f.a.getD k 0)).length), i' < i → p k (mem (f.a.getD k 0))[j] (mem (f.a.getD k 0))[i'] = true) (fun i => (mem (f.a.getD k 0)).length - i) 0 rfl ⟨Nat.zero_le _, Ext.refl _, fun i' _ hi => by omega⟩ ?_
      rintro i w9 Kn9 ⟨hi, h9, hdone9⟩ hKn9
      have hul9 := hul7.ext h9
      (intro _; (try simp only [gx]); (with_reducible refine iLt ?_))
      refine iCndP (fun h10 => ?_) (fun h10 => ?_)
      · have hi1 : i < (mem (f.a.getD k 0)).length := by omega
        ((with_reducible refine iIaNN (by assumption) ?_ (fun pa_ hpa_ => ?_)); omega; (with_reducible refine iLd (by assumption) ?_))
        rw [hmg i hi1]
        have hX9 := hX4.trans (h6.trans (h8.trans h9))
        refine (hp w9 hX9 k _ _ hk1 (hmlt j hj1) (hmlt i hi1)).mono ?_
        rintro _ wA ⟨rfl, hA⟩
        ((with_reducible refine iNot ?_))
        cases hpb : p k (mem (f.a.getD k 0))[j] (mem (f.a.getD k 0))[i]
        · exact iCndT rfl (hno k _ _ wA hk1 (List.getElem_mem hj1) (List.getElem_mem hi1) hpb (hX9.trans hA))
        · refine iCndF rfl ?_
          (refine iAdd (by omega) ?_)
          refine hKn9 (i + 1) _ ⟨by omega, h9.trans hA, fun i' hi' hlt => ?_⟩ (by omega)
          rcases Nat.lt_or_ge i' i with h | h
          · exact hdone9 i' hi' h
          · obtain rfl : i' = i := by omega
            exact hpb
      · (refine iAdd (by omega) ?_)
        refine hKn6 (j + 1) _ ⟨by omega, h6.trans (h8.trans h9), fun i' hi' hlt z hz => ?_⟩ (by omega)
        rcases Nat.lt_or_ge i' j with h | h
        · exact hdone6 i' hi' h z hz
        · obtain rfl : i' = j := by omega
          obtain ⟨c, hc, rfl⟩ := List.getElem_of_mem hz
          exact hdone9 c hc (by omega)
    · (refine iAdd (by omega) ?_)
      refine hKn (k + 1) _ ⟨by omega, hX4.trans h6, fun x hx y hy z hz => ?_⟩ (by omega)
      rcases Nat.lt_or_ge x k with h | h
      · exact hdone x h y hy z hz
      · obtain rfl : x = k := by omega
        obtain ⟨c, hc, rfl⟩ := List.getElem_of_mem hy
        exact hdone6 c hc (by omega) z hz
  · refine ⟨?_, hX3⟩
    have : prB f p = true := by
      unfold prB
      simp only [List.all_eq_true, List.mem_range]
      exact fun x hx y hy z hz => hdone x (by omega) y hy z hz
    rw [this]
theorem ok_hasFlag_all {f : Fr} (hf : f.ok) {v : Value} {w : World} (hs : SlN w v f.a) (t : Nat) (ht : t ≤ 10) : Ret Tryz.prog f_impl_Frame_hasFlag #[.agg #[.int .i64 (f.n : Int), v], .int .i64 (t : Int)] w (.bool (flagI t f)) := by
  have hf8 := hf.1
  have hfl := hf.2.1
  apply c_impl_Frame_hasFlag; unfold S_impl_Frame_hasFlag
  have hX := Ext.refl w
  have hs0 := hs
  refine iNew fun b2 w1 hb2 h hB => ?_
  have hlb2 : w.heap.size ≤ b2 := by have := hX.size; omega
  have hX := hX.trans h
  have hs := hs.ext h
  ((with_reducible refine iFa ?_); refine iLdB (by assumption) (by first | rfl | simp) ?_)
  refine iCall ((ok_impl_inverse hf hs).mono ?_)
  rintro u w2 ⟨h, ho⟩
  have hX := hX.trans h
  have hs := hs.ext h
  have hB := hB.ext h
  have hB : Blk _ w2 b2 [.int .i64 (f.n : Int), v] := hB
  refine iNew fun b5 w3 hb5 h hC => ?_
  have hlb5 : w.heap.size ≤ b5 := by have := hX.size; omega
  have hne : b2 ≠ b5 := by have := hB.lt; omega
  have hou : u.ownBlock ≠ some b5 := ho.lt (by omega)
  have hX := hX.trans h
  have hB := hB.ext h
  have ho := ho.ext h
  refine iStB hC (by simp [Value.cells]) ho.cell fun hC' => ?_
  have hu := Upd.setCell w3 b5 0 u
  have hX := hX.upd hu hlb5
  have hB := hB.upd hu hne
  have ho := ho.upd hu hou
  have hC : Blk _ (w3.setCell ⟨b5, 0, none⟩ u) b5 [u] := hC'
  have hs4 := hs0.ext hX
  have hcall : ∀ w', Ext (w3.setCell ⟨b5, 0, none⟩ u) w' → SlN w' v f.a ∧ Blk _ w' b2 [.int .i64 (f.n : Int), v] ∧ Blk _ w' b5 [u] ∧ SlN w' u (inv f) := fun w' h' => ⟨hs0.ext (hX.trans h'), hB.ext h', hC.ext h', (ho.ext h').sl⟩
  have hil : (inv f).length = f.n := by simp [inv]
  have hinj : ∀ a b : List Nat, (nats a = nats b) ↔ a = b := fun a b => by
    constructor
    · intro h
      have h2 : ∀ c : List Nat, (nats c).map Int.toNat = c := fun c => by rw [nats, List.map_map]; exact List.map_id c
      have := congrArg (List.map Int.toNat) h
      rwa [h2, h2] at this
    · rintro h; rw [h]
  ((with_reducible refine iEq ?_))
  refine iCndP (fun h => ?_) (fun h0 => ?_)
  · obtain rfl : t = 0 := by omega
    ((with_reducible refine iLdA (by assumption) ?_ ?_); rfl)
    refine iRet (ok_impl_Frame_everyWorld (n := f.n) (u := v) (fun x => (f.a.getD x 0).testBit x) (by omega) _ ?_) fun w5 h => ⟨rfl, hX.trans h⟩
    intro w' h' x hx
    refine iClo rfl ?_
    obtain ⟨hs', hB', _, _⟩ := hcall w' h'
    refine c_impl_Frame_hasFlag_1 ?_
    show S_impl_Frame_hasFlag_1 (.int .i64 (x : Int)) (.pointer (some ⟨b2, 0, none⟩)) w' _
    unfold S_impl_Frame_hasFlag_1
    ((with_reducible refine iLdA (by assumption) ?_ ?_); rfl)
    exact iRet (ok_impl_Frame_sees hf hs' x x hx (by omega)) fun w4 h4 => ⟨rfl, h4⟩
  ((with_reducible refine iEq ?_))
  refine iCndP (fun h => ?_) (fun h1 => ?_)
  · obtain rfl : t = 1 := by omega
    ((with_reducible refine iLdA (by assumption) ?_ ?_); rfl)
    refine iRet (ok_impl_Frame_everyWorld (n := f.n) (u := v) (fun x => decide (f.a.getD x 0 ≠ 0)) (by omega) _ ?_) fun w5 h => ⟨rfl, hX.trans h⟩
    intro w' h' x hx
    refine iClo rfl ?_
    obtain ⟨hs', hB', _, _⟩ := hcall w' h'
    refine c_impl_Frame_hasFlag_2 ?_
    show S_impl_Frame_hasFlag_2 (.int .i64 (x : Int)) (.pointer (some ⟨b2, 0, none⟩)) w' _
    unfold S_impl_Frame_hasFlag_2
    ((with_reducible refine iFa ?_); refine iLdB (by assumption) (by first | rfl | simp) ?_; (with_reducible refine iIaNN (by assumption) ?_ (fun pa_ hpa_ => ?_)); omega; (with_reducible refine iLd (by assumption) ?_; refine iNe ?_))
    exact ⟨congrArg Value.bool (decide_eq_decide.2 (by omega)), Ext.refl _⟩
  ((with_reducible refine iEq ?_))
  refine iCndP (fun h => ?_) (fun h2 => ?_)
  · obtain rfl : t = 2 := by omega
    ((with_reducible refine iFa ?_); refine iLdB (by assumption) (by first | rfl | simp) ?_; (with_reducible refine iFa ?_); refine iLdB (by assumption) (by first | rfl | simp) ?_)
    intro w7 h
    have hX := hX.trans h
    refine iCall ((ok_impl_transitive hf.1 hf.2.1 hf.2.2 (hs0.ext hX)).mono ?_)
    rintro r w8 ⟨h, ho8⟩
    (try refine ⟨h, ?_⟩)
    have hX := hX.trans h
    refine iRetQ (fun w' h' => ok_slices_Equal_Si64_i64 (l := nats (wAll f.a f.n)) (l' := nats f.a) (ho8.ext h').sl (hs0.ext (hX.trans h'))) ?_
    intro w9 h
    exact ⟨congrArg Value.bool (decide_eq_decide.2 (hinj _ _)), hX.trans h⟩
  ((with_reducible refine iEq ?_))
  refine iCndP (fun h => ?_) (fun h3 => ?_)
  · obtain rfl : t = 3 := by omega
    have hus := ho.sl
    (refine iLdB (by assumption) (by first | rfl | simp) ?_; (with_reducible refine iFa ?_); refine iLdB (by assumption) (by first | rfl | simp) ?_)
    exact iRet (ok_slices_Equal_Si64_i64 (l := nats (inv f)) (l' := nats f.a) hus hs4) fun w5 h => ⟨congrArg Value.bool (decide_eq_decide.2 (hinj _ _)), hX.trans h⟩
  ((with_reducible refine iEq ?_))
  refine iCndP (fun h => ?_) (fun h4 => ?_)
  · obtain rfl : t = 4 := by omega
    ((with_reducible refine iLdA (by assumption) ?_ ?_); rfl)
    refine iRet (ok_impl_Frame_everyPair hf (fun _ y z => (f.a.getD y 0).testBit z) hs4 ?_) fun w5 h => ⟨rfl, hX.trans h⟩
    intro w' h' x y z hx hy hz
    refine iClo rfl ?_
    obtain ⟨hs', hB', _, _⟩ := hcall w' h'
    refine c_impl_Frame_hasFlag_3 ?_
    show S_impl_Frame_hasFlag_3 (.int .i64 (x : Int)) (.int .i64 (y : Int)) (.int .i64 (z : Int)) (.pointer (some ⟨b2, 0, none⟩)) w' _
    unfold S_impl_Frame_hasFlag_3
    ((with_reducible refine iLdA (by assumption) ?_ ?_); rfl)
    exact iRet (ok_impl_Frame_sees hf hs' y z hy (by omega)) fun w4 h4 => ⟨rfl, h4⟩
  ((with_reducible refine iEq ?_))
  refine iCndP (fun h => ?_) (fun h5 => ?_)
  · obtain rfl : t = 5 := by omega
    ((with_reducible refine iLdA (by assumption) ?_ ?_); rfl)
    refine iRet (ok_impl_Frame_everyPair hf (fun _ y z => decide (f.a.getD y 0 &&& f.a.getD z 0 ≠ 0)) hs4 ?_) fun w5 h => ⟨rfl, hX.trans h⟩
    intro w' h' x y z hx hy hz
    refine iClo rfl ?_
    obtain ⟨hs', hB', _, _⟩ := hcall w' h'
    refine c_impl_Frame_hasFlag_4 ?_
    show S_impl_Frame_hasFlag_4 (.int .i64 (x : Int)) (.int .i64 (y : Int)) (.int .i64 (z : Int)) (.pointer (some ⟨b2, 0, none⟩)) w' _
    unfold S_impl_Frame_hasFlag_4
    have hgy := fr_lt63 hf y
    have hgz := fr_lt63 hf z
    ((with_reducible refine iFa ?_); refine iLdB (by assumption) (by first | rfl | simp) ?_; (with_reducible refine iIaNN (by assumption) ?_ (fun pa_ hpa_ => ?_)); omega; (with_reducible refine iLd (by assumption) ?_; refine iFa ?_); refine iLdB (by assumption) (by first | rfl | simp) ?_; (with_reducible refine iIaNN (by assumption) ?_ (fun pa_ hpa_ => ?_)); omega; (with_reducible refine iLd (by assumption) ?_))
    refine iBAnd (by omega) (by omega) ?_
    ((with_reducible refine iNe ?_))
    intro w1 h1
    exact ⟨congrArg Value.bool (decide_eq_decide.2 (by omega)), h1⟩
  ((with_reducible refine iEq ?_))
  refine iCndP (fun h => ?_) (fun h6 => ?_)
  · obtain rfl : t = 6 := by omega
    ((with_reducible refine iLdA (by assumption) ?_ ?_); rfl)
    refine iRet (ok_impl_Frame_everyPair hf (fun _ y z => (f.a.getD y 0).testBit z || (f.a.getD z 0).testBit y) hs4 ?_) fun w5 h => ⟨rfl, hX.trans h⟩
    intro w' h' x y z hx hy hz
    refine iClo rfl ?_
    obtain ⟨hs', hB', _, _⟩ := hcall w' h'
    refine c_impl_Frame_hasFlag_5 ?_
    show S_impl_Frame_hasFlag_5 (.int .i64 (x : Int)) (.int .i64 (y : Int)) (.int .i64 (z : Int)) (.pointer (some ⟨b2, 0, none⟩)) w' _
    unfold S_impl_Frame_hasFlag_5
    refine iJnB ((f.a.getD y 0).testBit z || (f.a.getD z 0).testBit y) w' (fun J hJ => ?_) (fun w4 h4 => ?_)
    · ((with_reducible refine iLdA (by assumption) ?_ ?_); rfl)
      refine iRet (ok_impl_Frame_sees hf hs' y z hy (by omega)) fun w4 h4 => ?_
      refine iCnd (fun h5 => ?_) (fun h5 => ?_)
      · have := hJ w4 h4
        rwa [h5, Bool.true_or] at this
      · have hB4 := hB'.ext h4
        ((with_reducible refine iLdA (by assumption) ?_ ?_); rfl)
        refine iRet (ok_impl_Frame_sees hf (hs'.ext h4) z y hz (by omega)) fun w5 h6 => ?_
        have := hJ w5 (h4.trans h6)
        rwa [h5, Bool.false_or] at this
    · (intro _; (try simp only [gx]))
      exact ⟨by trivial, h4⟩
  ((with_reducible refine iEq ?_))
  refine iCndP (fun h => ?_) (fun h7 => ?_)
  · obtain rfl : t = 7 := by omega
    ((with_reducible refine iFa ?_); refine iLdB (by assumption) (by first | rfl | simp) ?_)
    refine iCall ((ok_impl_transitive hf.1 hf.2.1 hf.2.2 hs4).mono ?_)
    rintro r w8 ⟨h, ho8⟩
    have hX8 := hX.trans h
    have hB8 := hB.ext h
    refine iNew fun b6 w9 hb6 h9 hD => ?_
    have hlb6 : w.heap.size ≤ b6 := by have := hX8.size; omega
    have hne6 : b2 ≠ b6 := by have := hB8.lt; omega
    have hor : r.ownBlock ≠ some b6 := ho8.lt (by omega)
    have ho9 := ho8.ext h9
    refine iStB hD (by simp [Value.cells]) ho8.cell fun hD' => ?_
    have hu9 := Upd.setCell w9 b6 0 r
    have hX9 := (hX8.trans h9).upd hu9 hlb6
    have hB9 := (hB8.ext h9).upd hu9 hne6
    have hoA := ho9.upd hu9 hor
    have hD : Blk _ (w9.setCell ⟨b6, 0, none⟩ r) b6 [r] := hD'
    generalize w9.setCell ⟨b6, 0, none⟩ r = wA at *
    ((with_reducible refine iLdA (by assumption) ?_ ?_); rfl)
    refine iRet (ok_impl_Frame_everyWorld (n := f.n) (u := v) (fun x => !((wAll f.a f.n).getD x 0).testBit x) (by omega) _ ?_) fun w5 h => ⟨rfl, hX9.trans h⟩
    intro w' h' x hx
    refine iClo rfl ?_
    have hD' := hD.ext h'
    have hrs : SlN w' r (wAll f.a f.n) := (hoA.ext h').sl
    have hwl := wAll_length f.a f.n
    refine c_impl_Frame_hasFlag_6 ?_
    show S_impl_Frame_hasFlag_6 (.int .i64 (x : Int)) (.pointer (some ⟨b6, 0, none⟩)) w' _
    unfold S_impl_Frame_hasFlag_6
    (refine iLdB (by assumption) (by first | rfl | simp) ?_; (with_reducible refine iIaNN (by assumption) ?_ (fun pa_ hpa_ => ?_)); omega; (with_reducible refine iLd (by assumption) ?_))
    have hwlt : (wAll f.a f.n).getD x 0 < 2 ^ 63 := wAll_lt63 hf x
    refine iRet (ok_impl_has _ x hwlt (by omega) w') fun w1 h1 => ?_
    ((with_reducible refine iNot ?_))
    exact ⟨rfl, h1⟩
  ((with_reducible refine iEq ?_))
  refine iCndP (fun h => ?_) (fun h8 => ?_)
  · obtain rfl : t = 8 := by omega
    ((with_reducible refine iLdA (by assumption) ?_ ?_); rfl)
    refine iRet (ok_impl_Frame_everyWorld (n := f.n) (u := v) (fun x => decide (sdiff (f.a.getD x 0 &&& invC f.a f.n x) (2 ^ x) = 0)) (by omega) _ ?_) fun w5 h => ⟨rfl, hX.trans h⟩
    intro w' h' x hx
    refine iClo rfl ?_
    obtain ⟨hs', hB', hC', hi'⟩ := hcall w' h'
    refine c_impl_Frame_hasFlag_7 ?_
    show S_impl_Frame_hasFlag_7 (.int .i64 (x : Int)) (.pointer (some ⟨b2, 0, none⟩)) (.pointer (some ⟨b5, 0, none⟩)) w' _
    unfold S_impl_Frame_hasFlag_7
    have hg := fr_lt63 hf x
    have hi8 : invC f.a f.n x < 2 ^ 8 := Nat.lt_of_lt_of_le (invC_lt _ _ _) (Nat.pow_le_pow_right (by omega) hf8)
    have hand : f.a.getD x 0 &&& invC f.a f.n x < 2 ^ 8 := Nat.and_lt_two_pow _ hi8
    have h2x : 2 ^ x < 2 ^ 8 := Nat.pow_lt_pow_right (by omega) (by omega)
    ((with_reducible refine iFa ?_); refine iLdB (by assumption) (by first | rfl | simp) ?_; (with_reducible refine iIaNN (by assumption) ?_ (fun pa_ hpa_ => ?_)); omega; (with_reducible refine iLd (by assumption) ?_); refine iLdB (by assumption) (by first | rfl | simp) ?_; (with_reducible refine iIaNN (by assumption) ?_ (fun pa_ hpa_ => ?_)); omega; (with_reducible refine iLd (by assumption) ?_))
    rw [inv_get f x hx]
    refine iBAnd (by omega) (by omega) ?_
    refine iShlOne (by omega) ?_
    refine iRetQ (fun w'' _ => ok_impl_within _ _ (by omega) (by omega) w'') ?_
    intro w1' h1'
    exact ⟨rfl, h1'⟩
  ((with_reducible refine iEq ?_))
  refine iCndP (fun h => ?_) (fun h9 => ?_)
  · obtain rfl : t = 9 := by omega
    ((with_reducible refine iLdA (by assumption) ?_ ?_); rfl)
    refine iRet (ok_impl_Frame_everyPair hf (fun x y _ => decide (f.a.getD x 0 &&& invC f.a f.n y ≠ 0)) hs4 ?_) fun w5 h => ⟨rfl, hX.trans h⟩
    intro w' h' x y z hx hy hz
    refine iClo rfl ?_
    obtain ⟨hs', hB', hC', hi'⟩ := hcall w' h'
    refine c_impl_Frame_hasFlag_8 ?_
    show S_impl_Frame_hasFlag_8 (.int .i64 (x : Int)) (.int .i64 (y : Int)) (.int .i64 (z : Int)) (.pointer (some ⟨b2, 0, none⟩)) (.pointer (some ⟨b5, 0, none⟩)) w' _
    unfold S_impl_Frame_hasFlag_8
    have hg := fr_lt63 hf x
    have hi8 : invC f.a f.n y < 2 ^ 8 := Nat.lt_of_lt_of_le (invC_lt _ _ _) (Nat.pow_le_pow_right (by omega) hf8)
    ((with_reducible refine iFa ?_); refine iLdB (by assumption) (by first | rfl | simp) ?_; (with_reducible refine iIaNN (by assumption) ?_ (fun pa_ hpa_ => ?_)); omega; (with_reducible refine iLd (by assumption) ?_); refine iLdB (by assumption) (by first | rfl | simp) ?_; (with_reducible refine iIaNN (by assumption) ?_ (fun pa_ hpa_ => ?_)); omega; (with_reducible refine iLd (by assumption) ?_))
    rw [inv_get f y hy]
    refine iBAnd (by omega) (by omega) ?_
    ((with_reducible refine iNe ?_))
    intro w1' h1'
    exact ⟨congrArg Value.bool (decide_eq_decide.2 (by omega)), h1'⟩
  · obtain rfl : t = 10 := by omega
    ((with_reducible refine iLdA (by assumption) ?_ ?_); rfl)
    refine iRet (ok_impl_Frame_everyWorld (n := f.n) (u := v) (fun x => decide (popc (f.a.getD x 0) ≤ 1)) (by omega) _ ?_) fun w5 h => ⟨rfl, hX.trans h⟩
    intro w' h' x hx
    refine iClo rfl ?_
    obtain ⟨hs', hB', _, _⟩ := hcall w' h'
    refine c_impl_Frame_hasFlag_9 ?_
    show S_impl_Frame_hasFlag_9 (.int .i64 (x : Int)) (.pointer (some ⟨b2, 0, none⟩)) w' _
    unfold S_impl_Frame_hasFlag_9
    have hg := fr_lt63 hf x
    ((with_reducible refine iFa ?_); refine iLdB (by assumption) (by first | rfl | simp) ?_; (with_reducible refine iIaNN (by assumption) ?_ (fun pa_ hpa_ => ?_)); omega; (with_reducible refine iLd (by assumption) ?_))
    refine iRet (ok_impl_countMembers _ (by omega) w') fun w1 h1 => ?_
    ((with_reducible refine iLe ?_))
    exact ⟨congrArg Value.bool (decide_eq_decide.2 (by omega)), h1⟩
theorem ok_impl_one (b : Bool) (w : World) : Ret Tryz.prog f_impl_one #[.bool b] w (.int .i64 ((b.toNat : Nat) : Int)) := by
  apply c_impl_one; unfold S_impl_one
  cases b
  · exact iCndF rfl ⟨rfl, Ext.refl _⟩
  · exact iCndT rfl ⟨rfl, Ext.refl _⟩
end Go.Proofs.YtmefbjdioaahdaaGreatDoor

/- Contracts: the flags of a frame and FindFrameIsomorphism, in the program and the reference. Conditions: none. -/
namespace Go.Vc
section
variable {P : Program}
theorem iIaA {len b j : Nat} {k : IntKind} {K : Value → Prop} (hj : j < len) (h : K (.pointer (some ⟨b, j, none⟩))) : xIaA len 1 (.pointer (some ⟨b, 0, none⟩)) (.int k (j : Int)) K := by
  refine ⟨_, _, _, rfl, rfl, by omega, by omega, ?_⟩
  have : (⟨b, 0, none⟩ : Addr).add ((j : Int).toNat * 1) = ⟨b, j, none⟩ := by
    simp only [Addr.add, Int.toNat_natCast, Nat.mul_one, Nat.zero_add]; split
    · rename_i e; simp [e]
    · rfl
  rw [this]; exact h
end
/-- The flags, the first k of them set. -/
def flK (f : Fr) (k : Nat) : List Int := (List.range 11).map fun t => if t < k then (((flagI t f).toNat : Nat) : Int) else 0
theorem flK_length (f : Fr) (k : Nat) : (flK f k).length = 11 := by simp [flK]
theorem flK_set (f : Fr) (k : Nat) (_hk : k < 11) : (flK f k).set k (((flagI k f).toNat : Nat) : Int) = flK f (k + 1) := by
  apply List.ext_getElem
  · simp [flK]
  · intro i h1 h2
    rw [List.getElem_set]
    simp only [flK, List.getElem_map, List.getElem_range]
    by_cases h : k = i
    · subst h; rw [if_pos rfl, if_pos (by omega)]
    · rw [if_neg h]
      by_cases h' : i < k
      · rw [if_pos h', if_pos (by omega)]
      · rw [if_neg h', if_neg (by omega)]
end Go.Vc
namespace Go.Proofs.YtmefbjdioaahdaaGreatDoor
open Go.Vc
theorem ok_impl_flagsOf {f : Fr} (hf : f.ok) {v : Value} {w : World} (hs : SlN w v f.a) : Ret Tryz.prog f_impl_flagsOf #[.agg #[.int .i64 (f.n : Int), v]] w (.agg ((flK f 11).map (Value.int .i64)).toArray) := by
  apply c_impl_flagsOf; unfold S_impl_flagsOf
  have hX := Ext.refl w
  refine iNew fun b1 w1 hb1 h hB1 => ?_
  have hX := hX.trans h
  refine iNew fun b2 w2 hb2 h hB2 => ?_
  have hlb2 : w.heap.size ≤ b2 := by have := hX.size; omega
  have hX := hX.trans h
  have hB1 := hB1.ext h
  refine iNew fun b3 w3 hb3 h hB3 => ?_
  have hlb3 : w.heap.size ≤ b3 := by have := hX.size; omega
  have hne1 : b1 ≠ b3 := by have := hB1.lt; omega
  have hne2 : b2 ≠ b3 := by have := hB2.lt; omega
  have hne12 : b1 ≠ b2 := by have := hB1.lt; omega
  have hX := hX.trans h
  have hB1 := hB1.ext h
  have hB2 := hB2.ext h
  obtain ⟨e1, hB1⟩ : ∃ e, Blk e w3 b1 [.int .i64 (f.n : Int), v] := ⟨_, hB1⟩
  obtain ⟨e2, hB2⟩ : ∃ e, Blk e w3 b2 (ints (flK f 0)) := ⟨_, hB2⟩
  obtain ⟨e3, hB3⟩ : ∃ e, Blk e w3 b3 (ints (flK f 0)) := ⟨_, hB3⟩
  refine iLp (fun k : Nat => [.int .i64 (k : Int)]) (fun k w' => k ≤ 11 ∧ Ext w w' ∧ Blk e1 w' b1 [.int .i64 (f.n : Int), v] ∧ Blk e2 w' b2 (ints (flK f 0)) ∧ Blk e3 w' b3 (ints (flK f k))) (fun k => 11 - k) 0 rfl ⟨Nat.zero_le _, hX, hB1, hB2, hB3⟩ ?_
  rintro k w5 Kn ⟨hk, hX5, hB15, hB25, hB35⟩ hKn
  have hs5 := hs.ext hX5
  have hfl : ∀ k, (ints (flK f k)).length = 11 := fun k => by rw [ints_length, flK_length]
  (intro _; (try simp only [gx]); (with_reducible refine iLt ?_))
  refine iCndP (fun h4 => ?_) (fun h4 => ?_)
  · have hk1 : k < 11 := by omega
    ((with_reducible refine iLdA (by assumption) ?_ ?_); rfl)
    refine iRet (ok_hasFlag_all hf hs5 k (by omega)) fun w6 h6 => ?_
    refine iRet (ok_impl_one _ w6) fun w7 h7 => ?_
    refine iIaA hk1 ?_
    have hX7 := hX5.trans (h6.trans h7)
    have hB37 := (hB35.ext h6).ext h7
    refine iStB hB37 (by rw [hfl]; exact hk1) rfl fun hB38 => ?_
    have hu := Upd.setCell w7 b3 k (.int .i64 (((flagI k f).toNat : Nat) : Int))
    have hset : (ints (flK f k)).set k (.int .i64 (((flagI k f).toNat : Nat) : Int)) = ints (flK f (k + 1)) := by rw [← flK_set f k hk1]; simp [ints, List.map_set]
    rw [hset] at hB38
    (refine iAdd (by omega) ?_)
    exact hKn (k + 1) _ ⟨by omega, hX7.upd hu hlb3, ((hB15.ext h6).ext h7).upd hu hne1, ((hB25.ext h6).ext h7).upd hu hne2, hB38⟩ (by omega)
  · obtain rfl : k = 11 := by omega
    refine iLdA hB35 (hfl 11) ?_
    refine iStAB hB25 (hfl 0) (by rw [List.size_toArray]; exact hfl 11) (fun u hu => ?_) fun w9 hu hB9 => ?_
    · simp [ints] at hu
      obtain ⟨a, _, rfl⟩ := hu; rfl
    · refine iLdA hB9 (by simpa using hfl 11) ?_
      refine ⟨?_, hX5.upd hu hlb2⟩
      simp [ints]
end Go.Proofs.YtmefbjdioaahdaaGreatDoor

/- Contracts: what a filter allows and keeps. Conditions: none. -/
namespace Go.Vc
abbrev N2 := Nat × Nat
def val2 (p : N2) : Value := .agg #[.int .i64 (p.1 : Int), .int .i64 (p.2 : Int)]
def cells2 (L : List N2) : List Value := L.flatMap fun p => [.int .i64 (p.1 : Int), .int .i64 (p.2 : Int)]
theorem cells2_app (A B : List N2) : cells2 (A ++ B) = cells2 A ++ cells2 B := by simp [cells2]
theorem cells2_get : ∀ {L : List N2} {j : Nat} (hj : j < L.length), (cells2 L)[j * 2]? = some (.int .i64 (L[j].1 : Int)) ∧ (cells2 L)[j * 2 + 1]? = some (.int .i64 (L[j].2 : Int))
  | a :: L, 0, _ => ⟨rfl, rfl⟩
  | a :: L, j + 1, hj => by
    have := cells2_get (L := L) (j := j) (by simpa using hj)
    rw [show (j + 1) * 2 = j * 2 + 2 by omega]
    exact this
theorem iRd2 {w : World} {v : Value} {L : List N2} {j : Nat} {k : IntKind} {K : Value → Prop} (hs : SlK 2 w v L.length (cells2 L)) (hj : j < L.length) (h : K (val2 L[j])) : xIa 2 v (.int k (j : Int)) fun p => xLdA w 2 p K := by
  refine iIaK hs hj fun b o hc => ?_
  refine ⟨_, #[.int .i64 (L[j].1 : Int), .int .i64 (L[j].2 : Int)], rfl, rfl, fun i hi => ?_, h⟩
  rw [addr_add, hc i hi]
  obtain ⟨g1, g2⟩ := cells2_get hj
  match i, hi with
  | 0, _ => exact g1
  | 1, _ => exact g2
end Go.Vc
namespace Go.Proofs.YtmefbjdioaahdaaGreatDoor
open Go.Vc
def bxL (B : List Md) : List N2 := (B.filter fun d => d.1).map fun d => d.2
def dmL (B : List Md) : List N2 := (B.filter fun d => !d.1).map fun d => d.2
theorem may_false {B : List Md} {w v : Nat} : mayB B false w v = (!((bxL B).any fun p => p.1.testBit w && !p.2.testBit v) && !((dmL B).any fun p => p.2.testBit v && !p.1.testBit w)) := by
  unfold mayB bxL dmL
  rw [Bool.eq_iff_iff, List.all_eq_true, Bool.and_eq_true, Bool.not_eq_true', Bool.not_eq_true', List.any_eq_false, List.any_eq_false]
  simp only [List.mem_map, List.mem_filter]
  constructor
  · intro h
    refine ⟨?_, ?_⟩
    · rintro p ⟨d, ⟨hd, hb⟩, rfl⟩ hp
      have := h d hd
      unfold mayD at this
      rw [if_pos hb] at this
      rw [Bool.and_eq_true, Bool.not_eq_true'] at hp
      rw [hp.1, hp.2] at this; cases this
    · rintro p ⟨d, ⟨hd, hb⟩, rfl⟩ hp
      have := h d hd
      unfold mayD at this
      rw [if_neg (by simpa using hb)] at this
      rw [Bool.and_eq_true, Bool.not_eq_true'] at hp
      rw [hp.1, hp.2] at this; cases this
  · rintro ⟨h1, h2⟩ d hd
    unfold mayD
    cases hb : d.1
    · have := h2 d.2 ⟨d, ⟨hd, by rw [hb]; rfl⟩, rfl⟩
      rw [if_neg (by simp)]
      revert this
      cases d.2.1.testBit w <;> cases d.2.2.testBit v <;> simp
    · have := h1 d.2 ⟨d, ⟨hd, hb⟩, rfl⟩
      rw [if_pos rfl]
      revert this
      cases d.2.1.testBit w <;> cases d.2.2.testBit v <;> simp
/-- What a filter keeps. -/
def keepB (B : List Md) (w v : Nat) : Bool := !((bxL B).any fun p => p.1.testBit w && !p.1.testBit v) && !((dmL B).any fun p => p.1.testBit v && !p.1.testBit w)
theorem may_true {B : List Md} {w v : Nat} : mayB B true w v = (mayB B false w v && keepB B w v) := by
  unfold mayB keepB bxL dmL
  rw [Bool.eq_iff_iff, List.all_eq_true, Bool.and_eq_true, List.all_eq_true, Bool.and_eq_true, Bool.not_eq_true', Bool.not_eq_true', List.any_eq_false, List.any_eq_false]
  simp only [List.mem_map, List.mem_filter]
  constructor
  · intro h
    refine ⟨fun d hd => ?_, ?_, ?_⟩
    · have := h d hd
      unfold mayD at *
      revert this
      cases d.1 <;> cases d.2.1.testBit w <;> cases d.2.2.testBit v <;> simp
    · rintro p ⟨d, ⟨hd, hb⟩, rfl⟩ hp
      have := h d hd
      unfold mayD at this
      rw [if_pos hb] at this
      rw [Bool.and_eq_true, Bool.not_eq_true'] at hp
      rw [hp.1, hp.2] at this
      simp at this
    · rintro p ⟨d, ⟨hd, hb⟩, rfl⟩ hp
      have := h d hd
      unfold mayD at this
      rw [if_neg (by simpa using hb)] at this
      rw [Bool.and_eq_true, Bool.not_eq_true'] at hp
      rw [hp.1, hp.2] at this
      simp at this
  · rintro ⟨h0, h1, h2⟩ d hd
    have h0 := h0 d hd
    unfold mayD at *
    cases hb : d.1
    · have := h2 d.2 ⟨d, ⟨hd, by rw [hb]; rfl⟩, rfl⟩
      rw [if_neg (by rw [hb]; simp)] at h0
      rw [if_neg (by simp)]
      revert this h0
      cases d.2.1.testBit w <;> cases d.2.2.testBit v <;> cases d.2.1.testBit v <;> simp
    · have := h1 d.2 ⟨d, ⟨hd, hb⟩, rfl⟩
      rw [if_pos hb] at h0
      rw [if_pos rfl]
      revert this h0
      cases d.2.1.testBit w <;> cases d.2.2.testBit v <;> cases d.2.1.testBit v <;> simp
theorem ok_slices_ContainsFunc2 {v fv : Value} {L : List N2} {p : N2 → Bool} {w : World} (hs : SlK 2 w v L.length (cells2 L)) (hf : ∀ x ∈ L, ∀ w', Ext w w' → callV Tryz.prog fv [val2 x] w' fun u w'' => u = .bool (p x) ∧ Ext w' w'') : Ret Tryz.prog f_slices_ContainsFunc_S_2i64__2i64 #[v, fv] w (.bool (L.any p)) := by
  apply c_slices_ContainsFunc_S_2i64__2i64; unfold S_slices_ContainsFunc_S_2i64__2i64
  have hln := SlK.len hs
  refine iCall (Cal.mono (R := fun r w' => Ext w w' ∧ ∃ z : Int, r = .int .i64 z ∧ (decide (0 ≤ z) = L.any p)) ?_ ?_)
  · apply c_slices_IndexFunc_S_2i64__2i64; unfold S_slices_IndexFunc_S_2i64__2i64
    refine iLenK hs ?_
    refine iLp (fun i : Nat => [.int .i64 (i : Int)]) (fun i w' => i ≤ L.length ∧ Ext w w' ∧ ∀ j (hj : j < L.length), j < i → p L[j] = false) (fun i => L.length - i) 0 rfl ⟨Nat.zero_le _, Ext.refl _, fun j _ hj => by omega⟩ ?_
    rintro i w2 Kn ⟨hi, h2, hno⟩ hKn
    intro _
    simp only [gx]
    refine iLt ?_
    refine iCndP (fun h => ?_) (fun h => ?_)
    · have hi1 : i < L.length := by omega
      refine iRd2 (SlK.ext hs h2) hi1 ?_
      refine (hf L[i] (List.getElem_mem _) w2 h2).mono ?_
      rintro u w3 ⟨rfl, h23⟩
      refine iCnd (fun h3 => ?_) (fun h3 => ?_)
      · refine ⟨h2.trans h23, _, rfl, ?_⟩
        rw [List.any_eq_true.2 ⟨_, List.getElem_mem hi1, h3⟩]; simp
      · refine iAdd (by omega) ?_
        refine hKn (i + 1) _ ⟨by omega, h2.trans h23, fun j hj hji => ?_⟩ (by omega)
        by_cases e : j = i
        · subst e; exact h3
        · exact hno j hj (by omega)
    · refine ⟨h2, -1, rfl, ?_⟩
      rw [List.any_eq_false.2 fun x hx => ?_]
      · rfl
      · obtain ⟨j, hj, rfl⟩ := List.getElem_of_mem hx
        rw [hno j hj (by omega)]; simp
  · rintro r w1 ⟨h1, z, rfl, hz⟩
    refine iLe ?_
    rw [hz]
    exact ⟨by first | trivial | rfl, h1⟩
end Go.Proofs.YtmefbjdioaahdaaGreatDoor

/- Contracts: what a filter allows and keeps, in the program. Conditions: none. -/
namespace Go.Proofs.YtmefbjdioaahdaaGreatDoor
open Go.Vc
/-- The modal parts of a formula in a model. -/
def mdM (f : Fr) (V : List Nat) (a : Fm) : List Md := mdL f (fun v => V.getD v 0) a a.size
theorem mdM_lt {f : Fr} (hf : f.ok) {V : List Nat} (hV : ∀ x ∈ V, x < 2 ^ f.n) {a : Fm} {d : Md} (hd : d ∈ mdM f V a) : d.2.1 < 2 ^ 8 ∧ d.2.2 < 2 ^ 8 := by
  have h8 : 2 ^ f.n ≤ 2 ^ 8 := Nat.pow_le_pow_right (by omega) hf.1
  have hlt : ∀ v, V.getD v 0 < 2 ^ f.n := fun v => by
    rcases Nat.lt_or_ge v V.length with h | h
    · exact getD_lt hV h
    · rw [List.getD_eq_getElem?_getD, List.getElem?_eq_none h]; exact Nat.two_pow_pos _
  rcases mdL_of hd with ⟨g, rfl⟩ | ⟨g, rfl⟩
  · exact ⟨Nat.lt_of_lt_of_le (trM_lt hlt _) h8, Nat.lt_of_lt_of_le (trM_lt hlt _) h8⟩
  · exact ⟨Nat.lt_of_lt_of_le (trM_lt hlt _) h8, Nat.lt_of_lt_of_le (trM_lt hlt _) h8⟩
theorem bx_lt {f : Fr} (hf : f.ok) {V : List Nat} (hV : ∀ x ∈ V, x < 2 ^ f.n) {a : Fm} {p : N2} (h : p ∈ bxL (mdM f V a)) : p.1 < 2 ^ 8 ∧ p.2 < 2 ^ 8 := by
  obtain ⟨d, hd, rfl⟩ := List.mem_map.1 h
  exact mdM_lt hf hV (List.mem_filter.1 hd).1
theorem dm_lt {f : Fr} (hf : f.ok) {V : List Nat} (hV : ∀ x ∈ V, x < 2 ^ f.n) {a : Fm} {p : N2} (h : p ∈ dmL (mdM f V a)) : p.1 < 2 ^ 8 ∧ p.2 < 2 ^ 8 := by
  obtain ⟨d, hd, rfl⟩ := List.mem_map.1 h
  exact mdM_lt hf hV (List.mem_filter.1 hd).1
/-- A filter in memory. -/
def FlW (w : World) (b : Nat) (f : Fr) (V : List Nat) (a : Fm) (c : List Nat) : Prop := ∃ va vv vn vc vb vd, Blk 77 w b [.int .i64 (f.n : Int), va, vv, vn, vc, vb, vd] ∧ SlN w va f.a ∧ SlN w vv V ∧ FmS w vn a ∧ SlN w vc c ∧ SlK 2 w vb (bxL (mdM f V a)).length (cells2 (bxL (mdM f V a))) ∧ SlK 2 w vd (dmL (mdM f V a)).length (cells2 (dmL (mdM f V a)))
theorem FlW.ext {w w' : World} {b : Nat} {f : Fr} {V : List Nat} {a : Fm} {c : List Nat} (h : FlW w b f V a c) (x : Ext w w') : FlW w' b f V a c := by
  obtain ⟨va, vv, vn, vc, vb, vd, h1, h2, h3, h4, h5, h6, h7⟩ := h
  exact ⟨va, vv, vn, vc, vb, vd, h1.ext x, h2.ext x, h3.ext x, SlK.ext h4 x, h5.ext x, SlK.ext h6 x, SlK.ext h7 x⟩
theorem ok_allows_1 {p : N2} (h1 : p.1 < 2 ^ 8) (h2 : p.2 < 2 ^ 8) {x y : Nat} (hx : x < 8) (hy : y < 8) {e e' : TypeId} {bx bY : Nat} {w : World} (hX : Blk e w bx [.int .i64 (x : Int)]) (hY : Blk e' w bY [.int .i64 (y : Int)]) : Ret Tryz.prog f_impl_filter_allows_1 #[val2 p, .pointer (some ⟨bx, 0, none⟩), .pointer (some ⟨bY, 0, none⟩)] w (.bool (p.1.testBit x && !p.2.testBit y)) := by
  apply c_impl_filter_allows_1; unfold S_impl_filter_allows_1
  refine iNew fun b w1 hb x1 hB => ?_
  have hB : Blk 75 w1 b [.int .i64 (p.1 : Int), .int .i64 (p.2 : Int)] := hB
  refine iJnB (p.1.testBit x && !p.2.testBit y) w1 (fun J hJ => ?_) (fun w3 x3 => fun _ => ⟨by first | trivial | rfl, x1.trans x3⟩)
  refine iIaA (j := 0) (by omega) (iLdB hB rfl ?_)
  refine iLdB (hX.ext x1) rfl ?_
  refine iRet (ok_impl_has _ x (by omega) (by omega) w1) fun w4 x4 => ?_
  refine iCnd (fun h => ?_) (fun h => ?_)
  · rw [h, Bool.true_and] at hJ
    refine iIaA (j := 1) (by omega) (iLdB (hB.ext x4) rfl ?_)
    refine iLdB ((hY.ext x1).ext x4) rfl ?_
    refine iRet (ok_impl_has _ y (by omega) (by omega) w4) fun w5 x5 => iNot ?_
    exact hJ _ (x4.trans x5)
  · rw [h, Bool.false_and] at hJ
    exact hJ _ x4
theorem ok_allows_2 {p : N2} (h1 : p.1 < 2 ^ 8) (h2 : p.2 < 2 ^ 8) {x y : Nat} (hx : x < 8) (hy : y < 8) {e e' : TypeId} {bx bY : Nat} {w : World} (hX : Blk e w bx [.int .i64 (x : Int)]) (hY : Blk e' w bY [.int .i64 (y : Int)]) : Ret Tryz.prog f_impl_filter_allows_2 #[val2 p, .pointer (some ⟨bx, 0, none⟩), .pointer (some ⟨bY, 0, none⟩)] w (.bool (p.2.testBit x && !p.1.testBit y)) := by
  apply c_impl_filter_allows_2; unfold S_impl_filter_allows_2
  refine iNew fun b w1 hb x1 hB => ?_
  have hB : Blk 75 w1 b [.int .i64 (p.1 : Int), .int .i64 (p.2 : Int)] := hB
  refine iJnB (p.2.testBit x && !p.1.testBit y) w1 (fun J hJ => ?_) (fun w3 x3 => fun _ => ⟨by first | trivial | rfl, x1.trans x3⟩)
  refine iIaA (j := 1) (by omega) (iLdB hB rfl ?_)
  refine iLdB (hX.ext x1) rfl ?_
  refine iRet (ok_impl_has _ x (by omega) (by omega) w1) fun w4 x4 => ?_
  refine iCnd (fun h => ?_) (fun h => ?_)
  · rw [h, Bool.true_and] at hJ
    refine iIaA (j := 0) (by omega) (iLdB (hB.ext x4) rfl ?_)
    refine iLdB ((hY.ext x1).ext x4) rfl ?_
    refine iRet (ok_impl_has _ y (by omega) (by omega) w4) fun w5 x5 => iNot ?_
    exact hJ _ (x4.trans x5)
  · rw [h, Bool.false_and] at hJ
    exact hJ _ x4
theorem ok_keeps_1 {p : N2} (h1 : p.1 < 2 ^ 8) {x y : Nat} (hx : x < 8) (hy : y < 8) {e e' : TypeId} {bx bY : Nat} {w : World} (hX : Blk e w bx [.int .i64 (x : Int)]) (hY : Blk e' w bY [.int .i64 (y : Int)]) : Ret Tryz.prog f_impl_filter_keeps_1 #[val2 p, .pointer (some ⟨bx, 0, none⟩), .pointer (some ⟨bY, 0, none⟩)] w (.bool (p.1.testBit x && !p.1.testBit y)) := by
  apply c_impl_filter_keeps_1; unfold S_impl_filter_keeps_1
  refine iNew fun b w1 hb x1 hB => ?_
  have hB : Blk 75 w1 b [.int .i64 (p.1 : Int), .int .i64 (p.2 : Int)] := hB
  refine iJnB (p.1.testBit x && !p.1.testBit y) w1 (fun J hJ => ?_) (fun w3 x3 => fun _ => ⟨by first | trivial | rfl, x1.trans x3⟩)
  refine iIaA (j := 0) (by omega) (iLdB hB rfl ?_)
  refine iLdB (hX.ext x1) rfl ?_
  refine iRet (ok_impl_has _ x (by omega) (by omega) w1) fun w4 x4 => ?_
  refine iCnd (fun h => ?_) (fun h => ?_)
  · rw [h, Bool.true_and] at hJ
    refine iIaA (j := 0) (by omega) (iLdB (hB.ext x4) rfl ?_)
    refine iLdB ((hY.ext x1).ext x4) rfl ?_
    refine iRet (ok_impl_has _ y (by omega) (by omega) w4) fun w5 x5 => iNot ?_
    exact hJ _ (x4.trans x5)
  · rw [h, Bool.false_and] at hJ
    exact hJ _ x4
theorem ok_keeps_2 {p : N2} (h1 : p.1 < 2 ^ 8) {x y : Nat} (hx : x < 8) (hy : y < 8) {e e' : TypeId} {bx bY : Nat} {w : World} (hX : Blk e w bx [.int .i64 (x : Int)]) (hY : Blk e' w bY [.int .i64 (y : Int)]) : Ret Tryz.prog f_impl_filter_keeps_2 #[val2 p, .pointer (some ⟨bx, 0, none⟩), .pointer (some ⟨bY, 0, none⟩)] w (.bool (p.1.testBit x && !p.1.testBit y)) := by
  apply c_impl_filter_keeps_2; unfold S_impl_filter_keeps_2
  refine iNew fun b w1 hb x1 hB => ?_
  have hB : Blk 75 w1 b [.int .i64 (p.1 : Int), .int .i64 (p.2 : Int)] := hB
  refine iJnB (p.1.testBit x && !p.1.testBit y) w1 (fun J hJ => ?_) (fun w3 x3 => fun _ => ⟨by first | trivial | rfl, x1.trans x3⟩)
  refine iIaA (j := 0) (by omega) (iLdB hB rfl ?_)
  refine iLdB (hX.ext x1) rfl ?_
  refine iRet (ok_impl_has _ x (by omega) (by omega) w1) fun w4 x4 => ?_
  refine iCnd (fun h => ?_) (fun h => ?_)
  · rw [h, Bool.true_and] at hJ
    refine iIaA (j := 0) (by omega) (iLdB (hB.ext x4) rfl ?_)
    refine iLdB ((hY.ext x1).ext x4) rfl ?_
    refine iRet (ok_impl_has _ y (by omega) (by omega) w4) fun w5 x5 => iNot ?_
    exact hJ _ (x4.trans x5)
  · rw [h, Bool.false_and] at hJ
    exact hJ _ x4
theorem ok_impl_filter_allows {f : Fr} (hf : f.ok) {V : List Nat} (hV : ∀ x ∈ V, x < 2 ^ f.n) {a : Fm} {c : List Nat} {b : Nat} {w : World} (hF : FlW w b f V a c) {x y : Nat} (hx : x < f.n) (hy : y < f.n) : Ret Tryz.prog f_impl_filter_allows #[.pointer (some ⟨b, 0, none⟩), .int .i64 (x : Int), .int .i64 (y : Int)] w (.bool (mayB (mdM f V a) false x y)) := by
  have h8 := hf.1
  obtain ⟨va, vv, vn, vc, vb, vd, hB, _, _, _, _, hbx, hdm⟩ := hF
  apply c_impl_filter_allows; unfold S_impl_filter_allows
  refine iNew fun bx w1 hb1 x1 hX => ?_
  refine iNew fun bY w2 hb2 x2 hY => ?_
  have hX : Blk _ w2 bx [.int .i64 (x : Int)] := hX.ext x2
  have hY : Blk _ w2 bY [.int .i64 (y : Int)] := hY
  have X2 := x1.trans x2
  refine iJnB (mayB (mdM f V a) false x y) w2 (fun J hJ => ?_) (fun w3 x3 => fun _ => ⟨by first | trivial | rfl, X2.trans x3⟩)
  rw [may_false] at hJ
  refine iNil (iFa (iLdB (hB.ext X2) (i := 5) (v := vb) rfl ?_))
  refine iRet (ok_slices_ContainsFunc2 (p := fun p => p.1.testBit x && !p.2.testBit y) (SlK.ext hbx X2) fun p hp w4 x4 => ?_) fun w5 x5 => ?_
  · refine iClo (f := f_impl_filter_allows_1) (first := #[]) (cap := #[.pointer (some ⟨bx, 0, none⟩), .pointer (some ⟨bY, 0, none⟩)]) rfl ?_
    obtain ⟨h1, h2⟩ := bx_lt hf hV hp
    exact (ok_allows_1 h1 h2 (by omega) (by omega) (hX.ext x4) (hY.ext x4)).mono fun _ _ h => h
  refine iNot ?_
  refine iCnd (fun h => ?_) (fun h => ?_)
  · rw [h, Bool.true_and] at hJ
    refine iNil (iFa (iLdB (hB.ext (X2.trans x5)) (i := 6) (v := vd) rfl ?_))
    refine iRet (ok_slices_ContainsFunc2 (p := fun p => p.2.testBit y && !p.1.testBit x) (SlK.ext hdm (X2.trans x5)) fun p hp w6 x6 => ?_) fun w7 x7 => iNot ?_
    · refine iClo (f := f_impl_filter_allows_2) (first := #[]) (cap := #[.pointer (some ⟨bY, 0, none⟩), .pointer (some ⟨bx, 0, none⟩)]) rfl ?_
      obtain ⟨h1, h2⟩ := dm_lt hf hV hp
      exact (ok_allows_2 h1 h2 (by omega) (by omega) (hY.ext (x5.trans x6)) (hX.ext (x5.trans x6))).mono fun _ _ h => h
    · exact hJ _ (x5.trans x7)
  · rw [h, Bool.false_and] at hJ
    exact hJ _ x5
theorem ok_impl_filter_keeps {f : Fr} (hf : f.ok) {V : List Nat} (hV : ∀ x ∈ V, x < 2 ^ f.n) {a : Fm} {c : List Nat} {b : Nat} {w : World} (hF : FlW w b f V a c) {x y : Nat} (hx : x < f.n) (hy : y < f.n) : Ret Tryz.prog f_impl_filter_keeps #[.pointer (some ⟨b, 0, none⟩), .int .i64 (x : Int), .int .i64 (y : Int)] w (.bool (keepB (mdM f V a) x y)) := by
  have h8 := hf.1
  obtain ⟨va, vv, vn, vc, vb, vd, hB, _, _, _, _, hbx, hdm⟩ := hF
  apply c_impl_filter_keeps; unfold S_impl_filter_keeps
  refine iNew fun bx w1 hb1 x1 hX => ?_
  refine iNew fun bY w2 hb2 x2 hY => ?_
  have hX : Blk _ w2 bx [.int .i64 (x : Int)] := hX.ext x2
  have hY : Blk _ w2 bY [.int .i64 (y : Int)] := hY
  have X2 := x1.trans x2
  refine iJnB (keepB (mdM f V a) x y) w2 (fun J hJ => ?_) (fun w3 x3 => fun _ => ⟨by first | trivial | rfl, X2.trans x3⟩)
  unfold keepB at hJ
  refine iNil (iFa (iLdB (hB.ext X2) (i := 5) (v := vb) rfl ?_))
  refine iRet (ok_slices_ContainsFunc2 (p := fun p => p.1.testBit x && !p.1.testBit y) (SlK.ext hbx X2) fun p hp w4 x4 => ?_) fun w5 x5 => ?_
  · refine iClo (f := f_impl_filter_keeps_1) (first := #[]) (cap := #[.pointer (some ⟨bx, 0, none⟩), .pointer (some ⟨bY, 0, none⟩)]) rfl ?_
    exact (ok_keeps_1 (bx_lt hf hV hp).1 (by omega) (by omega) (hX.ext x4) (hY.ext x4)).mono fun _ _ h => h
  refine iNot ?_
  refine iCnd (fun h => ?_) (fun h => ?_)
  · rw [h, Bool.true_and] at hJ
    refine iNil (iFa (iLdB (hB.ext (X2.trans x5)) (i := 6) (v := vd) rfl ?_))
    refine iRet (ok_slices_ContainsFunc2 (p := fun p => p.1.testBit y && !p.1.testBit x) (SlK.ext hdm (X2.trans x5)) fun p hp w6 x6 => ?_) fun w7 x7 => iNot ?_
    · refine iClo (f := f_impl_filter_keeps_2) (first := #[]) (cap := #[.pointer (some ⟨bY, 0, none⟩), .pointer (some ⟨bx, 0, none⟩)]) rfl ?_
      exact (ok_keeps_2 (dm_lt hf hV hp).1 (by omega) (by omega) (hY.ext (x5.trans x6)) (hX.ext (x5.trans x6))).mono fun _ _ h => h
    · exact hJ _ (x5.trans x7)
  · rw [h, Bool.false_and] at hJ
    exact hJ _ x5
end Go.Proofs.YtmefbjdioaahdaaGreatDoor

/- Contracts: lists of classes, which of them are congruences, the program's quotient and least form of a poset. Conditions: none. -/
namespace Go.Proofs.YtmefbjdioaahdaaGreatDoor
open Go.Vc
theorem toNat_nats (c : List Nat) : (nats c).map Int.toNat = c := by
  unfold nats
  rw [List.map_map]
  exact (List.map_congr_left fun x _ => (rfl : (Int.toNat ∘ Int.ofNat) x = id x)).trans (List.map_id c)
theorem ok_slices_MaxG {v : Value} {w : World} {c : List Nat} (hs : SlN w v c) (hg : grB 0 c = true) (hn : 0 < c.length) : Ret Tryz.prog f_slices_Max_Si64_i64 #[v] w (.int .i64 ((topG 0 c - 1 : Nat) : Int)) := by
  have hcap := hs.len
  have hone : topG 0 (c.take 1) = 1 := by
    rw [topG_take hn]
    have h1 := grB_at hg hn
    have h2 : topG 0 (c.take 0) = 0 := rfl
    rw [h2] at h1 ⊢
    rw [if_pos (by omega)]
  apply c_slices_Max_Si64_i64; unfold S_slices_Max_Si64_i64
  refine iLenN hs ?_
  refine iLt ?_
  refine iJnE True w (fun J hJ => iCndF (decide_eq_false (by omega)) (hJ _ (Ext.refl _) trivial)) fun w0 x0 _ => ?_
  intro _
  refine iIaNN (hs.ext x0) hn fun p hp => iLd hp ?_
  have h0 : c.getD 0 0 = topG 0 (c.take 1) - 1 := by
    have h1 := grB_at hg hn
    have h2 : topG 0 (c.take 0) = 0 := rfl
    rw [h2] at h1
    omega
  rw [h0]
  refine iLp (fun k : Nat => [.int .i64 ((topG 0 (c.take k) - 1 : Nat) : Int), .int .i64 (k : Int)]) (fun k w' => 1 ≤ k ∧ k ≤ c.length ∧ Ext w w') (fun k => c.length - k) 1 (by rw [hone]; rfl) ⟨Nat.le_refl _, hn, x0⟩ ?_
  rintro k w2 Kn ⟨hk1, hk, x2⟩ hKn
  have hs2 := hs.ext x2
  intro _
  simp only [gx]
  refine iLenN hs2 ?_
  refine iLt (iCndP (fun h => ?_) (fun h => ?_))
  · have hkl : k < c.length := by omega
    refine iIaNN hs2 hkl fun p hp => iLd hp ?_
    have h1 := grB_at hg hkl
    have hp1 := (topG_le ((c.take k).drop 1) 1).1
    have hpos : 1 ≤ topG 0 (c.take k) := by
      have e : topG 0 (c.take k) = topG (topG 0 ((c.take k).take 1)) ((c.take k).drop 1) := by rw [← topG_app, List.take_append_drop]
      rw [List.take_take, Nat.min_eq_left hk1, hone] at e
      omega
    refine iMaxN (iAdd (by omega) ?_)
    rw [show max (topG 0 (c.take k) - 1) (c.getD k 0) = topG 0 (c.take (k + 1)) - 1 by
      rw [topG_take hkl]
      split <;> omega]
    exact hKn (k + 1) _ ⟨by omega, by omega, x2⟩ (by omega)
  · rw [List.take_of_length_le (by omega)]
    exact ⟨rfl, x2⟩
theorem ok_impl_classCount {v : Value} {w : World} {c : List Nat} (hs : SlN w v c) (hg : grB 0 c = true) : Ret Tryz.prog f_impl_classCount #[v] w (.int .i64 ((topG 0 c : Nat) : Int)) := by
  have hcap := hs.len
  have ht := topG_le c 0
  apply c_impl_classCount; unfold S_impl_classCount
  refine iLenN hs ?_
  refine iEq (iCndP (fun h => ?_) (fun h => ?_))
  · have : c = [] := List.length_eq_zero_iff.1 (by omega)
    subst this
    exact ⟨rfl, Ext.refl _⟩
  · have hn : 0 < c.length := by omega
    have hpos : 1 ≤ topG 0 c := by
      have := grB_lt c 0 hg _ (List.getElem_mem hn)
      omega
    refine iRet (ok_slices_MaxG hs hg hn) fun w1 x1 => ?_
    refine iAdd (by omega) ?_
    rw [show ((topG 0 c - 1 : Nat) : Int) + 1 = (topG 0 c : Int) by omega]
    exact ⟨rfl, x1⟩
end Go.Proofs.YtmefbjdioaahdaaGreatDoor
