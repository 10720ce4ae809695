/- The proof of FnImagesKeepValidityCard, part 4 of 7. Conditions: none. -/
import Derived.Test.YtaipnnkpplinoaaGreatDoorKR50c
import Derived.Laws.StructEq
import Derived.Shelf.Small.Strs
import Derived.Shelf.Strings.Count
import Derived.Lib.AppendZerosOnto
import Derived.Lib.Overlaps
namespace Go.Vc
/-! ### Formulas by their kinds and parts -/
def Fm.kind : Fm → Nat
  | .var _ => 0
  | .fls => 1
  | .and _ _ => 2
  | .or _ _ => 3
  | .imp _ _ => 4
  | .box _ => 5
  | .dia _ => 6
def Fm.sym : Fm → Nat
  | .var v => v
  | _ => 0
def Fm.kids : Fm → List Fm
  | .and a b => [a, b]
  | .or a b => [a, b]
  | .imp a b => [a, b]
  | .box a => [a]
  | .dia a => [a]
  | _ => []
def arity (k : Nat) : Nat := if k = 2 ∨ k = 3 ∨ k = 4 then 2 else if k = 5 ∨ k = 6 then 1 else 0
def cellsL (fs : List Fm) : List Value := fs.flatMap Fm.cells
def sizeL (fs : List Fm) : Nat := (fs.map Fm.size).sum
theorem Fm.cells_kids (f : Fm) : f.cells = nd f.kind f.sym ++ cellsL f.kids := by cases f <;> simp [Fm.cells, Fm.kind, Fm.sym, Fm.kids, cellsL]
theorem Fm.size_kids (f : Fm) : f.size = 1 + sizeL f.kids := by cases f <;> simp [Fm.size, Fm.kids, sizeL] <;> omega
theorem Fm.arity_kids (f : Fm) : arity f.kind = f.kids.length := by cases f <;> rfl
theorem cellsL_len (fs : List Fm) : (cellsL fs).length = sizeL fs * 2 := by
  induction fs with
  | nil => rfl
  | cons f fs ih => simp only [cellsL, List.flatMap_cons, List.length_append, sizeL, List.map_cons, List.sum_cons] at ih ⊢; rw [f.cells_len, ih]; omega
theorem cellsL_app (a b : List Fm) : cellsL (a ++ b) = cellsL a ++ cellsL b := by simp [cellsL]
theorem sizeL_app (a b : List Fm) : sizeL (a ++ b) = sizeL a + sizeL b := by simp [sizeL]
theorem sizeL_len : ∀ gs : List Fm, gs.length ≤ sizeL gs
  | [] => Nat.zero_le _
  | a :: bs => by have := a.size_pos; have := sizeL_len bs; simp only [sizeL, List.map_cons, List.sum_cons, List.length_cons] at this ⊢; omega
theorem nodes_inj : ∀ {fs gs : List Fm} {r r' : List Value}, fs.length = gs.length → cellsL fs ++ r = cellsL gs ++ r' → fs = gs ∧ r = r' := by
  suffices H : ∀ (n : Nat) {fs gs : List Fm} {r r' : List Value}, sizeL fs ≤ n → fs.length = gs.length → cellsL fs ++ r = cellsL gs ++ r' → fs = gs ∧ r = r' from fun {fs} => H (sizeL fs) (Nat.le_refl _)
  intro n
  induction n with
  | zero =>
    intro fs gs r r' hn hl he
    cases fs with
    | nil => cases gs with
      | nil => exact ⟨rfl, he⟩
      | cons _ _ => cases hl
    | cons f fs => simp only [sizeL, List.map_cons, List.sum_cons] at hn; have := f.size_pos; omega
  | succ n ih =>
    intro fs gs r r' hn hl he
    cases fs with
    | nil => cases gs with
      | nil => exact ⟨rfl, he⟩
      | cons _ _ => cases hl
    | cons f fs => cases gs with
      | nil => cases hl
      | cons g gs =>
        simp only [List.length_cons, Nat.add_right_cancel_iff] at hl
        have hsz : sizeL (f.kids ++ fs) ≤ n := by
          rw [sizeL_app]
          simp only [sizeL, List.map_cons, List.sum_cons] at hn ⊢
          have := f.size_kids
          simp only [sizeL] at this
          omega
        have he' : nd f.kind f.sym ++ (cellsL (f.kids ++ fs) ++ r) = nd g.kind g.sym ++ (cellsL (g.kids ++ gs) ++ r') := by
          have e : ∀ (f : Fm) (fs : List Fm) (r : List Value), cellsL (f :: fs) ++ r = nd f.kind f.sym ++ (cellsL (f.kids ++ fs) ++ r) := fun f fs r => by
            rw [cellsL_app]
            simp only [cellsL, List.flatMap_cons]
            rw [f.cells_kids]
            simp [cellsL]
          rw [← e, ← e]; exact he
        simp only [nd, List.cons_append, List.nil_append, List.cons.injEq, Value.int.injEq, true_and] at he'
        obtain ⟨hk, hs, hr⟩ := he'
        have hk : f.kind = g.kind := by omega
        have hs : f.sym = g.sym := by omega
        have hkl : f.kids.length = g.kids.length := by rw [← f.arity_kids, ← g.arity_kids, hk]
        obtain ⟨h1, h2⟩ := ih hsz (by rw [List.length_append, List.length_append, hkl, hl]) hr
        obtain ⟨h3, h4⟩ := List.append_inj h1 hkl
        refine ⟨?_, h2⟩
        have : f = g := by
          cases f <;> cases g <;> simp [Fm.kind] at hk <;> simp [Fm.kids, Fm.sym] at h3 hs <;> simp_all
        rw [this, h4]
theorem cells_inj {f g : Fm} (h : f.cells = g.cells) : f = g := by
  have := (nodes_inj (fs := [f]) (gs := [g]) (r := []) (r' := []) rfl (by simpa [cellsL] using h)).1
  simpa using this
/-! ### Steps -/
section
variable {P : Program} {w : World}
theorem iSlK {k : Nat} {v : Value} {n i j : Nat} {xs : List Value} {ki kj : IntKind} {K : Value → Prop} (hs : SlK k w v n xs) (hi : i ≤ j) (hj : j ≤ n) (h : ∀ r, SlK k w r (j - i) ((xs.drop (i * k)).take ((j - i) * k)) → K r) : xSl k v (some (.int ki (i : Int))) (some (.int kj (j : Int))) K := by
  obtain ⟨h0, a, c, rfl, h2, h3, h4⟩ := hs
  have hik : i * k ≤ j * k := Nat.mul_le_mul_right _ hi
  have hjk : j * k ≤ n * k := Nat.mul_le_mul_right _ hj
  refine ⟨_, _, _, i, j, rfl, ⟨kj, rfl⟩, ⟨ki, rfl⟩, hi, by omega, h _ ⟨?_, _, _, rfl, by omega, by omega, ?_⟩⟩
  · rw [List.length_take, List.length_drop, Nat.sub_mul]; omega
  · rcases h4 with rfl | ⟨b, o, rfl, hc⟩
    · exact .inl (by omega)
    · by_cases hz : j - i = 0
      · exact .inl hz
      · refine .inr ⟨b, o + i * k, by rw [if_neg (by omega), Option.map_some, addr_add], fun m hm => ?_⟩
        rw [Nat.sub_mul] at hm ⊢
        rw [Nat.add_assoc, hc _ (by omega), List.getElem?_take, if_pos hm, List.getElem?_drop]
theorem iSlKFrom {k : Nat} {v : Value} {n i : Nat} {xs : List Value} {ki : IntKind} {K : Value → Prop} (hs : SlK k w v n xs) (hi : i ≤ n) (h : ∀ r, SlK k w r (n - i) (xs.drop (i * k)) → K r) : xSl k v (some (.int ki (i : Int))) none K := by
  obtain ⟨h0, a, c, rfl, h2, h3, h4⟩ := hs
  have hik : i * k ≤ n * k := Nat.mul_le_mul_right _ hi
  refine ⟨_, _, _, i, n, rfl, rfl, ⟨ki, rfl⟩, hi, by omega, h _ ⟨?_, _, _, rfl, by omega, by omega, ?_⟩⟩
  · rw [List.length_drop, Nat.sub_mul]; omega
  · rcases h4 with rfl | ⟨b, o, rfl, hc⟩
    · exact .inl (by omega)
    · by_cases hz : n - i = 0
      · exact .inl hz
      · refine .inr ⟨b, o + i * k, by rw [if_neg (by omega), Option.map_some, addr_add], fun m hm => ?_⟩
        rw [Nat.sub_mul] at hm
        rw [Nat.add_assoc, hc _ (by omega), List.getElem?_drop]
theorem iFld {sz f : Nat} {v x : Value} {n : Nat} {xs : List Value} {z : Int} {j : Nat} {k : IntKind} {K : Value → Prop} (hs : SlK sz w v n xs) (hz : z = (j : Int)) (h1 : j < n) (hf : f < sz) (hx : xs[j * sz + f]? = some x) (h : K x) : xIa sz v (.int k z) fun p => xFa f p fun q => xLd w q K := by
  subst hz
  refine iIaK hs h1 fun b o hc => ?_
  refine ⟨_, rfl, ?_⟩
  rw [addr_add]
  exact iLd ((hc f hf).trans hx) h
end
end Go.Vc
namespace Go.Proofs.YtaipnnkpplinoaaGreatDoor
open Go.Vc
theorem ok_impl_partsOf (k : Nat) (w : World) : Ret Tryz.prog f_impl_partsOf #[.int .i64 (k : Int)] w (.int .i64 (arity k : Int)) := by
  apply c_impl_partsOf; unfold S_impl_partsOf
  refine iEq ?_
  refine iJnB (decide (k = 2 ∨ k = 3 ∨ k = 4)) w (fun J hJ => ?_) (fun w2 h2 => ?_)
  · refine iCndP (fun h => ?_) (fun h => ?_)
    · rw [decide_eq_true (.inl (by omega))] at hJ
      exact hJ _ (Ext.refl _)
    · refine iEq ?_
      refine iJnB (decide (k = 2 ∨ k = 3 ∨ k = 4)) w (fun J' hJ' => ?_) (fun w4 h4 => ?_)
      · refine iCndP (fun h' => ?_) (fun h' => ?_)
        · rw [decide_eq_true (.inr (.inl (by omega)))] at hJ'
          exact hJ' _ (Ext.refl _)
        · refine iEq ?_
          rw [show decide (k = 2 ∨ k = 3 ∨ k = 4) = decide ((k : Int) = 4) from decide_eq_decide.2 (by omega)] at hJ'
          exact hJ' _ (Ext.refl _)
      · intro _
        exact hJ _ h4
  · intro _
    simp only [gx]
    refine iCndP (fun h => ?_) (fun h => ?_)
    · rw [show (arity k : Int) = 2 by unfold arity; rw [if_pos h]; rfl]
      exact ⟨by first | trivial | rfl, h2⟩
    · refine iEq ?_
      refine iJnB (decide (k = 5 ∨ k = 6)) w2 (fun J hJ => ?_) (fun w6 h6 => ?_)
      · refine iCndP (fun h' => ?_) (fun h' => ?_)
        · rw [decide_eq_true (.inl (by omega))] at hJ
          exact hJ _ (Ext.refl _)
        · refine iEq ?_
          rw [show decide (k = 5 ∨ k = 6) = decide ((k : Int) = 6) from decide_eq_decide.2 (by omega)] at hJ
          exact hJ _ (Ext.refl _)
      · intro _
        simp only [gx]
        refine iCndP (fun h' => ?_) (fun h' => ?_)
        · rw [show (arity k : Int) = 1 by unfold arity; rw [if_neg h, if_pos h']; rfl]
          exact ⟨by first | trivial | rfl, h2.trans h6⟩
        · rw [show (arity k : Int) = 0 by unfold arity; rw [if_neg h, if_neg h']; rfl]
          exact ⟨by first | trivial | rfl, h2.trans h6⟩
theorem ok_spec_l02Parts (k : Nat) (w : World) : Ret Tryz.prog f_spec_l02Parts #[.int .i64 (k : Int)] w (.int .i64 (arity k : Int)) := by
  apply c_spec_l02Parts; unfold S_spec_l02Parts
  refine iEq ?_
  refine iJnB (decide (k = 2 ∨ k = 3 ∨ k = 4)) w (fun J hJ => ?_) (fun w2 h2 => ?_)
  · refine iCndP (fun h => ?_) (fun h => ?_)
    · rw [decide_eq_true (.inl (by omega))] at hJ
      exact hJ _ (Ext.refl _)
    · refine iEq ?_
      refine iJnB (decide (k = 2 ∨ k = 3 ∨ k = 4)) w (fun J' hJ' => ?_) (fun w4 h4 => ?_)
      · refine iCndP (fun h' => ?_) (fun h' => ?_)
        · rw [decide_eq_true (.inr (.inl (by omega)))] at hJ'
          exact hJ' _ (Ext.refl _)
        · refine iEq ?_
          rw [show decide (k = 2 ∨ k = 3 ∨ k = 4) = decide ((k : Int) = 4) from decide_eq_decide.2 (by omega)] at hJ'
          exact hJ' _ (Ext.refl _)
      · intro _
        exact hJ _ h4
  · intro _
    simp only [gx]
    refine iCndP (fun h => ?_) (fun h => ?_)
    · rw [show (arity k : Int) = 2 by unfold arity; rw [if_pos h]; rfl]
      exact ⟨by first | trivial | rfl, h2⟩
    · refine iEq ?_
      refine iJnB (decide (k = 5 ∨ k = 6)) w2 (fun J hJ => ?_) (fun w6 h6 => ?_)
      · refine iCndP (fun h' => ?_) (fun h' => ?_)
        · rw [decide_eq_true (.inl (by omega))] at hJ
          exact hJ _ (Ext.refl _)
        · refine iEq ?_
          rw [show decide (k = 5 ∨ k = 6) = decide ((k : Int) = 6) from decide_eq_decide.2 (by omega)] at hJ
          exact hJ _ (Ext.refl _)
      · intro _
        simp only [gx]
        refine iCndP (fun h' => ?_) (fun h' => ?_)
        · rw [show (arity k : Int) = 1 by unfold arity; rw [if_neg h, if_pos h']; rfl]
          exact ⟨by first | trivial | rfl, h2.trans h6⟩
        · rw [show (arity k : Int) = 0 by unfold arity; rw [if_neg h, if_neg h']; rfl]
          exact ⟨by first | trivial | rfl, h2.trans h6⟩
theorem kind_at {fs : List Fm} {f : Fm} {r xs : List Value} {i : Nat} (h : xs.drop (i * 2) = cellsL (f :: fs) ++ r) : xs[i * 2 + 0]? = some (.int .i64 (f.kind : Int)) ∧ xs[i * 2 + 1]? = some (.int .i64 (f.sym : Int)) ∧ xs.drop ((i + 1) * 2) = cellsL (f.kids ++ fs) ++ r := by
  have e : cellsL (f :: fs) ++ r = nd f.kind f.sym ++ (cellsL (f.kids ++ fs) ++ r) := by
    rw [cellsL_app]
    simp only [cellsL, List.flatMap_cons]
    rw [f.cells_kids]
    simp [cellsL]
  rw [e] at h
  refine ⟨?_, ?_, ?_⟩
  · have := congrArg (fun l => l[0]?) h
    simpa [List.getElem?_drop] using this
  · have := congrArg (fun l => l[1]?) h
    simpa [List.getElem?_drop] using this
  · have := congrArg (List.drop 2) h
    rw [List.drop_drop] at this
    rw [show (i + 1) * 2 = i * 2 + 2 by omega, this]
    rfl
theorem ok_spec_l02Part {v : Value} {n i : Nat} {xs : List Value} {f : Fm} {r : List Value} {w : World} (hs : SlK 2 w v n xs) (hx : xs.drop (i * 2) = f.cells ++ r) (hn : n ≤ 1099511627776) : Ret Tryz.prog f_spec_l02Part #[v, .int .i64 (i : Int)] w (.int .i64 ((i + f.size : Nat) : Int)) := by
  apply c_spec_l02Part; unfold S_spec_l02Part
  have hlen : xs.length = n * 2 := hs.1
  refine iLp (fun s : Nat × List Fm => [.int .i64 (s.1 : Int), .int .i64 (s.2.length : Int)]) (fun s w' => Ext w w' ∧ xs.drop (s.1 * 2) = cellsL s.2 ++ r ∧ s.1 + sizeL s.2 = i + f.size) (fun s => sizeL s.2) (i, [f]) rfl ⟨Ext.refl _, by simpa [cellsL] using hx, by simp [sizeL]⟩ ?_
  rintro ⟨j, fs⟩ w2 Kn ⟨h2, hd, hsum⟩ hKn
  have hd : xs.drop (j * 2) = cellsL fs ++ r := hd
  have hsum : j + sizeL fs = i + f.size := hsum
  intro _
  simp only [gx]
  refine iLt ?_
  cases fs with
  | nil =>
    refine iCndF (by simp) ?_
    have : j = i + f.size := by simpa [sizeL] using hsum
    exact ⟨by rw [this], h2⟩
  | cons g gs =>
    refine iCndT (by simp) ?_
    have hpos : 1 ≤ sizeL (g :: gs) := by simp only [sizeL, List.map_cons, List.sum_cons]; have := g.size_pos; omega
    have hl := congrArg List.length hd
    rw [List.length_drop, List.length_append, cellsL_len] at hl
    have hjn : j < n := by omega
    refine iLenK (hs.ext h2) ?_
    refine iLe ?_
    refine iCndP (fun h => by omega) (fun _ => ?_)
    obtain ⟨hk, -, hd'⟩ := kind_at hd
    have har := g.arity_kids
    have hk2 : g.kids.length ≤ 2 := by cases g <;> simp [Fm.kids]
    have hgl := sizeL_len gs
    have hsg : sizeL (g :: gs) = g.size + sizeL gs := by simp [sizeL]
    refine iSub (by rw [List.length_cons]; omega) ?_
    refine iFld (hs.ext h2) rfl hjn (by decide) hk ?_
    refine iRet (ok_spec_l02Parts g.kind w2) fun w3 h23 => ?_
    refine iAdd (by rw [List.length_cons]; omega) ?_
    refine iAdd (by omega) ?_
    rw [show ((g :: gs).length : Int) - 1 + (arity g.kind : Int) = ((g.kids ++ gs).length : Int) by rw [har, List.length_append, List.length_cons]; omega]
    have hgk := g.size_kids
    exact hKn (j + 1, g.kids ++ gs) _ ⟨h2.trans h23, hd', by show j + 1 + sizeL (g.kids ++ gs) = _; rw [sizeL_app]; omega⟩ (by show sizeL (g.kids ++ gs) < sizeL (g :: gs); rw [sizeL_app]; omega)
theorem drop_one {f g : Fm} {gs : List Fm} (hk : f.kids = g :: gs) : f.cells.drop (1 * 2) = g.cells ++ cellsL gs := by
  rw [f.cells_kids, hk]; simp [cellsL]
theorem drop_two {f g h : Fm} (hk : f.kids = [g, h]) : f.cells.drop ((1 + g.size) * 2) = h.cells ++ [] ∧ f.size = 1 + g.size + h.size := by
  refine ⟨?_, by have := f.size_kids; rw [hk] at this; simp [sizeL] at this; omega⟩
  rw [f.cells_kids, hk, show (1 + g.size) * 2 = 2 + g.cells.length by rw [g.cells_len]; omega, ← List.drop_drop]
  simp [cellsL]
theorem kind_fst {w : World} {v : Value} {f : Fm} (hs : FmS w v f) : f.cells[0 * 2 + 0]? = some (.int .i64 (f.kind : Int)) ∧ f.cells[0 * 2 + 1]? = some (.int .i64 (f.sym : Int)) := by
  have _ := hs
  rw [f.cells_kids]
  simp [nd]
end Go.Proofs.YtaipnnkpplinoaaGreatDoor

namespace Go.Proofs.YtaipnnkpplinoaaGreatDoor
open Go.Vc
end Go.Proofs.YtaipnnkpplinoaaGreatDoor

namespace Go.Vc
end Go.Vc
namespace Go.Proofs.YtaipnnkpplinoaaGreatDoor
open Go.Vc
end Go.Proofs.YtaipnnkpplinoaaGreatDoor

namespace Go.Proofs.YtaipnnkpplinoaaGreatDoor
open Go.Vc
end Go.Proofs.YtaipnnkpplinoaaGreatDoor

namespace Go.Vc
/-! ### What is asked of items -/
end Go.Vc
namespace Go.Proofs.YtaipnnkpplinoaaGreatDoor
open Go.Vc
end Go.Proofs.YtaipnnkpplinoaaGreatDoor

namespace Go.Vc
end Go.Vc
namespace Go.Proofs.YtaipnnkpplinoaaGreatDoor
open Go.Vc
end Go.Proofs.YtaipnnkpplinoaaGreatDoor

namespace Go.Vc
theorem any_gt {T : List Str} {p : Str → Bool} {i : Nat} (hi : i < T.length) (h : p (gt T i) = true) : T.any p = true := List.any_eq_true.2 ⟨T[i], List.getElem_mem _, by rw [← gt_eq hi]; exact h⟩
theorem any_no {T : List Str} {p : Str → Bool} (h : ∀ i, i < T.length → p (gt T i) = false) : T.any p = false := by
  rw [List.any_eq_false]
  intro x hx
  obtain ⟨i, hi, rfl⟩ := List.getElem_of_mem hx
  rw [← gt_eq hi, h i hi]
  exact Bool.false_ne_true
theorem iIaG {w : World} {v : Value} {L : List Str} {z : Int} {j : Nat} {k : IntKind} {K : Value → Prop} (hs : SlT w v L) (hz : z = (j : Int)) (hj : j < L.length) (h : K (sv (gt L j))) : xIa 1 v (.int k z) fun p => xLd w p K := by
  subst hz
  exact iIaT hs hj fun p hp => iLd hp (by rw [← gt_eq hj]; exact h)
end Go.Vc
namespace Go.Proofs.YtaipnnkpplinoaaGreatDoor
open Go.Vc
theorem ok_slices_ContainsFuncT {v fv : Value} {L : List Str} {p : Str → Bool} {w : World} (hs : SlT w v L) (hf : ∀ x ∈ L, ∀ w', Ext w w' → callV Tryz.prog fv [sv x] w' fun u w'' => u = .bool (p x) ∧ Ext w' w'') : Ret Tryz.prog f_slices_ContainsFunc_Sstring_string #[v, fv] w (.bool (L.any p)) := by
  apply c_slices_ContainsFunc_Sstring_string; unfold S_slices_ContainsFunc_Sstring_string
  have hln := hs.len
  rw [strs_len] at hln
  refine iCall (Cal.mono (R := fun r w' => Ext w w' ∧ ∃ z : Int, r = .int .i64 z ∧ (decide (0 ≤ z) = L.any p)) ?_ ?_)
  · apply c_slices_IndexFunc_Sstring_string; unfold S_slices_IndexFunc_Sstring_string
    refine iLenStr hs ?_
    refine iLp (fun i : Nat => [.int .i64 (i : Int)]) (fun i w' => i ≤ L.length ∧ Ext w w' ∧ ∀ j, j < i → p (gt L j) = false) (fun i => L.length - i) 0 rfl ⟨Nat.zero_le _, Ext.refl _, fun j hj => by omega⟩ ?_
    rintro i w2 Kn ⟨hi, h2, hno⟩ hKn
    intro _
    simp only [gx]
    refine iLt ?_
    refine iCndP (fun h => ?_) (fun h => ?_)
    · refine iIaG (hs.ext h2) rfl (by omega) ?_
      refine (hf (gt L i) (by rw [gt_eq (show i < L.length by omega)]; exact List.getElem_mem _) w2 h2).mono ?_
      rintro u w3 ⟨rfl, h23⟩
      refine iCnd (fun h3 => ?_) (fun h3 => ?_)
      · exact ⟨h2.trans h23, _, rfl, by rw [any_gt (by omega) h3]; simp⟩
      · refine iAdd (by omega) ?_
        refine hKn (i + 1) _ ⟨by omega, h2.trans h23, fun j hj => ?_⟩ (by omega)
        by_cases hji : j = i
        · subst hji; exact h3
        · exact hno j (by omega)
    · exact ⟨h2, -1, rfl, by rw [any_no fun j hj => hno j (by omega)]; rfl⟩
  · rintro r w1 ⟨h1, z, rfl, hz⟩
    refine iLe ?_
    rw [hz]
    exact ⟨by first | trivial | rfl, h1⟩
theorem ok_slices_ContainsT {v : Value} {L : List Str} {t : Str} {w : World} (hs : SlT w v L) : Ret Tryz.prog f_slices_Contains_Sstring_string #[v, sv t] w (.bool (decide (t ∈ L))) := by
  apply c_slices_Contains_Sstring_string; unfold S_slices_Contains_Sstring_string
  have hln := hs.len
  rw [strs_len] at hln
  refine iCall (Cal.mono (R := fun r w' => Ext w w' ∧ ∃ z : Int, r = .int .i64 z ∧ (decide (0 ≤ z) = decide (t ∈ L))) ?_ ?_)
  · apply c_slices_Index_Sstring_string; unfold S_slices_Index_Sstring_string
    refine iLenStr hs ?_
    refine iLp (fun i : Nat => [.int .i64 (i : Int)]) (fun i w' => i ≤ L.length ∧ Ext w w' ∧ ∀ j, j < i → ¬ t = gt L j) (fun i => L.length - i) 0 rfl ⟨Nat.zero_le _, Ext.refl _, fun j hj => by omega⟩ ?_
    rintro i w2 Kn ⟨hi, h2, hno⟩ hKn
    intro _
    simp only [gx]
    refine iLt ?_
    refine iCndP (fun h => ?_) (fun h => ?_)
    · refine iIaG (hs.ext h2) rfl (by omega) ?_
      refine iEqT ?_
      refine iCndP (fun h3 => ?_) (fun h3 => ?_)
      · refine ⟨h2, _, rfl, ?_⟩
        rw [decide_eq_true (show t ∈ L by rw [h3, gt_eq (show i < L.length by omega)]; exact List.getElem_mem _)]
        simp
      · refine iAdd (by omega) ?_
        refine hKn (i + 1) _ ⟨by omega, h2, fun j hj => ?_⟩ (by omega)
        by_cases hji : j = i
        · subst hji; exact h3
        · exact hno j (by omega)
    · refine ⟨h2, -1, rfl, ?_⟩
      rw [decide_eq_false (show ¬ t ∈ L from fun hm => by
        obtain ⟨j, hj, e⟩ := List.getElem_of_mem hm
        exact hno j (by omega) (by rw [gt_eq hj]; exact e.symm))]
      rfl
  · rintro r w1 ⟨h1, z, rfl, hz⟩
    refine iLe ?_
    rw [hz]
    exact ⟨by first | trivial | rfl, h1⟩
end Go.Proofs.YtaipnnkpplinoaaGreatDoor

namespace Go.Vc
end Go.Vc
namespace Go.Proofs.YtaipnnkpplinoaaGreatDoor
open Go.Vc
theorem ok_slices_IndexFuncT {v fv : Value} {L : List Str} {p : Str → Bool} {w0 w : World} (h0 : Ext w0 w) (hs : SlT w v L) (hf : ∀ x ∈ L, ∀ w', Ext w0 w' → callV Tryz.prog fv [sv x] w' fun u w'' => u = .bool (p x) ∧ Ext w' w'') :
    Cal Tryz.prog f_slices_IndexFunc_Sstring_string #[v, fv] w fun r w' => Ext w w' ∧ ((r = .int .i64 (-1) ∧ ∀ j, j < L.length → p (gt L j) = false) ∨ ∃ i : Nat, r = .int .i64 (i : Int) ∧ i < L.length ∧ p (gt L i) = true ∧ ∀ j, j < i → p (gt L j) = false) := by
  apply c_slices_IndexFunc_Sstring_string; unfold S_slices_IndexFunc_Sstring_string
  have hln := hs.len
  rw [strs_len] at hln
  refine iLenStr hs ?_
  refine iLp (fun i : Nat => [.int .i64 (i : Int)]) (fun i w' => i ≤ L.length ∧ Ext w w' ∧ ∀ j, j < i → p (gt L j) = false) (fun i => L.length - i) 0 rfl ⟨Nat.zero_le _, Ext.refl _, fun j hj => by omega⟩ ?_
  rintro i w2 Kn ⟨hi, h2, hno⟩ hKn
  intro _
  simp only [gx]
  refine iLt ?_
  refine iCndP (fun h => ?_) (fun h => ?_)
  · refine iIaG (hs.ext h2) rfl (by omega) ?_
    refine (hf (gt L i) (by rw [gt_eq (show i < L.length by omega)]; exact List.getElem_mem _) w2 (h0.trans h2)).mono ?_
    rintro u w3 ⟨rfl, h23⟩
    refine iCnd (fun h3 => ?_) (fun h3 => ?_)
    · exact ⟨h2.trans h23, .inr ⟨i, rfl, by omega, h3, hno⟩⟩
    · refine iAdd (by omega) ?_
      refine hKn (i + 1) _ ⟨by omega, h2.trans h23, fun j hj => ?_⟩ (by omega)
      by_cases hji : j = i
      · subst hji; exact h3
      · exact hno j (by omega)
  · exact ⟨h2, .inl ⟨by first | trivial | rfl, fun j hj => hno j (by omega)⟩⟩
theorem filter_none {p : Str → Bool} {L : List Str} (h : ∀ j, j < L.length → p (gt L j) = false) : L.filter (fun x => !p x) = L := by
  rw [List.filter_eq_self]
  intro x hx
  obtain ⟨j, hj, rfl⟩ := List.getElem_of_mem hx
  rw [← gt_eq hj, h j hj]; rfl
theorem ok_slices_DeleteFuncT {v fv : Value} {L : List Str} {p : Str → Bool} {w0 w : World} (h0 : Ext w0 w) (hs : Ow w0.heap.size t_string w v (strs L)) (hL : L.length ≤ 1099511627776) (hf : ∀ x ∈ L, ∀ w', Ext w0 w' → callV Tryz.prog fv [sv x] w' fun u w'' => u = .bool (p x) ∧ Ext w' w'') :
    Cal Tryz.prog f_slices_DeleteFunc_Sstring_string #[v, fv] w fun r w' => Ext w0 w' ∧ Ow w0.heap.size t_string w' r (strs (L.filter fun x => !p x)) := by
  apply c_slices_DeleteFunc_Sstring_string; unfold S_slices_DeleteFunc_Sstring_string
  refine iCall ((ok_slices_IndexFuncT h0 hs.sl hf).mono ?_)
  rintro r w1 ⟨x1, ⟨rfl, hno⟩ | ⟨i0, rfl, hi0, hp0, hno⟩⟩
  · refine iEq (iCndT (by decide) ⟨h0.trans x1, ?_⟩)
    rw [filter_none hno]; exact hs.ext x1
  refine iEq (iCndF (by simp) ?_)
  refine iAdd (by omega) ?_
  have hs1 := hs.ext x1
  have X1 := h0.trans x1
  obtain ⟨g, cap, hv, hcap, hcm⟩ := hs1.open (by intro e; have := strs_len L; rw [e] at this; simp at this; omega)
  rw [strs_len] at hv hcap
  have hg : v.ownBlock = some g := by rw [hv]; rfl
  have hglo := (hs1.blk g hg).1
  have hfl : ∀ j, L.take (j + 1) = L.take j ++ (if j < L.length then [gt L j] else []) := fun j => by
    split
    · rename_i h; rw [List.take_succ_eq_append_getElem h, gt_eq h]
    · rename_i h; rw [List.append_nil, List.take_of_length_le (by omega), List.take_of_length_le (by omega)]
  refine iLp (fun s : Nat × Nat => [.int .i64 (s.1 : Int), .int .i64 (s.2 : Int)]) (fun s w' => s.1 < s.2 ∧ s.2 ≤ L.length ∧ ∃ M, Turn w0.heap.size t_string sv v w1 w' M ∧ M.length = L.length ∧ M.take s.1 = (L.take s.2).filter (fun x => !p x) ∧ ∀ j, s.2 ≤ j → gt M j = gt L j) (fun s => L.length - s.2) (i0, i0 + 1) rfl
    ⟨by show i0 < i0 + 1; omega, by show i0 + 1 ≤ _; omega, L, Turn.refl hs1, rfl, ?_, fun _ _ => rfl⟩ ?_
  · show L.take i0 = (L.take (i0 + 1)).filter fun x => !p x
    rw [hfl, if_pos hi0, List.filter_append, List.filter_cons, hp0]
    have : (L.take i0).filter (fun x => !p x) = L.take i0 := filter_none fun j hj => by
      rw [List.length_take] at hj
      rw [gt_take (by omega)]; exact hno j (by omega)
    rw [this]; simp
  rintro ⟨i, j⟩ w3 Kn ⟨hij, hj, M, ht, hM, hMt, hMe⟩ hKn
  have hij : i < j := hij
  have hj : j ≤ L.length := hj
  have hMt : M.take i = (L.take j).filter (fun x => !p x) := hMt
  have hMe : ∀ k, j ≤ k → gt M k = gt L k := hMe
  have X3 : Ext w0 w3 := X1.thenCh ht.ch fun b hb => by rw [hg] at hb; cases hb; exact hglo
  intro _
  simp only [gx]
  have hlenv : ∀ {K : Value → Prop}, K (.int .i64 (L.length : Nat)) → xLenS v K := fun h => by rw [hv]; exact iLenL h
  refine hlenv ?_
  refine iLt ?_
  refine iCndP (fun h3 => ?_) (fun h3 => ?_)
  · have hjl : j < L.length := by omega
    have hsl : SlT w3 v M := ht.ow.sl
    refine iIaG hsl rfl (by omega) ?_
    rw [hMe j (Nat.le_refl _)]
    refine (hf (gt L j) (by rw [gt_eq hjl]; exact List.getElem_mem _) w3 X3).mono ?_
    rintro u w4 ⟨rfl, x4⟩
    have ht4 := ht.ext x4
    refine iNot ?_
    have hfj : (L.take (j + 1)).filter (fun x => !p x) = (L.take j).filter (fun x => !p x) ++ if p (gt L j) then [] else [gt L j] := by
      rw [hfl, if_pos hjl, List.filter_append, List.filter_cons]
      cases p (gt L j) <;> simp
    refine iCnd (fun h4 => ?_) (fun h4 => ?_)
    · rw [show p (gt L j) = false by simpa using h4] at hfj
      refine iIaOw ht4.ow (by omega) (by rw [List.length_map]; omega) fun b o hb _ _ hc hfz hset => ?_
      refine iSt (hc.trans (List.getElem?_eq_getElem (by rw [List.length_map]; omega))) hfz rfl ?_
      have hset := hset (sv (gt L j))
      rw [Int.toNat_natCast, ← List.map_set] at hset
      refine iAdd (by omega) ?_
      refine iAdd (by omega) ?_
      refine hKn (i + 1, j + 1) _ ⟨by show i + 1 < j + 1; omega, hjl, M.set i (gt L j), ⟨hset, ht4.ch.trans ((Upd.setCell w4 b o _).ch (S := fun c => v.ownBlock = some c) hb) fun _ e => .inl e⟩, by rw [List.length_set]; exact hM, ?_, fun k hk => ?_⟩ (by show L.length - (j + 1) < L.length - j; omega)
      · show (M.set i (gt L j)).take (i + 1) = (L.take (j + 1)).filter fun x => !p x
        rw [hfj, List.take_succ_eq_append_getElem (by rw [List.length_set]; omega), List.getElem_set_self, List.take_set_of_le (Nat.le_refl _), hMt]
        rfl
      · have hk : j + 1 ≤ k := hk
        rw [gt_set _ (by omega), if_neg (by omega)]
        exact hMe k (by omega)
    · rw [show p (gt L j) = true by simpa using h4] at hfj
      refine iAdd (by omega) ?_
      refine hKn (i, j + 1) _ ⟨by show i < j + 1; omega, hjl, M, ht4, hM, ?_, fun k hk => hMe k (by have hk : j + 1 ≤ k := hk; omega)⟩ (by show L.length - (j + 1) < L.length - j; omega)
      show M.take i = _
      rw [hfj, hMt]; simp
  · have hend : j = L.length := by omega
    subst hend
    rw [List.take_length] at hMt
    have ho := ht.ow
    rw [hv] at ho ⊢
    refine iSlTail (k := i) (by omega) hcap ?_
    refine iClr u_Sstring i_Sstring rfl ho (by rw [List.length_map]; exact hM) (by omega) fun w8 h8 hc8 => ?_
    refine iSlHead (k := i) (by omega) hcap ?_
    rw [show (List.map sv M).take i = strs (M.take i) from strs_take M i, hMt] at h8
    exact ⟨X3.thenCh hc8 fun b hb => by rw [hb]; exact hglo, h8⟩
end Go.Proofs.YtaipnnkpplinoaaGreatDoor

namespace Go.Vc
def splitT (c : UInt8) : Str → List Str
  | [] => [[]]
  | x :: t => if x = c then [] :: splitT c t else (x :: (splitT c t).head!) :: (splitT c t).tail
theorem splitT_miss {c : UInt8} : ∀ {t : Str}, (∀ x ∈ t, x ≠ c) → splitT c t = [t]
  | [], _ => rfl
  | x :: t, h => by
    rw [splitT, if_neg (h x (by simp)), splitT_miss (fun y hy => h y (by simp [hy]))]; rfl
theorem splitT_hit {c : UInt8} {r : Str} : ∀ {a : Str}, (∀ x ∈ a, x ≠ c) → splitT c (a ++ c :: r) = a :: splitT c r
  | [], _ => by rw [List.nil_append, splitT, if_pos rfl]
  | x :: a, h => by
    rw [List.cons_append, splitT, if_neg (h x (by simp)), splitT_hit (fun y hy => h y (by simp [hy]))]; rfl
theorem count_miss {c : UInt8} {t : Str} (h : ∀ x ∈ t, x ≠ c) : t.count c = 0 := List.count_eq_zero.2 fun hm => h c hm rfl
theorem count_hit {c : UInt8} {a r : Str} (h : ∀ x ∈ a, x ≠ c) : (a ++ c :: r).count c = r.count c + 1 := by
  rw [List.count_append, count_miss h, List.count_cons_self]; omega
theorem split_ind (c : UInt8) {Q : Str → Prop} (h0 : ∀ t, (∀ x ∈ t, x ≠ c) → Q t) (h1 : ∀ a r, (∀ x ∈ a, x ≠ c) → Q r → Q (a ++ c :: r)) : ∀ t, Q t := by
  suffices H : ∀ n, ∀ t : Str, t.length ≤ n → Q t from fun t => H t.length t (Nat.le_refl _)
  intro n
  induction n with
  | zero => intro t ht; exact h0 t (by have : t = [] := List.length_eq_zero_iff.1 (by omega); subst this; simp)
  | succ n ih =>
    intro t ht
    rcases indexByte_cases t c with ⟨h, _⟩ | ⟨a, r, rfl, h, _⟩
    · exact h0 t h
    · refine h1 a r h (ih r ?_)
      rw [List.length_append, List.length_cons] at ht
      omega
theorem splitT_len (c : UInt8) (t : Str) : (splitT c t).length = t.count c + 1 := by
  induction t using split_ind c with
  | h0 t h => rw [splitT_miss h, count_miss h]; rfl
  | h1 a r h ih => rw [splitT_hit h, count_hit h, List.length_cons, ih]
end Go.Vc
namespace Go.Proofs.YtaipnnkpplinoaaGreatDoor
open Go.Vc
theorem ok_strings_Count1 (t : Str) (c : UInt8) (w : World) : Ret Tryz.prog f_strings_Count #[sv t, sv [c]] w (.int .i64 ((t.count c : Nat) : Int)) := by
  refine ⟨⟨_, Tryz.func285, by kernel_rfl, by kernel_rfl⟩, ?_⟩
  refine (Any.strings_Count_one lays138 ⟨t.toArray⟩ c w).mono ?_
  rintro e w' ⟨rfl, rfl⟩
  exact ⟨_, rfl, rfl, Ext.refl _⟩
theorem ok_Index_oneS (l : Str) (c : UInt8) (w : World) : Ret Tryz.prog (302) #[sv l, sv [c]] w (.int .i64 (Lib.indexByte l c)) := by
  refine ⟨⟨_, Tryz.func302, by kernel_rfl, by kernel_rfl⟩, ?_⟩
  refine (Any.stringslite_Index_one lays219 ⟨l.toArray⟩ c w).mono ?_
  rintro e w' ⟨rfl, rfl⟩
  exact ⟨_, rfl, rfl, Ext.refl _⟩
theorem ok_strings_Index1 (t : Str) (c : UInt8) (w : World) : Ret Tryz.prog f_strings_Index #[sv t, sv [c]] w (.int .i64 (Lib.indexByte t c)) := by
  apply c_strings_Index; unfold S_strings_Index
  exact iRet (ok_Index_oneS t c w) fun w1 x1 => ⟨by first | trivial | rfl, x1⟩
theorem iMinI {a b : Int} {K : Value → Prop} (h : K (.int .i64 (min a b))) : xMin (.int .i64 a) (.int .i64 b) K := by
  refine ⟨_, _, _, _, rfl, rfl, ?_⟩
  have e : (if b < a then b else a) = min a b := by split <;> omega
  rw [e]; exact h
theorem ok_strings_Split1 {t : Str} (c : UInt8) (ht : t.length ≤ 4194304) (w : World) : Cal Tryz.prog f_strings_Split #[sv t, sv [c]] w fun r w' => Ext w w' ∧ Ow w.heap.size t_string w' r (strs (splitT c t)) := by
  apply c_strings_Split; unfold S_strings_Split
  refine iCall (Cal.mono (R := fun r w' => Ext w w' ∧ Ow w.heap.size t_string w' r (strs (splitT c t))) ?_ fun r w' h => h)
  apply c_strings_genSplit; unfold S_strings_genSplit
  have hsl := splitT_len c t
  have hcl := List.count_le_length (a := c) (l := t)
  refine iEq (iCndF rfl ?_)
  refine iEqT (b := []) (iCndF (by simp) ?_)
  refine iLt ?_
  refine iJnX (fun xs w' => xs = [.int .i64 ((t.count c + 1 : Nat) : Int)] ∧ Ext w w') (fun J hJ => ?_) ?_
  · refine iCndT rfl ?_
    refine iRet (ok_strings_Count1 t c w) fun w1 x1 => ?_
    refine iAdd (by omega) (hJ _ _ ⟨?_, x1⟩)
    simp
  rintro xs w3 ⟨rfl, x3⟩
  intro _
  simp only [gx]
  refine iLenT (iAdd (by omega) (iMinI ?_))
  rw [show min ((t.count c + 1 : Nat) : Int) ((t.length : Int) + 1) = ((t.count c + 1 : Nat) : Int) by omega]
  refine iMk (z := sv []) (by omega) (by omega) rfl fun g w5 hg x5 hB => ?_
  refine iSub (by omega) ?_
  have X5 := x3.trans x5
  have s5 := x3.size
  have ho5 : Ow w.heap.size t_string w5 (.slice (some ⟨g, 0, none⟩) (t.count c + 1) (t.count c + 1)) (strs (List.replicate (t.count c + 1) [])) := by
    refine Ow.ofBlk (n := t.count c + 1) ?_ (by omega) (by simp [strs]) (by omega)
    simpa [strs] using hB
  refine iLp (fun s : Str × Nat => [sv s.1, .int .i64 (s.2 : Int)]) (fun s w' => s.2 ≤ t.count c ∧ s.1.length ≤ t.length ∧ ∃ M, Turn w.heap.size t_string sv (.slice (some ⟨g, 0, none⟩) (t.count c + 1) (t.count c + 1)) w5 w' M ∧ M.length = t.count c + 1 ∧ splitT c t = M.take s.2 ++ splitT c s.1) (fun s => s.1.length) (t, 0) rfl
    ⟨Nat.zero_le _, Nat.le_refl _, List.replicate (t.count c + 1) [], Turn.refl ho5, by simp, by simp⟩ ?_
  rintro ⟨r, i⟩ w7 Kn ⟨hi, hr, M, hT, hM, hsp⟩ hKn
  have hi : i ≤ t.count c := hi
  have hr : r.length ≤ t.length := hr
  have hsp : splitT c t = M.take i ++ splitT c r := hsp
  have X7 : Ext w w7 := X5.thenCh hT.ch fun b hb => by cases hb; exact (show w.heap.size ≤ g by omega)
  intro _
  simp only [gx]
  -- what both ends do: the rest goes into the row, whose first i + 1 places are handed back
  have fin : ∀ w8, Ext w7 w8 → (∀ x ∈ r, x ≠ c) → xIa 1 (.slice (some ⟨g, 0, none⟩) (t.count c + 1) (t.count c + 1)) (.int .i64 (i : Int)) fun v61 => xSt w8 v61 (sv r) fun w9 => xAdd .i64 (.int .i64 (i : Int)) (.int .i64 1) fun v64 => xSl 1 (.slice (some ⟨g, 0, none⟩) (t.count c + 1) (t.count c + 1)) none (some v64) fun v65 =>
      Ext w w9 ∧ Ow w.heap.size t_string w9 v65 (strs (splitT c t)) := fun w8 x8 hno => by
    have hT8 := hT.ext x8
    refine iIaOw hT8.ow (by omega) (by rw [List.length_map]; omega) fun b o hb _ _ hc hf hset => ?_
    refine iSt (hc.trans (List.getElem?_eq_getElem (by rw [List.length_map]; omega))) hf rfl ?_
    have hset := hset (sv r)
    rw [Int.toNat_natCast, ← List.map_set] at hset
    refine iAdd (by omega) ?_
    rw [show (i : Int) + 1 = ((i + 1 : Nat) : Int) by omega]
    refine iSlHead (k := i + 1) (by omega) (Nat.le_refl _) ?_
    have hl : (splitT c t).length = i + 1 := by rw [hsp, splitT_miss hno, List.length_append, List.length_take, List.length_singleton]; omega
    have hi2 : i = t.count c := by omega
    refine ⟨(X7.trans x8).thenCh ((Upd.setCell w8 b o _).ch (S := fun q => Value.ownBlock (.slice (some ⟨g, 0, none⟩) (t.count c + 1) (t.count c + 1)) = some q) hb) fun b hb => by cases hb; exact (show w.heap.size ≤ g by omega), ?_⟩
    have e2 : M.set i r = splitT c t := by
      rw [hsp, splitT_miss hno]
      apply List.ext_getElem
      · rw [List.length_set, List.length_append, List.length_take, List.length_singleton]; omega
      · intro j h1 h2
        rw [List.getElem_set]
        split
        · rename_i e; subst e
          rw [List.getElem_append_right (by rw [List.length_take]; omega)]
          simp
        · rw [List.getElem_append_left (by rw [List.length_take]; rw [List.length_set] at h1; omega), List.getElem_take]
    rw [← e2]
    have : i + 1 = t.count c + 1 := by omega
    rw [this]
    exact hset
  refine iLt (iCndP (fun h => ?_) (fun h => ?_))
  · refine iRet (ok_strings_Index1 r c w7) fun w8 x8 => ?_
    refine iLt ?_
    rcases indexByte_cases r c with ⟨hno, e⟩ | ⟨a, q, rfl, hno, e⟩
    · rw [e]
      exact iCndT rfl (fin w8 x8 hno)
    · rw [e]
      refine iCndF (by simp) ?_
      have hal : a.length ≤ (a ++ c :: q).length := by simp
      rw [List.length_append, List.length_cons] at hr
      refine iAdd (by omega) ?_
      rw [Int.add_zero]
      refine iTxTo hal ?_
      rw [List.take_left]
      have hT8 := hT.ext x8
      refine iIaOw hT8.ow (by omega) (by rw [List.length_map]; omega) fun b o hb _ _ hc hf hset => ?_
      refine iSt (hc.trans (List.getElem?_eq_getElem (by rw [List.length_map]; omega))) hf rfl ?_
      have hset := hset (sv a)
      rw [Int.toNat_natCast, ← List.map_set] at hset
      refine iLenT ?_
      refine iAdd (by simp; omega) ?_
      rw [show (a.length : Int) + (([c] : Str).length : Nat) = ((a.length + 1 : Nat) : Int) by simp]
      refine iTxFrom (by simp) ?_
      refine iAdd (by omega) ?_
      have e3 : (a ++ c :: q).drop (a.length + 1) = q := by rw [List.drop_append]; simp
      rw [e3]
      refine hKn (q, i + 1) _ ⟨by show i + 1 ≤ t.count c; omega, by show q.length ≤ t.length; omega, M.set i a, ⟨hset, hT8.ch.trans ((Upd.setCell w8 b o _).ch (S := fun q => Value.ownBlock (.slice (some ⟨g, 0, none⟩) (t.count c + 1) (t.count c + 1)) = some q) hb) fun _ e => .inl e⟩, by rw [List.length_set]; exact hM, ?_⟩ (by show q.length < (a ++ c :: q).length; simp; omega)
      show splitT c t = (M.set i a).take (i + 1) ++ splitT c q
      rw [hsp, splitT_hit hno, List.take_succ_eq_append_getElem (by rw [List.length_set]; omega), List.getElem_set_self, List.take_set_of_le (Nat.le_refl _)]
      simp
  · have hi2 : i = t.count c := by omega
    have hno : ∀ x ∈ r, x ≠ c := by
      have hl := congrArg List.length hsp
      rw [hsl, List.length_append, List.length_take, splitT_len] at hl
      have : r.count c = 0 := by omega
      intro x hx e
      subst e
      exact List.count_eq_zero.1 this hx
    exact fin w7 (Ext.refl _) hno
end Go.Proofs.YtaipnnkpplinoaaGreatDoor

namespace Go.Vc
def axNs : List Str := [[52], [53], [66], [67], [68], [70], [71], [72], [76], [84], [86], [88], [90]]
def lgT : List Str := [[68, 32, 68], [68, 52, 32, 52, 32, 68], [71, 76, 32, 76], [71, 114, 122, 32, 90], [75], [75, 52, 32, 52], [75, 52, 53, 32, 52, 32, 53], [75, 66, 32, 66], [75, 68, 52, 53, 32, 52, 32, 53, 32, 68], [83, 52, 32, 52, 32, 84], [83, 52, 50, 32, 52, 32, 71, 32, 84], [83, 52, 51, 32, 52, 32, 72, 32, 84], [83, 53, 32, 53, 32, 84], [84, 32, 84], [84, 114, 105, 118, 32, 84, 32, 88], [86, 101, 114, 32, 86]]
def lgN : List Str := [[68], [68, 52], [71, 76], [71, 114, 122], [75], [75, 52], [75, 52, 53], [75, 66], [75, 68, 52, 53], [83, 52], [83, 52, 50], [83, 52, 51], [83, 53], [84], [84, 114, 105, 118], [86, 101, 114]]
def lgA : List (List Nat) := [[4], [0, 4], [8], [12], [], [0], [0, 1], [2], [0, 1, 4], [0, 9], [0, 6, 9], [0, 7, 9], [1, 9], [9], [9, 11], [10]]
set_option maxRecDepth 100000 in
theorem lg_row : ∀ i, i < 16 → splitT 32 (gt lgT i) = gt lgN i :: (gt lgA i).map fun a => gt axNs a := by decide
theorem lgA_lt : ∀ i, i < 16 → ∀ a ∈ gt lgA i, a < 13 := by decide
theorem lgT_len : ∀ i, i < 16 → (gt lgT i).length ≤ 100 := by decide
theorem lgN_inj : ∀ i, i < 16 → ∀ j, j < i → ¬ gt lgN i = gt lgN j := by decide
theorem lgN_idx : ∀ i, i < 16 → lgN.idxOf (gt lgN i) = i := by decide
theorem axNs_idx : ∀ i, i < 13 → axNs.idxOf (gt axNs i) = i := by decide
theorem axNs_inj : ∀ i, i < 13 → ∀ j, j < i → ¬ gt axNs i = gt axNs j := by decide
theorem mem_lgN {x : Str} (h : x ∈ lgN) : ∃ i, i < 16 ∧ x = gt lgN i := by
  obtain ⟨i, hi, rfl⟩ := List.getElem_of_mem h
  exact ⟨i, hi, by rw [gt_eq hi]⟩
def AxOk (w : World) : Prop := ∀ i, i < 13 → w.cell? ⟨1, i, none⟩ = some (sv (gt axNs i))
def LgOk (w : World) : Prop := ∀ i, i < 16 → w.cell? ⟨0, i, none⟩ = some (sv (gt lgT i))
theorem cell_ltM {w : World} {a : Addr} {v : Value} (h : w.cell? a = some v) : a.block < w.heap.size := by
  rcases Nat.lt_or_ge a.block w.heap.size with h1 | h1
  · exact h1
  · simp only [World.cell?, Array.getElem?_eq_none h1] at h
    cases h
theorem AxOk.ext {w w' : World} (h : AxOk w) (x : Ext w w') : AxOk w' := fun i hi => by
  have h1 := h i hi
  have hlt := cell_ltM h1
  rw [← h1]; simp only [World.cell?]; rw [x.block _ hlt]
theorem LgOk.ext {w w' : World} (h : LgOk w) (x : Ext w w') : LgOk w' := fun i hi => by
  have h1 := h i hi
  have hlt := cell_ltM h1
  rw [← h1]; simp only [World.cell?]; rw [x.block _ hlt]
theorem iLdTab {w : World} {b n : Nat} {L : List Str} {K : Value → Prop} (hL : L.length = n) (h : ∀ i, i < n → w.cell? ⟨b, i, none⟩ = some (sv (gt L i))) (k : K (.agg (strs L).toArray)) : xLdA w n (.pointer (some ⟨b, 0, none⟩)) K := by
  refine ⟨_, (strs L).toArray, rfl, by simp [strs, hL], fun i hi => ?_, k⟩
  have : (⟨b, 0, none⟩ : Addr).add i = ⟨b, i, none⟩ := by
    simp only [Addr.add]; split
    · rename_i e; simp
    · simp
  rw [this, h i hi, gt_eq (by omega)]
  simp [strs, hL, hi]
theorem iIdxA {P : Program} {w : World} {t e : TypeId} {n : Nat} {k : IntKind} {j : Nat} {cs : Array Value} {v : Value} {K : Value → Prop} (hu : P.underlying t = some (.array n e)) (hi : (P.info? e).map (fun i => i.size) = some 1) (hg : isAgg? P e = some false)
    (hj : j < n) (hv : cs[j]? = some v) (h : K v) : xR P w (Instr.index t (.agg cs) (.int k (j : Int))) K := by
  obtain ⟨i2, hi2, hz2⟩ := Option.map_eq_some_iff.1 hi
  refine ⟨v, fun w' _ => ?_, h⟩
  have hc : (0 : Int) ≤ (j : Int) ∧ (j : Int) < ((n : Nat) : Int) := by omega
  simp [Instr.index, asIntOf, run_underlying hu, run_size hi2, hz2, part, isAgg_run hg, hv, hj]
theorem iSlAt {w : World} {v : Value} {L : List Str} {j : Nat} {k : IntKind} {K : Value → Prop} (hs : SlT w v L) (hj : j < L.length) (h : K (sv (gt L j))) : xIa 1 v (.int k (j : Int)) fun p => xLd w p K := iIaG hs rfl hj h
theorem iIaAM {len b j : Nat} {k : IntKind} {K : Value → Prop} (hj : j < len) (h : K (.pointer (some ⟨b, j, none⟩))) : xIaA len 1 (.pointer (some ⟨b, 0, none⟩)) (.int k (j : Int)) K := by
  refine ⟨_, _, _, rfl, rfl, by omega, by omega, ?_⟩
  have : (⟨b, 0, none⟩ : Addr).add ((j : Int).toNat * 1) = ⟨b, j, none⟩ := by
    simp only [Addr.add, Int.toNat_natCast, Nat.mul_one]; split
    · simp
    · simp
  rw [this]; exact h
theorem iBsCM {w : World} {e : TypeId} {z : Value} {n : Nat} {ps : List (Nat × Value)} {K : Value → World → Prop} (L : List Str) (hf : Instr.fill (fun i => some (i * 1, 1)) ((Array.range (n * 1)).map (fun i => (Value.cells z)[i % (Value.cells z).size]!)) ps = some (strs L).toArray) 
    (h : ∀ b w', b = w.heap.size → Ext w w' → Blk e w' b (strs L) → K (.slice (some ⟨b, 0, none⟩) n n) w') : xBs e (Value.cells z) 1 n ps w K :=
  ⟨_, hf, h _ _ rfl (Ext.alloc w _) (Blk.new w (strs L).toArray e)⟩
theorem Blk.sltM {w : World} {e : TypeId} {b n : Nat} {L : List Str} (h : Blk e w b (strs L)) (hn : L.length = n) (hm : n ≤ 1000) : SlT w (.slice (some ⟨b, 0, none⟩) n n) L := Sl.ofBlk (n := n) h (by rw [strs_len, hn]) (by omega)
theorem iBuildA {P : Program} {w : World} {t e : TypeId} {n : Nat} {z : Array Value} {parts : Array (Nat × Value)} {cs : Array Value} {K : Value → Prop} (hu : P.underlying t = some (.array n e)) (hi : (P.info? t).map (fun i => i.zero) = some (some (.agg z))) (hs : (P.info? e).map (fun i => i.size) = some 1)
    (hf : Instr.fill (fun i => some (i * 1, 1)) z parts.toList = some cs) (h : K (.agg cs)) : xR P w (Instr.build t parts) K := by
  obtain ⟨i, hi', hz⟩ := Option.map_eq_some_iff.1 hi
  obtain ⟨i2, hi2, hz2⟩ := Option.map_eq_some_iff.1 hs
  refine ⟨_, fun w' _ => ?_, h⟩
  have hz' : (Value.agg z).cells = z := rfl
  simp only [Instr.build, zeroValue, Sem.run_bind, Sem.run_pure, Result.andThen_ok, run_info hi', hz, run_underlying hu, run_size hi2, hz2, hz', hf]
end Go.Vc
namespace Go.Proofs.YtaipnnkpplinoaaGreatDoor
open Go.Vc
def lgB (i : Nat) (f : Fr) : Bool := (gt lgA i).all fun a => axB a f
def lgOf (f : Fr) : List Str := lgN.filter fun t => lgB (lgN.idxOf t) f
def CondW (w : World) (fv : Value) (i : Nat) : Prop := ∀ (f : Fr), f.ok → ∀ (v : Value) (w' : World), Ext w w' → SlN w' v f.a → callV Tryz.prog fv [.agg #[.int .i64 (f.n : Int), v]] w' fun u w'' => u = .bool (axB i f) ∧ Ext w' w''
theorem ok_impl_flagCondition_1_1 {f : Fr} (hf : f.ok) {v : Value} {w : World} (hs : SlN w v f.a) {b : Nat} (hB : Blk t_impl_Frame w b [.int .i64 (f.n : Int), v]) (t : Nat) (ht : t ≤ 10) : Ret Tryz.prog f_impl_flagCondition_1_1 #[.int .i64 (t : Int), .pointer (some ⟨b, 0, none⟩)] w (.bool (!flagI t f)) := by
  apply c_impl_flagCondition_1_1; unfold S_impl_flagCondition_1_1
  refine iLdA hB rfl ?_
  refine iRet (ok_hasFlag_all hf hs t ht) fun w1 x1 => ?_
  refine iNot ⟨?_, x1⟩
  first | trivial | rfl
def CondL (lo : Nat) (w : World) (fv : Value) (L : List Nat) : Prop := ∀ (f : Fr), f.ok → ∀ (u : Value) (w1 : World), Ch (fun c => c < lo) w w1 → SlN w1 u f.a → callV Tryz.prog fv [.agg #[.int .i64 (f.n : Int), u]] w1 fun y w2 => y = .bool (L.all fun t => flagI t f) ∧ Ext w1 w2
theorem ok_impl_flagCondition {lo : Nat} {L : List Nat} {v : Value} {w : World} (hlo : lo ≤ w.heap.size) (hs : Ow lo t_i64 w v (ints (nats L))) (hL : ∀ t ∈ L, t ≤ 10) : Cal Tryz.prog f_impl_flagCondition #[v] w fun r w' => Ext w w' ∧ ∃ b, r = .func (.func f_impl_flagCondition_1) #[] #[.pointer (some ⟨b, 0, none⟩)] ∧ CondL lo w' r L := by
  apply c_impl_flagCondition; unfold S_impl_flagCondition
  have hvc : v.cells.toList = [v] := by obtain ⟨a, c, rfl, _⟩ := hs.sl; rfl
  refine iNew fun b w1 hb x1 hB => ?_
  rw [hvc] at hB
  refine ⟨x1, b, rfl, fun f hf u w2 x2 hu => ?_⟩
  refine iClo (f := f_impl_flagCondition_1) (first := #[]) (cap := #[.pointer (some ⟨b, 0, none⟩)]) rfl ?_
  refine c_impl_flagCondition_1 ?_
  unfold S_impl_flagCondition_1
  refine iNew fun b2 w3 hb2 x3 hB2 => ?_
  have hB2 : Blk t_impl_Frame w3 b2 [.int .i64 (f.n : Int), u] := hB2
  have hB3 : Blk _ w3 b [v] := (hB.ch x2 (by omega)).ext x3
  refine iLdB hB3 (i := 0) rfl ?_
  have hs3 : SlN w3 v L := (((hs.ext x1).ch x2 fun c hc => by have := (hs.blk c hc).1; omega).ext x3).sl
  refine iRet (ok_slices_ContainsFunc_Si64_i64 hs3 (fun z => !flagI z.toNat f) fun w4 x4 z hz => ?_) fun w5 x5 => ?_
  · obtain ⟨t, ht, rfl⟩ := List.mem_map.1 hz
    refine iClo (f := f_impl_flagCondition_1_1) (first := #[]) (cap := #[.pointer (some ⟨b2, 0, none⟩)]) rfl ?_
    refine (ok_impl_flagCondition_1_1 hf ((hu.ext x3).ext x4) (hB2.ext x4) t (hL t ht)).mono ?_
    rintro r w6 h
    exact h
  · refine iNot ⟨?_, x3.trans x5⟩
    congr 1
    rw [Bool.eq_iff_iff, Bool.not_eq_true', List.any_eq_false, List.all_eq_true]
    constructor
    · intro h t ht
      have := h (t : Int) (List.mem_map.2 ⟨t, ht, rfl⟩)
      simpa using this
    · intro h z hz
      obtain ⟨t, ht, rfl⟩ := List.mem_map.1 hz
      have := h t ht
      simpa using this
theorem ok_impl_conditions_1 (w : World) : CondW w (.func (.func f_impl_conditions_1) #[] #[]) 10 := by
  intro f hf v w1 x1 hs
  have hfl := hf.2.1
  have hf8 := hf.1
  refine iCall (c_impl_conditions_1 ?_)
  unfold S_impl_conditions_1
  refine iNew fun b w2 hb x2 hB => ?_
  have hB : Blk t_impl_Frame w2 b [.int .i64 (f.n : Int), v] := hB
  refine iLdA hB rfl ?_
  refine iRet (ok_impl_Frame_everyWorld (n := f.n) (u := v) (fun x => decide (f.a.getD x 0 = 0)) (by omega) w2 fun w3 x3 x hx => ?_) fun w4 x4 => ⟨rfl, x2.trans x4⟩
  refine iClo (f := f_impl_conditions_1_1) (first := #[]) (cap := #[.pointer (some ⟨b, 0, none⟩)]) rfl ?_
  refine c_impl_conditions_1_1 ?_
  unfold S_impl_conditions_1_1
  refine iFa (iLdB (hB.ext x3) (i := 1) rfl ?_)
  refine iIaNN (hs.ext (x2.trans x3)) (by omega) fun p hp => iLd hp ?_
  refine iEq ⟨?_, Ext.refl _⟩
  congr 1
  exact decide_eq_decide.2 ⟨fun h => by omega, fun h => by omega⟩
theorem ok_impl_conditions_2 (w : World) : CondW w (.func (.func f_impl_conditions_2) #[] #[]) 11 := by
  intro f hf v w1 x1 hs
  have hfl := hf.2.1
  have hf8 := hf.1
  refine iCall (c_impl_conditions_2 ?_)
  unfold S_impl_conditions_2
  refine iNew fun b w2 hb x2 hB => ?_
  have hB : Blk t_impl_Frame w2 b [.int .i64 (f.n : Int), v] := hB
  refine iLdA hB rfl ?_
  refine iRet (ok_impl_Frame_everyWorld (n := f.n) (u := v) (fun x => decide (sdiff (f.a.getD x 0) (2 ^ x) = 0)) (by omega) w2 fun w3 x3 x hx => ?_) fun w4 x4 => ⟨rfl, x2.trans x4⟩
  refine iClo (f := f_impl_conditions_2_1) (first := #[]) (cap := #[.pointer (some ⟨b, 0, none⟩)]) rfl ?_
  refine c_impl_conditions_2_1 ?_
  unfold S_impl_conditions_2_1
  have hgx := fr_lt63 hf x
  have hx8 : 2 ^ x < 2 ^ 8 := Nat.pow_lt_pow_right (by omega) (by omega)
  refine iFa (iLdB (hB.ext x3) (i := 1) rfl ?_)
  refine iIaNN (hs.ext (x2.trans x3)) (by omega) fun p hp => iLd hp ?_
  refine iShlOne (by omega) ?_
  refine iRetQ (fun w' _ => ok_impl_within _ _ (by omega) (by omega) w') ?_
  intro w5 x5
  exact ⟨rfl, x5⟩
theorem CondL.at {lo : Nat} {w w' : World} {fv : Value} {L : List Nat} {i : Nat} (h : CondL lo w fv L) (x : Ch (fun c => c < lo) w w') (hi : ∀ f, axB i f = L.all fun t => flagI t f) : CondW w' fv i := fun f hf v w1 y hs => by
  rw [hi f]; exact h f hf v w1 (x.trans (y.ch (S := fun _ => False)) fun _ e => e.elim) hs
theorem iFlag {lo : Nat} {w : World} {n : Nat} {ps : List (Nat × Value)} {K : Value → World → Prop} (L : List Nat) (hf : Instr.fill (fun i => some (i * 1, 1)) ((Array.range (n * 1)).map (fun i => (Value.cells (.int .i64 0))[i % (Value.cells (.int .i64 0)).size]!)) ps = some (ints (nats L)).toArray) (hn : L.length = n) (hm : n ≤ 1000) (hL : ∀ t ∈ L, t ≤ 10) (hlo : lo ≤ w.heap.size)
    (h : ∀ b w', Ext w w' → lo ≤ w'.heap.size → CondL lo w' (.func (.func f_impl_flagCondition_1) #[] #[.pointer (some ⟨b, 0, none⟩)]) L → K (.func (.func f_impl_flagCondition_1) #[] #[.pointer (some ⟨b, 0, none⟩)]) w') :
    xBs t_i64 (Value.cells (.int .i64 0)) 1 n ps w fun v w2 => callV Tryz.prog (.func (.func f_impl_flagCondition) #[] #[]) [v] w2 K := by
  refine ⟨_, hf, ?_⟩
  have hB := Blk.new w (ints (nats L)).toArray t_i64
  have x1 := Ext.alloc w (.cells (ints (nats L)).toArray t_i64)
  have hs : Ow lo t_i64 (w.alloc (.cells (ints (nats L)).toArray t_i64)) (.slice (some ⟨w.heap.size, 0, none⟩) n n) (ints (nats L)) := Ow.ofBlk hB hlo (by rw [ints_length, nats_length]; exact hn) (by omega)
  generalize w.alloc (.cells (ints (nats L)).toArray t_i64) = w1 at *
  refine iCall ((ok_impl_flagCondition (Nat.le_trans hlo x1.size) hs hL).mono ?_)
  rintro _ w2 ⟨x2, b, rfl, hc⟩
  exact h b w2 (x1.trans x2) (Nat.le_trans hlo (x1.trans x2).size) hc
theorem fill_cons1 {cs : Array Value} {i : Nat} {x : Value} {ps : List (Nat × Value)} (hx : Value.cells x = #[x]) (hi : i < cs.size) : Instr.fill (fun i => some (i * 1, 1)) cs ((i, x) :: ps) = Instr.fill (fun i => some (i * 1, 1)) (cs.setIfInBounds i x) ps := by
  have : ¬ (Value.cells x).size ≠ 1 := by rw [hx]; simp
  have h2 : ¬ i * 1 + (Value.cells x).size > cs.size := by rw [hx]; simp; omega
  rw [Instr.fill]
  simp only [this, h2, if_false, decide_false, Bool.or_self, Bool.false_eq_true]
  rw [hx]
  simp
theorem fill13 {x0 x1 x2 x3 x4 x5 x6 x7 x8 x9 x10 x11 x12 z : Value} (h0 : Value.cells x0 = #[x0]) (h1 : Value.cells x1 = #[x1]) (h2 : Value.cells x2 = #[x2]) (h3 : Value.cells x3 = #[x3]) (h4 : Value.cells x4 = #[x4]) (h5 : Value.cells x5 = #[x5]) (h6 : Value.cells x6 = #[x6]) (h7 : Value.cells x7 = #[x7]) (h8 : Value.cells x8 = #[x8]) (h9 : Value.cells x9 = #[x9]) (h10 : Value.cells x10 = #[x10]) (h11 : Value.cells x11 = #[x11]) (h12 : Value.cells x12 = #[x12]) : Instr.fill (fun i => some (i * 1, 1)) #[z, z, z, z, z, z, z, z, z, z, z, z, z] [(0, x0), (1, x1), (2, x2), (3, x3), (4, x4), (5, x5), (6, x6), (7, x7), (8, x8), (9, x9), (10, x10), (11, x11), (12, x12)] = some #[x0, x1, x2, x3, x4, x5, x6, x7, x8, x9, x10, x11, x12] := by
  rw [fill_cons1 h0 (by simp)]
  rw [fill_cons1 h1 (by simp)]
  rw [fill_cons1 h2 (by simp)]
  rw [fill_cons1 h3 (by simp)]
  rw [fill_cons1 h4 (by simp)]
  rw [fill_cons1 h5 (by simp)]
  rw [fill_cons1 h6 (by simp)]
  rw [fill_cons1 h7 (by simp)]
  rw [fill_cons1 h8 (by simp)]
  rw [fill_cons1 h9 (by simp)]
  rw [fill_cons1 h10 (by simp)]
  rw [fill_cons1 h11 (by simp)]
  rw [fill_cons1 h12 (by simp)]
  simp [Instr.fill]
theorem ok_impl_conditions (w : World) : Cal Tryz.prog f_impl_conditions #[] w fun r w' => Ext w w' ∧ ∃ cs : Array Value, r = .agg cs ∧ ∀ i, i < 13 → ∃ v, cs[i]? = some v ∧ CondW w' v i := by
  apply c_impl_conditions; unfold S_impl_conditions
  refine iNew fun b0 w1 hb0 x1 hB0 => ?_
  have hlt0 := hB0.lt
  have lob0 : w1.heap.size ≤ w1.heap.size := Nat.le_refl _
  refine iFlag (lo := w1.heap.size) [2] (by kernel_rfl) rfl (by omega) (by decide) (by assumption) fun b1 w2 x2 lob1 h1 => ?_
  refine iFlag (lo := w1.heap.size) [4] (by kernel_rfl) rfl (by omega) (by decide) (by assumption) fun b2 w3 x3 lob2 h2 => ?_
  refine iFlag (lo := w1.heap.size) [3] (by kernel_rfl) rfl (by omega) (by decide) (by assumption) fun b3 w4 x4 lob3 h3 => ?_
  refine iFlag (lo := w1.heap.size) [9] (by kernel_rfl) rfl (by omega) (by decide) (by assumption) fun b4 w5 x5 lob4 h4 => ?_
  refine iFlag (lo := w1.heap.size) [1] (by kernel_rfl) rfl (by omega) (by decide) (by assumption) fun b5 w6 x6 lob5 h5 => ?_
  refine iFlag (lo := w1.heap.size) [10] (by kernel_rfl) rfl (by omega) (by decide) (by assumption) fun b6 w7 x7 lob6 h6 => ?_
  refine iFlag (lo := w1.heap.size) [5] (by kernel_rfl) rfl (by omega) (by decide) (by assumption) fun b7 w8 x8 lob7 h7 => ?_
  refine iFlag (lo := w1.heap.size) [6] (by kernel_rfl) rfl (by omega) (by decide) (by assumption) fun b8 w9 x9 lob8 h8 => ?_
  refine iFlag (lo := w1.heap.size) [2, 7] (by kernel_rfl) rfl (by omega) (by decide) (by assumption) fun b9 w10 x10 lob9 h9 => ?_
  refine iFlag (lo := w1.heap.size) [0] (by kernel_rfl) rfl (by omega) (by decide) (by assumption) fun b10 w11 x11 lob10 h10 => ?_
  refine iFlag (lo := w1.heap.size) [0, 2, 8] (by kernel_rfl) rfl (by omega) (by decide) (by assumption) fun b11 w12 x12 lob11 h11 => ?_
  refine iBuildA (z := #[.nilFunc, .nilFunc, .nilFunc, .nilFunc, .nilFunc, .nilFunc, .nilFunc, .nilFunc, .nilFunc, .nilFunc, .nilFunc, .nilFunc, .nilFunc]) (n := 13) (e := 206) (by kernel_rfl) (by kernel_rfl) (by kernel_rfl) (fill13 rfl rfl rfl rfl rfl rfl rfl rfl rfl rfl rfl rfl rfl) ?_
  have y11 := x12
  have y10 := x11.trans y11
  have y9 := x10.trans y10
  have y8 := x9.trans y9
  have y7 := x8.trans y8
  have y6 := x7.trans y7
  have y5 := x6.trans y6
  have y4 := x5.trans y5
  have y3 := x4.trans y4
  have y2 := x3.trans y3
  have y1 := x2.trans y2
  refine iStAB (hB0.ext y1) rfl rfl (fun v hv => ?_) fun w13 hu hB13 => ?_
  · simp only [List.mem_cons, List.not_mem_nil, or_false] at hv
    rcases hv with rfl | rfl | rfl | rfl | rfl | rfl | rfl | rfl | rfl | rfl | rfl | rfl | rfl <;> rfl
  refine iLdA hB13 rfl ?_
  have z : Ext w w13 := (x1.trans y1).upd hu (by omega)
  refine ⟨z, _, rfl, fun i hi => ?_⟩
  have ch : ∀ {w'}, Ext w' w12 → Ch (fun c => c < w1.heap.size) w' w13 := fun y => (y.ch (S := fun c => c < w1.heap.size)).trans (hu.ch (S := fun c => c < w1.heap.size) hlt0) fun _ e => .inl e
  match i, hi with
  | 0, _ => exact ⟨_, rfl, h1.at (ch y2) fun f => by simp [axB]⟩
  | 1, _ => exact ⟨_, rfl, h2.at (ch y3) fun f => by simp [axB]⟩
  | 2, _ => exact ⟨_, rfl, h3.at (ch y4) fun f => by simp [axB]⟩
  | 3, _ => exact ⟨_, rfl, h4.at (ch y5) fun f => by simp [axB]⟩
  | 4, _ => exact ⟨_, rfl, h5.at (ch y6) fun f => by simp [axB]⟩
  | 5, _ => exact ⟨_, rfl, h6.at (ch y7) fun f => by simp [axB]⟩
  | 6, _ => exact ⟨_, rfl, h7.at (ch y8) fun f => by simp [axB]⟩
  | 7, _ => exact ⟨_, rfl, h8.at (ch y9) fun f => by simp [axB]⟩
  | 8, _ => exact ⟨_, rfl, h9.at (ch y10) fun f => by simp [axB]⟩
  | 9, _ => exact ⟨_, rfl, h10.at (ch y11) fun f => by simp [axB]⟩
  | 10, _ => exact ⟨_, rfl, ok_impl_conditions_1 _⟩
  | 11, _ => exact ⟨_, rfl, ok_impl_conditions_2 _⟩
  | 12, _ => exact ⟨_, rfl, h11.at (ch (Ext.refl _)) fun f => by simp [axB, Bool.and_assoc]⟩
theorem ok_impl_axiomAt {i : Nat} (hi : i < 13) {w : World} (hA : AxOk w) : Ret Tryz.prog f_impl_axiomAt #[sv (gt axNs i)] w (.int .i64 (i : Int)) := by
  apply c_impl_axiomAt; unfold S_impl_axiomAt
  have hl : axNs.length = 13 := rfl
  refine iLdTab rfl hA ?_
  refine iLp (fun j : Nat => [.int .i64 (j : Int)]) (fun j w' => j ≤ i ∧ Ext w w') (fun j => 13 - j) 0 rfl ⟨Nat.zero_le _, Ext.refl _⟩ ?_
  rintro j w2 Kn ⟨hj, x2⟩ hKn
  intro _
  simp only [gx]
  refine iLt (iCndP (fun h => ?_) (fun h => absurd h (by omega)))
  refine iIdxA (n := 13) (e := t_string) (by kernel_rfl) (by kernel_rfl) (by kernel_rfl) (by omega) (show (strs axNs).toArray[j]? = some (sv (gt axNs j)) by rw [List.getElem?_toArray]; exact strs_get axNs (by omega)) ?_
  refine iEqT (iCndP (fun h2 => ?_) (fun h2 => ?_))
  · have : j = i := by
      rcases Nat.lt_or_ge j i with h3 | h3
      · exact absurd h2.symm (axNs_inj i hi j h3)
      · omega
    subst this
    exact ⟨rfl, x2⟩
  · have : j ≠ i := fun e => h2 (by rw [e])
    refine iAdd (by omega) ?_
    exact hKn (j + 1) _ ⟨by omega, x2⟩ (by omega)
theorem ok_impl_axiomHolds {f : Fr} (hf : f.ok) {v : Value} {i : Nat} (hi : i < 13) {w : World} (hs : SlN w v f.a) (hA : AxOk w) : Ret Tryz.prog f_impl_axiomHolds #[.agg #[.int .i64 (f.n : Int), v], sv (gt axNs i)] w (.bool (axB i f)) := by
  apply c_impl_axiomHolds; unfold S_impl_axiomHolds
  refine iNew fun b w1 hb x1 hB => ?_
  have hB : Blk t_impl_Frame w1 b [.int .i64 (f.n : Int), v] := hB
  refine iLdA hB rfl ?_
  intro w2 x2
  refine iCall ((ok_impl_conditions w2).mono ?_)
  rintro _ w3 ⟨x3, cs, rfl, hc⟩
  have X3 := (x1.trans x2).trans x3
  refine ⟨x3, ?_⟩
  refine iRetQ (fun w' h' => ok_impl_axiomAt hi (hA.ext (X3.trans h'))) ?_
  obtain ⟨fv, hfv, hcw⟩ := hc i hi
  refine iIdxA (n := 13) (e := 206) (by kernel_rfl) (by kernel_rfl) (by kernel_rfl) hi hfv ?_
  intro w4 x4
  refine (hcw f hf v w4 x4 (hs.ext (X3.trans x4))).mono ?_
  rintro _ w5 ⟨rfl, x5⟩
  intro w6 x6
  exact ⟨rfl, ((X3.trans x4).trans x5).trans x6⟩
theorem ok_impl_logicRow {i : Nat} (hi : i < 16) {w : World} (hG : LgOk w) : Cal Tryz.prog f_impl_logicRow #[.int .i64 (i : Int)] w fun r w' => Ext w w' ∧ Ow w.heap.size t_string w' r (strs (gt lgN i :: (gt lgA i).map fun a => gt axNs a)) := by
  apply c_impl_logicRow; unfold S_impl_logicRow
  have hT := lgT_len i hi
  refine iIaAM hi (iLd (hG i hi) ?_)
  refine iCall ((ok_strings_Split1 32 (by omega) w).mono ?_)
  rintro r w1 ⟨x1, ho⟩
  rw [lg_row i hi] at ho
  exact ⟨x1, ho⟩
theorem ok_impl_logicNames {w : World} (hG : LgOk w) : Cal Tryz.prog f_impl_logicNames #[] w fun r w' => Ext w w' ∧ Ow w.heap.size t_string w' r (strs lgN) := by
  apply c_impl_logicNames; unfold S_impl_logicNames
  have hl : lgN.length = 16 := rfl
  refine iLp (fun s : Value × Nat => [s.1, .int .i64 (s.2 : Int)]) (fun s w' => s.2 ≤ 16 ∧ Ext w w' ∧ Ow w.heap.size t_string w' s.1 (strs (lgN.take s.2))) (fun s => 16 - s.2) (.slice none 0 0, 0) rfl ⟨Nat.zero_le _, Ext.refl _, Ow.nil _ _ _⟩ ?_
  rintro ⟨v, i⟩ w2 Kn ⟨hi, x2, ho⟩ hKn
  have hi : i ≤ 16 := hi
  have x2 : Ext w w2 := x2
  have ho : Ow w.heap.size t_string w2 v (strs (lgN.take i)) := ho
  intro _
  simp only [gx]
  refine iLt (iCndP (fun h => ?_) (fun h => ?_))
  · have hil : i < 16 := by omega
    refine iCall ((ok_impl_logicRow hil (hG.ext x2)).mono ?_)
    rintro r w3 ⟨x3, hr⟩
    have hsr : SlT w3 r (gt lgN i :: (gt lgA i).map fun a => gt axNs a) := hr.sl
    refine iSlAt (j := 0) hsr (by simp) ?_
    refine iBs1 rfl rfl fun b w4 hb x4 hB4 => ?_
    have hB4 : Blk t_string w4 b (strs [gt lgN i]) := hB4
    have ho4 := (ho.ext x3).ext x4
    have hll : (strs (lgN.take i)).length = i := by rw [strs_len, List.length_take]; omega
    refine iApp u_Sstring i_Sstring rfl ho4 (Blk.sltM (n := 1) hB4 rfl (by omega)) (strs_cell _) (by rw [hll]; simp [strs]; omega) (by rw [hll]; simp [strs]; omega) ((x2.trans (x3.trans x4)).size) fun u' w5 ho5 hg => ?_
    refine iAdd (by omega) ?_
    refine hKn (u', i + 1) _ ⟨hil, (x2.trans (x3.trans x4)).grown hg fun c hc => (ho4.blk c hc).1, ?_⟩ (by show 16 - (i + 1) < 16 - i; omega)
    show Ow _ _ _ u' (strs (lgN.take (i + 1)))
    rw [List.take_succ_eq_append_getElem (by omega), ← gt_eq (by omega), ← strs_app]
    exact ho5
  · have : i = 16 := by omega
    subst this
    exact ⟨x2, ho⟩
theorem ok_slices_IndexT {v : Value} {L : List Str} {k : Nat} {w : World} (hs : SlT w v L) (hk : k < L.length) (hne : ∀ j, j < k → ¬ gt L k = gt L j) : Ret Tryz.prog f_slices_Index_Sstring_string #[v, sv (gt L k)] w (.int .i64 (k : Int)) := by
  apply c_slices_Index_Sstring_string; unfold S_slices_Index_Sstring_string
  have hln := hs.len
  rw [strs_len] at hln
  refine iLenStr hs ?_
  refine iLp (fun i : Nat => [.int .i64 (i : Int)]) (fun i w' => i ≤ k ∧ Ext w w') (fun i => L.length - i) 0 rfl ⟨Nat.zero_le _, Ext.refl _⟩ ?_
  rintro i w2 Kn ⟨hi, h2⟩ hKn
  intro _
  simp only [gx]
  refine iLt ?_
  refine iCndP (fun h => ?_) (fun h => absurd h (by omega))
  refine iIaG (hs.ext h2) rfl (by omega) ?_
  refine iEqT ?_
  refine iCndP (fun h3 => ?_) (fun h3 => ?_)
  · have : i = k := by
      rcases Nat.lt_or_ge i k with h4 | h4
      · exact absurd h3 (hne i h4)
      · omega
    subst this
    exact ⟨rfl, h2⟩
  · have : i ≠ k := fun e => h3 (by rw [e])
    refine iAdd (by omega) ?_
    exact hKn (i + 1) _ ⟨by omega, h2⟩ (by omega)
theorem ok_impl_axiomsOf {i : Nat} (hi : i < 16) {w : World} (hG : LgOk w) : Cal Tryz.prog f_impl_axiomsOf #[sv (gt lgN i)] w fun r w' => Ext w w' ∧ ∃ u, r = .tuple #[u, .bool true] ∧ SlT w' u ((gt lgA i).map fun a => gt axNs a) := by
  apply c_impl_axiomsOf; unfold S_impl_axiomsOf
  refine iCall ((ok_impl_logicNames hG).mono ?_)
  rintro v w1 ⟨x1, ho⟩
  refine iRet (ok_slices_IndexT (L := lgN) ho.sl (show i < lgN.length from hi) (lgN_inj i hi)) fun w2 x2 => ?_
  refine iLt (iCndF (by simp) ?_)
  refine iCall ((ok_impl_logicRow hi (hG.ext (x1.trans x2))).mono ?_)
  rintro r w3 ⟨x3, hr⟩
  refine iSlFrom (j := 1) hr.sl (by simp [strs]) fun v' hv' => ?_
  exact ⟨(x1.trans x2).trans x3, v', rfl, hv'⟩
theorem ok_impl_isFrameOf {f : Fr} (hf : f.ok) {v : Value} {i : Nat} (hi : i < 16) {w : World} (hs : SlN w v f.a) (hA : AxOk w) (hG : LgOk w) : Ret Tryz.prog f_impl_isFrameOf #[.agg #[.int .i64 (f.n : Int), v], sv (gt lgN i)] w (.bool (lgB i f)) := by
  apply c_impl_isFrameOf; unfold S_impl_isFrameOf
  refine iNew fun b w1 hb x1 hB => ?_
  have hB : Blk t_impl_Frame w1 b [.int .i64 (f.n : Int), v] := hB
  refine iCall ((ok_impl_axiomsOf hi (hG.ext x1)).mono ?_)
  rintro _ w2 ⟨x2, u, rfl, hu⟩
  refine iEx rfl (iEx rfl ?_)
  have hax : ∀ x ∈ (gt lgA i).map fun a => gt axNs a, ∃ a, a < 13 ∧ a ∈ gt lgA i ∧ x = gt axNs a := fun x hx => by
    obtain ⟨a, ha, rfl⟩ := List.mem_map.1 hx
    exact ⟨a, lgA_lt i hi a ha, ha, rfl⟩
  refine iRet (ok_slices_ContainsFuncT (p := fun t => !axB (axNs.idxOf t) f) hu fun x hx w3 x3 => ?_) fun w4 x4 => ?_
  · obtain ⟨a, ha, _, rfl⟩ := hax x hx
    refine iClo (f := f_impl_isFrameOf_1) (first := #[]) (cap := #[.pointer (some ⟨b, 0, none⟩)]) rfl ?_
    refine c_impl_isFrameOf_1 ?_
    unfold S_impl_isFrameOf_1
    have X3 := (x1.trans x2).trans x3
    refine iLdA ((hB.ext x2).ext x3) rfl ?_
    refine iRet (ok_impl_axiomHolds hf ha (hs.ext X3) (hA.ext X3)) fun w4 x4 => iNot ⟨?_, x4⟩
    rw [axNs_idx a ha]
  · refine iNot ⟨?_, (x1.trans x2).trans x4⟩
    congr 1
    unfold lgB
    rw [Bool.eq_iff_iff, Bool.not_eq_true', List.any_eq_false, List.all_eq_true]
    constructor
    · intro h a ha
      have := h _ (List.mem_map.2 ⟨a, ha, rfl⟩)
      rw [axNs_idx a (lgA_lt i hi a ha)] at this
      simpa using this
    · intro h x hx
      obtain ⟨a, ha, ham, rfl⟩ := hax x hx
      rw [axNs_idx a ha, h a ham]; simp
theorem ok_impl_isLogic {i : Nat} (hi : i < 16) {w : World} (hG : LgOk w) : Ret Tryz.prog f_impl_isLogic #[sv (gt lgN i)] w (.bool true) := by
  apply c_impl_isLogic; unfold S_impl_isLogic
  refine iCall ((ok_impl_logicNames hG).mono ?_)
  rintro v w1 ⟨x1, ho⟩
  refine iRet (ok_slices_ContainsT (t := gt lgN i) (L := lgN) ho.sl) fun w2 x2 => ?_
  refine ⟨?_, x1.trans x2⟩
  rw [decide_eq_true (show gt lgN i ∈ lgN by rw [gt_eq (show i < lgN.length from hi)]; exact List.getElem_mem _)]
theorem ok_impl_IsFrameOf {f : Fr} (hf : f.ok) (hfo : frameOk (f.n : Int) (nats f.a) = true) {v : Value} {i : Nat} (hi : i < 16) {w : World} (hs : SlN w v f.a) (hA : AxOk w) (hG : LgOk w) : Ret Tryz.prog f_impl_IsFrameOf #[.agg #[.int .i64 (f.n : Int), v], sv (gt lgN i)] w (.tuple #[.bool (lgB i f), .int .i64 0]) := by
  apply c_impl_IsFrameOf; unfold S_impl_IsFrameOf
  refine iNew fun b w1 hb x1 hB => ?_
  have hB : Blk t_impl_Frame w1 b [.int .i64 (f.n : Int), v] := hB
  refine iLdA hB rfl ?_
  refine iRet (ok_impl_isFrame (hs.ext x1) f.n) fun w2 x2 => iNot ?_
  rw [hfo]
  refine iCndF rfl ?_
  refine iRet (ok_impl_isLogic hi (hG.ext (x1.trans x2))) fun w3 x3 => iNot (iCndF rfl ?_)
  have X3 := (x1.trans x2).trans x3
  refine iLdA ((hB.ext x2).ext x3) rfl ?_
  refine iRet (ok_impl_isFrameOf hf hi (hs.ext X3) (hA.ext X3) (hG.ext X3)) fun w4 x4 => ⟨rfl, X3.trans x4⟩
theorem ok_impl_LogicsOfFrame {f : Fr} (hf : f.ok) (hfo : frameOk (f.n : Int) (nats f.a) = true) {v : Value} {w : World} (hs : SlN w v f.a) (hA : AxOk w) (hG : LgOk w) : Cal Tryz.prog f_impl_LogicsOfFrame #[.agg #[.int .i64 (f.n : Int), v]] w fun r w' => Ext w w' ∧ ∃ u, r = .tuple #[u, .int .i64 0] ∧ SlT w' u (lgOf f) := by
  apply c_impl_LogicsOfFrame; unfold S_impl_LogicsOfFrame
  refine iNew fun b w1 hb x1 hB => ?_
  have hB : Blk t_impl_Frame w1 b [.int .i64 (f.n : Int), v] := hB
  refine iLdA hB rfl ?_
  refine iRet (ok_impl_isFrame (hs.ext x1) f.n) fun w2 x2 => iNot ?_
  rw [hfo]
  refine iCndF rfl ?_
  refine iLdA (hB.ext x2) rfl ?_
  have X2 := x1.trans x2
  refine iCall (Cal.mono (R := fun r w' => Ext w2 w' ∧ SlT w' r (lgOf f)) ?_ ?_)
  · apply c_impl_logicsOfFrame; unfold S_impl_logicsOfFrame
    refine iNew fun b3 w3 hb3 x3 hB3 => ?_
    have hB3 : Blk t_impl_Frame w3 b3 [.int .i64 (f.n : Int), v] := hB3
    refine iCall ((ok_impl_logicNames (hG.ext (X2.trans x3))).mono ?_)
    rintro u w4 ⟨x4, ho⟩
    refine iCall ((ok_slices_DeleteFuncT (w0 := w3) (p := fun t => !lgB (lgN.idxOf t) f) x4 ho (by decide) fun x hx w5 x5 => ?_).mono ?_)
    · obtain ⟨i, hi, rfl⟩ := mem_lgN hx
      refine iClo (f := f_impl_logicsOfFrame_1) (first := #[]) (cap := #[.pointer (some ⟨b3, 0, none⟩)]) rfl ?_
      refine c_impl_logicsOfFrame_1 ?_
      unfold S_impl_logicsOfFrame_1
      refine iLdA (hB3.ext x5) rfl ?_
      have X5 := (X2.trans x3).trans x5
      refine iRet (ok_impl_isFrameOf hf hi (hs.ext X5) (hA.ext X5) (hG.ext X5)) fun w6 x6 => iNot ⟨?_, x6⟩
      rw [lgN_idx i hi]
    · rintro r w6 ⟨x6, ho6⟩
      refine ⟨x3.trans x6, ?_⟩
      have e : (lgN.filter fun x => !!lgB (lgN.idxOf x) f) = lgOf f := by simp [lgOf]
      rw [e] at ho6
      exact ho6.sl
  · rintro r w3 ⟨x3, hr⟩
    exact ⟨X2.trans x3, r, rfl, hr⟩
end Go.Proofs.YtaipnnkpplinoaaGreatDoor

namespace Go.Proofs.YtaipnnkpplinoaaGreatDoor
open Go.Vc
theorem fill16 {x0 x1 x2 x3 x4 x5 x6 x7 x8 x9 x10 x11 x12 x13 x14 x15 z : Value} (h0 : Value.cells x0 = #[x0]) (h1 : Value.cells x1 = #[x1]) (h2 : Value.cells x2 = #[x2]) (h3 : Value.cells x3 = #[x3]) (h4 : Value.cells x4 = #[x4]) (h5 : Value.cells x5 = #[x5]) (h6 : Value.cells x6 = #[x6]) (h7 : Value.cells x7 = #[x7]) (h8 : Value.cells x8 = #[x8]) (h9 : Value.cells x9 = #[x9]) (h10 : Value.cells x10 = #[x10]) (h11 : Value.cells x11 = #[x11]) (h12 : Value.cells x12 = #[x12]) (h13 : Value.cells x13 = #[x13]) (h14 : Value.cells x14 = #[x14]) (h15 : Value.cells x15 = #[x15]) : Instr.fill (fun i => some (i * 1, 1)) #[z, z, z, z, z, z, z, z, z, z, z, z, z, z, z, z] [(0, x0), (1, x1), (2, x2), (3, x3), (4, x4), (5, x5), (6, x6), (7, x7), (8, x8), (9, x9), (10, x10), (11, x11), (12, x12), (13, x13), (14, x14), (15, x15)] = some #[x0, x1, x2, x3, x4, x5, x6, x7, x8, x9, x10, x11, x12, x13, x14, x15] := by
  rw [fill_cons1 h0 (by simp)]
  rw [fill_cons1 h1 (by simp)]
  rw [fill_cons1 h2 (by simp)]
  rw [fill_cons1 h3 (by simp)]
  rw [fill_cons1 h4 (by simp)]
  rw [fill_cons1 h5 (by simp)]
  rw [fill_cons1 h6 (by simp)]
  rw [fill_cons1 h7 (by simp)]
  rw [fill_cons1 h8 (by simp)]
  rw [fill_cons1 h9 (by simp)]
  rw [fill_cons1 h10 (by simp)]
  rw [fill_cons1 h11 (by simp)]
  rw [fill_cons1 h12 (by simp)]
  rw [fill_cons1 h13 (by simp)]
  rw [fill_cons1 h14 (by simp)]
  rw [fill_cons1 h15 (by simp)]
  simp [Instr.fill]
theorem ok_spec_l09Find {v : Value} {L : List Str} {k : Nat} {w : World} (hs : SlT w v L) (hk : k < L.length) (hne : ∀ j, j < k → ¬ gt L k = gt L j) : Ret Tryz.prog f_spec_l09Find #[v, sv (gt L k)] w (.int .i64 (k : Int)) := by
  apply c_spec_l09Find; unfold S_spec_l09Find
  have hln := hs.len
  rw [strs_len] at hln
  refine iLp (fun i : Nat => [.int .i64 (i : Int)]) (fun i w' => i ≤ k ∧ Ext w w') (fun i => L.length - i) 0 rfl ⟨Nat.zero_le _, Ext.refl _⟩ ?_
  rintro i w2 Kn ⟨hi, h2⟩ hKn
  intro _
  simp only [gx]
  refine iLenStr (hs.ext h2) ?_
  refine iLt ?_
  refine iCndP (fun h => ?_) (fun h => absurd h (by omega))
  refine iIaG (hs.ext h2) rfl (by omega) ?_
  refine iEqT ?_
  refine iCndP (fun h3 => ?_) (fun h3 => ?_)
  · have : i = k := by
      rcases Nat.lt_or_ge i k with h4 | h4
      · exact absurd h3.symm (hne i h4)
      · omega
    subst this
    exact ⟨rfl, h2⟩
  · have : i ≠ k := fun e => h3 (by rw [e])
    refine iAdd (by omega) ?_
    exact hKn (i + 1) _ ⟨by omega, h2⟩ (by omega)
theorem ok_spec_l09Logics (w : World) : Cal Tryz.prog f_spec_l09Logics #[] w fun r w' => Ext w w' ∧ Ow w.heap.size t_string w' r (strs lgN) := by
  apply c_spec_l09Logics; unfold S_spec_l09Logics
  refine iBsCM lgN (by kernel_rfl) fun b w1 hb x1 hB => ?_
  exact ⟨x1, Ow.ofBlk (n := 16) hB (by omega) rfl (by omega)⟩
theorem ok_spec_l09Axioms {i : Nat} (hi : i < 16) (w : World) : Cal Tryz.prog f_spec_l09Axioms #[sv (gt lgN i)] w fun r w' => Ext w w' ∧ SlT w' r ((gt lgA i).map fun a => gt axNs a) := by
  apply c_spec_l09Axioms; unfold S_spec_l09Axioms
  refine iBsCM ((gt lgA 0).map fun a => gt axNs a) (by kernel_rfl) fun b0 w1 hb0 x1 hB0 => ?_
  refine iBsCM ((gt lgA 1).map fun a => gt axNs a) (by kernel_rfl) fun b1 w2 hb1 x2 hB1 => ?_
  refine iBsCM ((gt lgA 2).map fun a => gt axNs a) (by kernel_rfl) fun b2 w3 hb2 x3 hB2 => ?_
  refine iBsCM ((gt lgA 3).map fun a => gt axNs a) (by kernel_rfl) fun b3 w4 hb3 x4 hB3 => ?_
  refine iBsCM ((gt lgA 4).map fun a => gt axNs a) (by kernel_rfl) fun b4 w5 hb4 x5 hB4 => ?_
  refine iBsCM ((gt lgA 5).map fun a => gt axNs a) (by kernel_rfl) fun b5 w6 hb5 x6 hB5 => ?_
  refine iBsCM ((gt lgA 6).map fun a => gt axNs a) (by kernel_rfl) fun b6 w7 hb6 x7 hB6 => ?_
  refine iBsCM ((gt lgA 7).map fun a => gt axNs a) (by kernel_rfl) fun b7 w8 hb7 x8 hB7 => ?_
  refine iBsCM ((gt lgA 8).map fun a => gt axNs a) (by kernel_rfl) fun b8 w9 hb8 x9 hB8 => ?_
  refine iBsCM ((gt lgA 9).map fun a => gt axNs a) (by kernel_rfl) fun b9 w10 hb9 x10 hB9 => ?_
  refine iBsCM ((gt lgA 10).map fun a => gt axNs a) (by kernel_rfl) fun b10 w11 hb10 x11 hB10 => ?_
  refine iBsCM ((gt lgA 11).map fun a => gt axNs a) (by kernel_rfl) fun b11 w12 hb11 x12 hB11 => ?_
  refine iBsCM ((gt lgA 12).map fun a => gt axNs a) (by kernel_rfl) fun b12 w13 hb12 x13 hB12 => ?_
  refine iBsCM ((gt lgA 13).map fun a => gt axNs a) (by kernel_rfl) fun b13 w14 hb13 x14 hB13 => ?_
  refine iBsCM ((gt lgA 14).map fun a => gt axNs a) (by kernel_rfl) fun b14 w15 hb14 x15 hB14 => ?_
  refine iBsCM ((gt lgA 15).map fun a => gt axNs a) (by kernel_rfl) fun b15 w16 hb15 x16 hB15 => ?_
  have hs0 := Blk.sltM (n := 1) (Blk.ext (Blk.ext (Blk.ext (Blk.ext (Blk.ext (Blk.ext (Blk.ext (Blk.ext (Blk.ext (Blk.ext (Blk.ext (Blk.ext (Blk.ext (Blk.ext (Blk.ext (hB0) x2) x3) x4) x5) x6) x7) x8) x9) x10) x11) x12) x13) x14) x15) x16) rfl (by omega)
  have hs1 := Blk.sltM (n := 2) (Blk.ext (Blk.ext (Blk.ext (Blk.ext (Blk.ext (Blk.ext (Blk.ext (Blk.ext (Blk.ext (Blk.ext (Blk.ext (Blk.ext (Blk.ext (Blk.ext (hB1) x3) x4) x5) x6) x7) x8) x9) x10) x11) x12) x13) x14) x15) x16) rfl (by omega)
  have hs2 := Blk.sltM (n := 1) (Blk.ext (Blk.ext (Blk.ext (Blk.ext (Blk.ext (Blk.ext (Blk.ext (Blk.ext (Blk.ext (Blk.ext (Blk.ext (Blk.ext (Blk.ext (hB2) x4) x5) x6) x7) x8) x9) x10) x11) x12) x13) x14) x15) x16) rfl (by omega)
  have hs3 := Blk.sltM (n := 1) (Blk.ext (Blk.ext (Blk.ext (Blk.ext (Blk.ext (Blk.ext (Blk.ext (Blk.ext (Blk.ext (Blk.ext (Blk.ext (Blk.ext (hB3) x5) x6) x7) x8) x9) x10) x11) x12) x13) x14) x15) x16) rfl (by omega)
  have hs4 := Blk.sltM (n := 0) (Blk.ext (Blk.ext (Blk.ext (Blk.ext (Blk.ext (Blk.ext (Blk.ext (Blk.ext (Blk.ext (Blk.ext (Blk.ext (hB4) x6) x7) x8) x9) x10) x11) x12) x13) x14) x15) x16) rfl (by omega)
  have hs5 := Blk.sltM (n := 1) (Blk.ext (Blk.ext (Blk.ext (Blk.ext (Blk.ext (Blk.ext (Blk.ext (Blk.ext (Blk.ext (Blk.ext (hB5) x7) x8) x9) x10) x11) x12) x13) x14) x15) x16) rfl (by omega)
  have hs6 := Blk.sltM (n := 2) (Blk.ext (Blk.ext (Blk.ext (Blk.ext (Blk.ext (Blk.ext (Blk.ext (Blk.ext (Blk.ext (hB6) x8) x9) x10) x11) x12) x13) x14) x15) x16) rfl (by omega)
  have hs7 := Blk.sltM (n := 1) (Blk.ext (Blk.ext (Blk.ext (Blk.ext (Blk.ext (Blk.ext (Blk.ext (Blk.ext (hB7) x9) x10) x11) x12) x13) x14) x15) x16) rfl (by omega)
  have hs8 := Blk.sltM (n := 3) (Blk.ext (Blk.ext (Blk.ext (Blk.ext (Blk.ext (Blk.ext (Blk.ext (hB8) x10) x11) x12) x13) x14) x15) x16) rfl (by omega)
  have hs9 := Blk.sltM (n := 2) (Blk.ext (Blk.ext (Blk.ext (Blk.ext (Blk.ext (Blk.ext (hB9) x11) x12) x13) x14) x15) x16) rfl (by omega)
  have hs10 := Blk.sltM (n := 3) (Blk.ext (Blk.ext (Blk.ext (Blk.ext (Blk.ext (hB10) x12) x13) x14) x15) x16) rfl (by omega)
  have hs11 := Blk.sltM (n := 3) (Blk.ext (Blk.ext (Blk.ext (Blk.ext (hB11) x13) x14) x15) x16) rfl (by omega)
  have hs12 := Blk.sltM (n := 2) (Blk.ext (Blk.ext (Blk.ext (hB12) x14) x15) x16) rfl (by omega)
  have hs13 := Blk.sltM (n := 1) (Blk.ext (Blk.ext (hB13) x15) x16) rfl (by omega)
  have hs14 := Blk.sltM (n := 2) (Blk.ext (hB14) x16) rfl (by omega)
  have hs15 := Blk.sltM (n := 1) (hB15) rfl (by omega)
  have X16 := (((((((((((((((x1).trans x2).trans x3).trans x4).trans x5).trans x6).trans x7).trans x8).trans x9).trans x10).trans x11).trans x12).trans x13).trans x14).trans x15).trans x16
  have e0 : (Array.range (16 * 1)).map (fun i => (Value.cells (.slice none 0 0))[i % (Value.cells (.slice none 0 0)).size]!) = #[(.slice none 0 0 : Value), (.slice none 0 0 : Value), (.slice none 0 0 : Value), (.slice none 0 0 : Value), (.slice none 0 0 : Value), (.slice none 0 0 : Value), (.slice none 0 0 : Value), (.slice none 0 0 : Value), (.slice none 0 0 : Value), (.slice none 0 0 : Value), (.slice none 0 0 : Value), (.slice none 0 0 : Value), (.slice none 0 0 : Value), (.slice none 0 0 : Value), (.slice none 0 0 : Value), (.slice none 0 0 : Value)] := by kernel_rfl
  refine ⟨_, by rw [e0]; exact fill16 rfl rfl rfl rfl rfl rfl rfl rfl rfl rfl rfl rfl rfl rfl rfl rfl, ?_⟩
  have hB := Blk.new w16 #[.slice (some ⟨b0, 0, none⟩) 1 1, .slice (some ⟨b1, 0, none⟩) 2 2, .slice (some ⟨b2, 0, none⟩) 1 1, .slice (some ⟨b3, 0, none⟩) 1 1, .slice (some ⟨b4, 0, none⟩) 0 0, .slice (some ⟨b5, 0, none⟩) 1 1, .slice (some ⟨b6, 0, none⟩) 2 2, .slice (some ⟨b7, 0, none⟩) 1 1, .slice (some ⟨b8, 0, none⟩) 3 3, .slice (some ⟨b9, 0, none⟩) 2 2, .slice (some ⟨b10, 0, none⟩) 3 3, .slice (some ⟨b11, 0, none⟩) 3 3, .slice (some ⟨b12, 0, none⟩) 2 2, .slice (some ⟨b13, 0, none⟩) 1 1, .slice (some ⟨b14, 0, none⟩) 2 2, .slice (some ⟨b15, 0, none⟩) 1 1] 43
  have x17 := Ext.alloc w16 (.cells #[.slice (some ⟨b0, 0, none⟩) 1 1, .slice (some ⟨b1, 0, none⟩) 2 2, .slice (some ⟨b2, 0, none⟩) 1 1, .slice (some ⟨b3, 0, none⟩) 1 1, .slice (some ⟨b4, 0, none⟩) 0 0, .slice (some ⟨b5, 0, none⟩) 1 1, .slice (some ⟨b6, 0, none⟩) 2 2, .slice (some ⟨b7, 0, none⟩) 1 1, .slice (some ⟨b8, 0, none⟩) 3 3, .slice (some ⟨b9, 0, none⟩) 2 2, .slice (some ⟨b10, 0, none⟩) 3 3, .slice (some ⟨b11, 0, none⟩) 3 3, .slice (some ⟨b12, 0, none⟩) 2 2, .slice (some ⟨b13, 0, none⟩) 1 1, .slice (some ⟨b14, 0, none⟩) 2 2, .slice (some ⟨b15, 0, none⟩) 1 1] 43)
  generalize w16.alloc (.cells #[.slice (some ⟨b0, 0, none⟩) 1 1, .slice (some ⟨b1, 0, none⟩) 2 2, .slice (some ⟨b2, 0, none⟩) 1 1, .slice (some ⟨b3, 0, none⟩) 1 1, .slice (some ⟨b4, 0, none⟩) 0 0, .slice (some ⟨b5, 0, none⟩) 1 1, .slice (some ⟨b6, 0, none⟩) 2 2, .slice (some ⟨b7, 0, none⟩) 1 1, .slice (some ⟨b8, 0, none⟩) 3 3, .slice (some ⟨b9, 0, none⟩) 2 2, .slice (some ⟨b10, 0, none⟩) 3 3, .slice (some ⟨b11, 0, none⟩) 3 3, .slice (some ⟨b12, 0, none⟩) 2 2, .slice (some ⟨b13, 0, none⟩) 1 1, .slice (some ⟨b14, 0, none⟩) 2 2, .slice (some ⟨b15, 0, none⟩) 1 1] 43) = w17 at hB x17 ⊢
  refine iCall ((ok_spec_l09Logics w17).mono ?_)
  rintro vL w18 ⟨x18, hL⟩
  refine iRet (ok_spec_l09Find (L := lgN) hL.sl (show i < lgN.length from hi) (lgN_inj i hi)) fun w19 x19 => ?_
  have X19 := (x17.trans x18).trans x19
  have hB := hB.ext (x18.trans x19)
  refine iIaL hi ?_
  have hc : i = 0 ∨ i = 1 ∨ i = 2 ∨ i = 3 ∨ i = 4 ∨ i = 5 ∨ i = 6 ∨ i = 7 ∨ i = 8 ∨ i = 9 ∨ i = 10 ∨ i = 11 ∨ i = 12 ∨ i = 13 ∨ i = 14 ∨ i = 15 := by omega
  clear hL hi
  rcases hc with rfl | rfl | rfl | rfl | rfl | rfl | rfl | rfl | rfl | rfl | rfl | rfl | rfl | rfl | rfl | rfl
  · exact iLdB hB rfl ⟨X16.trans X19, hs0.ext X19⟩
  · exact iLdB hB rfl ⟨X16.trans X19, hs1.ext X19⟩
  · exact iLdB hB rfl ⟨X16.trans X19, hs2.ext X19⟩
  · exact iLdB hB rfl ⟨X16.trans X19, hs3.ext X19⟩
  · exact iLdB hB rfl ⟨X16.trans X19, hs4.ext X19⟩
  · exact iLdB hB rfl ⟨X16.trans X19, hs5.ext X19⟩
  · exact iLdB hB rfl ⟨X16.trans X19, hs6.ext X19⟩
  · exact iLdB hB rfl ⟨X16.trans X19, hs7.ext X19⟩
  · exact iLdB hB rfl ⟨X16.trans X19, hs8.ext X19⟩
  · exact iLdB hB rfl ⟨X16.trans X19, hs9.ext X19⟩
  · exact iLdB hB rfl ⟨X16.trans X19, hs10.ext X19⟩
  · exact iLdB hB rfl ⟨X16.trans X19, hs11.ext X19⟩
  · exact iLdB hB rfl ⟨X16.trans X19, hs12.ext X19⟩
  · exact iLdB hB rfl ⟨X16.trans X19, hs13.ext X19⟩
  · exact iLdB hB rfl ⟨X16.trans X19, hs14.ext X19⟩
  · exact iLdB hB rfl ⟨X16.trans X19, hs15.ext X19⟩
theorem ok_spec_l09Holds {f : Fr} (hf : f.ok) {v : Value} {i : Nat} (hi : i < 13) {w : World} (hs : SlN w v f.a) : Ret Tryz.prog f_spec_l09Holds #[.agg #[.int .i64 (f.n : Int), v], sv (gt axNs i)] w (.bool (axB i f)) := by
  have hf8 := hf.1
  have hfl := hf.2.1
  apply c_spec_l09Holds; unfold S_spec_l09Holds
  refine iNew fun b w1 hb x1 hB => ?_
  have hB : Blk t_impl_Frame w1 b [.int .i64 (f.n : Int), v] := hB
  have one : ∀ t, t ≤ 10 → ∀ {K : Value → World → Prop}, (∀ w', Ext w1 w' → K (.bool (flagI t f)) w') → xLdA w1 2 (.pointer (some ⟨b, 0, none⟩)) fun u => callV Tryz.prog (.func (.func f_spec_l05Flag) #[] #[]) [u, .int .i64 (t : Int)] w1 K := fun t ht K hK =>
    iLdA hB rfl (iRet (ok_spec_l05FlagA hf (hs.ext x1) t ht) hK)
  have one' : ∀ w2, Ext w1 w2 → ∀ t, t ≤ 10 → ∀ {K : Value → World → Prop}, (∀ w', Ext w2 w' → K (.bool (flagI t f)) w') → xLdA w2 2 (.pointer (some ⟨b, 0, none⟩)) fun u => callV Tryz.prog (.func (.func f_spec_l05Flag) #[] #[]) [u, .int .i64 (t : Int)] w2 K := fun w2 x2 t ht K hK =>
    iLdA (hB.ext x2) rfl (iRet (ok_spec_l05FlagA hf (hs.ext (x1.trans x2)) t ht) hK)
  match i, hi with
  | 0, _ =>
    refine iEqT (b := gt axNs 0) (iCndT (by decide) ?_)
    exact one 2 (by omega) fun w2 x2 => ⟨rfl, x1.trans x2⟩
  | 1, _ =>
    refine iEqT (b := gt axNs 0) (iCndF (by decide) ?_)
    refine iEqT (b := gt axNs 1) (iCndT (by decide) ?_)
    exact one 4 (by omega) fun w2 x2 => ⟨rfl, x1.trans x2⟩
  | 2, _ =>
    refine iEqT (b := gt axNs 0) (iCndF (by decide) ?_)
    refine iEqT (b := gt axNs 1) (iCndF (by decide) ?_)
    refine iEqT (b := gt axNs 2) (iCndT (by decide) ?_)
    exact one 3 (by omega) fun w2 x2 => ⟨rfl, x1.trans x2⟩
  | 3, _ =>
    refine iEqT (b := gt axNs 0) (iCndF (by decide) ?_)
    refine iEqT (b := gt axNs 1) (iCndF (by decide) ?_)
    refine iEqT (b := gt axNs 2) (iCndF (by decide) ?_)
    refine iEqT (b := gt axNs 3) (iCndT (by decide) ?_)
    exact one 9 (by omega) fun w2 x2 => ⟨rfl, x1.trans x2⟩
  | 4, _ =>
    refine iEqT (b := gt axNs 0) (iCndF (by decide) ?_)
    refine iEqT (b := gt axNs 1) (iCndF (by decide) ?_)
    refine iEqT (b := gt axNs 2) (iCndF (by decide) ?_)
    refine iEqT (b := gt axNs 3) (iCndF (by decide) ?_)
    refine iEqT (b := gt axNs 4) (iCndT (by decide) ?_)
    exact one 1 (by omega) fun w2 x2 => ⟨rfl, x1.trans x2⟩
  | 5, _ =>
    refine iEqT (b := gt axNs 0) (iCndF (by decide) ?_)
    refine iEqT (b := gt axNs 1) (iCndF (by decide) ?_)
    refine iEqT (b := gt axNs 2) (iCndF (by decide) ?_)
    refine iEqT (b := gt axNs 3) (iCndF (by decide) ?_)
    refine iEqT (b := gt axNs 4) (iCndF (by decide) ?_)
    refine iEqT (b := gt axNs 5) (iCndT (by decide) ?_)
    exact one 10 (by omega) fun w2 x2 => ⟨rfl, x1.trans x2⟩
  | 6, _ =>
    refine iEqT (b := gt axNs 0) (iCndF (by decide) ?_)
    refine iEqT (b := gt axNs 1) (iCndF (by decide) ?_)
    refine iEqT (b := gt axNs 2) (iCndF (by decide) ?_)
    refine iEqT (b := gt axNs 3) (iCndF (by decide) ?_)
    refine iEqT (b := gt axNs 4) (iCndF (by decide) ?_)
    refine iEqT (b := gt axNs 5) (iCndF (by decide) ?_)
    refine iEqT (b := gt axNs 6) (iCndT (by decide) ?_)
    exact one 5 (by omega) fun w2 x2 => ⟨rfl, x1.trans x2⟩
  | 7, _ =>
    refine iEqT (b := gt axNs 0) (iCndF (by decide) ?_)
    refine iEqT (b := gt axNs 1) (iCndF (by decide) ?_)
    refine iEqT (b := gt axNs 2) (iCndF (by decide) ?_)
    refine iEqT (b := gt axNs 3) (iCndF (by decide) ?_)
    refine iEqT (b := gt axNs 4) (iCndF (by decide) ?_)
    refine iEqT (b := gt axNs 5) (iCndF (by decide) ?_)
    refine iEqT (b := gt axNs 6) (iCndF (by decide) ?_)
    refine iEqT (b := gt axNs 7) (iCndT (by decide) ?_)
    exact one 6 (by omega) fun w2 x2 => ⟨rfl, x1.trans x2⟩
  | 8, _ =>
    refine iEqT (b := gt axNs 0) (iCndF (by decide) ?_)
    refine iEqT (b := gt axNs 1) (iCndF (by decide) ?_)
    refine iEqT (b := gt axNs 2) (iCndF (by decide) ?_)
    refine iEqT (b := gt axNs 3) (iCndF (by decide) ?_)
    refine iEqT (b := gt axNs 4) (iCndF (by decide) ?_)
    refine iEqT (b := gt axNs 5) (iCndF (by decide) ?_)
    refine iEqT (b := gt axNs 6) (iCndF (by decide) ?_)
    refine iEqT (b := gt axNs 7) (iCndF (by decide) ?_)
    refine iEqT (b := gt axNs 8) (iCndT (by decide) ?_)
    refine iJnX (fun xs w' => xs = [.bool (axB 8 f)] ∧ Ext w1 w') (fun J hJ => ?_) ?_
    · refine one 2 (by omega) fun w2 x2 => ?_
      refine iCnd (fun h => ?_) (fun h => ?_)
      · refine one' w2 x2 7 (by omega) fun w3 x3 => ?_
        exact hJ _ _ ⟨by simp [axB, h], x2.trans x3⟩
      · exact hJ _ _ ⟨by simp [axB, h], x2⟩
    · rintro _ w2 ⟨rfl, x2⟩
      intro _
      exact ⟨rfl, x1.trans x2⟩
  | 9, _ =>
    refine iEqT (b := gt axNs 0) (iCndF (by decide) ?_)
    refine iEqT (b := gt axNs 1) (iCndF (by decide) ?_)
    refine iEqT (b := gt axNs 2) (iCndF (by decide) ?_)
    refine iEqT (b := gt axNs 3) (iCndF (by decide) ?_)
    refine iEqT (b := gt axNs 4) (iCndF (by decide) ?_)
    refine iEqT (b := gt axNs 5) (iCndF (by decide) ?_)
    refine iEqT (b := gt axNs 6) (iCndF (by decide) ?_)
    refine iEqT (b := gt axNs 7) (iCndF (by decide) ?_)
    refine iEqT (b := gt axNs 8) (iCndF (by decide) ?_)
    refine iEqT (b := gt axNs 9) (iCndT (by decide) ?_)
    exact one 0 (by omega) fun w2 x2 => ⟨rfl, x1.trans x2⟩
  | 10, _ =>
    refine iEqT (b := gt axNs 0) (iCndF (by decide) ?_)
    refine iEqT (b := gt axNs 1) (iCndF (by decide) ?_)
    refine iEqT (b := gt axNs 2) (iCndF (by decide) ?_)
    refine iEqT (b := gt axNs 3) (iCndF (by decide) ?_)
    refine iEqT (b := gt axNs 4) (iCndF (by decide) ?_)
    refine iEqT (b := gt axNs 5) (iCndF (by decide) ?_)
    refine iEqT (b := gt axNs 6) (iCndF (by decide) ?_)
    refine iEqT (b := gt axNs 7) (iCndF (by decide) ?_)
    refine iEqT (b := gt axNs 8) (iCndF (by decide) ?_)
    refine iEqT (b := gt axNs 9) (iCndF (by decide) ?_)
    refine iEqT (b := gt axNs 12) (iCndF (by decide) ?_)
    refine iLp (fun x : Nat => [.int .i64 (x : Int)]) (fun x w' => x ≤ f.n ∧ Ext w1 w' ∧ ∀ y, y < x → (fun x => decide (f.a.getD x 0 = 0)) y = true) (fun x => f.n - x) 0 rfl ⟨Nat.zero_le _, Ext.refl _, fun y hy => by omega⟩ ?_
    rintro x w2 Kn ⟨hx, x2, hdone⟩ hKn
    intro _
    simp only [gx]
    refine iFa (iLdB (hB.ext x2) (i := 0) rfl ?_)
    refine iLt (iCndP (fun h => ?_) (fun h => ?_))
    · have hx1 : x < f.n := by omega
      have hgx := fr_lt63 hf x
      have hx8 : 2 ^ x < 2 ^ 8 := Nat.pow_lt_pow_right (by omega) (by omega)
      refine iJnB (!(fun x => decide (f.a.getD x 0 = 0)) x) w2 (fun J hJ => ?_) (fun w3 x3 => ?_)
      · refine iEqT (a := gt axNs 10) (b := gt axNs 10) (iCndT (by decide) ?_)
        refine iFa (iLdB (hB.ext x2) (i := 1) rfl ?_)
        refine iIaNN (hs.ext (x1.trans x2)) (by omega) fun p hp => iLd hp ?_
        refine iNe (iCndP (fun h2 => ?_) (fun h2 => ?_))
        · intro w4 x4
          have := hJ w4 x4
          rwa [show (!(fun x => decide (f.a.getD x 0 = 0)) x) = true by show (!decide (f.a.getD x 0 = 0)) = true; rw [decide_eq_false (by omega)]; rfl] at this
        · have hJ' : ∀ w4, Ext w2 w4 → J [.bool false] w4 := fun w4 x4 => by
            have := hJ w4 x4
            rwa [show (!(fun x => decide (f.a.getD x 0 = 0)) x) = false by show (!decide (f.a.getD x 0 = 0)) = false; rw [decide_eq_true (by omega)]; rfl] at this
          refine iEqT (a := gt axNs 10) (b := gt axNs 11) (iCndF (by decide) ?_)
          exact hJ'
      · intro _
        simp only [gx]
        refine iCnd (fun hq => ?_) (fun hq => ?_)
        · refine ⟨?_, x1.trans (x2.trans x3)⟩
          have : axB 10 f = false := by
            show ((List.range f.n).all _) = false
            rw [List.all_eq_false]
            exact ⟨x, List.mem_range.2 hx1, by simpa using hq⟩
          rw [this]
        · refine iAdd (by omega) ?_
          refine hKn (x + 1) _ ⟨by omega, x2.trans x3, fun y hy => ?_⟩ (by omega)
          by_cases hyx : y < x
          · exact hdone y hyx
          · obtain rfl : y = x := by omega
            simpa using hq
    · refine ⟨?_, x1.trans x2⟩
      have : axB 10 f = true := by
        show ((List.range f.n).all _) = true
        rw [List.all_eq_true]
        exact fun y hy => hdone y (by have := List.mem_range.1 hy; omega)
      rw [this]
  | 11, _ =>
    refine iEqT (b := gt axNs 0) (iCndF (by decide) ?_)
    refine iEqT (b := gt axNs 1) (iCndF (by decide) ?_)
    refine iEqT (b := gt axNs 2) (iCndF (by decide) ?_)
    refine iEqT (b := gt axNs 3) (iCndF (by decide) ?_)
    refine iEqT (b := gt axNs 4) (iCndF (by decide) ?_)
    refine iEqT (b := gt axNs 5) (iCndF (by decide) ?_)
    refine iEqT (b := gt axNs 6) (iCndF (by decide) ?_)
    refine iEqT (b := gt axNs 7) (iCndF (by decide) ?_)
    refine iEqT (b := gt axNs 8) (iCndF (by decide) ?_)
    refine iEqT (b := gt axNs 9) (iCndF (by decide) ?_)
    refine iEqT (b := gt axNs 12) (iCndF (by decide) ?_)
    refine iLp (fun x : Nat => [.int .i64 (x : Int)]) (fun x w' => x ≤ f.n ∧ Ext w1 w' ∧ ∀ y, y < x → (fun x => decide (sdiff (f.a.getD x 0) (2 ^ x) = 0)) y = true) (fun x => f.n - x) 0 rfl ⟨Nat.zero_le _, Ext.refl _, fun y hy => by omega⟩ ?_
    rintro x w2 Kn ⟨hx, x2, hdone⟩ hKn
    intro _
    simp only [gx]
    refine iFa (iLdB (hB.ext x2) (i := 0) rfl ?_)
    refine iLt (iCndP (fun h => ?_) (fun h => ?_))
    · have hx1 : x < f.n := by omega
      have hgx := fr_lt63 hf x
      have hx8 : 2 ^ x < 2 ^ 8 := Nat.pow_lt_pow_right (by omega) (by omega)
      refine iJnB (!(fun x => decide (sdiff (f.a.getD x 0) (2 ^ x) = 0)) x) w2 (fun J hJ => ?_) (fun w3 x3 => ?_)
      · refine iEqT (a := gt axNs 11) (b := gt axNs 10) (iCndF (by decide) ?_)
        refine iEqT (a := gt axNs 11) (b := gt axNs 11) (iCndT (by decide) ?_)
        refine iFa (iLdB (hB.ext x2) (i := 1) rfl ?_)
        refine iIaNN (hs.ext (x1.trans x2)) (by omega) fun p hp => iLd hp ?_
        refine iRetQ (fun w' _ => ok_spec_l01One x (by omega) w') ?_
        refine iBAndNot (by omega) (by omega) ?_
        refine iNe ?_
        intro w4 x4
        have := hJ w4 x4
        rwa [show (!(fun x => decide (sdiff (f.a.getD x 0) (2 ^ x) = 0)) x) = decide (¬ ((sdiff (f.a.getD x 0) (2 ^ x) : Nat) : Int) = 0) by
          rw [← decide_not]; exact decide_eq_decide.2 ⟨fun h => by omega, fun h => by omega⟩] at this
      · intro _
        simp only [gx]
        refine iCnd (fun hq => ?_) (fun hq => ?_)
        · refine ⟨?_, x1.trans (x2.trans x3)⟩
          have : axB 11 f = false := by
            show ((List.range f.n).all _) = false
            rw [List.all_eq_false]
            exact ⟨x, List.mem_range.2 hx1, by simpa using hq⟩
          rw [this]
        · refine iAdd (by omega) ?_
          refine hKn (x + 1) _ ⟨by omega, x2.trans x3, fun y hy => ?_⟩ (by omega)
          by_cases hyx : y < x
          · exact hdone y hyx
          · obtain rfl : y = x := by omega
            simpa using hq
    · refine ⟨?_, x1.trans x2⟩
      have : axB 11 f = true := by
        show ((List.range f.n).all _) = true
        rw [List.all_eq_true]
        exact fun y hy => hdone y (by have := List.mem_range.1 hy; omega)
      rw [this]
  | 12, _ =>
    refine iEqT (b := gt axNs 0) (iCndF (by decide) ?_)
    refine iEqT (b := gt axNs 1) (iCndF (by decide) ?_)
    refine iEqT (b := gt axNs 2) (iCndF (by decide) ?_)
    refine iEqT (b := gt axNs 3) (iCndF (by decide) ?_)
    refine iEqT (b := gt axNs 4) (iCndF (by decide) ?_)
    refine iEqT (b := gt axNs 5) (iCndF (by decide) ?_)
    refine iEqT (b := gt axNs 6) (iCndF (by decide) ?_)
    refine iEqT (b := gt axNs 7) (iCndF (by decide) ?_)
    refine iEqT (b := gt axNs 8) (iCndF (by decide) ?_)
    refine iEqT (b := gt axNs 9) (iCndF (by decide) ?_)
    refine iEqT (b := gt axNs 12) (iCndT (by decide) ?_)
    refine iJnX (fun xs w' => xs = [.bool (axB 12 f)] ∧ Ext w1 w') (fun J hJ => ?_) ?_
    · refine one 0 (by omega) fun w2 x2 => ?_
      refine iCnd (fun h => ?_) (fun h => ?_)
      · refine one' w2 x2 2 (by omega) fun w3 x3 => ?_
        refine iCnd (fun h3 => ?_) (fun h3 => ?_)
        · refine one' w3 (x2.trans x3) 8 (by omega) fun w4 x4 => ?_
          exact hJ _ _ ⟨by simp [axB, h, h3], (x2.trans x3).trans x4⟩
        · exact hJ _ _ ⟨by simp [axB, h, h3], x2.trans x3⟩
      · exact hJ _ _ ⟨by simp [axB, h], x2⟩
    · rintro _ w2 ⟨rfl, x2⟩
      intro _
      exact ⟨rfl, x1.trans x2⟩
theorem ok_spec_l09Each {f : Fr} (hf : f.ok) {v va : Value} {i : Nat} (hi : i < 16) {w : World} (hs : SlN w v f.a) (ha : SlT w va ((gt lgA i).map fun a => gt axNs a)) : Ret Tryz.prog f_spec_l09Each #[.agg #[.int .i64 (f.n : Int), v], va] w (.bool (lgB i f)) := by
  have hlt := lgA_lt i hi
  unfold lgB
  generalize gt lgA i = A at *
  apply c_spec_l09Each; unfold S_spec_l09Each
  have hln := ha.len
  rw [strs_len, List.length_map] at hln
  refine iNew fun b w1 hb x1 hB => ?_
  have hB : Blk t_impl_Frame w1 b [.int .i64 (f.n : Int), v] := hB
  refine iLp (fun k : Nat => [.int .i64 (k : Int)]) (fun k w' => k ≤ A.length ∧ Ext w1 w' ∧ ∀ j (hj : j < A.length), j < k → axB A[j] f = true) (fun k => A.length - k) 0 rfl ⟨Nat.zero_le _, Ext.refl _, fun j _ hj => by omega⟩ ?_
  rintro k w2 Kn ⟨hk, x2, hdone⟩ hKn
  intro _
  simp only [gx]
  refine iLenStr (ha.ext (x1.trans x2)) ?_
  rw [List.length_map]
  refine iLt (iCndP (fun h => ?_) (fun h => ?_))
  · have hk1 : k < A.length := by omega
    refine iLdA (hB.ext x2) rfl ?_
    refine iIaG (ha.ext (x1.trans x2)) rfl (by rw [List.length_map]; exact hk1) ?_
    have e : gt (A.map fun a => gt axNs a) k = gt axNs A[k] := by rw [gt_eq (by rw [List.length_map]; exact hk1), List.getElem_map]
    rw [e]
    refine iRetQ (fun w' h' => ok_spec_l09Holds hf (hlt _ (List.getElem_mem hk1)) (hs.ext ((x1.trans x2).trans h'))) ?_
    refine iNot ?_
    intro w4 x4
    refine iCnd (fun hq => ?_) (fun hq => ?_)
    · refine ⟨?_, (x1.trans x2).trans x4⟩
      rw [(List.all_eq_false (l := A) (p := fun a => axB a f)).2 ⟨_, List.getElem_mem hk1, by simpa using hq⟩]
    · refine iAdd (by omega) ?_
      refine hKn (k + 1) _ ⟨by omega, x2.trans x4, fun j hj hjk => ?_⟩ (by omega)
      by_cases h3 : j < k
      · exact hdone j hj h3
      · obtain rfl : j = k := by omega
        simpa using hq
  · refine ⟨?_, x1.trans x2⟩
    rw [(List.all_eq_true (l := A) (p := fun a => axB a f)).2 fun a ha => by
      obtain ⟨j, hj, rfl⟩ := List.getElem_of_mem ha
      exact hdone j hj (by omega)]
theorem ok_spec_l09Of {f : Fr} (hf : f.ok) {v : Value} {i : Nat} (hi : i < 16) {w : World} (hs : SlN w v f.a) : Ret Tryz.prog f_spec_l09Of #[.agg #[.int .i64 (f.n : Int), v], sv (gt lgN i)] w (.bool (lgB i f)) := by
  apply c_spec_l09Of; unfold S_spec_l09Of
  refine iNew fun b w1 hb x1 hB => ?_
  have hB : Blk t_impl_Frame w1 b [.int .i64 (f.n : Int), v] := hB
  refine iLdA hB rfl ?_
  intro w2 x2
  refine iCall ((ok_spec_l09Axioms hi w2).mono ?_)
  rintro va w3 ⟨x3, ha⟩
  refine ⟨x3, ?_⟩
  refine iRetQ (fun w' h' => ok_spec_l09Each hf hi (hs.ext (((x1.trans x2).trans x3).trans h')) (ha.ext h')) ?_
  intro w4 x4
  exact ⟨rfl, ((x1.trans x2).trans x3).trans x4⟩
theorem ok_spec_LogicsOfFrame {f : Fr} (hf : f.ok) (hfo : frameOk (f.n : Int) (nats f.a) = true) {v : Value} {w : World} (hs : SlN w v f.a) : Cal Tryz.prog f_spec_LogicsOfFrame #[.agg #[.int .i64 (f.n : Int), v]] w fun r w' => Ext w w' ∧ ∃ u, r = .tuple #[u, .int .i64 0] ∧ SlT w' u (lgOf f) := by
  apply c_spec_LogicsOfFrame; unfold S_spec_LogicsOfFrame
  refine iNew fun b w1 hb x1 hB => ?_
  have hB : Blk t_impl_Frame w1 b [.int .i64 (f.n : Int), v] := hB
  refine iLdA hB rfl ?_
  refine iRet (ok_spec_l05Is (hs.ext x1) f.n) fun w2 x2 => iNot ?_
  rw [hfo]
  refine iCndF rfl ?_
  refine iLdA (hB.ext x2) rfl ?_
  have X2 := x1.trans x2
  refine iCall (Cal.mono (R := fun r w' => Ext w2 w' ∧ SlT w' r (lgOf f)) ?_ ?_)
  · apply c_spec_l09LogicsOf; unfold S_spec_l09LogicsOf
    refine iNew fun b3 w3 hb3 x3 hB3 => ?_
    have hB3 : Blk t_impl_Frame w3 b3 [.int .i64 (f.n : Int), v] := hB3
    refine iBs0 fun vo w4 hw4 x4 ho4 => ?_
    refine iCall ((ok_spec_l09Logics w4).mono ?_)
    rintro vL w5 ⟨x5, hL⟩
    have hl : lgN.length = 16 := rfl
    have X4 := x3.trans x4
    have hLb : ∀ c, vL.ownBlock = some c → w4.heap.size ≤ c ∧ c < w5.heap.size := hL.blk
    refine iLp (fun s : Value × Nat => [s.1, .int .i64 (s.2 : Int)]) (fun s w' => s.2 ≤ 16 ∧ Ext w3 w' ∧ w5.heap.size ≤ w'.heap.size ∧ Ow w4.heap.size t_string w' vL (strs lgN) ∧ (∀ c, s.1.ownBlock = some c → c < w4.heap.size ∨ w5.heap.size ≤ c) ∧ Ow w3.heap.size t_string w' s.1 (strs ((lgN.take s.2).filter fun t => lgB (lgN.idxOf t) f))) (fun s => 16 - s.2) (vo, 0) rfl ⟨Nat.zero_le _, x4.trans x5, Nat.le_refl _, hL, fun c hc => .inl (ho4.blk c hc).2, ho4.ext x5⟩ ?_
    rintro ⟨u, i⟩ w6 Kn ⟨hi, x6, z6, hL6, hne, ho⟩ hKn
    have hi : i ≤ 16 := hi
    have x6 : Ext w3 w6 := x6
    have hne : ∀ c, u.ownBlock = some c → c < w4.heap.size ∨ w5.heap.size ≤ c := hne
    have ho : Ow w3.heap.size t_string w6 u (strs ((lgN.take i).filter fun t => lgB (lgN.idxOf t) f)) := ho
    have hfl : ((lgN.take i).filter fun t => lgB (lgN.idxOf t) f).length ≤ i := Nat.le_trans (List.length_filter_le _ _) (by rw [List.length_take]; omega)
    have hs6 : SlT w6 vL lgN := hL6.sl
    intro _
    simp only [gx]
    refine iLenStr hs6 ?_
    rw [hl]
    refine iLt (iCndP (fun h => ?_) (fun h => ?_))
    · have hi1 : i < 16 := by omega
      refine iLdA (hB3.ext x6) rfl ?_
      refine iIaG hs6 rfl (by omega) ?_
      refine iRetQ (fun w' h' => ok_spec_l09Of hf hi1 (hs.ext (((X2.trans x3).trans x6).trans h'))) ?_
      intro w7 x7
      have hstep : (lgN.take (i + 1)).filter (fun t => lgB (lgN.idxOf t) f) = (lgN.take i).filter (fun t => lgB (lgN.idxOf t) f) ++ if lgB i f = true then [gt lgN i] else [] := by
        rw [List.take_succ_eq_append_getElem (show i < lgN.length by omega), List.filter_append, ← gt_eq (show i < lgN.length by omega), List.filter_cons, List.filter_nil, lgN_idx i hi1]
      have ho7 := ho.ext x7
      have hL7 := hL6.ext x7
      have hs7 : SlT w7 vL lgN := hL7.sl
      refine iCnd (fun hq => ?_) (fun hq => ?_)
      · refine iIaG hs7 rfl (by omega) ?_
        refine iBs1 rfl rfl fun b8 w8 hb8 x8 hB8 => ?_
        have hB8 : Blk t_string w8 b8 (strs [gt lgN i]) := hB8
        have ho8 := ho7.ext x8
        have z8 := (x7.trans x8).size
        refine iAppA u_Sstring i_Sstring rfl ho8 (Blk.sltM (n := 1) hB8 rfl (by omega)) (strs_cell _) (by rw [strs_len, strs_len]; simp; omega) (by rw [strs_len, strs_len]; simp; omega) ((x6.trans (x7.trans x8)).size) fun u' w9 ho9 hg hat => ?_
        have hch : Ch (fun c => u.ownBlock = some c) w8 w9 := grown_ch hg fun b hb => hb
        refine iAdd (by omega) ?_
        refine hKn (u', i + 1) _ ⟨hi1, (x6.trans (x7.trans x8)).grown hg fun c hc => (ho8.blk c hc).1, Nat.le_trans (Nat.le_trans z6 z8) hch.size, (hL7.ext x8).ch hch fun c hc hu => ?_, fun c hc => ?_, ?_⟩ (by show 16 - (i + 1) < 16 - i; omega)
        · have h1 := hLb c hc
          have h2 := hne c hu
          omega
        · have hc : u'.ownBlock = some c := hc
          rcases hat with h1 | ⟨c', h1, h2⟩
          · exact hne c (by rw [← h1]; exact hc)
          · rw [h1] at hc
            cases hc
            exact .inr (by omega)
        · show Ow _ _ _ u' (strs ((lgN.take (i + 1)).filter fun t => lgB (lgN.idxOf t) f))
          rw [hstep, if_pos hq, ← strs_app]
          exact ho9
      · refine iAdd (by omega) ?_
        refine hKn (u, i + 1) _ ⟨hi1, x6.trans x7, Nat.le_trans z6 x7.size, hL7, hne, ?_⟩ (by show 16 - (i + 1) < 16 - i; omega)
        show Ow _ _ _ u (strs ((lgN.take (i + 1)).filter fun t => lgB (lgN.idxOf t) f))
        rw [hstep, if_neg (by rw [hq]; simp), List.append_nil]
        exact ho7
    · have : i = 16 := by omega
      subst this
      exact ⟨x3.trans x6, ho.sl⟩
  · rintro r w3 ⟨x3, hr⟩
    exact ⟨X2.trans x3, r, rfl, hr⟩
theorem ok_laws_likeTexts5 {va vb : Value} {L : List Str} {w : World} (ha : SlT w va L) (hb : SlT w vb L) : Ret Tryz.prog f_laws_likeTexts5 #[va, vb] w (.bool true) := by
  apply c_laws_likeTexts5; unfold S_laws_likeTexts5
  have hln := ha.len
  rw [strs_len] at hln
  refine iLenStr ha (iLenStr hb ?_)
  refine iNe (iCndF (by simp) ?_)
  refine iLp (fun k : Nat => [.int .i64 (k : Int)]) (fun k w' => k ≤ L.length ∧ Ext w w') (fun k => L.length - k) 0 rfl ⟨Nat.zero_le _, Ext.refl _⟩ ?_
  rintro k w2 Kn ⟨hk, x2⟩ hKn
  intro _
  simp only [gx]
  refine iLenStr (ha.ext x2) ?_
  refine iLt (iCndP (fun h => ?_) (fun h => ?_))
  · refine iIaG (ha.ext x2) rfl (by omega) ?_
    refine iIaG (hb.ext x2) rfl (by omega) ?_
    refine iNeT ?_
    intro w3 x3
    refine iCndF (by simp) ?_
    refine iAdd (by omega) ?_
    exact hKn (k + 1) _ ⟨by omega, x2.trans x3⟩ (by omega)
  · exact ⟨by first | trivial | rfl, x2⟩
end Go.Proofs.YtaipnnkpplinoaaGreatDoor

namespace Go.Vc
section
variable {α : Type} {lt : α → α → Bool}
end
end Go.Vc

namespace Go.Proofs.YtaipnnkpplinoaaGreatDoor
open Go.Vc
end Go.Proofs.YtaipnnkpplinoaaGreatDoor

namespace Go.Proofs.YtaipnnkpplinoaaGreatDoor
open Go.Vc
end Go.Proofs.YtaipnnkpplinoaaGreatDoor

namespace Go.Vc
end Go.Vc
namespace Go.Proofs.YtaipnnkpplinoaaGreatDoor
open Go.Vc
end Go.Proofs.YtaipnnkpplinoaaGreatDoor

namespace Go.Vc
theorem flat2_get {α : Type} (f g : α → Value) : ∀ (l : List α) (i : Nat) (x : α), l[i]? = some x → (l.flatMap fun r => [f r, g r])[2 * i]? = some (f x) ∧ (l.flatMap fun r => [f r, g r])[2 * i + 1]? = some (g x)
  | [], i, x, h => by simp at h
  | a :: l, 0, x, h => by simp at h; subst h; simp
  | a :: l, i + 1, x, h => by
    have := flat2_get f g l i x (by simpa using h)
    rw [show 2 * (i + 1) = 2 * i + 2 by omega, show 2 * i + 2 + 1 = 2 * i + 1 + 2 by omega]
    simpa using this
theorem OwK.ne_ow {k lo lo' : Nat} {e e' : TypeId} {w : World} {v v' : Value} {n : Nat} {xs xs' : List Value} {c : Nat} (h : OwK k lo e w v n xs) (h' : Ow lo' e' w v' xs') (hne : e ≠ e') (hc : v.ownBlock = some c) : v'.ownBlock ≠ some c := by
  intro hc'
  obtain ⟨cur, h1⟩ := h.ty hc
  obtain ⟨cur', h2⟩ := h'.ty hc'
  rw [h1] at h2
  injection h2 with hb
  injection hb with _ hb _
  exact hne hb
end Go.Vc
namespace Go.Proofs.YtaipnnkpplinoaaGreatDoor
open Go.Vc
end Go.Proofs.YtaipnnkpplinoaaGreatDoor

namespace Go.Vc
end Go.Vc
namespace Go.Proofs.YtaipnnkpplinoaaGreatDoor
open Go.Vc
end Go.Proofs.YtaipnnkpplinoaaGreatDoor

namespace Go.Proofs.YtaipnnkpplinoaaGreatDoor
open Go.Vc
end Go.Proofs.YtaipnnkpplinoaaGreatDoor

namespace Go.Vc
end Go.Vc
namespace Go.Proofs.YtaipnnkpplinoaaGreatDoor
open Go.Vc
end Go.Proofs.YtaipnnkpplinoaaGreatDoor

namespace Go.Proofs.YtaipnnkpplinoaaGreatDoor
open Go.Vc
end Go.Proofs.YtaipnnkpplinoaaGreatDoor

namespace Go.Proofs.YtaipnnkpplinoaaGreatDoor
open Go.Vc
theorem ok_impl_mapMask {v : Value} {w : World} {im : List Nat} (hs : SlN w v im) (hl : im.length ≤ 60) (hy : ∀ y ∈ im, y < 60) (m : Nat) (hm : m < 2 ^ im.length) : Ret Tryz.prog f_impl_mapMask #[v, .int .i64 (m : Int)] w (.int .i64 ((img im m : Nat) : Int)) := by
  have hm63 : m < 2 ^ 63 := Nat.lt_of_lt_of_le hm (Nat.pow_le_pow_right (by omega) (by omega))
  have hml : (mem m).length ≤ 63 := memK_length_le m 63
  have hmb : ∀ x, x ∈ mem m → x < im.length := fun x hx => bit_lt_n hm ((mem_mem hm63).1 hx)
  apply c_impl_mapMask; unfold S_impl_mapMask
  refine iCall ((ok_impl_membersOf m hm63 w).mono ?_)
  rintro u w1 ⟨x1, ho⟩
  have hu : SlN w1 u (mem m) := ho.sl
  have e : ∀ k, setOf (((mem m).take k).map fun i => im.getD i 0) < 2 ^ 60 := fun k => setOf_lt fun y hy' => by
    obtain ⟨i, hi, rfl⟩ := List.mem_map.1 hy'
    exact getD_lt hy (hmb i (List.mem_of_mem_take hi))
  refine iLenN hu ?_
  refine iLp (fun k : Nat => [.int .i64 ((setOf (((mem m).take k).map fun i => im.getD i 0) : Nat) : Int), .int .i64 (k : Int)]) (fun k w' => k ≤ (mem m).length ∧ Ext w1 w') (fun k => (mem m).length - k) 0 rfl ⟨Nat.zero_le _, Ext.refl _⟩ ?_
  rintro k w2 Kn ⟨hk, x2⟩ hKn
  have hu2 := hu.ext x2
  have hs2 := hs.ext (x1.trans x2)
  intro _
  simp only [gx]
  refine iLt (iCndP (fun h => ?_) (fun h => ?_))
  · have hk1 : k < (mem m).length := by omega
    refine iIaNN hu2 hk1 fun p hp => iLd hp ?_
    have hg : (mem m).getD k 0 = (mem m)[k] := by simp [hk1]
    have hx : (mem m).getD k 0 < im.length := by rw [hg]; exact hmb _ (List.getElem_mem hk1)
    refine iIaNN hs2 hx fun p hp => iLd hp ?_
    have hyy := getD_lt hy hx
    refine iShlOne (by omega) ?_
    have h1 := e k
    have h2 : 2 ^ im.getD ((mem m).getD k 0) 0 < 2 ^ 60 := Nat.pow_lt_pow_right (by omega) hyy
    refine iBOr (by omega) (by omega) ?_
    refine iAdd (by omega) ?_
    rw [show setOf (((mem m).take k).map fun i => im.getD i 0) ||| 2 ^ im.getD ((mem m).getD k 0) 0 = setOf (((mem m).take (k + 1)).map fun i => im.getD i 0) by
      rw [List.take_succ_eq_append_getElem hk1, List.map_append, List.map_singleton, setOf_snoc, hg]]
    exact hKn (k + 1) _ ⟨by omega, x2⟩ (by omega)
  · rw [List.take_of_length_le (by omega)]
    refine ⟨?_, x1.trans x2⟩
    have : img im m = setOf ((mem m).map fun i => im.getD i 0) := by
      unfold img imgK
      have : memK m im.length = mem m := by
        obtain ⟨d, hd⟩ : ∃ d, 63 = im.length + d := ⟨63 - im.length, by omega⟩
        unfold mem
        rw [hd]
        exact (memK_high (fun j hj => Nat.testBit_lt_two_pow (Nat.lt_of_lt_of_le hm (Nat.pow_le_pow_right (by omega) hj))) d).symm
      rw [this]
    rw [this]
/-! ### Spread -/
/-! ### Roots, where there may be none -/
end Go.Proofs.YtaipnnkpplinoaaGreatDoor

namespace Go.Proofs.YtaipnnkpplinoaaGreatDoor
open Go.Vc
def growL : Nat → Nat → List Nat → List (List Nat)
  | 0, _, c => [c]
  | k + 1, t, c => (List.range (t + 1)).flatMap fun u => growL k (if u = t then t + 1 else t) (c ++ [u])
theorem mem_growL : ∀ (k t : Nat) (c x : List Nat), x ∈ growL k t c ↔ ∃ s, x = c ++ s ∧ s.length = k ∧ grB t s = true := by
  intro k
  induction k with
  | zero =>
    intro t c x
    show x ∈ [c] ↔ _
    rw [List.mem_singleton]
    constructor
    · rintro rfl; exact ⟨[], (List.append_nil _).symm, rfl, rfl⟩
    · rintro ⟨s, rfl, hs, _⟩
      rw [List.length_eq_zero_iff.1 hs, List.append_nil]
  | succ k ih =>
    intro t c x
    show x ∈ (List.range (t + 1)).flatMap _ ↔ _
    rw [List.mem_flatMap]
    constructor
    · rintro ⟨u, hu, hx⟩
      obtain ⟨s, rfl, hs, hg⟩ := (ih _ _ _).1 hx
      have := List.mem_range.1 hu
      refine ⟨u :: s, by simp, by rw [List.length_cons, hs], ?_⟩
      simp only [grB, Bool.and_eq_true, decide_eq_true_eq]
      exact ⟨by omega, hg⟩
    · rintro ⟨s, rfl, hs, hg⟩
      cases s with
      | nil => cases hs
      | cons u s =>
        simp only [grB, Bool.and_eq_true, decide_eq_true_eq] at hg
        exact ⟨u, List.mem_range.2 (by omega), (ih _ _ _).2 ⟨s, by simp, by rw [List.length_cons] at hs; omega, hg.2⟩⟩
theorem flatMap_len {α β : Type} (f : α → List β) (B : Nat) : ∀ l : List α, (∀ u ∈ l, (f u).length ≤ B) → (l.flatMap f).length ≤ l.length * B := by
  intro l
  induction l with
  | nil => intro _; simp
  | cons a l ih =>
    intro h
    rw [List.flatMap_cons, List.length_append, List.length_cons, Nat.add_mul]
    have h1 := h a List.mem_cons_self
    have h2 := ih fun u hu => h u (List.mem_cons_of_mem _ hu)
    omega
theorem growL_len : ∀ (k t : Nat) (c : List Nat), t + k ≤ 6 → (growL k t c).length ≤ 6 ^ k := by
  intro k
  induction k with
  | zero => intro t c _; exact Nat.le_refl _
  | succ k ih =>
    intro t c h
    have h1 := flatMap_len (fun u => growL k (if u = t then t + 1 else t) (c ++ [u])) (6 ^ k) (List.range (t + 1)) fun u hu => by
      refine ih _ _ ?_
      split <;> omega
    rw [List.length_range] at h1
    have h2 : (t + 1) * 6 ^ k ≤ 6 * 6 ^ k := Nat.mul_le_mul_right _ (by omega)
    rw [Nat.pow_succ, Nat.mul_comm (6 ^ k) 6]
    exact Nat.le_trans h1 h2
def clsL (n : Nat) : List (List Nat) := growL n 0 []
theorem mem_clsL {n : Nat} {x : List Nat} : x ∈ clsL n ↔ x.length = n ∧ grB 0 x = true := by
  unfold clsL
  rw [mem_growL]
  constructor
  · rintro ⟨s, rfl, h⟩; exact h
  · exact fun h => ⟨x, rfl, h⟩
def congL (f : Fr) : List (List Nat) := (clsL f.n).filter (corB f)
theorem mem_congL {f : Fr} {c : List Nat} : c ∈ congL f ↔ c.length = f.n ∧ grB 0 c = true ∧ corB f c = true := by
  unfold congL
  rw [List.mem_filter, mem_clsL, and_assoc]
theorem congL_len {f : Fr} (h : f.n ≤ 6) : (congL f).length ≤ 6 ^ f.n := Nat.le_trans (List.length_filter_le _ _) (growL_len _ _ _ (by omega))
theorem flatMap_range_succ {β : Type} (g : Nat → List β) (u : Nat) : (List.range (u + 1)).flatMap g = (List.range u).flatMap g ++ g u := by
  rw [List.range_succ, List.flatMap_append]; simp
end Go.Proofs.YtaipnnkpplinoaaGreatDoor

namespace Go.Proofs.YtaipnnkpplinoaaGreatDoor
open Go.Vc
theorem toNat_nats (c : List Nat) : (nats c).map Int.toNat = c := by
  unfold nats
  rw [List.map_map]
  exact (List.map_congr_left fun x _ => (rfl : (Int.toNat ∘ Int.ofNat) x = id x)).trans (List.map_id c)
def congB (f : Fr) (l : List Int) : Bool := decide (l.length = f.n) && (clsI 0 l && corB f (l.map Int.toNat))
theorem congB_nats (f : Fr) (c : List Nat) : congB f (nats c) = (decide (c.length = f.n) && (grB 0 c && corB f c)) := by
  unfold congB
  rw [nats_length, toNat_nats]
  have := clsI_of c 0
  rw [show ((0 : Nat) : Int) = 0 from rfl] at this
  rw [this]
theorem ok_slices_MaxG {v : Value} {w : World} {c : List Nat} (hs : SlN w v c) (hg : grB 0 c = true) (hn : 0 < c.length) : Ret Tryz.prog f_slices_Max_Si64_i64 #[v] w (.int .i64 ((topG 0 c - 1 : Nat) : Int)) := by
  have hcap := hs.len
  have hone : topG 0 (c.take 1) = 1 := by
    rw [topG_take hn]
    have h1 := grB_at hg hn
    have h2 : topG 0 (c.take 0) = 0 := rfl
    rw [h2] at h1 ⊢
    rw [if_pos (by omega)]
  apply c_slices_Max_Si64_i64; unfold S_slices_Max_Si64_i64
  refine iLenN hs ?_
  refine iLt ?_
  refine iJnE True w (fun J hJ => iCndF (decide_eq_false (by omega)) (hJ _ (Ext.refl _) trivial)) fun w0 x0 _ => ?_
  intro _
  refine iIaNN (hs.ext x0) hn fun p hp => iLd hp ?_
  have h0 : c.getD 0 0 = topG 0 (c.take 1) - 1 := by
    have h1 := grB_at hg hn
    have h2 : topG 0 (c.take 0) = 0 := rfl
    rw [h2] at h1
    omega
  rw [h0]
  refine iLp (fun k : Nat => [.int .i64 ((topG 0 (c.take k) - 1 : Nat) : Int), .int .i64 (k : Int)]) (fun k w' => 1 ≤ k ∧ k ≤ c.length ∧ Ext w w') (fun k => c.length - k) 1 (by rw [hone]; rfl) ⟨Nat.le_refl _, hn, x0⟩ ?_
  rintro k w2 Kn ⟨hk1, hk, x2⟩ hKn
  have hs2 := hs.ext x2
  intro _
  simp only [gx]
  refine iLenN hs2 ?_
  refine iLt (iCndP (fun h => ?_) (fun h => ?_))
  · have hkl : k < c.length := by omega
    refine iIaNN hs2 hkl fun p hp => iLd hp ?_
    have h1 := grB_at hg hkl
    have hp1 := (topG_le ((c.take k).drop 1) 1).1
    have hpos : 1 ≤ topG 0 (c.take k) := by
      have e : topG 0 (c.take k) = topG (topG 0 ((c.take k).take 1)) ((c.take k).drop 1) := by rw [← topG_app, List.take_append_drop]
      rw [List.take_take, Nat.min_eq_left hk1, hone] at e
      omega
    refine iMaxN (iAdd (by omega) ?_)
    rw [show max (topG 0 (c.take k) - 1) (c.getD k 0) = topG 0 (c.take (k + 1)) - 1 by
      rw [topG_take hkl]
      split <;> omega]
    exact hKn (k + 1) _ ⟨by omega, by omega, x2⟩ (by omega)
  · rw [List.take_of_length_le (by omega)]
    exact ⟨rfl, x2⟩
theorem ok_impl_classCount {v : Value} {w : World} {c : List Nat} (hs : SlN w v c) (hg : grB 0 c = true) : Ret Tryz.prog f_impl_classCount #[v] w (.int .i64 ((topG 0 c : Nat) : Int)) := by
  have hcap := hs.len
  have ht := topG_le c 0
  apply c_impl_classCount; unfold S_impl_classCount
  refine iLenN hs ?_
  refine iEq (iCndP (fun h => ?_) (fun h => ?_))
  · have : c = [] := List.length_eq_zero_iff.1 (by omega)
    subst this
    exact ⟨rfl, Ext.refl _⟩
  · have hn : 0 < c.length := by omega
    have hpos : 1 ≤ topG 0 c := by
      have := grB_lt c 0 hg _ (List.getElem_mem hn)
      omega
    refine iRet (ok_slices_MaxG hs hg hn) fun w1 x1 => ?_
    refine iAdd (by omega) ?_
    rw [show ((topG 0 c - 1 : Nat) : Int) + 1 = (topG 0 c : Int) by omega]
    exact ⟨rfl, x1⟩
theorem ok_impl_quotientRelation {f : Fr} (hf : f.ok) {v vc : Value} {w : World} (hs : SlN w v f.a) {c : List Nat} (hc : SlN w vc c) (hg : grB 0 c = true) (hl : c.length = f.n) : Cal Tryz.prog f_impl_quotientRelation #[v, vc] w fun r w' => Ext w w' ∧ Ow w.heap.size t_i64 w' r (ints (nats (qR f c f.n))) := by
  have h8 := hf.1
  have ht := topG_le c 0
  apply c_impl_quotientRelation; unfold S_impl_quotientRelation
  refine iRet (ok_impl_classCount hc hg) fun w1 x1 => ?_
  refine iMk (by omega) (by omega) rfl fun b w2 hb x2 hB => ?_
  have X2 := x1.trans x2
  have hs1 := x1.size
  have ho : Ow w.heap.size t_i64 w2 (.slice (some ⟨b, 0, none⟩) (topG 0 c) (topG 0 c)) (ints (nats (qR f c 0))) := by
    have : ints (nats (qR f c 0)) = List.replicate (topG 0 c) (.int .i64 0) := by simp [qR, ints, nats]
    rw [this]
    exact Ow.ofBlk hB (by omega) (List.length_replicate) (by omega)
  generalize hvv : (Value.slice (some ⟨b, 0, none⟩) (topG 0 c) (topG 0 c)) = vo at *
  refine iLenN (hs.ext X2) ?_
  refine iLp (fun k : Nat => [.int .i64 (k : Int)]) (fun k w' => k ≤ f.n ∧ Ext w w' ∧ Ow w.heap.size t_i64 w' vo (ints (nats (qR f c k)))) (fun k => f.n - k) 0 rfl ⟨Nat.zero_le _, X2, ho⟩ ?_
  rintro k w3 Kn ⟨hk, x3, ho⟩ hKn
  intro _
  simp only [gx]
  rw [hf.2.1]
  refine iLt (iCndP (fun h => ?_) (fun h => ?_))
  · have hkn : k < f.n := by omega
    have hs3 := hs.ext x3
    have hc3 := hc.ext x3
    have hyk : c.getD k 0 < topG 0 c := grB_lt c 0 hg _ (getD_mem (by omega))
    have hql := qR_len f c k
    have hqk : (ints (nats (qR f c k))).length = topG 0 c := by rw [ints_length, nats_length, hql]
    refine iIaNN hs3 (by rw [hf.2.1]; exact hkn) fun p hp => iLd hp ?_
    refine iIaNN hc3 (by omega) fun p hp => iLd hp ?_
    refine iIaNN (l := qR f c k) ho.sl (by omega) fun p hp => iLd hp ?_
    refine iRetQ (fun w4 x4 => ok_impl_mapMask (hc3.ext x4) (by omega) (fun y hy => by have := grB_lt c 0 hg y hy; omega) (f.a.getD k 0) (by rw [hl]; exact hf.lt hkn)) ?_
    have hq1 : (qR f c k).getD (c.getD k 0) 0 < 2 ^ topG 0 c := qR_lt hf hg k (by omega) _ (getD_mem (by omega))
    have hq2 : img c (f.a.getD k 0) < 2 ^ topG 0 c := img_ltQ (grB_lt c 0 hg) (fr63 hf _)
    have hp63 : 2 ^ topG 0 c ≤ 2 ^ 8 := Nat.pow_le_pow_right (by omega) (by omega)
    refine iBOr (by omega) (by omega) ?_
    refine iIaOwE ho (j := c.getD k 0) (by omega) fun bu hbu hwr => ?_
    intro w5 x5
    obtain ⟨h1, h2, h3⟩ := hwr w5 _ rfl (ho.ext x5)
    rw [List.getElem?_eq_getElem (by omega)] at h1
    refine iSt h1 h2 rfl ?_
    have ho5 := h3 (.int .i64 (((qR f c k).getD (c.getD k 0) 0 ||| img c (f.a.getD k 0) : Nat) : Int))
    rw [← ints_nats_set] at ho5
    have hu := Upd.setCell w5 bu (c.getD k 0) (.int .i64 (((qR f c k).getD (c.getD k 0) 0 ||| img c (f.a.getD k 0) : Nat) : Int))
    have X5 := (x3.trans x5).upd hu (ho.blk bu hbu).1
    intro w6 x6
    refine iAdd (by omega) ?_
    exact hKn (k + 1) _ ⟨hkn, X5.trans x6, ho5.ext x6⟩ (by omega)
  · obtain rfl : k = f.n := by omega
    exact ⟨x3, ho⟩
theorem ok_impl_areClasses {v : Value} {w : World} {l : List Int} (hs : SlI w v l) : Ret Tryz.prog f_impl_areClasses #[v] w (.bool (clsI 0 l)) := by
  have hcap := hs.len
  apply c_impl_areClasses; unfold S_impl_areClasses
  refine iLenI hs ?_
  refine iLp (fun s : Nat × Nat => [.int .i64 (s.1 : Int), .int .i64 (s.2 : Int)]) (fun s w' => s.2 ≤ l.length ∧ s.1 ≤ s.2 ∧ Ext w w' ∧ clsI 0 l = clsI (s.1 : Int) (l.drop s.2)) (fun s => l.length - s.2) (0, 0) rfl ⟨Nat.zero_le _, Nat.le_refl _, Ext.refl _, rfl⟩ ?_
  rintro ⟨t, k⟩ w2 Kn ⟨hk, ht, x2, he⟩ hKn
  have hk : k ≤ l.length := hk
  have ht : t ≤ k := ht
  have he : clsI 0 l = clsI (t : Int) (l.drop k) := he
  have x2 : Ext w w2 := x2
  intro _
  simp only [gx]
  refine iLt (iCndP (fun h => ?_) (fun h => ?_))
  · have hkl : k < l.length := by omega
    rw [List.drop_eq_getElem_cons hkl] at he
    have he : clsI 0 l = (decide (0 ≤ l[k] ∧ l[k] ≤ (t : Int)) && clsI (if l[k] = (t : Int) then (t : Int) + 1 else (t : Int)) (l.drop (k + 1))) := he
    refine iIaN (hs.ext x2) hkl fun p hp => iLd hp ?_
    rw [show l.getD k 0 = l[k] by simp [hkl]]
    refine iRet (ok_impl_inRange _ _ _ w2) fun w3 x3 => iNot ?_
    by_cases h1 : 0 ≤ l[k] ∧ l[k] ≤ (t : Int)
    · rw [decide_eq_true h1, Bool.true_and] at he
      rw [decide_eq_true h1]
      refine iCndF rfl ?_
      refine iEq (iCndP (fun h2 => ?_) (fun h2 => ?_))
      · rw [if_pos h2] at he
        refine iAdd (by omega) (iAdd (by omega) ?_)
        exact hKn (t + 1, k + 1) _ ⟨by show k + 1 ≤ l.length; omega, by show t + 1 ≤ k + 1; omega, x2.trans x3, he⟩ (by show l.length - (k + 1) < l.length - k; omega)
      · rw [if_neg h2] at he
        refine iAdd (by omega) ?_
        exact hKn (t, k + 1) _ ⟨by show k + 1 ≤ l.length; omega, by show t ≤ k + 1; omega, x2.trans x3, he⟩ (by show l.length - (k + 1) < l.length - k; omega)
    · rw [decide_eq_false h1, Bool.false_and] at he
      rw [decide_eq_false h1, he]
      exact iCndT rfl ⟨rfl, x2.trans x3⟩
  · rw [List.drop_of_length_le (by omega)] at he
    rw [he]
    exact ⟨rfl, x2⟩
theorem ok_impl_isMorphism_cls {f : Fr} (hf : f.ok) {v0 v1 v : Value} {w : World} (h0 : SlN w v0 f.a) {c : List Nat} (h1 : SlN w v1 (qR f c f.n)) (n1 : Int) (hs : SlN w v c) (hl : c.length = f.n) (hg : grB 0 c = true) :
    Ret Tryz.prog f_impl_isMorphism #[.agg #[.int .i64 (f.n : Int), v0], .agg #[.int .i64 n1, v1], v] w (.bool (corB f c)) := by
  have hf8 := hf.1
  have ht := topG_le c 0
  apply c_impl_isMorphism; unfold S_impl_isMorphism
  refine iNew fun b3 w1 hb3 x1 hB3 => ?_
  refine iNew fun b4 w2 hb4 x2 hB4 => ?_
  refine iNew fun b5 w3 hb5 x3 hB5 => ?_
  have hB3 : Blk _ w3 b3 [.int .i64 (f.n : Int), v0] := (hB3.ext x2).ext x3
  have hB4 : Blk _ w3 b4 [.int .i64 n1, v1] := hB4.ext x3
  have hcv : Value.cells v = #[v] := by obtain ⟨a, c, rfl, _⟩ := hs; rfl
  have hB5 : Blk 24 w3 b5 [v] := by rw [hcv] at hB5; exact hB5
  have hX := (x1.trans x2).trans x3
  refine iLdA hB3 rfl ?_
  refine iRet (v := .bool (corB f c)) ?_ fun w4 x4 => ⟨rfl, hX.trans x4⟩
  have key := ok_impl_Frame_everyWorld (n := f.n) (fv := .func (.func f_impl_isMorphism_1) #[] #[.pointer (some ⟨b5, 0, none⟩), .pointer (some ⟨b3, 0, none⟩), .pointer (some ⟨b4, 0, none⟩)]) (u := v0) (fun x => decide (img c (f.a.getD x 0) = (qR f c f.n).getD (c.getD x 0) 0)) (by omega) w3 ?_
  · have : (List.range f.n).all (fun x => decide (img c (f.a.getD x 0) = (qR f c f.n).getD (c.getD x 0) 0)) = corB f c := by
      rw [Bool.eq_iff_iff, cor_iff hf hg, List.all_eq_true, hl]
      exact ⟨fun h x hx => of_decide_eq_true (h x (List.mem_range.2 hx)), fun h x hx => decide_eq_true (h x (List.mem_range.1 hx))⟩
    rw [this] at key; exact key
  intro w' x' x hx
  refine iClo rfl ?_
  refine c_impl_isMorphism_1 ?_; unfold S_impl_isMorphism_1
  have hw := hX.trans x'
  have hxl : f.a.getD x 0 < 2 ^ c.length := by rw [hl]; exact hf.lt hx
  have hyx : c.getD x 0 < topG 0 c := grB_lt c 0 hg _ (getD_mem (by omega))
  refine iLdB (hB5.ext x') (v := v) rfl ?_
  refine iFa (iLdB (hB3.ext x') (i := 1) (v := v0) rfl ?_)
  refine iIaNN (h0.ext hw) (by rw [hf.2.1]; exact hx) fun p hp => iLd hp ?_
  refine iRetQ (fun w'' x'' => ok_impl_mapMask ((hs.ext hw).ext x'') (by omega) (fun y h => by have := grB_lt c 0 hg y h; omega) _ hxl) ?_
  refine iFa (iLdB (hB4.ext x') (i := 1) (v := v1) rfl ?_)
  refine iLdB (hB5.ext x') (v := v) rfl ?_
  refine iIaNN (hs.ext hw) (by omega) fun p hp => iLd hp ?_
  refine iIaNN (h1.ext hw) (by rw [qR_len]; exact hyx) fun p hp => iLd hp ?_
  refine iEq ?_
  refine fun w1 x1 => ⟨?_, x1⟩
  congr 1
  exact decide_eq_decide.2 (by omega)
theorem ok_impl_isCongruence {f : Fr} (hf : f.ok) {v0 v : Value} {w : World} (h0 : SlN w v0 f.a) {l : List Int} (hs : SlI w v l) : Ret Tryz.prog f_impl_isCongruence #[.agg #[.int .i64 (f.n : Int), v0], v] w (.bool (congB f l)) := by
  have hf8 := hf.1
  have hcap := hs.len
  apply c_impl_isCongruence; unfold S_impl_isCongruence
  refine iNew fun b w1 hb x1 hB => ?_
  have hB : Blk _ w1 b [.int .i64 (f.n : Int), v0] := hB
  have hs1 := hs.ext x1
  refine iJnB (!(decide (l.length = f.n) && clsI 0 l)) w1 (fun J hJ => ?_) (fun w3 x3 => ?_)
  · refine iRetQ (fun w' h' => ok_impl_size_i64 (Sl.ext hs1 h')) ?_
    rw [ints_length]
    refine iFa (iLdB hB (i := 0) (v := .int .i64 (f.n : Int)) rfl ?_)
    refine iNe (iCndP (fun h => ?_) (fun h => ?_))
    · have e : (!(decide (l.length = f.n) && clsI 0 l)) = true := by rw [decide_eq_false (by omega)]; rfl
      rw [e] at hJ
      exact fun w4 x4 => hJ _ x4
    · refine iRetQ (fun w' h' => ok_impl_areClasses (hs1.ext h')) ?_
      refine iNot ?_
      rw [decide_eq_true (show l.length = f.n by omega), Bool.true_and] at hJ
      exact fun w4 x4 => hJ _ x4
  · intro _
    simp only [gx]
    cases hg : decide (l.length = f.n) && clsI 0 l
    · refine iCndT rfl ⟨?_, x1.trans x3⟩
      unfold congB
      rw [← Bool.and_assoc, hg, Bool.false_and]
    · rw [Bool.and_eq_true, decide_eq_true_eq] at hg
      obtain ⟨c, rfl, hgr⟩ := clsI_nats l 0 hg.2
      have hl := hg.1
      rw [nats_length] at hl
      rw [congB_nats, decide_eq_true hl, hgr, Bool.true_and, Bool.true_and]
      refine iCndF rfl (iLdA (hB.ext x3) rfl ?_)
      refine iFa (iLdB (hB.ext x3) (i := 1) (v := v0) rfl ?_)
      intro w6 x6
      have X6 := (x1.trans x3).trans x6
      refine iCall ((ok_impl_quotientRelation hf (h0.ext X6) (hs.ext X6) hgr hl).mono ?_)
      rintro r w7 ⟨x7, ho⟩
      refine ⟨x7, fun w8 x8 => ?_⟩
      refine iCall ((ok_impl_frameOf (ho.ext x8)).mono ?_)
      rintro _ w9 ⟨x9, v', rfl, ho'⟩
      have X9 := ((X6.trans x7).trans x8).trans x9
      refine ⟨x9, iRetQ (fun w' h' => ok_impl_isMorphism_cls hf (h0.ext (X9.trans h')) (SlI.ext ho'.sl h') _ (hs.ext (X9.trans h')) hl hgr) ?_⟩
      exact fun w10 x10 => ⟨rfl, X9.trans x10⟩
end Go.Proofs.YtaipnnkpplinoaaGreatDoor

namespace Go.Vc
theorem lessB_upto : ∀ (a b : List Int) (k : Nat), (∀ i, i < k → a[i]? = b[i]?) → k ≤ a.length → k ≤ b.length → lessB a b = lessB (a.drop k) (b.drop k)
  | _, _, 0, _, _, _ => rfl
  | [], _, _ + 1, _, h, _ => by simp at h
  | _ :: _, [], _ + 1, _, _, h => by simp at h
  | x :: a, y :: b, k + 1, h, h1, h2 => by
    have e : x = y := by have := h 0 (by omega); simpa using this
    subst e
    simp only [lessB, if_true, List.drop_succ_cons]
    exact lessB_upto a b k (fun i hi => by have := h (i + 1) (by omega); simpa using this) (by simpa using h1) (by simpa using h2)
end Go.Vc
namespace Go.Proofs.YtaipnnkpplinoaaGreatDoor
open Go.Vc
theorem ok_spec_l01Less {va vb : Value} {w : World} {a b : List Int} (ha : SlI w va a) (hb : SlI w vb b) : Ret Tryz.prog f_spec_l01Less #[va, vb] w (.bool (lessB a b)) := by
  apply c_spec_l01Less; unfold S_spec_l01Less
  have hal := ha.len
  have hbl := hb.len
  refine iLp (fun k : Nat => [.int .i64 (k : Int)]) (fun k w' => k ≤ a.length ∧ k ≤ b.length ∧ Ext w w' ∧ ∀ i, i < k → a[i]? = b[i]?) (fun k => a.length - k) 0 rfl ⟨Nat.zero_le _, Nat.zero_le _, Ext.refl _, fun i hi => by omega⟩ ?_
  rintro k w2 Kn ⟨hka, hkb, h2, heq⟩ hKn
  have ha2 := ha.ext h2
  have hb2 := hb.ext h2
  have hup := lessB_upto a b k heq hka hkb
  (intro _; (try simp only [gx]))
  refine iJnB (decide (k < a.length) && decide (k < b.length)) w2 (fun J hJ => ?_) (fun w4 h4 => ?_)
  · ((with_reducible refine iLenI (by assumption) ?_; refine iLt ?_))
    refine iCndP (fun h5 => ?_) (fun h5 => ?_)
    · ((with_reducible refine iLenI (by assumption) ?_; refine iLt ?_))
      have := hJ w2 (Ext.refl _)
      rw [decide_eq_true (show k < a.length by omega), Bool.true_and] at this
      have e : decide ((k : Int) < (b.length : Nat)) = decide (k < b.length) := decide_eq_decide.2 (by omega)
      rw [e]; exact this
    · have := hJ w2 (Ext.refl _)
      rw [decide_eq_false (show ¬ k < a.length by omega), Bool.false_and] at this
      exact this
  · have ha4 := ha2.ext h4
    have hb4 := hb2.ext h4
    (intro _; (try simp only [gx]))
    refine iCnd (fun h5 => ?_) (fun h5 => ?_)
    · rw [Bool.and_eq_true, decide_eq_true_eq, decide_eq_true_eq] at h5
      have h5a := h5.1
      have h5b := h5.2
      have ea : a.getD k 0 = a[k] := by simp [List.getD_eq_getElem?_getD, h5a]
      have eb : b.getD k 0 = b[k] := by simp [List.getD_eq_getElem?_getD, h5b]
      rw [List.drop_eq_getElem_cons h5a, List.drop_eq_getElem_cons h5b] at hup
      simp only [lessB] at hup
      ((with_reducible refine iIaN (by assumption) ?_ (fun pa_ hpa_ => ?_)); omega; (with_reducible refine iLd (by assumption) ?_); (with_reducible refine iIaN (by assumption) ?_ (fun pa_ hpa_ => ?_)); omega; (with_reducible refine iLd (by assumption) ?_; refine iNe ?_))
      rw [ea, eb]
      intro w5 h6
      have ha5 := ha4.ext h6
      have hb5 := hb4.ext h6
      refine iCndP (fun h7 => ?_) (fun h7 => ?_)
      · rw [if_neg h7] at hup
        ((with_reducible refine iIaN (by assumption) ?_ (fun pa_ hpa_ => ?_)); omega; (with_reducible refine iLd (by assumption) ?_); (with_reducible refine iIaN (by assumption) ?_ (fun pa_ hpa_ => ?_)); omega; (with_reducible refine iLd (by assumption) ?_; refine iLt ?_))
        rw [ea, eb]
        intro w6 h8
        exact ⟨by rw [hup], h2.trans (h4.trans (h6.trans h8))⟩
      · (refine iAdd (by omega) ?_)
        refine hKn (k + 1) _ ⟨by omega, by omega, h2.trans (h4.trans h6), fun i hi => ?_⟩ (by omega)
        by_cases hik : i = k
        · subst hik
          rw [List.getElem?_eq_getElem h5a, List.getElem?_eq_getElem h5b, Classical.not_not.1 h7]
        · exact heq i (by omega)
    · rw [Bool.and_eq_false_iff, decide_eq_false_iff_not, decide_eq_false_iff_not] at h5
      ((with_reducible refine iLenI (by assumption) ?_; refine iLenI (by assumption) ?_; refine iLt ?_))
      refine ⟨?_, h2.trans h4⟩
      rw [hup]
      rcases Nat.lt_or_ge k a.length with h6 | h6
      · obtain rfl : k = b.length := by omega
        rw [List.drop_eq_nil_of_le (Nat.le_refl _), List.drop_eq_getElem_cons h6, decide_eq_false (by omega)]; rfl
      · obtain rfl : k = a.length := by omega
        rw [List.drop_eq_nil_of_le (Nat.le_refl _)]
        rcases Nat.lt_or_ge a.length b.length with h7 | h7
        · rw [List.drop_eq_getElem_cons h7, decide_eq_true (by omega)]; rfl
        · rw [List.drop_eq_nil_of_le h7, decide_eq_false (by omega)]; rfl
end Go.Proofs.YtaipnnkpplinoaaGreatDoor

namespace Go.Vc
theorem flat_len {α β : Type} (m : Nat) (f : α → List β) : ∀ l : List α, (∀ a ∈ l, (f a).length ≤ m) → (l.flatMap f).length ≤ m * l.length
  | [], _ => by simp
  | a :: l, h => by
    rw [List.flatMap_cons, List.length_append, List.length_cons, Nat.mul_succ]
    have h1 := flat_len m f l fun x hx => h x (List.mem_cons_of_mem _ hx)
    have h2 := h a (by simp)
    omega
theorem freeL_len (n : Nat) (l : List Nat) : (freeL n l).length ≤ n := by
  have := List.length_filter_le (fun v => !l.contains v) (List.range n)
  rwa [List.length_range] at this
theorem lev_len {n : Nat} (hn : n ≤ 6) : ∀ k, k ≤ 6 → (lev n k).length ≤ 46656 ∧ (lev n k).length ≤ 6 ^ k
  | 0, _ => ⟨by simp [lev], by simp [lev]⟩
  | k + 1, hk => by
    have h1 : (lev n (k + 1)).length ≤ 6 ^ (k + 1) := by
      have h2 := flat_len 6 (fun l => (freeL n l).map fun v => l ++ [v]) (lev n k) (fun a _ => by rw [List.length_map]; have := freeL_len n a; omega)
      have h3 := (lev_len hn k (by omega)).2
      have e : lev n (k + 1) = (lev n k).flatMap fun l => (freeL n l).map fun v => l ++ [v] := rfl
      rw [e, Nat.pow_succ]
      omega
    exact ⟨Nat.le_trans h1 (Nat.le_trans (Nat.pow_le_pow_right (by omega) hk) (by decide)), h1⟩
theorem freeL_succ (l : List Nat) (v : Nat) : freeL (v + 1) l = freeL v l ++ (if l.contains v then [] else [v]) := by
  unfold freeL
  rw [List.range_succ, List.filter_append]
  cases h : l.contains v
  · have h2 : ¬ v ∈ l := by simpa using h
    simp [h2]
  · have h2 : v ∈ l := by simpa using h
    simp [h2]
end Go.Vc
namespace Go.Proofs.YtaipnnkpplinoaaGreatDoor
open Go.Vc
def LLn (lo : Nat) (w : World) (v : Value) (L : List (List Nat)) : Prop := ∃ vs, Ow lo t_Si64 w v vs ∧ OwL lo t_i64 w vs (L.map fun o => ints (nats o))
theorem LLn.ext {lo : Nat} {w w' : World} {v : Value} {L : List (List Nat)} (h : LLn lo w v L) (he : Ext w w') : LLn lo w' v L := let ⟨vs, h1, h2⟩ := h; ⟨vs, h1.ext he, h2.ext he⟩
theorem LLn.mono {lo lo' : Nat} {w : World} {v : Value} {L : List (List Nat)} (h : LLn lo w v L) (hl : lo' ≤ lo) : LLn lo' w v L := let ⟨vs, h1, h2⟩ := h; ⟨vs, h1.mono hl, h2.mono hl⟩
theorem LLn.row {lo : Nat} {w : World} {v : Value} {L : List (List Nat)} {k : IntKind} {i : Nat} {K : Value → Prop} (h : LLn lo w v L) (hi : i < L.length) (hk : ∀ p u, w.cell? p = some u → Ow lo t_i64 w u (ints (nats L[i])) → K (.pointer (some p))) : xIa 1 v (.int k (i : Int)) K := by
  obtain ⟨vs, h1, h2⟩ := h
  have hl : vs.length = L.length := by have := h2.1; rwa [List.length_map] at this
  refine iIaV h1.sl (by omega) fun p hp => hk p _ hp ?_
  have := h2.at (i := i) (by omega) (by rw [List.length_map]; exact hi)
  rwa [List.getElem_map] at this
theorem LLn.len {lo : Nat} {w : World} {v : Value} {L : List (List Nat)} {K : Value → Prop} (h : LLn lo w v L) (hk : K (.int .i64 (L.length : Nat))) : xLenS v K := by
  obtain ⟨vs, h1, h2⟩ := h
  have hl : vs.length = L.length := by have := h2.1; rwa [List.length_map] at this
  exact iLenS h1.sl (by rw [hl]; exact hk)
theorem LLn.app {lo : Nat} {w0 w : World} {v u : Value} {L : List (List Nat)} {o : List Nat} {K : Value → World → Prop} (h : LLn lo w0 v L) (hx : Ext w0 w) (ho : Ow w0.heap.size t_i64 w u (ints (nats o))) (hlo : lo ≤ w0.heap.size) (hb : L.length ≤ 1000000)
    (hk : ∀ v' w', LLn lo w' v' (L ++ [o]) → w.grownBy w' v.ownBlock → (∀ c, v.ownBlock = some c → lo ≤ c) → K v' w') : xBs t_Si64 (Value.cells (.slice none 0 0)) 1 1 [(0, u)] w fun y w1 => xOp Tryz.prog (Builtin.append_ #[t_SSi64, t_SSi64] t_SSi64 #[v, y]) w1 K := by
  obtain ⟨vs, h1, h2⟩ := h
  have hl : vs.length = L.length := by have := h2.1; rwa [List.length_map] at this
  have hnew : ∀ x ∈ vs, ∀ c, x.ownBlock = some c → u.ownBlock ≠ some c := fun x hx' c hc hc' => by
    have := (h2.lt hx' hc).2
    have := (ho.blk c hc').1
    omega
  refine iApp1A u_SSi64 i_SSi64 rfl (h1.ext hx) ho.cell (by omega) (by omega) (Nat.le_trans hlo hx.size) fun v' w' ho' hg _ => hk v' w' ⟨vs ++ [u], ho', ?_⟩ hg fun c hc => (h1.blk c hc).1
  rw [List.map_append]
  refine ((h2.ext hx).ch (grown_ch (S := fun c => v.ownBlock = some c) hg fun _ hc => hc) fun x hx' c hc he => ?_).snoc ((ho.mono hlo).ch (grown_ch (S := fun c => v.ownBlock = some c) hg fun _ hc => hc) fun c hc he => ?_) hnew
  · obtain ⟨l, hl'⟩ := h2.ow hx'
    exact hl'.ne_ow h1 (by decide) hc he
  · exact ho.ne_ow (h1.ext hx) (by decide) hc he
theorem ok_spec_l01Has {v : Value} {w : World} {l : List Nat} (x : Nat) (hs : SlN w v l) : Ret Tryz.prog f_spec_l01Has #[v, .int .i64 (x : Int)] w (.bool (l.contains x)) := by
  apply c_spec_l01Has; unfold S_spec_l01Has
  have hl := hs.len
  refine iLp (fun k : Nat => [.int .i64 (k : Int)]) (fun k w' => k ≤ l.length ∧ Ext w w' ∧ (l.take k).contains x = false) (fun k => l.length - k) 0 rfl ⟨Nat.zero_le _, Ext.refl _, by simp⟩ ?_
  rintro k w2 Kn ⟨hk, h2, hn⟩ hKn
  have hs2 := hs.ext h2
  (intro _; (try simp only [gx]); (with_reducible refine iLenN (by assumption) ?_; refine iLt ?_))
  refine iCndP (fun h3 => ?_) (fun h3 => ?_)
  · have hk1 : k < l.length := by omega
    have hg : l.getD k 0 = l[k] := getD_of_lt hk1
    ((with_reducible refine iIaNN (by assumption) ?_ (fun pa_ hpa_ => ?_)); omega; (with_reducible refine iLd (by assumption) ?_; refine iEq ?_))
    rw [hg]
    refine iCndP (fun h4 => ?_) (fun h4 => ?_)
    · have h5 : l[k] = x := by omega
      refine ⟨?_, h2⟩
      have : x ∈ l := by rw [← h5]; exact List.getElem_mem hk1
      simp [this]
    · (refine iAdd (by omega) ?_)
      refine hKn (k + 1) _ ⟨by omega, h2, ?_⟩ (by omega)
      rw [List.take_succ_eq_append_getElem hk1]
      have h5 : ¬ x = l[k] := by omega
      simp only [List.contains_eq_mem, decide_eq_false_iff_not] at hn ⊢
      intro hm
      rcases List.mem_append.1 hm with hm | hm
      · exact hn hm
      · exact h5 (by simpa using hm)
  · have e : k = l.length := by omega
    subst e
    rw [List.take_length] at hn
    exact ⟨by rw [hn], h2⟩
theorem ok_spec_l05Orders {n : Nat} (hn : n ≤ 6) (w : World) : Cal Tryz.prog f_spec_l05Orders #[.int .i64 (n : Int)] w fun v w' => Ext w w' ∧ LLn w.heap.size w' v (lev n n) := by
  apply c_spec_l05Orders; unfold S_spec_l05Orders
  refine iBs0 fun v0 w1 _ h1 ho => ?_
  refine iBs1 rfl ho.cell fun b w2 hb2 h2 hB2 => ?_
  have hs1 := h1.size
  have h0 : LLn w.heap.size w2 (.slice (some ⟨b, 0, none⟩) 1 1) (lev n 0) := by
    refine ⟨[v0], Ow.ofBlk hB2 (by omega) rfl (by omega), ?_⟩
    have := (OwL.nil w.heap.size t_i64 w2).snoc (ho.ext h2) (fun u hu => by cases hu)
    simpa [lev, ints, nats] using this
  refine iLp (fun s : Value × Nat => [s.1, .int .i64 (s.2 : Int)]) (fun s w' => s.2 ≤ n ∧ Ext w w' ∧ LLn w.heap.size w' s.1 (lev n s.2)) (fun s => n - s.2) (_, 0) rfl ⟨Nat.zero_le _, h1.trans h2, h0⟩ ?_
  rintro ⟨z, k⟩ w4 Kn ⟨hk, h4, hz⟩ hKn
  have hk : k ≤ n := hk
  have hz : LLn w.heap.size w4 z (lev n k) := hz
  have hll := (lev_len hn k (by omega)).1
  have h4s := h4.size
  (intro _; (try simp only [gx]); (with_reducible refine iLt ?_))
  refine iCndP (fun h5 => ?_) (fun h5 => ?_)
  · refine iBs0 fun v5 w5 _ h5' ho5 => ?_
    refine iLp (fun s : Value × Nat => [s.1, .int .i64 (s.2 : Int)]) (fun s w' => s.2 ≤ (lev n k).length ∧ Ext w4 w' ∧ LLn w4.heap.size w' s.1 (((lev n k).take s.2).flatMap fun l => (freeL n l).map fun v => l ++ [v])) (fun s => (lev n k).length - s.2) (v5, 0) rfl ⟨Nat.zero_le _, h5', [], ho5, OwL.nil _ _ _⟩ ?_
    rintro ⟨z6, i⟩ w7 Kn7 ⟨hi, h7, hz7⟩ hKn7
    have hi : i ≤ (lev n k).length := hi
    have hz7 : LLn w4.heap.size w7 z6 (((lev n k).take i).flatMap fun l => (freeL n l).map fun v => l ++ [v]) := hz7
    (intro _; (try simp only [gx]))
    refine LLn.len (hz.ext h7) ?_
    ((with_reducible refine iLt ?_))
    refine iCndP (fun h8 => ?_) (fun h8 => ?_)
    · have hi1 : i < (lev n k).length := by omega
      have hlen := flat_len 6 (fun l => (freeL n l).map fun v => l ++ [v]) ((lev n k).take i) (fun a _ => by rw [List.length_map]; have := freeL_len n a; omega)
      rw [List.length_take] at hlen
      refine iLp (fun s : Value × Nat => [s.1, .int .i64 (s.2 : Int)]) (fun s w' => s.2 ≤ n ∧ Ext w4 w' ∧ LLn w4.heap.size w' s.1 ((((lev n k).take i).flatMap fun l => (freeL n l).map fun v => l ++ [v]) ++ (freeL s.2 (lev n k)[i]).map fun v => (lev n k)[i] ++ [v])) (fun s => n - s.2) (z6, 0) rfl ⟨Nat.zero_le _, h7, by simpa [freeL] using hz7⟩ ?_
      rintro ⟨z8, y⟩ w9 Kn9 ⟨hy, h9, hz9⟩ hKn9
      have hy : y ≤ n := hy
      have hz9 : LLn w4.heap.size w9 z8 ((((lev n k).take i).flatMap fun l => (freeL n l).map fun v => l ++ [v]) ++ (freeL y (lev n k)[i]).map fun v => (lev n k)[i] ++ [v]) := hz9
      (intro _; (try simp only [gx]); (with_reducible refine iLt ?_))
      refine iCndP (fun h10 => ?_) (fun h10 => ?_)
      · have hfl := freeL_len y (lev n k)[i]
        have hkl : (lev n k)[i].length = k := (mem_lev.1 (List.getElem_mem hi1)).1
        refine LLn.row (hz.ext h9) hi1 fun p u hp hu => ?_
        refine iLd hp ?_
        refine iRet (ok_spec_l01Has y hu.sl) fun w10 h10' => ?_
        have h10 := h9.trans h10'
        refine iNot ?_
        have hsu := freeL_succ (lev n k)[i] y
        refine iCnd (fun hc => ?_) (fun hc => ?_)
        · have hc : (lev n k)[i].contains y = false := by simpa using hc
          rw [hc] at hsu
          refine LLn.row (hz.ext h10) hi1 fun p u hp hu => ?_
          refine iLd hp ?_
          refine iCall ((ok_spec_l01Own hu.sl (by rw [nats_length]; omega)).mono ?_)
          rintro u' w11 ⟨h11, hou⟩
          refine iApp1A u_Si64 i_Si64 rfl hou rfl (by rw [ints_length, nats_length]; omega) (by rw [ints_length, nats_length]; omega) h11.size fun u2 w13 ho13 hg13 _ => ?_
          rw [ints_snoc] at ho13
          have h13 : Ext w10 w13 := h11.grown hg13 fun c hc => (hou.blk c hc).1
          have h10s := h10.size
          refine LLn.app (hz9.ext h10') h13 ho13 h10s (by rw [List.length_append, List.length_map]; omega) fun v' w15 hz15 hg15 hlo15 => ?_
          (refine iAdd (by omega) ?_)
          refine hKn9 (v', y + 1) _ ⟨by show y + 1 ≤ n; omega, (h10.trans h13).grown hg15 hlo15, ?_⟩ (by show n - (y + 1) < n - y; omega)
          show LLn w4.heap.size w15 v' _
          rw [hsu]
          simpa using hz15
        · have hc : (lev n k)[i].contains y = true := by simpa using hc
          rw [hc] at hsu
          (refine iAdd (by omega) ?_)
          refine hKn9 (z8, y + 1) _ ⟨by show y + 1 ≤ n; omega, h10, ?_⟩ (by show n - (y + 1) < n - y; omega)
          show LLn w4.heap.size w10 z8 _
          rw [hsu]
          simpa using hz9.ext h10'
      · have e : y = n := by omega
        subst e
        (refine iAdd (by omega) ?_)
        refine hKn7 (z8, i + 1) _ ⟨by show i + 1 ≤ _; omega, h9, ?_⟩ (by show _ - (i + 1) < _ - i; omega)
        show LLn w4.heap.size w9 z8 _
        rw [List.take_succ_eq_append_getElem hi1, List.flatMap_append]
        simpa using hz9
    · have e : i = (lev n k).length := by omega
      subst e
      rw [List.take_length] at hz7
      (refine iAdd (by omega) ?_)
      exact hKn (z6, k + 1) _ ⟨by show k + 1 ≤ n; omega, h4.trans h7, hz7.mono h4s⟩ (by show n - (k + 1) < n - k; omega)
  · have e : k = n := by omega
    subst e
    exact ⟨h4, hz⟩
theorem ok_spec_l05Least {v : Value} {w : World} {a : List Nat} (ha : SlN w v a) (hl : a.length ≤ 6) (ha63 : ∀ x ∈ a, x < 2 ^ 62) : Cal Tryz.prog f_spec_l05Least #[v] w fun r w' => Ext w w' ∧ Ow w.heap.size t_i64 w' r (ints (nats (least a))) := by
  apply c_spec_l05Least; unfold S_spec_l05Least
  ((with_reducible refine iLenN (by assumption) ?_))
  have hll := (lev_len hl a.length hl).1
  refine iCall ((ok_spec_l05Orders hl w).mono ?_)
  rintro vo w1 ⟨h1, hvo⟩
  refine iCall ((ok_spec_l01Own (ha.ext h1) (by rw [nats_length]; omega)).mono ?_)
  rintro u w2 ⟨h2, hou⟩
  have hs1 := h1.size
  refine iLp (fun s : Value × Nat => [s.1, .int .i64 (s.2 : Int)]) (fun s w' => s.2 ≤ (lev a.length a.length).length ∧ Ext w2 w' ∧ Ow w.heap.size t_i64 w' s.1 (ints (nats (((lev a.length a.length).take s.2).foldl (updB a) a)))) (fun s => (lev a.length a.length).length - s.2) (u, 0) rfl ⟨Nat.zero_le _, Ext.refl _, hou.mono hs1⟩ ?_
  rintro ⟨z, i⟩ w4 Kn ⟨hi, h4, hz⟩ hKn
  have hi : i ≤ (lev a.length a.length).length := hi
  have hz : Ow w.heap.size t_i64 w4 z (ints (nats (((lev a.length a.length).take i).foldl (updB a) a))) := hz
  have h24 := h2.trans h4
  have h14 := h1.trans h24
  have ha4 := ha.ext h14
  have hvo4 := hvo.ext h24
  (intro _; (try simp only [gx]))
  refine LLn.len hvo4 ?_
  ((with_reducible refine iLt ?_))
  refine iCndP (fun h5 => ?_) (fun h5 => ?_)
  · have hi1 : i < (lev a.length a.length).length := by omega
    have hmem := mem_lev.1 (List.getElem_mem hi1)
    refine LLn.row hvo4 hi1 fun p u hp hu => ?_
    refine iLd hp ?_
    refine iCall ((ok_spec_l05Renumber ha4 hu.sl (by omega) (fun x hx => ⟨hmem.2.1 x hx, by have := hmem.2.1 x hx; omega⟩) ha63).mono ?_)
    rintro r w5 ⟨h5', hor⟩
    have hz5 := hz.ext h5'
    refine iRet (ok_spec_l01Less hor.sl hz5.sl) fun w6 h6 => ?_
    have e1 : ((lev a.length a.length).take (i + 1)).foldl (updB a) a = updB a (((lev a.length a.length).take i).foldl (updB a) a) (lev a.length a.length)[i] := by
      rw [List.take_succ_eq_append_getElem hi1, List.foldl_append]; rfl
    have h46 := h5'.trans h6
    have h4s := h14.size
    refine iCnd (fun hc => ?_) (fun hc => ?_)
    · (refine iAdd (by omega) ?_)
      refine hKn (r, i + 1) _ ⟨by show i + 1 ≤ _; omega, h4.trans h46, ?_⟩ (by show _ - (i + 1) < _ - i; omega)
      show Ow w.heap.size t_i64 w6 r _
      rw [e1, updB, if_pos hc]
      exact (hor.ext h6).mono h4s
    · (refine iAdd (by omega) ?_)
      refine hKn (z, i + 1) _ ⟨by show i + 1 ≤ _; omega, h4.trans h46, ?_⟩ (by show _ - (i + 1) < _ - i; omega)
      show Ow w.heap.size t_i64 w6 z _
      rw [e1, updB, if_neg (by rw [hc]; simp)]
      exact hz5.ext h6
  · have e : i = (lev a.length a.length).length := by omega
    subst e
    rw [List.take_length] at hz
    exact ⟨h14, hz⟩
theorem ok_cmp_isNaN_i64 (x : Int) (w : World) : Ret Tryz.prog f_cmp_isNaN_i64 #[.int .i64 x] w (.bool false) := by
  apply c_cmp_isNaN_i64; unfold S_cmp_isNaN_i64
  refine iNe ?_
  rw [decide_eq_false (fun h => h rfl)]
  exact ⟨rfl, Ext.refl _⟩
theorem ok_cmp_Compare_i64 (x y : Int) (w : World) : Ret Tryz.prog f_cmp_Compare_i64 #[.int .i64 x, .int .i64 y] w (.int .i64 (if x < y then -1 else if y < x then 1 else 0)) := by
  apply c_cmp_Compare_i64; unfold S_cmp_Compare_i64
  refine iRet (ok_cmp_isNaN_i64 x w) fun w1 h1 => ?_
  refine iRet (ok_cmp_isNaN_i64 y w1) fun w2 h2 => ?_
  refine iCndF rfl (iCndF rfl ?_)
  refine iLt ?_
  refine iCndP (fun h => ?_) (fun h => ?_)
  · rw [if_pos h]; exact ⟨rfl, h1.trans h2⟩
  · rw [if_neg h]
    refine iLt ?_
    refine iCndP (fun h => ?_) (fun h => ?_)
    · rw [if_pos h]; exact ⟨rfl, h1.trans h2⟩
    · rw [if_neg h]; exact ⟨rfl, h1.trans h2⟩
theorem ok_slices_Compare_Si64_i64 {va vb : Value} {w : World} {a b : List Int} (ha : SlI w va a) (hb : SlI w vb b) : Cal Tryz.prog f_slices_Compare_Si64_i64 #[va, vb] w fun v w' => Ext w w' ∧ ∃ r : Int, v = .int .i64 r ∧ (r < 0 ↔ lessB a b = true) := by
  apply c_slices_Compare_Si64_i64; unfold S_slices_Compare_Si64_i64
  have hal := ha.len
  have hbl := hb.len
  ((with_reducible refine iLenI (by assumption) ?_))
  refine iLp (fun k : Nat => [.int .i64 (k : Int)]) (fun k w' => k ≤ a.length ∧ k ≤ b.length ∧ Ext w w' ∧ ∀ i, i < k → a[i]? = b[i]?) (fun k => a.length - k) 0 rfl ⟨Nat.zero_le _, Nat.zero_le _, Ext.refl _, fun i hi => by omega⟩ ?_
  rintro k w2 Kn ⟨hka, hkb, h2, heq⟩ hKn
  have ha2 := ha.ext h2
  have hb2 := hb.ext h2
  have hup := lessB_upto a b k heq hka hkb
  (intro _; (try simp only [gx]); (with_reducible refine iLt ?_))
  refine iCndP (fun h5 => ?_) (fun h5 => ?_)
  · have h5a : k < a.length := by omega
    have ea : a.getD k 0 = a[k] := by simp [List.getD_eq_getElem?_getD, h5a]
    ((with_reducible refine iIaN (by assumption) ?_ (fun pa_ hpa_ => ?_)); omega; (with_reducible refine iLd (by assumption) ?_; refine iLenI (by assumption) ?_; refine iLe ?_))
    rw [ea]
    refine iCndP (fun h6 => ?_) (fun h6 => ?_)
    · obtain rfl : k = b.length := by omega
      refine ⟨h2, 1, rfl, ?_⟩
      rw [hup, List.drop_eq_nil_of_le (Nat.le_refl _), List.drop_eq_getElem_cons h5a]
      simp [lessB]
    · have h5b : k < b.length := by omega
      have eb : b.getD k 0 = b[k] := by simp [List.getD_eq_getElem?_getD, h5b]
      rw [List.drop_eq_getElem_cons h5a, List.drop_eq_getElem_cons h5b] at hup
      simp only [lessB] at hup
      ((with_reducible refine iIaN (by assumption) ?_ (fun pa_ hpa_ => ?_)); omega; (with_reducible refine iLd (by assumption) ?_))
      rw [eb]
      refine iRet (ok_cmp_Compare_i64 a[k] b[k] w2) fun w3 h3 => ?_
      refine iNe ?_
      refine iCndP (fun h7 => ?_) (fun h7 => ?_)
      · refine ⟨h2.trans h3, _, rfl, ?_⟩
        have hne : ¬ a[k] = b[k] := fun e => h7 (by rw [e]; simp)
        rw [hup, if_neg hne]
        by_cases hlt : a[k] < b[k]
        · rw [if_pos hlt]; simp [hlt]
        · rw [if_neg hlt, if_pos (by omega)]; simp [hlt]
      · have he : a[k] = b[k] := by
          rcases Int.lt_trichotomy a[k] b[k] with h | h | h
          · exact absurd (by rw [if_pos h]; decide) h7
          · exact h
          · exact absurd (by rw [if_neg (by omega), if_pos h]; decide) h7
        (refine iAdd (by omega) ?_)
        refine hKn (k + 1) _ ⟨by omega, by omega, h2.trans h3, fun i hi => ?_⟩ (by omega)
        by_cases hik : i = k
        · subst hik
          rw [List.getElem?_eq_getElem h5a, List.getElem?_eq_getElem h5b, he]
        · exact heq i (by omega)
  · obtain rfl : k = a.length := by omega
    rw [List.drop_eq_nil_of_le (Nat.le_refl _)] at hup
    ((with_reducible refine iLenI (by assumption) ?_; refine iLenI (by assumption) ?_; refine iLt ?_))
    refine iCndP (fun h6 => ?_) (fun h6 => ?_)
    · have h7 : a.length < b.length := by omega
      refine ⟨h2, -1, rfl, ?_⟩
      rw [hup, List.drop_eq_getElem_cons h7]
      simp [lessB]
    · refine ⟨h2, 0, rfl, ?_⟩
      rw [hup, List.drop_eq_nil_of_le (by omega)]
      simp [lessB]
end Go.Proofs.YtaipnnkpplinoaaGreatDoor

namespace Go.Vc
section
variable {w : World}
theorem iMk0 {e : TypeId} {z : Value} {bytes n : Nat} {k : IntKind} {K : Value → World → Prop} (h1 : bytes * n ≤ 2 ^ 48) (h2 : (n : Int) ≤ 9223372036854775807) (hz : isCell z = true)
    (h : ∀ v w', Ext w w' → Ow w.heap.size e w' v [] → (∀ c, v.ownBlock = some c → c = w.heap.size) → K v w') : xMk e (Value.cells z) 1 bytes (.int k 0) (.int k (n : Int)) w K := by
  refine ⟨k, k, 0, n, rfl, rfl, Nat.zero_le _, h2, by exact_mod_cast h1, ?_⟩
  refine h _ _ (Ext.alloc w _) ⟨rfl, .inr ⟨w.heap.size, n, _, rfl, Nat.le_refl _, heap_alloc_new w _, Nat.zero_le _, by simpa [maxLen] using (by omega : n ≤ 9223372036854775807), ?_, by simp⟩⟩ ?_
  · rw [isCell_cells hz]; simp
  · intro c hc
    simp [Value.ownBlock] at hc
    exact hc.symm
theorem iIa0 {b n c : Nat} {j : Nat} {k : IntKind} {K : Value → Prop} (hj : j < n) (h : K (.pointer (some ⟨b, j, none⟩))) : xIa 1 (.slice (some ⟨b, 0, none⟩) n c) (.int k (j : Int)) K := iIaL hj (by rw [Nat.zero_add]; exact h)
end
theorem ints_get {l : List Nat} {k : Nat} (h : k < l.length) : (ints (nats l))[k]? = some (.int .i64 ((l.getD k 0 : Nat) : Int)) := by
  simp [ints, nats, List.getD_eq_getElem?_getD, h]
theorem ints_set (l : List Nat) (k y : Nat) : (ints (nats l)).set k (.int .i64 (y : Int)) = ints (nats (l.set k y)) := by
  simp [ints, nats, List.map_set]
theorem getD_set (l : List Nat) (i j y : Nat) (hi : i < l.length) : (l.set i y).getD j 0 = if i = j then y else l.getD j 0 := by
  simp only [List.getD_eq_getElem?_getD, List.getElem?_set]
  by_cases h : i = j
  · subst h; simp [hi]
  · simp [h]
theorem sqz_map {o : List Nat} {n : Nat} (ho : isOrd n o) (hn : n ≤ 62) {T : List Nat} (hT : ∀ j, j < n → T.getD (o.getD j 0) 0 = j) {m : Nat} (hm : m < 2 ^ n) : setOf ((mem m).map fun y => T.getD y 0) = sqz o m := by
  have hm63 : m < 2 ^ 63 := Nat.lt_of_lt_of_le hm (Nat.pow_le_pow_right (by omega) (by omega))
  apply Nat.eq_of_testBit_eq
  intro j
  rw [setOf_testBit, sqz_bit, Bool.eq_iff_iff, Bool.and_eq_true, decide_eq_true_eq, ho.1]
  simp only [List.contains_eq_mem, decide_eq_true_eq, List.mem_map]
  constructor
  · rintro ⟨y, hy, rfl⟩
    have hy := (mem_mem hm63).1 hy
    have hyn : y < n := by
      rcases Nat.lt_or_ge y n with h | h
      · exact h
      · rw [Nat.testBit_lt_two_pow (Nat.lt_of_lt_of_le hm (Nat.pow_le_pow_right (by omega) h))] at hy; cases hy
    obtain ⟨h1, h2⟩ := ord_idx hn ho hyn
    have := hT _ h1
    rw [h2] at this
    rw [this]
    exact ⟨h1, by rw [h2]; exact hy⟩
  · rintro ⟨h1, h2⟩
    exact ⟨_, (mem_mem hm63).2 h2, hT j h1⟩
end Go.Vc
namespace Go.Proofs.YtaipnnkpplinoaaGreatDoor
open Go.Vc
theorem ok_impl_reordered {va vo : Value} {w : World} {a o : List Nat} {n : Nat} (ha : SlN w va a) (hu : SlN w vo o) (hn : n ≤ 8) (hal : a.length = n) (ho : isOrd n o) (ham : ∀ x ∈ a, x < 2 ^ n) : Cal Tryz.prog f_impl_reordered #[va, vo] w fun r w' => Ext w w' ∧ Ow w.heap.size t_i64 w' r (ints (nats (rnb a o))) := by
  apply c_impl_reordered; unfold S_impl_reordered
  have hol := ho.1
  refine iLenN hu ?_
  refine iMk (by omega) (by omega) rfl fun c w1 hc1 h1 hB1 => ?_
  refine iLenN (hu.ext h1) ?_
  have e0 : List.replicate o.length (Value.int .i64 0) = ints (nats (List.replicate n 0)) := by simp [ints, nats, hol]
  rw [e0] at hB1
  refine iLp (fun k : Nat => [.int .i64 (k : Int)]) (fun k w' => k ≤ n ∧ Ext w w' ∧ w1.heap.size ≤ w'.heap.size ∧ ∃ T : List Nat, T.length = n ∧ Blk t_i64 w' c (ints (nats T)) ∧ ∀ j, j < k → T.getD (o.getD j 0) 0 = j) (fun k => n - k) 0 rfl ⟨Nat.zero_le _, h1, Nat.le_refl _, _, List.length_replicate, hB1, fun j hj => by omega⟩ ?_
  rintro k w3 Kn ⟨hk, h3, h3s, T, hTl, hB3, hT⟩ hKn
  have hu3 := hu.ext h3
  have ha3 := ha.ext h3
  (intro _; (try simp only [gx]); (with_reducible refine iLt ?_))
  refine iCndP (fun h4 => ?_) (fun h4 => ?_)
  · have hk1 : k < n := by omega
    have hok := ord_get ho hk1
    ((with_reducible refine iIaNN (by assumption) ?_ (fun pa_ hpa_ => ?_)); omega; (with_reducible refine iLd (by assumption) ?_))
    refine iIa0 (by omega) ?_
    have hTl2 : o.getD k 0 < (ints (nats T)).length := by rw [ints_length, nats_length]; omega
    refine iStB hB3 hTl2 rfl fun hB4 => ?_
    rw [ints_set] at hB4
    have hu4 := Upd.setCell w3 c (o.getD k 0) (.int .i64 (k : Int))
    have h4 := h3.upd hu4 (by omega)
    have hs4 := hu4.size
    (refine iAdd (by omega) ?_)
    refine hKn (k + 1) _ ⟨by omega, h4, by omega, _, by rw [List.length_set, hTl], hB4, fun j hj => ?_⟩ (by omega)
    rw [getD_set _ _ _ _ (by omega)]
    by_cases hjk : j = k
    · subst hjk; rw [if_pos rfl]
    · rw [if_neg (fun e => hjk (ord_inj ho hk1 (by omega) e).symm)]
      exact hT j (by omega)
  · have e : k = n := by omega
    subst e
    ((with_reducible refine iLenN (by assumption) ?_))
    refine iMk (by omega) (by omega) rfl fun d w5 hd5 h5 hB5 => ?_
    have e0 : List.replicate o.length (Value.int .i64 0) = ints (nats ((rnb a o).take 0 ++ List.replicate (k - 0) 0)) := by simp [ints, nats, hol]
    rw [e0] at hB5
    have hBc5 := hB3.ext h5
    have hcd : c ≠ d := by have := hB3.lt; omega
    have h15 := h3.trans h5
    refine iLenN (hu.ext h15) ?_
    have hd0 : w.heap.size ≤ d := by have := h3.size; omega
    refine iLp (fun i : Nat => [.int .i64 (i : Int)]) (fun i w' => i ≤ k ∧ Ext w w' ∧ Blk t_i64 w' c (ints (nats T)) ∧ Blk t_i64 w' d (ints (nats ((rnb a o).take i ++ List.replicate (k - i) 0)))) (fun i => k - i) 0 rfl ⟨Nat.zero_le _, h15, hBc5, hB5⟩ ?_
    rintro i w7 Kn7 ⟨hi, h7, hBc7, hB7⟩ hKn7
    have hu7 := hu.ext h7
    have ha7 := ha.ext h7
    have hrl : (rnb a o).length = k := by rw [rnb_len, hol]
    (intro _; (try simp only [gx]); (with_reducible refine iLt ?_))
    refine iCndP (fun h8 => ?_) (fun h8 => ?_)
    · have hi1 : i < k := by omega
      have hoi := ord_get ho hi1
      ((with_reducible refine iIaNN (by assumption) ?_ (fun pa_ hpa_ => ?_)); omega; (with_reducible refine iLd (by assumption) ?_); (with_reducible refine iIaNN (by assumption) ?_ (fun pa_ hpa_ => ?_)); omega; (with_reducible refine iLd (by assumption) ?_))
      have hax : a.getD (o.getD i 0) 0 < 2 ^ k := getD_lt ham (by omega)
      have hax63 : a.getD (o.getD i 0) 0 < 2 ^ 63 := Nat.lt_of_lt_of_le hax (Nat.pow_le_pow_right (by omega) (by omega))
      refine iCall ((ok_impl_membersOf _ hax63 w7).mono ?_)
      rintro vm w8 ⟨h8', hom⟩
      have h78 := h7.trans h8'
      have hBc8 := hBc7.ext h8'
      have hB8 := hB7.ext h8'
      have eR : List.replicate (k - i) 0 = setOf (((mem (a.getD (o.getD i 0) 0)).take 0).map fun y => T.getD y 0) :: List.replicate (k - (i + 1)) 0 := by
        rw [show k - i = k - (i + 1) + 1 by omega, List.replicate_succ]; rfl
      rw [eR] at hB8
      have hvm : SlN w8 vm (mem (a.getD (o.getD i 0) 0)) := hom.sl
      have hml := hvm.len
      have htl : ((rnb a o).take i).length = i := by rw [List.length_take]; omega
      refine iLenN hvm ?_
      refine iLp (fun s : Nat => [.int .i64 (s : Int)]) (fun s w' => s ≤ (mem (a.getD (o.getD i 0) 0)).length ∧ Ext w w' ∧ SlN w' vm (mem (a.getD (o.getD i 0) 0)) ∧ Ow w7.heap.size t_i64 w' vm (ints (nats (mem (a.getD (o.getD i 0) 0)))) ∧ Blk t_i64 w' c (ints (nats T)) ∧ Blk t_i64 w' d (ints (nats ((rnb a o).take i ++ setOf (((mem (a.getD (o.getD i 0) 0)).take s).map fun y => T.getD y 0) :: List.replicate (k - (i + 1)) 0)))) (fun s => (mem (a.getD (o.getD i 0) 0)).length - s) 0 rfl ⟨Nat.zero_le _, h78, hvm, hom, hBc8, hB8⟩ ?_
      rintro s w10 Kn10 ⟨hs, h10, hv10, ho10, hBc10, hB10⟩ hKn10
      (intro _; (try simp only [gx]); (with_reducible refine iLt ?_))
      refine iCndP (fun h11 => ?_) (fun h11 => ?_)
      · have hs1 : s < (mem (a.getD (o.getD i 0) 0)).length := by omega
        have hy : (mem (a.getD (o.getD i 0) 0)).getD s 0 = (mem (a.getD (o.getD i 0) 0))[s] := getD_of_lt hs1
        have hyt := (mem_mem hax63).1 (List.getElem_mem hs1)
        have hyk : (mem (a.getD (o.getD i 0) 0))[s] < k := by
          rcases Nat.lt_or_ge (mem (a.getD (o.getD i 0) 0))[s] k with h | h
          · exact h
          · rw [Nat.testBit_lt_two_pow (Nat.lt_of_lt_of_le hax (Nat.pow_le_pow_right (by omega) h))] at hyt; cases hyt
        obtain ⟨hj1, hj2⟩ := ord_idx (by omega) ho hyk
        have hTy := hT _ hj1
        rw [hj2] at hTy
        have hllen : ((rnb a o).take i ++ setOf (((mem (a.getD (o.getD i 0) 0)).take s).map fun y => T.getD y 0) :: List.replicate (k - (i + 1)) 0).length = k := by
          rw [List.length_append, List.length_cons, List.length_replicate, htl]; omega
        have hgx : ((rnb a o).take i ++ setOf (((mem (a.getD (o.getD i 0) 0)).take s).map fun y => T.getD y 0) :: List.replicate (k - (i + 1)) 0).getD i 0 = setOf (((mem (a.getD (o.getD i 0) 0)).take s).map fun y => T.getD y 0) := by
          rw [List.getD_eq_getElem?_getD, List.getElem?_append_right (by omega), htl, Nat.sub_self]; rfl
        have hst : setOf (((mem (a.getD (o.getD i 0) 0)).take s).map fun y => T.getD y 0) < 2 ^ 62 := by
          refine setOf_lt fun y hy => ?_
          obtain ⟨x, hx, rfl⟩ := List.mem_map.1 hy
          have hxt := (mem_mem hax63).1 (List.mem_of_mem_take hx)
          have hxk : x < k := by
            rcases Nat.lt_or_ge x k with h | h
            · exact h
            · rw [Nat.testBit_lt_two_pow (Nat.lt_of_lt_of_le hax (Nat.pow_le_pow_right (by omega) h))] at hxt; cases hxt
          obtain ⟨q1, q2⟩ := ord_idx (by omega) ho hxk
          have := hT _ q1
          rw [q2] at this
          omega
        ((with_reducible refine iIaNN (by assumption) ?_ (fun pa_ hpa_ => ?_)); omega; (with_reducible refine iLd (by assumption) ?_))
        refine iIa0 (by omega) ?_
        refine iLdB hB10 (ints_get (by omega)) ?_
        rw [hgx, hy]
        refine iIa0 (by omega) ?_
        refine iLdB hBc10 (ints_get (by omega)) ?_
        rw [hTy]
        refine iShlOne (by omega) ?_
        refine iBOr (by omega) (Nat.pow_lt_pow_right (by omega) (by omega)) ?_
        refine iIa0 (by omega) ?_
        intro w11 h11'
        refine iStB (hB10.ext h11') (by rw [ints_length, nats_length]; omega) rfl fun hB12 => ?_
        rw [ints_set] at hB12
        have hu12 := Upd.setCell w11 d i (.int .i64 ((setOf (((mem (a.getD (o.getD i 0) 0)).take s).map fun y => T.getD y 0) ||| 2 ^ o.idxOf (mem (a.getD (o.getD i 0) 0))[s] : Nat) : Int))
        have h12 := (h10.trans h11').upd hu12 hd0
        have hBc12 := (hBc10.ext h11').upd hu12 hcd
        have ho12 := (ho10.ext h11').upd hu12 (fun hc => by
          have := (hom.blk _ hc).1
          have := hB7.lt
          omega)
        have eset : ((rnb a o).take i ++ setOf (((mem (a.getD (o.getD i 0) 0)).take s).map fun y => T.getD y 0) :: List.replicate (k - (i + 1)) 0).set i (setOf (((mem (a.getD (o.getD i 0) 0)).take s).map fun y => T.getD y 0) ||| 2 ^ o.idxOf (mem (a.getD (o.getD i 0) 0))[s]) = (rnb a o).take i ++ setOf (((mem (a.getD (o.getD i 0) 0)).take (s + 1)).map fun y => T.getD y 0) :: List.replicate (k - (i + 1)) 0 := by
          rw [List.set_append_right _ _ (by omega), htl, Nat.sub_self, List.take_succ_eq_append_getElem hs1, List.map_append, List.map_singleton, setOf_snoc, hTy]; rfl
        rw [eset] at hB12
        intro w13 h13
        (refine iAdd (by omega) ?_)
        exact hKn10 (s + 1) _ ⟨by omega, h12.trans h13, (ho12.ext h13).sl, ho12.ext h13, hBc12.ext h13, hB12.ext h13⟩ (by omega)
      · have e : s = (mem (a.getD (o.getD i 0) 0)).length := by omega
        subst e
        rw [List.take_length, sqz_map ho (by omega) hT hax] at hB10
        have er : (rnb a o).take (i + 1) = (rnb a o).take i ++ [sqz o (a.getD (o.getD i 0) 0)] := by
          have hog : o.getD i 0 = o[i] := getD_of_lt (by omega)
          have hr : (rnb a o)[i]'(by omega) = sqz o (a.getD (o.getD i 0) 0) := by rw [hog]; simp only [rnb, List.getElem_map]
          rw [List.take_succ_eq_append_getElem (by omega), hr]
        (refine iAdd (by omega) ?_)
        refine hKn7 (i + 1) _ ⟨by omega, h10, hBc10, ?_⟩ (by omega)
        rw [er, List.append_assoc]; exact hB10
    · have e : i = k := by omega
      subst e
      refine ⟨h7, ?_⟩
      have e1 : (rnb a o).take i ++ List.replicate (i - i) 0 = rnb a o := by
        rw [Nat.sub_self, List.replicate_zero, List.append_nil, ← hrl, List.take_length]
      rw [e1] at hB7
      rw [hol]
      exact Ow.ofBlk hB7 hd0 (by rw [ints_length, nats_length, hrl]) (by omega)
end Go.Proofs.YtaipnnkpplinoaaGreatDoor

namespace Go.Vc
end Go.Vc
namespace Go.Proofs.YtaipnnkpplinoaaGreatDoor
open Go.Vc
theorem ok_impl_leastRelation_1 {lo ba c : Nat} {vo va z : Value} {w w0 : World} {a o b : List Nat} {n : Nat} (hX : Ext w0 w) (ha : SlN w0 va a) (hn : n ≤ 6) (hal : a.length = n) (ho : isOrd n o) (ham : ∀ x ∈ a, x < 2 ^ n) (hu : SlN w vo o)
    (hBa : Blk t_Si64 w ba [va]) (hBc : Blk t_Si64 w c [z]) (hz : Ow lo t_i64 w z (ints (nats b))) (hlo : lo ≤ w.heap.size) :
    Cal Tryz.prog f_impl_leastRelation_1 #[vo, .pointer (some ⟨ba, 0, none⟩), .pointer (some ⟨c, 0, none⟩)] w fun _ w' => Ch (fun k => k = c) w w' ∧ ∃ z', Blk t_Si64 w' c [z'] ∧ Ow lo t_i64 w' z' (ints (nats (updB a b o))) ∧ (z' = z ∨ ∀ g, z'.ownBlock = some g → w.heap.size ≤ g) := by
  apply c_impl_leastRelation_1; unfold S_impl_leastRelation_1
  refine iLdB hBa rfl ?_
  refine iCall ((ok_impl_reordered (ha.ext hX) hu (by omega) hal ho ham).mono ?_)
  rintro r w1 ⟨h1, hor⟩
  have hBc1 := hBc.ext h1
  have hz1 := hz.ext h1
  refine iLdB hBc1 rfl ?_
  refine iCall ((ok_slices_Compare_Si64_i64 hor.sl hz1.sl).mono ?_)
  rintro _ w2 ⟨h2, q, rfl, hq⟩
  have hBc2 := hBc1.ext h2
  have hor2 := hor.ext h2
  refine iLt ?_
  refine iCndP (fun h3 => ?_) (fun h3 => ?_)
  · refine iStB hBc2 (by simp) hor.cell fun hBc3 => ?_
    have hu3 := Upd.setCell w2 c 0 r
    refine ⟨((h1.trans h2).ch (S := fun k => k = c)).trans (hu3.ch (S := fun k => k = c) rfl) (fun _ h => .inl h), r, hBc3, ?_, .inr fun g hg => (hor.blk g hg).1⟩
    rw [updB, if_pos (hq.1 h3)]
    exact (hor2.mono hlo).upd hu3 (hor2.ne_blk hBc2 (by decide))
  · refine ⟨(h1.trans h2).ch, z, hBc2, ?_, .inl rfl⟩
    rw [updB, if_neg (fun h => h3 (hq.2 h))]
    exact hz1.ext h2
structure PSt (w0 : World) (lo n bo bn bf bg ba c : Nat) (eF eG : TypeId) (va : Value) (a im : List Nat) (w : World) (v z : Value) (l : List (List Nat)) : Prop where
  ext : Ext w0 w
  kbo : Blk t_Si64 w bo [v]
  kbn : Blk t_i64 w bn [.int .i64 (n : Int)]
  kbf : Blk eF w bf [.func (.func f_impl_leastRelation_1) #[] #[.pointer (some ⟨ba, 0, none⟩), .pointer (some ⟨c, 0, none⟩)]]
  kbg : Blk eG w bg [.func (.func f_impl_permutations_1) #[] #[.pointer (some ⟨bo, 0, none⟩), .pointer (some ⟨bn, 0, none⟩), .pointer (some ⟨bf, 0, none⟩), .pointer (some ⟨bg, 0, none⟩)]]
  kba : Blk t_Si64 w ba [va]
  kc : Blk t_Si64 w c [z]
  ow : Ow lo t_i64 w v (ints (nats im))
  kz : Ow lo t_i64 w z (ints (nats (l.foldl (updB a) a)))
  vz : ∀ k, v.ownBlock = some k → z.ownBlock ≠ some k
  vn : v.ownBlock ≠ some bn
  zn : z.ownBlock ≠ some bn
theorem PSt.later {w0 : World} {lo n bo bn bf bg ba c : Nat} {eF eG : TypeId} {va : Value} {a im : List Nat} {w w' : World} {v z : Value} {l : List (List Nat)} (h : PSt w0 lo n bo bn bf bg ba c eF eG va a im w v z l) (k : Ext w w') : PSt w0 lo n bo bn bf bg ba c eF eG va a im w' v z l :=
  ⟨h.ext.trans k, h.kbo.ext k, h.kbn.ext k, h.kbf.ext k, h.kbg.ext k, h.kba.ext k, h.kc.ext k, h.ow.ext k, h.kz.ext k, h.vz, h.vn, h.zn⟩
structure PBk (w0 : World) (lo bo bn bf bg ba c : Nat) (eF eG : TypeId) : Prop where
  lo : lo = w0.heap.size
  eF : t_i64 ≠ eF ∧ t_Si64 ≠ eF
  eG : t_i64 ≠ eG ∧ t_Si64 ≠ eG
  oa : bo ≠ ba
  oc : bo ≠ c
  ac : ba ≠ c
  bo : w0.heap.size ≤ bo
  c : w0.heap.size ≤ c
theorem PSt.put {w0 : World} {lo n bo bn bf bg ba c : Nat} {eF eG : TypeId} {va : Value} {a im im' : List Nat} {w w' : World} {v v' z : Value} {l : List (List Nat)} (hk : PBk w0 lo bo bn bf bg ba c eF eG) (h : PSt w0 lo n bo bn bf bg ba c eF eG va a im w v z l)
    (hg : w.grownBy w' v.ownBlock) (hv : Ow lo t_i64 w' v' (ints (nats im'))) (hat : v'.ownBlock = v.ownBlock ∨ ∃ k, v'.ownBlock = some k ∧ w.heap.size ≤ k) {K : World → Prop}
    (hK : ∀ w'', PSt w0 lo n bo bn bf bg ba c eF eG va a im' w'' v' z l → K w'') : xSt w' (.pointer (some ⟨bo, 0, none⟩)) v' K := by
  have hgc := grown_ch (S := fun k => v.ownBlock = some k) hg (fun k hk => hk)
  have hne : ∀ {e : TypeId} {b : Nat} {cs : List Value}, Blk e w b cs → t_i64 ≠ e → v.ownBlock ≠ some b := fun hb he => h.ow.ne_blk hb he
  have hbo := h.kbo.ch hgc (hne h.kbo (by decide))
  refine iStB hbo (by simp) hv.cell fun hbo2 => hK _ ?_
  have hu := Upd.setCell w' bo 0 v'
  have hX := h.ext
  have hbn' : bo ≠ bn := fun e => by
    have := Blk.ne_blk h.kbn h.kbo (by decide)
    exact this e.symm
  exact ⟨(h.ext.grown hg fun k hk' => hk.lo ▸ (h.ow.blk k hk').1).upd hu hk.bo, hbo2, (h.kbn.ch hgc h.vn).upd hu (fun e => hbn' e.symm), (h.kbf.ch hgc (hne h.kbf hk.eF.1)).upd hu (Blk.ne_blk h.kbf h.kbo (fun e => hk.eF.2 e.symm)), (h.kbg.ch hgc (hne h.kbg hk.eG.1)).upd hu (Blk.ne_blk h.kbg h.kbo (fun e => hk.eG.2 e.symm)),
    (h.kba.ch hgc (hne h.kba (by decide))).upd hu (fun e => hk.oa e.symm), (h.kc.ch hgc (hne h.kc (by decide))).upd hu (fun e => hk.oc e.symm), hv.upd hu (hv.ne_blk hbo (by decide)),
    (h.kz.ch hgc (fun k hz hv => h.vz k hv hz)).upd hu (h.kz.ne_blk h.kbo (by decide)), by
      intro k hk' hz
      rcases hat with h1 | ⟨k', h1, h2⟩
      · exact h.vz k (by rw [← h1]; exact hk') hz
      · rw [h1] at hk'; cases hk'
        have := (h.kz.blk k hz).2
        omega, by
      intro hb
      rcases hat with h1 | ⟨k', h1, h2⟩
      · exact h.vn (by rw [← h1]; exact hb)
      · rw [h1] at hb; cases hb
        have := h.kbn.lt
        omega, h.zn⟩
theorem ok_impl_permutations_1 {w0 : World} {lo n bo bn bf bg ba c : Nat} {eF eG : TypeId} {va : Value} {a : List Nat} (hk : PBk w0 lo bo bn bf bg ba c eF eG) (ha : SlN w0 va a) (hn : n ≤ 6) (hal : a.length = n) (ham : ∀ x ∈ a, x < 2 ^ n) :
    ∀ (d : Nat) (im : List Nat) (w : World) (v z : Value) (l : List (List Nat)), im.length + d = n → (∀ x ∈ im, x < n) → im.Nodup → PSt w0 lo n bo bn bf bg ba c eF eG va a im w v z l →
      Cal Tryz.prog f_impl_permutations_1 #[.int .i64 ((setOf im : Nat) : Int), .pointer (some ⟨bo, 0, none⟩), .pointer (some ⟨bn, 0, none⟩), .pointer (some ⟨bf, 0, none⟩), .pointer (some ⟨bg, 0, none⟩)] w fun _ w' => ∃ v' z', PSt w0 lo n bo bn bf bg ba c eF eG va a im w' v' z' (l ++ gr n d im) := by
  intro d
  induction d with
  | zero =>
    intro im w v z l hlen hlt hnd hst
    apply c_impl_permutations_1; unfold S_impl_permutations_1
    have hbo := hst.kbo
    have hbn := hst.kbn
    have hsl : SlN w v im := hst.ow.sl
    refine iLdB hbo rfl ?_
    refine iRetQ (fun w' h' => ok_impl_size_i64 (Sl.ext hst.ow.sl h')) ?_
    rw [ints_length, nats_length]
    refine iLdB hbn rfl ?_
    refine iEq ?_
    intro w1 h1
    have hst1 := hst.later h1
    refine iCndP (fun h2 => ?_) (fun h2 => absurd (show (im.length : Int) = n by omega) h2)
    refine iLdB hst1.kbf rfl ?_
    refine iLdB hst1.kbo rfl ?_
    refine iClo rfl ((ok_impl_leastRelation_1 (n := n) (o := im) hst1.ext ha hn hal ⟨by omega, hlt, hnd⟩ ham hst1.ow.sl hst1.kba hst1.kc hst1.kz (by rw [hk.lo]; exact hst1.ext.size)).mono ?_)
    rintro _ w2 ⟨hch, z', hc2, hz2, hzz⟩
    have hne : ∀ {e : TypeId} {b : Nat} {cs : List Value}, Blk e w1 b cs → t_Si64 ≠ e → b ≠ c := fun hb he => Blk.ne_blk hb hst1.kc (fun h => he h.symm)
    refine ⟨v, z', ?_⟩
    have e : (l ++ gr n 0 im).foldl (updB a) a = updB a (l.foldl (updB a) a) im := by rw [List.foldl_append]; rfl
    refine ⟨hst1.ext.thenCh hch (fun k hk' => hk' ▸ hk.c), hst1.kbo.ch hch hk.oc, hst1.kbn.ch hch (hne hst1.kbn (by decide)), hst1.kbf.ch hch (hne hst1.kbf hk.eF.2), hst1.kbg.ch hch (hne hst1.kbg hk.eG.2), hst1.kba.ch hch hk.ac, hc2, hst1.ow.ch hch (fun k hk' he => hst1.ow.ne_blk hst1.kc (by decide) (he ▸ hk')), by rw [e]; exact hz2, ?_, hst1.vn, ?_⟩
    · intro k hv hz
      rcases hzz with rfl | hzz
      · exact hst1.vz k hv hz
      · have := (hst1.ow.blk k hv).2
        have := hzz k hz
        omega
    · intro hz
      rcases hzz with rfl | hzz
      · exact hst1.zn hz
      · have := hst1.kbn.lt
        have := hzz _ hz
        omega
  | succ d ih =>
    intro im w v z l hlen hlt hnd hst
    apply c_impl_permutations_1; unfold S_impl_permutations_1
    refine iLdB hst.kbo rfl ?_
    refine iRetQ (fun w' h' => ok_impl_size_i64 (Sl.ext hst.ow.sl h')) ?_
    rw [ints_length, nats_length]
    refine iLdB hst.kbn rfl ?_
    refine iEq ?_
    intro w1 h1
    have hst1 := hst.later h1
    refine iCndP (fun h2 => absurd h2 (by omega)) (fun h2 => ?_)
    refine iLdB hst1.kbn rfl ?_
    have hus : setOf im < 2 ^ n := setOf_lt hlt
    have hus63 : setOf im < 2 ^ 62 := Nat.lt_of_lt_of_le hus (Nat.pow_le_pow_right (by omega) (by omega))
    refine iLp (fun k : Nat => [.int .i64 (k : Int)]) (fun k w' => k ≤ n ∧ ∃ v z, PSt w0 lo n bo bn bf bg ba c eF eG va a im w' v z (l ++ (freeL k im).flatMap fun y => gr n d (im ++ [y]))) (fun k => n - k) 0 rfl ⟨Nat.zero_le _, v, z, by simpa [freeL] using hst1⟩ ?_
    rintro k w4 Kn ⟨hkn, v4, z4, hst4⟩ hKn
    (intro _; (try simp only [gx]); (with_reducible refine iLt ?_))
    refine iCndP (fun h5 => ?_) (fun h5 => ?_)
    · have hk1 : k < n := by omega
      refine iRet (ok_impl_has (setOf im) k (by omega) (by omega) w4) fun w5 h5' => ?_
      have hst5 := hst4.later h5'
      rw [setOf_testBit]
      refine iNot ?_
      have hfs := freeL_succ im k
      refine iCnd (fun hc => ?_) (fun hc => ?_)
      · have hc : im.contains k = false := by simpa using hc
        rw [hc] at hfs
        have hc' : ¬ k ∈ im := by simpa using hc
        refine iLdB hst5.kbo rfl ?_
        have hil : (ints (nats im)).length = im.length := by rw [ints_length, nats_length]
        refine iApp1A u_Si64 i_Si64 rfl hst5.ow rfl (by omega) (by omega) (by rw [hk.lo]; exact hst5.ext.size) fun v' w7 ho hgr hat => ?_
        rw [ints_snoc] at ho
        refine PSt.put hk hst5 hgr ho hat fun w8 hst8 => ?_
        refine iLdB hst8.kbg rfl ?_
        refine iShlOne (by omega) ?_
        refine iBOr (by omega) (Nat.pow_lt_pow_right (by omega) (by omega)) ?_
        intro w9 h9
        have hst9 := hst8.later h9
        rw [← setOf_snoc]
        refine iClo rfl ((ih (im ++ [k]) w9 v' z4 _ (by rw [List.length_append, List.length_singleton]; omega) (fun x hx => by
          rcases List.mem_append.1 hx with hx | hx
          · exact hlt x hx
          · simp at hx; omega) (by
          rw [List.nodup_append]
          exact ⟨hnd, by simp, fun x hx y hy => by
            simp at hy
            subst hy
            intro e
            subst e
            exact hc' hx⟩) hst9).mono ?_)
        rintro _ w10 ⟨v10, z10, hst10⟩
        intro w11 h11
        have hst11 := hst10.later h11
        refine iLdB hst11.kbo rfl ?_
        refine iLdB hst11.kbo rfl ?_
        have how := hst11.ow
        rw [← ints_snoc] at how
        refine iLenS hst11.ow.sl ?_
        rw [ints_length, nats_length, List.length_append, List.length_singleton]
        refine iSub (by omega) ?_
        rw [show (((im.length + 1 : Nat) : Int) - 1) = ((ints (nats im)).length : Int) by omega]
        refine iSlDown how fun v12 hb12 ho12 => ?_
        refine PSt.put hk hst11 (grown_refl w11 _) ho12 (.inl hb12) fun w12 hst12 => ?_
        (refine iAdd (by omega) ?_)
        refine hKn (k + 1) _ ⟨by omega, v12, z10, ?_⟩ (by omega)
        rw [hfs]
        simpa using hst12
      · have hc : im.contains k = true := by simpa using hc
        rw [hc] at hfs
        (refine iAdd (by omega) ?_)
        refine hKn (k + 1) _ ⟨by omega, v4, z4, ?_⟩ (by omega)
        rw [hfs]
        simpa using hst5
    · have e : k = n := by omega
      subst e
      exact ⟨v4, z4, hst4⟩
theorem ok_impl_leastRelation {va : Value} {w : World} {a : List Nat} {n : Nat} (ha : SlN w va a) (hca : isCell va = true) (hn : n ≤ 6) (hal : a.length = n) (ham : ∀ x ∈ a, x < 2 ^ n) : Cal Tryz.prog f_impl_leastRelation #[va] w fun r w' => Ext w w' ∧ Ow w.heap.size t_i64 w' r (ints (nats (least a))) := by
  apply c_impl_leastRelation; unfold S_impl_leastRelation
  rw [isCell_cells hca]
  refine iNew fun ba w1 hba h1 hBa => ?_
  refine iLdB hBa rfl ?_
  refine iCall ((ok_slices_Clone_Si64_i64 (ha.ext h1) (by rw [nats_length]; omega)).mono ?_)
  rintro z w2 ⟨h2, hoz⟩
  refine iNew fun c w3 hc3 h3 hBc => ?_
  have hoz3 := hoz.ext h3
  refine iStB hBc (by simp [Value.cells]) hoz.cell fun hBc4 => ?_
  have hu4 := Upd.setCell w3 c 0 z
  have hs1 := h1.size
  have hs2 := h2.size
  have hs3 := h3.size
  have hX3 := h1.trans (h2.trans h3)
  have hX4 := hX3.upd hu4 (by omega)
  have hBa2 := (hBa.ext h2)
  have hlt := hBa2.lt
  have hBa4 := (hBa2.ext h3).upd hu4 (by omega)
  have hoz4 := hoz3.upd hu4 (hoz3.ne_blk hBc (by decide))
  have hs4 := hu4.size
  generalize w3.setCell ⟨c, 0, none⟩ z = w4 at *
  refine iLdB hBa4 rfl ?_
  refine iRet (ok_impl_size_i64 (Sl.ext ha hX4)) fun w5 h5 => ?_
  rw [ints_length, nats_length, hal]
  have hX5 := hX4.trans h5
  have hs5 := h5.size
  have hBa5 := hBa4.ext h5
  have hBc5 := Blk.ext hBc4 h5
  have hoz5 := hoz4.ext h5
  suffices hP : Cal Tryz.prog f_impl_permutations #[.int .i64 (n : Int), .func (.func f_impl_leastRelation_1) #[] #[.pointer (some ⟨ba, 0, none⟩), .pointer (some ⟨c, 0, none⟩)]] w5 fun _ w' => Ext w w' ∧ ∃ z', Blk t_Si64 w' c [z'] ∧ Ow w.heap.size t_i64 w' z' (ints (nats (least a))) by
    refine iCall (hP.mono ?_)
    rintro _ w6 ⟨hX6, z', hc6, hz6⟩
    refine iLdB hc6 rfl ?_
    exact ⟨hX6, hz6⟩
  apply c_impl_permutations; unfold S_impl_permutations
  refine iNew fun bn w6 hbn h6 hBn => ?_
  refine iNew fun bf w7 hbf h7 hBf => ?_
  have hBn7 := hBn.ext h7
  refine iLdB hBn7 rfl ?_
  refine iMk0 (by omega) (by omega) rfl fun v w8 h8 hov hvb => ?_
  refine iNew fun bo w9 hbo h9 hBo => ?_
  refine iStB hBo (by simp [Value.cells]) hov.cell fun hBo10 => ?_
  have hu10 := Upd.setCell w9 bo 0 v
  have hs6 := h6.size
  have hs7 := h7.size
  have hs8 := h8.size
  have hs9 := h9.size
  have hs10 := hu10.size
  have h59 := h6.trans (h7.trans (h8.trans h9))
  have hX10 := (hX5.trans h59).upd hu10 (by omega)
  have hBc5l := hBc5.lt
  have hBa5l := hBa5.lt
  have hBc10 := (hBc5.ext h59).upd hu10 (by omega)
  have hBa10 := (hBa5.ext h59).upd hu10 (by omega)
  have hoz10 := (hoz5.ext h59).upd hu10 (fun hc => by have := (hoz5.blk _ hc).2; omega)
  have hBn10 := ((hBn7.ext h8).ext h9).upd hu10 (by omega)
  have hBf10 := ((hBf.ext h8).ext h9).upd hu10 (by omega)
  have hov10 := (hov.ext h9).upd hu10 (fun hc => by have := (hov.blk _ hc).2; omega)
  generalize w9.setCell ⟨bo, 0, none⟩ v = w10 at *
  refine iNew fun bg w11 hbg h11 hBg => ?_
  refine iStB hBg (by simp [Value.cells]) rfl fun hBg12 => ?_
  have hu12 := Upd.setCell w11 bg 0 (.func (.func f_impl_permutations_1) #[] #[.pointer (some ⟨bo, 0, none⟩), .pointer (some ⟨bn, 0, none⟩), .pointer (some ⟨bf, 0, none⟩), .pointer (some ⟨bg, 0, none⟩)])
  have hs11 := h11.size
  have hs12 := hu12.size
  have hX12 := (hX10.trans h11).upd hu12 (by omega)
  have hBo10l := Blk.lt hBo10
  have hBc12 := (hBc10.ext h11).upd hu12 (by omega)
  have hBa12 := (hBa10.ext h11).upd hu12 (by omega)
  have hoz12 := (hoz10.ext h11).upd hu12 (fun hc => by have := (hoz5.blk _ hc).2; omega)
  have hBn12 := (hBn10.ext h11).upd hu12 (by omega)
  have hBf12 := (hBf10.ext h11).upd hu12 (by omega)
  have hov12 := (hov10.ext h11).upd hu12 (fun hc => by have := (hov.blk _ hc).2; omega)
  have hBo12 := (Blk.ext hBo10 h11).upd hu12 (by omega)
  refine iLdB hBg12 rfl ?_
  have hPB : PBk w w.heap.size bo bn bf bg ba c 113 176 := ⟨rfl, by decide, by decide, by omega, by omega, by omega, by omega, by omega⟩
  have hPS : PSt w w.heap.size n bo bn bf bg ba c _ _ va a [] (w11.setCell ⟨bg, 0, none⟩ (.func (.func f_impl_permutations_1) #[] #[.pointer (some ⟨bo, 0, none⟩), .pointer (some ⟨bn, 0, none⟩), .pointer (some ⟨bf, 0, none⟩), .pointer (some ⟨bg, 0, none⟩)])) v z [] :=
    ⟨hX12, hBo12, hBn12, hBf12, hBg12, hBa12, hBc12, hov12.mono (by omega), hoz12.mono (by omega), fun k hk hz => by have := hvb k hk; have := (hoz5.blk k hz).2; omega, fun hc => by have := hvb _ hc; omega, fun hc => by have := (hoz5.blk _ hc).2; omega⟩
  refine iClo rfl ((ok_impl_permutations_1 hPB ha hn hal ham n [] _ v z [] (by simp) (by simp) (by simp) hPS).mono ?_)
  rintro _ w13 ⟨v', z', hst⟩
  refine ⟨hst.ext, z', hst.kc, ?_⟩
  have hz := hst.kz
  rw [List.nil_append, ords_eq] at hz
  unfold least
  rw [hal]
  exact hz
end Go.Proofs.YtaipnnkpplinoaaGreatDoor

namespace Go.Proofs.YtaipnnkpplinoaaGreatDoor
open Go.Vc
theorem grB_snoc {c : List Nat} (h : grB 0 c = true) {u : Nat} (hu : u ≤ topG 0 c) : grB 0 (c ++ [u]) = true := by
  rw [grB_app, h, Bool.true_and]
  simp only [grB, Bool.and_eq_true, decide_eq_true_eq]
  exact ⟨hu, trivial⟩
theorem max_topG {t u : Nat} (hu : u ≤ t) : max t (u + 1) = if u = t then t + 1 else t := by split <;> omega
structure VisG (vis : Value) (n z : Nat) where
  J : (Nat → Prop) → List (List Nat) → World → Prop
  below : ∀ {S l w}, J S l w → ∀ k, S k → k < w.heap.size
  keep : ∀ {S T l w w'}, J S l w → Ch T w w' → (∀ b, T b → ¬ S b ∧ z ≤ b) → J S l w'
  visit : ∀ {S l w v lo c}, J S l w → Ow lo t_i64 w v (ints (nats c)) → c.length = n → grB 0 c = true → (∀ b, v.ownBlock = some b → ¬ S b) → l.length < 1000000 →
    callV Tryz.prog vis [v] w fun _ w' => ∃ S', J S' (l ++ [c]) w' ∧ Ch S w w' ∧ ∀ k, S' k → S k ∨ w.heap.size ≤ k
structure GrK (z : Nat) (w0 : World) (bo : Nat) (eF eG : TypeId) : Prop where
  eF : eF ≠ t_i64 ∧ eF ≠ t_Si64
  eG : eG ≠ t_i64 ∧ eG ≠ t_Si64
  bo : w0.heap.size ≤ bo
  z : z ≤ w0.heap.size
structure GrS {vis : Value} {n z : Nat} (V : VisG vis n z) (S0 : Nat → Prop) (w0 : World) (bo bn bf bg : Nat) (eF eG : TypeId) (c : List Nat) (S : Nat → Prop) (l : List (List Nat)) (w : World) (v : Value) : Prop where
  ch : Ch S0 w0 w
  sub : ∀ k, S k → S0 k ∨ w0.heap.size ≤ k
  kbo : Blk t_Si64 w bo [v]
  kbn : Blk t_i64 w bn [.int .i64 (n : Int)]
  kbf : Blk eF w bf [vis]
  kbg : Blk eG w bg [.func (.func f_impl_allClasses_1) #[] #[.pointer (some ⟨bo, 0, none⟩), .pointer (some ⟨bn, 0, none⟩), .pointer (some ⟨bf, 0, none⟩), .pointer (some ⟨bg, 0, none⟩)]]
  ow : Ow w0.heap.size t_i64 w v (ints (nats c))
  inv : V.J S l w
  nS : ¬ S bo ∧ ¬ S bn ∧ ¬ S bf ∧ ¬ S bg
  nv : ∀ b, v.ownBlock = some b → ¬ S b ∧ b ≠ bn
section
variable {vis : Value} {n z : Nat} {V : VisG vis n z} {S0 : Nat → Prop} {w0 : World} {bo bn bf bg : Nat} {eF eG : TypeId}
theorem GrS.later {c : List Nat} {S : Nat → Prop} {l : List (List Nat)} {w w' : World} {v : Value} (h : GrS V S0 w0 bo bn bf bg eF eG c S l w v) (x : Ext w w') : GrS V S0 w0 bo bn bf bg eF eG c S l w' v :=
  ⟨h.ch.trans (x.ch (S := S0)) fun _ k => .inl k, h.sub, h.kbo.ext x, h.kbn.ext x, h.kbf.ext x, h.kbg.ext x, h.ow.ext x, V.keep h.inv (x.ch (S := fun _ => False)) fun _ k => k.elim, h.nS, h.nv⟩
theorem GrS.put {c c' : List Nat} {S : Nat → Prop} {l : List (List Nat)} {w w' : World} {v v' : Value} (hk : GrK z w0 bo eF eG) (h : GrS V S0 w0 bo bn bf bg eF eG c S l w v)
    (hg : w.grownBy w' v.ownBlock) (hv : Ow w0.heap.size t_i64 w' v' (ints (nats c'))) (hat : v'.ownBlock = v.ownBlock ∨ ∃ k, v'.ownBlock = some k ∧ w.heap.size ≤ k) {K : World → Prop}
    (hK : ∀ w'', GrS V S0 w0 bo bn bf bg eF eG c' S l w'' v' → K w'') : xSt w' (.pointer (some ⟨bo, 0, none⟩)) v' K := by
  have hgc := grown_ch (S := fun k => v.ownBlock = some k) hg (fun k hk => hk)
  have hne : ∀ {e : TypeId} {b : Nat} {cs : List Value}, Blk e w b cs → t_i64 ≠ e → v.ownBlock ≠ some b := fun hb he => h.ow.ne_blk hb he
  have hbo := h.kbo.ch hgc (hne h.kbo (by decide))
  refine iStB hbo (by simp) hv.cell fun hbo2 => hK _ ?_
  have hu := Upd.setCell w' bo 0 v'
  have hbn' : bo ≠ bn := fun e => by
    have := Blk.ne_blk h.kbn h.kbo (by decide)
    exact this e.symm
  have hC : Ch (fun k => v.ownBlock = some k ∨ k = bo) w (w'.setCell ⟨bo, 0, none⟩ v') := (hgc.mono fun _ h => .inl h).trans (hu.ch (S := fun k => v.ownBlock = some k ∨ k = bo) (.inr rfl)) fun _ h => .inl h
  refine ⟨h.ch.trans hC fun b hb => .inr ?_, h.sub, hbo2, (h.kbn.ch hgc fun e => (h.nv _ e).2 rfl).upd hu (fun e => hbn' e.symm), (h.kbf.ch hgc (hne h.kbf fun e => hk.eF.1 e.symm)).upd hu (Blk.ne_blk h.kbf h.kbo hk.eF.2), (h.kbg.ch hgc (hne h.kbg fun e => hk.eG.1 e.symm)).upd hu (Blk.ne_blk h.kbg h.kbo hk.eG.2), hv.upd hu (hv.ne_blk hbo (by decide)),
    V.keep h.inv hC fun b hb => ⟨fun hS => ?_, Nat.le_trans hk.z ?_⟩, h.nS, fun b hb => ?_⟩
  · rcases hb with hb | hb
    · exact (h.ow.blk b hb).1
    · rw [hb]; exact hk.bo
  · rcases hb with hb | hb
    · exact (h.nv b hb).1 hS
    · subst hb; exact h.nS.1 hS
  · rcases hb with hb | hb
    · exact (h.ow.blk b hb).1
    · rw [hb]; exact hk.bo
  · rcases hat with h1 | ⟨k', h1, h2⟩
    · exact h.nv b (by rw [← h1]; exact hb)
    · rw [h1] at hb
      cases hb
      refine ⟨fun hS => ?_, fun e => ?_⟩
      · have := V.below h.inv _ hS
        omega
      · have := h.kbn.lt
        omega
theorem ok_impl_allClasses_1 (hk : GrK z w0 bo eF eG) (hn : n ≤ 6) :
    ∀ (d : Nat) (c : List Nat) (w : World) (v : Value) (S : Nat → Prop) (l : List (List Nat)), c.length + d = n → grB 0 c = true → l.length + 6 ^ d ≤ 46656 → GrS V S0 w0 bo bn bf bg eF eG c S l w v →
      Cal Tryz.prog f_impl_allClasses_1 #[.int .i64 ((topG 0 c : Nat) : Int), .pointer (some ⟨bo, 0, none⟩), .pointer (some ⟨bn, 0, none⟩), .pointer (some ⟨bf, 0, none⟩), .pointer (some ⟨bg, 0, none⟩)] w fun _ w' => ∃ v' S', GrS V S0 w0 bo bn bf bg eF eG c S' (l ++ growL d (topG 0 c) c) w' v' := by
  intro d
  induction d with
  | zero =>
    intro c w v S l hlen hg hb hst
    apply c_impl_allClasses_1; unfold S_impl_allClasses_1
    refine iLdB hst.kbo rfl ?_
    refine iRetQ (fun w' h' => ok_impl_size_i64 (Sl.ext hst.ow.sl h')) ?_
    rw [ints_length, nats_length]
    refine iLdB hst.kbn rfl ?_
    refine iEq ?_
    intro w1 h1
    have hst1 := hst.later h1
    refine iCndP (fun h2 => ?_) (fun h2 => absurd (show (c.length : Int) = n by omega) h2)
    refine iLdB hst1.kbf rfl ?_
    refine iLdB hst1.kbo rfl ?_
    refine (V.visit hst1.inv hst1.ow (by omega) hg (fun b hb => (hst1.nv b hb).1) (by omega)).mono ?_
    rintro _ w2 ⟨S', hJ, hch, hS'⟩
    have nb : ∀ {e : TypeId} {b : Nat} {cs : List Value}, Blk e w1 b cs → ¬ S b → ¬ S' b := fun hB hn h => (hS' _ h).elim hn fun h => by have := hB.lt; omega
    obtain ⟨n1, n2, n3, n4⟩ := hst1.nS
    refine ⟨v, S', hst1.ch.trans hch hst1.sub, fun b hb => (hS' b hb).elim (hst1.sub b) fun h => .inr (Nat.le_trans hst1.ch.size h), hst1.kbo.ch hch n1, hst1.kbn.ch hch n2, hst1.kbf.ch hch n3, hst1.kbg.ch hch n4, hst1.ow.ch hch fun b hb => (hst1.nv b hb).1, hJ, ⟨nb hst1.kbo n1, nb hst1.kbn n2, nb hst1.kbf n3, nb hst1.kbg n4⟩, fun b hb => ⟨fun h => (hS' b h).elim (hst1.nv b hb).1 fun h => by have := (hst1.ow.blk b hb).2; omega, (hst1.nv b hb).2⟩⟩
  | succ d ih =>
    intro c w v S l hlen hg hb hst
    have htop := topG_le c 0
    apply c_impl_allClasses_1; unfold S_impl_allClasses_1
    refine iLdB hst.kbo rfl ?_
    refine iRetQ (fun w' h' => ok_impl_size_i64 (Sl.ext hst.ow.sl h')) ?_
    rw [ints_length, nats_length]
    refine iLdB hst.kbn rfl ?_
    refine iEq ?_
    intro w1 h1
    have hst1 := hst.later h1
    refine iCndP (fun h2 => absurd h2 (by omega)) (fun h2 => ?_)
    refine iAdd (by omega) ?_
    have hgl : ∀ u, ((List.range u).flatMap fun u => growL d (if u = topG 0 c then topG 0 c + 1 else topG 0 c) (c ++ [u])).length ≤ u * 6 ^ d := fun u => by
      have := flatMap_len (fun u => growL d (if u = topG 0 c then topG 0 c + 1 else topG 0 c) (c ++ [u])) (6 ^ d) (List.range u) fun x _ => growL_len d _ _ (by split <;> omega)
      rwa [List.length_range] at this
    refine iLp (fun k : Nat => [.int .i64 (k : Int)]) (fun k w' => k ≤ topG 0 c + 1 ∧ ∃ v S', GrS V S0 w0 bo bn bf bg eF eG c S' (l ++ (List.range k).flatMap fun u => growL d (if u = topG 0 c then topG 0 c + 1 else topG 0 c) (c ++ [u])) w' v) (fun k => topG 0 c + 1 - k) 0 rfl ⟨Nat.zero_le _, v, S, by simpa using hst1⟩ ?_
    rintro k w4 Kn ⟨hkn, v4, S4, hst4⟩ hKn
    intro _
    simp only [gx]
    refine iLt (iCndP (fun h5 => ?_) (fun h5 => ?_))
    · have hk1 : k ≤ topG 0 c := by omega
      refine iLdB hst4.kbo rfl ?_
      have hil : (ints (nats c)).length = c.length := by rw [ints_length, nats_length]
      refine iApp1A u_Si64 i_Si64 rfl hst4.ow rfl (by omega) (by omega) hst4.ch.size fun v' w7 ho hgr hat => ?_
      rw [ints_snoc] at ho
      refine GrS.put hk hst4 hgr ho hat fun w8 hst8 => ?_
      refine iLdB hst8.kbg rfl ?_
      refine iAdd (by omega) ?_
      rw [show (k : Int) + 1 = ((k + 1 : Nat) : Int) by omega]
      refine iMaxN ?_
      rw [max_topG hk1, ← topG_snoc]
      have hg2 := grB_snoc hg hk1
      have hlk := hgl k
      have hp6 : 6 ^ (d + 1) = 6 * 6 ^ d := by rw [Nat.pow_succ, Nat.mul_comm]
      have hk6 : (k + 1) * 6 ^ d ≤ 6 * 6 ^ d := Nat.mul_le_mul_right _ (by omega)
      rw [Nat.add_mul, Nat.one_mul] at hk6
      refine iClo rfl ((ih (c ++ [k]) w8 v' S4 _ (by rw [List.length_append, List.length_singleton]; omega) hg2 (by rw [List.length_append]; omega) hst8).mono ?_)
      rintro _ w10 ⟨v10, S10, hst10⟩
      have hst11 := hst10
      refine iLdB hst11.kbo rfl ?_
      refine iLdB hst11.kbo rfl ?_
      have how := hst11.ow
      rw [← ints_snoc] at how
      refine iLenS hst11.ow.sl ?_
      rw [ints_length, nats_length, List.length_append, List.length_singleton]
      refine iSub (by omega) ?_
      rw [show (((c.length + 1 : Nat) : Int) - 1) = ((ints (nats c)).length : Int) by omega]
      refine iSlDown how fun v12 hb12 ho12 => ?_
      refine GrS.put hk hst11 (grown_refl w10 _) ho12 (.inl hb12) fun w12 hst12 => ?_
      refine iAdd (by omega) ?_
      refine hKn (k + 1) _ ⟨by omega, v12, S10, ?_⟩ (by omega)
      rw [flatMap_range_succ, ← List.append_assoc]
      rw [topG_snoc] at hst12
      exact hst12
    · have e : k = topG 0 c + 1 := by omega
      subst e
      exact ⟨v4, S4, hst4⟩
end
theorem ok_impl_allClasses {vis : Value} {n z : Nat} (V : VisG vis n z) (hcv : isCell vis = true) (hn : n ≤ 6) {S0 : Nat → Prop} {w : World} (hz : z ≤ w.heap.size) (hJ : V.J S0 [] w) :
    Cal Tryz.prog f_impl_allClasses #[.int .i64 (n : Int), vis] w fun _ w' => ∃ S', V.J S' (clsL n) w' ∧ Ch S0 w w' ∧ ∀ k, S' k → S0 k ∨ w.heap.size ≤ k := by
  have hSlt : ∀ b, S0 b → b < w.heap.size := V.below hJ
  apply c_impl_allClasses; unfold S_impl_allClasses
  refine iNew fun bn w6 hbn h6 hBn => ?_
  refine iNew fun bf w7 hbf h7 hBf => ?_
  rw [isCell_cells hcv] at hBf
  have hBn7 := hBn.ext h7
  refine iLdB hBn7 rfl ?_
  refine iMk0 (by omega) (by omega) rfl fun v w8 h8 hov hvb => ?_
  refine iNew fun bo w9 hbo h9 hBo => ?_
  refine iStB hBo (by simp [Value.cells]) hov.cell fun hBo10 => ?_
  have hu10 := Upd.setCell w9 bo 0 v
  have hs6 := h6.size
  have hs7 := h7.size
  have hs8 := h8.size
  have hs9 := h9.size
  have hs10 := hu10.size
  have h59 := h6.trans (h7.trans (h8.trans h9))
  have hX10 := h59.upd hu10 (by omega)
  have hBn10 := ((hBn7.ext h8).ext h9).upd hu10 (by omega)
  have hBf10 := ((hBf.ext h8).ext h9).upd hu10 (by omega)
  have hov10 := (hov.ext h9).upd hu10 (fun hc => by have := (hov.blk _ hc).2; omega)
  generalize w9.setCell ⟨bo, 0, none⟩ v = w10 at *
  refine iNew fun bg w11 hbg h11 hBg => ?_
  refine iStB hBg (by simp [Value.cells]) rfl fun hBg12 => ?_
  have hu12 := Upd.setCell w11 bg 0 (.func (.func f_impl_allClasses_1) #[] #[.pointer (some ⟨bo, 0, none⟩), .pointer (some ⟨bn, 0, none⟩), .pointer (some ⟨bf, 0, none⟩), .pointer (some ⟨bg, 0, none⟩)])
  have hs11 := h11.size
  have hs12 := hu12.size
  have hX12 := (hX10.trans h11).upd hu12 (by omega)
  have hBo10l := Blk.lt hBo10
  have hBn12 := (hBn10.ext h11).upd hu12 (by omega)
  have hBf12 := (hBf10.ext h11).upd hu12 (by omega)
  have hov12 := (hov10.ext h11).upd hu12 (fun hc => by have := (hov.blk _ hc).2; omega)
  have hBo12 := (Blk.ext hBo10 h11).upd hu12 (by omega)
  refine iLdB hBg12 rfl ?_
  have hK : GrK z w bo 113 176 := ⟨by decide, by decide, by omega, hz⟩
  have hS : GrS V S0 w bo bn bf bg _ _ [] S0 [] (w11.setCell ⟨bg, 0, none⟩ (.func (.func f_impl_allClasses_1) #[] #[.pointer (some ⟨bo, 0, none⟩), .pointer (some ⟨bn, 0, none⟩), .pointer (some ⟨bf, 0, none⟩), .pointer (some ⟨bg, 0, none⟩)])) v :=
    ⟨hX12.ch, fun _ h => .inl h, hBo12, hBn12, hBf12, hBg12, hov12.mono (by omega), V.keep hJ (hX12.ch (S := fun _ => False)) fun _ h => h.elim, ⟨fun h => by have := hSlt _ h; omega, fun h => by have := hSlt _ h; omega, fun h => by have := hSlt _ h; omega, fun h => by have := hSlt _ h; omega⟩, fun b hb => ⟨fun h => by have := hSlt _ h; have := (hov.blk b hb).1; omega, fun e => by have := (hov.blk b hb).1; omega⟩⟩
  refine iClo rfl ((ok_impl_allClasses_1 hK hn n [] _ v S0 [] (by simp) rfl (by rw [List.length_nil, Nat.zero_add]; exact Nat.le_trans (Nat.pow_le_pow_right (by omega) hn) (by decide)) hS).mono ?_)
  rintro _ w13 ⟨v', S', hst⟩
  exact ⟨S', hst.inv, hst.ch, hst.sub⟩
theorem LLw.ne {lo : Nat} {w : World} {v : Value} {P : List VC} (h : LLw lo w v P) {e : TypeId} {b : Nat} {cs : List Value} (hb : Blk e w b cs) (h1 : t_Si64 ≠ e) (h2 : t_i64 ≠ e) : v.ownBlock ≠ some b ∧ ∀ p ∈ P, p.1.ownBlock ≠ some b :=
  ⟨h.row.ne_blk hb h1, fun p hp => (h.each p hp).ne_blk hb h2⟩
theorem LLw.ch {lo : Nat} {S : Nat → Prop} {w w' : World} {v : Value} {P : List VC} (h : LLw lo w v P) (k : Ch S w w') (hn : ∀ b, S b → v.ownBlock ≠ some b ∧ ∀ p ∈ P, p.1.ownBlock ≠ some b) : LLw lo w' v P :=
  ⟨h.row.ch k fun b hb hS => (hn b hS).1 hb, fun p hp => (h.each p hp).ch k fun b hb hS => (hn b hS).2 p hp hb⟩
theorem iApLLd {lo : Nat} {w : World} {v x : Value} {P : List VC} {c : List Nat} {K : Value → World → Prop} (hlo : lo ≤ w.heap.size) (h : LLw lo w v P) (hx : Ow lo t_i64 w x (ints (nats c))) (hP : P.length ≤ 1099511627776)
    (hK : ∀ v' w', LLw lo w' v' (P ++ [(x, c)]) → Ch (fun b => v.ownBlock = some b) w w' → (v'.ownBlock = v.ownBlock ∨ ∃ b, v'.ownBlock = some b ∧ w.heap.size ≤ b) → K v' w') : xBs t_Si64 (Value.cells (.slice none 0 0)) 1 1 [(0, x)] w fun y w1 => Ext w w1 ∧ ∀ w2, Ext w1 w2 → xOp Tryz.prog (Builtin.append_ #[t_SSi64, t_SSi64] t_SSi64 #[v, y]) w2 K := by
  refine iBs1 rfl hx.cell fun b w1 _ h1 hB => ⟨h1, fun w2 h2 => ?_⟩
  have h12 := h1.trans h2
  have hz := h12.size
  refine iAppA u_SSi64 i_SSi64 rfl (h.row.ext h12) (Sl.ofBlk (hB.ext h2) rfl (by omega)) (by simpa using hx.cell) (by rw [List.length_map]; show (P.length + 1) * _ ≤ _; omega) (by rw [List.length_map]; show P.length + 1 ≤ _; omega) (by omega) fun v' w' ho hg hat => ?_
  have hC := grown_ch (S := fun b => v.ownBlock = some b) hg fun b hb => hb
  refine hK v' w' ?_ ((h12.ch (S := fun b => v.ownBlock = some b)).trans hC fun _ h => .inl h) (hat.imp id fun ⟨b, h1, h2⟩ => ⟨b, h1, by omega⟩)
  have key : ∀ {u : Value} {d : List Value}, Ow lo t_i64 w2 u d → Ow lo t_i64 w' u d := fun {u d} hu => hu.ch hC fun b hb hv => by
    obtain ⟨_, h1⟩ := hu.ty hb
    obtain ⟨_, h2⟩ := (h.row.ext h12).ty hv
    rw [h1] at h2
    injection h2 with h2
    injection h2 with _ h2
    exact absurd h2 (by decide)
  refine ⟨by simpa using ho, fun p hp => ?_⟩
  rcases List.mem_append.1 hp with hp | hp
  · exact key ((h.each p hp).ext h12)
  · rw [List.mem_singleton] at hp
    subst hp
    exact key (hx.ext h12)
theorem ok_impl_congruences_1 {f : Fr} (hf : f.ok) {v0 vc vo : Value} {w : World} {bF bO lo : Nat} {P : List VC} {c : List Nat} (hs : SlN w v0 f.a) (hBf : Blk 26 w bF [.int .i64 (f.n : Int), v0]) (hBo : Blk t_SSi64 w bO [vo]) (hP : LLw lo w vo P) (hc : SlN w vc c) (hg : grB 0 c = true) (hl : c.length = f.n) (hlen : P.length ≤ 1000000) (hlo : lo ≤ w.heap.size) :
    Cal Tryz.prog f_impl_congruences_1 #[vc, .pointer (some ⟨bF, 0, none⟩), .pointer (some ⟨bO, 0, none⟩)] w fun _ w' => ∃ vo' P', Blk t_SSi64 w' bO [vo'] ∧ LLw lo w' vo' P' ∧ P'.map Prod.snd = P.map Prod.snd ++ (if corB f c = true then [c] else []) ∧ Ch (fun k => k = bO ∨ vo.ownBlock = some k) w w' ∧ (vo'.ownBlock = vo.ownBlock ∨ ∃ b, vo'.ownBlock = some b ∧ w.heap.size ≤ b) ∧ ∀ p ∈ P', p ∈ P ∨ ∀ b, p.1.ownBlock = some b → w.heap.size ≤ b := by
  have h8 := hf.1
  apply c_impl_congruences_1; unfold S_impl_congruences_1
  refine iLdA hBf rfl ?_
  refine iRet (ok_impl_isCongruence hf hs hc) fun w1 x1 => ?_
  have hBf := hBf.ext x1
  have hBo := hBo.ext x1
  have hP1 := hP.ext x1
  rw [congB_nats, decide_eq_true hl, hg, Bool.true_and, Bool.true_and]
  cases hb : corB f c
  · refine iCndF rfl ⟨vo, P, hBo, hP1, by simp, x1.ch, .inl rfl, fun p hp => .inl hp⟩
  refine iCndT rfl ?_
  refine iLdB hBo (v := vo) rfl ?_
  intro wa xa
  refine iCall ((ok_slices_Clone_Si64_i64 (hc.ext (x1.trans xa)) (by rw [nats_length]; omega)).mono ?_)
  rintro z wb ⟨xb, hz⟩
  refine ⟨xb, fun w2 xc => ?_⟩
  have x2 : Ext w1 w2 := (xa.trans xb).trans xc
  have hs1 := x1.size
  have hsa := xa.size
  have hs2 := x2.size
  refine iApLLd (by omega) (hP1.ext x2) ((hz.ext xc).mono (by omega)) (by omega) fun vo' w3 hP3 hch3 hat => ?_
  intro wd xd
  have hBo3 := ((hBo.ext x2).ch hch3 fun e => hP1.row.ne_blk hBo (by decide) e).ext xd
  have hP3 := hP3.ext xd
  refine iStB hBo3 (i := 0) (by simp) hP3.row.cell fun hBo4 => ?_
  have hu := Upd.setCell wd bO 0 vo'
  have hne := hP3.ne hBo3 (by decide) (by decide)
  intro we xe
  refine ⟨vo', _, Blk.ext hBo4 xe, (hP3.ch (hu.ch (S := fun k => k = bO) rfl) (fun b hb => by rw [hb]; exact hne)).ext xe, by simp, ?_, ?_, fun p hp => ?_⟩
  · have hC3 : Ch (fun k => k = bO ∨ vo.ownBlock = some k) w wd := (((x1.trans x2).ch (S := fun k => k = bO ∨ vo.ownBlock = some k)).trans (hch3.mono fun _ h => (.inr h : _ = bO ∨ _)) fun b h => .inl h).trans (xd.ch (S := fun _ => False)) fun b h => h.elim
    exact (hC3.trans (hu.ch (S := fun k => k = bO ∨ vo.ownBlock = some k) (.inl rfl)) fun b h => .inl h).trans (xe.ch (S := fun _ => False)) fun b h => h.elim
  · exact hat.imp id fun ⟨b, h1, h2⟩ => ⟨b, h1, by omega⟩
  · rcases List.mem_append.1 hp with hp | hp
    · exact .inl hp
    · rw [List.mem_singleton] at hp
      subst hp
      exact .inr fun b hb => by have := (hz.blk b hb).1; omega
def visCong (f : Fr) (hf : f.ok) (v0 : Value) (w0 : World) (hs : SlN w0 v0 f.a) (bF bO : Nat) : VisG (.func (.func f_impl_congruences_1) #[] #[.pointer (some ⟨bF, 0, none⟩), .pointer (some ⟨bO, 0, none⟩)]) f.n w0.heap.size where
  J S A w := Ext w0 w ∧ w0.heap.size ≤ bO ∧ Blk 26 w bF [.int .i64 (f.n : Int), v0] ∧ ∃ vo P, S = (fun k => k = bF ∨ k = bO ∨ vo.ownBlock = some k ∨ ∃ p ∈ P, p.1.ownBlock = some k) ∧ Blk t_SSi64 w bO [vo] ∧ LLw w0.heap.size w vo P ∧ P.map Prod.snd = A.filter (corB f)
  below := by
    rintro S A w ⟨hX, hbO, hBf, vo, P, rfl, hBo, hP, hA⟩ k (rfl | rfl | hk | ⟨p, hp, hk⟩)
    · exact hBf.lt
    · exact hBo.lt
    · exact (hP.row.blk k hk).2
    · exact ((hP.each p hp).blk k hk).2
  keep := by
    rintro S T A w w' ⟨hX, hbO, hBf, vo, P, rfl, hBo, hP, hA⟩ hch hT
    refine ⟨hX.thenCh hch fun b hb => (hT b hb).2, hbO, hBf.ch hch fun h => (hT _ h).1 (.inl rfl), vo, P, rfl, hBo.ch hch fun h => (hT _ h).1 (.inr (.inl rfl)), hP.ch hch fun b hb => ⟨fun h => (hT b hb).1 (.inr (.inr (.inl h))), fun p hp h => (hT b hb).1 (.inr (.inr (.inr ⟨p, hp, h⟩)))⟩, hA⟩
  visit := by
    rintro S A w v lo c ⟨hX, hbO, hBf, vo, P, rfl, hBo, hP, hA⟩ ho hl hg hn hlen
    have hPl : P.length ≤ A.length := by
      have h1 := congrArg List.length hA
      rw [List.length_map] at h1
      rw [h1]
      exact List.length_filter_le _ _
    refine iClo rfl ((ok_impl_congruences_1 hf (hs.ext hX) hBf hBo hP ho.sl hg hl (by omega) hX.size).mono ?_)
    rintro _ w' ⟨vo', P', hBo', hP', hA', hch, hat, hnew⟩
    have hne := hP.row.ne_blk hBf (by decide)
    have hneO := hBf.ne_blk hBo (by decide)
    refine ⟨_, ⟨hX.thenCh hch fun b hb => ?_, hbO, hBf.ch hch fun h => h.elim (fun h => hneO h) fun h => hne h, vo', P', rfl, hBo', hP', ?_⟩, hch.mono fun b hb => ?_, fun b hb => ?_⟩
    · rcases hb with rfl | hb
      · exact hbO
      · exact (hP.row.blk b hb).1
    · rw [hA', hA, List.filter_append]
      congr 1
      cases hcb : corB f c
      · rw [if_neg (by simp)]; simp [hcb]
      · rw [if_pos rfl]; simp [hcb]
    · rcases hb with rfl | hb
      · exact .inr (.inl rfl)
      · exact .inr (.inr (.inl hb))
    · rcases hb with rfl | rfl | hb | ⟨p, hp, hb⟩
      · exact .inl (.inl rfl)
      · exact .inl (.inr (.inl rfl))
      · rcases hat with h | ⟨b', h, hb'⟩
        · exact .inl (.inr (.inr (.inl (by rw [← h]; exact hb))))
        · rw [h] at hb; cases hb; exact .inr hb'
      · rcases hnew p hp with h | h
        · exact .inl (.inr (.inr (.inr ⟨p, h, hb⟩)))
        · exact .inr (h b hb)
theorem ok_impl_congruences {f : Fr} (hf : f.ok) (h6 : f.n ≤ 6) {v0 : Value} {w : World} (hs : SlN w v0 f.a) :
    Cal Tryz.prog f_impl_congruences #[.agg #[.int .i64 (f.n : Int), v0]] w fun r w' => Ext w w' ∧ ∃ P, LLw w.heap.size w' r P ∧ P.map Prod.snd = congL f := by
  apply c_impl_congruences; unfold S_impl_congruences
  refine iNew fun bF w1 hbF x1 hBF => ?_
  have hBF : Blk 26 w1 bF [.int .i64 (f.n : Int), v0] := hBF
  refine iNew fun bO w2 hbO x2 hBO => ?_
  have hBO : Blk t_SSi64 w2 bO [.slice none 0 0] := hBO
  have hs1 := x1.size
  have X2 := x1.trans x2
  have hBF2 := hBF.ext x2
  refine iFa (iLdB hBF2 (i := 0) (v := .int .i64 (f.n : Int)) rfl ?_)
  refine iCall ((ok_impl_allClasses (visCong f hf v0 w hs bF bO) rfl h6 (S0 := fun k => k = bF ∨ k = bO ∨ (Value.slice none 0 0).ownBlock = some k ∨ ∃ p ∈ ([] : List VC), p.1.ownBlock = some k) X2.size ⟨X2, by omega, hBF2, .slice none 0 0, [], rfl, hBO, ⟨Ow.nil _ _ _, fun p hp => absurd hp (by simp)⟩, rfl⟩).mono ?_)
  rintro _ w3 ⟨S', ⟨hX, _, _, vo, P, _, hBo, hP, hA⟩, hch, _⟩
  refine iLdB hBo (v := vo) rfl ?_
  exact ⟨hX, P, hP, hA⟩
end Go.Proofs.YtaipnnkpplinoaaGreatDoor

namespace Go.Vc
def Rx (e : TypeId) (w : World) (g cap : Nat) (cur : List Value) : Prop := Blk e w g cur ∧ cur.length = cap * 2 ∧ cap ≤ 9223372036854775807
theorem OwK.rx {lo n : Nat} {e : TypeId} {w : World} {v : Value} {xs : List Value} (h : OwK 2 lo e w v n xs) (hn : 0 < n) :
    ∃ g cap cur, v = .slice (some ⟨g, 0, none⟩) n cap ∧ lo ≤ g ∧ n ≤ cap ∧ Rx e w g cap cur ∧ cur.take (n * 2) = xs := by
  obtain ⟨_, ⟨_, h0⟩ | ⟨g, cap, cur, hv, hg, hh, h1, h2, h3, h4⟩⟩ := h
  · omega
  · exact ⟨g, cap, cur.toList, hv, hg, h1, ⟨by unfold Blk; rw [Array.toArray_toList]; exact hh, by simpa using h3, h2⟩, h4⟩
section
variable {P : Program} {w : World} {e : TypeId} {g cap : Nat} {cur : List Value}
theorem Rx.own {lo n : Nat} {xs : List Value} (h : Rx e w g cap cur) (hl : lo ≤ g) (hn : n ≤ cap) (hx : cur.take (n * 2) = xs) : OwK 2 lo e w (.slice (some ⟨g, 0, none⟩) n cap) n xs :=
  ⟨by rw [← hx, List.length_take, h.2.1]; omega, .inr ⟨g, cap, cur.toArray, rfl, hl, h.1, hn, h.2.2, by simpa using h.2.1, by simpa using hx⟩⟩
theorem Rx.ext {w' : World} (h : Rx e w g cap cur) (x : Ext w w') : Rx e w' g cap cur := ⟨h.1.ext x, h.2⟩
theorem Rx.cell (h : Rx e w g cap cur) (i : Nat) : w.cell? ⟨g, i, none⟩ = cur[i]? := by
  have := h.1
  unfold Blk at this
  simp [World.cell?, this]
theorem Rx.sl (h : Rx e w g cap cur) {l m c o : Nat} (ho : 0 < m → o = l * 2) (hm : l + m ≤ cap) (hc : m ≤ c) (hcm : c ≤ 9223372036854775807) : SlK 2 w (.slice (some ⟨g, o, none⟩) m c) m ((cur.drop (l * 2)).take (m * 2)) := by
  rcases Nat.eq_zero_or_pos m with rfl | h0
  · exact ⟨by simp, _, c, rfl, hc, hcm, .inl rfl⟩
  · have ho := ho h0
    subst ho
    refine ⟨by rw [List.length_take, List.length_drop, h.2.1]; omega, _, c, rfl, hc, hcm, .inr ⟨g, l * 2, rfl, fun i hi => ?_⟩⟩
    rw [h.cell (l * 2 + i), List.getElem?_take, if_pos hi, List.getElem?_drop]
def putX (cur : List Value) (o : Nat) (ys : List Value) : List Value := cur.take o ++ ys ++ cur.drop (o + ys.length)
theorem putX_len {cur : List Value} {o : Nat} {ys : List Value} (h : o + ys.length ≤ cur.length) : (putX cur o ys).length = cur.length := by
  unfold putX; rw [List.length_append, List.length_append, List.length_take, List.length_drop]; omega
theorem putX_take {cur : List Value} {o n : Nat} {ys : List Value} (h : o + ys.length ≤ cur.length) (hn : n = o + ys.length) : (putX cur o ys).take n = cur.take o ++ ys := by
  unfold putX
  have hl : (cur.take o ++ ys).length = n := by rw [List.length_append, List.length_take]; omega
  rw [List.take_append_of_le_length (by omega), List.take_of_length_le (by omega)]
theorem putX_low {cur : List Value} {o n : Nat} {ys : List Value} (h : o + ys.length ≤ cur.length) (hn : n ≤ o) : (putX cur o ys).take n = cur.take n := by
  unfold putX
  rw [List.append_assoc, List.take_append_of_le_length (by rw [List.length_take]; omega), List.take_take, Nat.min_eq_left hn]
theorem Rx.set (h : Rx e w g cap cur) {cur' : List Value} (hl : cur'.length = cur.length) : Rx e (w.setRow g cur'.toArray) g cap cur' ∧ Ch (fun c => c = g) w (w.setRow g cur'.toArray) :=
  ⟨⟨setRow_heap w g cur.toArray _ e (0, 0) h.1, by rw [hl]; exact h.2.1, h.2.2⟩, ⟨rfl, rfl, rfl, by rw [setRow_size]; exact Nat.le_refl _, fun c _ hc => setRow_other w g c _ hc⟩⟩
theorem SlK.srcX {k m : Nat} {x : Value} {ys : List Value} (hs : SlK k w x m ys) : ∃ a c, x = .slice a m c ∧ ys.length = m * k ∧ ((a = none ∧ m = 0) ∨ ∃ ad, a = some ad ∧ ∀ j u, ys[j]? = some u → w.cell? (ad.add j) = some u) := by
  obtain ⟨hyl, a, c, rfl, hlc, hcm, hcells⟩ := hs
  refine ⟨a, c, rfl, hyl, ?_⟩
  rcases hcells with rfl | ⟨b, o, rfl, hc⟩
  · cases a with
    | none => exact .inl ⟨rfl, rfl⟩
    | some ad =>
      refine .inr ⟨ad, rfl, fun j u hu => ?_⟩
      have : ys = [] := List.length_eq_zero_iff.1 (by omega)
      rw [this] at hu; simp at hu
  · refine .inr ⟨_, rfl, fun j u hu => ?_⟩
    have hj : j < ys.length := (List.getElem?_eq_some_iff.1 hu).1
    rw [addr_add, hc j (by omega), hu]
theorem iAppRx {t ty : TypeId} {i m bytes : Nat} {x z : Value} {ys : List Value} {K : Value → World → Prop} (ht : P.underlying t = some (.slice e)) (hi : (P.info? e).map (fun i => (i.zero, i.size, i.bytes)) = some (some z, 2, bytes))
    (hR : Rx e w g cap cur) (hs : SlK 2 w x m ys) (hy : ∀ u ∈ ys, isCell u = true) (hroom : i + m ≤ cap)
    (h : ∀ w', Rx e w' g cap (putX cur (i * 2) ys) → Ch (fun c => c = g) w w' → K (.slice (some ⟨g, 0, none⟩) (i + m) cap) w') :
    xOp P (Builtin.append_ #[t, t] ty #[.slice (some ⟨g, 0, none⟩) i cap, x]) w K := by
  obtain ⟨inf, hi, h3⟩ := Option.map_eq_some_iff.1 hi
  simp only [Prod.mk.injEq] at h3
  obtain ⟨-, hsz, -⟩ := h3
  obtain ⟨a, c, rfl, hyl, ⟨rfl, rfl⟩ | ⟨ad, rfl, hsrc⟩⟩ := hs.srcX
  · have : ys = [] := List.length_eq_zero_iff.1 (by omega)
    subst this
    refine ⟨_, w, ?_, h w (by simpa [putX] using hR) ⟨rfl, rfl, rfl, Nat.le_refl _, fun _ _ _ => rfl⟩⟩
    have : i ≤ cap := by omega
    simp [Builtin.append_, run_underlying ht, sizeOf, typeInfo, hi, Builtin.lenOf, Builtin.firstCells, this, storeCells]
  · have hl3 := hR.2.1
    have hr := run_append_room (P := P) w t ty e inf ht hi g i cap cur.toArray hR.1 ad m c ys (by rw [hsz]; exact hyl) hsrc (fun u hu => isCell_one (hy u hu)) hroom (by simp [hsz]; omega)
    rw [hsz] at hr
    obtain ⟨h1, h2⟩ := hR.set (cur' := putX cur (i * 2) ys) (putX_len (by omega))
    exact ⟨_, _, hr, h _ h1 h2⟩
theorem iClrX {t ty : TypeId} {o l n c bytes : Nat} {z : Value} {K : Value → World → Prop} (ht : P.underlying t = some (.slice e)) (hi : (P.info? e).map (fun i => (i.zero, i.size, i.bytes)) = some (some z, 2, bytes)) (hz : z.cells.size = 2) (hzc : ∀ u ∈ z.cells.toList, isCell u = true)
    (hR : Rx e w g cap cur) (ho : o = l * 2) (hn : 0 < n) (hfit : l + n ≤ cap)
    (h : ∀ ys w', ys.length = n * 2 → Rx e w' g cap (putX cur (l * 2) ys) → Ch (fun c => c = g) w w' → K (.tuple #[]) w') :
    xOp P (Builtin.clear_ #[t] ty #[.slice (some ⟨g, o, none⟩) n c]) w K := by
  subst ho
  obtain ⟨inf, hi, h3⟩ := Option.map_eq_some_iff.1 hi
  simp only [Prod.mk.injEq] at h3
  obtain ⟨hz0, hsz, -⟩ := h3
  have hl3 := hR.2.1
  have hzl : (Builtin.zeroCells z.cells n).toList.length = n * 2 := by rw [Array.length_toList, size_zeroCells, hz]
  have hst := run_storeCells_at P g (l * 2) e (Builtin.zeroCells z.cells n).toList 0 cur.toArray w hR.1 (by simp only [List.size_toArray]; omega) (fun u hu => isCell_one (by
    obtain ⟨i, hi, rfl⟩ := List.getElem_of_mem hu
    rw [hzl] at hi
    simp only [Builtin.zeroCells, Array.getElem_toList, Array.getElem_map]
    refine hzc _ ?_
    have hlt : (Array.range (n * z.cells.size))[i]'(by rw [Array.size_range, hz]; exact hi) % z.cells.size < z.cells.size := Nat.mod_lt _ (by omega)
    rw [getElem!_pos z.cells _ hlt]
    simp))
  obtain ⟨h1, h2⟩ := hR.set (cur' := putX cur (l * 2) (Builtin.zeroCells z.cells n).toList) (putX_len (by omega))
  simp only [Nat.add_zero] at hst
  refine ⟨_, _, ?_, h _ _ hzl h1 h2⟩
  obtain ⟨m, rfl⟩ : ∃ m, n = m + 1 := ⟨n - 1, by omega⟩
  simp [Builtin.clear_, run_underlying ht, zeroValue, run_info hi, hz0, hst, putX]
end
/-! ### Parts of slices of elements of two cells -/
theorem iTX {g o n c l : Nat} {ki : IntKind} {K : Value → Prop} (hl : l ≤ n) (hc : n ≤ c) (h : ∀ o', (l < c → o' = o + l * 2) → K (.slice (some ⟨g, o', none⟩) (n - l) (c - l))) : xSl 2 (.slice (some ⟨g, o, none⟩) n c) (some (.int ki (l : Int))) none K := by
  refine ⟨_, _, _, l, n, rfl, rfl, ⟨ki, rfl⟩, hl, hc, ?_⟩
  split
  · rename_i e
    exact h o (fun hlt => by omega)
  · rw [Option.map_some, addr_add]
    exact h _ fun _ => rfl
theorem iHX {g o n c k : Nat} {ki : IntKind} {K : Value → Prop} (hk : k ≤ c) (h : K (.slice (some ⟨g, o, none⟩) k c)) : xSl 2 (.slice (some ⟨g, o, none⟩) n c) none (some (.int ki (k : Int))) K := by
  refine ⟨_, _, _, 0, k, rfl, ⟨ki, rfl⟩, rfl, Nat.zero_le _, hk, ?_⟩
  have e : (if c = 0 then some (⟨g, o, none⟩ : Addr) else (some (⟨g, o, none⟩ : Addr)).map (·.add (0 * 2))) = some ⟨g, o, none⟩ := by
    split
    · rfl
    · rw [Option.map_some, addr_add, Nat.zero_mul, Nat.add_zero]
  rw [e, Nat.sub_zero, Nat.sub_zero]
  exact h
/-! ### Rows of a count and a slice -/
section
variable {P : Program} {w : World}
theorem iStFX {lo : Nat} {e : TypeId} {w : World} {v x : Value} {n : Nat} {xs : List Value} {z : Int} {j f : Nat} {k : IntKind} {K : World → Prop} (hs : OwK 2 lo e w v n xs) (hz : z = (j : Int)) (hj : j < n) (hf : f < 2) (hx : isCell x = true)
    (h : ∀ w', OwK 2 lo e w' v n (xs.set (j * 2 + f) x) → Ch (fun c => v.ownBlock = some c) w w' → K w') : xIa 2 v (.int k z) fun p => xFa f p fun q => xSt w q x K := by
  subst hz
  obtain ⟨hl, ⟨-, h0⟩ | ⟨g, cap, cur, hv, hg, hh, h1, h2, h3, h4⟩⟩ := hs
  · omega
  · subst hv
    have hs : w.ownsRow lo e 2 (.slice (some ⟨g, 0, none⟩) n cap) n xs := ⟨hl, .inr ⟨g, cap, cur, rfl, hg, hh, h1, h2, h3, h4⟩⟩
    refine ⟨_, _, _, _, _, rfl, rfl, by omega, by omega, ?_⟩
    rw [Int.toNat_natCast, addr_add]
    refine ⟨_, rfl, ?_⟩
    rw [addr_add, Nat.zero_add]
    have hjf : j * 2 + f < xs.length := by omega
    refine iSt ((hs.cellAt (j * 2 + f) (by omega)).trans (List.getElem?_eq_getElem hjf)) (hs.frozenAt _) hx ?_
    exact h _ (hs.stored (j * 2 + f) x).1 ((Upd.setCell w g _ x).ch rfl)
theorem iHY {k n i : Nat} {ki : IntKind} {w : World} {v : Value} {xs : List Value} {K : Value → Prop} (hs : SlK k w v n xs) (hi : i ≤ n) (h : ∀ v', SlK k w v' i (xs.take (i * k)) → K v') : xSl k v none (some (.int ki (i : Int))) K := by
  obtain ⟨h0, a, c, rfl, h2, h3, h4⟩ := hs
  have hle : i * k ≤ n * k := Nat.mul_le_mul_right _ hi
  refine ⟨_, _, _, 0, i, rfl, ⟨ki, rfl⟩, rfl, Nat.zero_le _, by omega, ?_⟩
  refine h _ ⟨by rw [List.length_take]; omega, _, _, by rw [Nat.sub_zero], by omega, by omega, ?_⟩
  rcases Nat.eq_zero_or_pos i with hz | hz
  · exact .inl hz
  · rcases h4 with h4 | ⟨b, o, rfl, hc⟩
    · omega
    · refine .inr ⟨b, o, ?_, fun j hj => ?_⟩
      · rw [if_neg (by omega), Option.map_some, addr_add, Nat.zero_mul, Nat.add_zero]
      · rw [hc j (by omega), List.getElem?_take, if_pos hj]
theorem iTY {k n i : Nat} {ki : IntKind} {w : World} {v : Value} {xs : List Value} {z : Int} {K : Value → Prop} (hs : SlK k w v n xs) (hz : z = (i : Int)) (hi : i ≤ n) (h : ∀ v', SlK k w v' (n - i) (xs.drop (i * k)) → K v') : xSl k v (some (.int ki z)) none K := by
  subst hz
  obtain ⟨h0, a, c, rfl, h2, h3, h4⟩ := hs
  have hle : i * k ≤ n * k := Nat.mul_le_mul_right _ hi
  have hsub : (n - i) * k = n * k - i * k := Nat.sub_mul ..
  refine ⟨_, _, _, i, n, rfl, rfl, ⟨ki, rfl⟩, hi, h2, ?_⟩
  refine h _ ⟨by rw [List.length_drop]; omega, _, _, rfl, by omega, by omega, ?_⟩
  rcases Nat.eq_zero_or_pos (n - i) with hz | hz
  · exact .inl hz
  · rcases h4 with h4 | ⟨b, o, rfl, hc⟩
    · omega
    · refine .inr ⟨b, o + i * k, ?_, fun j hj => ?_⟩
      · rw [if_neg (by omega), Option.map_some, addr_add]
      · rw [Nat.add_assoc, hc _ (by omega), List.getElem?_drop]
end
end Go.Vc

namespace Go.Vc
abbrev PR := Int × Value × List Int
def keyR (r : PR) : Int × List Int := (r.1, r.2.2)
instance : Inhabited PR := ⟨(0, .slice none 0 0, [])⟩
def valR (r : PR) : Value := .agg #[.int .i64 r.1, r.2.1]
def cellsR (L : List PR) : List Value := L.flatMap fun r => [.int .i64 r.1, r.2.1]
theorem cellsR_app (A B : List PR) : cellsR (A ++ B) = cellsR A ++ cellsR B := by simp [cellsR]
theorem cellsR_len : ∀ L : List PR, (cellsR L).length = L.length * 2
  | [] => rfl
  | a :: L => by
    have := cellsR_len L
    have e : cellsR (a :: L) = [.int .i64 a.1, a.2.1] ++ cellsR L := rfl
    rw [e, List.length_append, this, List.length_cons, List.length_cons, List.length_cons, List.length_nil]; omega
theorem cellsR_at (L : List PR) {i : Nat} (hi : i < L.length) : (cellsR L)[i * 2]? = some (.int .i64 (gt L i).1) ∧ (cellsR L)[i * 2 + 1]? = some (gt L i).2.1 := by
  have := flat2_get (fun r : PR => Value.int .i64 r.1) (fun r => r.2.1) L i (gt L i) (by rw [gt_eq hi]; exact List.getElem?_eq_getElem hi)
  rw [show i * 2 = 2 * i by omega]
  exact this
theorem cellsR_set : ∀ (L : List PR) (j : Nat) (r : PR), j < L.length → ((cellsR L).set (j * 2) (.int .i64 r.1)).set (j * 2 + 1) r.2.1 = cellsR (L.set j r)
  | [], j, r, h => by simp at h
  | a :: L, 0, r, _ => rfl
  | a :: L, j + 1, r, h => by
    have := cellsR_set L j r (by simpa using h)
    have e : cellsR (a :: L) = .int .i64 a.1 :: a.2.1 :: cellsR L := rfl
    have e2 : cellsR ((a :: L).set (j + 1) r) = .int .i64 a.1 :: a.2.1 :: cellsR (L.set j r) := rfl
    rw [e, e2, ← this, show (j + 1) * 2 = j * 2 + 1 + 1 by omega]
    rfl
theorem cellsR_take (L : List PR) (k : Nat) : (cellsR L).take (k * 2) = cellsR (L.take k) := by
  rcases Nat.lt_or_ge L.length k with h | h
  · rw [List.take_of_length_le (by rw [cellsR_len]; omega), List.take_of_length_le (by omega)]
  · conv => lhs; rw [← List.take_append_drop k L, cellsR_app]
    rw [List.take_append_of_le_length (by rw [cellsR_len, List.length_take]; omega), List.take_of_length_le (by rw [cellsR_len, List.length_take]; omega)]
theorem cellsR_drop (L : List PR) (k : Nat) : (cellsR L).drop (k * 2) = cellsR (L.drop k) := by
  rcases Nat.lt_or_ge L.length k with h | h
  · rw [List.drop_of_length_le (by rw [cellsR_len]; omega), List.drop_of_length_le (by omega)]; rfl
  · conv => lhs; rw [← List.take_append_drop k L, cellsR_app]
    rw [List.drop_append, List.drop_of_length_le (by rw [cellsR_len, List.length_take]; omega), List.nil_append, cellsR_len, List.length_take, Nat.min_eq_left h, Nat.sub_self, List.drop_zero]
abbrev RowR (lo : Nat) (e : TypeId) (w : World) (v : Value) (L : List PR) : Prop := OwK 2 lo e w v L.length (cellsR L)
section
variable {P : Program}
theorem iRdX {w : World} {v : Value} {L : List PR} {z : Int} {j : Nat} {k : IntKind} {K : Value → Prop} (hs : SlK 2 w v L.length (cellsR L)) (hz : z = (j : Int)) (hj : j < L.length) (h : K (valR (gt L j))) : xIa 2 v (.int k z) fun p => xLdA w 2 p K := by
  subst hz
  refine iIaK hs hj fun b o hcell => ?_
  obtain ⟨h0, h1⟩ := cellsR_at L hj
  refine ⟨_, #[.int .i64 (gt L j).1, (gt L j).2.1], rfl, rfl, fun i hi => ?_, h⟩
  rw [addr_add, hcell i hi]
  match i, hi with
  | 0, _ => exact h0
  | 1, _ => exact h1
theorem iRdXs {w : World} {v : Value} {L : List PR} {z : Int} {j : Nat} {k : IntKind} {K : Value → Prop} (hs : SlK 2 w v L.length (cellsR L)) (hz : z = (j : Int)) (hj : j < L.length) (h : K (gt L j).2.1) : xIa 2 v (.int k z) fun p => xFa 1 p fun q => xLd w q K := by
  subst hz
  refine iIaK hs hj fun b o hcell => ?_
  obtain ⟨h0, h1⟩ := cellsR_at L hj
  refine ⟨_, rfl, ?_⟩
  rw [addr_add]
  exact iLd ((hcell 1 (by omega)).trans h1) h
theorem iStX {lo : Nat} {e : TypeId} {w : World} {v : Value} {L : List PR} {r : PR} {z : Int} {j : Nat} {k : IntKind} {K : World → Prop} (hs : RowR lo e w v L) (hz : z = (j : Int)) (hj : j < L.length) (hr : isCell r.2.1 = true)
    (h : ∀ w', RowR lo e w' v (L.set j r) → Ch (fun c => v.ownBlock = some c) w w' → K w') : xIa 2 v (.int k z) fun p => ∀ w1, Ext w w1 → xStA P w1 2 p (valR r) K := by
  subst hz
  obtain ⟨hl, ⟨-, h0⟩ | ⟨g, cap, cur, hv, hg, hh, h1, h2, h3, h4⟩⟩ := id hs
  · omega
  subst hv
  refine ⟨_, _, _, _, _, rfl, rfl, by omega, by omega, fun w1 x1 => ?_⟩
  rw [Int.toNat_natCast, addr_add, Nat.zero_add]
  have hs1 := hs.ext x1
  have ha : ∀ i, (⟨g, j * 2, none⟩ : Addr).add i = ⟨g, j * 2 + i, none⟩ := fun i => addr_add _ _ _
  have hcl := cellsR_len L
  have c0 : isCell (.int .i64 r.1) = true := rfl
  have s1 : (store ⟨g, j * 2, none⟩ (.int .i64 r.1)).run P w1 = .ok () (w1.setCell ⟨g, j * 2, none⟩ (.int .i64 r.1)) := by
    rw [run_store P w1 _ _ _ (isCell_one c0), World.ownsRow.cellAt hs1 (j * 2) (by omega), List.getElem?_eq_getElem (by omega)]
    simp [World.ownsRow.frozenAt hs1 (j * 2)]
  have hs2 : w1.setCell ⟨g, j * 2, none⟩ (.int .i64 r.1) |>.ownsRow lo e 2 (.slice (some ⟨g, 0, none⟩) L.length cap) L.length ((cellsR L).set (j * 2) (.int .i64 r.1)) := (World.ownsRow.stored hs1 (j * 2) _).1
  have s2 : (store ⟨g, j * 2 + 1, none⟩ r.2.1).run P (w1.setCell ⟨g, j * 2, none⟩ (.int .i64 r.1)) = .ok () ((w1.setCell ⟨g, j * 2, none⟩ (.int .i64 r.1)).setCell ⟨g, j * 2 + 1, none⟩ r.2.1) := by
    rw [run_store P _ _ _ _ (isCell_one hr), World.ownsRow.cellAt hs2 (j * 2 + 1) (by omega), List.getElem?_eq_getElem (by rw [List.length_set]; omega)]
    simp [World.ownsRow.frozenAt hs2 (j * 2 + 1)]
  have hs3 := (World.ownsRow.stored hs2 (j * 2 + 1) r.2.1).1
  rw [cellsR_set L j r hj] at hs3
  refine ⟨_, _, rfl, rfl, ?_, h _ (by show OwK 2 lo e _ _ _ _; rw [List.length_set]; exact hs3) ((x1.ch (S := fun c => (Value.slice (some ⟨g, 0, none⟩) L.length cap).ownBlock = some c)).trans (((Upd.setCell w1 g (j * 2) (.int .i64 r.1)).trans (Upd.setCell _ g (j * 2 + 1) r.2.1)).ch (S := fun c => (Value.slice (some ⟨g, 0, none⟩) L.length cap).ownBlock = some c) rfl) fun _ e => .inl e)⟩
  show (storeCells ⟨g, j * 2, none⟩ [.int .i64 r.1, r.2.1] 0).run P w1 = _
  simp only [storeCells, Sem.run_bind, ha, Nat.add_zero, Nat.zero_add, s1, s2, Result.andThen_ok, Sem.run_pure]
end

def cmpI (a b : List Int) : Int := if lessB a b = true then -1 else if lessB b a = true then 1 else 0
theorem cmpI_neg {a b : List Int} : cmpI a b < 0 ↔ lessB a b = true := by
  unfold cmpI
  split
  · rename_i h; simp [h]
  · rename_i h
    split <;> simp [h]
def cmpR (x y : Int × List Int) : Int := if x.1 < y.1 then -1 else if y.1 < x.1 then 1 else cmpI x.2 y.2
theorem cmpR_neg (x y : Int × List Int) : decide (cmpR x y < 0) = ltP x y := by
  rw [Bool.eq_iff_iff, decide_eq_true_eq, ltP_true]
  unfold cmpR
  split
  · rename_i h; exact ⟨fun _ => .inl h, fun _ => by decide⟩
  · split
    · rename_i h1 h2; exact ⟨fun h => absurd h (by decide), fun h => by omega⟩
    · rename_i h1 h2
      rw [cmpI_neg]
      exact ⟨fun h => .inr ⟨by omega, h⟩, fun h => by
        rcases h with h | h
        · omega
        · exact h.2⟩
theorem cmpR_ne (x y : Int × List Int) : decide (¬ cmpR x y = 0) = (ltP x y || ltP y x) := by
  rw [Bool.eq_iff_iff, decide_eq_true_eq, Bool.or_eq_true, ltP_true, ltP_true]
  unfold cmpR
  split
  · rename_i h; exact ⟨fun _ => .inl (.inl h), fun _ => by decide⟩
  · split
    · rename_i h1 h2; exact ⟨fun _ => .inr (.inl h2), fun _ => by decide⟩
    · rename_i h1 h2
      unfold cmpI
      split
      · rename_i h; exact ⟨fun _ => .inl (.inr ⟨by omega, h⟩), fun _ => by decide⟩
      · rename_i h3
        split
        · rename_i h; exact ⟨fun _ => .inr (.inr ⟨by omega, h⟩), fun _ => by decide⟩
        · rename_i h4
          exact ⟨fun h => absurd rfl h, fun h => by
            rcases h with (h | h) | (h | h)
            · omega
            · exact absurd h.2 h3
            · omega
            · exact absurd h.2 h4⟩
end Go.Vc
namespace Go.Proofs.YtaipnnkpplinoaaGreatDoor
open Go.Vc
theorem ok_slices_CompareX {va vb : Value} {w : World} {a b : List Int} (ha : SlI w va a) (hb : SlI w vb b) : Ret Tryz.prog f_slices_Compare_Si64_i64 #[va, vb] w (.int .i64 (cmpI a b)) := by
  apply c_slices_Compare_Si64_i64; unfold S_slices_Compare_Si64_i64
  have hal := ha.len
  have hbl := hb.len
  ((with_reducible refine iLenI (by assumption) ?_))
  refine iLp (fun k : Nat => [.int .i64 (k : Int)]) (fun k w' => k ≤ a.length ∧ k ≤ b.length ∧ Ext w w' ∧ ∀ i, i < k → a[i]? = b[i]?) (fun k => a.length - k) 0 rfl ⟨Nat.zero_le _, Nat.zero_le _, Ext.refl _, fun i hi => by omega⟩ ?_
  rintro k w2 Kn ⟨hka, hkb, h2, heq⟩ hKn
  have ha2 := ha.ext h2
  have hb2 := hb.ext h2
  have hup := lessB_upto a b k heq hka hkb
  have hup2 := lessB_upto b a k (fun i hi => (heq i hi).symm) hkb hka
  (intro _; (try simp only [gx]); (with_reducible refine iLt ?_))
  refine iCndP (fun h5 => ?_) (fun h5 => ?_)
  · have h5a : k < a.length := by omega
    have ea : a.getD k 0 = a[k] := by simp [List.getD_eq_getElem?_getD, h5a]
    ((with_reducible refine iIaN (by assumption) ?_ (fun pa_ hpa_ => ?_)); omega; (with_reducible refine iLd (by assumption) ?_; refine iLenI (by assumption) ?_; refine iLe ?_))
    rw [ea]
    refine iCndP (fun h6 => ?_) (fun h6 => ?_)
    · obtain rfl : k = b.length := by omega
      rw [List.drop_eq_nil_of_le (Nat.le_refl _), List.drop_eq_getElem_cons h5a] at hup hup2
      refine ⟨?_, h2⟩
      unfold cmpI
      rw [hup, hup2]
      simp [lessB]
    · have h5b : k < b.length := by omega
      have eb : b.getD k 0 = b[k] := by simp [List.getD_eq_getElem?_getD, h5b]
      rw [List.drop_eq_getElem_cons h5a, List.drop_eq_getElem_cons h5b] at hup hup2
      simp only [lessB] at hup hup2
      ((with_reducible refine iIaN (by assumption) ?_ (fun pa_ hpa_ => ?_)); omega; (with_reducible refine iLd (by assumption) ?_))
      rw [eb]
      refine iRet (ok_cmp_Compare_i64 a[k] b[k] w2) fun w3 h3 => ?_
      refine iNe ?_
      refine iCndP (fun h7 => ?_) (fun h7 => ?_)
      · refine ⟨?_, h2.trans h3⟩
        have hne : ¬ a[k] = b[k] := fun e => h7 (by rw [e]; simp)
        unfold cmpI
        rw [hup, hup2, if_neg hne, if_neg (show ¬ b[k] = a[k] from fun e => hne e.symm)]
        by_cases hlt : a[k] < b[k]
        · rw [if_pos hlt, if_pos (by simpa using hlt)]
        · rw [if_neg hlt, if_pos (by omega), if_neg (by simpa using hlt), if_pos (by rw [decide_eq_true_eq]; omega)]
      · have he : a[k] = b[k] := by
          rcases Int.lt_trichotomy a[k] b[k] with h | h | h
          · exact absurd (by rw [if_pos h]; decide) h7
          · exact h
          · exact absurd (by rw [if_neg (by omega), if_pos h]; decide) h7
        (refine iAdd (by omega) ?_)
        refine hKn (k + 1) _ ⟨by omega, by omega, h2.trans h3, fun i hi => ?_⟩ (by omega)
        by_cases hik : i = k
        · subst hik
          rw [List.getElem?_eq_getElem h5a, List.getElem?_eq_getElem h5b, he]
        · exact heq i (by omega)
  · obtain rfl : k = a.length := by omega
    rw [List.drop_eq_nil_of_le (Nat.le_refl _)] at hup hup2
    ((with_reducible refine iLenI (by assumption) ?_; refine iLenI (by assumption) ?_; refine iLt ?_))
    refine iCndP (fun h6 => ?_) (fun h6 => ?_)
    · have h7 : a.length < b.length := by omega
      refine ⟨?_, h2⟩
      unfold cmpI
      rw [hup, hup2, List.drop_eq_getElem_cons h7]
      simp [lessB]
    · refine ⟨?_, h2⟩
      unfold cmpI
      rw [hup, hup2, List.drop_eq_nil_of_le (by omega)]
      simp [lessB]
end Go.Proofs.YtaipnnkpplinoaaGreatDoor

namespace Go.Vc
def len8 : Str := [0, 1, 2, 2, 3, 3, 3, 3, 4, 4, 4, 4, 4, 4, 4, 4, 5, 5, 5, 5, 5, 5, 5, 5, 5, 5, 5, 5, 5, 5, 5, 5, 6, 6, 6, 6, 6, 6, 6, 6, 6, 6, 6, 6, 6, 6, 6, 6, 6, 6, 6, 6, 6, 6, 6, 6, 6, 6, 6, 6, 6, 6, 6, 6,
  7, 7, 7, 7, 7, 7, 7, 7, 7, 7, 7, 7, 7, 7, 7, 7, 7, 7, 7, 7, 7, 7, 7, 7, 7, 7, 7, 7, 7, 7, 7, 7, 7, 7, 7, 7, 7, 7, 7, 7, 7, 7, 7, 7, 7, 7, 7, 7, 7, 7, 7, 7, 7, 7, 7, 7, 7, 7, 7, 7, 7, 7, 7, 7,
  8, 8, 8, 8, 8, 8, 8, 8, 8, 8, 8, 8, 8, 8, 8, 8, 8, 8, 8, 8, 8, 8, 8, 8, 8, 8, 8, 8, 8, 8, 8, 8, 8, 8, 8, 8, 8, 8, 8, 8, 8, 8, 8, 8, 8, 8, 8, 8, 8, 8, 8, 8, 8, 8, 8, 8, 8, 8, 8, 8, 8, 8, 8, 8,
  8, 8, 8, 8, 8, 8, 8, 8, 8, 8, 8, 8, 8, 8, 8, 8, 8, 8, 8, 8, 8, 8, 8, 8, 8, 8, 8, 8, 8, 8, 8, 8, 8, 8, 8, 8, 8, 8, 8, 8, 8, 8, 8, 8, 8, 8, 8, 8, 8, 8, 8, 8, 8, 8, 8, 8, 8, 8, 8, 8, 8, 8, 8, 8]
theorem len8_ok : ∀ x : Fin 256, x.val < 2 ^ (len8.getD x.val 0).toNat ∧ (1 ≤ x.val → 2 ^ (len8.getD x.val 0).toNat ≤ 2 * x.val) ∧ (len8.getD x.val 0).toNat ≤ 8 := by decide +kernel
theorem iShrV {a j : Nat} {K : Value → Prop} (hj : j ≤ 64) (h : K (.int .u64 ((a / 2 ^ j : Nat) : Int))) : xSh iShr .u64 (.int .u64 (a : Int)) (.int .u64 (j : Int)) K := by
  refine ⟨_, _, _, rfl, rfl, by omega, ?_⟩
  rw [show iShr .u64 (a : Int) (j : Int) = ((a / 2 ^ j : Nat) : Int) by
    unfold iShr
    rw [Int.toNat_natCast, show IntKind.u64.bits = 64 from rfl, Nat.min_eq_left hj, Int.fdiv_eq_ediv_of_nonneg _ (Int.le_of_lt (Int.pow_pos (by omega)))]
    push_cast
    rfl]
  exact h
end Go.Vc
namespace Go.Proofs.YtaipnnkpplinoaaGreatDoor
open Go.Vc
set_option maxRecDepth 20000 in
theorem ok_math_bits_Len64 {n : Nat} (hn : n < 2 ^ 63) (w : World) : Cal Tryz.prog f_math_bits_Len64 #[.int .u64 (n : Int)] w fun r w' => Ext w w' ∧ ∃ k : Nat, r = .int .i64 (k : Int) ∧ n < 2 ^ k ∧ (1 ≤ n → 2 ^ k ≤ 2 * n) ∧ k ≤ 64 := by
  apply c_math_bits_Len64; unfold S_math_bits_Len64
  -- at each join: what is left of n, and by how many bits it was shifted
  have stage : ∀ {x m s : Nat}, x = n / 2 ^ m → x / 2 ^ s = n / 2 ^ (m + s) := fun {x m s} h => by rw [h, Nat.div_div_eq_div_mul, ← Nat.pow_add]
  ((with_reducible refine iLe ?_))
  refine iJnX (fun xs w' => Ext w w' ∧ ∃ x m : Nat, xs = [.int .u64 (x : Int), .int .i64 (m : Int)] ∧ x = n / 2 ^ m ∧ x < 2 ^ 32 ∧ (1 ≤ m → 1 ≤ x) ∧ m ≤ 32) (fun J hJ => ?_) ?_
  · refine iCndP (fun h => ?_) (fun h => ?_)
    · refine iShrV (j := 32) (by omega) ?_
      exact hJ _ _ ⟨Ext.refl _, _, 32, rfl, rfl, by omega, by omega, by omega⟩
    · exact hJ _ _ ⟨Ext.refl _, n, 0, rfl, by simp, by omega, by omega, by omega⟩
  rintro xs w2 ⟨h2, x, m, rfl, hx, hx32, hm1, hm⟩
  intro _
  simp only [gx]
  ((with_reducible refine iLe ?_))
  refine iJnX (fun xs w' => Ext w w' ∧ ∃ x m : Nat, xs = [.int .u64 (x : Int), .int .i64 (m : Int)] ∧ x = n / 2 ^ m ∧ x < 2 ^ 16 ∧ (1 ≤ m → 1 ≤ x) ∧ m ≤ 48) (fun J hJ => ?_) ?_
  · refine iCndP (fun h => ?_) (fun h => ?_)
    · refine iShrV (j := 16) (by omega) ?_
      (refine iAdd (by omega) ?_)
      exact hJ _ _ ⟨h2, _, m + 16, rfl, stage hx, by omega, by omega, by omega⟩
    · exact hJ _ _ ⟨h2, x, m, rfl, hx, by omega, hm1, by omega⟩
  rintro xs w4 ⟨h4, x, m, rfl, hx, hx16, hm1, hm⟩
  intro _
  simp only [gx]
  ((with_reducible refine iLe ?_))
  refine iJnX (fun xs w' => Ext w w' ∧ ∃ x m : Nat, xs = [.int .u64 (x : Int), .int .i64 (m : Int)] ∧ x = n / 2 ^ m ∧ x < 2 ^ 8 ∧ (1 ≤ m → 1 ≤ x) ∧ m ≤ 56) (fun J hJ => ?_) ?_
  · refine iCndP (fun h => ?_) (fun h => ?_)
    · refine iShrV (j := 8) (by omega) ?_
      (refine iAdd (by omega) ?_)
      exact hJ _ _ ⟨h4, _, m + 8, rfl, stage hx, by omega, by omega, by omega⟩
    · exact hJ _ _ ⟨h4, x, m, rfl, hx, by omega, hm1, by omega⟩
  rintro xs w6 ⟨h6, x, m, rfl, hx, hx8, hm1, hm⟩
  intro _
  simp only [gx]
  obtain ⟨t1, t2, t3⟩ : x < 2 ^ (len8.getD x 0).toNat ∧ (1 ≤ x → 2 ^ (len8.getD x 0).toNat ≤ 2 * x) ∧ (len8.getD x 0).toNat ≤ 8 := len8_ok ⟨x, hx8⟩
  refine ⟨_, _, rfl, ?_⟩
  rw [IntWalk.u8_in _ (by omega)]
  refine iIs (l := len8) (j := x) (by show x < 256; omega) ?_
  refine iConv64 (by omega) ?_
  refine iAdd (by omega) ?_
  refine ⟨h6, m + (len8.getD x 0).toNat, by first | rfl | (push_cast; rfl), ?_, fun h1 => ?_, by omega⟩
  · have := Nat.lt_div_mul_add (a := n) (b := 2 ^ m) (Nat.two_pow_pos m)
    rw [← hx] at this
    have h3 : (x + 1) * 2 ^ m ≤ 2 ^ (len8.getD x 0).toNat * 2 ^ m := Nat.mul_le_mul_right _ t1
    rw [Nat.pow_add, Nat.mul_comm (2 ^ m)]
    rw [Nat.add_mul] at h3
    omega
  · rcases Nat.eq_zero_or_pos x with h0 | h0
    · have hm0 : m = 0 := by omega
      subst hm0
      simp at hx
      omega
    · have h3 := Nat.mul_le_mul_left (2 ^ m) (t2 h0)
      have h4 : 2 ^ m * x ≤ n := by rw [hx]; exact Nat.mul_div_le n (2 ^ m)
      rw [Nat.pow_add]
      rw [Nat.mul_left_comm] at h3
      omega
theorem ok_math_bits_Len {n : Nat} (hn : n < 2 ^ 63) (w : World) : Cal Tryz.prog f_math_bits_Len #[.int .u64 (n : Int)] w fun r w' => Ext w w' ∧ ∃ k : Nat, r = .int .i64 (k : Int) ∧ n < 2 ^ k ∧ (1 ≤ n → 2 ^ k ≤ 2 * n) ∧ k ≤ 64 := by
  apply c_math_bits_Len; unfold S_math_bits_Len
  exact iCall (ok_math_bits_Len64 hn w)
end Go.Proofs.YtaipnnkpplinoaaGreatDoor

namespace Go.Vc
structure TurnR (lo : Nat) (e : TypeId) (v : Value) (w w' : World) (L' : List PR) : Prop where
  ow : RowR lo e w' v L'
  ch : Ch (fun c => v.ownBlock = some c) w w'
theorem TurnR.ext {lo : Nat} {e : TypeId} {v : Value} {w w' w'' : World} {L : List PR} (h : TurnR lo e v w w' L) (k : Ext w' w'') : TurnR lo e v w w'' L :=
  ⟨h.ow.ext k, h.ch.trans (k.ch (S := fun _ => False)) fun _ e => e.elim⟩
theorem iWrX2 {P : Program} {lo : Nat} {e : TypeId} {w : World} {v : Value} {L : List PR} {z z' : Int} {i j : Nat} {k k' : IntKind} {x y : PR} {K : World → Prop} (hs : RowR lo e w v L) (hz : z = (i : Int)) (hz' : z' = (j : Int)) (hi : i < L.length) (hj : j < L.length) (hx : isCell x.2.1 = true) (hy : isCell y.2.1 = true)
    (h : ∀ w', TurnR lo e v w w' ((L.set i x).set j y) → K w') :
    xIa 2 v (.int k z) fun p => ∀ w1, Ext w w1 → xStA P w1 2 p (valR x) fun w2 => xIa 2 v (.int k' z') fun q => ∀ w3, Ext w2 w3 → xStA P w3 2 q (valR y) fun w4 => ∀ w5, Ext w4 w5 → K w5 :=
  iStX hs hz hi hx fun w2 hs2 hc2 => iStX hs2 hz' (by rw [List.length_set]; exact hj) hy fun w4 hs4 hc4 w5 h5 =>
    h w5 (TurnR.ext ⟨hs4, hc2.trans hc4 fun _ e => .inl e⟩ h5)
end Go.Vc
namespace Go.Proofs.YtaipnnkpplinoaaGreatDoor
open Go.Vc
theorem ok_cmp_Or_int {e : TypeId} {b : Nat} {w : World} {x y : Int} (hB : Blk e w b [.int .i64 x, .int .i64 y]) : Ret Tryz.prog f_cmp_Or_int #[.slice (some ⟨b, 0, none⟩) 2 2] w (.int .i64 (if x ≠ 0 then x else y)) := by
  apply c_cmp_Or_int; unfold S_cmp_Or_int
  have hs : SlI w (.slice (some ⟨b, 0, none⟩) 2 2) [x, y] := Sl.ofBlk hB rfl (by omega)
  refine iLenL ?_
  refine iLp (fun k : Nat => [.int .i64 (k : Int)]) (fun k w' => k ≤ 2 ∧ Ext w w' ∧ (1 ≤ k → x = 0) ∧ (2 ≤ k → y = 0)) (fun k => 2 - k) 0 rfl ⟨by omega, Ext.refl w, by omega, by omega⟩ ?_
  rintro k w2 Kn ⟨hk, h2, hx, hy⟩ hKn
  have hs2 := hs.ext h2
  intro _
  simp only [gx]
  refine iLt (iCndP (fun h => ?_) (fun h => ?_))
  · have hk2 : k < 2 := by omega
    have e0 : [x, y].getD 0 0 = x := rfl
    have e1 : [x, y].getD 1 0 = y := rfl
    ((with_reducible refine iIaN (by assumption) ?_ (fun pa_ hpa_ => ?_)); omega; (with_reducible refine iLd (by assumption) ?_; refine iNe ?_))
    refine iCndP (fun h3 => ?_) (fun h3 => ?_)
    · rcases (by omega : k = 0 ∨ k = 1) with rfl | rfl
      · have h3 : ¬ x = 0 := by simpa using h3
        rw [if_pos h3]
        exact ⟨by first | trivial | rfl, h2⟩
      · have h3 : ¬ y = 0 := by simpa using h3
        rw [if_neg (by simpa using hx (by omega))]
        exact ⟨by first | trivial | rfl, h2⟩
    · (refine iAdd (by omega) ?_)
      refine hKn (k + 1) _ ⟨by omega, h2, fun _ => ?_, fun _ => ?_⟩ (by omega)
      · rcases (by omega : k = 0 ∨ k = 1) with rfl | rfl
        · simpa using h3
        · exact hx (by omega)
      · have hk1 : k = 1 := by omega
        subst hk1
        simpa using h3
  · have hx := hx (by omega)
    have hy := hy (by omega)
    rw [if_neg (by simpa using hx), hy]
    exact ⟨by first | trivial | rfl, h2⟩
theorem ok_impl_compareFrames {w : World} {a b : PR} (ha : SlI w a.2.1 a.2.2) (hb : SlI w b.2.1 b.2.2) : Ret Tryz.prog f_impl_compareFrames #[valR a, valR b] w (.int .i64 (cmpR (keyR a) (keyR b))) := by
  apply c_impl_compareFrames; unfold S_impl_compareFrames
  refine iNew fun b2 w1 hb2 x1 hB2 => ?_
  refine iNew fun b3 w2 hb3 x2 hB3 => ?_
  have hB2 : Blk _ w2 b2 [.int .i64 a.1, a.2.1] := hB2.ext x2
  have hB3 : Blk _ w2 b3 [.int .i64 b.1, b.2.1] := hB3
  have hX := x1.trans x2
  ((with_reducible refine iFa ?_); refine iLdB (by assumption) (by first | rfl | simp) ?_; (with_reducible refine iFa ?_); refine iLdB (by assumption) (by first | rfl | simp) ?_)
  refine iRetQ (fun w' _ => ok_cmp_Compare_i64 a.1 b.1 w') ?_
  ((with_reducible refine iFa ?_); refine iLdB (by assumption) (by first | rfl | simp) ?_; (with_reducible refine iFa ?_); refine iLdB (by assumption) (by first | rfl | simp) ?_)
  refine iRetQ (fun w' h' => ok_slices_CompareX (ha.ext (hX.trans h')) (hb.ext (hX.trans h'))) ?_
  intro w3 x3
  refine iBs2 rfl rfl rfl fun c w4 hc x4 hC => ?_
  refine iRetQ (fun w' h' => ok_cmp_Or_int (hC.ext h')) ?_
  intro w5 x5
  refine ⟨?_, ((hX.trans x3).trans x4).trans x5⟩
  unfold cmpR keyR
  by_cases h1 : a.1 < b.1
  · rw [if_pos h1, if_pos h1]; rfl
  · rw [if_neg h1, if_neg h1]
    by_cases h2 : b.1 < a.1
    · rw [if_pos h2, if_pos h2]; rfl
    · rw [if_neg h2, if_neg h2]; rfl
def ltR (a b : PR) : Bool := ltP (keyR a) (keyR b)
theorem ordrR : Ordr ltR := ⟨fun h => ordP.o.asym h, fun h k => ordP.o.tr h k⟩
end Go.Proofs.YtaipnnkpplinoaaGreatDoor

namespace Go.Vc
section
variable {P : Program}
structure RowF (lo : Nat) (e : TypeId) (w : World) (v : Value) (L : List PR) : Prop where
  row : RowR lo e w v L
  cells : ∀ r ∈ L, isCell r.2.1 = true
theorem RowF.ext {lo : Nat} {e : TypeId} {w w' : World} {v : Value} {L : List PR} (h : RowF lo e w v L) (x : Ext w w') : RowF lo e w' v L := ⟨OwK.ext h.row x, h.cells⟩
theorem RowF.ch {lo : Nat} {e : TypeId} {S : Nat → Prop} {w w' : World} {v : Value} {L : List PR} (h : RowF lo e w v L) (x : Ch S w w') (hn : ∀ c, v.ownBlock = some c → ¬ S c) : RowF lo e w' v L := ⟨OwK.ch h.row x hn, h.cells⟩
theorem RowF.lt {lo : Nat} {e : TypeId} {w : World} {v : Value} {L : List PR} (h : RowF lo e w v L) {c : Nat} (hc : w.heap.size ≤ c) : v.ownBlock ≠ some c := fun e => by have := (OwK.blk h.row c e).2; omega
structure TurnF (lo : Nat) (e : TypeId) (v : Value) (w w' : World) (L' : List PR) : Prop where
  ow : RowF lo e w' v L'
  ch : Ch (fun c => v.ownBlock = some c) w w'
theorem TurnF.refl {lo : Nat} {e : TypeId} {v : Value} {w : World} {L : List PR} (h : RowF lo e w v L) : TurnF lo e v w w L := ⟨h, (Ext.refl w).ch⟩
theorem TurnF.ext {lo : Nat} {e : TypeId} {v : Value} {w w' w'' : World} {L : List PR} (h : TurnF lo e v w w' L) (k : Ext w' w'') : TurnF lo e v w w'' L :=
  ⟨h.ow.ext k, h.ch.trans (k.ch (S := fun _ => False)) fun _ e => e.elim⟩
theorem TurnF.trans {lo : Nat} {e : TypeId} {v : Value} {w w' w'' : World} {L L' : List PR} (h : TurnF lo e v w w' L) (k : TurnF lo e v w' w'' L') : TurnF lo e v w w'' L' :=
  ⟨k.ow, h.ch.trans k.ch fun _ e => .inl e⟩
theorem iRdFr {lo : Nat} {e : TypeId} {w : World} {v : Value} {L : List PR} {z : Int} {j : Nat} {k : IntKind} {K : Value → Prop} (hs : RowF lo e w v L) (hz : z = (j : Int)) (hj : j < L.length) (h : K (valR (gt L j))) : xIa 2 v (.int k z) fun p => xLdA w 2 p K := iRdX hs.row.sl hz hj h
theorem iWrF {lo : Nat} {e : TypeId} {w : World} {v : Value} {L : List PR} {z z' : Int} {i j : Nat} {k k' : IntKind} {K : World → Prop} (hs : RowF lo e w v L) (hz : z = (i : Int)) (hz' : z' = (j : Int)) (hi : i < L.length) (hj : j < L.length)
    (h : ∀ w', TurnF lo e v w w' ((L.set i (gt L j)).set j (gt L i)) → K w') :
    xIa 2 v (.int k z) fun p => ∀ w1, Ext w w1 → xStA P w1 2 p (valR (gt L j)) fun w2 => xIa 2 v (.int k' z') fun q => ∀ w3, Ext w2 w3 → xStA P w3 2 q (valR (gt L i)) fun w4 => ∀ w5, Ext w4 w5 → K w5 := by
  have c : ∀ {m : Nat}, m < L.length → isCell (gt L m).2.1 = true := fun {m} hm => hs.cells _ (by rw [gt_eq hm]; exact List.getElem_mem _)
  exact iWrX2 hs.row hz hz' hi hj (c hj) (c hi) fun w' ht => h w' ⟨⟨ht.ow, fun r hr => hs.cells r ((sw_perm hi hj).mem_iff.1 hr)⟩, ht.ch⟩
def RowsF (e : TypeId) (w : World) (L : List PR) : Prop := ∀ x ∈ L, Ow 0 e w x.2.1 (ints x.2.2)
theorem RowsF.ext {e : TypeId} {w w' : World} {L : List PR} (h : RowsF e w L) (x : Ext w w') : RowsF e w' L := fun y hy => (h y hy).ext x
theorem RowsF.ch {e e' : TypeId} {w w' : World} {L : List PR} {c : Nat} {cs : List Value} (h : RowsF e w L) (hB : Blk e' w c cs) (hne : e ≠ e') (x : Ch (fun k => k = c) w w') : RowsF e w' L := fun y hy => (h y hy).ch x fun _ hk e => (h y hy).ne_blk hB hne (by rw [← e]; exact hk)
theorem RowsF.turn {lo : Nat} {e e' : TypeId} {v : Value} {w w' : World} {L L' : List PR} (h : RowsF e w L) (hs : RowF lo e' w v L) (hne : e' ≠ e) (ht : TurnF lo e' v w w' L') (hp : List.Perm L' L) : RowsF e w' L' := fun y hy =>
  (h y (hp.mem_iff.1 hy)).ch ht.ch fun _ hk hk' => OwK.ne_ow hs.row (h y (hp.mem_iff.1 hy)) hne hk' hk
end
end Go.Vc
namespace Go.Proofs.YtaipnnkpplinoaaGreatDoor
open Go.Vc
abbrev cmpF : Value := .func (.func f_impl_compareFrames) #[] #[]
theorem cmp_callF {w : World} {L : List PR} {i j : Nat} {K : Value → World → Prop} (hr : RowsF t_i64 w L) (hi : i < L.length) (hj : j < L.length) (h : ∀ w', Ext w w' → K (.bool (ltR (gt L i) (gt L j))) w') : callV Tryz.prog cmpF [valR (gt L i), valR (gt L j)] w fun r w2 => xLt .i64 r (.int .i64 0) fun b => K b w2 := by
  have h1 := (hr (gt L i) (by rw [gt_eq hi]; exact List.getElem_mem _)).sl
  have h2 := (hr (gt L j) (by rw [gt_eq hj]; exact List.getElem_mem _)).sl
  refine iRet (ok_impl_compareFrames h1 h2) fun w' x => ?_
  refine iLt ?_
  rw [cmpR_neg]
  exact h w' x
theorem iCmF {w : World} {L : List PR} {i j : Nat} {G : Value → World → Prop} (hr : RowsF t_i64 w L) (hi : i < L.length) (hj : j < L.length) (h : ∀ w', Ext w w' → G (.bool (ltR (gt L i) (gt L j))) w') : ∀ w1, Ext w w1 → callV Tryz.prog cmpF [valR (gt L i), valR (gt L j)] w1 fun r w2 => xLt .i64 r (.int .i64 0) fun b => ∀ w3, Ext w2 w3 → G b w3 :=
  fun _ x1 => cmp_callF (hr.ext x1) hi hj fun _ x2 _ x3 => h _ ((x1.trans x2).trans x3)
theorem iCmNF {w : World} {L : List PR} {i j : Nat} {G : Value → World → Prop} (hr : RowsF t_i64 w L) (hi : i < L.length) (hj : j < L.length) (h : ∀ w', Ext w w' → G (.bool (!ltR (gt L i) (gt L j))) w') : ∀ w1, Ext w w1 → callV Tryz.prog cmpF [valR (gt L i), valR (gt L j)] w1 fun r w2 => xLt .i64 r (.int .i64 0) fun b => xNot b fun c => ∀ w3, Ext w2 w3 → G c w3 :=
  fun _ x1 => cmp_callF (hr.ext x1) hi hj fun _ x2 => iNot fun _ x3 => h _ ((x1.trans x2).trans x3)
theorem ok_slices_insertionSortPF {lo : Nat} {w : World} {v : Value} {L : List PR} {a b : Nat} (hs : RowF lo t_impl_Frame w v L) (hrw : RowsF t_i64 w L) (hab : a ≤ b) (hb : b ≤ L.length) (hL : L.length ≤ 1152921504606846976) :
    Cal Tryz.prog f_slices_insertionSortCmpFunc_impl_Frame #[v, .int .i64 (a : Int), .int .i64 (b : Int), cmpF] w fun _ w' => ∃ L', TurnF lo t_impl_Frame v w w' L' ∧ SwR a b L L' ∧ Srt ltR a b L' := by
  apply c_slices_insertionSortCmpFunc_impl_Frame; unfold S_slices_insertionSortCmpFunc_impl_Frame
  (refine iAdd (by omega) ?_)
  refine iLp (fun i : Nat => [.int .i64 (i : Int)]) (fun i w' => a + 1 ≤ i ∧ i ≤ b + 1 ∧ ∃ L', TurnF lo t_impl_Frame v w w' L' ∧ SwR a b L L' ∧ Srt ltR a i L') (fun i => b + 1 - i) (a + 1) (by simp) ⟨Nat.le_refl _, by omega, L, TurnF.refl hs, .refl, Srt.short (Nat.le_refl _)⟩ ?_
  rintro i w2 Kn ⟨hi, hib, L1, ht1, hw1, hs1⟩ hKn
  intro _
  simp only [gx]
  refine iLt ?_
  refine iCndP (fun h => ?_) (fun h => ?_)
  · have hl1 := hw1.len
    refine iLp (fun j : Nat => [.int .i64 (j : Int)]) (fun j w' => a ≤ j ∧ j ≤ i ∧ ∃ L', TurnF lo t_impl_Frame v w w' L' ∧ SwR a b L L' ∧ Ins ltR a i j L') (fun j => j) i rfl ⟨by omega, Nat.le_refl _, L1, ht1, hw1, Ins.init hs1⟩ ?_
    rintro j w4 Kn2 ⟨haj, hji, L2, ht2, hw2, hin⟩ hKn2
    have hl2 := hw2.len
    intro _
    simp only [gx]
    refine iJnB (decide (a < j) && ltR (gt L2 j) (gt L2 (j - 1))) w4 (fun J hJ => ?_) (fun w6 h6 => ?_)
    · refine iLt ?_
      refine iCndP (fun h5 => ?_) (fun h5 => ?_)
      · rw [decide_eq_true (show a < j by omega), Bool.true_and] at hJ
        refine iRdFr (j := j) ht2.ow rfl (by omega) ?_
        (refine iSub (by omega) ?_)
        refine iRdFr (j := j - 1) ht2.ow (by omega) (by omega) ?_
        exact iCmF (hrw.turn hs (by decide) ht2 hw2.perm) (by omega) (by omega) hJ
      · rw [decide_eq_false (show ¬ a < j by omega), Bool.false_and] at hJ
        exact fun _ x8 _ x9 => hJ _ (x8.trans x9)
    · intro _
      simp only [gx]
      have ht6 := ht2.ext h6
      cases hc : decide (a < j) && ltR (gt L2 j) (gt L2 (j - 1))
      · refine iCndF rfl ?_
        (refine iAdd (by omega) ?_)
        refine hKn (i + 1) _ ⟨by omega, by omega, L2, ht6, hw2, hin.done ordrR ?_ hji⟩ (by omega)
        rw [Bool.and_eq_false_iff, decide_eq_false_iff_not] at hc
        rcases hc with hc | hc
        · exact .inl (by omega)
        · rcases Nat.lt_or_ge a j with h' | h'
          · exact .inr ⟨h', hc⟩
          · exact .inl h'
      · rw [Bool.and_eq_true, decide_eq_true_eq] at hc
        refine iCndT rfl ?_
        (refine iSub (by omega) ?_; refine iSub (by omega) ?_)
        refine iRdFr (j := j - 1) ht6.ow (by omega) (by omega) ?_
        refine iRdFr (j := j) ht6.ow rfl (by omega) ?_
        refine iWrF (i := j) (j := j - 1) ht6.ow rfl (by omega) (by omega) (by omega) fun w13 h13 => ?_
        (refine iSub (by omega) ?_)
        rw [show (j : Int) - 1 = ((j - 1 : Nat) : Int) by omega]
        exact hKn2 (j - 1) _ ⟨by omega, by omega, sw L2 j (j - 1), ht6.trans h13, .step hw2 (by omega) (by omega) (by omega) (by omega) hb, hin.swap ordrR hc.1 hji (by omega) hc.2⟩ (by omega)
  · exact ⟨L1, ht1, hw1, hs1.mono (Nat.le_refl _) (by omega)⟩
theorem ok_slices_reverseRangeCmpFunc_impl_Frame {lo : Nat} {w : World} {v : Value} {L : List PR} {a b : Nat} (hs : RowF lo t_impl_Frame w v L) (hab : a ≤ b) (hb : b ≤ L.length) (hL : L.length ≤ 1152921504606846976) :
    Cal Tryz.prog f_slices_reverseRangeCmpFunc_impl_Frame #[v, .int .i64 (a : Int), .int .i64 (b : Int), cmpF] w fun _ w' => ∃ L', TurnF lo t_impl_Frame v w w' L' ∧ SwR a b L L' := by
  apply c_slices_reverseRangeCmpFunc_impl_Frame; unfold S_slices_reverseRangeCmpFunc_impl_Frame
  (refine iSub (by omega) ?_)
  refine iLp (fun s : Nat × Int => [.int .i64 (s.1 : Int), .int .i64 s.2]) (fun s w' => a ≤ s.1 ∧ s.1 ≤ b ∧ -1 ≤ s.2 ∧ s.2 < b ∧ (b : Int) - s.2 ≤ s.1 - a + 1 ∧ ∃ L', TurnF lo t_impl_Frame v w w' L' ∧ SwR a b L L') (fun s => b - s.1) (a, (b : Int) - 1) rfl ⟨Nat.le_refl _, hab, by show -1 ≤ (b : Int) - 1; omega, by show (b : Int) - 1 < b; omega, by show (b : Int) - ((b : Int) - 1) ≤ a - a + 1; omega, L, TurnF.refl hs, .refl⟩ ?_
  rintro ⟨i, j⟩ w2 Kn ⟨hi, hib, hj, hjb, hij, L1, ht1, hw1⟩ hKn
  have hi : a ≤ i := hi
  have hib : i ≤ b := hib
  have hj : -1 ≤ j := hj
  have hjb : j < b := hjb
  have hij : (b : Int) - j ≤ i - a + 1 := hij
  have hl1 := hw1.len
  intro _
  simp only [gx]
  refine iLt ?_
  refine iCndP (fun h => ?_) (fun h => ?_)
  · refine iRdFr (j := j.toNat) ht1.ow (by omega) (by omega) ?_
    refine iRdFr (j := i) ht1.ow rfl (by omega) ?_
    refine iWrF (i := i) (j := j.toNat) ht1.ow rfl (by omega) (by omega) (by omega) fun w7 h7 => ?_
    (refine iAdd (by omega) ?_; refine iSub (by omega) ?_)
    exact hKn (i + 1, j - 1) _ ⟨by show a ≤ i + 1; omega, by show i + 1 ≤ b; omega, by show -1 ≤ j - 1; omega, by show j - 1 < b; omega, by show (b : Int) - (j - 1) ≤ ((i + 1 : Nat) : Int) - a + 1; omega, sw L1 i j.toNat, ht1.trans h7, .step hw1 hi (by omega) (by omega) (by omega) hb⟩ (by show b - (i + 1) < b - i; omega)
  · exact ⟨L1, ht1, hw1⟩
theorem ok_slices_siftDownCmpFunc_impl_Frame {lo0 : Nat} {w : World} {v : Value} {L : List PR} {lo hi first : Nat} (hs : RowF lo0 t_impl_Frame w v L) (hrw : RowsF t_i64 w L) (hlo : lo ≤ hi) (hb : first + hi ≤ L.length) (hL : L.length ≤ 1152921504606846976) (hh : Heap ltR first (lo + 1) hi L) :
    Cal Tryz.prog f_slices_siftDownCmpFunc_impl_Frame #[v, .int .i64 (lo : Int), .int .i64 (hi : Int), .int .i64 (first : Int), cmpF] w fun _ w' => ∃ L', TurnF lo0 t_impl_Frame v w w' L' ∧ SwR (first + lo) (first + hi) L L' ∧ Heap ltR first lo hi L' := by
  apply c_slices_siftDownCmpFunc_impl_Frame; unfold S_slices_siftDownCmpFunc_impl_Frame
  refine iLp (fun r : Nat => [.int .i64 (r : Int)]) (fun r w' => lo ≤ r ∧ r ≤ hi ∧ ∃ L', TurnF lo0 t_impl_Frame v w w' L' ∧ SwR (first + lo) (first + hi) L L' ∧ Sift ltR first lo hi r L') (fun r => hi - r) lo rfl ⟨Nat.le_refl _, hlo, L, TurnF.refl hs, .refl, Sift.init hh⟩ ?_
  rintro r w2 Kn ⟨hr, hrh, L1, ht1, hw1, hsf⟩ hKn
  have hl1 := hw1.len
  intro _
  simp only [gx]
  refine iMul (by omega) ?_
  (refine iAdd (by omega) ?_; (with_reducible refine iLe ?_))
  refine iCndP (fun h => ?_) (fun h => ?_)
  · exact ⟨L1, ht1, hw1, hsf.done fun c hc hch => by omega⟩
  · have hlr : r < hi := by omega
    refine iJnB (decide (2 * r + 2 < hi) && ltR (gt L1 (first + (2 * r + 1))) (gt L1 (first + (2 * r + 2)))) w2 (fun J hJ => ?_) (fun w4 h4 => ?_)
    · (refine iAdd (by omega) ?_; (with_reducible refine iLt ?_))
      refine iCndP (fun h5 => ?_) (fun h5 => ?_)
      · rw [decide_eq_true (show 2 * r + 2 < hi by omega), Bool.true_and] at hJ
        (refine iAdd (by omega) ?_)
        refine iRdFr (j := first + (2 * r + 1)) ht1.ow (by omega) (by omega) ?_
        (refine iAdd (by omega) ?_; refine iAdd (by omega) ?_)
        refine iRdFr (j := first + (2 * r + 2)) ht1.ow (by omega) (by omega) ?_
        exact iCmF (hrw.turn hs (by decide) ht1 hw1.perm) (by omega) (by omega) hJ
      · rw [decide_eq_false (show ¬ 2 * r + 2 < hi by omega), Bool.false_and] at hJ
        exact fun _ x8 _ x9 => hJ _ (x8.trans x9)
    · intro _
      simp only [gx]
      have ht4 := ht1.ext h4
      refine iJnX (fun xs w8 => Ext w4 w8 ∧ ∃ c : Nat, xs = [.int .i64 (c : Int)] ∧ (c = 2 * r + 1 ∨ c = 2 * r + 2) ∧ c < hi ∧ ∀ d, (d = 2 * r + 1 ∨ d = 2 * r + 2) → d < hi → ltR (gt L1 (first + c)) (gt L1 (first + d)) = false) (fun J hJ => ?_) ?_
      · cases hc : decide (2 * r + 2 < hi) && ltR (gt L1 (first + (2 * r + 1))) (gt L1 (first + (2 * r + 2)))
        · refine iCndF rfl ?_
          refine hJ _ _ ⟨Ext.refl _, 2 * r + 1, rfl, .inl rfl, by omega, fun d hd hdh => ?_⟩
          rcases hd with hd | hd
          · subst hd; exact ordrR.rfl _
          · subst hd; rw [decide_eq_true hdh, Bool.true_and] at hc; exact hc
        · rw [Bool.and_eq_true, decide_eq_true_eq] at hc
          refine iCndT rfl ?_
          (refine iAdd (by omega) ?_)
          refine hJ _ _ ⟨Ext.refl _, 2 * r + 2, rfl, .inr rfl, hc.1, fun d hd hdh => ?_⟩
          rcases hd with hd | hd
          · subst hd; exact ordrR.asym hc.2
          · subst hd; exact ordrR.rfl _
      · rintro xs w8 ⟨h8, c, rfl, hc, hch, hmax⟩
        intro _
        simp only [gx]
        have ht8 := ht4.ext h8
        (refine iAdd (by omega) ?_)
        refine iRdFr (j := first + r) ht8.ow (by omega) (by omega) ?_
        (refine iAdd (by omega) ?_)
        refine iRdFr (j := first + c) ht8.ow (by omega) (by omega) ?_
        refine iCmNF (hrw.turn hs (by decide) ht8 hw1.perm) (by omega) (by omega) fun w9 h9 => ?_
        have ht9 := ht8.ext h9
        refine iCnd (fun h5 => ?_) (fun h5 => ?_)
        · refine ⟨L1, ht9, hw1, hsf.done fun d hd hdh => ?_⟩
          have h5 : ltR (gt L1 (first + r)) (gt L1 (first + c)) = false := by simpa using h5
          exact ordrR.tr (hmax d hd hdh) h5
        · have h5 : ltR (gt L1 (first + r)) (gt L1 (first + c)) = true := by simpa using h5
          (refine iAdd (by omega) ?_; refine iAdd (by omega) ?_; refine iAdd (by omega) ?_)
          refine iRdFr (j := first + c) ht9.ow (by omega) (by omega) ?_
          (refine iAdd (by omega) ?_)
          refine iRdFr (j := first + r) ht9.ow (by omega) (by omega) ?_
          refine iWrF (i := first + r) (j := first + c) ht9.ow (by omega) (by omega) (by omega) (by omega) fun w14 h14 => ?_
          exact hKn c _ ⟨by omega, by omega, sw L1 (first + r) (first + c), ht9.trans h14, .step hw1 (by omega) (by omega) (by omega) (by omega) (by omega), hsf.swap ordrR hr hc hch (by omega) h5 hmax⟩ (by omega)
theorem ok_slices_heapSortCmpFunc_impl_Frame {lo : Nat} {w : World} {v : Value} {L : List PR} {a b : Nat} (hs : RowF lo t_impl_Frame w v L) (hrw : RowsF t_i64 w L) (hab : a < b) (hb : b ≤ L.length) (hL : L.length ≤ 1152921504606846976) :
    Cal Tryz.prog f_slices_heapSortCmpFunc_impl_Frame #[v, .int .i64 (a : Int), .int .i64 (b : Int), cmpF] w fun _ w' => ∃ L', TurnF lo t_impl_Frame v w w' L' ∧ SwR a b L L' ∧ Srt ltR a b L' := by
  apply c_slices_heapSortCmpFunc_impl_Frame; unfold S_slices_heapSortCmpFunc_impl_Frame
  obtain ⟨n, rfl⟩ : ∃ n, b = a + n := ⟨b - a, by omega⟩
  (refine iSub (by omega) ?_; refine iSub (by omega) ?_)
  refine iQuo (by omega) ?_
  refine iLp (fun s : Nat => [.int .i64 ((s : Int) - 1)]) (fun s w' => s ≤ n ∧ ∃ L', TurnF lo t_impl_Frame v w w' L' ∧ SwR a (a + n) L L' ∧ Heap ltR a s n L') (fun s => s) ((n - 1) / 2 + 1) (by congr 2; omega) ⟨by omega, L, TurnF.refl hs, .refl, fun p c h1 h2 h3 => by omega⟩ ?_
  rintro s w2 Kn ⟨hsn, L1, ht1, hw1, hh⟩ hKn
  have hl1 := hw1.len
  intro _
  simp only [gx]
  refine iLe ?_
  refine iCndP (fun h => ?_) (fun h => ?_)
  · rw [show (s : Int) - 1 = ((s - 1 : Nat) : Int) by omega, show ((a + n : Nat) : Int) - a = (n : Int) by omega]
    refine iCall ?_
    refine (ok_slices_siftDownCmpFunc_impl_Frame (lo := s - 1) (hi := n) (first := a) ht1.ow (hrw.turn hs (by decide) ht1 hw1.perm) (by omega) (by omega) (by omega) (by rw [show s - 1 + 1 = s by omega]; exact hh)).mono fun _ w3 h3 => ?_
    obtain ⟨L2, ht2, hw2, hh2⟩ := h3
    (refine iSub (by omega) ?_)
    exact hKn (s - 1) _ ⟨by omega, L2, ht1.trans ht2, hw1.trans (hw2.mono (by omega) (Nat.le_refl _) (by omega)), hh2⟩ (by omega)
  · (refine iSub (by omega) ?_)
    have hs0 : s = 0 := by omega
    subst hs0
    refine iLp (fun s : Nat => [.int .i64 ((s : Int) - 1)]) (fun s w' => s ≤ n ∧ ∃ L', TurnF lo t_impl_Frame v w w' L' ∧ SwR a (a + n) L L' ∧ Heap ltR a 0 s L' ∧ (∀ p q, a ≤ p → p < q → a + s ≤ q → q < a + n → ltR (gt L' q) (gt L' p) = false)) (fun s => s) n (by congr 2; omega) ⟨Nat.le_refl _, L1, ht1, hw1, hh, fun p q h1 h2 h3 h4 => by omega⟩ ?_
    rintro s w5 Kn5 ⟨hsn, L2, ht2, hw2, hh2, hpr⟩ hKn5
    have hl2 := hw2.len
    intro _
    simp only [gx]
    refine iLe ?_
    refine iCndP (fun h5 => ?_) (fun h5 => ?_)
    · (refine iAdd (by omega) ?_; refine iAdd (by omega) ?_)
      refine iRdFr (j := a + (s - 1)) ht2.ow (by omega) (by omega) ?_
      refine iRdFr (j := a) ht2.ow rfl (by omega) ?_
      refine iWrF (i := a) (j := a + (s - 1)) ht2.ow rfl (by omega) (by omega) (by omega) fun w10 h10 => ?_
      rw [show (s : Int) - 1 = ((s - 1 : Nat) : Int) by omega]
      have e : ∀ k, gt (sw L2 a (a + (s - 1))) k = if k = a + (s - 1) then gt L2 a else if k = a then gt L2 (a + (s - 1)) else gt L2 k := gt_sw (by omega) (by omega)
      have hw3 : SwR a (a + n) L2 (sw L2 a (a + (s - 1))) := .one (by omega) (by omega) (by omega) (by omega) (by omega)
      have htop := Heap.top ordrR hh2
      refine iCall ?_
      refine (ok_slices_siftDownCmpFunc_impl_Frame (L := sw L2 a (a + (s - 1))) (lo := 0) (hi := s - 1) (first := a) h10.ow (hrw.turn hs (by decide) (ht2.trans h10) (hw2.trans hw3).perm) (by omega) (by rw [hw3.len]; omega) (by rw [hw3.len]; omega) (fun p c h1 h2 h3 => by
        rw [e, e, if_neg (by omega), if_neg (by omega), if_neg (by omega), if_neg (by omega)]
        exact hh2 p c (by omega) h2 (by omega))).mono fun _ w11 h11 => ?_
      obtain ⟨L4, ht4, hw4, hh4⟩ := h11
      (refine iSub (by omega) ?_)
      refine hKn5 (s - 1) _ ⟨by omega, L4, (ht2.trans h10).trans ht4, (hw2.trans hw3).trans (hw4.mono (by omega) (by omega) (by rw [hw3.len]; omega)), hh4, fun p q h1 h2 h3 h4 => ?_⟩ (by omega)
      rw [hw4.out (k := q) (by omega)]
      have main : ∀ p, a ≤ p → p < q → ltR (gt (sw L2 a (a + (s - 1))) q) (gt (sw L2 a (a + (s - 1))) p) = false := fun p h1 h2 => by
        rw [e, e]
        by_cases hq : q = a + (s - 1)
        · rw [if_pos hq, if_neg (by omega)]
          split
          · exact htop _ (by omega)
          · obtain ⟨k, rfl⟩ : ∃ k, p = a + k := ⟨p - a, by omega⟩
            exact htop _ (by omega)
        · rw [if_neg hq, if_neg (by omega)]
          split
          · exact hpr a q (by omega) (by omega) (by omega) h4
          · split
            · exact hpr _ q (by omega) (by omega) (by omega) h4
            · exact hpr p q h1 h2 (by omega) h4
      rcases Nat.lt_or_ge p (a + (s - 1)) with hp | hp
      · exact hw4.all (p := fun x => ltR (gt (sw L2 a (a + (s - 1))) q) x = false) (fun k hk hk' => main k (by omega) (by omega)) p (by omega) hp
      · rw [hw4.out (k := p) (by omega)]; exact main p h1 h2
    · exact ⟨L2, ht2, hw2, fun p q h1 h2 h3 => hpr p q h1 h2 (by omega) h3⟩
end Go.Proofs.YtaipnnkpplinoaaGreatDoor

namespace Go.Vc
theorem iAndW {a : Int} {m : Nat} {K : Value → Prop} (hm : m < 2 ^ 64) (h : ∀ x : Nat, x ≤ m → K (.int .u64 (x : Int))) : xBits iAnd .u64 (.int .u64 a) (.int .u64 (m : Int)) K := by
  refine ⟨_, _, rfl, rfl, ?_⟩
  have e : iAnd .u64 a (m : Int) = (((BitVec.ofInt 64 a &&& BitVec.ofInt 64 (m : Int)).toNat : Nat) : Int) := by
    rw [show iAnd .u64 a (m : Int) = IntKind.u64.wrap ((BitVec.ofInt 64 a &&& BitVec.ofInt 64 (m : Int)).toNat : Nat) from rfl]
    exact IntWalk.u64_in _ (by have := (BitVec.ofInt 64 a &&& BitVec.ofInt 64 (m : Int)).isLt; omega)
  rw [e]
  refine h _ ?_
  rw [BitVec.toNat_and, ofInt_nat, BitVec.toNat_ofNat, Nat.mod_eq_of_lt (a := m) (by omega)]
  exact Nat.and_le_right
theorem iStW {e : TypeId} {w : World} {b : Nat} {old v : Value} {K : World → Prop} (hb : Blk e w b [old]) (hv : isCell v = true) (h : ∀ w', Blk e w' b [v] → Ch (fun c => c = b) w w' → K w') : xSt w (.pointer (some ⟨b, 0, none⟩)) v K :=
  iStB hb (by simp) hv fun h2 => h _ h2 ((Upd.setCell w b 0 v).ch rfl)
end Go.Vc
namespace Go.Proofs.YtaipnnkpplinoaaGreatDoor
open Go.Vc
theorem ok_slices_nextPowerOfTwoW {n : Nat} (h1 : 1 ≤ n) (hn : n ≤ 1152921504606846976) (w : World) : Cal Tryz.prog f_slices_nextPowerOfTwo #[.int .i64 (n : Int)] w fun r w' => Ext w w' ∧ ∃ m : Nat, r = .int .u64 (m : Int) ∧ 1 ≤ m ∧ m ≤ 2 * n := by
  apply c_slices_nextPowerOfTwo; unfold S_slices_nextPowerOfTwo
  refine iConvU (by omega) ?_
  refine iCall ?_
  refine (ok_math_bits_Len (by omega) w).mono fun r w1 h => ?_
  obtain ⟨h1', k, rfl, hk1, hk2, hk3⟩ := h
  have hk := hk2 h1
  refine ⟨_, _, _, rfl, rfl, by omega, ?_⟩
  have e : iShl .u64 1 (k : Int) = ((2 ^ k : Nat) : Int) := by
    rw [show iShl .u64 1 (k : Int) = IntKind.u64.wrap (1 * 2 ^ min (k : Int).toNat 64) from rfl, Int.toNat_natCast, Nat.min_eq_left hk3, Int.one_mul, show ((2 : Int) ^ k) = ((2 ^ k : Nat) : Int) by push_cast; rfl]
    exact IntWalk.u64_in _ (by omega)
  rw [e]
  exact ⟨h1', 2 ^ k, rfl, Nat.two_pow_pos k, hk⟩
theorem ok_slices_xorshift_NextW {e : TypeId} {w : World} {b : Nat} {x : Int} (hb : Blk e w b [.int .u64 x]) : Cal Tryz.prog f_slices_xorshift_Next #[.pointer (some ⟨b, 0, none⟩)] w fun r w' => ∃ y : Int, r = .int .u64 y ∧ Blk e w' b [.int .u64 y] ∧ Ch (fun c => c = b) w w' := by
  apply c_slices_xorshift_Next; unfold S_slices_xorshift_Next
  ((with_reducible refine iNil ?_); refine iLdB (by assumption) (by first | rfl | simp) ?_; (with_reducible refine iNil ?_); refine iLdB (by assumption) (by first | rfl | simp) ?_)
  refine ⟨_, _, _, rfl, rfl, by omega, ?_⟩
  refine ⟨_, _, rfl, rfl, ?_⟩
  ((with_reducible refine iNil ?_))
  intro w1 h1
  refine iStW (hb.ext h1) rfl fun w2 hb2 h2 => ?_
  intro w3 h3
  have hb3 := hb2.ext h3
  have c3 := ch_ext ((h1.ch.trans h2 fun _ e => .inl e)) h3
  clear hb2 h2
  ((with_reducible refine iNil ?_); refine iLdB (by assumption) (by first | rfl | simp) ?_; (with_reducible refine iNil ?_); refine iLdB (by assumption) (by first | rfl | simp) ?_)
  refine ⟨_, _, _, rfl, rfl, by omega, ?_⟩
  refine ⟨_, _, rfl, rfl, ?_⟩
  ((with_reducible refine iNil ?_))
  intro w4 h4
  refine iStW (hb3.ext h4) rfl fun w5 hb5 h5 => ?_
  intro w6 h6
  have hb6 := hb5.ext h6
  have c6 := ch_ext (ch_self (ch_ext c3 h4) h5) h6
  clear hb5 hb3 hb c3
  ((with_reducible refine iNil ?_); refine iLdB (by assumption) (by first | rfl | simp) ?_; (with_reducible refine iNil ?_); refine iLdB (by assumption) (by first | rfl | simp) ?_)
  refine ⟨_, _, _, rfl, rfl, by omega, ?_⟩
  refine ⟨_, _, rfl, rfl, ?_⟩
  ((with_reducible refine iNil ?_))
  intro w7 h7
  refine iStW (hb6.ext h7) rfl fun w8 hb8 h8 => ?_
  intro w9 h9
  have hb9 := hb8.ext h9
  have c9 := ch_ext (ch_self (ch_ext c6 h7) h8) h9
  clear hb8 hb6 c6
  ((with_reducible refine iNil ?_); refine iLdB (by assumption) (by first | rfl | simp) ?_)
  exact ⟨_, rfl, hb9, c9⟩
theorem ok_slices_breakPatternsCmpFunc_impl_Frame {lo : Nat} {w : World} {v : Value} {L : List PR} {a b : Nat} (hs : RowF lo t_impl_Frame w v L) (hab : a ≤ b) (hb : b ≤ L.length) (hL : L.length ≤ 1152921504606846976) :
    Cal Tryz.prog f_slices_breakPatternsCmpFunc_impl_Frame #[v, .int .i64 (a : Int), .int .i64 (b : Int), cmpF] w fun _ w' => ∃ L', TurnF lo t_impl_Frame v w w' L' ∧ SwR a b L L' := by
  apply c_slices_breakPatternsCmpFunc_impl_Frame; unfold S_slices_breakPatternsCmpFunc_impl_Frame
  obtain ⟨n, rfl⟩ : ∃ n, b = a + n := ⟨b - a, by omega⟩
  refine iSub (by omega) ?_
  rw [show ((a + n : Nat) : Int) - a = (n : Int) by omega]
  refine iLe ?_
  refine iCndP (fun h => ?_) (fun h => ?_)
  · refine iConvU (by omega) ?_
    refine iNew fun c w1 hc1 h1 hb1 => ?_
    refine iStB hb1 (by simp [Value.cells]) rfl fun hb2 => ?_
    have x2 : Ext w (w1.setCell ⟨c, 0, none⟩ (.int .u64 (n : Int))) := ext_set h1 (by show w.heap.size ≤ c; omega) _
    refine iCall ?_
    refine (ok_slices_nextPowerOfTwoW (by omega) (by omega) _).mono fun r w3 h3 => ?_
    obtain ⟨h3, m, rfl, hm1, hm2⟩ := h3
    have hb3 := hb2.ext h3
    have hs3 := (hs.ext x2).ext h3
    have hne : v.ownBlock ≠ some c := hs.lt (by omega)
    refine iQuo (by omega) ?_
    refine iMul (by omega) ?_
    refine iAdd (by omega) ?_
    refine iSub (by omega) ?_
    refine iLp (fun i : Nat => [.int .i64 (i : Int)]) (fun i w' => a + n / 4 * 2 - 1 ≤ i ∧ (∃ x, Blk 224 w' c [.int .u64 x]) ∧ ∃ L', TurnF lo t_impl_Frame v w w' L' ∧ SwR a (a + n) L L') (fun i => a + n - i) (a + n / 4 * 2 - 1) (by congr 2; omega)
      ⟨Nat.le_refl _, ⟨_, hb3⟩, L, ⟨hs3, ((x2.trans h3).ch)⟩, .refl⟩ ?_
    rintro i w5 Kn ⟨hi, ⟨x, hb5⟩, L1, ht1, hw1⟩ hKn
    have hl1 := hw1.len
    intro _
    simp only [gx]
    refine iQuo (by omega) ?_
    refine iMul (by omega) ?_
    refine iAdd (by omega) ?_
    refine iAdd (by omega) ?_
    refine iLe ?_
    refine iCndP (fun h5 => ?_) (fun h5 => ?_)
    · refine iCall ?_
      refine (ok_slices_xorshift_NextW hb5).mono fun r w6 h6 => ?_
      obtain ⟨y, rfl, hb6, hc6⟩ := h6
      have hs6 := ht1.ow.ch hc6 fun c' hc' e => hne (e ▸ hc')
      refine ⟨_, _, rfl, rfl, ?_⟩
      rw [show IntKind.u64.wrap ((m : Int) - 1) = ((m - 1 : Nat) : Int) by rw [IntWalk.u64_in _ (by omega)]; omega]
      refine iAndW (by omega) fun x hx => ?_
      refine iConv64 (by omega) ?_
      refine iLe ?_
      refine iJnX (fun xs w8 => Ext w6 w8 ∧ ∃ z : Nat, xs = [.int .i64 (z : Int)] ∧ z < n) (fun J hJ => ?_) ?_
      · refine iCndP (fun h7 => ?_) (fun h7 => ?_)
        · refine iSub (by omega) ?_
          rw [show (x : Int) - n = ((x - n : Nat) : Int) by omega]
          exact hJ _ _ ⟨Ext.refl _, x - n, rfl, by omega⟩
        · exact hJ _ _ ⟨Ext.refl _, x, rfl, by omega⟩
      rintro xs w8 ⟨h8, z, rfl, hz⟩
      intro _
      simp only [gx]
      have hs8 := hs6.ext h8
      have hb8 := hb6.ext h8
      have hc8 := ch_ext hc6 h8
      refine iAdd (by omega) ?_
      refine iAdd (by omega) ?_
      refine iRdFr (j := a + z) hs8 (by omega) (by omega) ?_
      refine iRdFr (j := i) hs8 rfl (by omega) ?_
      refine iWrF (i := i) (j := a + z) hs8 rfl (by omega) (by omega) (by omega) fun w13 h13 => ?_
      refine iAdd (by omega) ?_
      refine hKn (i + 1) _ ⟨by omega, ⟨_, hb8.ch h13.ch fun e => hne e⟩, sw L1 i (a + z), ⟨h13.ow, ?_⟩, .step hw1 (by omega) (by omega) (by omega) (by omega) hb⟩ (by omega)
      refine (ht1.ch.trans hc8 fun c' e => .inr ?_).trans h13.ch fun _ e => .inl e
      omega
    · exact ⟨L1, ht1, hw1⟩
  · exact ⟨L, TurnF.refl hs, .refl⟩
end Go.Proofs.YtaipnnkpplinoaaGreatDoor

namespace Go.Proofs.YtaipnnkpplinoaaGreatDoor
open Go.Vc
theorem ok_slices_order2CmpFunc_impl_Frame {lo : Nat} {e : TypeId} {w : World} {v : Value} {L : List PR} {i j c n : Nat} (hs : RowF lo t_impl_Frame w v L) (hrw : RowsF t_i64 w L) (hi : i < L.length) (hj : j < L.length) (_hte : t_i64 ≠ e) (hb : Blk e w c [.int .i64 (n : Int)]) (hn : n ≤ 1000) :
    Cal Tryz.prog f_slices_order2CmpFunc_impl_Frame #[v, .int .i64 (i : Int), .int .i64 (j : Int), .pointer (some ⟨c, 0, none⟩), cmpF] w fun r w' => ∃ i' j' m : Nat, r = .tuple #[.int .i64 (i' : Int), .int .i64 (j' : Int)] ∧ ((i' = i ∧ j' = j) ∨ (i' = j ∧ j' = i)) ∧ m ≤ n + 1 ∧ Blk e w' c [.int .i64 (m : Int)] ∧ Ch (fun d => d = c) w w' := by
  apply c_slices_order2CmpFunc_impl_Frame; unfold S_slices_order2CmpFunc_impl_Frame
  refine iRdFr (j := j) hs rfl hj ?_
  refine iRdFr (j := i) hs rfl hi ?_
  refine iCmF hrw (by omega) (by omega) fun w1 h1 => ?_
  have hb1 := hb.ext h1
  refine iCnd (fun h => ?_) (fun h => ?_)
  · ((with_reducible refine iNil ?_); refine iLdB (by assumption) (by first | rfl | simp) ?_; refine iAdd (by omega) ?_; (with_reducible refine iNil ?_))
    refine iStW hb1 rfl fun w2 hb2 hc2 => ?_
    exact ⟨j, i, n + 1, rfl, .inr ⟨rfl, rfl⟩, Nat.le_refl _, hb2, (h1.ch.trans hc2 fun _ e => .inl e)⟩
  · exact ⟨i, j, n, rfl, .inl ⟨rfl, rfl⟩, by omega, hb1, h1.ch⟩
theorem ok_slices_medianCmpFunc_impl_Frame {lo : Nat} {e : TypeId} {w : World} {v : Value} {L : List PR} {i j k c n : Nat} (hs : RowF lo t_impl_Frame w v L) (hrw : RowsF t_i64 w L) (hne : v.ownBlock ≠ some c) (hi : i < L.length) (hj : j < L.length) (hk : k < L.length) (hte : t_i64 ≠ e) (hb : Blk e w c [.int .i64 (n : Int)]) (hn : n ≤ 900) :
    Cal Tryz.prog f_slices_medianCmpFunc_impl_Frame #[v, .int .i64 (i : Int), .int .i64 (j : Int), .int .i64 (k : Int), .pointer (some ⟨c, 0, none⟩), cmpF] w fun r w' => ∃ t m : Nat, r = .int .i64 (t : Int) ∧ (t = i ∨ t = j ∨ t = k) ∧ m ≤ n + 3 ∧ Blk e w' c [.int .i64 (m : Int)] ∧ Ch (fun d => d = c) w w' := by
  apply c_slices_medianCmpFunc_impl_Frame; unfold S_slices_medianCmpFunc_impl_Frame
  refine iCall ?_
  refine (ok_slices_order2CmpFunc_impl_Frame hs hrw hi hj hte hb (by omega)).mono fun r w1 h1 => ?_
  obtain ⟨i1, j1, n1, rfl, h1, hn1, hb1, hc1⟩ := h1
  have hs1 := hs.ch hc1 fun d hd e => hne (e ▸ hd)
  have hrw1 := hrw.ch hb hte hc1
  ((with_reducible refine iE20 ?_; refine iE21 ?_))
  refine iCall ?_
  refine (ok_slices_order2CmpFunc_impl_Frame (i := j1) hs1 hrw1 (by rcases h1 with h | h <;> omega) hk hte hb1 (by omega)).mono fun r w2 h2 => ?_
  obtain ⟨j2, k2, n2, rfl, h2, hn2, hb2, hc2⟩ := h2
  have hs2 := hs1.ch hc2 fun d hd e => hne (e ▸ hd)
  have hrw2 := hrw1.ch hb1 hte hc2
  ((with_reducible refine iE20 ?_; refine iE21 ?_))
  refine iCall ?_
  refine (ok_slices_order2CmpFunc_impl_Frame (i := i1) (j := j2) hs2 hrw2 (by rcases h1 with h | h <;> omega) (by rcases h1 with h | h <;> rcases h2 with h' | h' <;> omega) hte hb2 (by omega)).mono fun r w3 h3 => ?_
  obtain ⟨i3, j3, n3, rfl, h3, hn3, hb3, hc3⟩ := h3
  ((with_reducible refine iE20 ?_; refine iE21 ?_))
  exact ⟨j3, n3, rfl, by rcases h1 with h | h <;> rcases h2 with h' | h' <;> rcases h3 with h'' | h'' <;> omega, by omega, hb3, ch_self (ch_self hc1 hc2) hc3⟩
theorem ok_slices_medianAdjacentCmpFunc_impl_Frame {lo : Nat} {e : TypeId} {w : World} {v : Value} {L : List PR} {i c n : Nat} (hs : RowF lo t_impl_Frame w v L) (hrw : RowsF t_i64 w L) (hne : v.ownBlock ≠ some c) (h1 : 1 ≤ i) (hi : i + 1 < L.length) (hL : L.length ≤ 1152921504606846976) (hte : t_i64 ≠ e) (hb : Blk e w c [.int .i64 (n : Int)]) (hn : n ≤ 900) :
    Cal Tryz.prog f_slices_medianAdjacentCmpFunc_impl_Frame #[v, .int .i64 (i : Int), .pointer (some ⟨c, 0, none⟩), cmpF] w fun r w' => ∃ t m : Nat, r = .int .i64 (t : Int) ∧ (t = i - 1 ∨ t = i ∨ t = i + 1) ∧ m ≤ n + 3 ∧ Blk e w' c [.int .i64 (m : Int)] ∧ Ch (fun d => d = c) w w' := by
  apply c_slices_medianAdjacentCmpFunc_impl_Frame; unfold S_slices_medianAdjacentCmpFunc_impl_Frame
  (refine iSub (by omega) ?_; refine iAdd (by omega) ?_)
  rw [show (i : Int) - 1 = ((i - 1 : Nat) : Int) by omega]
  refine iCall ?_
  exact ok_slices_medianCmpFunc_impl_Frame (i := i - 1) (j := i) (k := i + 1) hs hrw hne (by omega) (by omega) hi hte hb hn
theorem ok_slices_choosePivotCmpFunc_impl_Frame {lo : Nat} {w : World} {v : Value} {L : List PR} {a b : Nat} (hs : RowF lo t_impl_Frame w v L) (hrw : RowsF t_i64 w L) (hab : a + 8 ≤ b) (hb : b ≤ L.length) (hL : L.length ≤ 1152921504606846976) :
    Cal Tryz.prog f_slices_choosePivotCmpFunc_impl_Frame #[v, .int .i64 (a : Int), .int .i64 (b : Int), cmpF] w fun r w' => Ext w w' ∧ ∃ t : Nat, ∃ x : Int, r = .tuple #[.int .i64 (t : Int), .int .i64 x] ∧ a ≤ t ∧ t < b := by
  apply c_slices_choosePivotCmpFunc_impl_Frame; unfold S_slices_choosePivotCmpFunc_impl_Frame
  obtain ⟨n, rfl⟩ : ∃ n, b = a + n := ⟨b - a, by omega⟩
  refine iSub (by omega) ?_
  rw [show ((a + n : Nat) : Int) - a = (n : Int) by omega]
  refine iNew fun c w1 hc1 h1 hb1 => ?_
  have hne : v.ownBlock ≠ some c := hs.lt (by omega)
  have hs1 := hs.ext h1
  have hrw1 := hrw.ext h1
  have new : ∀ {w' : World}, Ch (fun d => d = c) w1 w' → Ext w w' := fun {w'} h => h1.thenCh h fun d e => by omega
  refine iQuo (by omega) ?_
  refine iMul (by omega) ?_
  refine iAdd (by omega) ?_
  refine iQuo (by omega) ?_
  refine iMul (by omega) ?_
  refine iAdd (by omega) ?_
  refine iQuo (by omega) ?_
  refine iMul (by omega) ?_
  refine iAdd (by omega) ?_
  refine iLe ?_
  rw [show (a : Int) + (n : Int) / 4 * 1 = ((a + n / 4 * 1 : Nat) : Int) by omega, show (a : Int) + (n : Int) / 4 * 2 = ((a + n / 4 * 2 : Nat) : Int) by omega, show (a : Int) + (n : Int) / 4 * 3 = ((a + n / 4 * 3 : Nat) : Int) by omega]
  refine iJnX (fun xs w' => ∃ t m : Nat, xs = [.int .i64 (t : Int)] ∧ a ≤ t ∧ t < a + n ∧ Blk 3 w' c [.int .i64 (m : Int)] ∧ Ch (fun d => d = c) w1 w') (fun J hJ => ?_) ?_
  · refine iCndP (fun h => ?_) (fun h => ?_)
    · refine iLe ?_
      refine iJnX (fun xs w' => ∃ i j k m : Nat, xs = [.int .i64 (i : Int), .int .i64 (j : Int), .int .i64 (k : Int)] ∧ a ≤ i ∧ i < a + n ∧ a ≤ j ∧ j < a + n ∧ a ≤ k ∧ k < a + n ∧ m ≤ 9 ∧ Blk 3 w' c [.int .i64 (m : Int)] ∧ Ch (fun d => d = c) w1 w') (fun J' hJ' => ?_) ?_
      · refine iCndP (fun h5 => ?_) (fun h5 => ?_)
        · refine iCall ?_
          refine (ok_slices_medianAdjacentCmpFunc_impl_Frame (n := 0) hs1 hrw1 hne (by omega) (by omega) hL (by decide) hb1 (by omega)).mono fun r w2 h2 => ?_
          obtain ⟨i, m1, rfl, hi, hm1, hb2, hc2⟩ := h2
          have hs2 := hs1.ch hc2 fun d hd e => hne (e ▸ hd)
          have hrw2 := hrw1.ch hb1 (by decide) hc2
          refine iCall ?_
          refine (ok_slices_medianAdjacentCmpFunc_impl_Frame hs2 hrw2 hne (by omega) (by omega) hL (by decide) hb2 (by omega)).mono fun r w3 h3 => ?_
          obtain ⟨j, m2, rfl, hj, hm2, hb3, hc3⟩ := h3
          have hs3 := hs2.ch hc3 fun d hd e => hne (e ▸ hd)
          have hrw3 := hrw2.ch hb2 (by decide) hc3
          refine iCall ?_
          refine (ok_slices_medianAdjacentCmpFunc_impl_Frame hs3 hrw3 hne (by omega) (by omega) hL (by decide) hb3 (by omega)).mono fun r w4 h4 => ?_
          obtain ⟨k, m3, rfl, hk, hm3, hb4, hc4⟩ := h4
          exact hJ' _ _ ⟨i, j, k, m3, rfl, by omega, by omega, by omega, by omega, by omega, by omega, by omega, hb4, ch_self (ch_self hc2 hc3) hc4⟩
        · exact hJ' _ _ ⟨_, _, _, 0, rfl, by omega, by omega, by omega, by omega, by omega, by omega, by omega, hb1, (Ext.refl _).ch⟩
      rintro xs w5 ⟨i, j, k, m, rfl, h11, h12, h21, h22, h31, h32, hm, hb5, hc5⟩
      intro _
      simp only [gx]
      have hs5 := hs1.ch hc5 fun d hd e => hne (e ▸ hd)
      have hrw5 := hrw1.ch hb1 (by decide) hc5
      refine iCall ?_
      refine (ok_slices_medianCmpFunc_impl_Frame hs5 hrw5 hne (i := i) (j := j) (k := k) (by omega) (by omega) (by omega) (by decide) hb5 (by omega)).mono fun r w6 h6 => ?_
      obtain ⟨t, m', rfl, ht, hm', hb6, hc6⟩ := h6
      exact hJ _ _ ⟨t, m', rfl, by omega, by omega, hb6, ch_self hc5 hc6⟩
    · omega
  rintro xs w3 ⟨t, m, rfl, ht1, ht2, hb3, hc3⟩
  intro _
  simp only [gx]
  (refine iLdB (by assumption) (by first | rfl | simp) ?_; (with_reducible refine iEq ?_))
  refine iCndP (fun h => ?_) (fun h => ?_)
  · exact ⟨new hc3, t, 1, rfl, ht1, ht2⟩
  · ((with_reducible refine iEq ?_))
    refine iCndP (fun h => ?_) (fun h => ?_)
    · exact ⟨new hc3, t, 2, rfl, ht1, ht2⟩
    · exact ⟨new hc3, t, 0, rfl, ht1, ht2⟩
theorem ok_slices_partitionEqualCmpFunc_impl_Frame {lo : Nat} {w : World} {v : Value} {L : List PR} {a b t : Nat} (hs : RowF lo t_impl_Frame w v L) (hrw : RowsF t_i64 w L) (hat : a ≤ t) (htb : t < b) (hb : b ≤ L.length) (hL : L.length ≤ 1152921504606846976) :
    Cal Tryz.prog f_slices_partitionEqualCmpFunc_impl_Frame #[v, .int .i64 (a : Int), .int .i64 (b : Int), .int .i64 (t : Int), cmpF] w fun r w' => ∃ L' : List PR, ∃ m : Nat, r = .int .i64 (m : Int) ∧ TurnF lo t_impl_Frame v w w' L' ∧ SwR a b L L' ∧ a < m ∧ m ≤ b ∧ (∀ k, a ≤ k → k < m → ltR (gt L t) (gt L' k) = false) := by
  apply c_slices_partitionEqualCmpFunc_impl_Frame; unfold S_slices_partitionEqualCmpFunc_impl_Frame
  refine iRdFr (j := t) hs rfl (by omega) ?_
  refine iRdFr (j := a) hs rfl (by omega) ?_
  refine iWrF (i := a) (j := t) hs rfl rfl (by omega) (by omega) fun w5 h5 => ?_
  have e0 : gt (sw L a t) a = gt L t := by rw [gt_sw (by omega) (by omega)]; split <;> simp_all
  (refine iAdd (by omega) ?_; refine iSub (by omega) ?_)
  refine iLp (fun s : Nat × Int => [.int .i64 (s.1 : Int), .int .i64 s.2]) (fun s w' => a + 1 ≤ s.1 ∧ s.1 ≤ b ∧ (s.1 : Int) - 1 ≤ s.2 + 1 ∧ s.2 < b ∧ ∃ L', TurnF lo t_impl_Frame v w w' L' ∧ SwR a b L L' ∧ gt L' a = gt L t ∧ ∀ k, a ≤ k → k < s.1 → ltR (gt L t) (gt L' k) = false) (fun s => b - s.1) (a + 1, (b : Int) - 1) rfl
    ⟨Nat.le_refl _, by show a + 1 ≤ b; omega, by show ((a + 1 : Nat) : Int) - 1 ≤ (b : Int) - 1 + 1; omega, by show (b : Int) - 1 < b; omega, sw L a t, h5, .one (Nat.le_refl _) (by omega) hat htb hb, e0, fun k h1 h2 => by have h2 : k < a + 1 := h2; rw [show k = a by omega, e0]; exact ordrR.rfl _⟩ ?_
  rintro ⟨i0, j0⟩ w7 Kn ⟨hi0, hib0, hij0, hjb0, L1, ht1, hw1, he1, hq1⟩ hKn
  have hi0 : a + 1 ≤ i0 := hi0
  have hib0 : i0 ≤ b := hib0
  have hij0 : (i0 : Int) - 1 ≤ j0 + 1 := hij0
  have hjb0 : j0 < b := hjb0
  have hq1 : ∀ k, a ≤ k → k < i0 → ltR (gt L t) (gt L1 k) = false := hq1
  have hl1 := hw1.len
  intro _
  simp only [gx]
  refine iLp (fun i : Nat => [.int .i64 (i : Int)]) (fun i w' => i0 ≤ i ∧ i ≤ b ∧ (i : Int) - 1 ≤ j0 + 1 ∧ Ext w7 w' ∧ ∀ k, a ≤ k → k < i → ltR (gt L t) (gt L1 k) = false) (fun i => b - i) i0 rfl ⟨Nat.le_refl _, hib0, hij0, Ext.refl _, hq1⟩ ?_
  rintro i w9 Kn9 ⟨hi, hib, hij, h9, hq⟩ hKn9
  intro _
  simp only [gx]
  have ht9 := ht1.ext h9
  refine iJnB (decide ((i : Int) ≤ j0) && !ltR (gt L1 a) (gt L1 i)) w9 (fun J hJ => ?_) (fun w11 h11 => ?_)
  · refine iLe ?_
    refine iCndP (fun h => ?_) (fun h => ?_)
    · rw [decide_eq_true h, Bool.true_and] at hJ
      refine iRdFr (j := a) ht9.ow rfl (by omega) ?_
      refine iRdFr (j := i) ht9.ow rfl (by omega) ?_
      exact iCmNF (hrw.turn hs (by decide) ht9 hw1.perm) (by omega) (by omega) hJ
    · rw [decide_eq_false h, Bool.false_and] at hJ
      exact fun _ x8 _ x9 => hJ _ (x8.trans x9)
  intro _
  simp only [gx]
  have h9' := h9.trans h11
  cases hc : decide ((i : Int) ≤ j0) && !ltR (gt L1 a) (gt L1 i)
  rotate_left
  · rw [Bool.and_eq_true, decide_eq_true_eq, Bool.not_eq_true'] at hc
    refine iCndT rfl ?_
    (refine iAdd (by omega) ?_)
    refine hKn9 (i + 1) _ ⟨by omega, by omega, by omega, h9', fun k h1 h2 => ?_⟩ (by omega)
    by_cases hk : k = i
    · rw [hk, ← he1]; exact hc.2
    · exact hq k h1 (by omega)
  refine iCndF rfl ?_
  refine iLp (fun j : Int => [.int .i64 j]) (fun j w' => j ≤ j0 ∧ (i : Int) - 1 ≤ j + 1 ∧ Ext w7 w' ∧ (j < j0 → (i : Int) - 1 ≤ j)) (fun j => (j + 2).toNat) j0 rfl ⟨Int.le_refl _, hij, h9', fun h => by omega⟩ ?_
  rintro j w15 Kn15 ⟨hjj, hij2, h15, hij3⟩ hKn15
  intro _
  simp only [gx]
  have ht15 := ht1.ext h15
  refine iJnB (decide ((i : Int) ≤ j) && ltR (gt L1 a) (gt L1 j.toNat)) w15 (fun J hJ => ?_) (fun w17 h17 => ?_)
  · refine iLe ?_
    refine iCndP (fun h => ?_) (fun h => ?_)
    · rw [decide_eq_true h, Bool.true_and] at hJ
      refine iRdFr (j := a) ht15.ow rfl (by omega) ?_
      refine iRdFr (j := j.toNat) ht15.ow (by omega) (by omega) ?_
      exact iCmF (hrw.turn hs (by decide) ht15 hw1.perm) (by omega) (by omega) hJ
    · rw [decide_eq_false h, Bool.false_and] at hJ
      exact fun _ x8 _ x9 => hJ _ (x8.trans x9)
  intro _
  simp only [gx]
  have ht17 := ht15.ext h17
  cases hc2 : decide ((i : Int) ≤ j) && ltR (gt L1 a) (gt L1 j.toNat)
  rotate_left
  · rw [Bool.and_eq_true, decide_eq_true_eq] at hc2
    refine iCndT rfl ?_
    refine iSub (by omega) ?_
    exact hKn15 (j - 1) _ ⟨by omega, by omega, h15.trans h17, fun _ => by omega⟩ (by omega)
  refine iCndF rfl ?_
  refine iLt ?_
  refine iCndP (fun h => ?_) (fun h => ?_)
  · exact ⟨L1, i, rfl, ht17, hw1, by omega, hib, hq⟩
  · have hlt : ltR (gt L1 a) (gt L1 j.toNat) = false := by
      rw [decide_eq_true (show (i : Int) ≤ j by omega), Bool.true_and] at hc2; exact hc2
    refine iRdFr (j := j.toNat) ht17.ow (by omega) (by omega) ?_
    refine iRdFr (j := i) ht17.ow rfl (by omega) ?_
    refine iWrF (i := i) (j := j.toNat) ht17.ow rfl (by omega) (by omega) (by omega) fun w24 h24 => ?_
    refine iAdd (by omega) ?_
    refine iSub (by omega) ?_
    have eS : ∀ k, gt (sw L1 i j.toNat) k = if k = j.toNat then gt L1 i else if k = i then gt L1 j.toNat else gt L1 k := gt_sw (by omega) (by omega)
    refine hKn (i + 1, j - 1) _ ⟨by show a + 1 ≤ i + 1; omega, by show i + 1 ≤ b; omega, by show ((i + 1 : Nat) : Int) - 1 ≤ j - 1 + 1; omega, by show j - 1 < b; omega, sw L1 i j.toNat, ht17.trans h24, .step hw1 (by omega) (by omega) (by omega) (by omega) hb, by rw [eS, if_neg (by omega), if_neg (by omega)]; exact he1, fun k h1 h2 => ?_⟩ (by show b - (i + 1) < b - i0; omega)
    have h2 : k < i + 1 := h2
    rw [eS]
    by_cases hk : k = i
    · subst hk
      split
      · rename_i hkj; rw [← hkj, he1] at hlt; exact hlt
      · rw [if_pos rfl, ← he1]; exact hlt
    · rw [if_neg (by omega), if_neg hk]; exact hq k h1 (by omega)
end Go.Proofs.YtaipnnkpplinoaaGreatDoor
